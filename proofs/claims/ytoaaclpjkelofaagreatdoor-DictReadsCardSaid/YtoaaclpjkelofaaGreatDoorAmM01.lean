/- Binary tries over Nat keys, made for evaluation by the kernel: get, set, and their laws; conditions: none. -/
import GoSem.Dispatch
import GoSem.ClaimKeys
import Derived.DeepKeys2
import Derived.CallsIn
import Derived.Laws.Sem
import Derived.MapKept
import Derived.Laws.Entries
import Derived.Laws.Slices
import Derived.Laws.Strings
import Derived.Lib.Hide
import Derived.Laws.CopyRow
import Derived.Laws.Cells
import Derived.RangeFuncRecord
import Derived.Below
namespace Go.Proofs.YtoaaclpjkelofaaGreatDoor.Am
noncomputable section
abbrev A8G := @Option.bind_eq_some_iff
abbrev A8H := @Nat.le_refl
abbrev A8I := @List.mem_cons
abbrev A8J := @List.mem_cons_of_mem
abbrev A8K := @List.not_mem_nil
abbrev A8L := @Nat.lt_of_lt_of_le
abbrev A8M := @List.mem_cons_self
abbrev A8N := @Nat.lt_or_ge
abbrev A8O := @List.getElem?_eq_getElem
abbrev A8P := @List.length_cons
abbrev A8Q := @Nat.ble_eq
abbrev A8R := @Nat.eq_of_beq_eq_true
abbrev A8S := @Nat.mul_one
abbrev A8T := @Nat.zero_le
abbrev A8U := @List.map_cons
abbrev A8V := @Nat.zero_add
abbrev A8W := @List.getElem?_eq_none
abbrev A8X := @List.length_append
abbrev A8Y := @Nat.blt_eq
abbrev A8Z := @Nat.le_trans
abbrev A8a := @List.mem_of_getElem?
abbrev A8b := @List.length_nil
abbrev A8c := @List.length_map
abbrev A8d := @List.getElem?_append_left
abbrev A8e := @List.cons_append
abbrev A8f := @Nat.add_zero
abbrev A8g := @List.getElem?_append_right
abbrev A8h := @List.prefix_refl
abbrev A8i := @List.nil_append
abbrev A8j := @List.getElem?_map
abbrev A8k := @Nat.lt_succ_self
abbrev A8l := @Int.lt_irrefl
abbrev A8m := @List.take_of_length_le
abbrev A8n := @List.append_assoc
abbrev A8o := @Nat.add_mul
abbrev A8p := @List.drop_zero
abbrev A8q := @List.mem_append
abbrev A8r := @List.map_append
abbrev A8s := @Nat.le_succ
abbrev A8t := @Nat.mul_le_mul_right
abbrev A8u := @Nat.add_assoc
abbrev A8v := @Option.map_some
abbrev A8w := @List.all_eq_true
abbrev A8x := @List.nodup_cons
abbrev A8y := @List.getElem?_drop
abbrev A8z := @Nat.le_of_ble_eq_true
abbrev A9A := @List.nodup_nil
abbrev A9B := @List.forall_mem_cons
abbrev A9C := @List.foldl_cons
abbrev A9D := @Nat.eq_zero_or_pos
abbrev A9E := @List.mem_singleton
abbrev A9F := @Nat.lt_succ_of_lt
abbrev A9G := @Nat.lt_trichotomy
abbrev A9H := @Nat.zero_mul
abbrev A9I := @List.pairwise_cons
abbrev A9J := @List.idxOf_append
abbrev A9K := @List.getD_eq_getElem?_getD
abbrev A9L := @List.sum_cons
abbrev A9M := @List.length_set
abbrev A9N := @Nat.le_max_left
abbrev A9O := @List.eq_nil_of_length_eq_zero
abbrev A9P := @List.getElem?_take_of_lt
abbrev A9Q := @List.idxOf_lt_length_of_mem
abbrev A9R := @Nat.testBit_two_pow
abbrev A9S := @true_and
abbrev A9T := @and_true
abbrev A9U := @and_self
abbrev A9V := @or_false
abbrev A9W := @Bool.and_eq_true
abbrev A9X := @Bool.or_eq_true
abbrev A9Y := @Bool.not_eq_true'
abbrev A9Z := @decide_true
abbrev A9a := @decide_false
abbrev A9b := @Option.some.injEq
abbrev A9c := @Array.getElem?_setIfInBounds_ne
abbrev A9d := @Array.getD_eq_getD_getElem?
abbrev A9e := @Bool.eq_iff_iff
inductive CT (α:Type) where
 | leaf
 | node (v:Option α) (l r:CT α)
namespace CT
variable{α:Type}
def get (t:CT α):Nat→Option α:=
 CT.rec (fun _=>none) (fun v _ _ il ir k=>Nat.rec v (fun k _=>Bool.rec (ir (Nat.div k 2)) (il (Nat.div k 2)) (Nat.beq (Nat.mod k 2) 0)) k) t
theorem NL(v:Option α)(l r:CT α)(k:Nat):(node v l r).get (k+1)=bif Nat.beq (k % 2) 0 then l.get (k / 2)else r.get (k / 2):=by
 show @Bool.rec (fun _=>Option α) (r.get (k / 2)) (l.get (k / 2)) (Nat.beq (k % 2) 0)=_
 cases Nat.beq (k % 2) 0<;>rfl
def val:CT α→Option α
 | .leaf=>none
 | .node v _ _=>v
def left:CT α→CT α
 | .leaf=>.leaf
 | .node _ l _=>l
def right:CT α→CT α
 | .leaf=>.leaf
 | .node _ _ r=>r
def pH(v:Option α)(l r:CT α):CT α:=
 match l with
 | .leaf=>.node v .leaf r
 | .node x a b=>.node v (.node x a b) r
def pI(v:Option α)(l r:CT α):CT α:=
 match r with
 | .leaf=>.node v l .leaf
 | .node x a b=>.node v l (.node x a b)
def J4 {β:Type} (t:CT α) (k:CT α→β):β:=CT.rec (k .leaf) (fun v l r _ _=>k (.node v l r)) t
theorem LX{β:Type}(t:CT α)(k:CT α→β):J4 t k=k t:=by cases t<;>rfl
def setF (w:Option α) (f:Nat):CT α→Nat→CT α:=
 Nat.rec (fun t _=>t) (fun _ ih t k=>CT.rec (Nat.rec (.node w .leaf .leaf) (fun k _=>Bool.rec (J4 (ih .leaf (Nat.div k 2)) fun r=>.node none .leaf r) (J4 (ih .leaf (Nat.div k 2)) fun l=>.node none l .leaf) (Nat.beq (Nat.mod k 2) 0)) k)
  (fun v l r _ _=>Nat.rec (.node w l r) (fun k _=>Bool.rec (J4 (ih r (Nat.div k 2)) fun r=>.node v l r) (J4 (ih l (Nat.div k 2)) fun l=>.node v l r) (Nat.beq (Nat.mod k 2) 0)) k) t) f
theorem setF_at(w:Option α)(f:Nat)(t:CT α):setF w (f+1) t 0=.node w t.left t.right:=by cases t<;>rfl
theorem setF_step(w:Option α)(f:Nat)(t:CT α)(k:Nat):setF w (f+1) t (k+1)=bif Nat.beq (k % 2) 0 then pH t.val (setF w f t.left (k / 2)) t.right else pI t.val t.left (setF w f t.right (k / 2)):=by
 have hL:∀ (v:Option α) (l r:CT α),pH v l r=.node v l r:=fun v l r=>by cases l<;>rfl
 have hR:∀ (v:Option α) (l r:CT α),pI v l r=.node v l r:=fun v l r=>by cases r<;>rfl
 rw[hL,hR]
 cases t with
 | leaf =>
  show @Bool.rec (fun _=>CT α) (J4 (setF w f .leaf (k / 2)) fun r=>.node none .leaf r) (J4 (setF w f .leaf (k / 2)) fun l=>.node none l .leaf) (Nat.beq (k % 2) 0)=_
  rw[LX,LX]
  cases Nat.beq (k % 2) 0<;>rfl
 | node v l r =>
  show @Bool.rec (fun _=>CT α) (J4 (setF w f r (k / 2)) fun r=>.node v l r) (J4 (setF w f l (k / 2)) fun l=>.node v l r) (Nat.beq (k % 2) 0)=_
  rw[LX,LX]
  cases Nat.beq (k % 2) 0<;>rfl
def put(t:CT α)(k:Nat)(v:Option α):CT α:=setF v (k+1) t k
def set(t:CT α)(k:Nat)(v:α):CT α:=t.put k (some v)
def del(t:CT α)(k:Nat):CT α:=t.put k none
theorem beq_no{a b:Nat}(h:¬ a=b):Nat.beq a b=false:=by
 grind [Nat.eq_of_beq_eq_true]
theorem nodeL_eq(v:Option α)(l r:CT α):pH v l r=.node v l r:=by cases l<;>rfl
theorem nodeR_eq(v:Option α)(l r:CT α):pI v l r=.node v l r:=by cases r<;>rfl
theorem get_leaf(k:Nat):(leaf:CT α).get k=none:=rfl
theorem RQ(t:CT α):t.get 0=t.val:=by cases t<;>rfl
theorem get_succ(t:CT α)(k:Nat):t.get (k+1)=if k % 2=0 then t.left.get (k / 2)else t.right.get (k / 2):=by
 cases t with
 | leaf=>grind [get,left,right]
 | node v l r =>
  by_cases h:k % 2=0
  ·rw[NL,h];rfl
  grind [beq_no,NL,right]
def mapO{β:Type}(f:α→Option β):CT α→CT β
 | .leaf=>.leaf
 | .node v l r=>.node (v.bind f) (mapO f l) (mapO f r)
theorem get_mapO{β:Type}(f:α→Option β):∀ (t:CT α)(k:Nat),(t.mapO f).get k=(t.get k).bind f
 | .leaf,_=>rfl
 | .node v l r,0=>rfl
 | .node v l r,k+1=>by
  show(node _ _ _).get (k+1)=_
  rw[NL,NL]
  cases Nat.beq (k % 2) 0 with
  | true=>exact get_mapO f l (k / 2)
  | false=>exact get_mapO f r (k / 2)
theorem nZ(v:Option α):∀ (f:Nat)(t:CT α)(k j:Nat),k<f→(setF v f t k).get j=if j=k then v else t.get j:=by
  intro f
  induction f with
  | zero=>intro t k j h;omega
  | succ f ih =>
    intro t k j h
    cases k with
    | zero =>
      cases j with
      | zero=>grind [setF_at,RQ,val]
      | succ j=>grind [setF_at,get_succ,left,right]
    | succ k =>
      by_cases hk:k % 2=0
      · have hb:Nat.beq (k % 2) 0=true:=by rw[hk];rfl
        simp only[setF_step,hb,cond_true,nodeL_eq]
        cases j with
        | zero=>simp[RQ,val]
        | succ j =>
          by_cases hj:j % 2=0
          · rw[get_succ,get_succ,if_pos hj,if_pos hj]
            simp only[left]
            grind
          · rw[get_succ,get_succ,if_neg hj,if_neg hj,if_neg (by omega)]
            simp only[right]
      · have hb:Nat.beq (k % 2) 0=false:=beq_no hk
        simp only[setF_step,hb,cond_false,nodeR_eq]
        cases j with
        | zero=>simp[RQ,val]
        | succ j =>
          by_cases hj:j % 2=0
          · rw[get_succ,get_succ,if_pos hj,if_pos hj,if_neg (by omega)]
            simp only[left]
          · rw[get_succ,get_succ,if_neg hj,if_neg hj]
            simp only[right]
            grind
theorem dP(t:CT α)(k j:Nat)(v:Option α):(t.put k v).get j=if j=k then v else t.get j:=nZ v _ t k j (by omega)
theorem get_set(t:CT α)(k j:Nat)(v:α):(t.set k v).get j=if j=k then some v else t.get j:=dP t k j _
theorem get_del(t:CT α)(k j:Nat):(t.del k).get j=if j=k then none else t.get j:=dP t k j _
def fill (t:CT α) (k:Nat) (l:List α):CT α:=List.rec (fun t _=>t) (fun v _ ih t k=>ih (t.set k v) (Nat.succ k)) l t k
theorem fill_nil(t:CT α)(k:Nat):t.fill k []=t:=rfl
theorem fill_cons(t:CT α)(k:Nat)(v:α)(l:List α):t.fill k (v::l)=(t.set k v).fill (k+1) l:=rfl
theorem get_fill(l:List α):∀ (t:CT α)(k j:Nat),(t.fill k l).get j=if k≤j∧j<k+l.length then l[j - k]? else t.get j:=by
 induction l with
 | nil=>grind [fill_nil]
 | cons v l ih =>
  intro t k j
  simp only[fill_cons,ih,get_set,A8P]
  grind
def take (t:CT α) (k n:Nat):Option (List α):=
 Nat.rec (fun _=>some []) (fun _ ih k=>Option.rec none (fun v=>Option.rec none (fun l=>some (v::l)) (ih (Nat.succ k))) (t.get k)) n k
theorem take_zero(t:CT α)(k:Nat):t.take k 0=some []:=rfl
theorem take_succ(t:CT α)(k n:Nat):t.take k (n+1)=match t.get k with
  | none=>none
  | some v=>match t.take (k+1) n with
   | none=>none
   | some l=>some (v::l):=by
 show @Option.rec α (fun _=>Option (List α)) none (fun v=>@Option.rec (List α) (fun _=>Option (List α)) none (fun l=>some (v::l)) (t.take (k+1) n)) (t.get k)=_
 cases t.get k with
 | none=>rfl
 | some v=>cases t.take (k+1) n<;>rfl
theorem take_length{t:CT α}{k n:Nat}{l:List α}(h:t.take k n=some l):l.length=n:=by
 induction n generalizing k l with
 | zero=>grind [take_zero]
 | succ n ih =>
  grind [take_succ]
theorem take_get{t:CT α}{k n:Nat}{l:List α}(h:t.take k n=some l)(j:Nat)(hj:j<n):t.get (k+j)=l[j]? := by
  induction n generalizing k l j with
  | zero=>omega
  | succ n ih =>
    simp only[take_succ]at h
    split at h
    · cases h
    · rename_i v hv
      split at h
      · cases h
      · rename_i l' h2
        injection h with h
        subst h
        cases j with
        | zero=>simpa using hv
        | succ j=>grind
end CT
end
end Go.Proofs.YtoaaclpjkelofaaGreatDoor.Am
namespace Go.Proofs.YtoaaclpjkelofaaGreatDoor.Am
open Go
noncomputable section
inductive AV where
 | bool (b:Bool)
 | int (k:IntKind) (n:Int)
 | str (s:List Nat)
 | ptr (a:Option (Nat×Nat))
 | gptr (g o:Nat)
 | slice (a:Option (Nat×Nat)) (len:Nat) (cap:Option Nat)
 | map (r:Option Nat)
 | func (f:FuncId) (first cap:List AV)
 | yield (l:Nat)
 | nilFunc
 | iface (t:TypeId) (v:AV)
 | nilIface
 | agg (cs:List AV)
 | tuple (vs:List AV)
 | junk
def Cx:AV:=.tuple []
def AV.cells:AV→List AV
 | .agg cs=>cs
 | v=>[v]
def AV.isCell:AV→Bool
 | .agg _ | .tuple _ | .junk=>false
 | _=>true
def C3:List AV→Bool
 | []=>true
 | v::l=>v.isCell && C3 l
inductive WT where
 | ro | own | sealed
structure FP where
 elem:TypeId
 sz:Nat
 n:Nat
 c:CT AV
 spare:Bool
 mode:WT
 par:Option Nat
 bytes:Bool
 glob:Option Nat:=none
inductive CX where
 | loc (i:Nat)
 | var (j:Nat)
 | const (v:AV)
inductive Made where
 | ptr | slice (n:Nat) | map
structure Fv where
 state:LoopState
 pending:Option Code
 fn:FuncId
 var:List AV
 params:Array Tmp
 assign:Code
 body:Code
 dfr:Nat
inductive Cg where
 | row (r:FP)
 | map (kt:TypeId) (es:List (AV×AV))
 | mapRo (kt:TypeId) (es:List (AV×AV))
 | loop (l:Fv)
 | mark
 | iter (s:List Nat) (pos:Nat)
structure CO where
 next:Nat
 heap:CT Cg
def Nd:Value→Option AV
 | .bool b=>some (.bool b)
 | .int k n=>some (.int k n)
 | .string s=>some (.str (s.data.toList.map (fun(b:UInt8)=>b.toNat)))
 | .pointer none=>some (.ptr none)
 | .slice none 0 0=>some (.slice none 0 (some 0))
 | .map none=>some (.map none)
 | .nilFunc=>some .nilFunc
 | .nilIface=>some .nilIface
 | _=>none
def IK:List Value→Option (List AV)
 | []=>some []
 | v::l=>(Nd v).bind fun a=>(IK l).bind fun r=>some (a::r)
def ofValue:Value→Option AV
 | .agg cs=>(IK cs.toList).bind fun l=>some (.agg l)
 | .tuple vs=>(IK vs.toList).bind fun l=>some (.tuple l)
 | v=>Nd v
def CU{α:Type}(b:Bool)(x:Option α):Option α:=bif b then x else none
def Iu{α:Type}(P:Program):Sem α→Option α
 | .pure a=>some a
 | .program k=>Iu P (k P)
 | .mark _ k=>Iu P k
 | _=>none
def D7(k:IntKind):Int→Bool
 | .ofNat m=>match k with
  | .i64=>Nat.ble m 9223372036854775807
  | .u64=>Nat.ble m 18446744073709551615
  | .i32=>Nat.ble m 2147483647
  | .u32=>Nat.ble m 4294967295
  | .u8=>Nat.ble m 255
  | .i8=>Nat.ble m 127
  | .u16=>Nat.ble m 65535
  | .i16=>Nat.ble m 32767
 | .negSucc m=>match k with
  | .i64=>Nat.ble m 9223372036854775807
  | .i32=>Nat.ble m 2147483647
  | .i8=>Nat.ble m 127
  | .i16=>Nat.ble m 32767
  | _=>false
def Kf(k:IntKind)(n:Int):Int:=bif D7 k n then n else k.wrap n
def WQ:Int→Int→Bool
 | .ofNat a,.ofNat b=>Nat.blt a b
 | .ofNat _,.negSucc _=>false
 | .negSucc _,.ofNat _=>true
 | .negSucc a,.negSucc b=>Nat.blt b a
def Zn:Int→Int→Bool
 | .ofNat a,.ofNat b=>Nat.beq a b
 | .negSucc a,.negSucc b=>Nat.beq a b
 | _,_=>false
def dY:Int→Option Nat
 | .ofNat m=>some m
 | .negSucc _=>none
def Fb:List Nat→List Nat→Bool
 | [],[]=>true
 | a::x,b::y=>bif Nat.beq a b then Fb x y else false
 | _,_=>false
def G0:List Nat→List Nat→Bool
 | _,[]=>false
 | [],_::_=>true
 | a::x,b::y=>bif Nat.blt a b then true else bif Nat.beq a b then G0 x y else false
def dr(op:BinOp)(x y:List Nat):Option AV:=
 match op with
 | .add=>CU (Nat.ble (x.length+y.length) 1152921504606846976) (some (.str (x++y)))
 | .eql=>some (.bool (Fb x y))
 | .neq=>some (.bool (!Fb x y))
 | .lss=>some (.bool (G0 x y))
 | .leq=>some (.bool (G0 x y || Fb x y))
 | .gtr=>some (.bool (!(G0 x y || Fb x y)))
 | .geq=>some (.bool (!G0 x y))
 | _=>none
def GG(P:Program)(t:TypeId):Option Bool:=
 match P.underlying t with
 | some (.struct _) | some (.array _ _)=>some true
 | some _=>some false
 | none=>none
def DZ(P:Program)(t:TypeId):Option Nat:=match P.info? t with
 | some i=>some i.size
 | none=>none
def FV(P:Program)(t:TypeId):Option AV:=match P.info? t with
 | some i=>match i.zero with
  | some v=>ofValue v
  | none=>none
 | none=>none
def Fe(P:Program)(t:TypeId):Option Nat:=match P.info? t with
 | some i=>some i.bytes
 | none=>none
def rowAt(s:CO)(i:Nat):Option FP:=match s.heap.get i with
 | some (.row r)=>some r
 | _=>none
def newObj(s:CO)(o:Cg):CO:={ next:=s.next+1,heap:=s.heap.set s.next o }
def PR(elem:TypeId)(sz:Nat)(cells:List AV):Cg:=
 .row { elem,sz,n:=cells.length,c:=CT.fill .leaf 0 cells,spare:=false,mode:=.own,par:=none,bytes:=true }
def setObj(s:CO)(i:Nat)(o:Cg):CO:={ s with heap:=s.heap.set i o }
def Eo(s:CO)(i:Nat):CO:={ s with heap:=s.heap.del i }
def Di(s:CO)(i off n:Nat):Option (List AV):=
 (rowAt s i).bind fun r=>CU (Nat.ble (off+n) r.n) (r.c.take off n)
def FQ(s:CO)(i off:Nat):Option AV:=
 (rowAt s i).bind fun r=>CU (Nat.blt off r.n) (r.c.get off)
def Dm(s:CO)(i:Nat)(r:FP):CO:=match r.par with
 | none=>s
 | some p=>bif Nat.beq p i then s else Eo s p
def FL:WT→Bool
 | .own=>true
 | _=>false
def EC(s:CO)(i off:Nat)(vs:List AV):Option CO:=
 match vs with
 | []=>some s
 | _::_=>(rowAt s i).bind fun r =>
  CU (FL r.mode && Nat.ble (off+vs.length) r.n && C3 vs)
   (some (setObj (Dm s i r) i (.row { r with c:=r.c.fill off vs,par:=none })))
def VV(s:CO)(g:Nat):Option FP:=(rowAt s g).bind fun r=>match r.glob with
 | some g'=>CU (Nat.beq g' g) (some r)
 | none=>none
def CJ(P:Program)(s:CO)(t:TypeId):AV→Option AV
 | .gptr i o=>(VV s i).bind fun _=>(GG P t).bind fun g=>match g with
  | true=>(DZ P t).bind fun n=>(Di s i o n).bind fun l=>some (.agg l)
  | false=>FQ s i o
 | .ptr (some (i,o))=>(GG P t).bind fun g=>match g with
  | true=>(DZ P t).bind fun n=>(Di s i o n).bind fun l=>some (.agg l)
  | false=>FQ s i o
 | _=>none
def Cz(P:Program)(s:CO)(t:TypeId)(a v:AV):Option CO:=
 match a with
 | .ptr (some (i,o))=>(DZ P t).bind fun n=>CU (Nat.beq v.cells.length n) (EC s i o v.cells)
 | _=>none
def OZ(P:Program)(t:TypeId):Bool:=match P.underlying t with
 | some (.pointer _)=>true
 | _=>false
def NO(P:Program)(t:TypeId):Bool:=match P.underlying t with
 | some (.slice _)=>true
 | _=>false
def OY(P:Program)(t:TypeId):Bool:=match P.underlying t with
 | some (.map ..)=>true
 | _=>false
def NN(P:Program)(t:TypeId):Bool:=match P.underlying t with
 | some (.func ..)=>true
 | _=>false
def VY(P:Program)(t:TypeId):Bool:=match P.underlying t with
 | some .bool=>true
 | _=>false
def sU(P:Program)(t:TypeId):AV→AV→Option Bool
 | .bool a,.bool b=>CU (VY P t) (some (a == b))
 | .ptr none,.ptr b=>CU (OZ P t) (some b.isNone)
 | .ptr a,.ptr none=>CU (OZ P t) (some a.isNone)
 | .slice none _ _,.slice b _ _=>CU (NO P t) (some b.isNone)
 | .slice a _ _,.slice none _ _=>CU (NO P t) (some a.isNone)
 | .map none,.map b=>CU (OY P t) (some b.isNone)
 | .map a,.map none=>CU (OY P t) (some a.isNone)
 | .nilFunc,.nilFunc=>CU (NN P t) (some true)
 | .func ..,.nilFunc=>CU (NN P t) (some false)
 | .nilFunc,.func ..=>CU (NN P t) (some false)
 | _,_=>none
def FS:IntKind→IntKind→Bool
 | .i8,.i8 | .i16,.i16 | .i32,.i32 | .i64,.i64 | .u8,.u8 | .u16,.u16 | .u32,.u32 | .u64,.u64=>true
 | _,_=>false
def nr(P:Program)(op:BinOp)(k:IntKind)(a b:Int):Option AV:=
 match op with
 | .add=>some (.int k (Kf k (a+b)))
 | .sub=>some (.int k (Kf k (a - b)))
 | .mul=>some (.int k (Kf k (a * b)))
 | .eql=>some (.bool (Zn a b))
 | .neq=>some (.bool (!Zn a b))
 | .lss=>some (.bool (WQ a b))
 | .leq=>some (.bool (!WQ b a))
 | .gtr=>some (.bool (WQ b a))
 | .geq=>some (.bool (!WQ a b))
 | .quo | .rem=>(Iu P (Op.intDiv op k a b)).bind ofValue
 | .shl | .shr=>none
 | _=>(Iu P (Op.intBits op k a b)).bind ofValue
def Ch(P:Program)(op:BinOp)(t:TypeId)(x y:AV):Option AV:=
 match x,y with
 | .int k a,.int k' b=>match op with
  | .shl | .shr=>(Iu P (Op.shift op k a k' b)).bind ofValue
  | _=>CU (FS k k') (nr P op k a b)
 | .str a,.str b=>dr op a b
 | x,y=>match op with
  | .eql=>(sU P t x y).bind fun b=>some (.bool b)
  | .neq=>(sU P t x y).bind fun b=>some (.bool (!b))
  | _=>none
def Z1(P:Program)(t:TypeId):Bool:=match P.underlying t with
 | some (.pointer e)=>(match P.info? e with | some j=>!Nat.beq j.size 0 | none=>false)
 | _=>false
def KJ(s:CO)(i:Nat):Bool:=match rowAt s i with
 | some r=>FL r.mode && r.par.isNone
 | none=>false
def KL(P:Program)(s:CO)(neg:Bool)(t:TypeId)(x y:AV):Option AV:=
 match x,y with
 | .ptr (some (i,o)),.ptr (some (j,q))=>CU (Z1 P t && KJ s i && KJ s j) (some (.bool ((Nat.beq i j && Nat.beq o q) != neg)))
 | x,y=>Ch P (bif neg then .neq else .eql) t x y
def Yu(P:Program)(op:UnOp):AV→Option AV
 | .int k n=>match op with
  | .neg=>some (.int k (Kf k (0 - n)))
  | .xor=>(Iu P (Op.unary .xor (.int k n))).bind ofValue
  | _=>none
 | .bool b=>match op with
  | .not=>some (.bool (!b))
  | _=>none
 | _=>none
def RI(place:Nat→Option (Nat×Nat))(cells:List AV):List (Nat×AV)→Option (List AV)
 | []=>some cells
 | (i,v)::rest=>(place i).bind fun p =>
  CU (Nat.beq v.cells.length p.2 && Nat.ble (p.1+v.cells.length) cells.length)
   (RI place (cells.take p.1++(v.cells++cells.drop (p.1+v.cells.length))) rest)
def IX(P:Program):List Field→Option (List (Nat×Nat))
 | []=>some []
 | f::l=>(DZ P f.type).bind fun n=>(IX P l).bind fun r=>some ((f.offset,n)::r)
def C8(P:Program)(t:TypeId)(parts:List (Nat×AV)):Option AV:=
 (FV P t).bind fun z=>match P.underlying t with
  | some (.struct fields)=>(IX P fields.toList).bind fun places =>
   (RI (fun i=>places[i]?) z.cells parts).bind fun l=>some (.agg l)
  | some (.array _ e)=>(DZ P e).bind fun n =>
   (RI (fun i=>some (i * n,n)) z.cells parts).bind fun l=>some (.agg l)
  | _=>none
def iN(l:List AV):Nat→List AV
 | 0=>[]
 | n+1=>l++iN l n
def Cd(P:Program)(t:TypeId)(len:Nat)(parts:List (Nat×AV)):Option Cg:=
 match P.underlying t with
 | some (.slice e)=>(DZ P e).bind fun n=>CU (Nat.ble (len * n) 16777216) <|
  (FV P e).bind fun z=>CU (Nat.beq z.cells.length n) <|
   (RI (fun i=>some (i * n,n)) (iN z.cells len) parts).bind fun l=>some (PR e n l)
 | _=>none
def EP(P:Program)(s:CO)(src dst:TypeId)(x:AV):Option AV:=
 match P.underlying src,P.underlying dst,x with
 | some _,some (.int k),.int _ n=>some (.int k (Kf k n))
 | some _,some .string,.str l=>some (.str l)
 | some (.slice e),some .string,.slice a len _=>match P.underlying e with
  | some (.int .u8)=>match a with
   | none=>some (.str [])
   | some (i,o)=>(Di s i o len).bind fun l=>(bytesOf l).bind fun b=>some (.str b)
  | _=>none
 | some (.pointer u),some .unsafePointer,x=>seenPtr u x
 | some .unsafePointer,some (.pointer u),x=>seenPtr u x
 | _,_,_=>none
where
 seenPtr (u:TypeId):AV→Option AV
  | .ptr none=>some (.ptr none)
  | .ptr (some (i,o))=>(rowAt s i).bind fun r=>(DZ P u).bind fun n =>
   CU (FL r.mode && r.bytes && Nat.beq o 0 && Nat.beq r.elem u && Nat.ble n r.n && !Nat.beq n 0) (some (.ptr (some (i,o))))
  | _=>none
 bytesOf:List AV→Option (List Nat)
  | []=>some []
  | .int .u8 (.ofNat n)::l=>CU (Nat.blt n 256) ((bytesOf l).bind fun r=>some (n::r))
  | _::_=>none
def idxOf:AV→Option Nat
 | .int _ n=>dY n
 | _=>none
def Fd(x:AV)(y:Nat):Option Nat:=(idxOf x).bind fun i=>CU (Nat.ble i y) (some i)
def Fh(P:Program)(s:CO)(t:TypeId)(x:AV)(lo hi mx:Option AV):Option AV:=
 match x with
 | .str l=>(match mx with | some _=>none | none=>some ()).bind fun _ =>
  (match hi with | some h=>Fd h l.length | none=>some l.length).bind fun h =>
  (match lo with | some v=>Fd v h | none=>some 0).bind fun o =>
  (match P.underlying t with | some .string=>some () | _=>none).bind fun _=>some (.str ((l.drop o).take (h - o)))
 | .slice a len cap=>match P.underlying t with
  | some (.slice e)=>(DZ P e).bind fun n =>
   (match cap with
    | some c=>some c
    | none=>match a with
     | none=>none
     | some (i,o)=>(rowAt s i).bind fun r=>CU (Nat.ble o r.n && Nat.beq n r.sz && !Nat.beq n 0) (some ((r.n - o) / n))).bind fun far =>
   (match mx with | some m=>(Fd m far).bind fun c=>CU (cap.isSome || Nat.blt 0 far) (some (some c)) | none=>some cap).bind fun m =>
   (match hi,m with
    | some h,some c=>Fd h c
    | some h,none=>Fd h far
    | none,some c=>(match mx with | none=>some len | some _=>(fun(_:Nat)=>none) c)
    | none,none=>some len).bind fun h =>
   (match lo with | some v=>Fd v h | none=>some 0).bind fun l =>
   some (.slice
    (match a with
     | none=>none
     | some (i,o)=>match m with
      | some c=>bif Nat.beq c l then some (i,o)else some (i,o+l * n)
      | none=>some (i,o+l * n))
    (h - l) (match m with | some c=>some (c - l) | none=>none))
  | _=>none
 | .ptr (some (i,o))=>match P.underlying t with
  | some (.array len e)=>arr len e i o
  | some (.pointer u)=>match P.underlying u with
   | some (.array len e)=>arr len e i o
   | _=>none
  | _=>none
 | _=>none
where
 arr (len:Nat) (e:TypeId) (i o:Nat):Option AV:=(DZ P e).bind fun n =>
  (match mx with | some m=>Fd m len | none=>some len).bind fun m =>
  (match hi with | some h=>Fd h m | none=>match mx with | none=>some len | some _=>none).bind fun h =>
  (match lo with | some v=>Fd v h | none=>some 0).bind fun l =>
  some (.slice (some (i,bif Nat.beq m l then o else o+l * n)) (h - l) (some (m - l)))
def CL(P:Program)(t:TypeId)(x:AV)(f:Nat):Option AV:=
 match x with
 | .ptr (some (i,o))=>match P.underlying t with
  | some (.struct fs)=>(fs[f]?).bind fun fd=>(DZ P fd.type).bind fun n =>
   CU (!Nat.beq n 0) (some (.ptr (some (i,o+fd.offset))))
  | _=>none
 | _=>none
def da(P:Program)(t:TypeId)(cs:List AV)(off:Nat):Option AV:=
 (GG P t).bind fun g=>match g with
  | true=>(DZ P t).bind fun n=>some (.agg ((cs.drop off).take n))
  | false=>cs[off]?
def GT(P:Program)(t:TypeId)(x:AV)(f:Nat):Option AV:=
 match x with
 | .agg cs=>match P.underlying t with
  | some (.struct fs)=>(fs[f]?).bind fun fd=>da P fd.type cs fd.offset
  | _=>none
 | _=>none
def CQ(P:Program)(t:TypeId)(x ix:AV):Option AV:=
 (idxOf ix).bind fun k=>match x with
  | .ptr (some (i,o))=>match P.underlying t with
   | some (.array len e)=>(DZ P e).bind fun n=>CU (Nat.blt k len) (some (.ptr (some (i,o+k * n))))
   | _=>none
  | .gptr g o=>match P.underlying t with
   | some (.array len e)=>(DZ P e).bind fun n=>CU (Nat.blt k len) (some (.gptr g (o+k * n)))
   | _=>none
  | .slice (some (i,o)) len _=>match P.underlying t with
   | some (.slice e)=>(DZ P e).bind fun n=>CU (Nat.blt k len) (some (.ptr (some (i,o+k * n))))
   | _=>none
  | _=>none
def Zv(P:Program)(t:TypeId)(x ix:AV):Option AV:=
 (idxOf ix).bind fun k=>match x with
  | .agg cs=>match P.underlying t with
   | some (.array len e)=>(DZ P e).bind fun n=>CU (Nat.blt k len) (da P e cs (k * n))
   | _=>none
  | .str l=>match P.underlying t with
   | some .string=>(l[k]?).bind fun b=>some (.int .u8 (.ofNat b))
   | _=>none
  | _=>none
def CV:AV→Option AV
 | .ptr none | .nilIface | .nilFunc | .junk=>none
 | v=>some v
def Ry(x:AV)(i:Nat):Option AV:=
 match x with
 | .tuple vs=>vs[i]?
 | _=>none
def Rx(c a b:AV):Option AV:=
 match c with
 | .bool true=>some a
 | .bool false=>some b
 | _=>none
def LF(mx:Bool):AV→List AV→Option AV
 | v,[]=>some v
 | .int k a,.int k' b::l=>CU (FS k k') (LF mx (.int k (bif (bif mx then WQ a b else WQ b a)then b else a)) l)
 | _,_=>none
def GW:AV→AV→Option Bool
 | .int k a,.int k' b=>CU (FS k k') (some (Zn a b))
 | .str a,.str b=>some (Fb a b)
 | .agg a,.agg b=>keysEq a b
 | _,_=>none
where
 keysEq:List AV→List AV→Option Bool
 | [],[]=>some true
 | .int k a::x,.int k' b::y=>CU (FS k k') ((keysEq x y).bind fun r=>some (Zn a b && r))
 | .str a::x,.str b::y=>(keysEq x y).bind fun r=>some (Fb a b && r)
 | _,_=>none
def Fw(k:AV):List (AV×AV)→Nat→Option (Option (Nat×AV))
 | [],_=>some none
 | (k',v)::l,i=>(GW k k').bind fun e=>match e with
  | true=>some (some (i,v))
  | false=>Fw k l (i+1)
def MG(P:Program):Nat→TypeId→List AV→Bool
 | 0,_,_=>false
 | d+1,t,cs=>match P.underlying t with
  | some (.int q)=>match cs with
   | [.int q' n]=>FS q' q && D7 q n
   | _=>false
  | some .string=>match cs with
   | [.str l]=>Nat.ble l.length 1099511627776
   | _=>false
  | some (.array n e)=>Nat.beq cs.length (P.cellsOf t) && (List.range n).all fun i=>MG P d e ((cs.drop (i * P.cellsOf e)).take (P.cellsOf e))
  | some (.struct fs)=>Nat.beq cs.length (P.cellsOf t) && fs.toList.all fun f=>MG P d f.type ((cs.drop f.offset).take (P.cellsOf f.type))
  | _=>false
def E3(P:Program)(t:TypeId)(k:AV):Bool:=match P.underlying t with
 | some (.array _ _) | some (.struct _)=>match k with
  | .agg cs=>MG P 4 t cs
  | _=>false
 | _=>MG P 1 t [k]
def Ib(P:Program)(t:TypeId):Bool:=match P.underlying t with
 | some (.int _) | some .string=>true
 | some (.array _ _) | some (.struct _)=>P.keyType t && (P.tiled (P.types.size+1) t && (Nat.ble 4 P.types.size && Nat.ble P.types.size 9990))
 | _=>false
def MH(P:Program)(t:TypeId):Bool:=match P.underlying t with
 | some (.map kt _)=>Ib P kt
 | _=>false
def D8(P:Program)(t:TypeId):Option TypeId:=match P.underlying t with
 | some (.map kt _)=>some kt
 | _=>none
def Jf(s:CO)(kt:TypeId)(i:Nat):Option (List (AV×AV)):=match s.heap.get i with
 | some (.map kt' es)=>CU (Nat.beq kt' kt) (some es)
 | _=>none
def Gw(s:CO)(kt:TypeId)(i:Nat):Option (List (AV×AV)):=match s.heap.get i with
 | some (.map kt' es)=>CU (Nat.beq kt' kt) (some es)
 | some (.mapRo kt' es)=>CU (Nat.beq kt' kt) (some es)
 | _=>none
def Dy(P:Program)(s:CO)(t:TypeId)(m k:AV)(ok:Bool):Option AV:=
 match P.underlying t with
 | some (.map kt et)=>CU (E3 P kt k) <|
  (match m with
   | .map none=>some []
   | .map (some i)=>Gw s kt i
   | _=>none).bind fun es=>(Fw k es 0).bind fun r =>
   (match r with
    | some (_,v)=>some (v,true)
    | none=>(FV P et).bind fun z=>some (z,false)).bind fun p=>some (bif ok then .tuple [p.1,.bool p.2]else p.1)
 | _=>none
def setNth(es:List (AV×AV))(i:Nat)(v:AV):List (AV×AV):=
 match es,i with
 | [],_=>[]
 | (k,_)::l,0=>(k,v)::l
 | e::l,i+1=>e::setNth l i v
def Pp(k v:AV)(es:List (AV×AV)):Option (List (AV×AV)):=(Fw k es 0).bind fun r=>match r with
 | some (j,_)=>some (setNth es j v)
 | none=>some (es++[(k,v)])
def EF(P:Program)(s:CO)(t:TypeId)(m k v:AV):Option CO:=
 match P.underlying t,m with
 | some (.map kt _),.map (some i)=>CU (E3 P kt k) <|
  (Jf s kt i).bind fun es=>(Pp k v es).bind fun es'=>some (setObj s i (.map kt es'))
 | _,_=>none
def delNth(es:List (AV×AV))(i:Nat):List (AV×AV):=
 match es,i with
 | [],_=>[]
 | _::l,0=>l
 | e::l,i+1=>e::delNth l i
def Pz(P:Program)(s:CO)(t:TypeId)(m k:AV):Option CO:=
 match P.underlying t with
 | some (.map kt _)=>CU (E3 P kt k) <| match m with
  | .map none=>some s
  | .map (some i)=>(Jf s kt i).bind fun es=>(Fw k es 0).bind fun r=>match r with
    | some (j,_)=>some (setObj s i (.map kt (delNth es j)))
    | none=>some s
  | _=>none
 | _=>none
def D9(P:Program)(s:CO)(t:TypeId):AV→Option AV
 | .str l=>match P.underlying t with
  | some .string=>some (.int .i64 (.ofNat l.length))
  | _=>none
 | .slice _ n _=>match P.underlying t with
  | some (.slice _)=>some (.int .i64 (.ofNat n))
  | _=>none
 | .map none=>match P.underlying t with
  | some (.map ..)=>some (.int .i64 (.ofNat 0))
  | _=>none
 | .map (some i)=>match P.underlying t with
  | some (.map ..)=>match s.heap.get i with
   | some (.map _ es)=>some (.int .i64 (.ofNat es.length))
   | some (.mapRo _ es)=>some (.int .i64 (.ofNat es.length))
   | _=>none
  | _=>none
 | _=>none
def eP(P:Program)(s:CO)(t:TypeId):AV→Option AV
 | .slice a _ cap=>match P.underlying t with
  | some (.slice e)=>match cap with
   | some c=>some (.int .i64 (.ofNat c))
   | none=>match a with
    | some (i,o)=>(DZ P e).bind fun n=>(rowAt s i).bind fun r=>CU (!r.spare && Nat.ble o r.n && Nat.beq n r.sz && !Nat.beq n 0) (some (.int .i64 (.ofNat ((r.n - o) / n))))
    | none=>none
  | _=>none
 | _=>none
def W9:AV→Option AV
 | .slice none _ _=>some (.ptr none)
 | .slice (some (i,o)) (_+1) _=>some (.ptr (some (i,o)))
 | _=>none
def Made.val(i:Nat):Made→AV
 | .ptr=>.ptr (some (i,0))
 | .slice n=>.slice (some (i,0)) n (some n)
 | .map=>.map (some i)
def Dz(P:Program)(e:TypeId):Option (Cg×Made):=(FV P e).bind fun z=>some (PR e 0 z.cells,.ptr)
def Fj(e:TypeId)(v:AV):Option (Cg×Made):=some (PR e 0 v.cells,.ptr)
def KF(P:Program)(t:TypeId)(l c:AV):Option (Cg×Made):=
 match P.underlying t,l,c with
  | some (.slice e),.int .i64 (.ofNat l),.int .i64 (.ofNat c)=>(Fe P e).bind fun by_=>(DZ P e).bind fun n =>
   CU (Nat.beq l c && Nat.ble (by_ * c) 1099511627776 && Nat.ble c 1099511627776) <|
   (FV P e).bind fun z=>CU (Nat.beq z.cells.length n) (some (PR e n (iN z.cells c),.slice c))
  | _,_,_=>none
def Z0(P:Program)(t:TypeId):Bool:=match P.underlying t with
 | some (.int _)=>true
 | _=>false
def Pr(s:CO)(i o n size:Nat):Option (List AV):=bif Nat.beq n 0 then some []else Di s i o (n * size)
def FT(P:Program)(s:CO)(e:TypeId)(size:Nat):AV→Option (Nat×List AV)
 | .int _ (.ofNat n)=>CU (Nat.ble n 1099511627776 && Nat.blt 0 n) ((FV P e).bind fun z=>CU (Nat.beq z.cells.length size) (some (n,iN z.cells n)))
 | .slice none _ _=>some (0,[])
 | .slice (some (i,o)) n _=>(Pr s i o n size).bind fun l=>some (n,l)
 | .str l=>CU (Nat.beq size 1) (some (l.length,l.map fun b=>.int .u8 (.ofNat b)))
 | _=>none
def EE(P:Program)(t:TypeId):Bool:=match P.underlying t with
 | some (.slice _) | some .string=>true
 | _=>false
def GV(e:TypeId)(sz:Nat)(c:CT AV)(n:Nat)(par:Option Nat)(base:Bool):Cg:=
 .row { elem:=e,sz,n,c,spare:=true,mode:=.own,par,bytes:=base }
def FU(P:Program)(e:TypeId)(size:Nat):Bool:=match FV P e with
 | some z=>Nat.beq z.cells.length size
 | none=>false
def FB(P:Program)(s:CO)(e:TypeId)(size n:Nat)(cells:List AV):Option (AV×CO):=
 CU (FU P e size) (some (.slice (some (s.next,0)) n none,newObj s (GV e size (CT.fill .leaf 0 cells) cells.length none true)))
def Fy(s:CO)(i:Nat)(r:FP)(ends:Bool):CO:=
 bif ends then setObj (Dm s i r) i (.row { r with mode:=.sealed,par:=none })else Eo (Dm s i r) i
def Hi(P:Program)(s:CO)(e:TypeId)(size i o len:Nat)(src:Nat×List AV)(r:FP)(old:List AV):Option (AV×CO):=
 CU (FL r.mode && Nat.beq r.elem e && FU P e size) <|
  let ends:=Nat.beq (o+len * size) r.n
  let s2:=Fy s i r ends
  some (.slice (some (s.next,0)) (len+src.1) none,
   newObj s2 (GV e size (bif Nat.beq o 0 then r.c.fill (len * size) src.2 else CT.fill .leaf 0 (old++src.2)) (old++src.2).length (bif ends then some i else none) (r.bytes && Nat.beq o 0)))
def M1(P:Program)(s:CO)(e:TypeId)(size i o len:Nat)(src:Nat×List AV)(r:FP):Option (AV×CO):=
 CU (Nat.beq size r.sz) <|
 bif Nat.ble (o+(len+src.1) * size) r.n then
  (EC s i (o+len * size) src.2).bind fun s'=>some (.slice (some (i,o)) (len+src.1) none,s')
 else (Di s i o (len * size)).bind fun old =>
  bif r.spare then Hi P s e size i o len src r old else FB P s e size (len+src.1) (old++src.2)
def JS(P:Program)(s:CO)(e:TypeId)(size i o len c:Nat)(src:Nat×List AV):Option (AV×CO):=
 bif Nat.ble (len+src.1) c then
  (EC s i (o+len * size) src.2).bind fun s'=>some (.slice (some (i,o)) (len+src.1) (some c),s')
 else (Di s i o (len * size)).bind fun old=>FB P s e size (len+src.1) (old++src.2)
def appTo(P:Program)(s:CO)(e:TypeId)(size:Nat)(a:Option (Nat×Nat))(len:Nat)(cap:Option Nat)(src:Nat×List AV):Option (AV×CO):=
 match a with
 | none=>bif Nat.beq src.1 0 then some (.slice none 0 (some 0),s)else FB P s e size src.1 src.2
 | some (i,o)=>match cap with
  | some c=>JS P s e size i o len c src
  | none=>(rowAt s i).bind fun r=>M1 P s e size i o len src r
def DE(P:Program)(s:CO)(argTypes:List TypeId)(args:List AV):Option (AV×CO):=
 match argTypes,args with
 | [st,xt],[.slice a len cap,x]=>match P.underlying st with
  | some (.slice e)=>(DZ P e).bind fun size=>(Fe P e).bind fun by_ =>
   CU (!Nat.beq size 0 && (match x with | .int ..=>Z0 P xt | _=>EE P xt)) <|
   (FT P s e size x).bind fun src =>
   CU (C3 src.2 && Nat.ble ((len+src.1) * by_) 1099511627776 && Nat.ble (len+src.1) 1099511627776) <|
   appTo P s e size a len cap src
  | _=>none
 | _,_=>none
def Kx(P:Program)(s:CO)(argTypes:List TypeId)(args:List AV):Option (AV×CO):=
 match argTypes,args with
 | dt::_,[.slice a dl _,x]=>match P.underlying dt with
  | some (.slice e)=>(DZ P e).bind fun size =>
   (match x with | .slice _ n _=>some n | .str l=>some l.length | _=>none).bind fun sl =>
   let n:=bif Nat.ble sl dl then sl else dl
   (match x with
    | .slice none _ _=>some []
    | .slice (some (i,o)) _ _=>Di s i o (n * size)
    | .str l=>CU (Nat.beq size 1) (some ((l.take n).map fun b=>.int .u8 (.ofNat b)))
    | _=>none).bind fun cells =>
   (match a with
    | none=>some s
    | some (i,o)=>EC s i o cells).bind fun s'=>some (.int .i64 (.ofNat n),s')
  | _=>none
 | _,_=>none
def VI(r:FP):Cg:=.row { r with n:=0,spare:=true,mode:=.ro,par:=none,bytes:=false,glob:=none }
def QA(P:Program)(s:CO)(t:TypeId)(n:Nat):Option (Nat×Nat)→Option (AV×CO)
 | none=>none
 | some (i,o)=>match P.underlying t with
  | some (.pointer e)=>(rowAt s i).bind fun r=>CU (FL r.mode && r.bytes && Nat.beq o 0 && Nat.beq r.elem e && Nat.ble n 1099511627776) <| (DZ P e).bind fun z=>CU (Nat.beq z 1) <|
   (Di s i o n).bind fun l=>(EP.bytesOf l).bind fun b=>some (.str b,setObj (Dm s i r) i (VI r))
  | _=>none
def Uh(P:Program)(s:CO)(argTypes:List TypeId)(args:List AV):Option (AV×CO):=
 match argTypes,args with
 | [t,_],[.ptr a,.int .i64 (.ofNat n)]=>match n with
  | 0=>some (.str [],s)
  | n+1=>QA P s t (n+1) a
 | _,_=>none
def Vs(s:CO):List AV→Option (AV×CO)
 | [x]=>some (x,s)
 | _=>none
def Vt(e:TypeId)(s:CO):List AV→Option (AV×CO)
 | [.int .i64 (.ofNat n)]=>CU (Nat.ble n 1099511627776) (some (.slice (some (s.next,0)) n none,newObj s (GV e 1 .leaf n none true)))
 | _=>none
def Py(s:CO):List AV→Option (AV×CO)
 | [.str a,.str b]=>some (.int .i64 (bif G0 a b then -1 else bif Fb a b then 0 else 1),s)
 | _=>none
def XI(P:Program)(name:String)(rt:Array TypeId):Option (CO→List AV→Option (AV×CO)):=
  bif name == "internal/abi.NoEscape" then some Vs else
  bif name == "internal/bytealg.abigen_runtime_cmpstring" then some Py else
  bif name == "internal/bytealg.MakeNoZero" then (match rt.toList with
    | [t]=>match P.underlying t with
      | some (.slice e)=>match DZ P e with
        | some 1=>some (Vt e)
        | _=>none
      | _=>none
    | _=>none)
  else none
def nJ(P:Program)(f:FuncId):Option (CO→List AV→Option (AV×CO)):=match P.funcs[f]? with
  | some fn=>match fn.body with
    | some _=>none
    | none => bif fn.origin == "" then XI P fn.name fn.resultTypes else none
  | none=>none
def VH(P:Program)(s:CO)(argTypes:List TypeId)(args:List AV):Option (AV×CO):=
 match argTypes,args with
 | t::_,[x]=>match P.underlying t,x with
  | some (.slice _),.slice none _ _=>some (Cx,s)
  | some (.slice _),.slice _ 0 _=>some (Cx,s)
  | some (.slice e),.slice (some (i,o)) n _=>(FV P e).bind fun z=>(EC s i o (iN z.cells n)).bind fun s'=>some (Cx,s')
  | _,_=>none
 | _,_=>none
inductive Sh where
 | p1 (f:AV→Option AV)
 | p2 (f:AV→AV→Option AV)
 | p (f:List AV→Option AV)
 | r1 (f:CO→AV→Option AV)
 | r (f:CO→List AV→Option AV)
 | mk (f:List AV→Option (Cg×Made))
 | e (f:CO→List AV→Option (AV×CO))
 | call (f:FuncId)
 | callv
def Sh.isEff:Sh→Bool
 | .e _ | .call _ | .callv=>true
 | _=>false
def Sh.isRead:Sh→Bool
 | .r1 _ | .r _=>true
 | _=>false
def Rw:List AV→Option AV
 | [c,a,b]=>Rx c a b
 | _=>none
def GA{α:Type}(f:AV→AV→Option α):List AV→Option α
 | [a,b]=>f a b
 | _=>none
def qa{α:Type}(f:AV→AV→AV→Option α):List AV→Option α
 | [a,b,c]=>f a b c
 | _=>none
def DI(x:Option CO):Option (AV×CO):=match x with
 | some s=>some (Cx,s)
 | none=>none
def DK(P:Program)(t:TypeId)(lo hi mx:Bool)(s:CO):List AV→Option AV
 | [x]=>match lo,hi,mx with
  | false,false,false=>Fh P s t x none none none
  | _,_,_=>none
 | [x,a]=>match lo,hi,mx with
  | true,false,false=>Fh P s t x (some a) none none
  | false,true,false=>Fh P s t x none (some a) none
  | _,_,_=>none
 | [x,a,b]=>match lo,hi,mx with
  | true,true,false=>Fh P s t x (some a) (some b) none
  | false,true,true=>Fh P s t x none (some a) (some b)
  | _,_,_=>none
 | [x,a,b,c]=>match lo,hi,mx with
  | true,true,true=>Fh P s t x (some a) (some b) (some c)
  | _,_,_=>none
 | _=>none
def zipIdx(is:List Nat)(l:List AV):List (Nat×AV):=is.zip l
def Vb:Operand→Bool
 | .tmp _=>true
 | _=>false
def pU(P:Program)(op:BinOp)(t:TypeId)(x y:Operand):Option Bool:=match op with
 | .eql=>bif Vb x && Vb y && OZ P t then some false else none
 | .neq=>bif Vb x && Vb y && OZ P t then some true else none
 | _=>none
def De(P:Program)(o:Op):Option (Sh×List Operand):=
 match o with
 | .move x | .assign x=>some (.p1 some,[x])
 | .pick c a b=>some (.p Rw,[c,a,b])
 | .build t ps=>some (.p (fun l=>C8 P t (zipIdx (ps.toList.map (·.1)) l)),ps.toList.map (·.2))
 | .nilCheck x=>some (.p1 CV,[x])
 | .binOp op t x y _=>match pU P op t x y with
  | some neg=>some (.r (fun s=>GA (KL P s neg t)),[x,y])
  | none=>some (.p2 (Ch P op t),[x,y])
 | .unOp op _ x=>some (.p1 (Yu P op),[x])
 | .makeFunc fn first captured=>match fn with
  | .func f=>some (.p (fun l=>some (.func f (l.take first.size) (l.drop first.size))),first.toList++captured.toList)
  | _=>none
 | .fieldAddr t x f=>some (.p1 (fun x=>CL P t x f),[x])
 | .field t x f=>some (.p1 (fun x=>GT P t x f),[x])
 | .indexAddr t x i=>some (.p2 (CQ P t),[x,i])
 | .index t x i=>some (.p2 (Zv P t),[x,i])
 | .extract t i=>some (.p1 (fun x=>Ry x i),[t])
 | .load t a=>some (.r1 (fun s a=>CJ P s t a),[a])
 | .lookup t m k ok=>CU (MH P t) (some (.r (fun s=>GA (fun m k=>Dy P s t m k ok)),[m,k]))
 | .convert src dst x=>some (.r1 (fun s x=>EP P s src dst x),[x])
 | .slice t x lo hi mx=>some (.r (DK P t lo.isSome hi.isSome mx.isSome),[x]++lo.toList++hi.toList++mx.toList)
 | .alloc e=>some (.mk (fun l=>match l with | []=>Dz P e | _=>none),[])
 | .box e x=>some (.mk (fun l=>match l with | [v]=>Fj e v | _=>none),[x])
 | .buildSlice t len ps=>some (.mk (fun l=>(Cd P t len (zipIdx (ps.toList.map (·.1)) l)).bind fun r=>some (r,.slice len)),ps.toList.map (·.2))
 | .makeMap t none=>CU (MH P t) (some (.mk (fun l=>match l with | []=>(D8 P t).bind fun kt=>some (.map kt [],.map) | _=>none),[]))
 | .makeSlice t l c=>some (.mk (GA (KF P t)),[l,c])
 | .store t a x=>some (.e (fun s=>GA (fun a x=>DI (Cz P s t a x))),[a,x])
 | .mapUpdate t m k x | .insert t m k x=>CU (MH P t) (some (.e (fun s=>qa (fun m k x=>DI (EF P s t m k x))),[m,k,x]))
 | .call { callee,args,argTypes }=>match callee with
  | .value (.func f)=>match nJ P f with
   | some e=>some (.e e,args.toList)
   | none=>some (.call f,args.toList)
  | .value x=>some (.callv,x::args.toList)
  | .invoke ..=>none
  | .builtin b=>match b with
   | .len=>match argTypes[0]? with
    | some t=>some (.r (fun s l=>match l with | [x]=>D9 P s t x | _=>none),args.toList)
    | none=>none
   | .cap=>match argTypes[0]? with
    | some t=>some (.r (fun s l=>match l with | [x]=>eP P s t x | _=>none),args.toList)
    | none=>none
   | .min=>some (.p (fun l=>match l with | v::l=>LF false v l | []=>none),args.toList)
   | .max=>some (.p (fun l=>match l with | v::l=>LF true v l | []=>none),args.toList)
   | .append=>some (.e (fun s l=>DE P s argTypes.toList l),args.toList)
   | .copy=>some (.e (fun s l=>Kx P s argTypes.toList l),args.toList)
   | .unsafeSliceData=>some (.p (fun l=>match l with | [x]=>W9 x | _=>none),args.toList)
   | .unsafeString=>some (.e (fun s l=>Uh P s argTypes.toList l),args.toList)
   | .clear=>some (.e (fun s l=>VH P s argTypes.toList l),args.toList)
   | .delete=>match argTypes[0]? with
    | some t=>CU (MH P t) (some (.e (fun s=>GA (fun m k=>DI (Pz P s t m k))),args.toList))
    | none=>none
   | _=>none
 | _=>none
def A3p(t:Nat):Nat:=Nat.shiftLeft 1 t
def Jk:List Operand→Nat
 | []=>0
 | .tmp t::l=>Nat.lor (A3p t) (Jk l)
 | _::l=>Jk l
def RG(P:Program):List Oper→Nat→Nat→Nat
 | [],_,e=>e
 | o::l,wr,e =>
  let rd:=match De P o.op with
   | some (_,xs)=>Jk xs
   | none=>match o.op with
    | .range _ x | .next x _ | .entry x=>Jk [x]
    | _=>0
  RG P l (match o.dst with | some d=>Nat.lor wr (A3p d) | none=>wr) (Nat.lor e (Nat.sub rd (Nat.land rd wr)))
def H5(P:Program):Code→Nat
 | .region _ ops _=>RG P ops.toList 0 0
 | .seq a b=>Nat.lor (H5 P a) (H5 P b)
 | .cond c a b=>Nat.lor (Jk [c]) (Nat.lor (H5 P a) (H5 P b))
 | .block _ b | .loop b | .scope b=>H5 P b
 | .rangeFunc f ps a b=>Nat.lor (Jk [f]) (Nat.lor (ps.toList.foldl (fun m t=>Nat.lor m (A3p t)) 0) (Nat.lor (H5 P a) (H5 P b)))
 | _=>0
def Mm:List ResultVar→Nat
 | []=>0
 | .tmp t::l | .cell t _::l=>Nat.lor (A3p t) (Mm l)
def JU(m:Nat):Nat→Nat→List Nat
 | 0,_=>[]
 | n+1,k=>bif m.testBit k then k::JU m n (k+1)else JU m n (k+1)
def Gb(fn:Func):Nat:=fn.params.size+fn.nfree
def Cu(P:Program)(fn:Func):List Tmp:=
 List.range (Gb fn)++match fn.body with
 | none=>[]
 | some c=>JU (Nat.lor (H5 P c) (Mm fn.results.toList)) (fn.ntmps - Gb fn) (Gb fn)
def DM:List Tmp→Tmp→Option Nat
 | [],_=>none
 | a::l,t=>bif Nat.beq a t then some 0 else (DM l t).bind fun j=>some (j+1)
def RE(P:Program)(o:Oper):Bool:=match De P o.op with
 | some (s,_)=>s.isEff
 | none=>true
def dc(b:Array Nat)(done:Nat)(i:Nat):Bool:=Nat.beq (Nat.land (b.getD i 0) done) (b.getD i 0)
def Hb(P:Program)(o:Oper):List Tmp:=o.dst.toList++((match De P o.op with
 | some (_,xs)=>xs
 | none=>[]).filterMap fun x:Operand=>match x with
  | .tmp t=>some t
  | _=>none)
def VW(o:Oper):List Nat:=match o.guard with
 | some (j,_)=>[j]
 | none=>[]
def Ow(P:Program)(ops:Array Oper)(b:Array Nat)(before:List Nat)(i:Nat):Bool:=
 let o:=ops.getD i default
 let anc:=b.getD i 0
 Nat.blt i ops.size && !before.contains i &&
 (List.range ops.size).all (fun j=>!anc.testBit j || before.contains j) &&
 o.after.all (fun e=>!Region.binds .any e || before.contains e.on) &&
 before.all (fun j=>!RE P (ops.getD j default) || anc.testBit j) &&
 (VW o).all (fun j=>anc.testBit j) &&
 before.all (fun j=>let p:=ops.getD j default
  (match o.dst with
   | none=>true
   | some d=>p.dst != some d && (!(Hb P p).contains d || anc.testBit j)) &&
  (match p.dst with
   | none=>true
   | some d=>!(Hb P o).contains d || anc.testBit j))
def Hr(P:Program)(ops:Array Oper)(b:Array Nat):List Nat→List Nat→Bool
 | before,[]=>Nat.beq before.length ops.size
 | before,i::l=>Ow P ops b before i && Hr P ops b (before++[i]) l
def M2(m i:Nat):Bool:=Nat.beq (Nat.land (Nat.shiftRight m i) 1) 1
def Jg(f:Nat→Bool):Nat→Nat
 | 0=>0
 | n+1=>bif f n then Nat.lor (Nat.shiftLeft 1 n) (Jg f n)else Jg f n
def iA(a b:Nat):Bool:=Nat.beq (Nat.land a b) a
def N0:List Tmp→Nat
 | []=>0
 | t::l=>Nat.lor (A3p t) (N0 l)
def NY(P:Program)(o:Oper):Nat:=N0 (Hb P o)
def mo(o:Oper)(d:Tmp):Bool:=match o.dst with
 | some e=>Nat.beq e d
 | none=>false
def mn(o:Oper)(m:Nat):Bool:=match o.dst with
 | some e=>M2 m e
 | none=>false
def fH(P:Program)(ops:Array Oper):Nat:=Jg (fun j=>RE P (ops.getD j default)) ops.size
def VK(done:Nat):List Edge→Bool
 | []=>true
 | e::l=>(!Region.binds .any e || M2 done e.on) && VK done l
def nc(anc:Nat):Option (Nat×Bool)→Bool
 | some (j,_)=>M2 anc j
 | none=>true
def dm(P:Program)(ops:Array Oper)(anc eff done i:Nat)(o:Oper):Bool:=
 Nat.blt i ops.size && (!M2 done i && (iA anc done && (VK done o.after.toList && (iA (Nat.land done eff) anc && (nc anc o.guard &&
  ((match o.dst with
   | none=>true
   | some d=>Nat.beq (Nat.land done (Jg (fun j=>mo (ops.getD j default) d) ops.size)) 0 && iA (Nat.land done (Jg (fun j=>M2 (NY P (ops.getD j default)) d) ops.size)) anc) &&
  iA (Nat.land done (Jg (fun j=>mn (ops.getD j default) (NY P o)) ops.size)) anc))))))
def Li(P:Program)(ops:Array Oper)(b:Array Nat)(eff:Nat):Nat→Nat→List Nat→Bool
 | n,_,[]=>Nat.beq n ops.size
 | n,done,i::l=>dm P ops (b.getD i 0) eff done i (ops.getD i default) && Li P ops b eff (n+1) (Nat.lor (Nat.shiftLeft 1 i) done) l
def Vz(b:Array Nat)(eff:Nat):Nat→Nat→List Nat→List Nat→List Nat
 | 0,_,_,acc=>acc.reverse
 | f+1,done,todo,acc =>
  match todo.find? fun i=>dc b done i && !M2 eff i with
  | some i=>Vz b eff f (Nat.lor (Nat.shiftLeft 1 i) done) (todo.filter fun j=>!Nat.beq j i) (i::acc)
  | none=>match todo.find? fun i=>dc b done i with
   | some i=>Vz b eff f (Nat.lor (Nat.shiftLeft 1 i) done) (todo.filter fun j=>!Nat.beq j i) (i::acc)
   | none=>acc.reverse
def db(P:Program)(ops:Array Oper):List Nat:=Vz (Region.before ops) (fH P ops) ops.size 0 (List.range ops.size) []
inductive OC where
 | push | set (j:Nat)
structure Kh where
 guard:Option (CX×Bool)
 sh:Sh
 xs:List CX
 ans:CX
structure CK where
 guard:Option (CX×Bool)
 sh:Sh
 xs:List CX
 dst:OC
 again:List Kh
structure qh where
 map:List (Tmp×CX)
 cnt:Nat
def Ht:List (Tmp×CX)→Tmp→Option CX
 | [],_=>none
 | (a,x)::l,t=>bif Nat.beq a t then some x else Ht l t
def FY(cnt:Nat):CX→CX
 | .loc p=>.loc (cnt - 1 - p)
 | x=>x
def Hy(vars:List Tmp)(c:qh)(t:Tmp):Option CX:=
 match Ht c.map t with
 | some x=>some x
 | none=>(DM vars t).bind fun j=>some (.var j)
def Hx(vars:List Tmp)(c:qh):Operand→Option CX
 | .tmp t=>Hy vars c t
 | .const v=>(ofValue v).bind fun a=>some (.const a)
 | .global g=>some (.const (.gptr g 0))
 | .func f=>some (.const (.func f [] []))
def Mh(vars:List Tmp)(c:qh):List Operand→Option (List CX)
 | []=>some []
 | x::l=>(Hx vars c x).bind fun a=>(Mh vars c l).bind fun r=>some (a::r)
def isVar(j:Nat):CX→Bool
 | .var i=>Nat.beq i j
 | _=>false
def Na(j:Nat):List (Tmp×CX)→Bool
 | []=>true
 | (_,x)::l=>!isVar j x && Na j l
def Ps(vars:List Tmp)(later:List (Option Tmp))(o:Oper)(x:CX):Bool:=
 (match o.op with | .move _=>true | _=>false) && o.guard.isNone &&
 (match o.dst with | some d=>(DM vars d).isNone | none=>false) &&
 (match x with
  | .var j=>!(later.any fun d=>match d with
   | some t=>match DM vars t with
    | some i=>Nat.beq i j
    | none=>false
   | none=>false)
  | _=>true)
def Jl(cnt:Nat):Option (CX×Bool)→Option (CX×Bool)
 | none=>none
 | some (x,b)=>some (FY cnt x,b)
def Nj(cnt:Nat)(r:Kh):Kh:={ guard:=Jl cnt r.guard,sh:=r.sh,xs:=r.xs.map (FY cnt),ans:=FY cnt r.ans }
def V1(j:Nat)(r:Kh):Bool:=(match r.guard with | none=>true | some (x,_)=>!isVar j x) && r.xs.all fun x=>!isVar j x
def H4(P:Program)(nt:Nat)(vars:List Tmp)(ops:Array Oper)(b:Array Nat)(draw:Bool):List Nat→qh→List (Nat×Kh)→Option (List CK)
  | [],_,_=>some []
  | i::l,c,rs=>(ops[i]?).bind fun o=>(De P o.op).bind fun sh=>(Mh vars c sh.2).bind fun xs =>
    match (match xs with | [x]=>bif Ps vars (l.map fun j=>(ops.getD j default).dst) o x then some x else none | _=>none),o.dst with
    | some x,some d=>CU (Nat.blt d nt) (H4 P nt vars ops b draw l { c with map:=(d,x)::c.map } rs)
    | _,_ =>
      (match o.guard with
        | none=>some none
        | some (j,want)=>(ops[j]?).bind fun p=>p.dst.bind fun d=>(Hy vars c d).bind fun x=>some (some (x,want))).bind fun g =>
      (match o.dst with
        | none=>some (OC.push,{ c with cnt:=c.cnt+1 })
        | some d=>CU (Nat.blt d nt) <| match DM vars d with
          | some j=>CU (Na j c.map && rs.all fun r=>V1 j r.2) (some (OC.set j,c))
          | none=>some (OC.push,{ map:=(d,.loc c.cnt)::c.map,cnt:=c.cnt+1 })).bind fun q =>
      let ag:=match draw,sh.1.isEff with
        | true,true=>rs.filter fun(r:Nat×Kh)=>!(b.getD i 0).testBit r.1
        | _,_=>[]
      let rd:=draw && sh.1.isRead
      CU (!rd || (match q.1 with | .push=>true | .set _=>false)) <|
      (H4 P nt vars ops b draw l q.2 (bif rd then (i,{ guard:=g,sh:=sh.1,xs,ans:=.loc c.cnt })::rs else rs)).bind fun r =>
        some ({ guard:=Jl c.cnt g,sh:=sh.1,xs:=xs.map (FY c.cnt),dst:=q.1,again:=ag.map fun(r:Nat×Kh)=>Nj q.2.cnt r.2 }::r)
structure Ki where
 ad:CX
 rd:CO→AV→Option AV
 jt:Nat
 jok:Nat
 jk:Nat
 id2:Nat
 res:List CX
inductive Ck where
 | skip
 | ops (l:List CK)
 | seq (a b:Ck)
 | cond (x:CX) (a b:Ck)
 | block (id:Nat) (c:Ck)
 | loop (c:Ck)
 | rangeFunc (fn:FuncId) (f:CX) (params:Array Tmp) (assign body:Code)
 | exit (id:Nat)
 | ret
 | never
 | rangeMap (r:Ki) (body:Ck)
structure A3z where
 ty:TypeId
 ad:Operand
 tm:Tmp
 it:Tmp
 tn:Tmp
 ok:Tmp
 te:Tmp
 tk:Tmp
 key:Tmp
 id2:Nat
def H8(o:Oper):Option (Op×Tmp):=match o.guard,o.dst with
 | none,some d=>some (o.op,d)
 | _,_=>none
def Yy:Op→Option (TypeId×Operand)
 | .load t a=>some (t,a)
 | _=>none
def Uv:Op→Option (TypeId×Tmp)
 | .range t (.tmp m)=>some (t,m)
 | _=>none
def Yz:Op→Option Tmp
 | .next (.tmp i) false=>some i
 | _=>none
def Ut:Op→Option Tmp
 | .entry (.tmp i)=>some i
 | _=>none
def bW:Op→Option Tmp
 | .extract (.tmp n) 0=>some n
 | _=>none
def ii:Op→Option Tmp
 | .assign (.tmp n)=>some n
 | _=>none
def V5:List Oper→Option (TypeId×Operand×Tmp×Tmp)
 | [o0,o1]=>(H8 o0).bind fun p0=>(H8 o1).bind fun p1=>(Yy p0.1).bind fun l=>(Uv p1.1).bind fun r =>
  CU (Nat.beq l.1 r.1 && Nat.beq p0.2 r.2) (some (l.1,l.2,p0.2,p1.2))
 | _=>none
def V7(it:Tmp):List Oper→Option (Tmp×Tmp)
 | [o0,o1]=>(H8 o0).bind fun p0=>(H8 o1).bind fun p1=>(Yz p0.1).bind fun i=>(bW p1.1).bind fun n =>
  CU (Nat.beq i it && Nat.beq n p0.2) (some (p0.2,p1.2))
 | _=>none
def SV(it:Tmp):List Oper→Option (Tmp×Tmp×Tmp)
 | [o0,o1,o2]=>(H8 o0).bind fun p0=>(H8 o1).bind fun p1=>(H8 o2).bind fun p2=>(Ut p0.1).bind fun i=>(bW p1.1).bind fun n=>(ii p2.1).bind fun k =>
  CU (Nat.beq i it && (Nat.beq n p0.2 && Nat.beq k p1.2)) (some (p0.2,p1.2,p2.2))
 | _=>none
def ph(ops1:Array Oper)(d1:Bool):Code→Option A3z
 | .block id (.loop (.seq (.region _ ops2 false) (.seq (.cond (.tmp c) .skip (.exit id')) (.block id2 (.seq (.region _ ops3 false) _))))) =>
  CU (!d1) <| (V5 ops1.toList).bind fun h=>(V7 h.2.2.2 ops2.toList).bind fun n=>(SV h.2.2.2 ops3.toList).bind fun e =>
   CU (Nat.beq id' id && Nat.beq c n.2) (some ⟨h.1,h.2.1,h.2.2.1,h.2.2.2,n.1,n.2,e.1,e.2.1,e.2.2,id2⟩)
 | _=>none
def de(P:Program)(f:FuncId)(vars:List Tmp):List CX:=match P.funcs[f]? with
 | some fn=>fn.results.toList.filterMap fun v=>match v with
  | .cell t _=>(DM vars t).map CX.var
  | _=>none
 | none=>[]
def cV(P:Program)(f:FuncId)(nt:Nat)(vars:List Tmp)(p:A3z):Option Ki:=
 (Hx vars ⟨[],0⟩ p.ad).bind fun ad=>(DM vars p.it).bind fun jt=>(DM vars p.ok).bind fun jok=>(DM vars p.key).bind fun jk =>
  CU ((DM vars p.tm).isNone && ((DM vars p.tn).isNone && ((DM vars p.te).isNone && (DM vars p.tk).isNone))) <|
  CU (Nat.blt p.tm nt && (Nat.blt p.tn nt && (Nat.blt p.te nt && (Nat.blt p.tk nt && (Nat.blt p.it nt && (Nat.blt p.ok nt && Nat.blt p.key nt)))))) <|
  CU (OY P p.ty && (!Nat.beq jt jok && (!Nat.beq jt jk && !Nat.beq jok jk))) (some ⟨ad,fun s a=>CJ P s p.ty a,jt,jok,jk,p.id2,de P f vars⟩)
def Nk:Ck→Option Ck
 | .block _ (.loop (.seq _ (.seq _ (.block _ (.seq _ b)))))=>some b
 | _=>none
def Sb(r:Option Ki)(a b:Ck):Ck:=match r with
 | none=>.seq a b
 | some r=>match Nk b with
  | some c=>.rangeMap r c
  | none=>.seq a b
def ML(P:Program)(f:FuncId)(nt:Nat)(vars:List Tmp):Code→Code→Option Ki
 | .region _ ops d,b=>(ph ops d b).bind (cV P f nt vars)
 | _,_=>none
def A0m:Option (List CK)→Ck
 | some l=>.ops l
 | none=>.never
def Ct(P:Program)(fn:FuncId)(nt:Nat)(vars:List Tmp):Code→Ck
 | .skip | .label _=>.skip
 | .ret=>.ret
 | .exit id=>.exit id
 | .goto _ | .refuse _=>.never
 | .region _ ops draw=>match draw with
  | false=>A0m (H4 P nt vars ops #[] false (List.range ops.size) ⟨[],0⟩ [])
  | true=>A0m (CU (Li P ops (Region.before ops) (fH P ops) 0 0 (db P ops)) (H4 P nt vars ops (Region.before ops) true (db P ops) ⟨[],0⟩ []))
 | .seq a b=>Sb (ML P fn nt vars a b) (Ct P fn nt vars a) (Ct P fn nt vars b)
 | .cond c a b=>match Hx vars ⟨[],0⟩ c with
  | some z=>.cond z (Ct P fn nt vars a) (Ct P fn nt vars b)
  | none=>.never
 | .block id c=>.block id (Ct P fn nt vars c)
 | .loop c=>.loop (Ct P fn nt vars c)
 | .scope c=>Ct P fn nt vars c
 | .rangeFunc f ps a b=>match Hx vars ⟨[],0⟩ f with
  | some x=>.rangeFunc fn x ps a b
  | none=>.never
structure Cr where
 na:Nat
 nv:Nat
 body:Ck
 results:List (CX×Option TypeId)
def F6(vars:List Tmp):List ResultVar→Option (List (CX×Option TypeId))
 | []=>some []
 | .tmp t::l=>(DM vars t).bind fun j=>(F6 vars l).bind fun r=>some ((.var j,none)::r)
 | .cell t ty::l=>(DM vars t).bind fun j=>(F6 vars l).bind fun r=>some ((.var j,some ty)::r)
def CY(P:Program)(f:FuncId):Option Cr:=(P.funcs[f]?).bind fun fn=>fn.body.bind fun c =>
 CU (Nat.ble (Gb fn) fn.ntmps) <|
 let vars:=Cu P fn
 (F6 vars fn.results.toList).bind fun r =>
  some { na:=Gb fn,nv:=vars.length,body:=Ct P f fn.ntmps vars c,results:=r }
def Hw (l:List AV):Nat→AV:=
 List.rec (fun _=>Cx) (fun a _ ih i=>Nat.rec a (fun i _=>ih i) i) l
def upd (v:AV) (l:List AV):Nat→List AV:=
 List.rec (fun _=>[]) (fun a l ih i=>Nat.rec (v::l) (fun i _=>a::ih i) i) l
def Fz (loc var:List AV) (x:CX):AV:=
 match x with
 | .loc i=>Hw loc i
 | .var j=>Hw var j
 | .const v=>v
def HK (loc var:List AV) (l:List CX):List AV:=
 List.rec [] (fun x _ ih=>Fz loc var x::ih) l
inductive PB where
 | normal | exit (id:Nat) | ret
structure Da where
 exit:PB
 var:List AV
 marks:List Nat
 st:CO
def IG:AV→AV→Bool
 | .bool a,.bool b=>a == b
 | .int k a,.int k' b=>FS k k' && Zn a b
 | .str a,.str b=>Fb a b
 | .ptr none,.ptr none=>true
 | .gptr a b,.gptr c d=>Nat.beq a c && Nat.beq b d
 | .ptr (some (i,o)),.ptr (some (j,p))=>Nat.beq i j && Nat.beq o p
 | .slice none n (some c),.slice none n' (some c')=>Nat.beq n n' && Nat.beq c c'
 | .slice none n none,.slice none n' none=>Nat.beq n n'
 | .slice (some (i,o)) n none,.slice (some (j,p)) n' none=>Nat.beq i j && Nat.beq o p && Nat.beq n n'
 | .slice (some (i,o)) n (some c),.slice (some (j,p)) n' (some c')=>Nat.beq i j && Nat.beq o p && Nat.beq n n' && Nat.beq c c'
 | .map none,.map none=>true
 | .map (some i),.map (some j)=>Nat.beq i j
 | .func f a c,.func g b d=>Nat.beq f g && eqAs a b && eqAs c d
 | .nilFunc,.nilFunc=>true
 | .nilIface,.nilIface=>true
 | .yield i,.yield j=>Nat.beq i j
 | .agg a,.agg b=>eqAs a b
 | .tuple a,.tuple b=>eqAs a b
 | _,_=>false
where
 eqAs:List AV→List AV→Bool
 | [],[]=>true
 | a::x,b::y=>IG a b && eqAs x y
 | _,_=>false
abbrev Gl:=FuncId→List AV→CO→Option (AV×CO)
structure Dw where
 P:Program
 nat:Gl
structure Gm where
 code:Option Nat→Ck→List AV→List Nat→CO→Option Da
 call:FuncId→List AV→CO→Option (AV×CO)
 round:Nat→List AV→CO→Option (AV×CO)
def Kw(F:Gm)(f:AV)(args:List AV)(s:CO):Option (AV×CO):=
 match f with
 | .func f first cap=>F.call f (first++(args++cap)) s
 | .yield l=>F.round l args s
 | _=>none
def HF(s:CO)(x:Option AV):Option (AV×CO):=match x with
 | some v=>some (v,s)
 | none=>none
def one{α:Type}(f:AV→Option α):List AV→Option α
 | [a]=>f a
 | _=>none
def Ii(sh:Sh)(xs:List AV)(s:CO):Option AV:=
 match sh with
 | .r1 f=>one (f s) xs
 | .r f=>f s xs
 | _=>none
def Xl(s:CO)(r:Option (Cg×Made)):Option (AV×CO):=match r with
 | some p=>some (p.2.val s.next,newObj s p.1)
 | none=>none
def iL {α:Type} (f:CX→Option α) (xs:List CX):Option α:=List.rec none (fun x _ _=>f x) xs
def ni {α:Type} (f:CX→CX→Option α) (xs:List CX):Option α:=iL (fun x=>iL (f x) xs.tail) xs
def A6Z (f:AV→Option AV) (xs:List CX) (loc var:List AV) (s:CO):Option (AV×CO):=iL (fun x=>HF s (f (Fz loc var x))) xs
def A6a (f:AV→AV→Option AV) (xs:List CX) (loc var:List AV) (s:CO):Option (AV×CO):=ni (fun x y=>HF s (f (Fz loc var x) (Fz loc var y))) xs
def A6b (f:CO→AV→Option AV) (xs:List CX) (loc var:List AV) (s:CO):Option (AV×CO):=iL (fun x=>HF s (f s (Fz loc var x))) xs
def shV (F:Gm) (xs:List CX) (loc var:List AV) (s:CO):Option (AV×CO):=iL (fun x=>Kw F (Fz loc var x) (HK loc var xs.tail) s) xs
def A3q (F:Gm) (sh:Sh) (xs:List CX) (loc var:List AV) (s:CO):Option (AV×CO):=
 match sh with
 | .p1 f=>A6Z f xs loc var s
 | .p2 f=>A6a f xs loc var s
 | .p f=>HF s (f (HK loc var xs))
 | .r1 f=>A6b f xs loc var s
 | .r f=>HF s (f s (HK loc var xs))
 | .mk f=>Xl s (f (HK loc var xs))
 | .e f=>f s (HK loc var xs)
 | .call f=>F.call f (HK loc var xs) s
 | .callv=>shV F xs loc var s
def A3J(want:Bool):AV→Bool
 | .bool b=>b == want
 | _=>false
def EN (loc var:List AV) (g:Option (CX×Bool)):Bool:=
 match g with
 | none=>true
 | some p=>A3J p.2 (Fz loc var p.1)
def A3K:AV→Bool
 | .junk=>true
 | _=>false
def iM (loc var:List AV) (g:Option (CX×Bool)):Bool:=
 match g with
 | none=>false
 | some p=>A3K (Fz loc var p.1)
def MM(x:Option AV)(v:AV):Bool:=match x with
 | some u=>IG u v
 | none=>false
def JD (s:CO) (loc var:List AV) (r:Kh):Bool:=
 !EN loc var r.guard || MM (Ii r.sh (HK loc var r.xs) s) (Fz loc var r.ans)
def JE (s:CO) (loc var:List AV) (l:List Kh):Bool:=
 List.rec true (fun r _ ih=>JD s loc var r && ih) l
abbrev iS:=List AV→List AV→CO→Option (List AV×CO)
def GJ (ag:List Kh) (d:OC) (k:iS) (loc var:List AV) (v:AV) (s:CO):Option (List AV×CO):=
 match d with
 | .push=>bif JE s (v::loc) var ag then k (v::loc) var s else none
 | .set j=>bif JE s loc (upd v var j) ag then k loc (upd v var j) s else none
def P4 (it:CK) (k:iS) (loc var:List AV) (r:Option (AV×CO)):Option (List AV×CO):=
 match r with
 | none=>none
 | some p=>GJ it.again it.dst k loc var p.1 p.2
def PO (F:Gm) (it:CK) (k:iS) (loc var:List AV) (s:CO):Option (List AV×CO):=
 match iM loc var it.guard with
 | true=>none
 | false=>match EN loc var it.guard with
  | true=>P4 it k loc var (A3q F it.sh it.xs loc var s)
  | false=>GJ [] it.dst k loc var Cx s
def Ia (F:Gm) (l:List CK):iS:=
 List.rec (fun _ var s=>some (var,s)) (fun it _ ih loc var s=>PO F it ih loc var s) l
def Ql(l:List AV):Nat→List AV
 | 0=>[]
 | n+1=>match l with
  | []=>Cx::Ql [] n
  | a::l=>a::Ql l n
def Dj (P:Program) (s:CO) (var:List AV):List (CX×Option TypeId)→Option (List AV)
 | []=>some []
 | (x,none)::l=>(Dj P s var l).bind fun r=>some (Fz [] var x::r)
 | (x,some t)::l=>(CJ P s t (Fz [] var x)).bind fun v=>(Dj P s var l).bind fun r=>some (v::r)
def DO:List AV→AV
 | [v]=>v
 | l=>.tuple l
def EL(s:CO):List Nat→Option CO
 | []=>some s
 | i::l=>match s.heap.get i with
  | some .mark=>EL (Eo s i) l
  | _=>none
def Ef:PB→Option Code
 | .normal=>none
 | .ret=>some .ret
 | .exit id=>some (.exit id)
def FW (vars:List Tmp) (var:List AV):List Tmp→List AV→Option (List AV)
 | [],[]=>some var
 | t::ts,v::vs=>(DM vars t).bind fun j=>FW vars (upd v var j) ts vs
 | _,_=>none
def Df(s:CO)(l:Nat):Option Fv:=match s.heap.get l with
 | some (.loop r)=>some r
 | _=>none
def HL(P:Program)(f:FuncId)(c:Code):Option Ck:=(P.funcs[f]?).bind fun fn=>some (Ct P f fn.ntmps (Cu P fn) c)
def Fu(P:Program)(f:FuncId):List Tmp:=match P.funcs[f]? with
 | some fn=>Cu P fn
 | none=>[]
def rK(marks:List Nat)(r:Option (List AV×CO)):Option Da:=match r with
 | some p=>some ⟨.normal,p.1,marks,p.2⟩
 | none=>none
def Lv(F:Gm)(rnd:Option Nat)(b:Ck)(r:Da):Option Da:=match r.exit with
 | .normal=>F.code rnd b r.var r.marks r.st
 | _=>some r
def M9(F:Gm)(rnd:Option Nat)(b:Ck)(r:Option Da):Option Da:=match r with
 | some r=>Lv F rnd b r
 | none=>none
def W2(F:Gm)(rnd:Option Nat)(a b:Ck)(var:List AV)(marks:List Nat)(s:CO)(v:AV):Option Da:=match v with
 | .bool t=>match t with
  | true=>F.code rnd a var marks s
  | false=>F.code rnd b var marks s
 | _=>none
def Pw(id:Nat)(r:Da):Option Da:=match r.exit with
 | .exit id'=>bif Nat.beq id' id then some ⟨.normal,r.var,r.marks,r.st⟩else some r
 | _=>some r
def Q4(id:Nat)(r:Option Da):Option Da:=match r with
 | some r=>Pw id r
 | none=>none
def Kt(var:List AV)(marks:List Nat)(s:CO)(c:Option Code):Option Da:=match c with
 | none=>some ⟨.normal,var,marks,s⟩
 | some .ret=>some ⟨.ret,var,marks,s⟩
 | some (.exit id)=>some ⟨.exit id,var,marks,s⟩
 | some _=>none
def Zy:LoopState→Bool
 | .busy=>true
 | _=>false
def J7:LoopState→Bool
 | .ready=>true
 | _=>false
def LV(var:List AV)(marks:List Nat)(l:Nat)(q:Option (AV×CO)):Option Da:=
 q.bind fun q=>(Df q.2 l).bind fun r=>bif Zy r.state then none else
  Kt var marks (setObj q.2 l (.loop { r with state:=.exhausted })) r.pending
def Ix(F:Gm)(var:List AV)(f:AV)(params:Array Tmp)(assign body:Code)(fn:FuncId)(dfr:Nat)(marks:List Nat)(s:CO):Option Da:=
 LV var marks s.next (Kw { F with round:=fun _ _ _=>none } f [.yield s.next] (newObj s (.loop { state:=.ready,pending:=none,fn,var,params,assign,body,dfr })))
def Q5(F:Gm)(rnd:Option Nat)(fn:FuncId)(f:AV)(params:Array Tmp)(assign body:Code)(var:List AV)(marks:List Nat)(s:CO):Option Da:=
 match rnd with
 | some l=>(Df s l).bind fun r=>Ix F var f params assign body fn r.dfr marks s
 | none=>Ix F var f params assign body fn s.next (s.next::marks) (newObj s .mark)
def MX:Cg→Option Cg
 | .row r=>some (.row { r with mode:=.ro,par:=none })
 | .map kt es=>some (.mapRo kt es)
 | .mapRo kt es=>some (.mapRo kt es)
 | _=>none
def frz(n:Nat)(h:CT Cg):CO:=⟨n,h.mapO MX⟩
def Dg:AV→Bool
 | .agg _=>false
 | _=>true
def Fx(a b:AV):Bool:=match a,b with
 | .junk,.junk=>true
 | _,_=>IG a b
def JM:List AV→List AV→Option (List AV)
 | [],[]=>some []
 | a::l,b::m=>(bif Fx a b then some a else CU (Dg a && Dg b) (some .junk)).bind fun c=>(JM l m).bind fun r=>some (c::r)
 | _,_=>none
def sE(x b:AV):Bool:=Fx x b || (Dg x && Fx .junk b)
def Po:List AV→List AV→Bool
 | [],[]=>true
 | x::l,b::m=>sE x b && Po l m
 | _,_=>false
def HU:List Nat→List Nat→Bool
 | [],[]=>true
 | a::l,b::m=>Nat.beq a b && HU l m
 | _,_=>false
def LW(id2:Nat):PB→Bool
 | .normal=>true
 | .exit i=>Nat.beq i id2
 | .ret=>false
def SZ:AV→Bool
 | .bool _ | .int .. | .str _=>true
 | _=>false
def V4:List AV→List AV→Option (List AV)
 | [],[]=>some []
 | a::l,x::m=>(bif SZ x || Fx a x then some x else CU (Dg x) (some .junk)).bind fun c=>(V4 l m).bind fun r=>some (c::r)
 | _,_=>none
def Mu(var:List AV):List CX→List Nat
 | []=>[]
 | .var j::l=>match var[j]? with
  | some (.ptr (some (i,_)))=>i::Mu var l
  | _=>Mu var l
 | _::l=>Mu var l
def Fl(r:FP):Bool:=FL r.mode && (r.par.isNone && r.glob.isNone)
def qG(h:CT Cg):List Nat→CT Cg→Option (CT Cg)
 | [],t=>some t
 | i::l,t=>match h.get i with
  | some (.row r)=>CU (Fl r) (qG h l (t.set i (.row r)))
  | _=>none
def fK(W:List Nat)(n:Nat)(h:CT Cg):Option CO:=(qG h W (h.mapO MX)).bind fun t=>some ⟨n,t⟩
def KO(r q:FP):Bool:=Nat.beq q.n r.n && (Nat.beq q.elem r.elem && FL q.mode)
def Jd:List AV→List AV→Bool
 | [],[]=>true
 | a::l,b::m=>(SZ b || Fx a b) && Jd l m
 | _,_=>false
def Np(s q:CO):List Nat→Bool
 | []=>true
 | i::l=>(match rowAt s i,rowAt q i with
  | some r,some r'=>KO r r' && (match r.c.take 0 r.n,r'.c.take 0 r.n with
   | some a,some b=>IG (.agg a) (.agg b)
   | _,_=>false)
  | _,_=>false) && Np s q l
def YC(s q:CO):List Nat→Option (List (List AV))
 | []=>some []
 | i::l=>(rowAt s i).bind fun r=>(rowAt q i).bind fun r'=>CU (KO r r') ((r.c.take 0 r.n).bind fun a=>(r'.c.take 0 r.n).bind fun b=>CU (Jd a b) ((YC s q l).bind fun m=>some (b::m)))
def YR(h:CT Cg):List Nat→List (List AV)→Option (CT Cg)
 | [],[]=>some h
 | i::l,C::m=>match h.get i with
  | some (.row r)=>YR (h.set i (.row { r with c:=r.c.fill 0 C })) l m
  | _=>none
 | _,_=>none
def A0f:List (List AV)→List (List AV)→Bool
 | [],[]=>true
 | a::l,b::m=>IG (.agg a) (.agg b) && A0f l m
 | _,_=>false
inductive QF where
 | go
 | ret (X:List AV) (M:List (List AV))
def oA (l:List CK):List Nat:=List.rec [] (fun it _ ih=>match it.dst with
 | .set j=>j::ih
 | .push=>ih) l
def Nt:Ck→Option (List Nat)
 | .ops l=>some (oA l)
 | .seq a b=>(Nt a).bind fun x=>(Nt b).bind fun y=>some (x++y)
 | .cond _ a b=>(Nt a).bind fun x=>(Nt b).bind fun y=>some (x++y)
 | .block _ c=>Nt c
 | .loop c=>Nt c
 | .rangeFunc ..=>none
 | .rangeMap r c=>(Nt c).bind fun x=>some (r.jt::r.jok::r.jk::x)
 | _=>some []
def RY:List Nat→List AV→Option (List AV)
 | [],A=>some A
 | j::l,A=>CU (Dg (Hw A j)) (RY l (upd .junk A j))
def Eg (F:Gm) (rnd:Option Nat) (r:Ki) (body:Ck) (A:List AV) (W:List Nat) (marks:List Nat) (s:CO) (k:AV):Option QF:=
 (F.code rnd body (upd k (upd (.bool true) A r.jok) r.jk) marks s).bind fun q=>CU (HU q.marks marks) (match q.exit with
  | .ret=>(V4 A q.var).bind fun X=>(YC s q.st W).bind fun M=>some (.ret X M)
  | e=>CU (LW r.id2 e && (Po q.var A && Np s q.st W)) (some .go))
def Ij (f:AV→Option QF) (R:Option (List AV×List (List AV))):List (AV×AV)→Option (Option (List AV×List (List AV)))
 | []=>some R
 | e::l=>(f e.1).bind fun o=>match o with
  | .go=>Ij f R l
  | .ret X M=>match R with
   | none=>Ij f (some (X,M)) l
   | some Y=>CU (A0f Y.2 M) ((JM Y.1 X).bind fun Z=>Ij f (some (Z,Y.2)) l)
def Mn (F:Gm) (rnd:Option Nat) (r:Ki) (body:Ck) (it:AV) (marks:List Nat) (n:Nat) (h:CT Cg) (A0:List AV) (l:List (AV×AV)):Option Da:=
 (Nt body).bind fun J=>(RY (r.jok::r.jk::J) A0).bind fun A=>CU (IG (Hw A r.jt) it && IG (Hw A0 r.jt) it)
  ((fK (Mu A0 r.res) n h).bind fun s=>(Ij (Eg F rnd r body A (Mu A0 r.res) marks s) none l).bind fun R=>match R with
   | none=>some ⟨.normal,upd (.bool false) A r.jok,marks,⟨n,h⟩⟩
   | some Z=>(YR h (Mu A0 r.res) Z.2).bind fun h'=>some ⟨.ret,Z.1,marks,⟨n,h'⟩⟩)
def P6(s:CO):AV→Option (List (AV×AV))
 | .map (some i)=>match s.heap.get i with
  | some (.map _ es)=>some es
  | some (.mapRo _ es)=>some es
  | _=>none
 | _=>none
def eO (F:Gm) (rnd:Option Nat) (r:Ki) (body:Ck) (var:List AV) (marks:List Nat) (s:CO):Option Da:=
 (r.rd s (Fz [] var r.ad)).bind fun m=>(P6 s m).bind fun es =>
  Mn F rnd r body (.ptr (some (s.next,0))) marks (s.next+1) s.heap (upd (.ptr (some (s.next,0))) var r.jt) es
def FM (F:Gm) (rnd:Option Nat) (c:Ck) (var:List AV) (marks:List Nat) (s:CO):Option Da:=
 match c with
 | .skip=>some ⟨.normal,var,marks,s⟩
 | .ret=>some ⟨.ret,var,marks,s⟩
 | .exit id=>some ⟨.exit id,var,marks,s⟩
 | .never=>none
 | .ops l=>rK marks (Ia F l [] var s)
 | .seq a b=>M9 F rnd b (F.code rnd a var marks s)
 | .cond x a b=>W2 F rnd a b var marks s (Fz [] var x)
 | .block id body=>Q4 id (F.code rnd body var marks s)
 | .loop body=>M9 F rnd (.loop body) (F.code rnd body var marks s)
 | .rangeFunc fn f params assign body=>Q5 F rnd fn (Fz [] var f) params assign body var marks s
 | .rangeMap r body=>eO F rnd r body var marks s
def dS:PB→Bool
 | .normal | .ret=>true
 | .exit _=>false
def Px (P:Program) (cf:Cr) (r:Option Da):Option (AV×CO):=
 r.bind fun r=>bif dS r.exit then (EL r.st r.marks).bind fun s=>(Dj P s r.var cf.results).bind fun l=>some (DO l,s)else none
def Ku (P:Program) (F:Gm) (args:List AV) (s:CO) (cf:Option Cr):Option (AV×CO):=
 cf.bind fun cf=>bif Nat.beq args.length cf.na then Px P cf (F.code none cf.body (Ql args cf.nv) [] s)else none
def Ke (E:Dw) (F:Gm) (f:FuncId) (args:List AV) (s:CO):Option (AV×CO):=
 match E.nat f args s with
 | some p=>some p
 | none=>Ku E.P F args s (CY E.P f)
def K7:PB→Bool
 | .normal=>true
 | _=>false
def IC:Option Code→LoopState
 | none=>.ready
 | some _=>.done
def Nl(l:Nat)(q:Option Da):Option (AV×CO):=q.bind fun q=>(Df q.st l).bind fun r =>
 some (.bool (Ef q.exit).isNone,setObj q.st l (.loop { r with state:=IC (Ef q.exit),pending:=Ef q.exit }))
def Lk(F:Gm)(l:Nat)(cb:Ck)(q:Option Da):Option (AV×CO):=q.bind fun q=>bif K7 q.exit then
  (Df q.st l).bind fun r=>bif J7 r.state then Nl l (F.code (some l) cb q.var q.marks (setObj q.st l (.loop { r with state:=.busy })))else none
 else none
def Pj (E:Dw) (F:Gm) (l:Nat) (args:List AV) (s:CO):Option (AV×CO):=
 (Df s l).bind fun r=>(FW (Fu E.P r.fn) r.var r.params.toList args).bind fun var =>
  (HL E.P r.fn r.assign).bind fun ca=>(HL E.P r.fn r.body).bind fun cb=>Lk F l cb (F.code (some l) ca var [] s)
def A5m:Gm:=⟨fun _ _ _ _ _=>none,fun _ _ _=>none,fun _ _ _=>none⟩
def A5k (E:Dw) (F:Gm):Gm:=⟨FM F,Ke E F,Pj E F⟩
def FI (E:Dw) (n:Nat):Gm:=Nat.rec A5m (fun _ F=>A5k E F) n
structure RB where
 b:Nat
 off:Nat
 N:Nat
 sz:Nat
abbrev DV:=Nat→Option RB
mutual
inductive Cc (ρ:DV):AV→Value→Prop
 | bool (b:Bool):Cc ρ (.bool b) (.bool b)
 | int (k:IntKind) (n:Int):Cc ρ (.int k n) (.int k n)
 | str {l:List Nat} {s:ByteArray} (h:s.data.toList.map (fun(b:UInt8)=>b.toNat)=l):Cc ρ (.str l) (.string s)
 | ptrNil:Cc ρ (.ptr none) (.pointer none)
 | ptr {i o:Nat} {rb:RB} (h:ρ i=some rb):Cc ρ (.ptr (some (i,o))) (.pointer (some ⟨rb.b,rb.off+o,none⟩))
 | gptr (g o:Nat):Cc ρ (.gptr g o) (.pointer (some ⟨g,o,none⟩))
 | sliceNil:Cc ρ (.slice none 0 (some 0)) (.slice none 0 0)
 | slice {i o len c:Nat} {rb:RB} (h:ρ i=some rb) (hl:len≤c):Cc ρ (.slice (some (i,o)) len (some c)) (.slice (some ⟨rb.b,rb.off+o,none⟩) len c)
 | sliceOpen {i o len c:Nat} {rb:RB} (h:ρ i=some rb) (hs:0<rb.sz) (hl:len≤c) (h1:o+c * rb.sz≤rb.N) (h2:rb.N<o+(c+1) * rb.sz):
   Cc ρ (.slice (some (i,o)) len none) (.slice (some ⟨rb.b,rb.off+o,none⟩) len c)
 | sliceEnd {i o:Nat} {rb:RB} {a:Addr} (h:ρ i=some rb) (hs:0<rb.sz) (h1:o≤rb.N) (h2:rb.N<o+rb.sz):
   Cc ρ (.slice (some (i,o)) 0 none) (.slice (some a) 0 0)
 | mapNil:Cc ρ (.map none) (.map none)
 | map {i:Nat} {rb:RB} (h:ρ i=some rb):Cc ρ (.map (some i)) (.map (some rb.b))
 | func {f:FuncId} {a c:List AV} {a' c':Array Value} (ha:Cb ρ a a'.toList) (hc:Cb ρ c c'.toList):Cc ρ (.func f a c) (.func (.func f) a' c')
 | yield {i:Nat} {rb:RB} (h:ρ i=some rb):Cc ρ (.yield i) (.func (.yield rb.b) #[] #[])
 | nilFunc:Cc ρ .nilFunc .nilFunc
 | nilIface:Cc ρ .nilIface .nilIface
 | iface {t:TypeId} {v:AV} {v':Value} (h:Cc ρ v v'):Cc ρ (.iface t v) (.iface t v')
 | agg {cs:List AV} {cs':Array Value} (h:Cb ρ cs cs'.toList):Cc ρ (.agg cs) (.agg cs')
 | tuple {cs:List AV} {cs':Array Value} (h:Cb ρ cs cs'.toList):Cc ρ (.tuple cs) (.tuple cs')
 | any {v':Value} (h:v'.cells.toList=[v']):Cc ρ .junk v'
inductive Cb (ρ:DV):List AV→List Value→Prop
 | nil:Cb ρ [] []
 | cons {v:AV} {v':Value} {l:List AV} {l':List Value} (h:Cc ρ v v') (hs:Cb ρ l l'):Cb ρ (v::l) (v'::l')
end
def DV.le(ρ σ:DV):Prop:=∀i rb,ρ i=some rb→σ i=some rb
theorem DV.le_refl(ρ:DV):ρ.le ρ:=fun _ _ h=>h
theorem DV.le_trans{ρ σ τ:DV}(h:ρ.le σ)(k:σ.le τ):ρ.le τ:=fun i rb e=>k i rb (h i rb e)
mutual
theorem Cc.mono{ρ σ:DV}(le:ρ.le σ){v:AV}{v':Value}(h:Cc ρ v v'):Cc σ v v':=by
 cases h with
 | bool b=>exact .bool b
 | int k n=>exact .int k n
 | str h=>exact .str h
 | ptrNil=>exact .ptrNil
 | ptr h=>exact .ptr (le _ _ h)
 | gptr g o=>exact .gptr g o
 | sliceNil=>exact .sliceNil
 | slice h hl=>exact .slice (le _ _ h) hl
 | sliceOpen h hs hl h1 h2=>exact .sliceOpen (le _ _ h) hs hl h1 h2
 | sliceEnd h hs h1 h2=>exact .sliceEnd (le _ _ h) hs h1 h2
 | mapNil=>exact .mapNil
 | map h=>exact .map (le _ _ h)
 | func ha hc=>exact .func (Cb.mono le ha) (Cb.mono le hc)
 | yield h=>exact .yield (le _ _ h)
 | nilFunc=>exact .nilFunc
 | nilIface=>exact .nilIface
 | iface h=>exact .iface (Cc.mono le h)
 | agg h=>exact .agg (Cb.mono le h)
 | tuple h=>exact .tuple (Cb.mono le h)
 | any h=>exact .any h
theorem Cb.mono{ρ σ:DV}(le:ρ.le σ){v:List AV}{v':List Value}(h:Cb ρ v v'):Cb σ v v':=by
 cases h with
 | nil=>exact .nil
 | cons h hs=>exact .cons (Cc.mono le h) (Cb.mono le hs)
end
section lists
variable{ρ:DV}
theorem Cb.length{l:List AV}{l':List Value}(h:Cb ρ l l'):l.length=l'.length:=by
 induction l generalizing l' with
 | nil=>cases h;rfl
 | cons a l ih=>cases h with | cons h hs=>simp[ih hs]
theorem Cb.get{l:List AV}{l':List Value}(h:Cb ρ l l'){k:Nat}{v:AV}(hk:l[k]? = some v):∃v',l'[k]? = some v'∧Cc ρ v v':=by
  induction l generalizing l' k with
  | nil=>simp at hk
  | cons a l ih =>
    cases h with
    | cons h hs =>
      grind
theorem Cb.of_get{l:List AV}{l':List Value}(hl:l.length=l'.length)(h:∀ (k:Nat)(v:AV)(v':Value),l[k]? = some v→l'[k]? = some v'→Cc ρ v v'):Cb ρ l l':=by
  induction l generalizing l' with
  | nil=>cases l' with | nil=>exact .nil | cons=>simp at hl
  | cons a l ih =>
    cases l' with
    | nil=>simp at hl
    | cons a' l'=>exact .cons (h 0 a a' rfl rfl) (ih (by simpa using hl) fun k v v' h1 h2=>h (k+1) v v' (by simpa using h1) (by simpa using h2))
theorem Cb.append{l m:List AV}{l' m':List Value}(h:Cb ρ l l')(k:Cb ρ m m'):Cb ρ (l++m) (l'++m'):=by
 induction l generalizing l' with
 | nil=>cases h;exact k
 | cons a l ih=>cases h with | cons h hs=>exact .cons h (ih hs)
theorem Cb.take{l:List AV}{l':List Value}(h:Cb ρ l l')(n:Nat):Cb ρ (l.take n) (l'.take n):=by
  induction l generalizing l' n with
  | nil=>cases h;simp;exact .nil
  | cons a l ih =>
    cases h with
    | cons h hs=>cases n with
      | zero=>exact .nil
      | succ n=>exact .cons h (ih hs n)
theorem Cb.drop{l:List AV}{l':List Value}(h:Cb ρ l l')(n:Nat):Cb ρ (l.drop n) (l'.drop n):=by
  induction l generalizing l' n with
  | nil=>cases h;simp;exact .nil
  | cons a l ih =>
    cases h with
    | cons h hs=>cases n with
      | zero=>exact .cons h hs
      | succ n=>exact ih hs n
theorem Cc.cells{v:AV}{v':Value}(h:Cc ρ v v'):Cb ρ v.cells v'.cells.toList:=by
 cases h with
 | agg h=>exact h
 | bool b=>exact .cons (.bool b) .nil
 | int k n=>exact .cons (.int k n) .nil
 | str h=>exact .cons (.str h) .nil
 | ptrNil=>exact .cons .ptrNil .nil
 | ptr h=>exact .cons (.ptr h) .nil
 | gptr g o=>exact .cons (.gptr g o) .nil
 | sliceNil=>exact .cons .sliceNil .nil
 | slice h hl=>exact .cons (.slice h hl) .nil
 | sliceOpen h hs hl h1 h2=>exact .cons (.sliceOpen h hs hl h1 h2) .nil
 | sliceEnd h hs h1 h2=>exact .cons (.sliceEnd h hs h1 h2) .nil
 | mapNil=>exact .cons .mapNil .nil
 | map h=>exact .cons (.map h) .nil
 | func ha hc=>exact .cons (.func ha hc) .nil
 | yield h=>exact .cons (.yield h) .nil
 | nilFunc=>exact .cons .nilFunc .nil
 | nilIface=>exact .cons .nilIface .nil
 | iface h=>exact .cons (.iface h) .nil
 | tuple h=>exact .cons (.tuple h) .nil
 | any h=>rw[h];exact .cons (.any h) .nil
theorem Cc.oneCell{v:AV}{v':Value}(h:Cc ρ v v')(hc:v.isCell=true):v'.oneCell'=true:=by
 cases h<;>first | rfl | cases hc
theorem Cb.oneCell{l:List AV}{l':List Value}(h:Cb ρ l l')(hc:C3 l=true):∀v∈l',v.oneCell'=true:=by
  induction l generalizing l' with
  | nil=>cases h;simp
  | cons a l ih =>
    cases h with
    | cons h hs =>
      simp only[C3,A9W]at hc
      intro v hv
      rcases A8I.1 hv with rfl | hv
      · exact h.oneCell hc.1
      grind
end lists
theorem Nf(ρ:DV){v:Value}{a:AV}(h:Nd v=some a):Cc ρ a v:=by
 unfold Nd at h
 split at h<;>first
  | (injection h with h;subst h;first | exact .bool _ | exact .int _ _ | exact .str rfl | exact .ptrNil | exact .sliceNil | exact .mapNil | exact .nilFunc | exact .nilIface)
  | cases h
theorem JO(ρ:DV):∀ {l:List Value}{r:List AV},IK l=some r→Cb ρ r l
 | [],r,h=>by simp[IK]at h;subst h;exact .nil
 | v::l,r,h=>by
  simp only[IK,A8G]at h
  obtain⟨a,ha,r',hr,h⟩:=h
  injection h with h;subst h
  exact .cons (Nf ρ ha) (JO ρ hr)
theorem Ei(ρ:DV){v:Value}{a:AV}(h:ofValue v=some a):Cc ρ a v:=by
 unfold ofValue at h
 split at h
 ·simp only[A8G]at h
  obtain⟨l,hl,h⟩:=h
  injection h with h;subst h
  exact .agg (JO ρ hl)
 ·simp only[A8G]at h
  obtain⟨l,hl,h⟩:=h
  injection h with h;subst h
  exact .tuple (JO ρ hl)
 grind [Nf]
theorem Gk(ρ:DV):Cc ρ Cx undef:=.tuple .nil
theorem CM{α:Type}{b:Bool}{x:Option α}{a:α}(h:CU b x=some a):b=true∧x=some a:=by
 cases b with
 | true=>exact⟨rfl,h⟩
 | false=>cases h
inductive F1 (ρ:DV):List (AV×AV)→List MapEntry→Prop
 | nil:F1 ρ [] []
 | cons {k v:AV} {e:MapEntry} {l:List (AV×AV)} {l':List MapEntry} (hk:Cc ρ k e.key) (hv:Cc ρ v e.val) (hs:F1 ρ l l'):F1 ρ ((k,v)::l) (e::l')
theorem F1.mono{ρ σ:DV}(le:ρ.le σ){l:List (AV×AV)}{l':List MapEntry}(h:F1 ρ l l'):F1 σ l l':=by
 induction h with
 | nil=>exact .nil
 | cons hk hv _ ih=>exact .cons (hk.mono le) (hv.mono le) ih
theorem F1.length{ρ:DV}{l:List (AV×AV)}{l':List MapEntry}(h:F1 ρ l l'):l.length=l'.length:=by
 induction h with
 | nil=>rfl
 | cons _ _ _ ih=>simp[ih]
structure Kn(P:Program)(ρ:DV)(w:World)(kt:TypeId)(es:List (AV×AV))(rb:RB):Prop where
 ex:∃ (es':Array MapEntry) (clock:Nat),w.heap[rb.b]? = some (.map es' clock)∧MapKept.Stamped es' clock∧(∃l,l.Perm es'.toList∧F1 ρ es l)∧∀e∈es'.toList,∃l,keyOf P kt e.key=some l
structure Dr(ρ:DV)(w:World)(r:FP)(rb:RB):Prop where
 cells:∀k v,k<r.n→r.c.get k=some v→∃v',w.cell? ⟨rb.b,rb.off+k,none⟩=some v'∧Cc ρ v v'
 le:r.n≤rb.N
 sz:r.sz=rb.sz
 tight:r.spare=false→rb.N=r.n
 own:r.mode≠.ro→∃cs,w.heap[rb.b]? = some (.cells cs r.elem (0,0))∧rb.off+rb.N≤cs.size
 base:r.bytes=true→rb.off=0
 gl:∀g,r.glob=some g→rb.b=g∧rb.off=0∧∃cs e pl,w.heap[rb.b]? = some (.cells cs e pl)∧cs.size=rb.N
 par:∀p,r.par=some p→∃rp,ρ p=some rp
def HZ(ρ:DV)(vars:List Tmp)(var:List AV)(tmps:Array Value):Prop:=
 ∀ (t:Tmp) (k:Nat),DM vars t=some k→t<tmps.size∧∃v:AV,var[k]? = some v∧Cc ρ v (tmps.getD t undef)
end
end Go.Proofs.YtoaaclpjkelofaaGreatDoor.Am
set_option linter.all false
namespace Go.Proofs.YtoaaclpjkelofaaGreatDoor.Am
open Go
noncomputable section
theorem Jm{α:Type}{P:Program}{w:World}:∀ {s:Sem α}{a:α},Iu P s=some a→s.run P w=.ok a w:=by
 intro s
 induction s with
 | pure b=>simp_all[Iu]
 | program k ih=>grind [Iu,Sem.run]
 | mark m k ih=>grind [Iu,Sem.run]
 | load=>grind [Iu]
 | store=>grind [Iu]
 | new=>grind [Iu]
 | shape=>grind [Iu]
 | freeze=>grind [Iu]
 | frozen=>grind [Iu]
 | getObj=>grind [Iu]
 | setObj=>grind [Iu]
 | choose=>grind [Iu]
 | sys=>grind [Iu]
 | halt=>grind [Iu]
section types
variable{P:Program}{w:World}{t:TypeId}
theorem CW{d:TypeDesc}(h:P.underlying t=some d):(underlying t).run P w=.ok d w:=by simp[underlying,h]
theorem Lm{g:Bool}(h:GG P t=some g):(isAgg t).run P w=.ok g w:=by
 unfold GG at h
 split at h
 ·simp_all[isAgg,underlying]
 ·simp_all[isAgg,underlying]
 ·simp_all[isAgg,CW]
 ·cases h
theorem DT{n:Nat}(h:DZ P t=some n):(sizeOf t).run P w=.ok n w:=by
 unfold DZ at h
 split at h
 ·simp_all[sizeOf,typeInfo]
 ·cases h
theorem ge{n:Nat}(h:Fe P t=some n):∃i,(typeInfo t).run P w=.ok i w∧i.bytes=n:=by
 unfold Fe at h
 split at h
 ·simp_all[typeInfo]
 ·cases h
theorem Nm(ρ:DV){z:AV}(h:FV P t=some z):∃v,(zeroValue t).run P w=.ok v w∧Cc ρ z v:=by
  unfold FV at h
  split at h
  · split at h
    · simp_all[zeroValue,typeInfo,Ei]
    · cases h
  · cases h
end types
theorem QB{k:IntKind}{n:Int}(h:D7 k n=true):k.wrap n=n:=by
 have hb:k.min≤n∧n≤k.max:=by
  unfold D7 at h
  cases n with
  | ofNat m=>grind [Nat.ble_eq,IntKind.min,IntKind.max,IntKind.signed,IntKind.bits]
  | negSucc m=>grind [Nat.ble_eq,IntKind.min,IntKind.max,IntKind.signed,IntKind.bits]
 cases k<;>simp[IntKind.min,IntKind.max,IntKind.signed,IntKind.bits]at hb<;>simp only[IntKind.wrap,IntKind.signed,IntKind.bits]<;>simp<;>omega
theorem LS(k:IntKind)(n:Int):Kf k n=k.wrap n:=by
 grind [Kf,QB]
theorem Hq(a b:Int):WQ a b=decide (a<b):=by
 cases a with
 | ofNat a=>cases b with
  | ofNat b=>rw[A9e];simp_all[WQ]
  | negSucc b=>simp only[WQ];grind
 | negSucc a=>cases b with
  | ofNat b=>simp only[WQ];grind
  | negSucc b=>rw[A9e];simp only[WQ,A8Y,decide_eq_true_iff];omega
theorem Hn(a b:Int):Zn a b=(a == b):=by
 rw[A9e,beq_iff_eq]
 cases a with
 | ofNat a=>cases b with
  | ofNat b=>grind [Zn,Nat.beq_eq]
  | negSucc b=>simp[Zn]
 | negSucc a=>cases b with
  | ofNat b=>simp[Zn]
  | negSucc b=>grind [Zn,Nat.beq_eq]
theorem GC{k k':IntKind}(h:FS k k'=true):k=k':=by cases k<;>cases k'<;>first | rfl | cases h
theorem pB{n:Int}{m:Nat}(h:dY n=some m):n=(m:Int):=by cases n<;>simp[dY]at h;subst h;rfl
theorem nu{P:Program}{ρ:DV}{op:BinOp}{k:IntKind}{a b:Int}{v:AV}(h:nr P op k a b=some v)(t:TypeId)(w:World):
  ∃v',(Go.binOp op t (.int k a) (.int k b)).run P w=.ok v' w∧Cc ρ v v':=by
 unfold nr at h
 split at h
 case h_1=>injection h with h;subst h;exact⟨.int k (k.wrap (a+b)),by simp[Go.binOp,Op.intArith],by rw[LS];exact .int _ _⟩
 case h_2=>injection h with h;subst h;exact⟨.int k (k.wrap (a - b)),by simp[Go.binOp,Op.intArith],by rw[LS];exact .int _ _⟩
 case h_3=>injection h with h;subst h;exact⟨.int k (k.wrap (a * b)),by simp[Go.binOp,Op.intArith],by rw[LS];exact .int _ _⟩
 case h_4=>injection h with h;subst h;exact⟨.bool (a == b),by simp[Go.binOp,Op.intCmp],by rw[Hn];exact .bool _⟩
 case h_5=>injection h with h;subst h;exact⟨.bool (a != b),by simp[Go.binOp,Op.intCmp],by rw[Hn];exact .bool _⟩
 case h_6=>injection h with h;subst h;exact⟨.bool (a<b),by simp[Go.binOp,Op.intCmp],by rw[Hq];exact .bool _⟩
 case h_7=>injection h with h;subst h;exact⟨.bool (a≤b),by simp[Go.binOp,Op.intCmp],by rw[Hq,show(!decide (b<a))=decide (a≤b)from by grind];exact .bool _⟩
 case h_8=>injection h with h;subst h;exact⟨.bool (a > b),by simp[Go.binOp,Op.intCmp],by rw[Hq];exact .bool _⟩
 case h_9=>injection h with h;subst h;exact⟨.bool (a≥b),by simp[Go.binOp,Op.intCmp],by rw[Hq,show(!decide (a<b))=decide (a≥b)from by grind];exact .bool _⟩
 case h_10 =>
  simp only[A8G]at h
  obtain⟨u,hu,h⟩:=h
  simp_all[Jm,Go.binOp,Ei]
 case h_11 =>
  simp only[A8G]at h
  obtain⟨u,hu,h⟩:=h
  simp_all[Jm,Go.binOp,Ei]
 case h_12=>cases h
 case h_13=>cases h
 case h_14 =>
  simp only[A8G]at h
  obtain⟨u,hu,h⟩:=h
  refine⟨u,?_,Ei ρ h⟩
  have:=Jm (w:=w) hu
  rename_i n1 n2 n3 n4 n5 n6 n7 n8 n9 n10 n11 n12 n13
  cases op<;>first | (exfalso;simp at *;done) | grind [Go.binOp]
abbrev HS(l:List UInt8):List Nat:=l.map (fun(b:UInt8)=>b.toNat)
theorem toNat_inj{a b:UInt8}(h:a.toNat=b.toNat):a=b:=UInt8.toNat_inj.1 h
theorem Mr:∀ (x y:List UInt8),Fb (HS x) (HS y)=(x == y)
 | [],[]=>rfl
 | [],_::_=>rfl
 | _::_,[]=>rfl
 | a::x,b::y=>by
  simp only[HS,A8U,Fb]
  by_cases e:a=b
  ·subst e
   have:Nat.beq a.toNat a.toNat=true:=by simp[Nat.beq_eq]
   rw[this]
   have ih:=Mr x y
   grind
  grind [CT.beq_no,toNat_inj]
theorem Sk:∀ (x y:List UInt8),G0 (HS x) (HS y)=Op.bytesLess x y
 | [],[]=>rfl
 | [],_::_=>rfl
 | _::_,[]=>rfl
 | a::x,b::y=>by
  simp only[HS,A8U,G0,Op.bytesLess]
  have ih:=Sk x y
  simp only[HS]at ih
  have h1:Nat.blt a.toNat b.toNat=decide (a<b):=by rw[A9e];grind [Nat.blt_eq,UInt8.lt_iff_toNat_lt]
  have h2:Nat.beq a.toNat b.toNat=(a == b):=by
   rw[A9e,beq_iff_eq,Nat.beq_eq]
   grind [toNat_inj]
  grind
theorem Jn(s:ByteArray):(HS s.data.toList).length=s.size:=by simp[HS]
theorem qA{P:Program}{ρ:DV}{op:BinOp}{x y:ByteArray}{v:AV}(h:dr op (HS x.data.toList) (HS y.data.toList)=some v)(w:World):
  ∃v',(Op.stringOp op x y).run P w=.ok v' w∧Cc ρ v v':=by
 unfold dr at h
 rw[Mr,Sk,Jn,Jn]at h
 unfold Op.stringOp
 rw[ByteArray.toList_eq,ByteArray.toList_eq]
 split at h
 case h_1 =>
  obtain⟨hb,h⟩:=CM h
  injection h with h;subst h
  have hb':x.size+y.size≤1152921504606846976:=by simp_all
  refine⟨.string (x++y),?_,.str (by simp[HS])⟩
  have:¬ ((x.size+y.size:Nat):Int) > IntKind.i64.max:=by grind [IntKind.max,IntKind.bits]
  simp_all
 case h_2=>injection h with h;subst h;exact⟨_,rfl,.bool _⟩
 case h_3=>injection h with h;subst h;exact⟨_,rfl,.bool _⟩
 case h_4=>injection h with h;subst h;exact⟨_,rfl,.bool _⟩
 case h_5=>injection h with h;subst h;exact⟨_,rfl,.bool _⟩
 case h_6=>injection h with h;subst h;exact⟨_,rfl,.bool _⟩
 case h_7=>injection h with h;subst h;exact⟨_,rfl,.bool _⟩
 case h_8=>cases h
section
variable{P:Program}{ρ:DV}{w:World}
theorem PM{t:TypeId}(h:OZ P t=true):∃e,P.underlying t=some (.pointer e):=by
 grind [OZ]
theorem MF{t:TypeId}(h:NO P t=true):∃e,P.underlying t=some (.slice e):=by
 grind [NO]
theorem PL{t:TypeId}(h:OY P t=true):∃k e,P.underlying t=some (.map k e):=by
 grind [OY]
theorem J6{t:TypeId}(h:NN P t=true):∃a b c,P.underlying t=some (.func a b c):=by
 grind [NN]
theorem VZ{t:TypeId}(h:VY P t=true):P.underlying t=some .bool:=by
 grind [VY]
set_option maxHeartbeats 1000000 in
theorem A2u{t:TypeId}{x y:AV}{x' y':Value}{b:Bool}(h:sU P t x y=some b)(hx:Cc ρ x x')(hy:Cc ρ y y')(d:Nat):
  (Op.equalIn (d+1) t x' y').run P w=.ok b w:=by
 unfold sU at h
 split at h
 all_goals first | (cases h;done) | skip
 ·obtain⟨ht,h⟩:=CM h
  injection h with h;subst h
  cases hx;cases hy
  simp_all[Op.equalIn,CW,VZ]
 ·obtain⟨ht,h⟩:=CM h
  injection h with h;subst h
  obtain⟨e,ht⟩:=PM ht
  cases hx;cases hy<;>simp[Op.equalIn,CW ht]
 ·obtain⟨ht,h⟩:=CM h
  injection h with h;subst h
  obtain⟨e,ht⟩:=PM ht
  cases hy;cases hx<;>simp[Op.equalIn,CW ht]
 ·obtain⟨ht,h⟩:=CM h
  injection h with h;subst h
  obtain⟨e,ht⟩:=MF ht
  cases hx;cases hy<;>simp[Op.equalIn,CW ht]
 ·obtain⟨ht,h⟩:=CM h
  injection h with h;subst h
  obtain⟨e,ht⟩:=MF ht
  cases hy;cases hx<;>simp[Op.equalIn,CW ht]
 ·obtain⟨ht,h⟩:=CM h
  injection h with h;subst h
  obtain⟨k,e,ht⟩:=PL ht
  cases hx;cases hy<;>simp[Op.equalIn,CW ht]
 ·obtain⟨ht,h⟩:=CM h
  injection h with h;subst h
  obtain⟨k,e,ht⟩:=PL ht
  cases hy;cases hx<;>simp[Op.equalIn,CW ht]
 ·obtain⟨ht,h⟩:=CM h
  injection h with h;subst h
  obtain⟨a,b,c,ht⟩:=J6 ht
  cases hy;cases hx;simp_all[Op.equalIn,CW]
 ·obtain⟨ht,h⟩:=CM h
  injection h with h;subst h
  obtain⟨a,b,c,ht⟩:=J6 ht
  cases hy;cases hx;simp_all[Op.equalIn,CW]
 ·obtain⟨ht,h⟩:=CM h
  injection h with h;subst h
  obtain⟨a,b,c,ht⟩:=J6 ht
  cases hy;cases hx;simp_all[Op.equalIn,CW]
theorem nI{t:TypeId}{x y:AV}{x' y':Value}{b:Bool}(h:sU P t x y=some b)(hx:Cc ρ x x')(hy:Cc ρ y y'):
  (Op.equal t x' y').run P w=.ok b w:=A2u h hx hy 9999
def pT:Value→Bool
 | .nilIface | .agg _=>false
 | _=>true
theorem IW{x':Value}(h:pT x'=true)(op:BinOp)(t:TypeId)(ox oy:Operand)(y':Value):
  (eqGuard op t ox oy x' y').run P w=.ok () w:=by
 cases x'<;>first | (cases h;done) | (cases op<;>rfl)
theorem Th{t:TypeId}{x y:AV}{x':Value}{b:Bool}(h:sU P t x y=some b)(hx:Cc ρ x x'):pT x'=true:=by
 unfold sU at h
 split at h<;>first | (cases h;done) | (cases hx<;>rfl)
theorem bZ{op:BinOp}{t:TypeId}{x y v:AV}{x' y':Value}(h:Ch P op t x y=some v)(hx:Cc ρ x x')(hy:Cc ρ y y')(ox oy:Operand):
    ∃v',(do eqGuard op t ox oy x' y';Go.binOp op t x' y').run P w=.ok v' w∧Cc ρ v v':=by
  unfold Ch at h
  split at h
  · cases hx;cases hy
    rename_i k a k' b
    rw[Sem.run_bind,IW rfl]
    simp only[Result.andThen_ok]
    split at h
    · simp only[A8G]at h
      obtain⟨u,hu,h⟩:=h
      simp_all[Jm,Go.binOp,Ei]
    · simp only[A8G]at h
      obtain⟨u,hu,h⟩:=h
      simp_all[Jm,Go.binOp,Ei]
    · obtain⟨hk,h2⟩:=CM h
      have hkk:=GC hk
      simp_all[nu]
  · cases hx;cases hy
    rename_i a b s1 h1 s2 h2
    subst h1;subst h2
    rw[Sem.run_bind,IW rfl]
    simp only[Result.andThen_ok]
    obtain⟨v',h1,h2⟩:=qA (P:=P) (ρ:=ρ) h w
    refine⟨v',?_,h2⟩
    rw[← h1]
    cases op<;>first | rfl | (simp[dr]at h;done)
  · split at h
    · simp only[A8G]at h
      obtain⟨b,hb,h⟩:=h
      injection h with h;subst h
      rw[Sem.run_bind,IW (Th hb hx)]
      simp only[Result.andThen_ok]
      refine⟨.bool b,?_,.bool b⟩
      have he:=nI (w:=w) hb hx hy
      have:Go.binOp .eql t x' y'=(do pure (.bool (← Op.equal t x' y')):Sem Value):=by
        unfold sU at hb
        split at hb<;>first | (cases hb;done) | (cases hx<;>cases hy<;>rfl)
      simp_all
    · simp only[A8G]at h
      obtain⟨b,hb,h⟩:=h
      injection h with h;subst h
      rw[Sem.run_bind,IW (Th hb hx)]
      simp only[Result.andThen_ok]
      refine⟨.bool (!b),?_,.bool _⟩
      have he:=nI (w:=w) hb hx hy
      have:Go.binOp .neq t x' y'=(do pure (.bool (!(← Op.equal t x' y'))):Sem Value):=by
        unfold sU at hb
        split at hb<;>first | (cases hb;done) | (cases hx<;>cases hy<;>rfl)
      simp_all
    · cases h
theorem A3g{op:UnOp}{x v:AV}{x':Value}(h:Yu P op x=some v)(hx:Cc ρ x x'):
  ∃v',(Op.unary op x').run P w=.ok v' w∧Cc ρ v v':=by
 unfold Yu at h
 split at h
 ·cases hx
  rename_i k n
  split at h
  ·injection h with h;subst h
   exact⟨.int k (k.wrap (0 - n)),rfl,by rw[LS];exact .int _ _⟩
  ·simp only[A8G]at h
   obtain⟨u,hu,h⟩:=h
   simp_all[Jm,Ei]
  ·cases h
 ·cases hx
  split at h
  ·injection h with h;subst h
   exact⟨_,rfl,.bool _⟩
  ·cases h
 ·cases h
theorem Vq{x v:AV}{x':Value}(h:CV x=some v)(hx:Cc ρ x x')(ev:Operand→Value)(o:Oper)(y:Operand)(ho:o.op=.nilCheck y)(he:ev y=x'):
  ∃v',(execOp ev o).run P w=.ok (.value v') w∧Cc ρ v v':=by
 unfold CV at h
 split at h<;>first | (cases h;done) | skip
 injection h with h;subst h
 refine⟨x',?_,hx⟩
 cases hx<;>first | simp_all[execOp] | simp_all[execOp] | grind
theorem XJ{x v:AV}{i:Nat}{x':Value}(h:Ry x i=some v)(hx:Cc ρ x x'):
  ∃v',(Instr.extract x' i).run P w=.ok v' w∧Cc ρ v v':=by
 unfold Ry at h
 split at h<;>first | (cases h;done) | skip
 cases hx with
 | tuple hs =>
  rename_i cs'
  obtain⟨v',h1,h2⟩:=hs.get h
  simp_all[Instr.extract]
theorem X4{t:TypeId}{cs:List AV}{cs':Array Value}{off:Nat}{v:AV}(h:da P t cs off=some v)(hc:Cb ρ cs cs'.toList):
  ∃v',(part t cs' off).run P w=.ok v' w∧Cc ρ v v':=by
 unfold da at h
 simp only[A8G]at h
 obtain⟨g,hg,h⟩:=h
 cases g with
 | true =>
  simp only[A8G]at h
  obtain⟨n,hn,h⟩:=h
  injection h with h;subst h
  refine⟨.agg (cs'.extract off (off+n)),by simp_all[part,Lm,DT],.agg ?_⟩
  have:(cs'.extract off (off+n)).toList=(cs'.toList.drop off).take n:=by
   simp_all
  rw[this]
  exact(hc.drop off).take n
 | false =>
  obtain⟨v',h1,h2⟩:=hc.get h
  simp_all[part,Lm]
theorem RV{x:AV}{x':Value}{k:Nat}(h:idxOf x=some k)(hx:Cc ρ x x'):∃kd,x'=.int kd (k:Int):=by
 unfold idxOf at h
 split at h<;>first | (cases h;done) | skip
 cases hx
 rename_i kd n
 exact⟨kd,by rw[pB h]⟩
theorem fJ{t:TypeId}{x v:AV}{x':Value}{f:Nat}(h:GT P t x f=some v)(hx:Cc ρ x x'):
  ∃v',(Instr.field t x' f).run P w=.ok v' w∧Cc ρ v v':=by
 unfold GT at h
 split at h<;>first | (cases h;done) | skip
 split at h<;>first | (cases h;done) | skip
 rename_i fs hfs
 simp only[A8G]at h
 obtain⟨fd,hfd,h⟩:=h
 cases hx with
 | agg hs =>
  obtain⟨v',h1,h2⟩:=X4 (w:=w) h hs
  simp_all[Instr.field,CW,asAgg]
theorem fP{t:TypeId}{x ix v:AV}{x' ix':Value}(h:Zv P t x ix=some v)(hx:Cc ρ x x')(hi:Cc ρ ix ix'):
    ∃v',(Instr.index t x' ix').run P w=.ok v' w∧Cc ρ v v':=by
  unfold Zv at h
  simp only[A8G]at h
  obtain⟨k,hk,h⟩:=h
  obtain⟨kd,rfl⟩:=RV hk hi
  split at h<;>first | (cases h;done) | skip
  · split at h<;>first | (cases h;done) | skip
    rename_i len e he
    simp only[A8G]at h
    obtain⟨n,hn,h⟩:=h
    obtain⟨hlt,h⟩:=CM h
    have hlt':k<len:=by simp_all
    cases hx with
    | agg hs =>
      obtain⟨v',h1,h2⟩:=X4 (w:=w) h hs
      simp_all[Instr.index,asIntOf,CW,DT]
  · split at h <;> first | (cases h; done) | skip
    rename_i l _ he
    simp only[A8G]at h
    obtain⟨b,hb,h⟩:=h
    injection h with h;subst h
    cases hx with
    | str hs =>
      rename_i s
      subst hs
      rw[A8j]at hb
      simp only[Option.map_eq_some_iff]at hb
      obtain⟨u,hu,rfl⟩:=hb
      refine⟨.int .u8 u.toNat,?_,.int _ _⟩
      have h0:(0:Int)≤(k:Int):=by omega
      have:s[k]? = some u:=by
        rw[← hu]
        rcases A8N k s.size with hlt | hge
        · rw [getElem?_pos s k hlt, A8O                      (by simpa using hlt)]
          rfl
        simp_all
      simp_all[Instr.index,asIntOf,CW]
end
structure Km(P:Program)(ρ:DV)(w:World)(l:Fv)(rb:RB):Prop where
 ex:∃L:Loop,w.heap[rb.b]? = some (.loop L)∧L.state=l.state∧L.pending=l.pending∧L.params=l.params∧L.assign=l.assign∧L.body=l.body ∧
  (∃rd,ρ l.dfr=some rd∧L.defers=rd.b)∧HZ ρ (Fu P l.fn) l.var L.tmps∧(∀fn,P.funcs[l.fn]? = some fn→fn.ntmps≤L.tmps.size)∧l.var.length=(Fu P l.fn).length
def Gq(P:Program)(ρ:DV)(w:World):Cg→RB→Prop
 | .row r,rb=>Dr ρ w r rb
 | .map kt es,rb=>Kn P ρ w kt es rb
 | .mapRo kt es,rb=>Kn P ρ w kt es rb
 | .loop l,rb=>Km P ρ w l rb
 | .mark,rb=>w.heap[rb.b]? = some (.deferred (some []))
 | .iter _ _,_=>False
def wr:Cg→Bool
 | .row r=>FL r.mode
 | .mapRo _ _=>false
 | _=>true
def Ih:Cg→Option Nat
 | .row r=>r.par
 | _=>none
def Hp:Cg→Option Nat
 | .row r=>r.glob
 | _=>none
structure DU(P:Program)(ρ:DV)(s:CO)(w:World):Prop where
 obj:∀i o rb,s.heap.get i=some o→ρ i=some rb→Gq P ρ w o rb
 lt:∀i rb,ρ i=some rb→rb.b<w.heap.size
 sep:∀i j oi oj ri rj,i≠j→s.heap.get i=some oi→s.heap.get j=some oj→ρ i=some ri→ρ j=some rj→ri.b=rj.b→wr oj=true→Ih oj=some i∧wr oi=false
 glb:∀i o g,s.heap.get i=some o→Hp o=some g→∃rb,ρ i=some rb
def Hg(ρ:DV)(s:CO)(b:Nat):Prop:=∃i o rb,s.heap.get i=some o∧wr o=true∧ρ i=some rb∧rb.b=b
structure Fr(ρ:DV)(s:CO)(w:World)(ρ':DV)(s':CO)(w':World):Prop where
 le:ρ.le ρ'
 fresh:∀i,ρ i=none→(i<s.next∨s'.next≤i)→ρ' i=none
 next:s.next≤s'.next
 size:w.heap.size≤w'.heap.size
 os:w'.os=w.os
 tape:w'.tape=w.tape
 output:w'.output=w.output
 keep:∀b,b<w.heap.size→¬ Hg ρ s b→w'.heap[b]? = w.heap[b]?
 own:∀b,Hg ρ' s' b→Hg ρ s b∨w.heap.size≤b
 unborn:∀i,ρ i=none→(i<s.next∨s'.next≤i)→s'.heap.get i=s.heap.get i
 blk:∀i rb,ρ' i=some rb→ρ i=none→w.heap.size≤rb.b∨∃j o rj,s.heap.get j=some o∧ρ j=some rj∧rj.b=rb.b
 dom:∀i o rb,s'.heap.get i=some o→ρ i=some rb→∃o',s.heap.get i=some o'
theorem SE{ρ:DV}{p:Prop}(i:Nat)(rb:RB)(h:ρ i=some rb)(h':ρ i=none):p:=by rw[h']at h;cases h
section
variable{P:Program}{ρ ρ1 ρ2:DV}{s s1 s2:CO}{w w1 w2:World}
theorem Fr.refl(ρ:DV)(s:CO)(w:World):Fr ρ s w ρ s w:=
 ⟨DV.le_refl ρ,fun _ h _=>h,A8H _,A8H _,rfl,rfl,rfl,fun _ _ _=>rfl,fun _ h=>.inl h,fun _ _ _=>rfl,fun i rb=>SE i rb,fun _ o _ h _=>⟨o,h⟩⟩
theorem Fr.trans(h:Fr ρ s w ρ1 s1 w1)(k:Fr ρ1 s1 w1 ρ2 s2 w2):Fr ρ s w ρ2 s2 w2 where
  le:=DV.le_trans h.le k.le
  fresh:=fun i hi hr=>k.fresh i (h.fresh i hi (hr.imp id (fun h'=>A8Z k.next h'))) (hr.imp (fun h'=>A8L h' h.next) id)
  next:=A8Z h.next k.next
  size:=A8Z h.size k.size
  os:=k.os.trans h.os
  tape:=k.tape.trans h.tape
  output:=k.output.trans h.output
  keep:=fun b hb ho=>(k.keep b (A8L hb h.size) (fun ho1=>(h.own b ho1).elim ho (fun hge=>by omega))).trans (h.keep b hb ho)
  own:=fun b hb=>(k.own b hb).elim (fun h1=>h.own b h1) (fun hge=>.inr (A8Z h.size hge))
  unborn:=fun i hi hr=>(k.unborn i (h.fresh i hi (hr.imp id (fun h'=>A8Z k.next h'))) (hr.imp (fun h'=>A8L h' h.next) id)).trans (h.unborn i hi (hr.imp id (fun h'=>A8Z k.next h')))
  blk:=fun i rb hi h0=>by
    cases h1:ρ1 i with
    | some rb1 =>
      have:=k.le _ _ h1
      rw[hi]at this
      injection this with this
      subst this
      exact h.blk i _ h1 h0
    | none =>
      rcases k.blk i rb hi h1 with h2 | ⟨j,o,rj,h2,h3,h4⟩
      · exact .inl (A8Z h.size h2)
      · cases h5:ρ j with
        | none=>rw[← h4];exact h.blk j rj h3 h5
        | some rj0 =>
          have:=h.le _ _ h5
          rw[h3]at this
          injection this with this
          subst this
          obtain⟨o',h6⟩:=h.dom j o _ h2 h5
          grind
  dom:=fun i o rb h2 h0=>by
    obtain⟨o1,h3⟩:=k.dom i o rb h2 (h.le _ _ h0)
    exact h.dom i o1 rb h3 h0
theorem Ju{a:Addr}(h:w1.heap[a.block]? = w.heap[a.block]?):w1.cell? a=w.cell? a:=by simp[World.cell?,h]
theorem HZ.mono{σ:DV}(le:ρ.le σ){vars:List Tmp}{var:List AV}{tmps:Array Value}(h:HZ ρ vars var tmps):HZ σ vars var tmps:=
 fun t k hk=>let ⟨h1,v,h2,h3⟩:=h t k hk;⟨h1,v,h2,h3.mono le⟩
theorem Gq.mono{o:Cg}{rb:RB}(h:Gq P ρ w o rb)(le:ρ.le ρ1)(hk:w1.heap[rb.b]? = w.heap[rb.b]?):Gq P ρ1 w1 o rb:=by
  cases o with
  | row r =>
    exact⟨fun k v hk' hv=>by
        obtain⟨v',h1,h2⟩:=h.cells k v hk' hv
        exact⟨v',(Ju (a:=⟨rb.b,_,none⟩) hk).trans h1,h2.mono le⟩,
      h.le,h.sz,h.tight,fun hm=>by
        obtain⟨cs,h1,h2⟩:=h.own hm
        grind,h.base,fun g hg=>let ⟨a1,a2,cs,e,pl,a3,a4⟩:=h.gl g hg;⟨a1,a2,cs,e,pl,hk.trans a3,a4⟩,fun p hp=>let ⟨rp,h1⟩:=h.par p hp;⟨rp,le _ _ h1⟩⟩
  | map kt es =>
    obtain⟨es',clock,h1,h2,⟨l,h3,h4⟩,h5⟩:=h.ex
    exact⟨es',clock,hk.trans h1,h2,⟨l,h3,h4.mono le⟩,h5⟩
  | mapRo kt es =>
    obtain⟨es',clock,h1,h2,⟨l,h3,h4⟩,h5⟩:=h.ex
    exact⟨es',clock,hk.trans h1,h2,⟨l,h3,h4.mono le⟩,h5⟩
  | loop l =>
    obtain⟨L,h0,h1,h2,h4,h5,h6,⟨rd,h7,h7'⟩,h8,h9⟩:=h.ex
    exact⟨L,hk.trans h0,h1,h2,h4,h5,h6,⟨rd,le _ _ h7,h7'⟩,h8.mono le,h9⟩
  | mark=>exact hk.trans h
  | iter=>exact h
def EX(ρ:DV)(i:Nat)(rb:RB):DV:=fun j=>if j=i then some rb else ρ j
theorem Cf(i:Nat)(rb:RB):EX ρ i rb i=some rb:=by simp[EX]
theorem CZ{i j:Nat}(rb:RB)(h:j≠i):EX ρ i rb j=ρ j:=by simp[EX,h]
theorem Dc{i:Nat}{rb:RB}(h:ρ i=none):ρ.le (EX ρ i rb):=fun j r hj=>by
 grind [CZ]
theorem DC(s:CO)(o:Cg)(j:Nat):(newObj s o).heap.get j=if j=s.next then some o else s.heap.get j:=CT.get_set _ _ _ _
theorem EG(s:CO)(i:Nat)(o:Cg)(j:Nat):(setObj s i o).heap.get j=if j=i then some o else s.heap.get j:=CT.get_set _ _ _ _
theorem Dq(s:CO)(i j:Nat):(Eo s i).heap.get j=if j=i then none else s.heap.get j:=CT.get_del _ _ _
theorem JJ{o:Obj}{b:Nat}(h:b<w.heap.size):(w.alloc o).heap[b]? = w.heap[b]? :=
 Go.RowKit.Below.heap_alloc w o b h
theorem DU.new(h:DU P ρ s w){o:Cg}{o':Obj}{rb:RB}(hf:ρ s.next=none)(hb:rb.b=w.heap.size)
    (ho:Gq P (EX ρ s.next rb) (w.alloc o') o rb):
    DU P (EX ρ s.next rb) (newObj s o) (w.alloc o')∧Fr ρ s w (EX ρ s.next rb) (newObj s o) (w.alloc o'):=by
  have hle:=Dc (rb:=rb) hf
  have hglb:∀i oi g,(newObj s o).heap.get i=some oi→Hp oi=some g→∃r,EX ρ s.next rb i=some r:=by
    intro i oi g hi hg
    rw[DC]at hi
    by_cases e:i=s.next
    · simp_all[Cf]
    · rw[if_neg e]at hi
      obtain⟨r,hr⟩:=h.glb i oi g hi hg
      exact⟨r,hle _ _ hr⟩
  refine⟨⟨?_,?_,?_,hglb⟩,?_⟩
  · intro i oi ri hi hr
    rw[DC]at hi
    by_cases e:i=s.next
    · simp_all[Cf]
    · rw [if_neg e] at hi
      rw[CZ rb e]at hr
      exact(h.obj i oi ri hi hr).mono hle (JJ (h.lt i ri hr))
  · intro i ri hr
    by_cases e:i=s.next
    · simp_all[Cf]
    · rw[CZ rb e]at hr
      have:=h.lt i ri hr
      simp;omega
  · intro i j oi oj ri rj hne hi hj hri hrj hbb hw
    rw[DC]at hi hj
    by_cases ei:i=s.next
    · subst ei
      have ej:j≠s.next:=fun e=>hne e.symm
      rw[Cf]at hri
      rw[CZ rb ej]at hrj
      injection hri with hri
      subst hri
      have:=h.lt j rj hrj
      omega
    · by_cases ej : j = s.next
      · subst ej
        rw[CZ rb ei]at hri
        rw[Cf]at hrj
        injection hrj with hrj
        subst hrj
        have:=h.lt i ri hri
        omega
      · rw [if_neg ei] at hi
        rw[if_neg ej]at hj
        rw[CZ rb ei]at hri
        rw[CZ rb ej]at hrj
        exact h.sep i j oi oj ri rj hne hi hj hri hrj hbb hw
  · refine ⟨hle, ?_, by simp [newObj], by simp, rfl, rfl, rfl, fun b hb _ => JJ            hb, ?_, ?_, fun i r hi h0 => ?_, fun i oi r hi h0 => ?_⟩
    · grind [newObj,CZ]
    · rintro b ⟨i, oi, ri, hi, hw, hr, rfl⟩
      rw[DC]at hi
      by_cases e:i=s.next
      · grind [Cf]
      · rw [if_neg e] at hi
        rw[CZ rb e]at hr
        exact .inl ⟨i,oi,ri,hi,hw,hr,rfl⟩
    · intro i _ hi
      rw[DC,if_neg (by grind [newObj])]
    · grind [Cf,CZ]
    · rw[DC]at hi
      grind
theorem DU.set(h:DU P ρ s w){i:Nat}{o o1:Cg}{rb:RB}(hg:s.heap.get i=some o)(hr:ρ i=some rb)(hw:wr o=true)(hp:∀p,Ih o=some p→p≠i→s.heap.get p=none)
    (hp1:Ih o1=none) (hsz:w1.heap.size=w.heap.size) (hkeep:∀b,b≠rb.b→w1.heap[b]? = w.heap[b]?) (hos:w1.os=w.os) (htape:w1.tape=w.tape) (hout:w1.output=w.output)
    (ho:Gq P ρ w1 o1 rb):DU P ρ (setObj s i o1) w1∧Fr ρ s w ρ (setObj s i o1) w1:=by
  have hsep:∀j oj rj,j≠i→s.heap.get j=some oj→ρ j=some rj→rj.b≠rb.b:=by
    intro j oj rj hne hj hrj e
    have:=hp j (h.sep j i oj o rj rb hne hj hg hrj hr e hw).1 hne
    grind
  have hglb:∀j oj g,(setObj s i o1).heap.get j=some oj→Hp oj=some g→∃r,ρ j=some r:=by
    intro j oj g hj hg
    rw[EG]at hj
    by_cases e:j=i
    · grind
    · rw[if_neg e]at hj
      exact h.glb j oj g hj hg
  refine⟨⟨?_,?_,?_,hglb⟩,?_⟩
  · intro j oj rj hj hrj
    rw[EG]at hj
    by_cases e:j=i
    · grind
    · rw[if_neg e]at hj
      exact(h.obj j oj rj hj hrj).mono (DV.le_refl ρ) (hkeep _ (hsep j oj rj e hj hrj))
  · intro j rj hrj
    rw[hsz];exact h.lt j rj hrj
  · intro j k oj ok rj rk hne hj hk hrj hrk hbb hwk
    rw[EG]at hj hk
    by_cases ej:j=i
    · grind
    · by_cases ek : k = i
      · grind
      · rw [if_neg ej] at hj
        rw[if_neg ek]at hk
        exact h.sep j k oj ok rj rk hne hj hk hrj hrk hbb hwk
  · refine ⟨DV.le_refl  ρ, fun _ h _ => h, A8H         _, by omega, hos, htape, hout, ?_, ?_, ?_, fun i rb => SE    i rb, fun j oj rj hj _ => ?_⟩
    · intro b _ hno
      exact hkeep b (fun e=>hno ⟨i,o,rb,hg,hw,hr,e.symm⟩)
    · rintro b ⟨j, oj, rj, hj, hwj, hrj, rfl⟩
      rw[EG]at hj
      by_cases e:j=i
      · subst e
        rw[hr]at hrj
        injection hrj with hrj
        subst hrj
        exact .inl ⟨j,o,rb,hg,hw,hr,rfl⟩
      · rw[if_neg e]at hj
        exact .inl ⟨j,oj,rj,hj,hwj,hrj,rfl⟩
    · intro j hrj _
      rw[EG,if_neg]
      grind
    · rw[EG]at hj
      grind
theorem DU.del(h:DU P ρ s w){i:Nat}{rb:RB}(hr:ρ i=some rb):DU P ρ (Eo s i) w∧Fr ρ s w ρ (Eo s i) w:=by
  have hglb:∀j oj g,(Eo s i).heap.get j=some oj→Hp oj=some g→∃r,ρ j=some r:=by
    intro j oj g hj hg
    rw[Dq]at hj
    by_cases e:j=i
    · grind
    · rw[if_neg e]at hj
      exact h.glb j oj g hj hg
  refine⟨⟨?_,h.lt,?_,hglb⟩,⟨DV.le_refl ρ,fun _ h _=>h,A8H _,A8H _,rfl,rfl,rfl,fun _ _ _=>rfl,?_,?_,fun i rb=>SE i rb,fun j oj rj hj _=>(by
    simp_all[Dq])⟩⟩
  · intro j oj rj hj hrj
    rw[Dq]at hj
    by_cases e:j=i
    · grind
    · rw[if_neg e]at hj
      exact h.obj j oj rj hj hrj
  · intro j k oj ok rj rk hne hj hk
    rw[Dq]at hj hk
    by_cases ej:j=i
    · grind
    · by_cases ek : k = i
      · grind
      · rw [if_neg ej] at hj
        rw[if_neg ek]at hk
        exact h.sep j k oj ok rj rk hne hj hk
  · rintro b ⟨j, oj, rj, hj, hwj, hrj, rfl⟩
    rw[Dq]at hj
    by_cases e:j=i
    · grind
    · rw[if_neg e]at hj
      exact .inl ⟨j,oj,rj,hj,hwj,hrj,rfl⟩
  · intro j hrj _
    rw[Dq,if_neg]
    grind
theorem DW{i:Nat}{r:FP}(h:rowAt s i=some r):s.heap.get i=some (.row r):=by
 grind [rowAt]
theorem FA(b o k:Nat):(⟨b,o,none⟩:Addr).add k=⟨b,o+k,none⟩:=by grind [Addr.add]
theorem FR(h:DU P ρ s w){i off n:Nat}{l:List AV}{rb:RB}(hr:ρ i=some rb)(hl:Di s i off n=some l):
  ∃l':List Value,Cb ρ l l'∧l'.length=n∧∀w1:World,w1.heap=w.heap→(loadCells ⟨rb.b,rb.off+off,none⟩ n).run P w1=.ok l'.toArray w1:=by
 unfold Di at hl
 simp only[A8G]at hl
 obtain⟨r,hrow,hl⟩:=hl
 obtain⟨hb,hl⟩:=CM hl
 have hb:off+n≤r.n:=by simp_all
 have hok:Dr ρ w r rb:=h.obj i _ rb (DW hrow) hr
 have hlen:=CT.take_length hl
 have hc:∀k,k<n→∃v v',l[k]? = some v∧w.cell? ⟨rb.b,rb.off+off+k,none⟩=some v'∧Cc ρ v v':=by
  intro k hk
  have hv:l[k]? = some l[k]:=A8O (by omega)
  have hg:=CT.take_get hl k hk
  rw[hv]at hg
  obtain⟨v',h1,h2⟩:=hok.cells (off+k) _ (by omega) hg
  grind
 let f:Nat→Value:=fun k=>(w.cell? ⟨rb.b,rb.off+off+k,none⟩).getD undef
 have hf:∀k,k<n→w.cell? ⟨rb.b,rb.off+off+k,none⟩=some (f k):=by
  grind
 refine⟨(List.range n).map f,?_,by simp,?_⟩
 ·grind [Cb.of_get]
 grind [run_loadCells,FA,Ju]
theorem Hj(h:DU P ρ s w){i off:Nat}{v:AV}{rb:RB}(hr:ρ i=some rb)(hl:FQ s i off=some v):
  ∃v',Cc ρ v v'∧w.cell? ⟨rb.b,rb.off+off,none⟩=some v':=by
 unfold FQ at hl
 simp only[A8G]at hl
 obtain⟨r,hrow,hl⟩:=hl
 obtain⟨hb,hl⟩:=CM hl
 have hb:off<r.n:=by simp_all
 have hok:Dr ρ w r rb:=h.obj i _ rb (DW hrow) hr
 obtain⟨v',h1,h2⟩:=hok.cells off v hb hl
 exact⟨v',h2,h1⟩
theorem R8(h:DU P ρ s w){t:TypeId}{a v:AV}{a':Value}(hl:CJ P s t a=some v)(ha:Cc ρ a a'):
    ∃v',(Instr.loadAt t a').run P w=.ok v' w∧Cc ρ v v'∧∃ad,a'=.pointer (some ad)∧(loadVar t ad).run P w=.ok v' w:=by
  unfold CJ at hl
  split at hl<;>first | (cases hl;done) | skip
  · rename_i i o
    cases ha
    simp only[A8G]at hl
    obtain⟨r,hgr,g,hg,hl⟩:=hl
    have hrow:rowAt s i=some r∧r.glob=some i:=by
      grind [VV,Option.bind_eq_some_iff,CM,Nat.eq_of_beq_eq_true]
    obtain⟨rb,hr⟩:=h.glb i _ i (DW hrow.1) hrow.2
    have hok:Dr ρ w r rb:=h.obj i _ rb (DW hrow.1) hr
    obtain⟨hb,ho,_⟩:=hok.gl i hrow.2
    cases g with
    | true =>
      simp only[A8G]at hl
      obtain⟨n,hn,l,hl,hv⟩:=hl
      injection hv with hv;subst hv
      obtain⟨l',h1,h2,h3⟩:=FR h hr hl
      rw[hb,ho,A8V]at h3
      have hrun:(loadVar t ⟨i,o,none⟩).run P w=.ok (.agg l'.toArray) w:=by
        simp_all[loadVar,Lm,DT]
      exact⟨.agg l'.toArray,by grind [Instr.loadAt,Instr.sureAddr],.agg (by simpa using h1),_,rfl,hrun⟩
    | false =>
      obtain⟨v',h1,h2⟩:=Hj h hr hl
      simp_all[loadVar,Lm,Instr.loadAt,Instr.sureAddr]
  rename_i i o
  cases ha with
  | ptr hr =>
    rename_i rb
    simp only[A8G]at hl
    obtain⟨g,hg,hl⟩:=hl
    cases g with
    | true =>
      simp only[A8G]at hl
      obtain⟨n,hn,l,hl,hv⟩:=hl
      injection hv with hv;subst hv
      obtain⟨l',h1,h2,h3⟩:=FR h hr hl
      have hrun:(loadVar t ⟨rb.b,rb.off+o,none⟩).run P w=.ok (.agg l'.toArray) w:=by
        simp_all[loadVar,Lm,DT]
      exact⟨.agg l'.toArray,by grind [Instr.loadAt,Instr.sureAddr],.agg (by simpa using h1),_,rfl,hrun⟩
    | false =>
      obtain⟨v',h1,h2⟩:=Hj h hr hl
      simp_all[loadVar,Lm,Instr.loadAt,Instr.sureAddr]
end
section
variable{P:Program}{ρ ρ1 ρ2:DV}{s s1 s2:CO}{w w1 w2:World}
theorem oh{e:TypeId}{sz:Nat}{l:List AV}{cs:Array Value}(hl:Cb ρ l cs.toList)(b:Nat)(hb:w.heap[b]? = some (.cells cs e (0,0))):
  Gq P ρ w (PR e sz l) ⟨b,0,l.length,sz⟩:=by
 have hlen:=hl.length
 refine⟨?_,A8H _,rfl,fun _=>rfl,fun _=>⟨cs,hb,by simp[hlen]⟩,fun _=>rfl,(fun g hg=>by cases hg),fun p hp=>by cases hp⟩
 intro k v hk hv
 simp only[CT.get_fill,A8T,A8V,A9S,Nat.sub_zero]at hv
 rw[if_pos hk]at hv
 obtain⟨v',h1,h2⟩:=hl.get hv
 simp_all[World.cell?]
theorem Le(h:DU P ρ s w)(hf:ρ s.next=none){e:TypeId}{sz:Nat}{l:List AV}{cs:Array Value}(hl:Cb ρ l cs.toList):
  ∃ρ',ρ' s.next=some ⟨w.heap.size,0,l.length,sz⟩∧DU P ρ' (newObj s (PR e sz l)) (w.alloc (.cells cs e))∧Fr ρ s w ρ' (newObj s (PR e sz l)) (w.alloc (.cells cs e)):=by
 have hle:=Dc (rb:=⟨w.heap.size,0,l.length,sz⟩) hf
 obtain⟨h1,h2⟩:=h.new (o:=PR e sz l) (o':=.cells cs e) (rb:=⟨w.heap.size,0,l.length,sz⟩) hf rfl
  (oh (hl.mono hle) _ (World.alloc_heap_new w _))
 grind [Cf]
theorem IP(h:DU P ρ s w){i off:Nat}{vs:List AV}{vs':List Value}{rb:RB}(hr:ρ i=some rb)(hs:EC s i off vs=some s1)(hv:Cb ρ vs vs'):
    ∃w1,(storeCells ⟨rb.b,rb.off+off,none⟩ vs').run P w=.ok () w1∧DU P ρ s1 w1∧Fr ρ s w ρ s1 w1:=by
  cases vs with
  | nil =>
    cases hv
    simp only[EC]at hs
    injection hs with hs
    subst hs
    exact⟨w,rfl,h,Fr.refl _ _ _⟩
  | cons v0 vs0 =>
    have hsv:EC s i off (v0::vs0)=(rowAt s i).bind fun r =>
      CU (FL r.mode && Nat.ble (off+(v0::vs0).length) r.n && C3 (v0::vs0))
        (some (setObj (Dm s i r) i (.row { r with c:=r.c.fill off (v0::vs0),par:=none }))):=rfl
    rw[hsv]at hs
    generalize v0::vs0=vs at hs hv
    simp only[A8G]at hs
    obtain⟨r,hrow,hs⟩:=hs
    obtain⟨hb,hs⟩:=CM hs
    injection hs with hs
    subst hs
    simp only[A9W,A8Q]at hb
    obtain⟨⟨hown,hle⟩,hall⟩:=hb
    have hg:=DW hrow
    have hok:Dr ρ w r rb:=h.obj i _ rb hg hr
    have hmode:r.mode≠.ro:=fun e=>by rw[e]at hown;cases hown
    obtain⟨cs,hblk,hsz⟩:=hok.own hmode
    obtain⟨e,he0⟩:∃e,r.elem=e:=⟨_,rfl⟩
    rw[he0]at hblk
    have hlen:=hv.length
    have hfit:rb.off+off+vs'.length≤cs.size:=by have:=hok.le;omega
    have hrun:=run_storeCells_at P rb.b (rb.off+off) e vs' 0 cs w hblk (by simpa using hfit) (hv.oneCell hall)
    refine⟨_,hrun,?_⟩
    simp only[A8f]
    generalize hnew:(cs.toList.take (rb.off+off)++vs'++cs.toList.drop (rb.off+off+vs'.length)).toArray=cs1
    have hblk1:(w.setRow rb.b cs1).heap[rb.b]? = some (.cells cs1 e (0,0)):=setRow_heap w rb.b cs cs1 e (0,0) hblk
    have hsize1:cs1.size=cs.size:=by grind
    have hget:∀k,cs1[k]? = if rb.off+off≤k∧k<rb.off+off+vs'.length then vs'[k - (rb.off+off)]? else cs[k]? := by
      intro k
      rw[← hnew,List.getElem?_toArray]
      by_cases h1:k<rb.off+off
      · grind
      · rw[A8n,A8g (by simp;omega)]
        have hmin:(cs.toList.take (rb.off+off)).length=rb.off+off:=by simp;omega
        rw[hmin]
        by_cases h2:k<rb.off+off+vs'.length
        · grind
        · rw[if_neg (by omega),A8g (by omega),A8y,← Array.getElem?_toList]
          congr 1
          omega
    have key:∀sx:CO,DU P ρ sx w→Fr ρ s w ρ sx w→sx.heap.get i=some (.row r)→(∀p,r.par=some p→p≠i→sx.heap.get p=none) →
        DU P ρ (setObj sx i (.row { r with c:=r.c.fill off vs,par:=none })) (w.setRow rb.b cs1) ∧
        Fr ρ s w ρ (setObj sx i (.row { r with c:=r.c.fill off vs,par:=none })) (w.setRow rb.b cs1):=by
      intro sx hx hfx hgx hpx
      obtain⟨h1,h2⟩:=hx.set (o1:=.row { r with c:=r.c.fill off vs,par:=none }) (w1:=w.setRow rb.b cs1) hgx hr (by simpa[wr]using hown) hpx rfl (by simp)
        (fun b hb=>setRow_other w rb.b b cs1 hb) rfl rfl rfl (by
          refine⟨?_,hok.le,hok.sz,hok.tight,fun _=>⟨cs1,by grind,by grind⟩,hok.base,fun g hg=>(let ⟨a1,a2,cs0,e0,pl,a3,a4⟩:=hok.gl g hg;⟨a1,a2,cs1,e,(0,0),hblk1,by grind⟩),fun p hp=>by cases hp⟩
          intro k v hk hkv
          simp only[CT.get_fill]at hkv
          have hcell:(w.setRow rb.b cs1).cell? ⟨rb.b,rb.off+k,none⟩=cs1[rb.off+k]? := by grind [World.cell?]
          rw[hcell,hget]
          by_cases hin:off≤k∧k<off+vs.length
          · rw [if_pos hin] at hkv
            rw[if_pos (by omega),show rb.off+k - (rb.off+off)=k - off from by omega]
            exact hv.get hkv
          · rw [if_neg hin] at hkv
            rw[if_neg (by omega)]
            obtain⟨v',h1,h2⟩:=hok.cells k v hk hkv
            grind [World.cell?])
      exact⟨h1,hfx.trans h2⟩
    unfold Dm
    split
    · grind [Fr.refl]
    · rename_i p hp
      by_cases hpi:p=i
      · grind [Nat.beq_eq,Fr.refl]
      · rw[CT.beq_no hpi]
        obtain⟨rp,hrp⟩:=hok.par p hp
        obtain⟨hd,hfd⟩:=h.del hrp
        exact key (Eo s p) hd hfd (by rw[Dq,if_neg (fun e=>hpi e.symm)];exact hg) (fun q hq _=>by
          simp_all[Dq])
theorem Cv{a b:Nat}(h:Nat.beq a b=true):a=b:=A8R h
theorem gz(h:DU P ρ s w){t:TypeId}{a v:AV}{a' v':Value}(hs:Cz P s t a v=some s1)(ha:Cc ρ a a')(hv:Cc ρ v v'):
  ∃w1,(Instr.storeAt t a' v').run P w=.ok () w1∧DU P ρ s1 w1∧Fr ρ s w ρ s1 w1:=by
 unfold Cz at hs
 split at hs<;>first | (cases hs;done) | skip
 rename_i i o
 cases ha with
 | ptr hr =>
  rename_i rb
  simp only[A8G]at hs
  obtain⟨n,hn,hs⟩:=hs
  obtain⟨hb,hs⟩:=CM hs
  have hb:=Cv hb
  obtain⟨w1,h1,h2⟩:=IP h hr hs hv.cells
  refine⟨w1,?_,h2⟩
  have hc:v'.cells.size=n:=by have:=hv.cells.length;simp at this;omega
  simp_all[Instr.storeAt,Instr.sureAddr,storeVar,DT]
def TH(P:Program)(ρ:DV)(s:CO)(w:World)(sem:Sem Value)(o:Cg)(m:Made):Prop:=
 ∃v' w' ρ',sem.run P w=.ok v' w'∧Cc ρ' (m.val s.next) v'∧DU P ρ' (newObj s o) w'∧Fr ρ s w ρ' (newObj s o) w'
theorem eI(h:DU P ρ s w)(hf:ρ s.next=none){e:TypeId}{o:Cg}{m:Made}(hs:Dz P e=some (o,m)):
  TH P ρ s w (Instr.alloc e true (.tuple #[])) o m:=by
 unfold Dz at hs
 simp only[A8G]at hs
 obtain⟨z,hz,hs⟩:=hs
 injection hs with hs
 injection hs with h1 h2
 subst h1;subst h2
 obtain⟨z',hz',hzr⟩:=Nm (w:=w) ρ hz
 obtain⟨ρ',h1,h2,h3⟩:=Le h hf (e:=e) (sz:=0) hzr.cells
 exact⟨.pointer (some ⟨w.heap.size,0,none⟩),_,ρ',by simp_all[Instr.alloc,newVar,newRow],Cc.ptr h1,h2,h3⟩
theorem qy(h:DU P ρ s w)(hf:ρ s.next=none){e:TypeId}{v:AV}{v':Value}{o:Cg}{m:Made}(hs:Fj e v=some (o,m))(hv:Cc ρ v v'):
  TH P ρ s w (Instr.box e v') o m:=by
 unfold Fj at hs
 injection hs with hs
 injection hs with h1 h2
 subst h1;subst h2
 obtain⟨ρ',h1,h2,h3⟩:=Le h hf (e:=e) (sz:=0) hv.cells
 exact⟨.pointer (some ⟨w.heap.size,0,none⟩),_,ρ',by simp_all[Instr.box,newVar,newRow],Cc.ptr h1,h2,h3⟩
theorem aG(h:DU P ρ s w)(hf:ρ s.next=none)(t kt:TypeId):TH P ρ s w (Instr.makeMap t none) (.map kt []) .map:=by
 have hle:=Dc (rb:=⟨w.heap.size,0,0,0⟩) hf
 obtain⟨h1,h2⟩:=h.new (o:=.map kt []) (o':=.map #[] 0) (rb:=⟨w.heap.size,0,0,0⟩) hf rfl ⟨#[],0,World.alloc_heap_new w _,MapKept.stamped_empty 0,⟨[],.refl _,.nil⟩,by simp⟩
 exact⟨.map (some w.heap.size),_,_,by simp[Instr.makeMap],Cc.map (Cf _ _),h1,h2⟩
theorem RJ{place:Nat→Option (Nat×Nat)}{place':Nat→Option (Nat×Nat)}(hp:∀i p,place i=some p→place' i=some p):
    ∀ {parts:List (Nat×AV)} {parts':List (Nat×Value)} {cs l:List AV} {cs':Array Value},RI place cs parts=some l→Cb ρ cs cs'.toList →
      (parts.map (·.1)=parts'.map (·.1))→Cb ρ (parts.map (·.2)) (parts'.map (·.2))→∃l',Instr.fill place' cs' parts'=some l'∧Cb ρ l l'.toList:=by
  intro parts
  induction parts with
  | nil =>
    intro parts' cs l cs' h hc hm hv
    cases parts' with
    | nil=>simp[RI]at h;subst h;exact⟨cs',rfl,hc⟩
    | cons=>simp at hm
  | cons p rest ih =>
    intro parts' cs l cs' h hc hm hv
    cases parts' with
    | nil=>simp at hm
    | cons p' rest' =>
      obtain⟨i,v⟩:=p
      obtain⟨i',v'⟩:=p'
      simp only[A8U,List.cons.injEq]at hm
      obtain⟨hi,hm⟩:=hm
      skip
      subst hi
      simp only[A8U]at hv
      cases hv with
      | cons hv hvs =>
        simp only[RI,A8G]at h
        obtain⟨q,hq,h⟩:=h
        obtain⟨hb,h⟩:=CM h
        simp only[A9W,A8Q]at hb
        obtain⟨hb1,hb2⟩:=hb
        have hb1:=Cv hb1
        have hvc:=hv.cells
        have hvl:=hvc.length
        have hcl:=hc.length
        simp only[Array.length_toList]at hvl hcl
        have hnew:Cb ρ (cs.take q.1++(v.cells++cs.drop (q.1+v.cells.length)))
            (v'.cells.zipIdx.foldl (fun cs (c,j)=>cs.setIfInBounds (q.1+j) c) cs').toList:=by
          have e:(v'.cells.zipIdx.foldl (fun cs (c,j)=>cs.setIfInBounds (q.1+j) c) cs').toList=cs'.toList.take q.1++(v'.cells.toList++cs'.toList.drop (q.1+v.cells.length)):=by
            have key:∀ (l:List Value) (k:Nat) (a:Array Value),q.1+k+l.length≤a.size →
                ((l.zipIdx k).foldl (fun cs (x:Value×Nat)=>cs.setIfInBounds (q.1+x.2) x.1) a).toList=a.toList.take (q.1+k)++(l++a.toList.drop (q.1+k+l.length)):=by
              intro l
              induction l with
              | nil=>intro k a _;simp
              | cons x l ihl =>
                intro k a hk
                simp only[A8P]at hk
                rw[List.zipIdx_cons,A9C,ihl (k+1) _ (by simp;omega)]
                simp only[Array.toList_setIfInBounds,A8P]
                grind [list_seg_step]
            have:=key v'.cells.toList 0 cs' (by simp;omega)
            simp only[A8f]at this
            grind [Array.toList_zipIdx]
          rw[e]
          exact(hc.take _).append (hvc.append (hc.drop _))
        obtain⟨l',h1,h2⟩:=ih h hnew hm hvs
        refine⟨l',?_,h2⟩
        have hpq:=hp i q hq
        obtain⟨o,n⟩:=q
        simp only[Instr.fill,hpq]
        grind
theorem MD:∀ {fs:List Field}{l:List (Nat×Nat)},IX P fs=some l →
  ∀w:World,((fs.mapM fun f=>do pure (f.offset,← sizeOf f.type):Sem (List (Nat×Nat)))).run P w=.ok l w
 | [],l,h,w=>by simp_all[IX]
 | f::fs,l,h,w=>by
  simp only[IX,A8G]at h
  obtain⟨n,hn,r,hr,h⟩:=h
  injection h with h
  subst h
  have ih:=MD hr w
  simp_all[DT]
theorem eM{t:TypeId}{parts:List (Nat×AV)}{parts':Array (Nat×Value)}{v:AV}(h:C8 P t parts=some v)
  (hm:parts.map (·.1)=parts'.toList.map (·.1)) (hv:Cb ρ (parts.map (·.2)) (parts'.toList.map (·.2))) (w:World):
  ∃v',(Instr.build t parts').run P w=.ok v' w∧Cc ρ v v':=by
 unfold C8 at h
 simp only[A8G]at h
 obtain⟨z,hz,h⟩:=h
 obtain⟨z',hz',hzr⟩:=Nm (w:=w) ρ hz
 split at h<;>first | (cases h;done) | skip
 ·rename_i fields hf
  simp only[A8G]at h
  obtain⟨places,hpl,l,hl,h⟩:=h
  injection h with h
  subst h
  have hpl':=MD hpl w
  obtain⟨l',h1,h2⟩:=RJ (place':=fun i=>(places.toArray)[i]?) (fun i p hp=>by simpa using hp) hl hzr.cells hm hv
  refine⟨.agg l',?_,.agg h2⟩
  simp_all[Array.mapM_eq_mapM_toList,Instr.build,CW]
 ·rename_i len e hf
  simp only[A8G]at h
  obtain⟨n,hn,l,hl,h⟩:=h
  injection h with h
  subst h
  obtain⟨l',h1,h2⟩:=RJ (place':=fun i=>some (i * n,n)) (fun i p hp=>hp) hl hzr.cells hm hv
  refine⟨.agg l',?_,.agg h2⟩
  simp_all[Instr.build,CW,DT]
theorem V2{z:AV}{z':Value}{n c:Nat}(hz:Cc ρ z z')(hl:z.cells.length=n):
  Cb ρ (iN z.cells c) (((Array.range (c * n)).map (z'.cells[· % z'.cells.size]!)).toList):=by
 have hc:=hz.cells
 have hlen:z'.cells.size=n:=by have:=hc.length;simp at this;omega
 have hrl:∀c,(iN z.cells c).length=c * n:=by
  intro c
  induction c with
  | zero=>simp[iN]
  | succ c ih=>grind [iN]
 have hrg:∀ (c k:Nat),k<c * n→(iN z.cells c)[k]? = z.cells[k % n]? := by
  intro c
  induction c with
  | zero=>intro k hk;omega
  | succ c ih =>
   grind [iN,Nat.mod_eq_of_lt,List.getElem?_append_right,Nat.mod_eq_sub_mod]
 refine Cb.of_get (by simp[hrl]) ?_
 intro k v v' hv hv'
 have hk:k<c * n:=by
  grind
 have hn:0<n:=by
  grind
 rw[hrg c k hk]at hv
 obtain⟨u,h1,h2⟩:=hc.get hv
 grind
theorem WB(h:DU P ρ s w)(hf:ρ s.next=none){t:TypeId}{len:Nat}{parts:List (Nat×AV)}{parts':Array (Nat×Value)}{o:Cg}(hs:Cd P t len parts=some o)
  (hm:parts.map (·.1)=parts'.toList.map (·.1)) (hv:Cb ρ (parts.map (·.2)) (parts'.toList.map (·.2))):
  TH P ρ s w (Instr.buildSlice t len parts') o (.slice len):=by
 unfold Cd at hs
 split at hs<;>first | (cases hs;done) | skip
 rename_i e he
 simp only[A8G]at hs
 obtain⟨n,hn,hs⟩:=hs
 obtain⟨hb,hs⟩:=CM hs
 have hb:len * n≤16777216:=by simp_all
 simp only[A8G]at hs
 obtain⟨z,hz,hs⟩:=hs
 obtain⟨hc,hs⟩:=CM hs
 simp only[A8G]at hs
 obtain⟨l,hl,hs⟩:=hs
 injection hs with hs
 subst hs
 obtain⟨z',hz',hzr⟩:=Nm (w:=w) ρ hz
 have hz2:=V2 (c:=len) hzr (Cv hc)
 obtain⟨l',h1,h2⟩:=RJ (place':=fun i=>some (i * n,n)) (fun i p hp=>hp) hl hz2 hm hv
 obtain⟨ρ',g1,g2,g3⟩:=Le h hf (e:=e) (sz:=n) h2
 refine⟨.slice (some ⟨w.heap.size,0,none⟩) len len,_,ρ',?_,Cc.slice g1 (A8H _),g2,g3⟩
 have hbig:¬ len * n > 2 ^ 24:=by omega
 by_cases h0:len * n=0
 ·have hr0:Array.range 0=#[]:=by simp
  rw[h0,hr0]at h1
  simp only[Array.map_empty]at h1
  simp[Instr.buildSlice,CW he,DT hn,h0,hr0,h1,newRow]
 ·simp[Instr.buildSlice,CW he,DT hn,hbig,h0,hz',h1,newRow]
theorem Sw(h:DU P ρ s w)(hf:ρ s.next=none){t:TypeId}{l c:AV}{l' c':Value}{o:Cg}{m:Made}(hs:KF P t l c=some (o,m))
  (hl:Cc ρ l l') (hc:Cc ρ c c'):TH P ρ s w (Instr.makeSlice t l' c') o m:=by
 unfold KF at hs
 split at hs<;>first | (cases hs;done) | skip
 rename_i e l0 c0 he
 cases hl;cases hc
 simp only[A8G]at hs
 obtain⟨by_,hby,n,hn,hs⟩:=hs
 obtain⟨hb,hs⟩:=CM hs
 simp only[A9W,A8Q]at hb
 obtain⟨⟨hlc,hb1⟩,hb2⟩:=hb
 have hlc:=Cv hlc
 subst hlc
 simp only[A8G]at hs
 obtain⟨z,hz,hs⟩:=hs
 obtain⟨hc,hs⟩:=CM hs
 injection hs with hs
 injection hs with hs1 hs2
 subst hs1;subst hs2
 obtain⟨z',hz',hzr⟩:=Nm (w:=w) ρ hz
 have hz2:=V2 (c:=l0) hzr (Cv hc)
 obtain⟨i,hi,hi2⟩:=ge (w:=w) hby
 obtain⟨ρ',g1,g2,g3⟩:=Le h hf (e:=e) (sz:=n) hz2
 refine⟨.slice (some ⟨w.heap.size,0,none⟩) l0 l0,_,ρ',?_,Cc.slice g1 (A8H _),g2,g3⟩
 have hw:IntKind.i64.wrap (l0:Int)=(l0:Int):=QB (k:=.i64) (n:=Int.ofNat l0) (by grind [D7,Nat.ble_eq])
 have hmul:((by_:Int) * (l0:Int))≤1099511627776:=by
  grind
 have h1:¬ ((l0:Int)<0):=by omega
 have h2:¬ ((i.bytes:Int) * (l0:Int) > 2 ^ 48):=by rw[hi2];omega
 have h3:¬ ((281474976710656:Int)<(i.bytes:Int) * (l0:Int)):=by omega
 by_cases h0:l0 * n=0
 ·have hr0:Array.range 0=#[]:=by simp
  simp[Instr.makeSlice,CW he,asInt,asIntOf,hi,hw,h1,h3,DT hn,h0,newRow,hr0]
 ·simp[Instr.makeSlice,CW he,asInt,asIntOf,hi,hw,h1,h3,DT hn,h0,hz',newRow]
end
end
end Go.Proofs.YtoaaclpjkelofaaGreatDoor.Am
