/- Binary tries over Nat keys, made for evaluation by the kernel: get, set, and their laws; conditions: none. -/
import GoSem.Dispatch
import GoSem.ClaimKeys
import Derived.DeepKeys2
import Derived.CallsIn
import Derived.Laws.Sem
import Derived.MapKept
import Derived.Laws.Entries
import Derived.Laws.Slices
import Derived.Laws.Strings
import Derived.Lib.Hide
import Derived.Laws.CopyRow
import Derived.Laws.Cells
import Derived.RangeFuncRecord
import Derived.Below
namespace Go.Proofs.YtjnkfbpadpmakaaGreatDoor.Am
noncomputable section
abbrev nk := @Option.bind_eq_some_iff
abbrev nl := @Nat.le_refl
abbrev nm := @Nat.lt_or_ge
abbrev nr := @List.getElem?_eq_getElem
abbrev ns := @Nat.lt_of_lt_of_le
abbrev ny := @Nat.le_trans
abbrev oA := @Nat.ble_eq
abbrev oB := @Nat.zero_le
abbrev oC := @Nat.mul_le_mul_right
abbrev oD := @Nat.mul_one
abbrev oE := @Nat.eq_of_beq_eq_true
abbrev oF := @List.getElem?_eq_none
abbrev oG := @Nat.zero_add
abbrev oH := @Nat.succ_mul
abbrev oI := @List.length_append
abbrev oJ := @Nat.mul_comm
abbrev oK := @List.mem_cons_self
abbrev oL := @Nat.blt_eq
abbrev oM := @Nat.add_zero
abbrev oN := @List.mem_cons_of_mem
abbrev oO := @List.length_take
abbrev oP := @List.mem_of_getElem?
abbrev oQ := @Nat.add_mul
abbrev oR := @Nat.mul_assoc
abbrev oT := @Nat.mod_lt
abbrev oU := @Nat.le_of_eq
abbrev oV := @List.length_cons
abbrev oW := @Nat.mul_add
abbrev oX := @List.append_assoc
abbrev oY := @Nat.add_assoc
abbrev oZ := @Nat.mul_le_mul_left
abbrev oe := @Nat.mod_eq_of_lt
abbrev og := @Nat.lt_succ_self
abbrev oh := @List.length_drop
abbrev ol := @List.drop_eq_getElem_cons
abbrev om := @Nat.lt_of_le_of_lt
abbrev oo := @List.drop_eq_nil_of_le
abbrev oq := @Nat.mul_le_mul
abbrev ot := @Nat.le_succ
abbrev ou := @List.getElem?_append_left
abbrev ov := @List.getElem?_append_right
abbrev ow := @Nat.eq_zero_or_pos
abbrev oz := @Nat.div_lt_iff_lt_mul
abbrev pC := @List.drop_zero
abbrev pD := @List.set_cons_zero
abbrev pE := @Nat.pow_succ
abbrev pF := @List.drop_drop
abbrev pG := @List.length_nil
abbrev pH := @List.getElem?_map
abbrev pI := @Nat.mul_zero
abbrev pK := @Nat.pow_pos
abbrev pM := @List.map_cons
abbrev pN := @Nat.one_mul
abbrev pO := @Nat.zero_mul
abbrev pR := @Nat.le_mul_of_pos_right
abbrev pS := @Nat.beq_eq
abbrev pT := @Option.map_some
abbrev pV := @List.getElem?_take_of_lt
abbrev pW := @List.getElem?_drop
abbrev pe := @Nat.div_eq_of_lt
abbrev pg := @Nat.mul_pos
abbrev ph := @Nat.div_le_self
abbrev pj := @List.map_map
abbrev pm := @Nat.pow_le_pow_right
abbrev pn := @List.take_append_drop
abbrev pr := @List.take_zero
abbrev px := @Nat.min_eq_left
abbrev py := @List.length_map
abbrev pz := @List.append_nil
abbrev p4 := @Nat.lt_of_mul_lt_mul_right
abbrev p8 := @List.length_zip
abbrev p9 := @List.mem_append_left
abbrev qA := @List.zip_cons_cons
abbrev qB := @Nat.mod_mod
abbrev qC := @Nat.mul_ne_zero
abbrev qD := @List.eq_nil_of_length_eq_zero
abbrev qE := @Nat.lt_succ_of_lt
abbrev qF := @Nat.lt_trichotomy
abbrev qG := @Nat.mod_add_div
abbrev qH := @List.getD_eq_getElem?_getD
abbrev qI := @Nat.add_sub_cancel
abbrev qJ := @Nat.add_comm
abbrev qK := @List.mapM_cons
abbrev qL := @List.drop_left'
abbrev qM := @List.getElem?_set_ne
abbrev qN := @List.length_set
abbrev qO := @List.getElem?_take
abbrev qP := @List.nil_append
abbrev qQ := @Int.ofNat_eq_natCast
abbrev qR := @List.getElem?_range
abbrev qS := @Nat.mul_lt_mul_of_pos_right
inductive AS (α:Type) where
 | leaf
 | node (v:Option α) (l r:AS α)
namespace AS
variable{α:Type}
def get:AS α→Nat→Option α
 | .leaf,_=>none
 | .node v l r,k=>match k with
  | 0=>v
  | k+1=>bif Nat.beq (k % 2) 0 then l.get (k / 2)else r.get (k / 2)
def val:AS α→Option α
 | .leaf=>none
 | .node v _ _=>v
def left:AS α→AS α
 | .leaf=>.leaf
 | .node _ l _=>l
def right:AS α→AS α
 | .leaf=>.leaf
 | .node _ _ r=>r
def gj(v:Option α)(l r:AS α):AS α:=
 match l with
 | .leaf=>.node v .leaf r
 | .node x a b=>.node v (.node x a b) r
def gk(v:Option α)(l r:AS α):AS α:=
 match r with
 | .leaf=>.node v l .leaf
 | .node x a b=>.node v l (.node x a b)
def setF(v:Option α):Nat→AS α→Nat→AS α
 | 0,t,_=>t
 | f+1,t,k=>match k with
  | 0=>.node v t.left t.right
  | k+1=>bif Nat.beq (k % 2) 0 then gj t.val (setF v f t.left (k / 2)) t.right
   else gk t.val t.left (setF v f t.right (k / 2))
def put(t:AS α)(k:Nat)(v:Option α):AS α:=setF v (k+1) t k
def set(t:AS α)(k:Nat)(v:α):AS α:=t.put k (some v)
def del(t:AS α)(k:Nat):AS α:=t.put k none
theorem beq_no{a b:Nat}(h:¬ a=b):Nat.beq a b=false:=by
 cases e:Nat.beq a b with
 | false=>rfl
 | true=>exact absurd (oE e) h
theorem nodeL_eq(v:Option α)(l r:AS α):gj v l r=.node v l r:=by cases l<;>rfl
theorem nodeR_eq(v:Option α)(l r:AS α):gk v l r=.node v l r:=by cases r<;>rfl
theorem Ka(t:AS α):t.get 0=t.val:=by cases t<;>rfl
theorem DU(t:AS α)(k:Nat):t.get (k+1)=if k % 2=0 then t.left.get (k / 2)else t.right.get (k / 2):=by
 cases t with
 | leaf=>simp[get,left,right]
 | node v l r =>
  by_cases h:k % 2=0
  ·simp[get,left,h]
  ·have:Nat.beq (k % 2) 0=false:=beq_no h
   simp[get,right,h,this]
def mapO{β:Type}(f:α→Option β):AS α→AS β
 | .leaf=>.leaf
 | .node v l r=>.node (v.bind f) (mapO f l) (mapO f r)
theorem get_mapO{β:Type}(f:α→Option β):∀ (t:AS α)(k:Nat),(t.mapO f).get k=(t.get k).bind f
 | .leaf,_=>rfl
 | .node v l r,0=>rfl
 | .node v l r,k+1=>by
  show(bif Nat.beq (k % 2) 0 then (mapO f l).get (k / 2)else (mapO f r).get (k / 2))=(bif Nat.beq (k % 2) 0 then l.get (k / 2)else r.get (k / 2)).bind f
  cases Nat.beq (k % 2) 0 with
  | true=>exact get_mapO f l (k / 2)
  | false=>exact get_mapO f r (k / 2)
theorem Xu       (v : Option α) : ∀ (f : Nat) (t : AS   α) (k j : Nat), k < f → (setF v f t k).get j = if j = k then v else t.get j := by
  intro f
  induction f with
  | zero=>intro t k j h;omega
  | succ f ih =>
    intro t k j h
    cases k with
    | zero =>
      cases j with
      | zero=>simp[setF,Ka,val]
      | succ j=>simp[setF,DU,left,right]
    | succ k =>
      by_cases hk:k % 2=0
      · have hb:Nat.beq (k % 2) 0=true:=by rw[hk];rfl
        simp only[setF,hb,cond_true,nodeL_eq]
        cases j with
        | zero=>simp[Ka,val]
        | succ j =>
          by_cases hj:j % 2=0
          · rw[DU,DU,if_pos hj,if_pos hj]
            simp only[left]
            rw[ih _ _ _ (by omega)]
            by_cases e:j=k
            · subst e;simp
            · rw[if_neg (by omega),if_neg (by omega)]
          · rw[DU,DU,if_neg hj,if_neg hj,if_neg (by omega)]
            simp only[right]
      · have hb:Nat.beq (k % 2) 0=false:=beq_no hk
        simp only[setF,hb,cond_false,nodeR_eq]
        cases j with
        | zero=>simp[Ka,val]
        | succ j =>
          by_cases hj:j % 2=0
          · rw[DU,DU,if_pos hj,if_pos hj,if_neg (by omega)]
            simp only[left]
          · rw[DU,DU,if_neg hj,if_neg hj]
            simp only[right]
            rw[ih _ _ _ (by omega)]
            by_cases e:j=k
            · subst e;simp
            · rw[if_neg (by omega),if_neg (by omega)]
theorem Sl(t:AS α)(k j:Nat)(v:Option α):(t.put k v).get j=if j=k then v else t.get j:=Xu v _ t k j (by omega)
theorem get_set(t:AS α)(k j:Nat)(v:α):(t.set k v).get j=if j=k then some v else t.get j:=Sl t k j _
theorem get_del(t:AS α)(k j:Nat):(t.del k).get j=if j=k then none else t.get j:=Sl t k j _
def fill(t:AS α)(k:Nat):List α→AS α
 | []=>t
 | v::l=>fill (t.set k v) (k+1) l
theorem get_fill(l:List α):∀ (t:AS α)(k j:Nat),(t.fill k l).get j=if k≤j∧j<k+l.length then l[j - k]? else t.get j:=by
  induction l with
  | nil=>intro t k j;simp[fill];omega
  | cons v l ih =>
    intro t k j
    simp only[fill,ih,get_set,oV]
    by_cases h1:k+1≤j∧j<k+1+l.length
    · rw [if_pos h1, if_pos (by omega), show j - k = (j - (k + 1)) + 1 from by omega]
      rfl
    · rw[if_neg h1]
      by_cases h2:j=k
      · subst h2;simp
      · rw[if_neg h2,if_neg (by omega)]
def take(t:AS α)(k:Nat):Nat→Option (List α)
 | 0=>some []
 | n+1=>match t.get k with
  | none=>none
  | some v=>match take t (k+1) n with
   | none=>none
   | some l=>some (v::l)
theorem take_length{t:AS α}{k n:Nat}{l:List α}(h:t.take k n=some l):l.length=n:=by
  induction n generalizing k l with
  | zero=>simp[take]at h;subst h;rfl
  | succ n ih =>
    simp only[take]at h
    split at h
    · cases h
    · split at h
      · cases h
      · rename_i h2;injection h with h;subst h;simp[ih h2]
theorem take_get {t : AS   α} {k n : Nat} {l : List α} (h : t.take k n = some l) (j : Nat) (hj : j < n) : t.get (k + j) = l[j]? := by
  induction n generalizing k l j with
  | zero=>omega
  | succ n ih =>
    simp only[take]at h
    split at h
    · cases h
    · rename_i v hv
      split at h
      · cases h
      · rename_i l' h2
        injection h with h
        subst h
        cases j with
        | zero=>simpa using hv
        | succ j=>rw[show k+(j+1)=k+1+j from by omega,ih h2 j (by omega)];rfl
end AS
end
end Go.Proofs.YtjnkfbpadpmakaaGreatDoor.Am
namespace Go.Proofs.YtjnkfbpadpmakaaGreatDoor.Am
open Go
noncomputable section
inductive AV where
 | bool (b:Bool)
 | int (k:IntKind) (n:Int)
 | str (s:List Nat)
 | ptr (a:Option (Nat×Nat))
 | gptr (g o:Nat)
 | slice (a:Option (Nat×Nat)) (len:Nat) (cap:Option Nat)
 | map (r:Option Nat)
 | func (f:FuncId) (first cap:List AV)
 | yield (l:Nat)
 | nilFunc
 | iface (t:TypeId) (v:AV)
 | nilIface
 | agg (cs:List AV)
 | tuple (vs:List AV)
 | junk
def BD:AV:=.tuple []
def AV.cells:AV→List AV
 | .agg cs=>cs
 | v=>[v]
def AV.isCell:AV→Bool
 | .agg _ | .tuple _ | .junk=>false
 | _=>true
def Ap:List AV→Bool
 | []=>true
 | v::l=>v.isCell && Ap l
inductive bF where
 | ro | own | sealed
structure DN where
 elem:TypeId
 sz:Nat
 n:Nat
 c:AS AV
 spare:Bool
 mode:bF
 par:Option Nat
 bytes:Bool
 glob:Option Nat:=none
inductive CX where
 | loc (i:Nat)
 | var (j:Nat)
 | const (v:AV)
inductive Made where
 | ptr | slice (n:Nat) | map
structure C4 where
 state:LoopState
 pending:Option Code
 fn:FuncId
 var:List AV
 params:Array Tmp
 assign:Code
 body:Code
 dfr:Nat
inductive A8 where
 | row (r:DN)
 | map (kt:TypeId) (es:List (AV×AV))
 | mapRo (kt:TypeId) (es:List (AV×AV))
 | loop (l:C4)
 | mark
 | iter (s:List Nat) (pos:Nat)
structure AD where
 next:Nat
 heap:AS A8
def IC:Value→Option AV
 | .bool b=>some (.bool b)
 | .int k n=>some (.int k n)
 | .string s=>some (.str (s.data.toList.map (fun(b:UInt8)=>b.toNat)))
 | .pointer none=>some (.ptr none)
 | .slice none 0 0=>some (.slice none 0 (some 0))
 | .map none=>some (.map none)
 | .nilFunc=>some .nilFunc
 | .nilIface=>some .nilIface
 | _=>none
def EX:List Value→Option (List AV)
 | []=>some []
 | v::l=>(IC v).bind fun a=>(EX l).bind fun r=>some (a::r)
def ofValue:Value→Option AV
 | .agg cs=>(EX cs.toList).bind fun l=>some (.agg l)
 | .tuple vs=>(EX vs.toList).bind fun l=>some (.tuple l)
 | v=>IC v
def AJ{α:Type}(b:Bool)(x:Option α):Option α:=bif b then x else none
def DW{α:Type}(P:Program):Sem α→Option α
 | .pure a=>some a
 | .program k=>DW P (k P)
 | .mark _ k=>DW P k
 | _=>none
def Bo(k:IntKind):Int→Bool
 | .ofNat m=>match k with
  | .i64=>Nat.ble m 9223372036854775807
  | .u64=>Nat.ble m 18446744073709551615
  | .i32=>Nat.ble m 2147483647
  | .u32=>Nat.ble m 4294967295
  | .u8=>Nat.ble m 255
  | .i8=>Nat.ble m 127
  | .u16=>Nat.ble m 65535
  | .i16=>Nat.ble m 32767
 | .negSucc m=>match k with
  | .i64=>Nat.ble m 9223372036854775807
  | .i32=>Nat.ble m 2147483647
  | .i8=>Nat.ble m 127
  | .i16=>Nat.ble m 32767
  | _=>false
def Cm(k:IntKind)(n:Int):Int:=bif Bo k n then n else k.wrap n
def Lg:Int→Int→Bool
 | .ofNat a,.ofNat b=>Nat.blt a b
 | .ofNat _,.negSucc _=>false
 | .negSucc _,.ofNat _=>true
 | .negSucc a,.negSucc b=>Nat.blt b a
def L4:Int→Int→Bool
 | .ofNat a,.ofNat b=>Nat.beq a b
 | .negSucc a,.negSucc b=>Nat.beq a b
 | _,_=>false
def St:Int→Option Nat
 | .ofNat m=>some m
 | .negSucc _=>none
def Cx:List Nat→List Nat→Bool
 | [],[]=>true
 | a::x,b::y=>bif Nat.beq a b then Cx x y else false
 | _,_=>false
def GX:List Nat→List Nat→Bool
 | _,[]=>false
 | [],_::_=>true
 | a::x,b::y=>bif Nat.blt a b then true else bif Nat.beq a b then GX x y else false
def S7(op:BinOp)(x y:List Nat):Option AV:=
 match op with
 | .add=>AJ (Nat.ble (x.length+y.length) 1152921504606846976) (some (.str (x++y)))
 | .eql=>some (.bool (Cx x y))
 | .neq=>some (.bool (!Cx x y))
 | .lss=>some (.bool (GX x y))
 | .leq=>some (.bool (GX x y || Cx x y))
 | .gtr=>some (.bool (!(GX x y || Cx x y)))
 | .geq=>some (.bool (!GX x y))
 | _=>none
def De(P:Program)(t:TypeId):Option Bool:=
 match P.underlying t with
 | some (.struct _) | some (.array _ _)=>some true
 | some _=>some false
 | none=>none
def A3(P:Program)(t:TypeId):Option Nat:=match P.info? t with
 | some i=>some i.size
 | none=>none
def EJ(P:Program)(t:TypeId):Option AV:=match P.info? t with
 | some i=>match i.zero with
  | some v=>ofValue v
  | none=>none
 | none=>none
def C0(P:Program)(t:TypeId):Option Nat:=match P.info? t with
 | some i=>some i.bytes
 | none=>none
def rowAt(s:AD)(i:Nat):Option DN:=match s.heap.get i with
 | some (.row r)=>some r
 | _=>none
def newObj(s:AD)(o:A8):AD:={ next:=s.next+1,heap:=s.heap.set s.next o }
def GP(elem:TypeId)(sz:Nat)(cells:List AV):A8:=
 .row { elem,sz,n:=cells.length,c:=AS.fill .leaf 0 cells,spare:=false,mode:=.own,par:=none,bytes:=true }
def setObj(s:AD)(i:Nat)(o:A8):AD:={ s with heap:=s.heap.set i o }
def CE(s:AD)(i:Nat):AD:={ s with heap:=s.heap.del i }
def Bv(s:AD)(i off n:Nat):Option (List AV):=
 (rowAt s i).bind fun r=>AJ (Nat.ble (off+n) r.n) (r.c.take off n)
def CW(s:AD)(i off:Nat):Option AV:=
 (rowAt s i).bind fun r=>AJ (Nat.blt off r.n) (r.c.get off)
def BO(s:AD)(i:Nat)(r:DN):AD:=match r.par with
 | none=>s
 | some p=>bif Nat.beq p i then s else CE s p
def Db:bF→Bool
 | .own=>true
 | _=>false
def CS(s:AD)(i off:Nat)(vs:List AV):Option AD:=
 match vs with
 | []=>some s
 | _::_=>(rowAt s i).bind fun r =>
  AJ (Db r.mode && Nat.ble (off+vs.length) r.n && Ap vs)
   (some (setObj (BO s i r) i (.row { r with c:=r.c.fill off vs,par:=none })))
def NB(s:AD)(g:Nat):Option DN:=(rowAt s g).bind fun r=>match r.glob with
 | some g'=>AJ (Nat.beq g' g) (some r)
 | none=>none
def AC(P:Program)(s:AD)(t:TypeId):AV→Option AV
 | .gptr i o=>(NB s i).bind fun _=>(De P t).bind fun g=>match g with
  | true=>(A3 P t).bind fun n=>(Bv s i o n).bind fun l=>some (.agg l)
  | false=>CW s i o
 | .ptr (some (i,o))=>(De P t).bind fun g=>match g with
  | true=>(A3 P t).bind fun n=>(Bv s i o n).bind fun l=>some (.agg l)
  | false=>CW s i o
 | _=>none
def AK(P:Program)(s:AD)(t:TypeId)(a v:AV):Option AD:=
 match a with
 | .ptr (some (i,o))=>(A3 P t).bind fun n=>AJ (Nat.beq v.cells.length n) (CS s i o v.cells)
 | _=>none
def GH(P:Program)(t:TypeId):Bool:=match P.underlying t with
 | some (.pointer _)=>true
 | _=>false
def H4(P:Program)(t:TypeId):Bool:=match P.underlying t with
 | some (.slice _)=>true
 | _=>false
def Ip(P:Program)(t:TypeId):Bool:=match P.underlying t with
 | some (.map ..)=>true
 | _=>false
def Hz(P:Program)(t:TypeId):Bool:=match P.underlying t with
 | some (.func ..)=>true
 | _=>false
def NC(P:Program)(t:TypeId):Bool:=match P.underlying t with
 | some .bool=>true
 | _=>false
def Z7(P:Program)(t:TypeId):AV→AV→Option Bool
 | .bool a,.bool b=>AJ (NC P t) (some (a == b))
 | .ptr none,.ptr b=>AJ (GH P t) (some b.isNone)
 | .ptr a,.ptr none=>AJ (GH P t) (some a.isNone)
 | .slice none _ _,.slice b _ _=>AJ (H4 P t) (some b.isNone)
 | .slice a _ _,.slice none _ _=>AJ (H4 P t) (some a.isNone)
 | .map none,.map b=>AJ (Ip P t) (some b.isNone)
 | .map a,.map none=>AJ (Ip P t) (some a.isNone)
 | .nilFunc,.nilFunc=>AJ (Hz P t) (some true)
 | .func ..,.nilFunc=>AJ (Hz P t) (some false)
 | .nilFunc,.func ..=>AJ (Hz P t) (some false)
 | _,_=>none
def B0:IntKind→IntKind→Bool
 | .i8,.i8 | .i16,.i16 | .i32,.i32 | .i64,.i64 | .u8,.u8 | .u16,.u16 | .u32,.u32 | .u64,.u64=>true
 | _,_=>false
def X1(P:Program)(op:BinOp)(k:IntKind)(a b:Int):Option AV:=
 match op with
 | .add=>some (.int k (Cm k (a+b)))
 | .sub=>some (.int k (Cm k (a - b)))
 | .mul=>some (.int k (Cm k (a * b)))
 | .eql=>some (.bool (L4 a b))
 | .neq=>some (.bool (!L4 a b))
 | .lss=>some (.bool (Lg a b))
 | .leq=>some (.bool (!Lg b a))
 | .gtr=>some (.bool (Lg b a))
 | .geq=>some (.bool (!Lg a b))
 | .quo | .rem=>(DW P (Op.intDiv op k a b)).bind ofValue
 | .shl | .shr=>none
 | _=>(DW P (Op.intBits op k a b)).bind ofValue
def AT(P:Program)(op:BinOp)(t:TypeId)(x y:AV):Option AV:=
 match x,y with
 | .int k a,.int k' b=>match op with
  | .shl | .shr=>(DW P (Op.shift op k a k' b)).bind ofValue
  | _=>AJ (B0 k k') (X1 P op k a b)
 | .str a,.str b=>S7 op a b
 | x,y=>match op with
  | .eql=>(Z7 P t x y).bind fun b=>some (.bool b)
  | .neq=>(Z7 P t x y).bind fun b=>some (.bool (!b))
  | _=>none
def X5(P:Program)(t:TypeId):Bool:=match P.underlying t with
 | some (.pointer e)=>(match P.info? e with | some j=>!Nat.beq j.size 0 | none=>false)
 | _=>false
def HV(s:AD)(i:Nat):Bool:=match rowAt s i with
 | some r=>Db r.mode && r.par.isNone
 | none=>false
def Iw(P:Program)(s:AD)(neg:Bool)(t:TypeId)(x y:AV):Option AV:=
 match x,y with
 | .ptr (some (i,o)),.ptr (some (j,q))=>AJ (X5 P t && HV s i && HV s j) (some (.bool ((Nat.beq i j && Nat.beq o q) != neg)))
 | x,y=>AT P (bif neg then .neq else .eql) t x y
def UH(P:Program)(op:UnOp):AV→Option AV
 | .int k n=>match op with
  | .neg=>some (.int k (Cm k (0 - n)))
  | .xor=>(DW P (Op.unary .xor (.int k n))).bind ofValue
  | _=>none
 | .bool b=>match op with
  | .not=>some (.bool (!b))
  | _=>none
 | _=>none
def KX(place:Nat→Option (Nat×Nat))(cells:List AV):List (Nat×AV)→Option (List AV)
 | []=>some cells
 | (i,v)::rest=>(place i).bind fun p =>
  AJ (Nat.beq v.cells.length p.2 && Nat.ble (p.1+v.cells.length) cells.length)
   (KX place (cells.take p.1++(v.cells++cells.drop (p.1+v.cells.length))) rest)
def El(P:Program):List Field→Option (List (Nat×Nat))
 | []=>some []
 | f::l=>(A3 P f.type).bind fun n=>(El P l).bind fun r=>some ((f.offset,n)::r)
def Cz(P:Program)(t:TypeId)(parts:List (Nat×AV)):Option AV:=
 (EJ P t).bind fun z=>match P.underlying t with
  | some (.struct fields)=>(El P fields.toList).bind fun places =>
   (KX (fun i=>places[i]?) z.cells parts).bind fun l=>some (.agg l)
  | some (.array _ e)=>(A3 P e).bind fun n =>
   (KX (fun i=>some (i * n,n)) z.cells parts).bind fun l=>some (.agg l)
  | _=>none
def RH(l:List AV):Nat→List AV
 | 0=>[]
 | n+1=>l++RH l n
def Ad(P:Program)(t:TypeId)(len:Nat)(parts:List (Nat×AV)):Option A8:=
 match P.underlying t with
 | some (.slice e)=>(A3 P e).bind fun n=>AJ (Nat.ble (len * n) 16777216) <|
  (EJ P e).bind fun z=>AJ (Nat.beq z.cells.length n) <|
   (KX (fun i=>some (i * n,n)) (RH z.cells len) parts).bind fun l=>some (GP e n l)
 | _=>none
def As(P:Program)(s:AD)(src dst:TypeId)(x:AV):Option AV:=
 match P.underlying src,P.underlying dst,x with
 | some _,some (.int k),.int _ n=>some (.int k (Cm k n))
 | some _,some .string,.str l=>some (.str l)
 | some (.slice e),some .string,.slice a len _=>match P.underlying e with
  | some (.int .u8)=>match a with
   | none=>some (.str [])
   | some (i,o)=>(Bv s i o len).bind fun l=>(bytesOf l).bind fun b=>some (.str b)
  | _=>none
 | some (.pointer u),some .unsafePointer,x=>seenPtr u x
 | some .unsafePointer,some (.pointer u),x=>seenPtr u x
 | _,_,_=>none
where
 seenPtr (u:TypeId):AV→Option AV
  | .ptr none=>some (.ptr none)
  | .ptr (some (i,o))=>(rowAt s i).bind fun r=>(A3 P u).bind fun n =>
   AJ (Db r.mode && r.bytes && Nat.beq o 0 && Nat.beq r.elem u && Nat.ble n r.n && !Nat.beq n 0) (some (.ptr (some (i,o))))
  | _=>none
 bytesOf:List AV→Option (List Nat)
  | []=>some []
  | .int .u8 (.ofNat n)::l=>AJ (Nat.blt n 256) ((bytesOf l).bind fun r=>some (n::r))
  | _::_=>none
def Fw:AV→Option Nat
 | .int _ n=>St n
 | _=>none
def BV(x:AV)(y:Nat):Option Nat:=(Fw x).bind fun i=>AJ (Nat.ble i y) (some i)
def Bg(P:Program)(s:AD)(t:TypeId)(x:AV)(lo hi mx:Option AV):Option AV:=
 match x with
 | .str l=>(match mx with | some _=>none | none=>some ()).bind fun _ =>
  (match hi with | some h=>BV h l.length | none=>some l.length).bind fun h =>
  (match lo with | some v=>BV v h | none=>some 0).bind fun o =>
  (match P.underlying t with | some .string=>some () | _=>none).bind fun _=>some (.str ((l.drop o).take (h - o)))
 | .slice a len cap=>match P.underlying t with
  | some (.slice e)=>(A3 P e).bind fun n =>
   (match cap with
    | some c=>some c
    | none=>match a with
     | none=>none
     | some (i,o)=>(rowAt s i).bind fun r=>AJ (Nat.ble o r.n && Nat.beq n r.sz && !Nat.beq n 0) (some ((r.n - o) / n))).bind fun far =>
   (match mx with | some m=>(BV m far).bind fun c=>AJ (cap.isSome || Nat.blt 0 far) (some (some c)) | none=>some cap).bind fun m =>
   (match hi,m with
    | some h,some c=>BV h c
    | some h,none=>BV h far
    | none,some c=>(match mx with | none=>some len | some _=>(fun(_:Nat)=>none) c)
    | none,none=>some len).bind fun h =>
   (match lo with | some v=>BV v h | none=>some 0).bind fun l =>
   some (.slice
    (match a with
     | none=>none
     | some (i,o)=>match m with
      | some c=>bif Nat.beq c l then some (i,o)else some (i,o+l * n)
      | none=>some (i,o+l * n))
    (h - l) (match m with | some c=>some (c - l) | none=>none))
  | _=>none
 | .ptr (some (i,o))=>match P.underlying t with
  | some (.array len e)=>arr len e i o
  | some (.pointer u)=>match P.underlying u with
   | some (.array len e)=>arr len e i o
   | _=>none
  | _=>none
 | _=>none
where
 arr (len:Nat) (e:TypeId) (i o:Nat):Option AV:=(A3 P e).bind fun n =>
  (match mx with | some m=>BV m len | none=>some len).bind fun m =>
  (match hi with | some h=>BV h m | none=>match mx with | none=>some len | some _=>none).bind fun h =>
  (match lo with | some v=>BV v h | none=>some 0).bind fun l =>
  some (.slice (some (i,bif Nat.beq m l then o else o+l * n)) (h - l) (some (m - l)))
def AH(P:Program)(t:TypeId)(x:AV)(f:Nat):Option AV:=
 match x with
 | .ptr (some (i,o))=>match P.underlying t with
  | some (.struct fs)=>(fs[f]?).bind fun fd=>(A3 P fd.type).bind fun n =>
   AJ (!Nat.beq n 0) (some (.ptr (some (i,o+fd.offset))))
  | _=>none
 | _=>none
def Sx(P:Program)(t:TypeId)(cs:List AV)(off:Nat):Option AV:=
 (De P t).bind fun g=>match g with
  | true=>(A3 P t).bind fun n=>some (.agg ((cs.drop off).take n))
  | false=>cs[off]?
def QP(P:Program)(t:TypeId)(x:AV)(f:Nat):Option AV:=
 match x with
 | .agg cs=>match P.underlying t with
  | some (.struct fs)=>(fs[f]?).bind fun fd=>Sx P fd.type cs fd.offset
  | _=>none
 | _=>none
def AM(P:Program)(t:TypeId)(x ix:AV):Option AV:=
 (Fw ix).bind fun k=>match x with
  | .ptr (some (i,o))=>match P.underlying t with
   | some (.array len e)=>(A3 P e).bind fun n=>AJ (Nat.blt k len) (some (.ptr (some (i,o+k * n))))
   | _=>none
  | .gptr g o=>match P.underlying t with
   | some (.array len e)=>(A3 P e).bind fun n=>AJ (Nat.blt k len) (some (.gptr g (o+k * n)))
   | _=>none
  | .slice (some (i,o)) len _=>match P.underlying t with
   | some (.slice e)=>(A3 P e).bind fun n=>AJ (Nat.blt k len) (some (.ptr (some (i,o+k * n))))
   | _=>none
  | _=>none
def QV(P:Program)(t:TypeId)(x ix:AV):Option AV:=
 (Fw ix).bind fun k=>match x with
  | .agg cs=>match P.underlying t with
   | some (.array len e)=>(A3 P e).bind fun n=>AJ (Nat.blt k len) (Sx P e cs (k * n))
   | _=>none
  | .str l=>match P.underlying t with
   | some .string=>(l[k]?).bind fun b=>some (.int .u8 (.ofNat b))
   | _=>none
  | _=>none
def Dp:AV→Option AV
 | .ptr none | .nilIface | .nilFunc | .junk=>none
 | v=>some v
def Za(x:AV)(i:Nat):Option AV:=
 match x with
 | .tuple vs=>vs[i]?
 | _=>none
def Ru(c a b:AV):Option AV:=
 match c with
 | .bool true=>some a
 | .bool false=>some b
 | _=>none
def B3(mx:Bool):AV→List AV→Option AV
 | v,[]=>some v
 | .int k a,.int k' b::l=>AJ (B0 k k') (B3 mx (.int k (bif (bif mx then Lg a b else Lg b a)then b else a)) l)
 | _,_=>none
def GL:AV→AV→Option Bool
 | .int k a,.int k' b=>AJ (B0 k k') (some (L4 a b))
 | .str a,.str b=>some (Cx a b)
 | .agg a,.agg b=>keysEq a b
 | _,_=>none
where
 keysEq:List AV→List AV→Option Bool
 | [],[]=>some true
 | .int k a::x,.int k' b::y=>AJ (B0 k k') ((keysEq x y).bind fun r=>some (L4 a b && r))
 | .str a::x,.str b::y=>(keysEq x y).bind fun r=>some (Cx a b && r)
 | _,_=>none
def Fv(k:AV):List (AV×AV)→Nat→Option (Option (Nat×AV))
 | [],_=>some none
 | (k',v)::l,i=>(GL k k').bind fun e=>match e with
  | true=>some (some (i,v))
  | false=>Fv k l (i+1)
def G6(P:Program):Nat→TypeId→List AV→Bool
 | 0,_,_=>false
 | d+1,t,cs=>match P.underlying t with
  | some (.int q)=>match cs with
   | [.int q' n]=>B0 q' q && Bo q n
   | _=>false
  | some .string=>match cs with
   | [.str l]=>Nat.ble l.length 1099511627776
   | _=>false
  | some (.array n e)=>Nat.beq cs.length (P.cellsOf t) && (List.range n).all fun i=>G6 P d e ((cs.drop (i * P.cellsOf e)).take (P.cellsOf e))
  | some (.struct fs)=>Nat.beq cs.length (P.cellsOf t) && fs.toList.all fun f=>G6 P d f.type ((cs.drop f.offset).take (P.cellsOf f.type))
  | _=>false
def EZ(P:Program)(t:TypeId)(k:AV):Bool:=match P.underlying t with
 | some (.array _ _) | some (.struct _)=>match k with
  | .agg cs=>G6 P 4 t cs
  | _=>false
 | _=>G6 P 1 t [k]
def Fc(P:Program)(t:TypeId):Bool:=match P.underlying t with
 | some (.int _) | some .string=>true
 | some (.array _ _) | some (.struct _)=>P.keyType t && (P.tiled (P.types.size+1) t && (Nat.ble 4 P.types.size && Nat.ble P.types.size 9990))
 | _=>false
def G7(P:Program)(t:TypeId):Bool:=match P.underlying t with
 | some (.map kt _)=>Fc P kt
 | _=>false
def Iq(P:Program)(t:TypeId):Option TypeId:=match P.underlying t with
 | some (.map kt _)=>some kt
 | _=>none
def GN(s:AD)(kt:TypeId)(i:Nat):Option (List (AV×AV)):=match s.heap.get i with
 | some (.map kt' es)=>AJ (Nat.beq kt' kt) (some es)
 | _=>none
def JL(s:AD)(kt:TypeId)(i:Nat):Option (List (AV×AV)):=match s.heap.get i with
 | some (.map kt' es)=>AJ (Nat.beq kt' kt) (some es)
 | some (.mapRo kt' es)=>AJ (Nat.beq kt' kt) (some es)
 | _=>none
def Cr(P:Program)(s:AD)(t:TypeId)(m k:AV)(ok:Bool):Option AV:=
 match P.underlying t with
 | some (.map kt et)=>AJ (EZ P kt k) <|
  (match m with
   | .map none=>some []
   | .map (some i)=>JL s kt i
   | _=>none).bind fun es=>(Fv k es 0).bind fun r =>
   (match r with
    | some (_,v)=>some (v,true)
    | none=>(EJ P et).bind fun z=>some (z,false)).bind fun p=>some (bif ok then .tuple [p.1,.bool p.2]else p.1)
 | _=>none
def setNth(es:List (AV×AV))(i:Nat)(v:AV):List (AV×AV):=
 match es,i with
 | [],_=>[]
 | (k,_)::l,0=>(k,v)::l
 | e::l,i+1=>e::setNth l i v
def jf(k v:AV)(es:List (AV×AV)):Option (List (AV×AV)):=(Fv k es 0).bind fun r=>match r with
 | some (j,_)=>some (setNth es j v)
 | none=>some (es++[(k,v)])
def Gx(P:Program)(s:AD)(t:TypeId)(m k v:AV):Option AD:=
 match P.underlying t,m with
 | some (.map kt _),.map (some i)=>AJ (EZ P kt k) <|
  (GN s kt i).bind fun es=>(jf k v es).bind fun es'=>some (setObj s i (.map kt es'))
 | _,_=>none
def delNth(es:List (AV×AV))(i:Nat):List (AV×AV):=
 match es,i with
 | [],_=>[]
 | _::l,0=>l
 | e::l,i+1=>e::delNth l i
def FZ(P:Program)(s:AD)(t:TypeId)(m k:AV):Option AD:=
 match P.underlying t with
 | some (.map kt _)=>AJ (EZ P kt k) <| match m with
  | .map none=>some s
  | .map (some i)=>(GN s kt i).bind fun es=>(Fv k es 0).bind fun r=>match r with
    | some (j,_)=>some (setObj s i (.map kt (delNth es j)))
    | none=>some s
  | _=>none
 | _=>none
def BZ(P:Program)(s:AD)(t:TypeId):AV→Option AV
 | .str l=>match P.underlying t with
  | some .string=>some (.int .i64 (.ofNat l.length))
  | _=>none
 | .slice _ n _=>match P.underlying t with
  | some (.slice _)=>some (.int .i64 (.ofNat n))
  | _=>none
 | .map none=>match P.underlying t with
  | some (.map ..)=>some (.int .i64 (.ofNat 0))
  | _=>none
 | .map (some i)=>match P.underlying t with
  | some (.map ..)=>match s.heap.get i with
   | some (.map _ es)=>some (.int .i64 (.ofNat es.length))
   | some (.mapRo _ es)=>some (.int .i64 (.ofNat es.length))
   | _=>none
  | _=>none
 | _=>none
def TU(P:Program)(s:AD)(t:TypeId):AV→Option AV
 | .slice a _ cap=>match P.underlying t with
  | some (.slice e)=>match cap with
   | some c=>some (.int .i64 (.ofNat c))
   | none=>match a with
    | some (i,o)=>(A3 P e).bind fun n=>(rowAt s i).bind fun r=>AJ (!r.spare && Nat.ble o r.n && Nat.beq n r.sz && !Nat.beq n 0) (some (.int .i64 (.ofNat ((r.n - o) / n))))
    | none=>none
  | _=>none
 | _=>none
def XT:AV→Option AV
 | .slice none _ _=>some (.ptr none)
 | .slice (some (i,o)) (_+1) _=>some (.ptr (some (i,o)))
 | _=>none
def Made.val(i:Nat):Made→AV
 | .ptr=>.ptr (some (i,0))
 | .slice n=>.slice (some (i,0)) n (some n)
 | .map=>.map (some i)
def Ab(P:Program)(e:TypeId):Option (A8×Made):=(EJ P e).bind fun z=>some (GP e 0 z.cells,.ptr)
def Be(e:TypeId)(v:AV):Option (A8×Made):=some (GP e 0 v.cells,.ptr)
def CF(P:Program)(t:TypeId)(l c:AV):Option (A8×Made):=
 match P.underlying t,l,c with
  | some (.slice e),.int .i64 (.ofNat l),.int .i64 (.ofNat c)=>(C0 P e).bind fun by_=>(A3 P e).bind fun n =>
   AJ (Nat.beq l c && Nat.ble (by_ * c) 1099511627776 && Nat.ble c 1099511627776) <|
   (EJ P e).bind fun z=>AJ (Nat.beq z.cells.length n) (some (GP e n (RH z.cells c),.slice c))
  | _,_,_=>none
def QY(P:Program)(t:TypeId):Bool:=match P.underlying t with
 | some (.int _)=>true
 | _=>false
def Lo(s:AD)(i o n size:Nat):Option (List AV):=bif Nat.beq n 0 then some []else Bv s i o (n * size)
def CB(P:Program)(s:AD)(e:TypeId)(size:Nat):AV→Option (Nat×List AV)
 | .int _ (.ofNat n)=>AJ (Nat.ble n 1099511627776 && Nat.blt 0 n) ((EJ P e).bind fun z=>AJ (Nat.beq z.cells.length size) (some (n,RH z.cells n)))
 | .slice none _ _=>some (0,[])
 | .slice (some (i,o)) n _=>(Lo s i o n size).bind fun l=>some (n,l)
 | .str l=>AJ (Nat.beq size 1) (some (l.length,l.map fun b=>.int .u8 (.ofNat b)))
 | _=>none
def Bp(P:Program)(t:TypeId):Bool:=match P.underlying t with
 | some (.slice _) | some .string=>true
 | _=>false
def CL(e:TypeId)(sz:Nat)(c:AS AV)(n:Nat)(par:Option Nat)(base:Bool):A8:=
 .row { elem:=e,sz,n,c,spare:=true,mode:=.own,par,bytes:=base }
def Cn(P:Program)(e:TypeId)(size:Nat):Bool:=match EJ P e with
 | some z=>Nat.beq z.cells.length size
 | none=>false
def CU(P:Program)(s:AD)(e:TypeId)(size n:Nat)(cells:List AV):Option (AV×AD):=
 AJ (Cn P e size) (some (.slice (some (s.next,0)) n none,newObj s (CL e size (AS.fill .leaf 0 cells) cells.length none true)))
def DC(s:AD)(i:Nat)(r:DN)(ends:Bool):AD:=
 bif ends then setObj (BO s i r) i (.row { r with mode:=.sealed,par:=none })else CE (BO s i r) i
def Ef(P:Program)(s:AD)(e:TypeId)(size i o len:Nat)(src:Nat×List AV)(r:DN)(old:List AV):Option (AV×AD):=
 AJ (Db r.mode && Nat.beq r.elem e && Cn P e size) <|
  let ends:=Nat.beq (o+len * size) r.n
  let s2:=DC s i r ends
  some (.slice (some (s.next,0)) (len+src.1) none,
   newObj s2 (CL e size (bif Nat.beq o 0 then r.c.fill (len * size) src.2 else AS.fill .leaf 0 (old++src.2)) (old++src.2).length (bif ends then some i else none) (r.bytes && Nat.beq o 0)))
def Jd(P:Program)(s:AD)(e:TypeId)(size i o len:Nat)(src:Nat×List AV)(r:DN):Option (AV×AD):=
 AJ (Nat.beq size r.sz) <|
 bif Nat.ble (o+(len+src.1) * size) r.n then
  (CS s i (o+len * size) src.2).bind fun s'=>some (.slice (some (i,o)) (len+src.1) none,s')
 else (Bv s i o (len * size)).bind fun old =>
  bif r.spare then Ef P s e size i o len src r old else CU P s e size (len+src.1) (old++src.2)
def F7(P:Program)(s:AD)(e:TypeId)(size i o len c:Nat)(src:Nat×List AV):Option (AV×AD):=
 bif Nat.ble (len+src.1) c then
  (CS s i (o+len * size) src.2).bind fun s'=>some (.slice (some (i,o)) (len+src.1) (some c),s')
 else (Bv s i o (len * size)).bind fun old=>CU P s e size (len+src.1) (old++src.2)
def appTo(P:Program)(s:AD)(e:TypeId)(size:Nat)(a:Option (Nat×Nat))(len:Nat)(cap:Option Nat)(src:Nat×List AV):Option (AV×AD):=
 match a with
 | none=>bif Nat.beq src.1 0 then some (.slice none 0 (some 0),s)else CU P s e size src.1 src.2
 | some (i,o)=>match cap with
  | some c=>F7 P s e size i o len c src
  | none=>(rowAt s i).bind fun r=>Jd P s e size i o len src r
def Av(P:Program)(s:AD)(argTypes:List TypeId)(args:List AV):Option (AV×AD):=
 match argTypes,args with
 | [st,xt],[.slice a len cap,x]=>match P.underlying st with
  | some (.slice e)=>(A3 P e).bind fun size=>(C0 P e).bind fun by_ =>
   AJ (!Nat.beq size 0 && (match x with | .int ..=>QY P xt | _=>Bp P xt)) <|
   (CB P s e size x).bind fun src =>
   AJ (Ap src.2 && Nat.ble ((len+src.1) * by_) 1099511627776 && Nat.ble (len+src.1) 1099511627776) <|
   appTo P s e size a len cap src
  | _=>none
 | _,_=>none
def XR(P:Program)(s:AD)(argTypes:List TypeId)(args:List AV):Option (AV×AD):=
 match argTypes,args with
 | dt::_,[.slice a dl _,x]=>match P.underlying dt with
  | some (.slice e)=>(A3 P e).bind fun size =>
   (match x with | .slice _ n _=>some n | .str l=>some l.length | _=>none).bind fun sl =>
   let n:=bif Nat.ble sl dl then sl else dl
   (match x with
    | .slice none _ _=>some []
    | .slice (some (i,o)) _ _=>Bv s i o (n * size)
    | .str l=>AJ (Nat.beq size 1) (some ((l.take n).map fun b=>.int .u8 (.ofNat b)))
    | _=>none).bind fun cells =>
   (match a with
    | none=>some s
    | some (i,o)=>CS s i o cells).bind fun s'=>some (.int .i64 (.ofNat n),s')
  | _=>none
 | _,_=>none
def Sa(r:DN):A8:=.row { r with n:=0,spare:=true,mode:=.ro,par:=none,bytes:=false,glob:=none }
def TB(P:Program)(s:AD)(t:TypeId)(n:Nat):Option (Nat×Nat)→Option (AV×AD)
 | none=>none
 | some (i,o)=>match P.underlying t with
  | some (.pointer e)=>(rowAt s i).bind fun r=>AJ (Db r.mode && r.bytes && Nat.beq o 0 && Nat.beq r.elem e && Nat.ble n 1099511627776) <| (A3 P e).bind fun z=>AJ (Nat.beq z 1) <|
   (Bv s i o n).bind fun l=>(As.bytesOf l).bind fun b=>some (.str b,setObj (BO s i r) i (Sa r))
  | _=>none
def ZC(P:Program)(s:AD)(argTypes:List TypeId)(args:List AV):Option (AV×AD):=
 match argTypes,args with
 | [t,_],[.ptr a,.int .i64 (.ofNat n)]=>match n with
  | 0=>some (.str [],s)
  | n+1=>TB P s t (n+1) a
 | _,_=>none
def YL(s:AD):List AV→Option (AV×AD)
 | [x]=>some (x,s)
 | _=>none
def NP(e:TypeId)(s:AD):List AV→Option (AV×AD)
 | [.int .i64 (.ofNat n)]=>AJ (Nat.ble n 1099511627776) (some (.slice (some (s.next,0)) n none,newObj s (CL e 1 .leaf n none true)))
 | _=>none
def SV(s:AD):List AV→Option (AV×AD)
 | [.str a,.str b]=>some (.int .i64 (bif GX a b then -1 else bif Cx a b then 0 else 1),s)
 | _=>none
def OY(P:Program)(name:String)(rt:Array TypeId):Option (AD→List AV→Option (AV×AD)):=
  bif name == "internal/abi.NoEscape" then some YL else
  bif name == "internal/bytealg.abigen_runtime_cmpstring" then some SV else
  bif name == "internal/bytealg.MakeNoZero" then (match rt.toList with
    | [t]=>match P.underlying t with
      | some (.slice e)=>match A3 P e with
        | some 1=>some (NP e)
        | _=>none
      | _=>none
    | _=>none)
  else none
def Xo(P:Program)(f:FuncId):Option (AD→List AV→Option (AV×AD)):=match P.funcs[f]? with
  | some fn=>match fn.body with
    | some _=>none
    | none => bif fn.origin == "" then OY P fn.name fn.resultTypes else none
  | none=>none
def QE(P:Program)(s:AD)(argTypes:List TypeId)(args:List AV):Option (AV×AD):=
 match argTypes,args with
 | t::_,[x]=>match P.underlying t,x with
  | some (.slice _),.slice none _ _=>some (BD,s)
  | some (.slice _),.slice _ 0 _=>some (BD,s)
  | some (.slice e),.slice (some (i,o)) n _=>(EJ P e).bind fun z=>(CS s i o (RH z.cells n)).bind fun s'=>some (BD,s')
  | _,_=>none
 | _,_=>none
inductive Sh where
 | p1 (f:AV→Option AV)
 | p2 (f:AV→AV→Option AV)
 | p (f:List AV→Option AV)
 | r1 (f:AD→AV→Option AV)
 | r (f:AD→List AV→Option AV)
 | mk (f:List AV→Option (A8×Made))
 | e (f:AD→List AV→Option (AV×AD))
 | call (f:FuncId)
 | callv
def Sh.isEff:Sh→Bool
 | .e _ | .call _ | .callv=>true
 | _=>false
def Sh.isRead:Sh→Bool
 | .r1 _ | .r _=>true
 | _=>false
def Rt:List AV→Option AV
 | [c,a,b]=>Ru c a b
 | _=>none
def Xx{α:Type}(f:AV→AV→Option α):List AV→Option α
 | [a,b]=>f a b
 | _=>none
def Xy{α:Type}(f:AV→AV→AV→Option α):List AV→Option α
 | [a,b,c]=>f a b c
 | _=>none
def Xz(x:Option AD):Option (AV×AD):=match x with
 | some s=>some (BD,s)
 | none=>none
def A4(P:Program)(t:TypeId)(lo hi mx:Bool)(s:AD):List AV→Option AV
 | [x]=>match lo,hi,mx with
  | false,false,false=>Bg P s t x none none none
  | _,_,_=>none
 | [x,a]=>match lo,hi,mx with
  | true,false,false=>Bg P s t x (some a) none none
  | false,true,false=>Bg P s t x none (some a) none
  | _,_,_=>none
 | [x,a,b]=>match lo,hi,mx with
  | true,true,false=>Bg P s t x (some a) (some b) none
  | false,true,true=>Bg P s t x none (some a) (some b)
  | _,_,_=>none
 | [x,a,b,c]=>match lo,hi,mx with
  | true,true,true=>Bg P s t x (some a) (some b) (some c)
  | _,_,_=>none
 | _=>none
def zipIdx(is:List Nat)(l:List AV):List (Nat×AV):=is.zip l
def GI:Operand→Bool
 | .tmp _=>true
 | _=>false
def YX(P:Program)(op:BinOp)(t:TypeId)(x y:Operand):Option Bool:=match op with
 | .eql=>bif GI x && GI y && GH P t then some false else none
 | .neq=>bif GI x && GI y && GH P t then some true else none
 | _=>none
def A7(P:Program)(o:Op):Option (Sh×List Operand):=
 match o with
 | .move x | .assign x=>some (.p1 some,[x])
 | .pick c a b=>some (.p Rt,[c,a,b])
 | .build t ps=>some (.p (fun l=>Cz P t (zipIdx (ps.toList.map (·.1)) l)),ps.toList.map (·.2))
 | .nilCheck x=>some (.p1 Dp,[x])
 | .binOp op t x y _=>match YX P op t x y with
  | some neg=>some (.r (fun s=>Xx (Iw P s neg t)),[x,y])
  | none=>some (.p2 (AT P op t),[x,y])
 | .unOp op _ x=>some (.p1 (UH P op),[x])
 | .makeFunc fn first captured=>match fn with
  | .func f=>some (.p (fun l=>some (.func f (l.take first.size) (l.drop first.size))),first.toList++captured.toList)
  | _=>none
 | .fieldAddr t x f=>some (.p1 (fun x=>AH P t x f),[x])
 | .field t x f=>some (.p1 (fun x=>QP P t x f),[x])
 | .indexAddr t x i=>some (.p2 (AM P t),[x,i])
 | .index t x i=>some (.p2 (QV P t),[x,i])
 | .extract t i=>some (.p1 (fun x=>Za x i),[t])
 | .load t a=>some (.r1 (fun s a=>AC P s t a),[a])
 | .lookup t m k ok=>AJ (G7 P t) (some (.r (fun s=>Xx (fun m k=>Cr P s t m k ok)),[m,k]))
 | .convert src dst x=>some (.r1 (fun s x=>As P s src dst x),[x])
 | .slice t x lo hi mx=>some (.r (A4 P t lo.isSome hi.isSome mx.isSome),[x]++lo.toList++hi.toList++mx.toList)
 | .alloc e=>some (.mk (fun l=>match l with | []=>Ab P e | _=>none),[])
 | .box e x=>some (.mk (fun l=>match l with | [v]=>Be e v | _=>none),[x])
 | .buildSlice t len ps=>some (.mk (fun l=>(Ad P t len (zipIdx (ps.toList.map (·.1)) l)).bind fun r=>some (r,.slice len)),ps.toList.map (·.2))
 | .makeMap t none=>AJ (G7 P t) (some (.mk (fun l=>match l with | []=>(Iq P t).bind fun kt=>some (.map kt [],.map) | _=>none),[]))
 | .makeSlice t l c=>some (.mk (Xx (CF P t)),[l,c])
 | .store t a x=>some (.e (fun s=>Xx (fun a x=>Xz (AK P s t a x))),[a,x])
 | .mapUpdate t m k x | .insert t m k x=>AJ (G7 P t) (some (.e (fun s=>Xy (fun m k x=>Xz (Gx P s t m k x))),[m,k,x]))
 | .call { callee,args,argTypes }=>match callee with
  | .value (.func f)=>match Xo P f with
   | some e=>some (.e e,args.toList)
   | none=>some (.call f,args.toList)
  | .value x=>some (.callv,x::args.toList)
  | .invoke ..=>none
  | .builtin b=>match b with
   | .len=>match argTypes[0]? with
    | some t=>some (.r (fun s l=>match l with | [x]=>BZ P s t x | _=>none),args.toList)
    | none=>none
   | .cap=>match argTypes[0]? with
    | some t=>some (.r (fun s l=>match l with | [x]=>TU P s t x | _=>none),args.toList)
    | none=>none
   | .min=>some (.p (fun l=>match l with | v::l=>B3 false v l | []=>none),args.toList)
   | .max=>some (.p (fun l=>match l with | v::l=>B3 true v l | []=>none),args.toList)
   | .append=>some (.e (fun s l=>Av P s argTypes.toList l),args.toList)
   | .copy=>some (.e (fun s l=>XR P s argTypes.toList l),args.toList)
   | .unsafeSliceData=>some (.p (fun l=>match l with | [x]=>XT x | _=>none),args.toList)
   | .unsafeString=>some (.e (fun s l=>ZC P s argTypes.toList l),args.toList)
   | .clear=>some (.e (fun s l=>QE P s argTypes.toList l),args.toList)
   | .delete=>match argTypes[0]? with
    | some t=>AJ (G7 P t) (some (.e (fun s=>Xx (fun m k=>Xz (FZ P s t m k))),args.toList))
    | none=>none
   | _=>none
 | _=>none
def lj(t:Nat):Nat:=Nat.shiftLeft 1 t
def FK:List Operand→Nat
 | []=>0
 | .tmp t::l=>Nat.lor (lj t) (FK l)
 | _::l=>FK l
def KU(P:Program):List Oper→Nat→Nat→Nat
 | [],_,e=>e
 | o::l,wr,e =>
  let rd:=match A7 P o.op with
   | some (_,xs)=>FK xs
   | none=>match o.op with
    | .range _ x | .next x _ | .entry x=>FK [x]
    | _=>0
  KU P l (match o.dst with | some d=>Nat.lor wr (lj d) | none=>wr) (Nat.lor e (Nat.sub rd (Nat.land rd wr)))
def EP(P:Program):Code→Nat
 | .region _ ops _=>KU P ops.toList 0 0
 | .seq a b=>Nat.lor (EP P a) (EP P b)
 | .cond c a b=>Nat.lor (FK [c]) (Nat.lor (EP P a) (EP P b))
 | .block _ b | .loop b | .scope b=>EP P b
 | .rangeFunc f ps a b=>Nat.lor (FK [f]) (Nat.lor (ps.toList.foldl (fun m t=>Nat.lor m (lj t)) 0) (Nat.lor (EP P a) (EP P b)))
 | _=>0
def HY:List ResultVar→Nat
 | []=>0
 | .tmp t::l | .cell t _::l=>Nat.lor (lj t) (HY l)
def FC(m:Nat):Nat→Nat→List Nat
 | 0,_=>[]
 | n+1,k=>bif m.testBit k then k::FC m n (k+1)else FC m n (k+1)
def DE(fn:Func):Nat:=fn.params.size+fn.nfree
def Ak(P:Program)(fn:Func):List Tmp:=
 List.range (DE fn)++match fn.body with
 | none=>[]
 | some c=>FC (Nat.lor (EP P c) (HY fn.results.toList)) (fn.ntmps - DE fn) (DE fn)
def Az:List Tmp→Tmp→Option Nat
 | [],_=>none
 | a::l,t=>bif Nat.beq a t then some 0 else (Az l t).bind fun j=>some (j+1)
def OU(P:Program)(o:Oper):Bool:=match A7 P o.op with
 | some (s,_)=>s.isEff
 | none=>true
def S0(b:Array Nat)(done:Nat)(i:Nat):Bool:=Nat.beq (Nat.land (b.getD i 0) done) (b.getD i 0)
def RF(P:Program)(ops:Array Oper)(b:Array Nat):Nat→Nat→List Nat→List Nat→List Nat
 | 0,_,_,acc=>acc.reverse
 | f+1,done,todo,acc =>
  match todo.find? fun i=>S0 b done i && !OU P (ops.getD i default)with
  | some i=>RF P ops b f (done+2 ^ i) (todo.filter fun j=>!Nat.beq j i) (i::acc)
  | none=>match todo.find? fun i=>S0 b done i with
   | some i=>RF P ops b f (done+2 ^ i) (todo.filter fun j=>!Nat.beq j i) (i::acc)
   | none=>acc.reverse
def aP(P:Program)(ops:Array Oper):List Nat:=RF P ops (Region.before ops) ops.size 0 (List.range ops.size) []
def Fh(P:Program)(o:Oper):List Tmp:=o.dst.toList++((match A7 P o.op with
 | some (_,xs)=>xs
 | none=>[]).filterMap fun x:Operand=>match x with
  | .tmp t=>some t
  | _=>none)
def Sm(o:Oper):List Nat:=match o.guard with
 | some (j,_)=>[j]
 | none=>[]
def Nl(P:Program)(ops:Array Oper)(b:Array Nat)(before:List Nat)(i:Nat):Bool:=
 let o:=ops.getD i default
 let anc:=b.getD i 0
 Nat.blt i ops.size && !before.contains i &&
 (List.range ops.size).all (fun j=>!anc.testBit j || before.contains j) &&
 o.after.all (fun e=>!Region.binds .any e || before.contains e.on) &&
 before.all (fun j=>!OU P (ops.getD j default) || anc.testBit j) &&
 (Sm o).all (fun j=>anc.testBit j) &&
 before.all (fun j=>let p:=ops.getD j default
  (match o.dst with
   | none=>true
   | some d=>p.dst != some d && (!(Fh P p).contains d || anc.testBit j)) &&
  (match p.dst with
   | none=>true
   | some d=>!(Fh P o).contains d || anc.testBit j))
def Eo(P:Program)(ops:Array Oper)(b:Array Nat):List Nat→List Nat→Bool
 | before,[]=>Nat.beq before.length ops.size
 | before,i::l=>Nl P ops b before i && Eo P ops b (before++[i]) l
inductive JY where
 | push | set (j:Nat)
structure F1 where
 guard:Option (CX×Bool)
 sh:Sh
 xs:List CX
 ans:CX
structure AA where
 guard:Option (CX×Bool)
 sh:Sh
 xs:List CX
 dst:JY
 again:List F1
structure ZH where
 map:List (Tmp×CX)
 cnt:Nat
def EF:List (Tmp×CX)→Tmp→Option CX
 | [],_=>none
 | (a,x)::l,t=>bif Nat.beq a t then some x else EF l t
def CO(cnt:Nat):CX→CX
 | .loc p=>.loc (cnt - 1 - p)
 | x=>x
def EI(vars:List Tmp)(c:ZH)(t:Tmp):Option CX:=
 match EF c.map t with
 | some x=>some x
 | none=>(Az vars t).bind fun j=>some (.var j)
def EG(vars:List Tmp)(c:ZH):Operand→Option CX
 | .tmp t=>EI vars c t
 | .const v=>(ofValue v).bind fun a=>some (.const a)
 | .global g=>some (.const (.gptr g 0))
 | .func f=>some (.const (.func f [] []))
def HT(vars:List Tmp)(c:ZH):List Operand→Option (List CX)
 | []=>some []
 | x::l=>(EG vars c x).bind fun a=>(HT vars c l).bind fun r=>some (a::r)
def isVar(j:Nat):CX→Bool
 | .var i=>Nat.beq i j
 | _=>false
def IA(j:Nat):List (Tmp×CX)→Bool
 | []=>true
 | (_,x)::l=>!isVar j x && IA j l
def Jc(vars:List Tmp)(later:List (Option Tmp))(o:Oper)(x:CX):Bool:=
 (match o.op with | .move _=>true | _=>false) && o.guard.isNone &&
 (match o.dst with | some d=>(Az vars d).isNone | none=>false) &&
 (match x with
  | .var j=>!(later.any fun d=>match d with
   | some t=>match Az vars t with
    | some i=>Nat.beq i j
    | none=>false
   | none=>false)
  | _=>true)
def FM(cnt:Nat):Option (CX×Bool)→Option (CX×Bool)
 | none=>none
 | some (x,b)=>some (CO cnt x,b)
def IJ(cnt:Nat)(r:F1):F1:={ guard:=FM cnt r.guard,sh:=r.sh,xs:=r.xs.map (CO cnt),ans:=CO cnt r.ans }
def NX(j:Nat)(r:F1):Bool:=(match r.guard with | none=>true | some (x,_)=>!isVar j x) && r.xs.all fun x=>!isVar j x
def EO(P:Program)(nt:Nat)(vars:List Tmp)(ops:Array Oper)(b:Array Nat)(draw:Bool):List Nat→ZH→List (Nat×F1)→Option (List AA)
  | [],_,_=>some []
  | i::l,c,rs=>(ops[i]?).bind fun o=>(A7 P o.op).bind fun sh=>(HT vars c sh.2).bind fun xs =>
    match (match xs with | [x]=>bif Jc vars (l.map fun j=>(ops.getD j default).dst) o x then some x else none | _=>none),o.dst with
    | some x,some d=>AJ (Nat.blt d nt) (EO P nt vars ops b draw l { c with map:=(d,x)::c.map } rs)
    | _,_ =>
      (match o.guard with
        | none=>some none
        | some (j,want)=>(ops[j]?).bind fun p=>p.dst.bind fun d=>(EI vars c d).bind fun x=>some (some (x,want))).bind fun g =>
      (match o.dst with
        | none=>some (JY.push,{ c with cnt:=c.cnt+1 })
        | some d=>AJ (Nat.blt d nt) <| match Az vars d with
          | some j=>AJ (IA j c.map && rs.all fun r=>NX j r.2) (some (JY.set j,c))
          | none=>some (JY.push,{ map:=(d,.loc c.cnt)::c.map,cnt:=c.cnt+1 })).bind fun q =>
      let ag:=match draw,sh.1.isEff with
        | true,true=>rs.filter fun(r:Nat×F1)=>!(b.getD i 0).testBit r.1
        | _,_=>[]
      let rd:=draw && sh.1.isRead
      AJ (!rd || (match q.1 with | .push=>true | .set _=>false)) <|
      (EO P nt vars ops b draw l q.2 (bif rd then (i,{ guard:=g,sh:=sh.1,xs,ans:=.loc c.cnt })::rs else rs)).bind fun r =>
        some ({ guard:=FM c.cnt g,sh:=sh.1,xs:=xs.map (CO c.cnt),dst:=q.1,again:=ag.map fun(r:Nat×F1)=>IJ q.2.cnt r.2 }::r)
structure IY where
 ad:CX
 rd:AD→AV→Option AV
 jt:Nat
 jok:Nat
 jk:Nat
 id2:Nat
inductive Af where
 | skip
 | ops (l:List AA)
 | seq (a b:Af)
 | cond (x:CX) (a b:Af)
 | block (id:Nat) (c:Af)
 | loop (c:Af)
 | rangeFunc (fn:FuncId) (f:CX) (params:Array Tmp) (assign body:Code)
 | exit (id:Nat)
 | ret
 | never
 | rangeMap (r:IY) (body:Af)
structure j0 where
 ty:TypeId
 ad:Operand
 tm:Tmp
 it:Tmp
 tn:Tmp
 ok:Tmp
 te:Tmp
 tk:Tmp
 key:Tmp
 id2:Nat
def ES(o:Oper):Option (Op×Tmp):=match o.guard,o.dst with
 | none,some d=>some (o.op,d)
 | _,_=>none
def Pp:Op→Option (TypeId×Operand)
 | .load t a=>some (t,a)
 | _=>none
def Mq:Op→Option (TypeId×Tmp)
 | .range t (.tmp m)=>some (t,m)
 | _=>none
def Pq:Op→Option Tmp
 | .next (.tmp i) false=>some i
 | _=>none
def Mo:Op→Option Tmp
 | .entry (.tmp i)=>some i
 | _=>none
def R9:Op→Option Tmp
 | .extract (.tmp n) 0=>some n
 | _=>none
def UR:Op→Option Tmp
 | .assign (.tmp n)=>some n
 | _=>none
def Na:List Oper→Option (TypeId×Operand×Tmp×Tmp)
 | [o0,o1]=>(ES o0).bind fun p0=>(ES o1).bind fun p1=>(Pp p0.1).bind fun l=>(Mq p1.1).bind fun r =>
  AJ (Nat.beq l.1 r.1 && Nat.beq p0.2 r.2) (some (l.1,l.2,p0.2,p1.2))
 | _=>none
def Nc(it:Tmp):List Oper→Option (Tmp×Tmp)
 | [o0,o1]=>(ES o0).bind fun p0=>(ES o1).bind fun p1=>(Pq p0.1).bind fun i=>(R9 p1.1).bind fun n =>
  AJ (Nat.beq i it && Nat.beq n p0.2) (some (p0.2,p1.2))
 | _=>none
def LL(it:Tmp):List Oper→Option (Tmp×Tmp×Tmp)
 | [o0,o1,o2]=>(ES o0).bind fun p0=>(ES o1).bind fun p1=>(ES o2).bind fun p2=>(Mo p0.1).bind fun i=>(R9 p1.1).bind fun n=>(UR p2.1).bind fun k =>
  AJ (Nat.beq i it && (Nat.beq n p0.2 && Nat.beq k p1.2)) (some (p0.2,p1.2,p2.2))
 | _=>none
def Yk(ops1:Array Oper)(d1:Bool):Code→Option j0
 | .block id (.loop (.seq (.region _ ops2 false) (.seq (.cond (.tmp c) .skip (.exit id')) (.block id2 (.seq (.region _ ops3 false) _))))) =>
  AJ (!d1) <| (Na ops1.toList).bind fun h=>(Nc h.2.2.2 ops2.toList).bind fun n=>(LL h.2.2.2 ops3.toList).bind fun e =>
   AJ (Nat.beq id' id && Nat.beq c n.2) (some ⟨h.1,h.2.1,h.2.2.1,h.2.2.2,n.1,n.2,e.1,e.2.1,e.2.2,id2⟩)
 | _=>none
def SY(P:Program)(nt:Nat)(vars:List Tmp)(p:j0):Option IY:=
 (EG vars ⟨[],0⟩ p.ad).bind fun ad=>(Az vars p.it).bind fun jt=>(Az vars p.ok).bind fun jok=>(Az vars p.key).bind fun jk =>
  AJ ((Az vars p.tm).isNone && ((Az vars p.tn).isNone && ((Az vars p.te).isNone && (Az vars p.tk).isNone))) <|
  AJ (Nat.blt p.tm nt && (Nat.blt p.tn nt && (Nat.blt p.te nt && (Nat.blt p.tk nt && (Nat.blt p.it nt && (Nat.blt p.ok nt && Nat.blt p.key nt)))))) <|
  AJ (Ip P p.ty && (!Nat.beq jt jok && (!Nat.beq jt jk && !Nat.beq jok jk))) (some ⟨ad,fun s a=>AC P s p.ty a,jt,jok,jk,p.id2⟩)
def Gq:Af→Option Af
 | .block _ (.loop (.seq _ (.seq _ (.block _ (.seq _ b)))))=>some b
 | _=>none
def LQ(r:Option IY)(a b:Af):Af:=match r with
 | none=>.seq a b
 | some r=>match Gq b with
  | some c=>.rangeMap r c
  | none=>.seq a b
def G9(P:Program)(nt:Nat)(vars:List Tmp):Code→Code→Option IY
 | .region _ ops d,b=>(Yk ops d b).bind (SY P nt vars)
 | _,_=>none
def gn:Option (List AA)→Af
 | some l=>.ops l
 | none=>.never
def Ai(P:Program)(fn:FuncId)(nt:Nat)(vars:List Tmp):Code→Af
 | .skip | .label _=>.skip
 | .ret=>.ret
 | .exit id=>.exit id
 | .goto _ | .refuse _=>.never
 | .region _ ops draw=>match draw with
  | false=>gn (EO P nt vars ops #[] false (List.range ops.size) ⟨[],0⟩ [])
  | true=>gn (AJ (Eo P ops (Region.before ops) [] (aP P ops)) (EO P nt vars ops (Region.before ops) true (aP P ops) ⟨[],0⟩ []))
 | .seq a b=>LQ (G9 P nt vars a b) (Ai P fn nt vars a) (Ai P fn nt vars b)
 | .cond c a b=>match EG vars ⟨[],0⟩ c with
  | some z=>.cond z (Ai P fn nt vars a) (Ai P fn nt vars b)
  | none=>.never
 | .block id c=>.block id (Ai P fn nt vars c)
 | .loop c=>.loop (Ai P fn nt vars c)
 | .scope c=>Ai P fn nt vars c
 | .rangeFunc f ps a b=>match EG vars ⟨[],0⟩ f with
  | some x=>.rangeFunc fn x ps a b
  | none=>.never
structure Ao where
 na:Nat
 nv:Nat
 body:Af
 results:List (CX×Option TypeId)
def Ce(vars:List Tmp):List ResultVar→Option (List (CX×Option TypeId))
 | []=>some []
 | .tmp t::l=>(Az vars t).bind fun j=>(Ce vars l).bind fun r=>some ((.var j,none)::r)
 | .cell t ty::l=>(Az vars t).bind fun j=>(Ce vars l).bind fun r=>some ((.var j,some ty)::r)
def AN(P:Program)(f:FuncId):Option Ao:=(P.funcs[f]?).bind fun fn=>fn.body.bind fun c =>
 AJ (Nat.ble (DE fn) fn.ntmps) <|
 let vars:=Ak P fn
 (Ce vars fn.results.toList).bind fun r =>
  some { na:=DE fn,nv:=vars.length,body:=Ai P f fn.ntmps vars c,results:=r }
def Kx (l:List AV):Nat→AV:=
 List.rec (fun _=>BD) (fun a _ ih i=>Nat.rec a (fun i _=>ih i) i) l
def Fo (v:AV) (l:List AV):Nat→List AV:=
 List.rec (fun _=>[]) (fun a l ih i=>Nat.rec (v::l) (fun i _=>a::ih i) i) l
def Co (loc var:List AV) (x:CX):AV:=
 match x with
 | .loc i=>Kx loc i
 | .var j=>Kx var j
 | .const v=>v
def DP (loc var:List AV) (l:List CX):List AV:=
 List.rec [] (fun x _ ih=>Co loc var x::ih) l
inductive I6 where
 | normal | exit (id:Nat) | ret
structure A5 where
 exit:I6
 var:List AV
 marks:List Nat
 st:AD
def Et:AV→AV→Bool
 | .bool a,.bool b=>a == b
 | .int k a,.int k' b=>B0 k k' && L4 a b
 | .str a,.str b=>Cx a b
 | .ptr none,.ptr none=>true
 | .gptr a b,.gptr c d=>Nat.beq a c && Nat.beq b d
 | .ptr (some (i,o)),.ptr (some (j,p))=>Nat.beq i j && Nat.beq o p
 | .slice none n (some c),.slice none n' (some c')=>Nat.beq n n' && Nat.beq c c'
 | .slice none n none,.slice none n' none=>Nat.beq n n'
 | .slice (some (i,o)) n none,.slice (some (j,p)) n' none=>Nat.beq i j && Nat.beq o p && Nat.beq n n'
 | .slice (some (i,o)) n (some c),.slice (some (j,p)) n' (some c')=>Nat.beq i j && Nat.beq o p && Nat.beq n n' && Nat.beq c c'
 | .map none,.map none=>true
 | .map (some i),.map (some j)=>Nat.beq i j
 | .func f a c,.func g b d=>Nat.beq f g && eqAs a b && eqAs c d
 | .nilFunc,.nilFunc=>true
 | .nilIface,.nilIface=>true
 | .yield i,.yield j=>Nat.beq i j
 | .agg a,.agg b=>eqAs a b
 | .tuple a,.tuple b=>eqAs a b
 | _,_=>false
where
 eqAs:List AV→List AV→Bool
 | [],[]=>true
 | a::x,b::y=>Et a b && eqAs x y
 | _,_=>false
abbrev Nu:=FuncId→List AV→AD→Option (AV×AD)
structure CP where
 P:Program
 nat:Nu
structure DS where
 code:Option Nat→Af→List AV→List Nat→AD→Option A5
 call:FuncId→List AV→AD→Option (AV×AD)
 round:Nat→List AV→AD→Option (AV×AD)
def GD(F:DS)(f:AV)(args:List AV)(s:AD):Option (AV×AD):=
 match f with
 | .func f first cap=>F.call f (first++(args++cap)) s
 | .yield l=>F.round l args s
 | _=>none
def Dc(s:AD)(x:Option AV):Option (AV×AD):=match x with
 | some v=>some (v,s)
 | none=>none
def one{α:Type}(f:AV→Option α):List AV→Option α
 | [a]=>f a
 | _=>none
def EH(sh:Sh)(xs:List AV)(s:AD):Option AV:=
 match sh with
 | .r1 f=>one (f s) xs
 | .r f=>f s xs
 | _=>none
def Oq(s:AD)(r:Option (A8×Made)):Option (AV×AD):=match r with
 | some p=>some (p.2.val s.next,newObj s p.1)
 | none=>none
def HN {α:Type} (f:CX→Option α) (xs:List CX):Option α:=List.rec none (fun x _ _=>f x) xs
def Jn {α:Type} (f:CX→CX→Option α) (xs:List CX):Option α:=HN (fun x=>HN (f x) xs.tail) xs
def mO (f:AV→Option AV) (xs:List CX) (loc var:List AV) (s:AD):Option (AV×AD):=HN (fun x=>Dc s (f (Co loc var x))) xs
def mP (f:AV→AV→Option AV) (xs:List CX) (loc var:List AV) (s:AD):Option (AV×AD):=Jn (fun x y=>Dc s (f (Co loc var x) (Co loc var y))) xs
def mQ (f:AD→AV→Option AV) (xs:List CX) (loc var:List AV) (s:AD):Option (AV×AD):=HN (fun x=>Dc s (f s (Co loc var x))) xs
def shV (F:DS) (xs:List CX) (loc var:List AV) (s:AD):Option (AV×AD):=HN (fun x=>GD F (Co loc var x) (DP loc var xs.tail) s) xs
def jn (F:DS) (sh:Sh) (xs:List CX) (loc var:List AV) (s:AD):Option (AV×AD):=
 match sh with
 | .p1 f=>mO f xs loc var s
 | .p2 f=>mP f xs loc var s
 | .p f=>Dc s (f (DP loc var xs))
 | .r1 f=>mQ f xs loc var s
 | .r f=>Dc s (f s (DP loc var xs))
 | .mk f=>Oq s (f (DP loc var xs))
 | .e f=>f s (DP loc var xs)
 | .call f=>F.call f (DP loc var xs) s
 | .callv=>shV F xs loc var s
def ju(want:Bool):AV→Bool
 | .bool b=>b == want
 | _=>false
def Bd (loc var:List AV) (g:Option (CX×Bool)):Bool:=
 match g with
 | none=>true
 | some p=>ju p.2 (Co loc var p.1)
def jW:AV→Bool
 | .junk=>true
 | _=>false
def UG (loc var:List AV) (g:Option (CX×Bool)):Bool:=
 match g with
 | none=>false
 | some p=>jW (Co loc var p.1)
def PO(x:Option AV)(v:AV):Bool:=match x with
 | some u=>Et u v
 | none=>false
def FW (s:AD) (loc var:List AV) (r:F1):Bool:=
 !Bd loc var r.guard || PO (EH r.sh (DP loc var r.xs) s) (Co loc var r.ans)
def EB (s:AD) (loc var:List AV) (l:List F1):Bool:=
 List.rec true (fun r _ ih=>FW s loc var r && ih) l
abbrev UI:=List AV→List AV→AD→Option (List AV×AD)
def Cq (ag:List F1) (d:JY) (k:UI) (loc var:List AV) (v:AV) (s:AD):Option (List AV×AD):=
 match d with
 | .push=>bif EB s (v::loc) var ag then k (v::loc) var s else none
 | .set j=>bif EB s loc (Fo v var j) ag then k loc (Fo v var j) s else none
def Jp (it:AA) (k:UI) (loc var:List AV) (r:Option (AV×AD)):Option (List AV×AD):=
 match r with
 | none=>none
 | some p=>Cq it.again it.dst k loc var p.1 p.2
def JI (F:DS) (it:AA) (k:UI) (loc var:List AV) (s:AD):Option (List AV×AD):=
 match UG loc var it.guard with
 | true=>none
 | false=>match Bd loc var it.guard with
  | true=>Jp it k loc var (jn F it.sh it.xs loc var s)
  | false=>Cq [] it.dst k loc var BD s
def EC (F:DS) (l:List AA):UI:=
 List.rec (fun _ var s=>some (var,s)) (fun it _ ih loc var s=>JI F it ih loc var s) l
def Ql(l:List AV):Nat→List AV
 | 0=>[]
 | n+1=>match l with
  | []=>BD::Ql [] n
  | a::l=>a::Ql l n
def Bk (P:Program) (s:AD) (var:List AV):List (CX×Option TypeId)→Option (List AV)
 | []=>some []
 | (x,none)::l=>(Bk P s var l).bind fun r=>some (Co [] var x::r)
 | (x,some t)::l=>(AC P s t (Co [] var x)).bind fun v=>(Bk P s var l).bind fun r=>some (v::r)
def Ba:List AV→AV
 | [v]=>v
 | l=>.tuple l
def DZ(s:AD):List Nat→Option AD
 | []=>some s
 | i::l=>match s.heap.get i with
  | some .mark=>DZ (CE s i) l
  | _=>none
def C9:I6→Option Code
 | .normal=>none
 | .ret=>some .ret
 | .exit id=>some (.exit id)
def Cu (vars:List Tmp) (var:List AV):List Tmp→List AV→Option (List AV)
 | [],[]=>some var
 | t::ts,v::vs=>(Az vars t).bind fun j=>Cu vars (Fo v var j) ts vs
 | _,_=>none
def BC(s:AD)(l:Nat):Option C4:=match s.heap.get l with
 | some (.loop r)=>some r
 | _=>none
def Di(P:Program)(f:FuncId)(c:Code):Option Af:=(P.funcs[f]?).bind fun fn=>some (Ai P f fn.ntmps (Ak P fn) c)
def C3(P:Program)(f:FuncId):List Tmp:=match P.funcs[f]? with
 | some fn=>Ak P fn
 | none=>[]
def Zf(marks:List Nat)(r:Option (List AV×AD)):Option A5:=match r with
 | some p=>some ⟨.normal,p.1,marks,p.2⟩
 | none=>none
def G1(F:DS)(rnd:Option Nat)(b:Af)(r:A5):Option A5:=match r.exit with
 | .normal=>F.code rnd b r.var r.marks r.st
 | _=>some r
def Hq(F:DS)(rnd:Option Nat)(b:Af)(r:Option A5):Option A5:=match r with
 | some r=>G1 F rnd b r
 | none=>none
def OO(F:DS)(rnd:Option Nat)(a b:Af)(var:List AV)(marks:List Nat)(s:AD)(v:AV):Option A5:=match v with
 | .bool t=>match t with
  | true=>F.code rnd a var marks s
  | false=>F.code rnd b var marks s
 | _=>none
def Jg(id:Nat)(r:A5):Option A5:=match r.exit with
 | .exit id'=>bif Nat.beq id' id then some ⟨.normal,r.var,r.marks,r.st⟩else some r
 | _=>some r
def KL(id:Nat)(r:Option A5):Option A5:=match r with
 | some r=>Jg id r
 | none=>none
def GA(var:List AV)(marks:List Nat)(s:AD)(c:Option Code):Option A5:=match c with
 | none=>some ⟨.normal,var,marks,s⟩
 | some .ret=>some ⟨.ret,var,marks,s⟩
 | some (.exit id)=>some ⟨.exit id,var,marks,s⟩
 | some _=>none
def QX:LoopState→Bool
 | .busy=>true
 | _=>false
def Jo:LoopState→Bool
 | .ready=>true
 | _=>false
def Gd(var:List AV)(marks:List Nat)(l:Nat)(q:Option (AV×AD)):Option A5:=
 q.bind fun q=>(BC q.2 l).bind fun r=>bif QX r.state then none else
  GA var marks (setObj q.2 l (.loop { r with state:=.exhausted })) r.pending
def Ev(F:DS)(var:List AV)(f:AV)(params:Array Tmp)(assign body:Code)(fn:FuncId)(dfr:Nat)(marks:List Nat)(s:AD):Option A5:=
 Gd var marks s.next (GD { F with round:=fun _ _ _=>none } f [.yield s.next] (newObj s (.loop { state:=.ready,pending:=none,fn,var,params,assign,body,dfr })))
def KM(F:DS)(rnd:Option Nat)(fn:FuncId)(f:AV)(params:Array Tmp)(assign body:Code)(var:List AV)(marks:List Nat)(s:AD):Option A5:=
 match rnd with
 | some l=>(BC s l).bind fun r=>Ev F var f params assign body fn r.dfr marks s
 | none=>Ev F var f params assign body fn s.next (s.next::marks) (newObj s .mark)
def jU:A8→Option A8
 | .row r=>some (.row { r with mode:=.ro,par:=none })
 | .map kt es=>some (.mapRo kt es)
 | .mapRo kt es=>some (.mapRo kt es)
 | _=>none
def frz(n:Nat)(h:AS A8):AD:=⟨n,h.mapO jU⟩
def Hc:AV→Bool
 | .agg _=>false
 | _=>true
def MT(a b:AV):Bool:=match a,b with
 | .junk,.junk=>true
 | _,_=>Et a b
def NK:List AV→List AV→Option (List AV)
 | [],[]=>some []
 | a::l,b::m=>(bif MT a b then some a else AJ (Hc a && Hc b) (some .junk)).bind fun c=>(NK l m).bind fun r=>some (c::r)
 | _,_=>none
def lJ(x b:AV):Bool:=MT x b || (Hc x && MT .junk b)
def QK:List AV→List AV→Bool
 | [],[]=>true
 | x::l,b::m=>lJ x b && QK l m
 | _,_=>false
def Gt:List Nat→List Nat→Bool
 | [],[]=>true
 | a::l,b::m=>Nat.beq a b && Gt l m
 | _,_=>false
def Ly(id2:Nat):I6→Bool
 | .normal=>true
 | .exit i=>Nat.beq i id2
 | .ret=>false
def CN (F:DS) (rnd:Option Nat) (r:IY) (body:Af) (A:List AV) (marks:List Nat) (s:AD) (k:AV):Option (List AV):=
 (F.code rnd body (Fo k (Fo (.bool true) A r.jok) r.jk) marks s).bind fun q=>AJ (Ly r.id2 q.exit && Gt q.marks marks) (some q.var)
def HZ (f:AV→Option (List AV)) (B:List AV):List (AV×AV)→Option (List AV)
 | []=>some B
 | e::l=>(f e.1).bind fun X=>(NK B X).bind fun B'=>HZ f B' l
def ET (f:AV→Option (List AV)) (B:List AV):List (AV×AV)→Bool
 | []=>true
 | e::l=>(match f e.1 with | some X=>QK X B | none=>false) && ET f B l
def LM (F:DS) (rnd:Option Nat) (r:IY) (body:Af) (it:AV) (marks:List Nat) (s:AD) (A0:List AV) (l:List (AV×AV)):Option (List AV):=
 (HZ (CN F rnd r body A0 marks s) A0 l).bind fun A1=>AJ (ET (CN F rnd r body A1 marks s) A1 l && (Et (Kx A1 r.jt) it && QK A0 A1)) (some A1)
def M4 (r:IY) (marks:List Nat) (s:AD) (A:Option (List AV)):Option A5:=
 A.bind fun A=>some ⟨.normal,Fo (.bool false) A r.jok,marks,s⟩
def Ss(s:AD):AV→Option (List (AV×AV))
 | .map (some i)=>match s.heap.get i with
  | some (.map _ es)=>some es
  | some (.mapRo _ es)=>some es
  | _=>none
 | _=>none
def Zg (F:DS) (rnd:Option Nat) (r:IY) (body:Af) (var:List AV) (marks:List Nat) (s:AD):Option A5:=
 (r.rd s (Co [] var r.ad)).bind fun m=>(Ss s m).bind fun es =>
  M4 r marks ⟨s.next+1,s.heap⟩ (LM F rnd r body (.ptr (some (s.next,0))) marks (frz (s.next+1) s.heap) (Fo (.ptr (some (s.next,0))) var r.jt) es)
def Cc (F:DS) (rnd:Option Nat) (c:Af) (var:List AV) (marks:List Nat) (s:AD):Option A5:=
 match c with
 | .skip=>some ⟨.normal,var,marks,s⟩
 | .ret=>some ⟨.ret,var,marks,s⟩
 | .exit id=>some ⟨.exit id,var,marks,s⟩
 | .never=>none
 | .ops l=>Zf marks (EC F l [] var s)
 | .seq a b=>Hq F rnd b (F.code rnd a var marks s)
 | .cond x a b=>OO F rnd a b var marks s (Co [] var x)
 | .block id body=>KL id (F.code rnd body var marks s)
 | .loop body=>Hq F rnd (.loop body) (F.code rnd body var marks s)
 | .rangeFunc fn f params assign body=>KM F rnd fn (Co [] var f) params assign body var marks s
 | .rangeMap r body=>Zg F rnd r body var marks s
def Sn:I6→Bool
 | .normal | .ret=>true
 | .exit _=>false
def Jh (P:Program) (cf:Ao) (r:Option A5):Option (AV×AD):=
 r.bind fun r=>bif Sn r.exit then (DZ r.st r.marks).bind fun s=>(Bk P s r.var cf.results).bind fun l=>some (Ba l,s)else none
def GB (P:Program) (F:DS) (args:List AV) (s:AD) (cf:Option Ao):Option (AV×AD):=
 cf.bind fun cf=>bif Nat.beq args.length cf.na then Jh P cf (F.code none cf.body (Ql args cf.nv) [] s)else none
def HC (E:CP) (F:DS) (f:FuncId) (args:List AV) (s:AD):Option (AV×AD):=
 match E.nat f args s with
 | some p=>some p
 | none=>GB E.P F args s (AN E.P f)
def H0:I6→Bool
 | .normal=>true
 | _=>false
def Gv:Option Code→LoopState
 | none=>.ready
 | some _=>.done
def IM(l:Nat)(q:Option A5):Option (AV×AD):=q.bind fun q=>(BC q.st l).bind fun r =>
 some (.bool (C9 q.exit).isNone,setObj q.st l (.loop { r with state:=Gv (C9 q.exit),pending:=C9 q.exit }))
def Gr(F:DS)(l:Nat)(cb:Af)(q:Option A5):Option (AV×AD):=q.bind fun q=>bif H0 q.exit then
  (BC q.st l).bind fun r=>bif Jo r.state then IM l (F.code (some l) cb q.var q.marks (setObj q.st l (.loop { r with state:=.busy })))else none
 else none
def JU (E:CP) (F:DS) (l:Nat) (args:List AV) (s:AD):Option (AV×AD):=
 (BC s l).bind fun r=>(Cu (C3 E.P r.fn) r.var r.params.toList args).bind fun var =>
  (Di E.P r.fn r.assign).bind fun ca=>(Di E.P r.fn r.body).bind fun cb=>Gr F l cb (F.code (some l) ca var [] s)
def lN:DS:=⟨fun _ _ _ _ _=>none,fun _ _ _=>none,fun _ _ _=>none⟩
def lM (E:CP) (F:DS):DS:=⟨Cc F,HC E F,JU E F⟩
def Dr (E:CP) (n:Nat):DS:=Nat.rec lN (fun _ F=>lM E F) n
structure RB where
 b:Nat
 off:Nat
 N:Nat
 sz:Nat
abbrev BA:=Nat→Option RB
mutual
inductive AW (ρ:BA):AV→Value→Prop
 | bool (b:Bool):AW ρ (.bool b) (.bool b)
 | int (k:IntKind) (n:Int):AW ρ (.int k n) (.int k n)
 | str {l:List Nat} {s:ByteArray} (h:s.data.toList.map (fun(b:UInt8)=>b.toNat)=l):AW ρ (.str l) (.string s)
 | ptrNil:AW ρ (.ptr none) (.pointer none)
 | ptr {i o:Nat} {rb:RB} (h:ρ i=some rb):AW ρ (.ptr (some (i,o))) (.pointer (some ⟨rb.b,rb.off+o,none⟩))
 | gptr (g o:Nat):AW ρ (.gptr g o) (.pointer (some ⟨g,o,none⟩))
 | sliceNil:AW ρ (.slice none 0 (some 0)) (.slice none 0 0)
 | slice {i o len c:Nat} {rb:RB} (h:ρ i=some rb) (hl:len≤c):AW ρ (.slice (some (i,o)) len (some c)) (.slice (some ⟨rb.b,rb.off+o,none⟩) len c)
 | sliceOpen {i o len c:Nat} {rb:RB} (h:ρ i=some rb) (hs:0<rb.sz) (hl:len≤c) (h1:o+c * rb.sz≤rb.N) (h2:rb.N<o+(c+1) * rb.sz):
   AW ρ (.slice (some (i,o)) len none) (.slice (some ⟨rb.b,rb.off+o,none⟩) len c)
 | sliceEnd {i o:Nat} {rb:RB} {a:Addr} (h:ρ i=some rb) (hs:0<rb.sz) (h1:o≤rb.N) (h2:rb.N<o+rb.sz):
   AW ρ (.slice (some (i,o)) 0 none) (.slice (some a) 0 0)
 | mapNil:AW ρ (.map none) (.map none)
 | map {i:Nat} {rb:RB} (h:ρ i=some rb):AW ρ (.map (some i)) (.map (some rb.b))
 | func {f:FuncId} {a c:List AV} {a' c':Array Value} (ha:AP ρ a a'.toList) (hc:AP ρ c c'.toList):AW ρ (.func f a c) (.func (.func f) a' c')
 | yield {i:Nat} {rb:RB} (h:ρ i=some rb):AW ρ (.yield i) (.func (.yield rb.b) #[] #[])
 | nilFunc:AW ρ .nilFunc .nilFunc
 | nilIface:AW ρ .nilIface .nilIface
 | iface {t:TypeId} {v:AV} {v':Value} (h:AW ρ v v'):AW ρ (.iface t v) (.iface t v')
 | agg {cs:List AV} {cs':Array Value} (h:AP ρ cs cs'.toList):AW ρ (.agg cs) (.agg cs')
 | tuple {cs:List AV} {cs':Array Value} (h:AP ρ cs cs'.toList):AW ρ (.tuple cs) (.tuple cs')
 | any {v':Value} (h:v'.cells.toList=[v']):AW ρ .junk v'
inductive AP (ρ:BA):List AV→List Value→Prop
 | nil:AP ρ [] []
 | cons {v:AV} {v':Value} {l:List AV} {l':List Value} (h:AW ρ v v') (hs:AP ρ l l'):AP ρ (v::l) (v'::l')
end
def BA.le(ρ σ:BA):Prop:=∀i rb,ρ i=some rb→σ i=some rb
theorem BA.le_refl(ρ:BA):ρ.le ρ:=fun _ _ h=>h
theorem BA.le_trans{ρ σ τ:BA}(h:ρ.le σ)(k:σ.le τ):ρ.le τ:=fun i rb e=>k i rb (h i rb e)
mutual
theorem AW.mono{ρ σ:BA}(le:ρ.le σ){v:AV}{v':Value}(h:AW ρ v v'):AW σ v v':=by
 cases h with
 | bool b=>exact .bool b
 | int k n=>exact .int k n
 | str h=>exact .str h
 | ptrNil=>exact .ptrNil
 | ptr h=>exact .ptr (le _ _ h)
 | gptr g o=>exact .gptr g o
 | sliceNil=>exact .sliceNil
 | slice h hl=>exact .slice (le _ _ h) hl
 | sliceOpen h hs hl h1 h2=>exact .sliceOpen (le _ _ h) hs hl h1 h2
 | sliceEnd h hs h1 h2=>exact .sliceEnd (le _ _ h) hs h1 h2
 | mapNil=>exact .mapNil
 | map h=>exact .map (le _ _ h)
 | func ha hc=>exact .func (AP.mono le ha) (AP.mono le hc)
 | yield h=>exact .yield (le _ _ h)
 | nilFunc=>exact .nilFunc
 | nilIface=>exact .nilIface
 | iface h=>exact .iface (AW.mono le h)
 | agg h=>exact .agg (AP.mono le h)
 | tuple h=>exact .tuple (AP.mono le h)
 | any h=>exact .any h
theorem AP.mono{ρ σ:BA}(le:ρ.le σ){v:List AV}{v':List Value}(h:AP ρ v v'):AP σ v v':=by
 cases h with
 | nil=>exact .nil
 | cons h hs=>exact .cons (AW.mono le h) (AP.mono le hs)
end
section lists
variable{ρ:BA}
theorem AP.length{l:List AV}{l':List Value}(h:AP ρ l l'):l.length=l'.length:=by
 induction l generalizing l' with
 | nil=>cases h;rfl
 | cons a l ih=>cases h with | cons h hs=>simp[ih hs]
theorem AP.get{l:List AV}{l':List Value}(h:AP ρ l l'){k:Nat}{v:AV}(hk:l[k]? = some v):∃v',l'[k]? = some v'∧AW ρ v v':=by
  induction l generalizing l' k with
  | nil=>simp at hk
  | cons a l ih =>
    cases h with
    | cons h hs =>
      cases k with
      | zero=>simp at hk;subst hk;exact⟨_,rfl,h⟩
      | succ k=>simp at hk;obtain⟨v',h1,h2⟩:=ih hs hk;exact⟨v',by simpa using h1,h2⟩
theorem AP.of_get{l:List AV}{l':List Value}(hl:l.length=l'.length)(h:∀ (k:Nat)(v:AV)(v':Value),l[k]? = some v→l'[k]? = some v'→AW ρ v v'):AP ρ l l':=by
  induction l generalizing l' with
  | nil=>cases l' with | nil=>exact .nil | cons=>simp at hl
  | cons a l ih =>
    cases l' with
    | nil=>simp at hl
    | cons a' l'=>exact .cons (h 0 a a' rfl rfl) (ih (by simpa using hl) fun k v v' h1 h2=>h (k+1) v v' (by simpa using h1) (by simpa using h2))
theorem AP.append{l m:List AV}{l' m':List Value}(h:AP ρ l l')(k:AP ρ m m'):AP ρ (l++m) (l'++m'):=by
 induction l generalizing l' with
 | nil=>cases h;exact k
 | cons a l ih=>cases h with | cons h hs=>exact .cons h (ih hs)
theorem AP.take{l:List AV}{l':List Value}(h:AP ρ l l')(n:Nat):AP ρ (l.take n) (l'.take n):=by
  induction l generalizing l' n with
  | nil=>cases h;simp;exact .nil
  | cons a l ih =>
    cases h with
    | cons h hs=>cases n with
      | zero=>exact .nil
      | succ n=>exact .cons h (ih hs n)
theorem AP.drop{l:List AV}{l':List Value}(h:AP ρ l l')(n:Nat):AP ρ (l.drop n) (l'.drop n):=by
  induction l generalizing l' n with
  | nil=>cases h;simp;exact .nil
  | cons a l ih =>
    cases h with
    | cons h hs=>cases n with
      | zero=>exact .cons h hs
      | succ n=>exact ih hs n
theorem AW.cells{v:AV}{v':Value}(h:AW ρ v v'):AP ρ v.cells v'.cells.toList:=by
 cases h with
 | agg h=>exact h
 | bool b=>exact .cons (.bool b) .nil
 | int k n=>exact .cons (.int k n) .nil
 | str h=>exact .cons (.str h) .nil
 | ptrNil=>exact .cons .ptrNil .nil
 | ptr h=>exact .cons (.ptr h) .nil
 | gptr g o=>exact .cons (.gptr g o) .nil
 | sliceNil=>exact .cons .sliceNil .nil
 | slice h hl=>exact .cons (.slice h hl) .nil
 | sliceOpen h hs hl h1 h2=>exact .cons (.sliceOpen h hs hl h1 h2) .nil
 | sliceEnd h hs h1 h2=>exact .cons (.sliceEnd h hs h1 h2) .nil
 | mapNil=>exact .cons .mapNil .nil
 | map h=>exact .cons (.map h) .nil
 | func ha hc=>exact .cons (.func ha hc) .nil
 | yield h=>exact .cons (.yield h) .nil
 | nilFunc=>exact .cons .nilFunc .nil
 | nilIface=>exact .cons .nilIface .nil
 | iface h=>exact .cons (.iface h) .nil
 | tuple h=>exact .cons (.tuple h) .nil
 | any h=>rw[h];exact .cons (.any h) .nil
theorem AW.oneCell{v:AV}{v':Value}(h:AW ρ v v')(hc:v.isCell=true):v'.oneCell'=true:=by
 cases h<;>first | rfl | cases hc
theorem AP.oneCell{l:List AV}{l':List Value}(h:AP ρ l l')(hc:Ap l=true):∀v∈l',v.oneCell'=true:=by
  induction l generalizing l' with
  | nil=>cases h;simp
  | cons a l ih =>
    cases h with
    | cons h hs =>
      simp only[Ap,Bool.and_eq_true]at hc
      intro v hv
      rcases List.mem_cons.1 hv with rfl | hv
      · exact h.oneCell hc.1
      · exact ih hs hc.2 v hv
end lists
theorem ID(ρ:BA){v:Value}{a:AV}(h:IC v=some a):AW ρ a v:=by
 unfold IC at h
 split at h<;>first
  | (injection h with h;subst h;first | exact .bool _ | exact .int _ _ | exact .str rfl | exact .ptrNil | exact .sliceNil | exact .mapNil | exact .nilFunc | exact .nilIface)
  | cases h
theorem E6(ρ:BA):∀ {l:List Value}{r:List AV},EX l=some r→AP ρ r l
 | [],r,h=>by simp[EX]at h;subst h;exact .nil
 | v::l,r,h=>by
  simp only[EX,nk]at h
  obtain⟨a,ha,r',hr,h⟩:=h
  injection h with h;subst h
  exact .cons (ID ρ ha) (E6 ρ hr)
theorem B4(ρ:BA){v:Value}{a:AV}(h:ofValue v=some a):AW ρ a v:=by
 unfold ofValue at h
 split at h
 ·simp only[nk]at h
  obtain⟨l,hl,h⟩:=h
  injection h with h;subst h
  exact .agg (E6 ρ hl)
 ·simp only[nk]at h
  obtain⟨l,hl,h⟩:=h
  injection h with h;subst h
  exact .tuple (E6 ρ hl)
 ·exact ID ρ h
theorem DM(ρ:BA):AW ρ BD undef:=.tuple .nil
theorem AB{α:Type}{b:Bool}{x:Option α}{a:α}(h:AJ b x=some a):b=true∧x=some a:=by
 cases b with
 | true=>exact⟨rfl,h⟩
 | false=>cases h
inductive Dz (ρ:BA):List (AV×AV)→List MapEntry→Prop
 | nil:Dz ρ [] []
 | cons {k v:AV} {e:MapEntry} {l:List (AV×AV)} {l':List MapEntry} (hk:AW ρ k e.key) (hv:AW ρ v e.val) (hs:Dz ρ l l'):Dz ρ ((k,v)::l) (e::l')
theorem Dz.mono{ρ σ:BA}(le:ρ.le σ){l:List (AV×AV)}{l':List MapEntry}(h:Dz ρ l l'):Dz σ l l':=by
 induction h with
 | nil=>exact .nil
 | cons hk hv _ ih=>exact .cons (hk.mono le) (hv.mono le) ih
theorem Dz.length{ρ:BA}{l:List (AV×AV)}{l':List MapEntry}(h:Dz ρ l l'):l.length=l'.length:=by
 induction h with
 | nil=>rfl
 | cons _ _ _ ih=>simp[ih]
structure I8(P:Program)(ρ:BA)(w:World)(kt:TypeId)(es:List (AV×AV))(rb:RB):Prop where
 ex:∃ (es':Array MapEntry) (clock:Nat),w.heap[rb.b]? = some (.map es' clock)∧MapKept.Stamped es' clock∧(∃l,l.Perm es'.toList∧Dz ρ es l)∧∀e∈es'.toList,∃l,keyOf P kt e.key=some l
structure CI(ρ:BA)(w:World)(r:DN)(rb:RB):Prop where
 cells:∀k v,k<r.n→r.c.get k=some v→∃v',w.cell? ⟨rb.b,rb.off+k,none⟩=some v'∧AW ρ v v'
 le:r.n≤rb.N
 sz:r.sz=rb.sz
 tight:r.spare=false→rb.N=r.n
 own:r.mode≠.ro→∃cs,w.heap[rb.b]? = some (.cells cs r.elem (0,0))∧rb.off+rb.N≤cs.size
 base:r.bytes=true→rb.off=0
 gl:∀g,r.glob=some g→rb.b=g∧rb.off=0
 par:∀p,r.par=some p→∃rp,ρ p=some rp
def Dv(ρ:BA)(vars:List Tmp)(var:List AV)(tmps:Array Value):Prop:=
 ∀ (t:Tmp) (k:Nat),Az vars t=some k→t<tmps.size∧∃v:AV,var[k]? = some v∧AW ρ v (tmps.getD t undef)
end
end Go.Proofs.YtjnkfbpadpmakaaGreatDoor.Am
set_option linter.unusedVariables false
set_option linter.unusedSimpArgs false
namespace Go.Proofs.YtjnkfbpadpmakaaGreatDoor.Am
open Go
noncomputable section
theorem FO{α:Type}{P:Program}{w:World}:∀ {s:Sem α}{a:α},DW P s=some a→s.run P w=.ok a w:=by
 intro s
 induction s with
 | pure b=>intro a h;simp[DW]at h;subst h;rfl
 | program k ih=>intro a h;simp only[DW]at h;simp only[Sem.run];exact ih P h
 | mark m k ih=>intro a h;simp only[DW]at h;simp only[Sem.run];exact ih h
 | load=>intro a h;simp[DW]at h
 | store=>intro a h;simp[DW]at h
 | new=>intro a h;simp[DW]at h
 | shape=>intro a h;simp[DW]at h
 | freeze=>intro a h;simp[DW]at h
 | frozen=>intro a h;simp[DW]at h
 | getObj=>intro a h;simp[DW]at h
 | setObj=>intro a h;simp[DW]at h
 | choose=>intro a h;simp[DW]at h
 | sys=>intro a h;simp[DW]at h
 | halt=>intro a h;simp[DW]at h
section types
variable{P:Program}{w:World}{t:TypeId}
theorem AI{d:TypeDesc}(h:P.underlying t=some d):(underlying t).run P w=.ok d w:=by simp[underlying,h]
theorem Gs{g:Bool}(h:De P t=some g):(isAgg t).run P w=.ok g w:=by
 unfold De at h
 split at h
 ·injection h with h;subst h;simp[isAgg,underlying, *]
 ·injection h with h;subst h;simp[isAgg,underlying, *]
 ·rename_i d _ _ hd
  injection h with h;subst h
  simp only[isAgg,Sem.run_bind,AI hd,Result.andThen_ok]
  cases d<;>simp_all
 ·cases h
theorem A2{n:Nat}(h:A3 P t=some n):(sizeOf t).run P w=.ok n w:=by
 unfold A3 at h
 split at h
 ·injection h with h;subst h;simp[sizeOf,typeInfo, *]
 ·cases h
theorem Ty{n:Nat}(h:C0 P t=some n):∃i,(typeInfo t).run P w=.ok i w∧i.bytes=n:=by
 unfold C0 at h
 split at h
 ·injection h with h;rename_i i hi;exact⟨i,by simp[typeInfo,hi],h⟩
 ·cases h
theorem IP(ρ:BA){z:AV}(h:EJ P t=some z):∃v,(zeroValue t).run P w=.ok v w∧AW ρ z v:=by
  unfold EJ at h
  split at h
  · split at h
    · rename_i i hi _ v hv
      exact⟨v,by simp[zeroValue,typeInfo,hi,hv],B4 ρ h⟩
    · cases h
  · cases h
end types
theorem Jw{k:IntKind}{n:Int}(h:Bo k n=true):k.wrap n=n:=by
 have hb:k.min≤n∧n≤k.max:=by
  unfold Bo at h
  cases n with
  | ofNat m=>cases k<;>simp[oA]at h<;>simp[IntKind.min,IntKind.max,IntKind.signed,IntKind.bits]<;>omega
  | negSucc m=>cases k<;>simp[oA]at h<;>simp[IntKind.min,IntKind.max,IntKind.signed,IntKind.bits]<;>omega
 cases k<;>simp[IntKind.min,IntKind.max,IntKind.signed,IntKind.bits]at hb<;>simp only[IntKind.wrap,IntKind.signed,IntKind.bits]<;>simp<;>omega
theorem Ga(k:IntKind)(n:Int):Cm k n=k.wrap n:=by
 unfold Cm
 cases h:Bo k n with
 | true=>simp[Jw h]
 | false=>rfl
theorem Ca(a b:Int):Lg a b=decide (a<b):=by
 cases a with
 | ofNat a=>cases b with
  | ofNat b=>rw[Bool.eq_iff_iff];simp only[Lg,oL,decide_eq_true_iff,qQ];omega
  | negSucc b=>simp only[Lg];rw[eq_comm,decide_eq_false_iff_not];simp only[qQ];omega
 | negSucc a=>cases b with
  | ofNat b=>simp only[Lg];rw[eq_comm,decide_eq_true_iff];simp only[qQ];omega
  | negSucc b=>rw[Bool.eq_iff_iff];simp only[Lg,oL,decide_eq_true_iff];omega
theorem Ek(a b:Int):L4 a b=(a == b):=by
 rw[Bool.eq_iff_iff,beq_iff_eq]
 cases a with
 | ofNat a=>cases b with
  | ofNat b=>simp only[L4,pS,qQ];omega
  | negSucc b=>simp[L4]
 | negSucc a=>cases b with
  | ofNat b=>simp[L4]
  | negSucc b=>simp only[L4,pS];omega
theorem Cj{k k':IntKind}(h:B0 k k'=true):k=k':=by cases k<;>cases k'<;>first | rfl | cases h
theorem YJ{n:Int}{m:Nat}(h:St n=some m):n=(m:Int):=by cases n<;>simp[St]at h;subst h;rfl
theorem X2{P:Program}{ρ:BA}{op:BinOp}{k:IntKind}{a b:Int}{v:AV}(h:X1 P op k a b=some v)(t:TypeId)(w:World):
  ∃v',(Go.binOp op t (.int k a) (.int k b)).run P w=.ok v' w∧AW ρ v v':=by
 unfold X1 at h
 split at h
 case h_1=>injection h with h;subst h;exact⟨.int k (k.wrap (a+b)),by simp[Go.binOp,Op.intArith],by rw[Ga];exact .int _ _⟩
 case h_2=>injection h with h;subst h;exact⟨.int k (k.wrap (a - b)),by simp[Go.binOp,Op.intArith],by rw[Ga];exact .int _ _⟩
 case h_3=>injection h with h;subst h;exact⟨.int k (k.wrap (a * b)),by simp[Go.binOp,Op.intArith],by rw[Ga];exact .int _ _⟩
 case h_4=>injection h with h;subst h;exact⟨.bool (a == b),by simp[Go.binOp,Op.intCmp],by rw[Ek];exact .bool _⟩
 case h_5=>injection h with h;subst h;exact⟨.bool (a != b),by simp[Go.binOp,Op.intCmp],by rw[Ek];exact .bool _⟩
 case h_6=>injection h with h;subst h;exact⟨.bool (a<b),by simp[Go.binOp,Op.intCmp],by rw[Ca];exact .bool _⟩
 case h_7=>injection h with h;subst h;exact⟨.bool (a≤b),by simp[Go.binOp,Op.intCmp],by rw[Ca,show(!decide (b<a))=decide (a≤b)from by rw[Bool.eq_iff_iff];simp];exact .bool _⟩
 case h_8=>injection h with h;subst h;exact⟨.bool (a > b),by simp[Go.binOp,Op.intCmp],by rw[Ca];exact .bool _⟩
 case h_9=>injection h with h;subst h;exact⟨.bool (a≥b),by simp[Go.binOp,Op.intCmp],by rw[Ca,show(!decide (a<b))=decide (a≥b)from by rw[Bool.eq_iff_iff];simp];exact .bool _⟩
 case h_10 =>
  simp only[nk]at h
  obtain⟨u,hu,h⟩:=h
  exact⟨u,by have:=FO (w:=w) hu;simpa[Go.binOp]using this,B4 ρ h⟩
 case h_11 =>
  simp only[nk]at h
  obtain⟨u,hu,h⟩:=h
  exact⟨u,by have:=FO (w:=w) hu;simpa[Go.binOp]using this,B4 ρ h⟩
 case h_12=>cases h
 case h_13=>cases h
 case h_14 =>
  simp only[nk]at h
  obtain⟨u,hu,h⟩:=h
  refine⟨u,?_,B4 ρ h⟩
  have:=FO (w:=w) hu
  rename_i n1 n2 n3 n4 n5 n6 n7 n8 n9 n10 n11 n12 n13
  cases op<;>first | (exfalso;simp at *;done) | simpa[Go.binOp]using this
abbrev DV(l:List UInt8):List Nat:=l.map (fun(b:UInt8)=>b.toNat)
theorem toNat_inj{a b:UInt8}(h:a.toNat=b.toNat):a=b:=UInt8.toNat_inj.1 h
theorem Hf:∀ (x y:List UInt8),Cx (DV x) (DV y)=(x == y)
 | [],[]=>rfl
 | [],_::_=>rfl
 | _::_,[]=>rfl
 | a::x,b::y=>by
  simp only[DV,pM,Cx]
  by_cases e:a=b
  ·subst e
   have:Nat.beq a.toNat a.toNat=true:=by simp[pS]
   rw[this]
   have ih:=Hf x y
   simp only[DV]at ih
   simp[ih]
  ·have:Nat.beq a.toNat b.toNat=false:=AS.beq_no (fun h=>e (toNat_inj h))
   rw[this]
   simp[e]
theorem La:∀ (x y:List UInt8),GX (DV x) (DV y)=Op.bytesLess x y
 | [],[]=>rfl
 | [],_::_=>rfl
 | _::_,[]=>rfl
 | a::x,b::y=>by
  simp only[DV,pM,GX,Op.bytesLess]
  have ih:=La x y
  simp only[DV]at ih
  have h1:Nat.blt a.toNat b.toNat=decide (a<b):=by rw[Bool.eq_iff_iff];simp[oL,UInt8.lt_iff_toNat_lt]
  have h2:Nat.beq a.toNat b.toNat=(a == b):=by
   rw[Bool.eq_iff_iff,beq_iff_eq,pS]
   exact⟨fun h=>toNat_inj h,fun h=>by rw[h]⟩
  rw[h1,h2,ih]
  cases decide (a<b)<;>cases (a == b)<;>rfl
theorem FP(s:ByteArray):(DV s.data.toList).length=s.size:=by simp[DV]
theorem Yy{P:Program}{ρ:BA}{op:BinOp}{x y:ByteArray}{v:AV}(h:S7 op (DV x.data.toList) (DV y.data.toList)=some v)(w:World):
  ∃v',(Op.stringOp op x y).run P w=.ok v' w∧AW ρ v v':=by
 unfold S7 at h
 rw[Hf,La,FP,FP]at h
 unfold Op.stringOp
 rw[ByteArray.toList_eq,ByteArray.toList_eq]
 split at h
 case h_1 =>
  obtain⟨hb,h⟩:=AB h
  injection h with h;subst h
  have hb':x.size+y.size≤1152921504606846976:=by simpa[oA]using hb
  refine⟨.string (x++y),?_,.str (by simp[DV])⟩
  have:¬ ((x.size+y.size:Nat):Int) > IntKind.i64.max:=by simp[IntKind.max,IntKind.signed,IntKind.bits];omega
  simp only[this,if_false]
  rfl
 case h_2=>injection h with h;subst h;exact⟨_,rfl,.bool _⟩
 case h_3=>injection h with h;subst h;exact⟨_,rfl,.bool _⟩
 case h_4=>injection h with h;subst h;exact⟨_,rfl,.bool _⟩
 case h_5=>injection h with h;subst h;exact⟨_,rfl,.bool _⟩
 case h_6=>injection h with h;subst h;exact⟨_,rfl,.bool _⟩
 case h_7=>injection h with h;subst h;exact⟨_,rfl,.bool _⟩
 case h_8=>cases h
section
variable{P:Program}{ρ:BA}{w:World}
theorem JH{t:TypeId}(h:GH P t=true):∃e,P.underlying t=some (.pointer e):=by
 unfold GH at h;split at h
 ·rename_i e he;exact⟨e,he⟩
 ·cases h
theorem G4{t:TypeId}(h:H4 P t=true):∃e,P.underlying t=some (.slice e):=by
 unfold H4 at h;split at h
 ·rename_i e he;exact⟨e,he⟩
 ·cases h
theorem JG{t:TypeId}(h:Ip P t=true):∃k e,P.underlying t=some (.map k e):=by
 unfold Ip at h;split at h
 ·rename_i k e he;exact⟨k,e,he⟩
 ·cases h
theorem Fb{t:TypeId}(h:Hz P t=true):∃a b c,P.underlying t=some (.func a b c):=by
 unfold Hz at h;split at h
 ·rename_i a b c he;exact⟨a,b,c,he⟩
 ·cases h
theorem ND{t:TypeId}(h:NC P t=true):P.underlying t=some .bool:=by
 unfold NC at h;split at h
 ·rename_i he;exact he
 ·cases h
set_option maxHeartbeats 1000000 in
theorem jR{t:TypeId}{x y:AV}{x' y':Value}{b:Bool}(h:Z7 P t x y=some b)(hx:AW ρ x x')(hy:AW ρ y y')(d:Nat):
  (Op.equalIn (d+1) t x' y').run P w=.ok b w:=by
 unfold Z7 at h
 split at h
 all_goals first | (cases h;done) | skip
 ·obtain⟨ht,h⟩:=AB h
  injection h with h;subst h
  cases hx;cases hy
  simp[Op.equalIn,AI (ND ht)]
 ·obtain⟨ht,h⟩:=AB h
  injection h with h;subst h
  obtain⟨e,ht⟩:=JH ht
  cases hx;cases hy<;>simp[Op.equalIn,AI ht]
 ·obtain⟨ht,h⟩:=AB h
  injection h with h;subst h
  obtain⟨e,ht⟩:=JH ht
  cases hy;cases hx<;>simp[Op.equalIn,AI ht]
 ·obtain⟨ht,h⟩:=AB h
  injection h with h;subst h
  obtain⟨e,ht⟩:=G4 ht
  cases hx;cases hy<;>simp[Op.equalIn,AI ht]
 ·obtain⟨ht,h⟩:=AB h
  injection h with h;subst h
  obtain⟨e,ht⟩:=G4 ht
  cases hy;cases hx<;>simp[Op.equalIn,AI ht]
 ·obtain⟨ht,h⟩:=AB h
  injection h with h;subst h
  obtain⟨k,e,ht⟩:=JG ht
  cases hx;cases hy<;>simp[Op.equalIn,AI ht]
 ·obtain⟨ht,h⟩:=AB h
  injection h with h;subst h
  obtain⟨k,e,ht⟩:=JG ht
  cases hy;cases hx<;>simp[Op.equalIn,AI ht]
 ·obtain⟨ht,h⟩:=AB h
  injection h with h;subst h
  obtain⟨a,b,c,ht⟩:=Fb ht
  cases hy;cases hx;simp[Op.equalIn,AI ht]
 ·obtain⟨ht,h⟩:=AB h
  injection h with h;subst h
  obtain⟨a,b,c,ht⟩:=Fb ht
  cases hy;cases hx;simp[Op.equalIn,AI ht]
 ·obtain⟨ht,h⟩:=AB h
  injection h with h;subst h
  obtain⟨a,b,c,ht⟩:=Fb ht
  cases hy;cases hx;simp[Op.equalIn,AI ht]
theorem Xh{t:TypeId}{x y:AV}{x' y':Value}{b:Bool}(h:Z7 P t x y=some b)(hx:AW ρ x x')(hy:AW ρ y y'):
  (Op.equal t x' y').run P w=.ok b w:=jR h hx hy 9999
def YW:Value→Bool
 | .nilIface | .agg _=>false
 | _=>true
theorem Ej{x':Value}(h:YW x'=true)(op:BinOp)(t:TypeId)(ox oy:Operand)(y':Value):
  (eqGuard op t ox oy x' y').run P w=.ok () w:=by
 cases x'<;>first | (cases h;done) | (cases op<;>rfl)
theorem L5{t:TypeId}{x y:AV}{x':Value}{b:Bool}(h:Z7 P t x y=some b)(hx:AW ρ x x'):YW x'=true:=by
 unfold Z7 at h
 split at h<;>first | (cases h;done) | (cases hx<;>rfl)
theorem SA      {op : BinOp} {t : TypeId} {x y v : AV} {x' y' : Value} (h : AT   P op t x y = some v) (hx : AW   ρ x x') (hy : AW   ρ y y') (ox oy : Operand) :
    ∃v',(do eqGuard op t ox oy x' y';Go.binOp op t x' y').run P w=.ok v' w∧AW ρ v v':=by
  unfold AT at h
  split at h
  · cases hx;cases hy
    rename_i k a k' b
    rw[Sem.run_bind,Ej rfl]
    simp only[Result.andThen_ok]
    split at h
    · simp only[nk]at h
      obtain⟨u,hu,h⟩:=h
      exact⟨u,by have:=FO (w:=w) hu;simpa[Go.binOp]using this,B4 ρ h⟩
    · simp only[nk]at h
      obtain⟨u,hu,h⟩:=h
      exact⟨u,by have:=FO (w:=w) hu;simpa[Go.binOp]using this,B4 ρ h⟩
    · obtain⟨hk,h2⟩:=AB h
      have hkk:=Cj hk
      subst hkk
      exact X2 h2 t w
  · cases hx;cases hy
    rename_i a b s1 h1 s2 h2
    subst h1;subst h2
    rw[Sem.run_bind,Ej rfl]
    simp only[Result.andThen_ok]
    obtain⟨v',h1,h2⟩:=Yy (P:=P) (ρ:=ρ) h w
    refine⟨v',?_,h2⟩
    rw[← h1]
    cases op<;>first | rfl | (simp[S7]at h;done)
  · split at h
    · simp only[nk]at h
      obtain⟨b,hb,h⟩:=h
      injection h with h;subst h
      rw[Sem.run_bind,Ej (L5 hb hx)]
      simp only[Result.andThen_ok]
      refine⟨.bool b,?_,.bool b⟩
      have he:=Xh (w:=w) hb hx hy
      have:Go.binOp .eql t x' y'=(do pure (.bool (← Op.equal t x' y')):Sem Value):=by
        unfold Z7 at hb
        split at hb<;>first | (cases hb;done) | (cases hx<;>cases hy<;>rfl)
      rw[this,Sem.run_bind,he]
      rfl
    · simp only[nk]at h
      obtain⟨b,hb,h⟩:=h
      injection h with h;subst h
      rw[Sem.run_bind,Ej (L5 hb hx)]
      simp only[Result.andThen_ok]
      refine⟨.bool (!b),?_,.bool _⟩
      have he:=Xh (w:=w) hb hx hy
      have:Go.binOp .neq t x' y'=(do pure (.bool (!(← Op.equal t x' y'))):Sem Value):=by
        unfold Z7 at hb
        split at hb<;>first | (cases hb;done) | (cases hx<;>cases hy<;>rfl)
      rw[this,Sem.run_bind,he]
      rfl
    · cases h
theorem jp{op:UnOp}{x v:AV}{x':Value}(h:UH P op x=some v)(hx:AW ρ x x'):
  ∃v',(Op.unary op x').run P w=.ok v' w∧AW ρ v v':=by
 unfold UH at h
 split at h
 ·cases hx
  rename_i k n
  split at h
  ·injection h with h;subst h
   exact⟨.int k (k.wrap (0 - n)),rfl,by rw[Ga];exact .int _ _⟩
  ·simp only[nk]at h
   obtain⟨u,hu,h⟩:=h
   exact⟨u,FO hu,B4 ρ h⟩
  ·cases h
 ·cases hx
  split at h
  ·injection h with h;subst h
   exact⟨_,rfl,.bool _⟩
  ·cases h
 ·cases h
theorem NO{x v:AV}{x':Value}(h:Dp x=some v)(hx:AW ρ x x')(ev:Operand→Value)(o:Oper)(y:Operand)(ho:o.op=.nilCheck y)(he:ev y=x'):
  ∃v',(execOp ev o).run P w=.ok (.value v') w∧AW ρ v v':=by
 unfold Dp at h
 split at h<;>first | (cases h;done) | skip
 injection h with h;subst h
 refine⟨x',?_,hx⟩
 cases hx<;>first | (simp only[execOp,ho,he];done) | (simp only[execOp,ho,he];rfl) | (exfalso;simp_all;done)
theorem OZ{x v:AV}{i:Nat}{x':Value}(h:Za x i=some v)(hx:AW ρ x x'):
  ∃v',(Instr.extract x' i).run P w=.ok v' w∧AW ρ v v':=by
 unfold Za at h
 split at h<;>first | (cases h;done) | skip
 cases hx with
 | tuple hs =>
  rename_i cs'
  obtain⟨v',h1,h2⟩:=hs.get h
  refine⟨v',?_,h2⟩
  have:cs'[i]? = some v':=by rw[← Array.getElem?_toList];exact h1
  simp[Instr.extract,this]
theorem PE{t:TypeId}{cs:List AV}{cs':Array Value}{off:Nat}{v:AV}(h:Sx P t cs off=some v)(hc:AP ρ cs cs'.toList):
  ∃v',(part t cs' off).run P w=.ok v' w∧AW ρ v v':=by
 unfold Sx at h
 simp only[nk]at h
 obtain⟨g,hg,h⟩:=h
 cases g with
 | true =>
  simp only[nk]at h
  obtain⟨n,hn,h⟩:=h
  injection h with h;subst h
  refine⟨.agg (cs'.extract off (off+n)),by simp[part,Gs hg,A2 hn],.agg ?_⟩
  have:(cs'.extract off (off+n)).toList=(cs'.toList.drop off).take n:=by
   rw[Array.toList_extract,List.extract_eq_take_drop]
   congr 1
   omega
  rw[this]
  exact(hc.drop off).take n
 | false =>
  obtain⟨v',h1,h2⟩:=hc.get h
  refine⟨v',?_,h2⟩
  have:cs'[off]? = some v':=by rw[← Array.getElem?_toList];exact h1
  simp[part,Gs hg,this]
theorem Kc{x:AV}{x':Value}{k:Nat}(h:Fw x=some k)(hx:AW ρ x x'):∃kd,x'=.int kd (k:Int):=by
 unfold Fw at h
 split at h<;>first | (cases h;done) | skip
 cases hx
 rename_i kd n
 exact⟨kd,by rw[YJ h]⟩
theorem Tc{t:TypeId}{x v:AV}{x':Value}{f:Nat}(h:QP P t x f=some v)(hx:AW ρ x x'):
  ∃v',(Instr.field t x' f).run P w=.ok v' w∧AW ρ v v':=by
 unfold QP at h
 split at h<;>first | (cases h;done) | skip
 split at h<;>first | (cases h;done) | skip
 rename_i fs hfs
 simp only[nk]at h
 obtain⟨fd,hfd,h⟩:=h
 cases hx with
 | agg hs =>
  obtain⟨v',h1,h2⟩:=PE (w:=w) h hs
  exact⟨v',by simp[Instr.field,AI hfs,hfd,asAgg,h1],h2⟩
theorem Te        {t : TypeId} {x ix v : AV} {x' ix' : Value} (h : QV     P t x ix = some v) (hx : AW   ρ x x') (hi : AW   ρ ix ix') :
    ∃v',(Instr.index t x' ix').run P w=.ok v' w∧AW ρ v v':=by
  unfold QV at h
  simp only[nk]at h
  obtain⟨k,hk,h⟩:=h
  obtain⟨kd,rfl⟩:=Kc hk hi
  split at h<;>first | (cases h;done) | skip
  · split at h<;>first | (cases h;done) | skip
    rename_i len e he
    simp only[nk]at h
    obtain⟨n,hn,h⟩:=h
    obtain⟨hlt,h⟩:=AB h
    have hlt':k<len:=by simpa[oL]using hlt
    cases hx with
    | agg hs =>
      obtain⟨v',h1,h2⟩:=PE (w:=w) h hs
      refine⟨v',?_,h2⟩
      have:(0:Int)≤(k:Int)∧(k:Int)<(len:Int):=by omega
      simp only[Instr.index,asIntOf,Sem.run_bind,Sem.run_pure,Result.andThen_ok,AI he,this,and_self,if_true,A2 hn]
      simpa using h1
  · split at h <;> first | (cases h; done) | skip
    rename_i l _ he
    simp only[nk]at h
    obtain⟨b,hb,h⟩:=h
    injection h with h;subst h
    cases hx with
    | str hs =>
      rename_i s
      subst hs
      rw[pH]at hb
      simp only[Option.map_eq_some_iff]at hb
      obtain⟨u,hu,rfl⟩:=hb
      refine⟨.int .u8 u.toNat,?_,.int _ _⟩
      have h0:(0:Int)≤(k:Int):=by omega
      have:s[k]? = some u:=by
        rw[← hu]
        rcases nm k s.size with hlt | hge
        · rw [getElem?_pos s k hlt, nr                       (by simpa using hlt)]
          rfl
        · rw[getElem?_neg s k (by omega),oF (by simpa using hge)]
      simp[Instr.index,asIntOf,AI he,this]
end
structure F4(P:Program)(ρ:BA)(w:World)(l:C4)(rb:RB):Prop where
 ex:∃L:Loop,w.heap[rb.b]? = some (.loop L)∧L.state=l.state∧L.pending=l.pending∧L.params=l.params∧L.assign=l.assign∧L.body=l.body ∧
  (∃rd,ρ l.dfr=some rd∧L.defers=rd.b)∧Dv ρ (C3 P l.fn) l.var L.tmps∧(∀fn,P.funcs[l.fn]? = some fn→fn.ntmps≤L.tmps.size)∧l.var.length=(C3 P l.fn).length
def FA(P:Program)(ρ:BA)(w:World):A8→RB→Prop
 | .row r,rb=>CI ρ w r rb
 | .map kt es,rb=>I8 P ρ w kt es rb
 | .mapRo kt es,rb=>I8 P ρ w kt es rb
 | .loop l,rb=>F4 P ρ w l rb
 | .mark,rb=>w.heap[rb.b]? = some (.deferred (some []))
 | .iter _ _,_=>False
def wr:A8→Bool
 | .row r=>Db r.mode
 | .mapRo _ _=>false
 | _=>true
def MN:A8→Option Nat
 | .row r=>r.par
 | _=>none
def Fa:A8→Option Nat
 | .row r=>r.glob
 | _=>none
structure BE(P:Program)(ρ:BA)(s:AD)(w:World):Prop where
 obj:∀i o rb,s.heap.get i=some o→ρ i=some rb→FA P ρ w o rb
 lt:∀i rb,ρ i=some rb→rb.b<w.heap.size
 sep:∀i j oi oj ri rj,i≠j→s.heap.get i=some oi→s.heap.get j=some oj→ρ i=some ri→ρ j=some rj→ri.b=rj.b→wr oj=true→MN oj=some i∧wr oi=false
 glb:∀i o g,s.heap.get i=some o→Fa o=some g→∃rb,ρ i=some rb
def Fs(ρ:BA)(s:AD)(b:Nat):Prop:=∃i o rb,s.heap.get i=some o∧wr o=true∧ρ i=some rb∧rb.b=b
structure Fr(ρ:BA)(s:AD)(w:World)(ρ':BA)(s':AD)(w':World):Prop where
 le:ρ.le ρ'
 fresh:∀i,ρ i=none→(i<s.next∨s'.next≤i)→ρ' i=none
 next:s.next≤s'.next
 size:w.heap.size≤w'.heap.size
 os:w'.os=w.os
 tape:w'.tape=w.tape
 output:w'.output=w.output
 keep:∀b,b<w.heap.size→¬ Fs ρ s b→w'.heap[b]? = w.heap[b]?
 own:∀b,Fs ρ' s' b→Fs ρ s b∨w.heap.size≤b
 unborn:∀i,ρ i=none→(i<s.next∨s'.next≤i)→s'.heap.get i=s.heap.get i
section
variable{P:Program}{ρ ρ1 ρ2:BA}{s s1 s2:AD}{w w1 w2:World}
theorem Fr.refl(ρ:BA)(s:AD)(w:World):Fr ρ s w ρ s w:=
 ⟨BA.le_refl ρ,fun _ h _=>h,nl _,nl _,rfl,rfl,rfl,fun _ _ _=>rfl,fun _ h=>.inl h,fun _ _ _=>rfl⟩
theorem Fr.trans(h:Fr ρ s w ρ1 s1 w1)(k:Fr ρ1 s1 w1 ρ2 s2 w2):Fr ρ s w ρ2 s2 w2 where
 le:=BA.le_trans h.le k.le
 fresh:=fun i hi hr=>k.fresh i (h.fresh i hi (hr.imp id (fun h'=>ny k.next h'))) (hr.imp (fun h'=>ns h' h.next) id)
 next:=ny h.next k.next
 size:=ny h.size k.size
 os:=k.os.trans h.os
 tape:=k.tape.trans h.tape
 output:=k.output.trans h.output
 keep:=fun b hb ho=>(k.keep b (ns hb h.size) (fun ho1=>(h.own b ho1).elim ho (fun hge=>by omega))).trans (h.keep b hb ho)
 own:=fun b hb=>(k.own b hb).elim (fun h1=>h.own b h1) (fun hge=>.inr (ny h.size hge))
 unborn:=fun i hi hr=>(k.unborn i (h.fresh i hi (hr.imp id (fun h'=>ny k.next h'))) (hr.imp (fun h'=>ns h' h.next) id)).trans (h.unborn i hi (hr.imp id (fun h'=>ny k.next h')))
theorem Hr{a:Addr}(h:w1.heap[a.block]? = w.heap[a.block]?):w1.cell? a=w.cell? a:=by simp[World.cell?,h]
theorem Dv.mono{σ:BA}(le:ρ.le σ){vars:List Tmp}{var:List AV}{tmps:Array Value}(h:Dv ρ vars var tmps):Dv σ vars var tmps:=
 fun t k hk=>let ⟨h1,v,h2,h3⟩:=h t k hk;⟨h1,v,h2,h3.mono le⟩
theorem FA.mono    {o : A8}   {rb : RB} (h : FA    P ρ w o rb) (le : ρ.le ρ1) (hk : w1.heap[rb.b]? = w.heap[rb.b]?) : FA    P ρ1 w1 o rb := by
  cases o with
  | row r =>
    exact⟨fun k v hk' hv=>by
        obtain⟨v',h1,h2⟩:=h.cells k v hk' hv
        exact⟨v',(Hr (a:=⟨rb.b,_,none⟩) hk).trans h1,h2.mono le⟩,
      h.le,h.sz,h.tight,fun hm=>by
        obtain⟨cs,h1,h2⟩:=h.own hm
        exact⟨cs,hk.trans h1,h2⟩,h.base,h.gl,fun p hp=>let ⟨rp,h1⟩:=h.par p hp;⟨rp,le _ _ h1⟩⟩
  | map kt es =>
    obtain⟨es',clock,h1,h2,⟨l,h3,h4⟩,h5⟩:=h.ex
    exact⟨es',clock,hk.trans h1,h2,⟨l,h3,h4.mono le⟩,h5⟩
  | mapRo kt es =>
    obtain⟨es',clock,h1,h2,⟨l,h3,h4⟩,h5⟩:=h.ex
    exact⟨es',clock,hk.trans h1,h2,⟨l,h3,h4.mono le⟩,h5⟩
  | loop l =>
    obtain⟨L,h0,h1,h2,h4,h5,h6,⟨rd,h7,h7'⟩,h8,h9⟩:=h.ex
    exact⟨L,hk.trans h0,h1,h2,h4,h5,h6,⟨rd,le _ _ h7,h7'⟩,h8.mono le,h9⟩
  | mark=>exact hk.trans h
  | iter=>exact h
def Bn(ρ:BA)(i:Nat)(rb:RB):BA:=fun j=>if j=i then some rb else ρ j
theorem AY(i:Nat)(rb:RB):Bn ρ i rb i=some rb:=by simp[Bn]
theorem AQ{i j:Nat}(rb:RB)(h:j≠i):Bn ρ i rb j=ρ j:=by simp[Bn,h]
theorem BJ{i:Nat}{rb:RB}(h:ρ i=none):ρ.le (Bn ρ i rb):=fun j r hj=>by
 have:j≠i:=fun e=>by subst e;rw[h]at hj;cases hj
 rw[AQ rb this];exact hj
theorem Aw(s:AD)(o:A8)(j:Nat):(newObj s o).heap.get j=if j=s.next then some o else s.heap.get j:=AS.get_set _ _ _ _
theorem Cf(s:AD)(i:Nat)(o:A8)(j:Nat):(setObj s i o).heap.get j=if j=i then some o else s.heap.get j:=AS.get_set _ _ _ _
theorem BY(s:AD)(i j:Nat):(CE s i).heap.get j=if j=i then none else s.heap.get j:=AS.get_del _ _ _
theorem G3{o:Obj}{b:Nat}(h:b<w.heap.size):(w.alloc o).heap[b]? = w.heap[b]? :=
 Go.RowKit.Below.heap_alloc w o b h
theorem BE.new  (h : BE  P ρ s w) {o : A8}   {o' : Obj} {rb : RB} (hf : ρ s.next = none) (hb : rb.b = w.heap.size)
    (ho:FA P (Bn ρ s.next rb) (w.alloc o') o rb):
    BE P (Bn ρ s.next rb) (newObj s o) (w.alloc o')∧Fr ρ s w (Bn ρ s.next rb) (newObj s o) (w.alloc o'):=by
  have hle:=BJ (rb:=rb) hf
  have hglb:∀i oi g,(newObj s o).heap.get i=some oi→Fa oi=some g→∃r,Bn ρ s.next rb i=some r:=by
    intro i oi g hi hg
    rw[Aw]at hi
    by_cases e:i=s.next
    · subst e;exact⟨_,AY _ _⟩
    · rw[if_neg e]at hi
      obtain⟨r,hr⟩:=h.glb i oi g hi hg
      exact⟨r,hle _ _ hr⟩
  refine⟨⟨?_,?_,?_,hglb⟩,?_⟩
  · intro i oi ri hi hr
    rw[Aw]at hi
    by_cases e:i=s.next
    · subst e
      rw[if_pos rfl]at hi
      injection hi with hi
      rw[AY]at hr
      injection hr with hr
      subst hi;subst hr
      exact ho
    · rw [if_neg e] at hi
      rw[AQ rb e]at hr
      exact(h.obj i oi ri hi hr).mono hle (G3 (h.lt i ri hr))
  · intro i ri hr
    by_cases e:i=s.next
    · subst e
      rw[AY]at hr
      injection hr with hr
      subst hr
      simp[hb]
    · rw[AQ rb e]at hr
      have:=h.lt i ri hr
      simp;omega
  · intro i j oi oj ri rj hne hi hj hri hrj hbb hw
    rw[Aw]at hi hj
    by_cases ei:i=s.next
    · subst ei
      have ej:j≠s.next:=fun e=>hne e.symm
      rw[AY]at hri
      rw[AQ rb ej]at hrj
      injection hri with hri
      subst hri
      have:=h.lt j rj hrj
      omega
    · by_cases ej : j = s.next
      · subst ej
        rw[AQ rb ei]at hri
        rw[AY]at hrj
        injection hrj with hrj
        subst hrj
        have:=h.lt i ri hri
        omega
      · rw [if_neg ei] at hi
        rw[if_neg ej]at hj
        rw[AQ rb ei]at hri
        rw[AQ rb ej]at hrj
        exact h.sep i j oi oj ri rj hne hi hj hri hrj hbb hw
  · refine ⟨hle, ?_, by simp [newObj], by simp, rfl, rfl, rfl, fun b hb _ => G3            hb, ?_, ?_⟩
    · intro i hi hr
      have:i≠s.next:=by simp[newObj]at hr;omega
      rw[AQ rb this];exact hi
    · rintro b ⟨i, oi, ri, hi, hw, hr, rfl⟩
      rw[Aw]at hi
      by_cases e:i=s.next
      · subst e
        rw[AY]at hr
        injection hr with hr
        subst hr
        exact .inr (by omega)
      · rw [if_neg e] at hi
        rw[AQ rb e]at hr
        exact .inl ⟨i,oi,ri,hi,hw,hr,rfl⟩
    · intro i _ hi
      rw[Aw,if_neg (by simp[newObj]at hi;omega)]
theorem BE.set  (h : BE  P ρ s w) {i : Nat} {o o1 : A8}   {rb : RB} (hg : s.heap.get i = some o) (hr : ρ i = some rb) (hw : wr o = true) (hp : ∀ p, MN    o = some p → p ≠ i → s.heap.get p = none)
    (hp1:MN o1=none) (hsz:w1.heap.size=w.heap.size) (hkeep:∀b,b≠rb.b→w1.heap[b]? = w.heap[b]?) (hos:w1.os=w.os) (htape:w1.tape=w.tape) (hout:w1.output=w.output)
    (ho:FA P ρ w1 o1 rb):BE P ρ (setObj s i o1) w1∧Fr ρ s w ρ (setObj s i o1) w1:=by
  have hsep:∀j oj rj,j≠i→s.heap.get j=some oj→ρ j=some rj→rj.b≠rb.b:=by
    intro j oj rj hne hj hrj e
    have:=hp j (h.sep j i oj o rj rb hne hj hg hrj hr e hw).1 hne
    rw[hj]at this
    cases this
  have hglb:∀j oj g,(setObj s i o1).heap.get j=some oj→Fa oj=some g→∃r,ρ j=some r:=by
    intro j oj g hj hg
    rw[Cf]at hj
    by_cases e:j=i
    · subst e;exact⟨_,hr⟩
    · rw[if_neg e]at hj
      exact h.glb j oj g hj hg
  refine⟨⟨?_,?_,?_,hglb⟩,?_⟩
  · intro j oj rj hj hrj
    rw[Cf]at hj
    by_cases e:j=i
    · subst e
      rw[if_pos rfl]at hj
      injection hj with hj
      subst hj
      rw[hr]at hrj
      injection hrj with hrj
      subst hrj
      exact ho
    · rw[if_neg e]at hj
      exact(h.obj j oj rj hj hrj).mono (BA.le_refl ρ) (hkeep _ (hsep j oj rj e hj hrj))
  · intro j rj hrj
    rw[hsz];exact h.lt j rj hrj
  · intro j k oj ok rj rk hne hj hk hrj hrk hbb hwk
    rw[Cf]at hj hk
    by_cases ej:j=i
    · subst ej
      have ek:k≠j:=fun e=>hne e.symm
      rw[if_neg ek]at hk
      rw[hr]at hrj
      injection hrj with hrj
      subst hrj
      exact absurd hbb.symm (hsep k ok rk ek hk hrk)
    · by_cases ek : k = i
      · subst ek
        rw[if_neg ej]at hj
        rw[hr]at hrk
        injection hrk with hrk
        subst hrk
        exact absurd hbb (hsep j oj rj ej hj hrj)
      · rw [if_neg ej] at hj
        rw[if_neg ek]at hk
        exact h.sep j k oj ok rj rk hne hj hk hrj hrk hbb hwk
  · refine ⟨BA.le_refl  ρ, fun _ h _ => h, nl          _, by omega, hos, htape, hout, ?_, ?_, ?_⟩
    · intro b _ hno
      exact hkeep b (fun e=>hno ⟨i,o,rb,hg,hw,hr,e.symm⟩)
    · rintro b ⟨j, oj, rj, hj, hwj, hrj, rfl⟩
      rw[Cf]at hj
      by_cases e:j=i
      · subst e
        rw[hr]at hrj
        injection hrj with hrj
        subst hrj
        exact .inl ⟨j,o,rb,hg,hw,hr,rfl⟩
      · rw[if_neg e]at hj
        exact .inl ⟨j,oj,rj,hj,hwj,hrj,rfl⟩
    · intro j hrj _
      rw[Cf,if_neg]
      intro e
      subst e
      rw[hr]at hrj
      cases hrj
theorem BE.del  (h : BE  P ρ s w) {i : Nat} {rb : RB} (hr : ρ i = some rb) : BE  P ρ (CE     s i) w ∧ Fr ρ s w ρ (CE     s i) w := by
  have hglb:∀j oj g,(CE s i).heap.get j=some oj→Fa oj=some g→∃r,ρ j=some r:=by
    intro j oj g hj hg
    rw[BY]at hj
    by_cases e:j=i
    · rw[if_pos e]at hj;cases hj
    · rw[if_neg e]at hj
      exact h.glb j oj g hj hg
  refine⟨⟨?_,h.lt,?_,hglb⟩,⟨BA.le_refl ρ,fun _ h _=>h,nl _,nl _,rfl,rfl,rfl,fun _ _ _=>rfl,?_,?_⟩⟩
  · intro j oj rj hj hrj
    rw[BY]at hj
    by_cases e:j=i
    · rw[if_pos e]at hj;cases hj
    · rw[if_neg e]at hj
      exact h.obj j oj rj hj hrj
  · intro j k oj ok rj rk hne hj hk
    rw[BY]at hj hk
    by_cases ej:j=i
    · rw[if_pos ej]at hj;cases hj
    · by_cases ek : k = i
      · rw[if_pos ek]at hk;cases hk
      · rw [if_neg ej] at hj
        rw[if_neg ek]at hk
        exact h.sep j k oj ok rj rk hne hj hk
  · rintro b ⟨j, oj, rj, hj, hwj, hrj, rfl⟩
    rw[BY]at hj
    by_cases e:j=i
    · rw[if_pos e]at hj;cases hj
    · rw[if_neg e]at hj
      exact .inl ⟨j,oj,rj,hj,hwj,hrj,rfl⟩
  · intro j hrj _
    rw[BY,if_neg]
    intro e
    subst e
    rw[hr]at hrj
    cases hrj
theorem BH{i:Nat}{r:DN}(h:rowAt s i=some r):s.heap.get i=some (.row r):=by
 unfold rowAt at h
 split at h
 ·injection h with h;subst h;assumption
 ·cases h
theorem CA(b o k:Nat):(⟨b,o,none⟩:Addr).add k=⟨b,o+k,none⟩:=by unfold Addr.add;split<;>simp_all
theorem DA(h:BE P ρ s w){i off n:Nat}{l:List AV}{rb:RB}(hr:ρ i=some rb)(hl:Bv s i off n=some l):
  ∃l':List Value,AP ρ l l'∧l'.length=n∧∀w1:World,w1.heap=w.heap→(loadCells ⟨rb.b,rb.off+off,none⟩ n).run P w1=.ok l'.toArray w1:=by
 unfold Bv at hl
 simp only[nk]at hl
 obtain⟨r,hrow,hl⟩:=hl
 obtain⟨hb,hl⟩:=AB hl
 have hb:off+n≤r.n:=by simpa[oA]using hb
 have hok:CI ρ w r rb:=h.obj i _ rb (BH hrow) hr
 have hlen:=AS.take_length hl
 have hc:∀k,k<n→∃v v',l[k]? = some v∧w.cell? ⟨rb.b,rb.off+off+k,none⟩=some v'∧AW ρ v v':=by
  intro k hk
  have hv:l[k]? = some l[k]:=nr (by omega)
  have hg:=AS.take_get hl k hk
  rw[hv]at hg
  obtain⟨v',h1,h2⟩:=hok.cells (off+k) _ (by omega) hg
  exact⟨l[k],v',hv,by rw[show rb.off+off+k=rb.off+(off+k)from by omega];exact h1,h2⟩
 let f:Nat→Value:=fun k=>(w.cell? ⟨rb.b,rb.off+off+k,none⟩).getD undef
 have hf:∀k,k<n→w.cell? ⟨rb.b,rb.off+off+k,none⟩=some (f k):=by
  intro k hk
  obtain⟨v,v',_,h2,_⟩:=hc k hk
  simp[f,h2]
 refine⟨(List.range n).map f,?_,by simp,?_⟩
 ·refine AP.of_get (by simp[hlen]) ?_
  intro k v v' hv hv'
  have hk:k<n:=by
   rcases nm k n with h' | h'
   ·exact h'
   ·rw[oF (by omega)]at hv;cases hv
  obtain⟨u,u',h1,h2,h3⟩:=hc k hk
  rw[h1]at hv
  injection hv with hv
  subst hv
  rw[pH,qR hk]at hv'
  simp only[pT]at hv'
  injection hv' with hv'
  rw[← hv']
  have:f k=u':=by simp[f,h2]
  rw[this];exact h3
 ·intro w1 he
  exact run_loadCells w1 _ n f (fun j hj=>by rw[CA];exact(Hr (by rw[he])).trans (hf j hj))
theorem Kj(h:BE P ρ s w){i off:Nat}{v:AV}{rb:RB}(hr:ρ i=some rb)(hl:CW s i off=some v):
  ∃v',AW ρ v v'∧w.cell? ⟨rb.b,rb.off+off,none⟩=some v':=by
 unfold CW at hl
 simp only[nk]at hl
 obtain⟨r,hrow,hl⟩:=hl
 obtain⟨hb,hl⟩:=AB hl
 have hb:off<r.n:=by simpa[oL]using hb
 have hok:CI ρ w r rb:=h.obj i _ rb (BH hrow) hr
 obtain⟨v',h1,h2⟩:=hok.cells off v hb hl
 exact⟨v',h2,h1⟩
theorem Kl       (h : BE  P ρ s w) {t : TypeId} {a v : AV} {a' : Value} (hl : AC    P s t a = some v) (ha : AW   ρ a a') :
    ∃v',(Instr.loadAt t a').run P w=.ok v' w∧AW ρ v v'∧∃ad,a'=.pointer (some ad)∧(loadVar t ad).run P w=.ok v' w:=by
  unfold AC at hl
  split at hl<;>first | (cases hl;done) | skip
  · rename_i i o
    cases ha
    simp only[nk]at hl
    obtain⟨r,hgr,g,hg,hl⟩:=hl
    have hrow:rowAt s i=some r∧r.glob=some i:=by
      unfold NB at hgr
      simp only[nk]at hgr
      obtain⟨r',h1,h2⟩:=hgr
      split at h2<;>first | (cases h2;done) | skip
      rename_i g' hg'
      obtain⟨h3,h4⟩:=AB h2
      injection h4 with h4
      subst h4
      exact⟨h1,by rw[hg',oE h3]⟩
    obtain⟨rb,hr⟩:=h.glb i _ i (BH hrow.1) hrow.2
    have hok:CI ρ w r rb:=h.obj i _ rb (BH hrow.1) hr
    obtain⟨hb,ho⟩:=hok.gl i hrow.2
    cases g with
    | true =>
      simp only[nk]at hl
      obtain⟨n,hn,l,hl,hv⟩:=hl
      injection hv with hv;subst hv
      obtain⟨l',h1,h2,h3⟩:=DA h hr hl
      rw[hb,ho,oG]at h3
      have hrun:(loadVar t ⟨i,o,none⟩).run P w=.ok (.agg l'.toArray) w:=by
        simp[loadVar,Gs hg,A2 hn,h3 w rfl]
      exact⟨.agg l'.toArray,by simp[Instr.loadAt,Instr.sureAddr,hrun],.agg (by simpa using h1),_,rfl,hrun⟩
    | false =>
      obtain⟨v',h1,h2⟩:=Kj h hr hl
      rw[hb,ho,oG]at h2
      have hrun:(loadVar t ⟨i,o,none⟩).run P w=.ok v' w:=by
        simp[loadVar,Gs hg,h2]
      exact⟨v',by simp[Instr.loadAt,Instr.sureAddr,hrun],h1,_,rfl,hrun⟩
  rename_i i o
  cases ha with
  | ptr hr =>
    rename_i rb
    simp only[nk]at hl
    obtain⟨g,hg,hl⟩:=hl
    cases g with
    | true =>
      simp only[nk]at hl
      obtain⟨n,hn,l,hl,hv⟩:=hl
      injection hv with hv;subst hv
      obtain⟨l',h1,h2,h3⟩:=DA h hr hl
      have hrun:(loadVar t ⟨rb.b,rb.off+o,none⟩).run P w=.ok (.agg l'.toArray) w:=by
        simp[loadVar,Gs hg,A2 hn,h3 w rfl]
      exact⟨.agg l'.toArray,by simp[Instr.loadAt,Instr.sureAddr,hrun],.agg (by simpa using h1),_,rfl,hrun⟩
    | false =>
      obtain⟨v',h1,h2⟩:=Kj h hr hl
      have hrun:(loadVar t ⟨rb.b,rb.off+o,none⟩).run P w=.ok v' w:=by
        simp[loadVar,Gs hg,h2]
      exact⟨v',by simp[Instr.loadAt,Instr.sureAddr,hrun],h1,_,rfl,hrun⟩
end
section
variable{P:Program}{ρ ρ1 ρ2:BA}{s s1 s2:AD}{w w1 w2:World}
theorem YC{e:TypeId}{sz:Nat}{l:List AV}{cs:Array Value}(hl:AP ρ l cs.toList)(b:Nat)(hb:w.heap[b]? = some (.cells cs e (0,0))):
  FA P ρ w (GP e sz l) ⟨b,0,l.length,sz⟩:=by
 have hlen:=hl.length
 refine⟨?_,nl _,rfl,fun _=>rfl,fun _=>⟨cs,hb,by simp[hlen]⟩,fun _=>rfl,(fun g hg=>by cases hg),fun p hp=>by cases hp⟩
 intro k v hk hv
 simp only[AS.get_fill,oB,oG,true_and,Nat.sub_zero]at hv
 rw[if_pos hk]at hv
 obtain⟨v',h1,h2⟩:=hl.get hv
 refine⟨v',?_,h2⟩
 simp only[World.cell?,hb,oG]
 rw[← Array.getElem?_toList]
 simpa using h1
theorem Gn(h:BE P ρ s w)(hf:ρ s.next=none){e:TypeId}{sz:Nat}{l:List AV}{cs:Array Value}(hl:AP ρ l cs.toList):
  ∃ρ',ρ' s.next=some ⟨w.heap.size,0,l.length,sz⟩∧BE P ρ' (newObj s (GP e sz l)) (w.alloc (.cells cs e))∧Fr ρ s w ρ' (newObj s (GP e sz l)) (w.alloc (.cells cs e)):=by
 have hle:=BJ (rb:=⟨w.heap.size,0,l.length,sz⟩) hf
 obtain⟨h1,h2⟩:=h.new (o:=GP e sz l) (o':=.cells cs e) (rb:=⟨w.heap.size,0,l.length,sz⟩) hf rfl
  (YC (hl.mono hle) _ (World.alloc_heap_new w _))
 exact⟨_,AY _ _,h1,h2⟩
theorem Gw        (h : BE  P ρ s w) {i off : Nat} {vs : List AV} {vs' : List Value} {rb : RB} (hr : ρ i = some rb) (hs : CS     s i off vs = some s1) (hv : AP    ρ vs vs') :
    ∃w1,(storeCells ⟨rb.b,rb.off+off,none⟩ vs').run P w=.ok () w1∧BE P ρ s1 w1∧Fr ρ s w ρ s1 w1:=by
  cases vs with
  | nil =>
    cases hv
    simp only[CS]at hs
    injection hs with hs
    subst hs
    exact⟨w,rfl,h,Fr.refl _ _ _⟩
  | cons v0 vs0 =>
    have hsv:CS s i off (v0::vs0)=(rowAt s i).bind fun r =>
      AJ (Db r.mode && Nat.ble (off+(v0::vs0).length) r.n && Ap (v0::vs0))
        (some (setObj (BO s i r) i (.row { r with c:=r.c.fill off (v0::vs0),par:=none }))):=rfl
    rw[hsv]at hs
    generalize v0::vs0=vs at hs hv
    simp only[nk]at hs
    obtain⟨r,hrow,hs⟩:=hs
    obtain⟨hb,hs⟩:=AB hs
    injection hs with hs
    subst hs
    simp only[Bool.and_eq_true,oA]at hb
    obtain⟨⟨hown,hle⟩,hall⟩:=hb
    have hg:=BH hrow
    have hok:CI ρ w r rb:=h.obj i _ rb hg hr
    have hmode:r.mode≠.ro:=fun e=>by rw[e]at hown;cases hown
    obtain⟨cs,hblk,hsz⟩:=hok.own hmode
    obtain⟨e,he0⟩:∃e,r.elem=e:=⟨_,rfl⟩
    rw[he0]at hblk
    have hlen:=hv.length
    have hfit:rb.off+off+vs'.length≤cs.size:=by have:=hok.le;omega
    have hrun:=run_storeCells_at P rb.b (rb.off+off) e vs' 0 cs w hblk (by simpa using hfit) (hv.oneCell hall)
    refine⟨_,hrun,?_⟩
    simp only[oM]
    generalize hnew:(cs.toList.take (rb.off+off)++vs'++cs.toList.drop (rb.off+off+vs'.length)).toArray=cs1
    have hblk1:(w.setRow rb.b cs1).heap[rb.b]? = some (.cells cs1 e (0,0)):=setRow_heap w rb.b cs cs1 e (0,0) hblk
    have hsize1:cs1.size=cs.size:=by rw[← hnew];simp;omega
    have hget:∀k,cs1[k]? = if rb.off+off≤k∧k<rb.off+off+vs'.length then vs'[k - (rb.off+off)]? else cs[k]? := by
      intro k
      rw[← hnew,List.getElem?_toArray]
      by_cases h1:k<rb.off+off
      · rw[if_neg (by omega),oX,ou (by simp;omega),pV h1,Array.getElem?_toList]
      · rw[oX,ov (by simp;omega)]
        have hmin:(cs.toList.take (rb.off+off)).length=rb.off+off:=by simp;omega
        rw[hmin]
        by_cases h2:k<rb.off+off+vs'.length
        · rw[if_pos (by omega),ou (by omega)]
        · rw[if_neg (by omega),ov (by omega),pW,← Array.getElem?_toList]
          congr 1
          omega
    have key:∀sx:AD,BE P ρ sx w→Fr ρ s w ρ sx w→sx.heap.get i=some (.row r)→(∀p,r.par=some p→p≠i→sx.heap.get p=none) →
        BE P ρ (setObj sx i (.row { r with c:=r.c.fill off vs,par:=none })) (w.setRow rb.b cs1) ∧
        Fr ρ s w ρ (setObj sx i (.row { r with c:=r.c.fill off vs,par:=none })) (w.setRow rb.b cs1):=by
      intro sx hx hfx hgx hpx
      obtain⟨h1,h2⟩:=hx.set (o1:=.row { r with c:=r.c.fill off vs,par:=none }) (w1:=w.setRow rb.b cs1) hgx hr (by simpa[wr]using hown) hpx rfl (by simp)
        (fun b hb=>setRow_other w rb.b b cs1 hb) rfl rfl rfl (by
          refine⟨?_,hok.le,hok.sz,hok.tight,fun _=>⟨cs1,by show _=some (Obj.cells cs1 r.elem (0,0));rw[he0];exact hblk1,by rw[hsize1];exact hsz⟩,hok.base,hok.gl,fun p hp=>by cases hp⟩
          intro k v hk hkv
          simp only[AS.get_fill]at hkv
          have hcell:(w.setRow rb.b cs1).cell? ⟨rb.b,rb.off+k,none⟩=cs1[rb.off+k]? := by simp[World.cell?,hblk1]
          rw[hcell,hget]
          by_cases hin:off≤k∧k<off+vs.length
          · rw [if_pos hin] at hkv
            rw[if_pos (by omega),show rb.off+k - (rb.off+off)=k - off from by omega]
            exact hv.get hkv
          · rw [if_neg hin] at hkv
            rw[if_neg (by omega)]
            obtain⟨v',h1,h2⟩:=hok.cells k v hk hkv
            refine⟨v',?_,h2⟩
            simpa[World.cell?,hblk]using h1)
      exact⟨h1,hfx.trans h2⟩
    unfold BO
    split
    · rename_i hp
      exact key s h (Fr.refl _ _ _) hg (fun p hp' _=>by rw[hp]at hp';cases hp')
    · rename_i p hp
      by_cases hpi:p=i
      · have:Nat.beq p i=true:=by rw[hpi];simp[pS]
        rw[this]
        exact key s h (Fr.refl _ _ _) hg (fun q hq hqi=>by rw[hp]at hq;injection hq with hq;exact absurd (hq.symm.trans hpi) hqi)
      · rw[AS.beq_no hpi]
        obtain⟨rp,hrp⟩:=hok.par p hp
        obtain⟨hd,hfd⟩:=h.del hrp
        exact key (CE s p) hd hfd (by rw[BY,if_neg (fun e=>hpi e.symm)];exact hg) (fun q hq _=>by
          rw[hp]at hq
          injection hq with hq
          subst hq
          rw[BY,if_pos rfl])
theorem Al{a b:Nat}(h:Nat.beq a b=true):a=b:=oE h
theorem T5(h:BE P ρ s w){t:TypeId}{a v:AV}{a' v':Value}(hs:AK P s t a v=some s1)(ha:AW ρ a a')(hv:AW ρ v v'):
  ∃w1,(Instr.storeAt t a' v').run P w=.ok () w1∧BE P ρ s1 w1∧Fr ρ s w ρ s1 w1:=by
 unfold AK at hs
 split at hs<;>first | (cases hs;done) | skip
 rename_i i o
 cases ha with
 | ptr hr =>
  rename_i rb
  simp only[nk]at hs
  obtain⟨n,hn,hs⟩:=hs
  obtain⟨hb,hs⟩:=AB hs
  have hb:=Al hb
  obtain⟨w1,h1,h2⟩:=Gw h hr hs hv.cells
  refine⟨w1,?_,h2⟩
  have hc:v'.cells.size=n:=by have:=hv.cells.length;simp at this;omega
  simp[Instr.storeAt,Instr.sureAddr,storeVar,A2 hn,hc,h1]
def Lq(P:Program)(ρ:BA)(s:AD)(w:World)(sem:Sem Value)(o:A8)(m:Made):Prop:=
 ∃v' w' ρ',sem.run P w=.ok v' w'∧AW ρ' (m.val s.next) v'∧BE P ρ' (newObj s o) w'∧Fr ρ s w ρ' (newObj s o) w'
theorem TO(h:BE P ρ s w)(hf:ρ s.next=none){e:TypeId}{o:A8}{m:Made}(hs:Ab P e=some (o,m)):
  Lq P ρ s w (Instr.alloc e true (.tuple #[])) o m:=by
 unfold Ab at hs
 simp only[nk]at hs
 obtain⟨z,hz,hs⟩:=hs
 injection hs with hs
 injection hs with h1 h2
 subst h1;subst h2
 obtain⟨z',hz',hzr⟩:=IP (w:=w) ρ hz
 obtain⟨ρ',h1,h2,h3⟩:=Gn h hf (e:=e) (sz:=0) hzr.cells
 exact⟨.pointer (some ⟨w.heap.size,0,none⟩),_,ρ',by simp[Instr.alloc,hz',newVar,newRow],AW.ptr h1,h2,h3⟩
theorem Zc(h:BE P ρ s w)(hf:ρ s.next=none){e:TypeId}{v:AV}{v':Value}{o:A8}{m:Made}(hs:Be e v=some (o,m))(hv:AW ρ v v'):
  Lq P ρ s w (Instr.box e v') o m:=by
 unfold Be at hs
 injection hs with hs
 injection hs with h1 h2
 subst h1;subst h2
 obtain⟨ρ',h1,h2,h3⟩:=Gn h hf (e:=e) (sz:=0) hv.cells
 exact⟨.pointer (some ⟨w.heap.size,0,none⟩),_,ρ',by simp[Instr.box,newVar,newRow],AW.ptr h1,h2,h3⟩
theorem Q5(h:BE P ρ s w)(hf:ρ s.next=none)(t kt:TypeId):Lq P ρ s w (Instr.makeMap t none) (.map kt []) .map:=by
 have hle:=BJ (rb:=⟨w.heap.size,0,0,0⟩) hf
 obtain⟨h1,h2⟩:=h.new (o:=.map kt []) (o':=.map #[] 0) (rb:=⟨w.heap.size,0,0,0⟩) hf rfl ⟨#[],0,World.alloc_heap_new w _,MapKept.stamped_empty 0,⟨[],.refl _,.nil⟩,by simp⟩
 exact⟨.map (some w.heap.size),_,_,by simp[Instr.makeMap,newObj],AW.map (AY _ _),h1,h2⟩
theorem KY       {place : Nat → Option (Nat × Nat)} {place' : Nat → Option (Nat × Nat)} (hp : ∀ i p, place i = some p → place' i = some p) :
    ∀ {parts:List (Nat×AV)} {parts':List (Nat×Value)} {cs l:List AV} {cs':Array Value},KX place cs parts=some l→AP ρ cs cs'.toList →
      (parts.map (·.1)=parts'.map (·.1))→AP ρ (parts.map (·.2)) (parts'.map (·.2))→∃l',Instr.fill place' cs' parts'=some l'∧AP ρ l l'.toList:=by
  intro parts
  induction parts with
  | nil =>
    intro parts' cs l cs' h hc hm hv
    cases parts' with
    | nil=>simp[KX]at h;subst h;exact⟨cs',rfl,hc⟩
    | cons=>simp at hm
  | cons p rest ih =>
    intro parts' cs l cs' h hc hm hv
    cases parts' with
    | nil=>simp at hm
    | cons p' rest' =>
      obtain⟨i,v⟩:=p
      obtain⟨i',v'⟩:=p'
      simp only[pM,List.cons.injEq]at hm
      obtain⟨hi,hm⟩:=hm
      skip
      subst hi
      simp only[pM]at hv
      cases hv with
      | cons hv hvs =>
        simp only[KX,nk]at h
        obtain⟨q,hq,h⟩:=h
        obtain⟨hb,h⟩:=AB h
        simp only[Bool.and_eq_true,oA]at hb
        obtain⟨hb1,hb2⟩:=hb
        have hb1:=Al hb1
        have hvc:=hv.cells
        have hvl:=hvc.length
        have hcl:=hc.length
        simp only[Array.length_toList]at hvl hcl
        have hnew:AP ρ (cs.take q.1++(v.cells++cs.drop (q.1+v.cells.length)))
            (v'.cells.zipIdx.foldl (fun cs (c,j)=>cs.setIfInBounds (q.1+j) c) cs').toList:=by
          have e:(v'.cells.zipIdx.foldl (fun cs (c,j)=>cs.setIfInBounds (q.1+j) c) cs').toList=cs'.toList.take q.1++(v'.cells.toList++cs'.toList.drop (q.1+v.cells.length)):=by
            have key:∀ (l:List Value) (k:Nat) (a:Array Value),q.1+k+l.length≤a.size →
                ((l.zipIdx k).foldl (fun cs (x:Value×Nat)=>cs.setIfInBounds (q.1+x.2) x.1) a).toList=a.toList.take (q.1+k)++(l++a.toList.drop (q.1+k+l.length)):=by
              intro l
              induction l with
              | nil=>intro k a _;simp
              | cons x l ihl =>
                intro k a hk
                simp only[oV]at hk
                rw[List.zipIdx_cons,List.foldl_cons,ihl (k+1) _ (by simp;omega)]
                simp only[Array.toList_setIfInBounds,oV]
                have e:=list_seg_step a.toList (q.1+k) x l (by simp;omega)
                simpa[oY,oX]using e
            have:=key v'.cells.toList 0 cs' (by simp;omega)
            simp only[oM]at this
            rw[← Array.foldl_toList,Array.toList_zipIdx]
            rw[hvl]
            simpa using this
          rw[e]
          exact(hc.take _).append (hvc.append (hc.drop _))
        obtain⟨l',h1,h2⟩:=ih h hnew hm hvs
        refine⟨l',?_,h2⟩
        have hpq:=hp i q hq
        obtain⟨o,n⟩:=q
        simp only[Instr.fill,hpq]
        have c1:¬ (v'.cells.size≠n∨o+v'.cells.size > cs'.size):=by simp only at hb1 hb2;omega
        have:(decide (v'.cells.size≠n) || decide (o+v'.cells.size > cs'.size))=false:=by
          rw[Bool.eq_false_iff];intro hh;apply c1;simpa using hh
        simp only[this]
        exact h1
theorem G2:∀ {fs:List Field}{l:List (Nat×Nat)},El P fs=some l →
  ∀w:World,((fs.mapM fun f=>do pure (f.offset,← sizeOf f.type):Sem (List (Nat×Nat)))).run P w=.ok l w
 | [],l,h,w=>by simp[El]at h;subst h;rfl
 | f::fs,l,h,w=>by
  simp only[El,nk]at h
  obtain⟨n,hn,r,hr,h⟩:=h
  injection h with h
  subst h
  have ih:=G2 hr w
  simp only[qK,Sem.run_bind,A2 hn,Sem.run_pure,Result.andThen_ok,ih]
theorem TS{t:TypeId}{parts:List (Nat×AV)}{parts':Array (Nat×Value)}{v:AV}(h:Cz P t parts=some v)
  (hm:parts.map (·.1)=parts'.toList.map (·.1)) (hv:AP ρ (parts.map (·.2)) (parts'.toList.map (·.2))) (w:World):
  ∃v',(Instr.build t parts').run P w=.ok v' w∧AW ρ v v':=by
 unfold Cz at h
 simp only[nk]at h
 obtain⟨z,hz,h⟩:=h
 obtain⟨z',hz',hzr⟩:=IP (w:=w) ρ hz
 split at h<;>first | (cases h;done) | skip
 ·rename_i fields hf
  simp only[nk]at h
  obtain⟨places,hpl,l,hl,h⟩:=h
  injection h with h
  subst h
  have hpl':=G2 hpl w
  obtain⟨l',h1,h2⟩:=KY (place':=fun i=>(places.toArray)[i]?) (fun i p hp=>by simpa using hp) hl hzr.cells hm hv
  refine⟨.agg l',?_,.agg h2⟩
  have hma:(fields.mapM fun f=>do pure (f.offset,← sizeOf f.type):Sem (Array (Nat×Nat))).run P w=.ok places.toArray w:=by
   rw[Array.mapM_eq_mapM_toList,Sem.run_map,hpl']
   rfl
  simp only[Instr.build,Sem.run_bind,hz',Result.andThen_ok,AI hf,hma,h1,Sem.run_pure]
 ·rename_i len e hf
  simp only[nk]at h
  obtain⟨n,hn,l,hl,h⟩:=h
  injection h with h
  subst h
  obtain⟨l',h1,h2⟩:=KY (place':=fun i=>some (i * n,n)) (fun i p hp=>hp) hl hzr.cells hm hv
  refine⟨.agg l',?_,.agg h2⟩
  simp only[Instr.build,Sem.run_bind,hz',Result.andThen_ok,AI hf,A2 hn,h1,Sem.run_pure]
theorem NY      {z : AV} {z' : Value} {n c : Nat} (hz : AW   ρ z z') (hl : z.cells.length = n) :
    AP ρ (RH z.cells c) (((Array.range (c * n)).map (z'.cells[· % z'.cells.size]!)).toList):=by
  have hc:=hz.cells
  have hlen:z'.cells.size=n:=by have:=hc.length;simp at this;omega
  have hrl:∀c,(RH z.cells c).length=c * n:=by
    intro c
    induction c with
    | zero=>simp[RH]
    | succ c ih=>simp[RH,ih,hl,oH];omega
  have hrg:∀ (c k:Nat),k<c * n→(RH z.cells c)[k]? = z.cells[k % n]? := by
    intro c
    induction c with
    | zero=>intro k hk;omega
    | succ c ih =>
      intro k hk
      simp only[RH]
      by_cases h1:k<n
      · rw[ou (by omega),oe h1]
      · rw [ov                         (by omega), hl, ih (k - n) (by rw [oH]           at hk; omega)]
        rw[← Nat.mod_eq_sub_mod (by omega)]
  refine AP.of_get (by simp[hrl]) ?_
  intro k v v' hv hv'
  have hk:k<c * n:=by
    rcases nm k (c * n)with h | h
    · exact h
    · rw[oF (by rw[hrl];omega)]at hv;cases hv
  have hn:0<n:=by
    rcases ow n with h | h
    · subst h;simp at hk
    · exact h
  rw[hrg c k hk]at hv
  obtain⟨u,h1,h2⟩:=hc.get hv
  have:v'=u:=by
    rw[Array.getElem?_toList,Array.getElem?_map,Array.getElem?_range]at hv'
    rw[if_pos hk]at hv'
    simp only[pT]at hv'
    injection hv' with hv'
    rw[← hv',hlen]
    rw[Array.getElem?_toList]at h1
    rw[getElem!_def,h1]
  rw[this]
  exact h2
theorem Nj(h:BE P ρ s w)(hf:ρ s.next=none){t:TypeId}{len:Nat}{parts:List (Nat×AV)}{parts':Array (Nat×Value)}{o:A8}(hs:Ad P t len parts=some o)
  (hm:parts.map (·.1)=parts'.toList.map (·.1)) (hv:AP ρ (parts.map (·.2)) (parts'.toList.map (·.2))):
  Lq P ρ s w (Instr.buildSlice t len parts') o (.slice len):=by
 unfold Ad at hs
 split at hs<;>first | (cases hs;done) | skip
 rename_i e he
 simp only[nk]at hs
 obtain⟨n,hn,hs⟩:=hs
 obtain⟨hb,hs⟩:=AB hs
 have hb:len * n≤16777216:=by simpa[oA]using hb
 simp only[nk]at hs
 obtain⟨z,hz,hs⟩:=hs
 obtain⟨hc,hs⟩:=AB hs
 simp only[nk]at hs
 obtain⟨l,hl,hs⟩:=hs
 injection hs with hs
 subst hs
 obtain⟨z',hz',hzr⟩:=IP (w:=w) ρ hz
 have hz2:=NY (c:=len) hzr (Al hc)
 obtain⟨l',h1,h2⟩:=KY (place':=fun i=>some (i * n,n)) (fun i p hp=>hp) hl hz2 hm hv
 obtain⟨ρ',g1,g2,g3⟩:=Gn h hf (e:=e) (sz:=n) h2
 refine⟨.slice (some ⟨w.heap.size,0,none⟩) len len,_,ρ',?_,AW.slice g1 (nl _),g2,g3⟩
 have hbig:¬ len * n > 2 ^ 24:=by omega
 by_cases h0:len * n=0
 ·have hr0:Array.range 0=#[]:=by simp
  rw[h0,hr0]at h1
  simp only[Array.map_empty]at h1
  simp[Instr.buildSlice,AI he,A2 hn,h0,hr0,h1,newRow]
 ·simp[Instr.buildSlice,AI he,A2 hn,hbig,h0,hz',h1,newRow]
theorem Ll(h:BE P ρ s w)(hf:ρ s.next=none){t:TypeId}{l c:AV}{l' c':Value}{o:A8}{m:Made}(hs:CF P t l c=some (o,m))
  (hl:AW ρ l l') (hc:AW ρ c c'):Lq P ρ s w (Instr.makeSlice t l' c') o m:=by
 unfold CF at hs
 split at hs<;>first | (cases hs;done) | skip
 rename_i e l0 c0 he
 cases hl;cases hc
 simp only[nk]at hs
 obtain⟨by_,hby,n,hn,hs⟩:=hs
 obtain⟨hb,hs⟩:=AB hs
 simp only[Bool.and_eq_true,oA]at hb
 obtain⟨⟨hlc,hb1⟩,hb2⟩:=hb
 have hlc:=Al hlc
 subst hlc
 simp only[nk]at hs
 obtain⟨z,hz,hs⟩:=hs
 obtain⟨hc,hs⟩:=AB hs
 injection hs with hs
 injection hs with hs1 hs2
 subst hs1;subst hs2
 obtain⟨z',hz',hzr⟩:=IP (w:=w) ρ hz
 have hz2:=NY (c:=l0) hzr (Al hc)
 obtain⟨i,hi,hi2⟩:=Ty (w:=w) hby
 obtain⟨ρ',g1,g2,g3⟩:=Gn h hf (e:=e) (sz:=n) hz2
 refine⟨.slice (some ⟨w.heap.size,0,none⟩) l0 l0,_,ρ',?_,AW.slice g1 (nl _),g2,g3⟩
 have hw:IntKind.i64.wrap (l0:Int)=(l0:Int):=Jw (k:=.i64) (n:=Int.ofNat l0) (by simp[Bo,oA];omega)
 have hmul:((by_:Int) * (l0:Int))≤1099511627776:=by
  have:((by_ * l0:Nat):Int)≤1099511627776:=by omega
  simpa using this
 have h1:¬ ((l0:Int)<0):=by omega
 have h2:¬ ((i.bytes:Int) * (l0:Int) > 2 ^ 48):=by rw[hi2];omega
 have h3:¬ ((281474976710656:Int)<(i.bytes:Int) * (l0:Int)):=by omega
 by_cases h0:l0 * n=0
 ·have hr0:Array.range 0=#[]:=by simp
  simp[Instr.makeSlice,AI he,asInt,asIntOf,hi,hw,h1,h3,A2 hn,h0,newRow,hr0]
 ·simp[Instr.makeSlice,AI he,asInt,asIntOf,hi,hw,h1,h3,A2 hn,h0,hz',newRow]
end
end
end Go.Proofs.YtjnkfbpadpmakaaGreatDoor.Am
