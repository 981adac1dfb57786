/- Binary tries over Nat keys, made for evaluation by the kernel: get, set, and their laws; conditions: none. -/
import GoSem.Dispatch
import GoSem.ClaimKeys
import Derived.DeepKeys2
import Derived.CallsIn
import Derived.Laws.Sem
import Derived.MapKept
import Derived.Laws.Entries
import Derived.Laws.Slices
import Derived.Laws.Strings
import Derived.Lib.Hide
import Derived.Laws.CopyRow
import Derived.Laws.Cells
import Derived.RangeFuncRecord
import Derived.Below
namespace Go.Proofs.YtfgmceookgelcaaGreatDoor.Am
noncomputable section
abbrev ft := @Option.bind_eq_some_iff
abbrev fu := @Nat.le_refl
abbrev fv := @Nat.lt_or_ge
abbrev fw := @Nat.ble_eq
abbrev fx := @Nat.le_trans
abbrev fy := @Nat.lt_of_lt_of_le
abbrev fz := @Nat.eq_of_beq_eq_true
abbrev f9 := @List.getElem?_eq_getElem
abbrev gA := @Nat.zero_add
abbrev gB := @Nat.mul_one
abbrev gC := @List.mem_cons_self
abbrev gD := @Nat.mul_comm
abbrev gE := @Nat.blt_eq
abbrev gF := @Nat.zero_le
abbrev gG := @List.mem_cons_of_mem
abbrev gH := @List.getElem?_eq_none
abbrev gI := @List.length_append
abbrev gJ := @Nat.add_zero
abbrev gK := @Nat.mul_assoc
abbrev gL := @Nat.mul_le_mul_right
abbrev gM := @Nat.mul_add
abbrev gN := @List.map_cons
abbrev gO := @Nat.mod_lt
abbrev gP := @List.append_assoc
abbrev gQ := @Nat.add_mul
abbrev gR := @List.mem_of_getElem?
abbrev gS := @List.length_take
abbrev gT := @Nat.mod_eq_of_lt
abbrev gU := @Nat.mul_le_mul_left
abbrev gV := @Nat.le_of_eq
abbrev gW := @Nat.succ_mul
abbrev gX := @Nat.add_assoc
abbrev gY := @Nat.lt_succ_self
abbrev gZ := @Nat.le_succ
abbrev gc := @List.drop_eq_getElem_cons
abbrev ge := @Nat.div_lt_iff_lt_mul
abbrev gg := @Nat.pow_succ
abbrev gh := @List.length_cons
abbrev gi := @List.getElem?_append_left
abbrev gj := @List.getElem?_append_right
abbrev gk := @List.set_cons_zero
abbrev gm := @Nat.lt_of_le_of_lt
abbrev gn := @Nat.mul_zero
abbrev gp := @Nat.pow_pos
abbrev gq := @Nat.eq_zero_or_pos
abbrev gr := @List.length_drop
abbrev gt := @List.drop_eq_nil_of_le
abbrev gu := @Nat.beq_eq
abbrev gv := @Option.map_some
abbrev gw := @Nat.div_eq_of_lt
abbrev gx := @List.nodup_cons
abbrev gy := @List.getElem?_set_ne
abbrev gz := @Nat.mul_le_mul
abbrev g0 := @Nat.pow_le_pow_right
abbrev g8 := @List.drop_drop
abbrev hX := @Nat.min_eq_left
abbrev hY := @List.eq_nil_of_length_eq_zero
abbrev hZ := @List.mem_cons
abbrev iA := @List.length_set
abbrev iB := @Nat.le_of_ble_eq_true
abbrev iC := @List.append_nil
abbrev iD := @Nat.lt_of_mul_lt_mul_right
abbrev iE := @List.length_zip
abbrev iF := @List.mem_append_left
abbrev iG := @List.zip_cons_cons
abbrev iH := @Nat.mod_mod
abbrev iI := @List.drop_zero
abbrev iJ := @List.getElem?_map
abbrev iK := @Nat.lt_succ_of_lt
abbrev iL := @Nat.lt_trichotomy
abbrev iM := @Nat.mod_add_div
abbrev iN := @Nat.add_sub_cancel
abbrev iO := @List.take_append_drop
abbrev iP := @List.getElem?_take_of_lt
abbrev iQ := @List.getElem?_set_self
abbrev iR := @Nat.div_le_self
abbrev iS := @List.getD_eq_getElem?_getD
abbrev iT := @List.take_zero
abbrev iU := @Int.ofNat_eq_natCast
abbrev iV := @List.getElem?_drop
abbrev iW := @Nat.mul_lt_mul_of_pos_right
inductive AB (α:Type) where
 | leaf
 | node (v:Option α) (l r:AB α)
namespace AB
variable{α:Type}
def get:AB α→Nat→Option α
 | .leaf,_=>none
 | .node v l r,k=>match k with
  | 0=>v
  | k+1=>bif Nat.beq (k % 2) 0 then l.get (k / 2)else r.get (k / 2)
def val:AB α→Option α
 | .leaf=>none
 | .node v _ _=>v
def left:AB α→AB α
 | .leaf=>.leaf
 | .node _ l _=>l
def right:AB α→AB α
 | .leaf=>.leaf
 | .node _ _ r=>r
def cH(v:Option α)(l r:AB α):AB α:=
 match l with
 | .leaf=>.node v .leaf r
 | .node x a b=>.node v (.node x a b) r
def cI(v:Option α)(l r:AB α):AB α:=
 match r with
 | .leaf=>.node v l .leaf
 | .node x a b=>.node v l (.node x a b)
def setF(v:Option α):Nat→AB α→Nat→AB α
 | 0,t,_=>t
 | f+1,t,k=>match k with
  | 0=>.node v t.left t.right
  | k+1=>bif Nat.beq (k % 2) 0 then cH t.val (setF v f t.left (k / 2)) t.right
   else cI t.val t.left (setF v f t.right (k / 2))
def put(t:AB α)(k:Nat)(v:Option α):AB α:=setF v (k+1) t k
def set(t:AB α)(k:Nat)(v:α):AB α:=t.put k (some v)
def del(t:AB α)(k:Nat):AB α:=t.put k none
theorem beq_no{a b:Nat}(h:¬ a=b):Nat.beq a b=false:=by
 cases e:Nat.beq a b with
 | false=>rfl
 | true=>exact absurd (fz e) h
theorem nodeL_eq(v:Option α)(l r:AB α):cH v l r=.node v l r:=by cases l<;>rfl
theorem nodeR_eq(v:Option α)(l r:AB α):cI v l r=.node v l r:=by cases r<;>rfl
theorem Jw(t:AB α):t.get 0=t.val:=by cases t<;>rfl
theorem get_succ(t:AB α)(k:Nat):t.get (k+1)=if k % 2=0 then t.left.get (k / 2)else t.right.get (k / 2):=by
 cases t with
 | leaf=>simp[get,left,right]
 | node v l r =>
  by_cases h:k % 2=0
  ·simp[get,left,h]
  ·have:Nat.beq (k % 2) 0=false:=beq_no h
   simp[get,right,h,this]
def mapO{β:Type}(f:α→Option β):AB α→AB β
 | .leaf=>.leaf
 | .node v l r=>.node (v.bind f) (mapO f l) (mapO f r)
theorem get_mapO{β:Type}(f:α→Option β):∀ (t:AB α)(k:Nat),(t.mapO f).get k=(t.get k).bind f
 | .leaf,_=>rfl
 | .node v l r,0=>rfl
 | .node v l r,k+1=>by
  show(bif Nat.beq (k % 2) 0 then (mapO f l).get (k / 2)else (mapO f r).get (k / 2))=(bif Nat.beq (k % 2) 0 then l.get (k / 2)else r.get (k / 2)).bind f
  cases Nat.beq (k % 2) 0 with
  | true=>exact get_mapO f l (k / 2)
  | false=>exact get_mapO f r (k / 2)
theorem Xs       (v : Option α) : ∀ (f : Nat) (t : AB   α) (k j : Nat), k < f → (setF v f t k).get j = if j = k then v else t.get j := by
  intro f
  induction f with
  | zero=>intro t k j h;omega
  | succ f ih =>
    intro t k j h
    cases k with
    | zero =>
      cases j with
      | zero=>simp[setF,Jw,val]
      | succ j=>simp[setF,get_succ,left,right]
    | succ k =>
      by_cases hk:k % 2=0
      · have hb:Nat.beq (k % 2) 0=true:=by rw[hk];rfl
        simp only[setF,hb,cond_true,nodeL_eq]
        cases j with
        | zero=>simp[Jw,val]
        | succ j =>
          by_cases hj:j % 2=0
          · rw[get_succ,get_succ,if_pos hj,if_pos hj]
            simp only[left]
            rw[ih _ _ _ (by omega)]
            by_cases e:j=k
            · subst e;simp
            · rw[if_neg (by omega),if_neg (by omega)]
          · rw[get_succ,get_succ,if_neg hj,if_neg hj,if_neg (by omega)]
            simp only[right]
      · have hb:Nat.beq (k % 2) 0=false:=beq_no hk
        simp only[setF,hb,cond_false,nodeR_eq]
        cases j with
        | zero=>simp[Jw,val]
        | succ j =>
          by_cases hj:j % 2=0
          · rw[get_succ,get_succ,if_pos hj,if_pos hj,if_neg (by omega)]
            simp only[left]
          · rw[get_succ,get_succ,if_neg hj,if_neg hj]
            simp only[right]
            rw[ih _ _ _ (by omega)]
            by_cases e:j=k
            · subst e;simp
            · rw[if_neg (by omega),if_neg (by omega)]
theorem ST(t:AB α)(k j:Nat)(v:Option α):(t.put k v).get j=if j=k then v else t.get j:=Xs v _ t k j (by omega)
theorem get_set(t:AB α)(k j:Nat)(v:α):(t.set k v).get j=if j=k then some v else t.get j:=ST t k j _
theorem get_del(t:AB α)(k j:Nat):(t.del k).get j=if j=k then none else t.get j:=ST t k j _
def fill(t:AB α)(k:Nat):List α→AB α
 | []=>t
 | v::l=>fill (t.set k v) (k+1) l
theorem get_fill(l:List α):∀ (t:AB α)(k j:Nat),(t.fill k l).get j=if k≤j∧j<k+l.length then l[j - k]? else t.get j:=by
  induction l with
  | nil=>intro t k j;simp[fill];omega
  | cons v l ih =>
    intro t k j
    simp only[fill,ih,get_set,gh]
    by_cases h1:k+1≤j∧j<k+1+l.length
    · rw [if_pos h1, if_pos (by omega), show j - k = (j - (k + 1)) + 1 from by omega]
      rfl
    · rw[if_neg h1]
      by_cases h2:j=k
      · subst h2;simp
      · rw[if_neg h2,if_neg (by omega)]
def take(t:AB α)(k:Nat):Nat→Option (List α)
 | 0=>some []
 | n+1=>match t.get k with
  | none=>none
  | some v=>match take t (k+1) n with
   | none=>none
   | some l=>some (v::l)
theorem take_length{t:AB α}{k n:Nat}{l:List α}(h:t.take k n=some l):l.length=n:=by
  induction n generalizing k l with
  | zero=>simp[take]at h;subst h;rfl
  | succ n ih =>
    simp only[take]at h
    split at h
    · cases h
    · split at h
      · cases h
      · rename_i h2;injection h with h;subst h;simp[ih h2]
theorem take_get {t : AB   α} {k n : Nat} {l : List α} (h : t.take k n = some l) (j : Nat) (hj : j < n) : t.get (k + j) = l[j]? := by
  induction n generalizing k l j with
  | zero=>omega
  | succ n ih =>
    simp only[take]at h
    split at h
    · cases h
    · rename_i v hv
      split at h
      · cases h
      · rename_i l' h2
        injection h with h
        subst h
        cases j with
        | zero=>simpa using hv
        | succ j=>rw[show k+(j+1)=k+1+j from by omega,ih h2 j (by omega)];rfl
end AB
end
end Go.Proofs.YtfgmceookgelcaaGreatDoor.Am
namespace Go.Proofs.YtfgmceookgelcaaGreatDoor.Am
open Go
noncomputable section
inductive AV where
 | bool (b:Bool)
 | int (k:IntKind) (n:Int)
 | str (s:List Nat)
 | ptr (a:Option (Nat×Nat))
 | gptr (g o:Nat)
 | slice (a:Option (Nat×Nat)) (len:Nat) (cap:Option Nat)
 | map (r:Option Nat)
 | func (f:FuncId) (first cap:List AV)
 | yield (l:Nat)
 | nilFunc
 | iface (t:TypeId) (v:AV)
 | nilIface
 | agg (cs:List AV)
 | tuple (vs:List AV)
 | junk
def BU:AV:=.tuple []
def AV.cells:AV→List AV
 | .agg cs=>cs
 | v=>[v]
def AV.isCell:AV→Bool
 | .agg _ | .tuple _ | .junk=>false
 | _=>true
def Aq:List AV→Bool
 | []=>true
 | v::l=>v.isCell && Aq l
inductive NL where
 | ro | own | sealed
structure B6 where
 elem:TypeId
 sz:Nat
 n:Nat
 c:AB AV
 spare:Bool
 mode:NL
 par:Option Nat
 bytes:Bool
 glob:Option Nat:=none
inductive CX where
 | loc (i:Nat)
 | var (j:Nat)
 | const (v:AV)
inductive Made where
 | ptr | slice (n:Nat) | map
structure EN where
 state:LoopState
 pending:Option Code
 fn:FuncId
 var:List AV
 params:Array Tmp
 assign:Code
 body:Code
 dfr:Nat
inductive AX where
 | row (r:B6)
 | map (kt:TypeId) (es:List (AV×AV))
 | mapRo (kt:TypeId) (es:List (AV×AV))
 | loop (l:EN)
 | mark
 | iter (s:List Nat) (pos:Nat)
structure AE where
 next:Nat
 heap:AB AX
def HY:Value→Option AV
 | .bool b=>some (.bool b)
 | .int k n=>some (.int k n)
 | .string s=>some (.str (s.data.toList.map (fun(b:UInt8)=>b.toNat)))
 | .pointer none=>some (.ptr none)
 | .slice none 0 0=>some (.slice none 0 (some 0))
 | .map none=>some (.map none)
 | .nilFunc=>some .nilFunc
 | .nilIface=>some .nilIface
 | _=>none
def D2:List Value→Option (List AV)
 | []=>some []
 | v::l=>(HY v).bind fun a=>(D2 l).bind fun r=>some (a::r)
def ofValue:Value→Option AV
 | .agg cs=>(D2 cs.toList).bind fun l=>some (.agg l)
 | .tuple vs=>(D2 vs.toList).bind fun l=>some (.tuple l)
 | v=>HY v
def AH{α:Type}(b:Bool)(x:Option α):Option α:=bif b then x else none
def C7{α:Type}(P:Program):Sem α→Option α
 | .pure a=>some a
 | .program k=>C7 P (k P)
 | .mark _ k=>C7 P k
 | _=>none
def BY(k:IntKind):Int→Bool
 | .ofNat m=>match k with
  | .i64=>Nat.ble m 9223372036854775807
  | .u64=>Nat.ble m 18446744073709551615
  | .i32=>Nat.ble m 2147483647
  | .u32=>Nat.ble m 4294967295
  | .u8=>Nat.ble m 255
  | .i8=>Nat.ble m 127
  | .u16=>Nat.ble m 65535
  | .i16=>Nat.ble m 32767
 | .negSucc m=>match k with
  | .i64=>Nat.ble m 9223372036854775807
  | .i32=>Nat.ble m 2147483647
  | .i8=>Nat.ble m 127
  | .i16=>Nat.ble m 32767
  | _=>false
def CN(k:IntKind)(n:Int):Int:=bif BY k n then n else k.wrap n
def Kw:Int→Int→Bool
 | .ofNat a,.ofNat b=>Nat.blt a b
 | .ofNat _,.negSucc _=>false
 | .negSucc _,.ofNat _=>true
 | .negSucc a,.negSucc b=>Nat.blt b a
def Ma:Int→Int→Bool
 | .ofNat a,.ofNat b=>Nat.beq a b
 | .negSucc a,.negSucc b=>Nat.beq a b
 | _,_=>false
def Sa:Int→Option Nat
 | .ofNat m=>some m
 | .negSucc _=>none
def CB:List Nat→List Nat→Bool
 | [],[]=>true
 | a::x,b::y=>bif Nat.beq a b then CB x y else false
 | _,_=>false
def F1:List Nat→List Nat→Bool
 | _,[]=>false
 | [],_::_=>true
 | a::x,b::y=>bif Nat.blt a b then true else bif Nat.beq a b then F1 x y else false
def Sk(op:BinOp)(x y:List Nat):Option AV:=
 match op with
 | .add=>AH (Nat.ble (x.length+y.length) 1152921504606846976) (some (.str (x++y)))
 | .eql=>some (.bool (CB x y))
 | .neq=>some (.bool (!CB x y))
 | .lss=>some (.bool (F1 x y))
 | .leq=>some (.bool (F1 x y || CB x y))
 | .gtr=>some (.bool (!(F1 x y || CB x y)))
 | .geq=>some (.bool (!F1 x y))
 | _=>none
def EM(P:Program)(t:TypeId):Option Bool:=
 match P.underlying t with
 | some (.struct _) | some (.array _ _)=>some true
 | some _=>some false
 | none=>none
def A2(P:Program)(t:TypeId):Option Nat:=match P.info? t with
 | some i=>some i.size
 | none=>none
def DW(P:Program)(t:TypeId):Option AV:=match P.info? t with
 | some i=>match i.zero with
  | some v=>ofValue v
  | none=>none
 | none=>none
def Cz(P:Program)(t:TypeId):Option Nat:=match P.info? t with
 | some i=>some i.bytes
 | none=>none
def rowAt(s:AE)(i:Nat):Option B6:=match s.heap.get i with
 | some (.row r)=>some r
 | _=>none
def newObj(s:AE)(o:AX):AE:={ next:=s.next+1,heap:=s.heap.set s.next o }
def Fu(elem:TypeId)(sz:Nat)(cells:List AV):AX:=
 .row { elem,sz,n:=cells.length,c:=AB.fill .leaf 0 cells,spare:=false,mode:=.own,par:=none,bytes:=true }
def setObj(s:AE)(i:Nat)(o:AX):AE:={ s with heap:=s.heap.set i o }
def Bu(s:AE)(i:Nat):AE:={ s with heap:=s.heap.del i }
def Be(s:AE)(i off n:Nat):Option (List AV):=
 (rowAt s i).bind fun r=>AH (Nat.ble (off+n) r.n) (r.c.take off n)
def Cc(s:AE)(i off:Nat):Option AV:=
 (rowAt s i).bind fun r=>AH (Nat.blt off r.n) (r.c.get off)
def BC(s:AE)(i:Nat)(r:B6):AE:=match r.par with
 | none=>s
 | some p=>bif Nat.beq p i then s else Bu s p
def CS:NL→Bool
 | .own=>true
 | _=>false
def CE(s:AE)(i off:Nat)(vs:List AV):Option AE:=
 match vs with
 | []=>some s
 | _::_=>(rowAt s i).bind fun r =>
  AH (CS r.mode && Nat.ble (off+vs.length) r.n && Aq vs)
   (some (setObj (BC s i r) i (.row { r with c:=r.c.fill off vs,par:=none })))
def Me(s:AE)(g:Nat):Option B6:=(rowAt s g).bind fun r=>match r.glob with
 | some g'=>AH (Nat.beq g' g) (some r)
 | none=>none
def AF(P:Program)(s:AE)(t:TypeId):AV→Option AV
 | .gptr i o=>(Me s i).bind fun _=>(EM P t).bind fun g=>match g with
  | true=>(A2 P t).bind fun n=>(Be s i o n).bind fun l=>some (.agg l)
  | false=>Cc s i o
 | .ptr (some (i,o))=>(EM P t).bind fun g=>match g with
  | true=>(A2 P t).bind fun n=>(Be s i o n).bind fun l=>some (.agg l)
  | false=>Cc s i o
 | _=>none
def AZ(P:Program)(s:AE)(t:TypeId)(a v:AV):Option AE:=
 match a with
 | .ptr (some (i,o))=>(A2 P t).bind fun n=>AH (Nat.beq v.cells.length n) (CE s i o v.cells)
 | _=>none
def Fm(P:Program)(t:TypeId):Bool:=match P.underlying t with
 | some (.pointer _)=>true
 | _=>false
def HQ(P:Program)(t:TypeId):Bool:=match P.underlying t with
 | some (.slice _)=>true
 | _=>false
def IA(P:Program)(t:TypeId):Bool:=match P.underlying t with
 | some (.map ..)=>true
 | _=>false
def HP(P:Program)(t:TypeId):Bool:=match P.underlying t with
 | some (.func ..)=>true
 | _=>false
def Mf(P:Program)(t:TypeId):Bool:=match P.underlying t with
 | some .bool=>true
 | _=>false
def aT(P:Program)(t:TypeId):AV→AV→Option Bool
 | .bool a,.bool b=>AH (Mf P t) (some (a == b))
 | .ptr none,.ptr b=>AH (Fm P t) (some b.isNone)
 | .ptr a,.ptr none=>AH (Fm P t) (some a.isNone)
 | .slice none _ _,.slice b _ _=>AH (HQ P t) (some b.isNone)
 | .slice a _ _,.slice none _ _=>AH (HQ P t) (some a.isNone)
 | .map none,.map b=>AH (IA P t) (some b.isNone)
 | .map a,.map none=>AH (IA P t) (some a.isNone)
 | .nilFunc,.nilFunc=>AH (HP P t) (some true)
 | .func ..,.nilFunc=>AH (HP P t) (some false)
 | .nilFunc,.func ..=>AH (HP P t) (some false)
 | _,_=>none
def Bn:IntKind→IntKind→Bool
 | .i8,.i8 | .i16,.i16 | .i32,.i32 | .i64,.i64 | .u8,.u8 | .u16,.u16 | .u32,.u32 | .u64,.u64=>true
 | _,_=>false
def Xv(P:Program)(op:BinOp)(k:IntKind)(a b:Int):Option AV:=
 match op with
 | .add=>some (.int k (CN k (a+b)))
 | .sub=>some (.int k (CN k (a - b)))
 | .mul=>some (.int k (CN k (a * b)))
 | .eql=>some (.bool (Ma a b))
 | .neq=>some (.bool (!Ma a b))
 | .lss=>some (.bool (Kw a b))
 | .leq=>some (.bool (!Kw b a))
 | .gtr=>some (.bool (Kw b a))
 | .geq=>some (.bool (!Kw a b))
 | .quo | .rem=>(C7 P (Op.intDiv op k a b)).bind ofValue
 | .shl | .shr=>none
 | _=>(C7 P (Op.intBits op k a b)).bind ofValue
def AN(P:Program)(op:BinOp)(t:TypeId)(x y:AV):Option AV:=
 match x,y with
 | .int k a,.int k' b=>match op with
  | .shl | .shr=>(C7 P (Op.shift op k a k' b)).bind ofValue
  | _=>AH (Bn k k') (Xv P op k a b)
 | .str a,.str b=>Sk op a b
 | x,y=>match op with
  | .eql=>(aT P t x y).bind fun b=>some (.bool b)
  | .neq=>(aT P t x y).bind fun b=>some (.bool (!b))
  | _=>none
def X2(P:Program)(t:TypeId):Bool:=match P.underlying t with
 | some (.pointer e)=>(match P.info? e with | some j=>!Nat.beq j.size 0 | none=>false)
 | _=>false
def Gw(s:AE)(i:Nat):Bool:=match rowAt s i with
 | some r=>CS r.mode && r.par.isNone
 | none=>false
def IH(P:Program)(s:AE)(neg:Bool)(t:TypeId)(x y:AV):Option AV:=
 match x,y with
 | .ptr (some (i,o)),.ptr (some (j,q))=>AH (X2 P t && Gw s i && Gw s j) (some (.bool ((Nat.beq i j && Nat.beq o q) != neg)))
 | x,y=>AN P (bif neg then .neq else .eql) t x y
def de(P:Program)(op:UnOp):AV→Option AV
 | .int k n=>match op with
  | .neg=>some (.int k (CN k (0 - n)))
  | .xor=>(C7 P (Op.unary .xor (.int k n))).bind ofValue
  | _=>none
 | .bool b=>match op with
  | .not=>some (.bool (!b))
  | _=>none
 | _=>none
def Jt(place:Nat→Option (Nat×Nat))(cells:List AV):List (Nat×AV)→Option (List AV)
 | []=>some cells
 | (i,v)::rest=>(place i).bind fun p =>
  AH (Nat.beq v.cells.length p.2 && Nat.ble (p.1+v.cells.length) cells.length)
   (Jt place (cells.take p.1++(v.cells++cells.drop (p.1+v.cells.length))) rest)
def EB(P:Program):List Field→Option (List (Nat×Nat))
 | []=>some []
 | f::l=>(A2 P f.type).bind fun n=>(EB P l).bind fun r=>some ((f.offset,n)::r)
def FA(P:Program)(t:TypeId)(parts:List (Nat×AV)):Option AV:=
 (DW P t).bind fun z=>match P.underlying t with
  | some (.struct fields)=>(EB P fields.toList).bind fun places =>
   (Jt (fun i=>places[i]?) z.cells parts).bind fun l=>some (.agg l)
  | some (.array _ e)=>(A2 P e).bind fun n =>
   (Jt (fun i=>some (i * n,n)) z.cells parts).bind fun l=>some (.agg l)
  | _=>none
def QG(l:List AV):Nat→List AV
 | 0=>[]
 | n+1=>l++QG l n
def Ak(P:Program)(t:TypeId)(len:Nat)(parts:List (Nat×AV)):Option AX:=
 match P.underlying t with
 | some (.slice e)=>(A2 P e).bind fun n=>AH (Nat.ble (len * n) 16777216) <|
  (DW P e).bind fun z=>AH (Nat.beq z.cells.length n) <|
   (Jt (fun i=>some (i * n,n)) (QG z.cells len) parts).bind fun l=>some (Fu e n l)
 | _=>none
def Af(P:Program)(s:AE)(src dst:TypeId)(x:AV):Option AV:=
 match P.underlying src,P.underlying dst,x with
 | some _,some (.int k),.int _ n=>some (.int k (CN k n))
 | some _,some .string,.str l=>some (.str l)
 | some (.slice e),some .string,.slice a len _=>match P.underlying e with
  | some (.int .u8)=>match a with
   | none=>some (.str [])
   | some (i,o)=>(Be s i o len).bind fun l=>(bytesOf l).bind fun b=>some (.str b)
  | _=>none
 | some (.pointer u),some .unsafePointer,x=>seenPtr u x
 | some .unsafePointer,some (.pointer u),x=>seenPtr u x
 | _,_,_=>none
where
 seenPtr (u:TypeId):AV→Option AV
  | .ptr none=>some (.ptr none)
  | .ptr (some (i,o))=>(rowAt s i).bind fun r=>(A2 P u).bind fun n =>
   AH (CS r.mode && r.bytes && Nat.beq o 0 && Nat.beq r.elem u && Nat.ble n r.n && !Nat.beq n 0) (some (.ptr (some (i,o))))
  | _=>none
 bytesOf:List AV→Option (List Nat)
  | []=>some []
  | .int .u8 (.ofNat n)::l=>AH (Nat.blt n 256) ((bytesOf l).bind fun r=>some (n::r))
  | _::_=>none
def GX:AV→Option Nat
 | .int _ n=>Sa n
 | _=>none
def BT(x:AV)(y:Nat):Option Nat:=(GX x).bind fun i=>AH (Nat.ble i y) (some i)
def Bf(P:Program)(s:AE)(t:TypeId)(x:AV)(lo hi mx:Option AV):Option AV:=
 match x with
 | .str l=>(match mx with | some _=>none | none=>some ()).bind fun _ =>
  (match hi with | some h=>BT h l.length | none=>some l.length).bind fun h =>
  (match lo with | some v=>BT v h | none=>some 0).bind fun o =>
  (match P.underlying t with | some .string=>some () | _=>none).bind fun _=>some (.str ((l.drop o).take (h - o)))
 | .slice a len cap=>match P.underlying t with
  | some (.slice e)=>(A2 P e).bind fun n =>
   (match cap with
    | some c=>some c
    | none=>match a with
     | none=>none
     | some (i,o)=>(rowAt s i).bind fun r=>AH (Nat.ble o r.n && Nat.beq n r.sz && !Nat.beq n 0) (some ((r.n - o) / n))).bind fun far =>
   (match mx with | some m=>(BT m far).bind fun c=>AH (cap.isSome || Nat.blt 0 far) (some (some c)) | none=>some cap).bind fun m =>
   (match hi,m with
    | some h,some c=>BT h c
    | some h,none=>BT h far
    | none,some c=>(match mx with | none=>some len | some _=>(fun(_:Nat)=>none) c)
    | none,none=>some len).bind fun h =>
   (match lo with | some v=>BT v h | none=>some 0).bind fun l =>
   some (.slice
    (match a with
     | none=>none
     | some (i,o)=>match m with
      | some c=>bif Nat.beq c l then some (i,o)else some (i,o+l * n)
      | none=>some (i,o+l * n))
    (h - l) (match m with | some c=>some (c - l) | none=>none))
  | _=>none
 | .ptr (some (i,o))=>match P.underlying t with
  | some (.array len e)=>arr len e i o
  | some (.pointer u)=>match P.underlying u with
   | some (.array len e)=>arr len e i o
   | _=>none
  | _=>none
 | _=>none
where
 arr (len:Nat) (e:TypeId) (i o:Nat):Option AV:=(A2 P e).bind fun n =>
  (match mx with | some m=>BT m len | none=>some len).bind fun m =>
  (match hi with | some h=>BT h m | none=>match mx with | none=>some len | some _=>none).bind fun h =>
  (match lo with | some v=>BT v h | none=>some 0).bind fun l =>
  some (.slice (some (i,bif Nat.beq m l then o else o+l * n)) (h - l) (some (m - l)))
def AP(P:Program)(t:TypeId)(x:AV)(f:Nat):Option AV:=
 match x with
 | .ptr (some (i,o))=>match P.underlying t with
  | some (.struct fs)=>(fs[f]?).bind fun fd=>(A2 P fd.type).bind fun n =>
   AH (!Nat.beq n 0) (some (.ptr (some (i,o+fd.offset))))
  | _=>none
 | _=>none
def Sc(P:Program)(t:TypeId)(cs:List AV)(off:Nat):Option AV:=
 (EM P t).bind fun g=>match g with
  | true=>(A2 P t).bind fun n=>some (.agg ((cs.drop off).take n))
  | false=>cs[off]?
def Pr(P:Program)(t:TypeId)(x:AV)(f:Nat):Option AV:=
 match x with
 | .agg cs=>match P.underlying t with
  | some (.struct fs)=>(fs[f]?).bind fun fd=>Sc P fd.type cs fd.offset
  | _=>none
 | _=>none
def AQ(P:Program)(t:TypeId)(x ix:AV):Option AV:=
 (GX ix).bind fun k=>match x with
  | .ptr (some (i,o))=>match P.underlying t with
   | some (.array len e)=>(A2 P e).bind fun n=>AH (Nat.blt k len) (some (.ptr (some (i,o+k * n))))
   | _=>none
  | .gptr g o=>match P.underlying t with
   | some (.array len e)=>(A2 P e).bind fun n=>AH (Nat.blt k len) (some (.gptr g (o+k * n)))
   | _=>none
  | .slice (some (i,o)) len _=>match P.underlying t with
   | some (.slice e)=>(A2 P e).bind fun n=>AH (Nat.blt k len) (some (.ptr (some (i,o+k * n))))
   | _=>none
  | _=>none
def Px(P:Program)(t:TypeId)(x ix:AV):Option AV:=
 (GX ix).bind fun k=>match x with
  | .agg cs=>match P.underlying t with
   | some (.array len e)=>(A2 P e).bind fun n=>AH (Nat.blt k len) (Sc P e cs (k * n))
   | _=>none
  | .str l=>match P.underlying t with
   | some .string=>(l[k]?).bind fun b=>some (.int .u8 (.ofNat b))
   | _=>none
  | _=>none
def IE:AV→Option AV
 | .ptr none | .nilIface | .nilFunc | .junk=>none
 | v=>some v
def Za(x:AV)(i:Nat):Option AV:=
 match x with
 | .tuple vs=>vs[i]?
 | _=>none
def Ru(c a b:AV):Option AV:=
 match c with
 | .bool true=>some a
 | .bool false=>some b
 | _=>none
def FL(mx:Bool):AV→List AV→Option AV
 | v,[]=>some v
 | .int k a,.int k' b::l=>AH (Bn k k') (FL mx (.int k (bif (bif mx then Kw a b else Kw b a)then b else a)) l)
 | _,_=>none
def Ie:AV→AV→Option Bool
 | .int k a,.int k' b=>AH (Bn k k') (some (Ma a b))
 | .str a,.str b=>some (CB a b)
 | .agg a,.agg b=>keysEq a b
 | _,_=>none
where
 keysEq:List AV→List AV→Option Bool
 | [],[]=>some true
 | .int k a::x,.int k' b::y=>AH (Bn k k') ((keysEq x y).bind fun r=>some (Ma a b && r))
 | .str a::x,.str b::y=>(keysEq x y).bind fun r=>some (CB a b && r)
 | _,_=>none
def Fi(k:AV):List (AV×AV)→Nat→Option (Option (Nat×AV))
 | [],_=>some none
 | (k',v)::l,i=>(Ie k k').bind fun e=>match e with
  | true=>some (some (i,v))
  | false=>Fi k l (i+1)
def Ga(P:Program):Nat→TypeId→List AV→Bool
 | 0,_,_=>false
 | d+1,t,cs=>match P.underlying t with
  | some (.int q)=>match cs with
   | [.int q' n]=>Bn q' q && BY q n
   | _=>false
  | some .string=>match cs with
   | [.str l]=>Nat.ble l.length 1099511627776
   | _=>false
  | some (.array n e)=>Nat.beq cs.length (P.cellsOf t) && (List.range n).all fun i=>Ga P d e ((cs.drop (i * P.cellsOf e)).take (P.cellsOf e))
  | some (.struct fs)=>Nat.beq cs.length (P.cellsOf t) && fs.toList.all fun f=>Ga P d f.type ((cs.drop f.offset).take (P.cellsOf f.type))
  | _=>false
def Ey(P:Program)(t:TypeId)(k:AV):Bool:=match P.underlying t with
 | some (.array _ _) | some (.struct _)=>match k with
  | .agg cs=>Ga P 4 t cs
  | _=>false
 | _=>Ga P 1 t [k]
def EZ(P:Program)(t:TypeId):Bool:=match P.underlying t with
 | some (.int _) | some .string=>true
 | some (.array _ _) | some (.struct _)=>P.keyType t && (P.tiled (P.types.size+1) t && (Nat.ble 4 P.types.size && Nat.ble P.types.size 9990))
 | _=>false
def Gb(P:Program)(t:TypeId):Bool:=match P.underlying t with
 | some (.map kt _)=>EZ P kt
 | _=>false
def TK(P:Program)(t:TypeId):Option TypeId:=match P.underlying t with
 | some (.map kt _)=>some kt
 | _=>none
def KC(s:AE)(kt:TypeId)(i:Nat):Option (List (AV×AV)):=match s.heap.get i with
 | some (.map kt' es)=>AH (Nat.beq kt' kt) (some es)
 | _=>none
def SZ(s:AE)(kt:TypeId)(i:Nat):Option (List (AV×AV)):=match s.heap.get i with
 | some (.map kt' es)=>AH (Nat.beq kt' kt) (some es)
 | some (.mapRo kt' es)=>AH (Nat.beq kt' kt) (some es)
 | _=>none
def GD(P:Program)(s:AE)(t:TypeId)(m k:AV)(ok:Bool):Option AV:=
 match P.underlying t with
 | some (.map kt et)=>AH (Ey P kt k) <|
  (match m with
   | .map none=>some []
   | .map (some i)=>SZ s kt i
   | _=>none).bind fun es=>(Fi k es 0).bind fun r =>
   (match r with
    | some (_,v)=>some (v,true)
    | none=>(DW P et).bind fun z=>some (z,false)).bind fun p=>some (bif ok then .tuple [p.1,.bool p.2]else p.1)
 | _=>none
def setNth(es:List (AV×AV))(i:Nat)(v:AV):List (AV×AV):=
 match es,i with
 | [],_=>[]
 | (k,_)::l,0=>(k,v)::l
 | e::l,i+1=>e::setNth l i v
def Yg(k v:AV)(es:List (AV×AV)):Option (List (AV×AV)):=(Fi k es 0).bind fun r=>match r with
 | some (j,_)=>some (setNth es j v)
 | none=>some (es++[(k,v)])
def NE(P:Program)(s:AE)(t:TypeId)(m k v:AV):Option AE:=
 match P.underlying t,m with
 | some (.map kt _),.map (some i)=>AH (Ey P kt k) <|
  (KC s kt i).bind fun es=>(Yg k v es).bind fun es'=>some (setObj s i (.map kt es'))
 | _,_=>none
def delNth(es:List (AV×AV))(i:Nat):List (AV×AV):=
 match es,i with
 | [],_=>[]
 | _::l,0=>l
 | e::l,i+1=>e::delNth l i
def I9(P:Program)(s:AE)(t:TypeId)(m k:AV):Option AE:=
 match P.underlying t with
 | some (.map kt _)=>AH (Ey P kt k) <| match m with
  | .map none=>some s
  | .map (some i)=>(KC s kt i).bind fun es=>(Fi k es 0).bind fun r=>match r with
    | some (j,_)=>some (setObj s i (.map kt (delNth es j)))
    | none=>some s
  | _=>none
 | _=>none
def Bk(P:Program)(s:AE)(t:TypeId):AV→Option AV
 | .str l=>match P.underlying t with
  | some .string=>some (.int .i64 (.ofNat l.length))
  | _=>none
 | .slice _ n _=>match P.underlying t with
  | some (.slice _)=>some (.int .i64 (.ofNat n))
  | _=>none
 | .map none=>match P.underlying t with
  | some (.map ..)=>some (.int .i64 (.ofNat 0))
  | _=>none
 | .map (some i)=>match P.underlying t with
  | some (.map ..)=>match s.heap.get i with
   | some (.map _ es)=>some (.int .i64 (.ofNat es.length))
   | some (.mapRo _ es)=>some (.int .i64 (.ofNat es.length))
   | _=>none
  | _=>none
 | _=>none
def S6(P:Program)(s:AE)(t:TypeId):AV→Option AV
 | .slice a _ cap=>match P.underlying t with
  | some (.slice e)=>match cap with
   | some c=>some (.int .i64 (.ofNat c))
   | none=>match a with
    | some (i,o)=>(A2 P e).bind fun n=>(rowAt s i).bind fun r=>AH (!r.spare && Nat.ble o r.n && Nat.beq n r.sz && !Nat.beq n 0) (some (.int .i64 (.ofNat ((r.n - o) / n))))
    | none=>none
  | _=>none
 | _=>none
def XT:AV→Option AV
 | .slice none _ _=>some (.ptr none)
 | .slice (some (i,o)) (_+1) _=>some (.ptr (some (i,o)))
 | _=>none
def Made.val(i:Nat):Made→AV
 | .ptr=>.ptr (some (i,0))
 | .slice n=>.slice (some (i,0)) n (some n)
 | .map=>.map (some i)
def Ar(P:Program)(e:TypeId):Option (AX×Made):=(DW P e).bind fun z=>some (Fu e 0 z.cells,.ptr)
def Cr(e:TypeId)(v:AV):Option (AX×Made):=some (Fu e 0 v.cells,.ptr)
def Bv(P:Program)(t:TypeId)(l c:AV):Option (AX×Made):=
 match P.underlying t,l,c with
  | some (.slice e),.int .i64 (.ofNat l),.int .i64 (.ofNat c)=>(Cz P e).bind fun by_=>(A2 P e).bind fun n =>
   AH (Nat.beq l c && Nat.ble (by_ * c) 1099511627776 && Nat.ble c 1099511627776) <|
   (DW P e).bind fun z=>AH (Nat.beq z.cells.length n) (some (Fu e n (QG z.cells c),.slice c))
  | _,_,_=>none
def P0(P:Program)(t:TypeId):Bool:=match P.underlying t with
 | some (.int _)=>true
 | _=>false
def QV(s:AE)(i o n size:Nat):Option (List AV):=bif Nat.beq n 0 then some []else Be s i o (n * size)
def B0(P:Program)(s:AE)(e:TypeId)(size:Nat):AV→Option (Nat×List AV)
 | .int _ (.ofNat n)=>AH (Nat.ble n 1099511627776 && Nat.blt 0 n) ((DW P e).bind fun z=>AH (Nat.beq z.cells.length size) (some (n,QG z.cells n)))
 | .slice none _ _=>some (0,[])
 | .slice (some (i,o)) n _=>(QV s i o n size).bind fun l=>some (n,l)
 | .str l=>AH (Nat.beq size 1) (some (l.length,l.map fun b=>.int .u8 (.ofNat b)))
 | _=>none
def Bs(P:Program)(t:TypeId):Bool:=match P.underlying t with
 | some (.slice _) | some .string=>true
 | _=>false
def Ca(e:TypeId)(sz:Nat)(c:AB AV)(n:Nat)(par:Option Nat)(base:Bool):AX:=
 .row { elem:=e,sz,n,c,spare:=true,mode:=.own,par,bytes:=base }
def Cm(P:Program)(e:TypeId)(size:Nat):Bool:=match DW P e with
 | some z=>Nat.beq z.cells.length size
 | none=>false
def B7(P:Program)(s:AE)(e:TypeId)(size n:Nat)(cells:List AV):Option (AV×AE):=
 AH (Cm P e size) (some (.slice (some (s.next,0)) n none,newObj s (Ca e size (AB.fill .leaf 0 cells) cells.length none true)))
def Ch(s:AE)(i:Nat)(r:B6)(ends:Bool):AE:=
 bif ends then setObj (BC s i r) i (.row { r with mode:=.sealed,par:=none })else Bu (BC s i r) i
def D8(P:Program)(s:AE)(e:TypeId)(size i o len:Nat)(src:Nat×List AV)(r:B6)(old:List AV):Option (AV×AE):=
 AH (CS r.mode && Nat.beq r.elem e && Cm P e size) <|
  let ends:=Nat.beq (o+len * size) r.n
  let s2:=Ch s i r ends
  some (.slice (some (s.next,0)) (len+src.1) none,
   newObj s2 (Ca e size (bif Nat.beq o 0 then r.c.fill (len * size) src.2 else AB.fill .leaf 0 (old++src.2)) (old++src.2).length (bif ends then some i else none) (r.bytes && Nat.beq o 0)))
def I2(P:Program)(s:AE)(e:TypeId)(size i o len:Nat)(src:Nat×List AV)(r:B6):Option (AV×AE):=
 AH (Nat.beq size r.sz) <|
 bif Nat.ble (o+(len+src.1) * size) r.n then
  (CE s i (o+len * size) src.2).bind fun s'=>some (.slice (some (i,o)) (len+src.1) none,s')
 else (Be s i o (len * size)).bind fun old =>
  bif r.spare then D8 P s e size i o len src r old else B7 P s e size (len+src.1) (old++src.2)
def Fa(P:Program)(s:AE)(e:TypeId)(size i o len c:Nat)(src:Nat×List AV):Option (AV×AE):=
 bif Nat.ble (len+src.1) c then
  (CE s i (o+len * size) src.2).bind fun s'=>some (.slice (some (i,o)) (len+src.1) (some c),s')
 else (Be s i o (len * size)).bind fun old=>B7 P s e size (len+src.1) (old++src.2)
def appTo(P:Program)(s:AE)(e:TypeId)(size:Nat)(a:Option (Nat×Nat))(len:Nat)(cap:Option Nat)(src:Nat×List AV):Option (AV×AE):=
 match a with
 | none=>bif Nat.beq src.1 0 then some (.slice none 0 (some 0),s)else B7 P s e size src.1 src.2
 | some (i,o)=>match cap with
  | some c=>Fa P s e size i o len c src
  | none=>(rowAt s i).bind fun r=>I2 P s e size i o len src r
def A7(P:Program)(s:AE)(argTypes:List TypeId)(args:List AV):Option (AV×AE):=
 match argTypes,args with
 | [st,xt],[.slice a len cap,x]=>match P.underlying st with
  | some (.slice e)=>(A2 P e).bind fun size=>(Cz P e).bind fun by_ =>
   AH (!Nat.beq size 0 && (match x with | .int ..=>P0 P xt | _=>Bs P xt)) <|
   (B0 P s e size x).bind fun src =>
   AH (Aq src.2 && Nat.ble ((len+src.1) * by_) 1099511627776 && Nat.ble (len+src.1) 1099511627776) <|
   appTo P s e size a len cap src
  | _=>none
 | _,_=>none
def XP(P:Program)(s:AE)(argTypes:List TypeId)(args:List AV):Option (AV×AE):=
 match argTypes,args with
 | dt::_,[.slice a dl _,x]=>match P.underlying dt with
  | some (.slice e)=>(A2 P e).bind fun size =>
   (match x with | .slice _ n _=>some n | .str l=>some l.length | _=>none).bind fun sl =>
   let n:=bif Nat.ble sl dl then sl else dl
   (match x with
    | .slice none _ _=>some []
    | .slice (some (i,o)) _ _=>Be s i o (n * size)
    | .str l=>AH (Nat.beq size 1) (some ((l.take n).map fun b=>.int .u8 (.ofNat b)))
    | _=>none).bind fun cells =>
   (match a with
    | none=>some s
    | some (i,o)=>CE s i o cells).bind fun s'=>some (.int .i64 (.ofNat n),s')
  | _=>none
 | _,_=>none
def SG(r:B6):AX:=.row { r with n:=0,spare:=true,mode:=.ro,par:=none,bytes:=false,glob:=none }
def Sn(P:Program)(s:AE)(t:TypeId)(n:Nat):Option (Nat×Nat)→Option (AV×AE)
 | none=>none
 | some (i,o)=>match P.underlying t with
  | some (.pointer e)=>(rowAt s i).bind fun r=>AH (CS r.mode && r.bytes && Nat.beq o 0 && Nat.beq r.elem e && Nat.ble n 1099511627776) <| (A2 P e).bind fun z=>AH (Nat.beq z 1) <|
   (Be s i o n).bind fun l=>(Af.bytesOf l).bind fun b=>some (.str b,setObj (BC s i r) i (SG r))
  | _=>none
def ZG(P:Program)(s:AE)(argTypes:List TypeId)(args:List AV):Option (AV×AE):=
 match argTypes,args with
 | [t,_],[.ptr a,.int .i64 (.ofNat n)]=>match n with
  | 0=>some (.str [],s)
  | n+1=>Sn P s t (n+1) a
 | _,_=>none
def YQ(s:AE):List AV→Option (AV×AE)
 | [x]=>some (x,s)
 | _=>none
def Mt(e:TypeId)(s:AE):List AV→Option (AV×AE)
 | [.int .i64 (.ofNat n)]=>AH (Nat.ble n 1099511627776) (some (.slice (some (s.next,0)) n none,newObj s (Ca e 1 .leaf n none true)))
 | _=>none
def SA(s:AE):List AV→Option (AV×AE)
 | [.str a,.str b]=>some (.int .i64 (bif F1 a b then -1 else bif CB a b then 0 else 1),s)
 | _=>none
def Nm(P:Program)(name:String)(rt:Array TypeId):Option (AE→List AV→Option (AV×AE)):=
  bif name == "internal/abi.NoEscape" then some YQ else
  bif name == "internal/bytealg.abigen_runtime_cmpstring" then some SA else
  bif name == "internal/bytealg.MakeNoZero" then (match rt.toList with
    | [t]=>match P.underlying t with
      | some (.slice e)=>match A2 P e with
        | some 1=>some (Mt e)
        | _=>none
      | _=>none
    | _=>none)
  else none
def Xi(P:Program)(f:FuncId):Option (AE→List AV→Option (AV×AE)):=match P.funcs[f]? with
  | some fn=>match fn.body with
    | some _=>none
    | none => bif fn.origin == "" then Nm P fn.name fn.resultTypes else none
  | none=>none
def Pi(P:Program)(s:AE)(argTypes:List TypeId)(args:List AV):Option (AV×AE):=
 match argTypes,args with
 | t::_,[x]=>match P.underlying t,x with
  | some (.slice _),.slice none _ _=>some (BU,s)
  | some (.slice _),.slice _ 0 _=>some (BU,s)
  | some (.slice e),.slice (some (i,o)) n _=>(DW P e).bind fun z=>(CE s i o (QG z.cells n)).bind fun s'=>some (BU,s')
  | _,_=>none
 | _,_=>none
inductive Sh where
 | p1 (f:AV→Option AV)
 | p2 (f:AV→AV→Option AV)
 | p (f:List AV→Option AV)
 | r1 (f:AE→AV→Option AV)
 | r (f:AE→List AV→Option AV)
 | mk (f:List AV→Option (AX×Made))
 | e (f:AE→List AV→Option (AV×AE))
 | call (f:FuncId)
 | callv
def Sh.isEff:Sh→Bool
 | .e _ | .call _ | .callv=>true
 | _=>false
def Sh.isRead:Sh→Bool
 | .r1 _ | .r _=>true
 | _=>false
def Rt:List AV→Option AV
 | [c,a,b]=>Ru c a b
 | _=>none
def Xx{α:Type}(f:AV→AV→Option α):List AV→Option α
 | [a,b]=>f a b
 | _=>none
def Xy{α:Type}(f:AV→AV→AV→Option α):List AV→Option α
 | [a,b,c]=>f a b c
 | _=>none
def Xz(x:Option AE):Option (AV×AE):=match x with
 | some s=>some (BU,s)
 | none=>none
def Bg(P:Program)(t:TypeId)(lo hi mx:Bool)(s:AE):List AV→Option AV
 | [x]=>match lo,hi,mx with
  | false,false,false=>Bf P s t x none none none
  | _,_,_=>none
 | [x,a]=>match lo,hi,mx with
  | true,false,false=>Bf P s t x (some a) none none
  | false,true,false=>Bf P s t x none (some a) none
  | _,_,_=>none
 | [x,a,b]=>match lo,hi,mx with
  | true,true,false=>Bf P s t x (some a) (some b) none
  | false,true,true=>Bf P s t x none (some a) (some b)
  | _,_,_=>none
 | [x,a,b,c]=>match lo,hi,mx with
  | true,true,true=>Bf P s t x (some a) (some b) (some c)
  | _,_,_=>none
 | _=>none
def zipIdx(is:List Nat)(l:List AV):List (Nat×AV):=is.zip l
def Fn:Operand→Bool
 | .tmp _=>true
 | _=>false
def YZ(P:Program)(op:BinOp)(t:TypeId)(x y:Operand):Option Bool:=match op with
 | .eql=>bif Fn x && Fn y && Fm P t then some false else none
 | .neq=>bif Fn x && Fn y && Fm P t then some true else none
 | _=>none
def At(P:Program)(o:Op):Option (Sh×List Operand):=
 match o with
 | .move x | .assign x=>some (.p1 some,[x])
 | .pick c a b=>some (.p Rt,[c,a,b])
 | .build t ps=>some (.p (fun l=>FA P t (zipIdx (ps.toList.map (·.1)) l)),ps.toList.map (·.2))
 | .nilCheck x=>some (.p1 IE,[x])
 | .binOp op t x y _=>match YZ P op t x y with
  | some neg=>some (.r (fun s=>Xx (IH P s neg t)),[x,y])
  | none=>some (.p2 (AN P op t),[x,y])
 | .unOp op _ x=>some (.p1 (de P op),[x])
 | .makeFunc fn first captured=>match fn with
  | .func f=>some (.p (fun l=>some (.func f (l.take first.size) (l.drop first.size))),first.toList++captured.toList)
  | _=>none
 | .fieldAddr t x f=>some (.p1 (fun x=>AP P t x f),[x])
 | .field t x f=>some (.p1 (fun x=>Pr P t x f),[x])
 | .indexAddr t x i=>some (.p2 (AQ P t),[x,i])
 | .index t x i=>some (.p2 (Px P t),[x,i])
 | .extract t i=>some (.p1 (fun x=>Za x i),[t])
 | .load t a=>some (.r1 (fun s a=>AF P s t a),[a])
 | .lookup t m k ok=>AH (Gb P t) (some (.r (fun s=>Xx (fun m k=>GD P s t m k ok)),[m,k]))
 | .convert src dst x=>some (.r1 (fun s x=>Af P s src dst x),[x])
 | .slice t x lo hi mx=>some (.r (Bg P t lo.isSome hi.isSome mx.isSome),[x]++lo.toList++hi.toList++mx.toList)
 | .alloc e=>some (.mk (fun l=>match l with | []=>Ar P e | _=>none),[])
 | .box e x=>some (.mk (fun l=>match l with | [v]=>Cr e v | _=>none),[x])
 | .buildSlice t len ps=>some (.mk (fun l=>(Ak P t len (zipIdx (ps.toList.map (·.1)) l)).bind fun r=>some (r,.slice len)),ps.toList.map (·.2))
 | .makeMap t none=>AH (Gb P t) (some (.mk (fun l=>match l with | []=>(TK P t).bind fun kt=>some (.map kt [],.map) | _=>none),[]))
 | .makeSlice t l c=>some (.mk (Xx (Bv P t)),[l,c])
 | .store t a x=>some (.e (fun s=>Xx (fun a x=>Xz (AZ P s t a x))),[a,x])
 | .mapUpdate t m k x | .insert t m k x=>AH (Gb P t) (some (.e (fun s=>Xy (fun m k x=>Xz (NE P s t m k x))),[m,k,x]))
 | .call { callee,args,argTypes }=>match callee with
  | .value (.func f)=>match Xi P f with
   | some e=>some (.e e,args.toList)
   | none=>some (.call f,args.toList)
  | .value x=>some (.callv,x::args.toList)
  | .invoke ..=>none
  | .builtin b=>match b with
   | .len=>match argTypes[0]? with
    | some t=>some (.r (fun s l=>match l with | [x]=>Bk P s t x | _=>none),args.toList)
    | none=>none
   | .cap=>match argTypes[0]? with
    | some t=>some (.r (fun s l=>match l with | [x]=>S6 P s t x | _=>none),args.toList)
    | none=>none
   | .min=>some (.p (fun l=>match l with | v::l=>FL false v l | []=>none),args.toList)
   | .max=>some (.p (fun l=>match l with | v::l=>FL true v l | []=>none),args.toList)
   | .append=>some (.e (fun s l=>A7 P s argTypes.toList l),args.toList)
   | .copy=>some (.e (fun s l=>XP P s argTypes.toList l),args.toList)
   | .unsafeSliceData=>some (.p (fun l=>match l with | [x]=>XT x | _=>none),args.toList)
   | .unsafeString=>some (.e (fun s l=>ZG P s argTypes.toList l),args.toList)
   | .clear=>some (.e (fun s l=>Pi P s argTypes.toList l),args.toList)
   | .delete=>match argTypes[0]? with
    | some t=>AH (Gb P t) (some (.e (fun s=>Xx (fun m k=>Xz (I9 P s t m k))),args.toList))
    | none=>none
   | _=>none
 | _=>none
def fR(t:Nat):Nat:=Nat.shiftLeft 1 t
def Et:List Operand→Nat
 | []=>0
 | .tmp t::l=>Nat.lor (fR t) (Et l)
 | _::l=>Et l
def Jr(P:Program):List Oper→Nat→Nat→Nat
 | [],_,e=>e
 | o::l,wr,e =>
  let rd:=match At P o.op with
   | some (_,xs)=>Et xs
   | none=>match o.op with
    | .range _ x | .next x _ | .entry x=>Et [x]
    | _=>0
  Jr P l (match o.dst with | some d=>Nat.lor wr (fR d) | none=>wr) (Nat.lor e (Nat.sub rd (Nat.land rd wr)))
def Du(P:Program):Code→Nat
 | .region _ ops _=>Jr P ops.toList 0 0
 | .seq a b=>Nat.lor (Du P a) (Du P b)
 | .cond c a b=>Nat.lor (Et [c]) (Nat.lor (Du P a) (Du P b))
 | .block _ b | .loop b | .scope b=>Du P b
 | .rangeFunc f ps a b=>Nat.lor (Et [f]) (Nat.lor (ps.toList.foldl (fun m t=>Nat.lor m (fR t)) 0) (Nat.lor (Du P a) (Du P b)))
 | _=>0
def Gy:List ResultVar→Nat
 | []=>0
 | .tmp t::l | .cell t _::l=>Nat.lor (fR t) (Gy l)
def Eh(m:Nat):Nat→Nat→List Nat
 | 0,_=>[]
 | n+1,k=>bif m.testBit k then k::Eh m n (k+1)else Eh m n (k+1)
def Ci(fn:Func):Nat:=fn.params.size+fn.nfree
def Ac(P:Program)(fn:Func):List Tmp:=
 List.range (Ci fn)++match fn.body with
 | none=>[]
 | some c=>Eh (Nat.lor (Du P c) (Gy fn.results.toList)) (fn.ntmps - Ci fn) (Ci fn)
def Ao:List Tmp→Tmp→Option Nat
 | [],_=>none
 | a::l,t=>bif Nat.beq a t then some 0 else (Ao l t).bind fun j=>some (j+1)
def Nk(P:Program)(o:Oper):Bool:=match At P o.op with
 | some (s,_)=>s.isEff
 | none=>true
def Sd(b:Array Nat)(done:Nat)(i:Nat):Bool:=Nat.beq (Nat.land (b.getD i 0) done) (b.getD i 0)
def QE(P:Program)(ops:Array Oper)(b:Array Nat):Nat→Nat→List Nat→List Nat→List Nat
 | 0,_,_,acc=>acc.reverse
 | f+1,done,todo,acc =>
  match todo.find? fun i=>Sd b done i && !Nk P (ops.getD i default)with
  | some i=>QE P ops b f (done+2 ^ i) (todo.filter fun j=>!Nat.beq j i) (i::acc)
  | none=>match todo.find? fun i=>Sd b done i with
   | some i=>QE P ops b f (done+2 ^ i) (todo.filter fun j=>!Nat.beq j i) (i::acc)
   | none=>acc.reverse
def bB(P:Program)(ops:Array Oper):List Nat:=QE P ops (Region.before ops) ops.size 0 (List.range ops.size) []
def FM(P:Program)(o:Oper):List Tmp:=o.dst.toList++((match At P o.op with
 | some (_,xs)=>xs
 | none=>[]).filterMap fun x:Operand=>match x with
  | .tmp t=>some t
  | _=>none)
def SU(o:Oper):List Nat:=match o.guard with
 | some (j,_)=>[j]
 | none=>[]
def NC(P:Program)(ops:Array Oper)(b:Array Nat)(before:List Nat)(i:Nat):Bool:=
 let o:=ops.getD i default
 let anc:=b.getD i 0
 Nat.blt i ops.size && !before.contains i &&
 (List.range ops.size).all (fun j=>!anc.testBit j || before.contains j) &&
 o.after.all (fun e=>!Region.binds .any e || before.contains e.on) &&
 before.all (fun j=>!Nk P (ops.getD j default) || anc.testBit j) &&
 (SU o).all (fun j=>anc.testBit j) &&
 before.all (fun j=>let p:=ops.getD j default
  (match o.dst with
   | none=>true
   | some d=>p.dst != some d && (!(FM P p).contains d || anc.testBit j)) &&
  (match p.dst with
   | none=>true
   | some d=>!(FM P o).contains d || anc.testBit j))
def EH(P:Program)(ops:Array Oper)(b:Array Nat):List Nat→List Nat→Bool
 | before,[]=>Nat.beq before.length ops.size
 | before,i::l=>NC P ops b before i && EH P ops b (before++[i]) l
inductive Iw where
 | push | set (j:Nat)
structure FW where
 guard:Option (CX×Bool)
 sh:Sh
 xs:List CX
 ans:CX
structure AC where
 guard:Option (CX×Bool)
 sh:Sh
 xs:List CX
 dst:Iw
 again:List FW
structure ZO where
 map:List (Tmp×CX)
 cnt:Nat
def Dj:List (Tmp×CX)→Tmp→Option CX
 | [],_=>none
 | (a,x)::l,t=>bif Nat.beq a t then some x else Dj l t
def B2(cnt:Nat):CX→CX
 | .loc p=>.loc (cnt - 1 - p)
 | x=>x
def Dm(vars:List Tmp)(c:ZO)(t:Tmp):Option CX:=
 match Dj c.map t with
 | some x=>some x
 | none=>(Ao vars t).bind fun j=>some (.var j)
def Dk(vars:List Tmp)(c:ZO):Operand→Option CX
 | .tmp t=>Dm vars c t
 | .const v=>(ofValue v).bind fun a=>some (.const a)
 | .global g=>some (.const (.gptr g 0))
 | .func f=>some (.const (.func f [] []))
def Gu(vars:List Tmp)(c:ZO):List Operand→Option (List CX)
 | []=>some []
 | x::l=>(Dk vars c x).bind fun a=>(Gu vars c l).bind fun r=>some (a::r)
def isVar(j:Nat):CX→Bool
 | .var i=>Nat.beq i j
 | _=>false
def HW(j:Nat):List (Tmp×CX)→Bool
 | []=>true
 | (_,x)::l=>!isVar j x && HW j l
def I1(vars:List Tmp)(later:List (Option Tmp))(o:Oper)(x:CX):Bool:=
 (match o.op with | .move _=>true | _=>false) && o.guard.isNone &&
 (match o.dst with | some d=>(Ao vars d).isNone | none=>false) &&
 (match x with
  | .var j=>!(later.any fun d=>match d with
   | some t=>match Ao vars t with
    | some i=>Nat.beq i j
    | none=>false
   | none=>false)
  | _=>true)
def Ew(cnt:Nat):Option (CX×Bool)→Option (CX×Bool)
 | none=>none
 | some (x,b)=>some (B2 cnt x,b)
def Hf(cnt:Nat)(r:FW):FW:={ guard:=Ew cnt r.guard,sh:=r.sh,xs:=r.xs.map (B2 cnt),ans:=B2 cnt r.ans }
def M0(j:Nat)(r:FW):Bool:=(match r.guard with | none=>true | some (x,_)=>!isVar j x) && r.xs.all fun x=>!isVar j x
def Dt(P:Program)(nt:Nat)(vars:List Tmp)(ops:Array Oper)(b:Array Nat)(draw:Bool):List Nat→ZO→List (Nat×FW)→Option (List AC)
  | [],_,_=>some []
  | i::l,c,rs=>(ops[i]?).bind fun o=>(At P o.op).bind fun sh=>(Gu vars c sh.2).bind fun xs =>
    match (match xs with | [x]=>bif I1 vars (l.map fun j=>(ops.getD j default).dst) o x then some x else none | _=>none),o.dst with
    | some x,some d=>AH (Nat.blt d nt) (Dt P nt vars ops b draw l { c with map:=(d,x)::c.map } rs)
    | _,_ =>
      (match o.guard with
        | none=>some none
        | some (j,want)=>(ops[j]?).bind fun p=>p.dst.bind fun d=>(Dm vars c d).bind fun x=>some (some (x,want))).bind fun g =>
      (match o.dst with
        | none=>some (Iw.push,{ c with cnt:=c.cnt+1 })
        | some d=>AH (Nat.blt d nt) <| match Ao vars d with
          | some j=>AH (HW j c.map && rs.all fun r=>M0 j r.2) (some (Iw.set j,c))
          | none=>some (Iw.push,{ map:=(d,.loc c.cnt)::c.map,cnt:=c.cnt+1 })).bind fun q =>
      let ag:=match draw,sh.1.isEff with
        | true,true=>rs.filter fun(r:Nat×FW)=>!(b.getD i 0).testBit r.1
        | _,_=>[]
      let rd:=draw && sh.1.isRead
      AH (!rd || (match q.1 with | .push=>true | .set _=>false)) <|
      (Dt P nt vars ops b draw l q.2 (bif rd then (i,{ guard:=g,sh:=sh.1,xs,ans:=.loc c.cnt })::rs else rs)).bind fun r =>
        some ({ guard:=Ew c.cnt g,sh:=sh.1,xs:=xs.map (B2 c.cnt),dst:=q.1,again:=ag.map fun(r:Nat×FW)=>Hf q.2.cnt r.2 }::r)
structure Ix where
 ad:CX
 rd:AE→AV→Option AV
 jt:Nat
 jok:Nat
 jk:Nat
 id2:Nat
 res:List CX
inductive Ab where
 | skip
 | ops (l:List AC)
 | seq (a b:Ab)
 | cond (x:CX) (a b:Ab)
 | block (id:Nat) (c:Ab)
 | loop (c:Ab)
 | rangeFunc (fn:FuncId) (f:CX) (params:Array Tmp) (assign body:Code)
 | exit (id:Nat)
 | ret
 | never
 | rangeMap (r:Ix) (body:Ab)
structure dr where
 ty:TypeId
 ad:Operand
 tm:Tmp
 it:Tmp
 tn:Tmp
 ok:Tmp
 te:Tmp
 tk:Tmp
 key:Tmp
 id2:Nat
def Dw(o:Oper):Option (Op×Tmp):=match o.guard,o.dst with
 | none,some d=>some (o.op,d)
 | _,_=>none
def Oz:Op→Option (TypeId×Operand)
 | .load t a=>some (t,a)
 | _=>none
def L8:Op→Option (TypeId×Tmp)
 | .range t (.tmp m)=>some (t,m)
 | _=>none
def O0:Op→Option Tmp
 | .next (.tmp i) false=>some i
 | _=>none
def L6:Op→Option Tmp
 | .entry (.tmp i)=>some i
 | _=>none
def Q8:Op→Option Tmp
 | .extract (.tmp n) 0=>some n
 | _=>none
def T3:Op→Option Tmp
 | .assign (.tmp n)=>some n
 | _=>none
def M3:List Oper→Option (TypeId×Operand×Tmp×Tmp)
 | [o0,o1]=>(Dw o0).bind fun p0=>(Dw o1).bind fun p1=>(Oz p0.1).bind fun l=>(L8 p1.1).bind fun r =>
  AH (Nat.beq l.1 r.1 && Nat.beq p0.2 r.2) (some (l.1,l.2,p0.2,p1.2))
 | _=>none
def M5(it:Tmp):List Oper→Option (Tmp×Tmp)
 | [o0,o1]=>(Dw o0).bind fun p0=>(Dw o1).bind fun p1=>(O0 p0.1).bind fun i=>(Q8 p1.1).bind fun n =>
  AH (Nat.beq i it && Nat.beq n p0.2) (some (p0.2,p1.2))
 | _=>none
def KZ(it:Tmp):List Oper→Option (Tmp×Tmp×Tmp)
 | [o0,o1,o2]=>(Dw o0).bind fun p0=>(Dw o1).bind fun p1=>(Dw o2).bind fun p2=>(L6 p0.1).bind fun i=>(Q8 p1.1).bind fun n=>(T3 p2.1).bind fun k =>
  AH (Nat.beq i it && (Nat.beq n p0.2 && Nat.beq k p1.2)) (some (p0.2,p1.2,p2.2))
 | _=>none
def Yq(ops1:Array Oper)(d1:Bool):Code→Option dr
 | .block id (.loop (.seq (.region _ ops2 false) (.seq (.cond (.tmp c) .skip (.exit id')) (.block id2 (.seq (.region _ ops3 false) _))))) =>
  AH (!d1) <| (M3 ops1.toList).bind fun h=>(M5 h.2.2.2 ops2.toList).bind fun n=>(KZ h.2.2.2 ops3.toList).bind fun e =>
   AH (Nat.beq id' id && Nat.beq c n.2) (some ⟨h.1,h.2.1,h.2.2.1,h.2.2.2,n.1,n.2,e.1,e.2.1,e.2.2,id2⟩)
 | _=>none
def Se(P:Program)(f:FuncId)(vars:List Tmp):List CX:=match P.funcs[f]? with
 | some fn=>fn.results.toList.filterMap fun v=>match v with
  | .cell t _=>(Ao vars t).map CX.var
  | _=>none
 | none=>[]
def SF(P:Program)(f:FuncId)(nt:Nat)(vars:List Tmp)(p:dr):Option Ix:=
 (Dk vars ⟨[],0⟩ p.ad).bind fun ad=>(Ao vars p.it).bind fun jt=>(Ao vars p.ok).bind fun jok=>(Ao vars p.key).bind fun jk =>
  AH ((Ao vars p.tm).isNone && ((Ao vars p.tn).isNone && ((Ao vars p.te).isNone && (Ao vars p.tk).isNone))) <|
  AH (Nat.blt p.tm nt && (Nat.blt p.tn nt && (Nat.blt p.te nt && (Nat.blt p.tk nt && (Nat.blt p.it nt && (Nat.blt p.ok nt && Nat.blt p.key nt)))))) <|
  AH (IA P p.ty && (!Nat.beq jt jok && (!Nat.beq jt jk && !Nat.beq jok jk))) (some ⟨ad,fun s a=>AF P s p.ty a,jt,jok,jk,p.id2,Se P f vars⟩)
def GI:Ab→Option Ab
 | .block _ (.loop (.seq _ (.seq _ (.block _ (.seq _ b)))))=>some b
 | _=>none
def Kf(r:Option Ix)(a b:Ab):Ab:=match r with
 | none=>.seq a b
 | some r=>match GI b with
  | some c=>.rangeMap r c
  | none=>.seq a b
def Gf(P:Program)(f:FuncId)(nt:Nat)(vars:List Tmp):Code→Code→Option Ix
 | .region _ ops d,b=>(Yq ops d b).bind (SF P f nt vars)
 | _,_=>none
def cK:Option (List AC)→Ab
 | some l=>.ops l
 | none=>.never
def Aa(P:Program)(fn:FuncId)(nt:Nat)(vars:List Tmp):Code→Ab
 | .skip | .label _=>.skip
 | .ret=>.ret
 | .exit id=>.exit id
 | .goto _ | .refuse _=>.never
 | .region _ ops draw=>match draw with
  | false=>cK (Dt P nt vars ops #[] false (List.range ops.size) ⟨[],0⟩ [])
  | true=>cK (AH (EH P ops (Region.before ops) [] (bB P ops)) (Dt P nt vars ops (Region.before ops) true (bB P ops) ⟨[],0⟩ []))
 | .seq a b=>Kf (Gf P fn nt vars a b) (Aa P fn nt vars a) (Aa P fn nt vars b)
 | .cond c a b=>match Dk vars ⟨[],0⟩ c with
  | some z=>.cond z (Aa P fn nt vars a) (Aa P fn nt vars b)
  | none=>.never
 | .block id c=>.block id (Aa P fn nt vars c)
 | .loop c=>.loop (Aa P fn nt vars c)
 | .scope c=>Aa P fn nt vars c
 | .rangeFunc f ps a b=>match Dk vars ⟨[],0⟩ f with
  | some x=>.rangeFunc fn x ps a b
  | none=>.never
structure Ay where
 na:Nat
 nv:Nat
 body:Ab
 results:List (CX×Option TypeId)
def CJ(vars:List Tmp):List ResultVar→Option (List (CX×Option TypeId))
 | []=>some []
 | .tmp t::l=>(Ao vars t).bind fun j=>(CJ vars l).bind fun r=>some ((.var j,none)::r)
 | .cell t ty::l=>(Ao vars t).bind fun j=>(CJ vars l).bind fun r=>some ((.var j,some ty)::r)
def AS(P:Program)(f:FuncId):Option Ay:=(P.funcs[f]?).bind fun fn=>fn.body.bind fun c =>
 AH (Nat.ble (Ci fn) fn.ntmps) <|
 let vars:=Ac P fn
 (CJ vars fn.results.toList).bind fun r =>
  some { na:=Ci fn,nv:=vars.length,body:=Aa P f fn.ntmps vars c,results:=r }
def If (l:List AV):Nat→AV:=
 List.rec (fun _=>BU) (fun a _ ih i=>Nat.rec a (fun i _=>ih i) i) l
def E3 (v:AV) (l:List AV):Nat→List AV:=
 List.rec (fun _=>[]) (fun a l ih i=>Nat.rec (v::l) (fun i _=>a::ih i) i) l
def CO (loc var:List AV) (x:CX):AV:=
 match x with
 | .loc i=>If loc i
 | .var j=>If var j
 | .const v=>v
def Cs (loc var:List AV) (l:List CX):List AV:=
 List.rec [] (fun x _ ih=>CO loc var x::ih) l
inductive JK where
 | normal | exit (id:Nat) | ret
structure Au where
 exit:JK
 var:List AV
 marks:List Nat
 st:AE
def EV:AV→AV→Bool
 | .bool a,.bool b=>a == b
 | .int k a,.int k' b=>Bn k k' && Ma a b
 | .str a,.str b=>CB a b
 | .ptr none,.ptr none=>true
 | .gptr a b,.gptr c d=>Nat.beq a c && Nat.beq b d
 | .ptr (some (i,o)),.ptr (some (j,p))=>Nat.beq i j && Nat.beq o p
 | .slice none n (some c),.slice none n' (some c')=>Nat.beq n n' && Nat.beq c c'
 | .slice none n none,.slice none n' none=>Nat.beq n n'
 | .slice (some (i,o)) n none,.slice (some (j,p)) n' none=>Nat.beq i j && Nat.beq o p && Nat.beq n n'
 | .slice (some (i,o)) n (some c),.slice (some (j,p)) n' (some c')=>Nat.beq i j && Nat.beq o p && Nat.beq n n' && Nat.beq c c'
 | .map none,.map none=>true
 | .map (some i),.map (some j)=>Nat.beq i j
 | .func f a c,.func g b d=>Nat.beq f g && eqAs a b && eqAs c d
 | .nilFunc,.nilFunc=>true
 | .nilIface,.nilIface=>true
 | .yield i,.yield j=>Nat.beq i j
 | .agg a,.agg b=>eqAs a b
 | .tuple a,.tuple b=>eqAs a b
 | _,_=>false
where
 eqAs:List AV→List AV→Bool
 | [],[]=>true
 | a::x,b::y=>EV a b && eqAs x y
 | _,_=>false
abbrev Do:=FuncId→List AV→AE→Option (AV×AE)
structure Cg where
 P:Program
 nat:Do
structure Cv where
 code:Option Nat→Ab→List AV→List Nat→AE→Option Au
 call:FuncId→List AV→AE→Option (AV×AE)
 round:Nat→List AV→AE→Option (AV×AE)
def Fg(F:Cv)(f:AV)(args:List AV)(s:AE):Option (AV×AE):=
 match f with
 | .func f first cap=>F.call f (first++(args++cap)) s
 | .yield l=>F.round l args s
 | _=>none
def DC(s:AE)(x:Option AV):Option (AV×AE):=match x with
 | some v=>some (v,s)
 | none=>none
def one{α:Type}(f:AV→Option α):List AV→Option α
 | [a]=>f a
 | _=>none
def Dl(sh:Sh)(xs:List AV)(s:AE):Option AV:=
 match sh with
 | .r1 f=>one (f s) xs
 | .r f=>f s xs
 | _=>none
def N1(s:AE)(r:Option (AX×Made)):Option (AV×AE):=match r with
 | some p=>some (p.2.val s.next,newObj s p.1)
 | none=>none
def Ot {α:Type} (f:CX→Option α) (xs:List CX):Option α:=List.rec none (fun x _ _=>f x) xs
def Pw {α:Type} (f:CX→CX→Option α) (xs:List CX):Option α:=Ot (fun x=>Ot (f x) xs.tail) xs
def fZ (f:AV→Option AV) (xs:List CX) (loc var:List AV) (s:AE):Option (AV×AE):=Ot (fun x=>DC s (f (CO loc var x))) xs
def fa (f:AV→AV→Option AV) (xs:List CX) (loc var:List AV) (s:AE):Option (AV×AE):=Pw (fun x y=>DC s (f (CO loc var x) (CO loc var y))) xs
def fb (f:AE→AV→Option AV) (xs:List CX) (loc var:List AV) (s:AE):Option (AV×AE):=Ot (fun x=>DC s (f s (CO loc var x))) xs
def shV (F:Cv) (xs:List CX) (loc var:List AV) (s:AE):Option (AV×AE):=Ot (fun x=>Fg F (CO loc var x) (Cs loc var xs.tail) s) xs
def dV (F:Cv) (sh:Sh) (xs:List CX) (loc var:List AV) (s:AE):Option (AV×AE):=
 match sh with
 | .p1 f=>fZ f xs loc var s
 | .p2 f=>fa f xs loc var s
 | .p f=>DC s (f (Cs loc var xs))
 | .r1 f=>fb f xs loc var s
 | .r f=>DC s (f s (Cs loc var xs))
 | .mk f=>N1 s (f (Cs loc var xs))
 | .e f=>f s (Cs loc var xs)
 | .call f=>F.call f (Cs loc var xs) s
 | .callv=>shV F xs loc var s
def di(want:Bool):AV→Bool
 | .bool b=>b == want
 | _=>false
def BK (loc var:List AV) (g:Option (CX×Bool)):Bool:=
 match g with
 | none=>true
 | some p=>di p.2 (CO loc var p.1)
def dH:AV→Bool
 | .junk=>true
 | _=>false
def Tt (loc var:List AV) (g:Option (CX×Bool)):Bool:=
 match g with
 | none=>false
 | some p=>dH (CO loc var p.1)
def OS(x:Option AV)(v:AV):Bool:=match x with
 | some u=>EV u v
 | none=>false
def E8 (s:AE) (loc var:List AV) (r:FW):Bool:=
 !BK loc var r.guard || OS (Dl r.sh (Cs loc var r.xs) s) (CO loc var r.ans)
def DZ (s:AE) (loc var:List AV) (l:List FW):Bool:=
 List.rec true (fun r _ ih=>E8 s loc var r && ih) l
abbrev Tu:=List AV→List AV→AE→Option (List AV×AE)
def CQ (ag:List FW) (d:Iw) (k:Tu) (loc var:List AV) (v:AV) (s:AE):Option (List AV×AE):=
 match d with
 | .push=>bif DZ s (v::loc) var ag then k (v::loc) var s else none
 | .set j=>bif DZ s loc (E3 v var j) ag then k loc (E3 v var j) s else none
def JD (it:AC) (k:Tu) (loc var:List AV) (r:Option (AV×AE)):Option (List AV×AE):=
 match r with
 | none=>none
 | some p=>CQ it.again it.dst k loc var p.1 p.2
def Id (F:Cv) (it:AC) (k:Tu) (loc var:List AV) (s:AE):Option (List AV×AE):=
 match Tt loc var it.guard with
 | true=>none
 | false=>match BK loc var it.guard with
  | true=>JD it k loc var (dV F it.sh it.xs loc var s)
  | false=>CQ [] it.dst k loc var BU s
def De (F:Cv) (l:List AC):Tu:=
 List.rec (fun _ var s=>some (var,s)) (fun it _ ih loc var s=>Id F it ih loc var s) l
def Ql(l:List AV):Nat→List AV
 | 0=>[]
 | n+1=>match l with
  | []=>BU::Ql [] n
  | a::l=>a::Ql l n
def Bb (P:Program) (s:AE) (var:List AV):List (CX×Option TypeId)→Option (List AV)
 | []=>some []
 | (x,none)::l=>(Bb P s var l).bind fun r=>some (CO [] var x::r)
 | (x,some t)::l=>(AF P s t (CO [] var x)).bind fun v=>(Bb P s var l).bind fun r=>some (v::r)
def BN:List AV→AV
 | [v]=>v
 | l=>.tuple l
def DA(s:AE):List Nat→Option AE
 | []=>some s
 | i::l=>match s.heap.get i with
  | some .mark=>DA (Bu s i) l
  | _=>none
def CZ:JK→Option Code
 | .normal=>none
 | .ret=>some .ret
 | .exit id=>some (.exit id)
def DN (vars:List Tmp) (var:List AV):List Tmp→List AV→Option (List AV)
 | [],[]=>some var
 | t::ts,v::vs=>(Ao vars t).bind fun j=>DN vars (E3 v var j) ts vs
 | _,_=>none
def BZ(s:AE)(l:Nat):Option EN:=match s.heap.get l with
 | some (.loop r)=>some r
 | _=>none
def FC(P:Program)(f:FuncId)(c:Code):Option Ab:=(P.funcs[f]?).bind fun fn=>some (Aa P f fn.ntmps (Ac P fn) c)
def Dg(P:Program)(f:FuncId):List Tmp:=match P.funcs[f]? with
 | some fn=>Ac P fn
 | none=>[]
def Zf(marks:List Nat)(r:Option (List AV×AE)):Option Au:=match r with
 | some p=>some ⟨.normal,p.1,marks,p.2⟩
 | none=>none
def GV(F:Cv)(rnd:Option Nat)(b:Ab)(r:Au):Option Au:=match r.exit with
 | .normal=>F.code rnd b r.var r.marks r.st
 | _=>some r
def HG(F:Cv)(rnd:Option Nat)(b:Ab)(r:Option Au):Option Au:=match r with
 | some r=>GV F rnd b r
 | none=>none
def Ng(F:Cv)(rnd:Option Nat)(a b:Ab)(var:List AV)(marks:List Nat)(s:AE)(v:AV):Option Au:=match v with
 | .bool t=>match t with
  | true=>F.code rnd a var marks s
  | false=>F.code rnd b var marks s
 | _=>none
def I7(id:Nat)(r:Au):Option Au:=match r.exit with
 | .exit id'=>bif Nat.beq id' id then some ⟨.normal,r.var,r.marks,r.st⟩else some r
 | _=>some r
def Ji(id:Nat)(r:Option Au):Option Au:=match r with
 | some r=>I7 id r
 | none=>none
def Fd(var:List AV)(marks:List Nat)(s:AE)(c:Option Code):Option Au:=match c with
 | none=>some ⟨.normal,var,marks,s⟩
 | some .ret=>some ⟨.ret,var,marks,s⟩
 | some (.exit id)=>some ⟨.exit id,var,marks,s⟩
 | some _=>none
def Pz:LoopState→Bool
 | .busy=>true
 | _=>false
def JC:LoopState→Bool
 | .ready=>true
 | _=>false
def GA(var:List AV)(marks:List Nat)(l:Nat)(q:Option (AV×AE)):Option Au:=
 q.bind fun q=>(BZ q.2 l).bind fun r=>bif Pz r.state then none else
  Fd var marks (setObj q.2 l (.loop { r with state:=.exhausted })) r.pending
def EP(F:Cv)(var:List AV)(f:AV)(params:Array Tmp)(assign body:Code)(fn:FuncId)(dfr:Nat)(marks:List Nat)(s:AE):Option Au:=
 GA var marks s.next (Fg { F with round:=fun _ _ _=>none } f [.yield s.next] (newObj s (.loop { state:=.ready,pending:=none,fn,var,params,assign,body,dfr })))
def Jj(F:Cv)(rnd:Option Nat)(fn:FuncId)(f:AV)(params:Array Tmp)(assign body:Code)(var:List AV)(marks:List Nat)(s:AE):Option Au:=
 match rnd with
 | some l=>(BZ s l).bind fun r=>EP F var f params assign body fn r.dfr marks s
 | none=>EP F var f params assign body fn s.next (s.next::marks) (newObj s .mark)
def Xp:AX→Option AX
 | .row r=>some (.row { r with mode:=.ro,par:=none })
 | .map kt es=>some (.mapRo kt es)
 | .mapRo kt es=>some (.mapRo kt es)
 | _=>none
def frz(n:Nat)(h:AB AX):AE:=⟨n,h.mapO Xp⟩
def Ee:AV→Bool
 | .agg _=>false
 | _=>true
def Hi(a b:AV):Bool:=match a,b with
 | .junk,.junk=>true
 | _,_=>EV a b
def Mp:List AV→List AV→Option (List AV)
 | [],[]=>some []
 | a::l,b::m=>(bif Hi a b then some a else AH (Ee a && Ee b) (some .junk)).bind fun c=>(Mp l m).bind fun r=>some (c::r)
 | _,_=>none
def fA(x b:AV):Bool:=Hi x b || (Ee x && Hi .junk b)
def XR:List AV→List AV→Bool
 | [],[]=>true
 | x::l,b::m=>fA x b && XR l m
 | _,_=>false
def GL:List Nat→List Nat→Bool
 | [],[]=>true
 | a::l,b::m=>Nat.beq a b && GL l m
 | _,_=>false
def H5(id2:Nat):JK→Bool
 | .normal=>true
 | .exit i=>Nat.beq i id2
 | .ret=>false
def Lg:AV→Bool
 | .bool _ | .int .. | .str _=>true
 | _=>false
def Yn:List AV→List AV→Option (List AV)
 | [],[]=>some []
 | a::l,x::m=>(bif Lg x || Hi a x then some x else AH (Ee x) (some .junk)).bind fun c=>(Yn l m).bind fun r=>some (c::r)
 | _,_=>none
def K5(var:List AV):List CX→List Nat
 | []=>[]
 | .var j::l=>match var[j]? with
  | some (.ptr (some (i,_)))=>i::K5 var l
  | _=>K5 var l
 | _::l=>K5 var l
def CA(r:B6):Bool:=CS r.mode && (r.par.isNone && r.glob.isNone)
def bT(h:AB AX):List Nat→AB AX→Option (AB AX)
 | [],t=>some t
 | i::l,t=>match h.get i with
  | some (.row r)=>AH (CA r) (bT h l (t.set i (.row r)))
  | _=>none
def dC(W:List Nat)(n:Nat)(h:AB AX):Option AE:=(bT h W (h.mapO Xp)).bind fun t=>some ⟨n,t⟩
def FT(r q:B6):Bool:=Nat.beq q.n r.n && (Nat.beq q.elem r.elem && CS q.mode)
def Ej:List AV→List AV→Bool
 | [],[]=>true
 | a::l,b::m=>(Lg b || Hi a b) && Ej l m
 | _,_=>false
def Lf(s q:AE):List Nat→Bool
 | []=>true
 | i::l=>(match rowAt s i,rowAt q i with
  | some r,some r'=>FT r r' && (match r.c.take 0 r.n,r'.c.take 0 r.n with
   | some a,some b=>EV (.agg a) (.agg b)
   | _,_=>false)
  | _,_=>false) && Lf s q l
def Ta(s q:AE):List Nat→Option (List (List AV))
 | []=>some []
 | i::l=>(rowAt s i).bind fun r=>(rowAt q i).bind fun r'=>AH (FT r r') ((r.c.take 0 r.n).bind fun a=>(r'.c.take 0 r.n).bind fun b=>AH (Ej a b) ((Ta s q l).bind fun m=>some (b::m)))
def Yx(h:AB AX):List Nat→List (List AV)→Option (AB AX)
 | [],[]=>some h
 | i::l,C::m=>match h.get i with
  | some (.row r)=>Yx (h.set i (.row { r with c:=r.c.fill 0 C })) l m
  | _=>none
 | _,_=>none
def fC:List (List AV)→List (List AV)→Bool
 | [],[]=>true
 | a::l,b::m=>EV (.agg a) (.agg b) && fC l m
 | _,_=>false
inductive Ly where
 | go
 | ret (X:List AV) (M:List (List AV))
def X3 (l:List AC):List Nat:=List.rec [] (fun it _ ih=>match it.dst with
 | .set j=>j::ih
 | .push=>ih) l
def Ip:Ab→Option (List Nat)
 | .ops l=>some (X3 l)
 | .seq a b=>(Ip a).bind fun x=>(Ip b).bind fun y=>some (x++y)
 | .cond _ a b=>(Ip a).bind fun x=>(Ip b).bind fun y=>some (x++y)
 | .block _ c=>Ip c
 | .loop c=>Ip c
 | .rangeFunc ..=>none
 | .rangeMap r c=>(Ip c).bind fun x=>some (r.jt::r.jok::r.jk::x)
 | _=>some []
def Mh:List Nat→List AV→Option (List AV)
 | [],A=>some A
 | j::l,A=>AH (Ee (If A j)) (Mh l (E3 .junk A j))
def C6 (F:Cv) (rnd:Option Nat) (r:Ix) (body:Ab) (A:List AV) (W:List Nat) (marks:List Nat) (s:AE) (k:AV):Option Ly:=
 (F.code rnd body (E3 k (E3 (.bool true) A r.jok) r.jk) marks s).bind fun q=>AH (GL q.marks marks) (match q.exit with
  | .ret=>(Yn A q.var).bind fun X=>(Ta s q.st W).bind fun M=>some (.ret X M)
  | e=>AH (H5 r.id2 e && (XR q.var A && Lf s q.st W)) (some .go))
def FP (f:AV→Option Ly) (R:Option (List AV×List (List AV))):List (AV×AV)→Option (Option (List AV×List (List AV)))
 | []=>some R
 | e::l=>(f e.1).bind fun o=>match o with
  | .go=>FP f R l
  | .ret X M=>match R with
   | none=>FP f (some (X,M)) l
   | some Y=>AH (fC Y.2 M) ((Mp Y.1 X).bind fun Z=>FP f (some (Z,Y.2)) l)
def Ka (F:Cv) (rnd:Option Nat) (r:Ix) (body:Ab) (it:AV) (marks:List Nat) (n:Nat) (h:AB AX) (A0:List AV) (l:List (AV×AV)):Option Au:=
 (Ip body).bind fun J=>(Mh (r.jok::r.jk::J) A0).bind fun A=>AH (EV (If A r.jt) it && EV (If A0 r.jt) it)
  ((dC (K5 A0 r.res) n h).bind fun s=>(FP (C6 F rnd r body A (K5 A0 r.res) marks s) none l).bind fun R=>match R with
   | none=>some ⟨.normal,E3 (.bool false) A r.jok,marks,⟨n,h⟩⟩
   | some Z=>(Yx h (K5 A0 r.res) Z.2).bind fun h'=>some ⟨.ret,Z.1,marks,⟨n,h'⟩⟩)
def SY(s:AE):AV→Option (List (AV×AV))
 | .map (some i)=>match s.heap.get i with
  | some (.map _ es)=>some es
  | some (.mapRo _ es)=>some es
  | _=>none
 | _=>none
def Zg (F:Cv) (rnd:Option Nat) (r:Ix) (body:Ab) (var:List AV) (marks:List Nat) (s:AE):Option Au:=
 (r.rd s (CO [] var r.ad)).bind fun m=>(SY s m).bind fun es =>
  Ka F rnd r body (.ptr (some (s.next,0))) marks (s.next+1) s.heap (E3 (.ptr (some (s.next,0))) var r.jt) es
def CG (F:Cv) (rnd:Option Nat) (c:Ab) (var:List AV) (marks:List Nat) (s:AE):Option Au:=
 match c with
 | .skip=>some ⟨.normal,var,marks,s⟩
 | .ret=>some ⟨.ret,var,marks,s⟩
 | .exit id=>some ⟨.exit id,var,marks,s⟩
 | .never=>none
 | .ops l=>Zf marks (De F l [] var s)
 | .seq a b=>HG F rnd b (F.code rnd a var marks s)
 | .cond x a b=>Ng F rnd a b var marks s (CO [] var x)
 | .block id body=>Ji id (F.code rnd body var marks s)
 | .loop body=>HG F rnd (.loop body) (F.code rnd body var marks s)
 | .rangeFunc fn f params assign body=>Jj F rnd fn (CO [] var f) params assign body var marks s
 | .rangeMap r body=>Zg F rnd r body var marks s
def SV:JK→Bool
 | .normal | .ret=>true
 | .exit _=>false
def I8 (P:Program) (cf:Ay) (r:Option Au):Option (AV×AE):=
 r.bind fun r=>bif SV r.exit then (DA r.st r.marks).bind fun s=>(Bb P s r.var cf.results).bind fun l=>some (BN l,s)else none
def Fe (P:Program) (F:Cv) (args:List AV) (s:AE) (cf:Option Ay):Option (AV×AE):=
 cf.bind fun cf=>bif Nat.beq args.length cf.na then I8 P cf (F.code none cf.body (Ql args cf.nv) [] s)else none
def Gh (E:Cg) (F:Cv) (f:FuncId) (args:List AV) (s:AE):Option (AV×AE):=
 match E.nat f args s with
 | some p=>some p
 | none=>Fe E.P F args s (AS E.P f)
def Fl:JK→Bool
 | .normal=>true
 | _=>false
def GN:Option Code→LoopState
 | none=>.ready
 | some _=>.done
def Hg(l:Nat)(q:Option Au):Option (AV×AE):=q.bind fun q=>(BZ q.st l).bind fun r =>
 some (.bool (CZ q.exit).isNone,setObj q.st l (.loop { r with state:=GN (CZ q.exit),pending:=CZ q.exit }))
def GJ(F:Cv)(l:Nat)(cb:Ab)(q:Option Au):Option (AV×AE):=q.bind fun q=>bif Fl q.exit then
  (BZ q.st l).bind fun r=>bif JC r.state then Hg l (F.code (some l) cb q.var q.marks (setObj q.st l (.loop { r with state:=.busy })))else none
 else none
def Is (E:Cg) (F:Cv) (l:Nat) (args:List AV) (s:AE):Option (AV×AE):=
 (BZ s l).bind fun r=>(DN (Dg E.P r.fn) r.var r.params.toList args).bind fun var =>
  (FC E.P r.fn r.assign).bind fun ca=>(FC E.P r.fn r.body).bind fun cb=>GJ F l cb (F.code (some l) ca var [] s)
def fI:Cv:=⟨fun _ _ _ _ _=>none,fun _ _ _=>none,fun _ _ _=>none⟩
def fG (E:Cg) (F:Cv):Cv:=⟨CG F,Gh E F,Is E F⟩
def Ct (E:Cg) (n:Nat):Cv:=Nat.rec fI (fun _ F=>fG E F) n
structure RB where
 b:Nat
 off:Nat
 N:Nat
 sz:Nat
abbrev A4:=Nat→Option RB
mutual
inductive AL (ρ:A4):AV→Value→Prop
 | bool (b:Bool):AL ρ (.bool b) (.bool b)
 | int (k:IntKind) (n:Int):AL ρ (.int k n) (.int k n)
 | str {l:List Nat} {s:ByteArray} (h:s.data.toList.map (fun(b:UInt8)=>b.toNat)=l):AL ρ (.str l) (.string s)
 | ptrNil:AL ρ (.ptr none) (.pointer none)
 | ptr {i o:Nat} {rb:RB} (h:ρ i=some rb):AL ρ (.ptr (some (i,o))) (.pointer (some ⟨rb.b,rb.off+o,none⟩))
 | gptr (g o:Nat):AL ρ (.gptr g o) (.pointer (some ⟨g,o,none⟩))
 | sliceNil:AL ρ (.slice none 0 (some 0)) (.slice none 0 0)
 | slice {i o len c:Nat} {rb:RB} (h:ρ i=some rb) (hl:len≤c):AL ρ (.slice (some (i,o)) len (some c)) (.slice (some ⟨rb.b,rb.off+o,none⟩) len c)
 | sliceOpen {i o len c:Nat} {rb:RB} (h:ρ i=some rb) (hs:0<rb.sz) (hl:len≤c) (h1:o+c * rb.sz≤rb.N) (h2:rb.N<o+(c+1) * rb.sz):
   AL ρ (.slice (some (i,o)) len none) (.slice (some ⟨rb.b,rb.off+o,none⟩) len c)
 | sliceEnd {i o:Nat} {rb:RB} {a:Addr} (h:ρ i=some rb) (hs:0<rb.sz) (h1:o≤rb.N) (h2:rb.N<o+rb.sz):
   AL ρ (.slice (some (i,o)) 0 none) (.slice (some a) 0 0)
 | mapNil:AL ρ (.map none) (.map none)
 | map {i:Nat} {rb:RB} (h:ρ i=some rb):AL ρ (.map (some i)) (.map (some rb.b))
 | func {f:FuncId} {a c:List AV} {a' c':Array Value} (ha:AK ρ a a'.toList) (hc:AK ρ c c'.toList):AL ρ (.func f a c) (.func (.func f) a' c')
 | yield {i:Nat} {rb:RB} (h:ρ i=some rb):AL ρ (.yield i) (.func (.yield rb.b) #[] #[])
 | nilFunc:AL ρ .nilFunc .nilFunc
 | nilIface:AL ρ .nilIface .nilIface
 | iface {t:TypeId} {v:AV} {v':Value} (h:AL ρ v v'):AL ρ (.iface t v) (.iface t v')
 | agg {cs:List AV} {cs':Array Value} (h:AK ρ cs cs'.toList):AL ρ (.agg cs) (.agg cs')
 | tuple {cs:List AV} {cs':Array Value} (h:AK ρ cs cs'.toList):AL ρ (.tuple cs) (.tuple cs')
 | any {v':Value} (h:v'.cells.toList=[v']):AL ρ .junk v'
inductive AK (ρ:A4):List AV→List Value→Prop
 | nil:AK ρ [] []
 | cons {v:AV} {v':Value} {l:List AV} {l':List Value} (h:AL ρ v v') (hs:AK ρ l l'):AK ρ (v::l) (v'::l')
end
def A4.le(ρ σ:A4):Prop:=∀i rb,ρ i=some rb→σ i=some rb
theorem A4.le_refl(ρ:A4):ρ.le ρ:=fun _ _ h=>h
theorem A4.le_trans{ρ σ τ:A4}(h:ρ.le σ)(k:σ.le τ):ρ.le τ:=fun i rb e=>k i rb (h i rb e)
mutual
theorem AL.mono{ρ σ:A4}(le:ρ.le σ){v:AV}{v':Value}(h:AL ρ v v'):AL σ v v':=by
 cases h with
 | bool b=>exact .bool b
 | int k n=>exact .int k n
 | str h=>exact .str h
 | ptrNil=>exact .ptrNil
 | ptr h=>exact .ptr (le _ _ h)
 | gptr g o=>exact .gptr g o
 | sliceNil=>exact .sliceNil
 | slice h hl=>exact .slice (le _ _ h) hl
 | sliceOpen h hs hl h1 h2=>exact .sliceOpen (le _ _ h) hs hl h1 h2
 | sliceEnd h hs h1 h2=>exact .sliceEnd (le _ _ h) hs h1 h2
 | mapNil=>exact .mapNil
 | map h=>exact .map (le _ _ h)
 | func ha hc=>exact .func (AK.mono le ha) (AK.mono le hc)
 | yield h=>exact .yield (le _ _ h)
 | nilFunc=>exact .nilFunc
 | nilIface=>exact .nilIface
 | iface h=>exact .iface (AL.mono le h)
 | agg h=>exact .agg (AK.mono le h)
 | tuple h=>exact .tuple (AK.mono le h)
 | any h=>exact .any h
theorem AK.mono{ρ σ:A4}(le:ρ.le σ){v:List AV}{v':List Value}(h:AK ρ v v'):AK σ v v':=by
 cases h with
 | nil=>exact .nil
 | cons h hs=>exact .cons (AL.mono le h) (AK.mono le hs)
end
section lists
variable{ρ:A4}
theorem AK.length{l:List AV}{l':List Value}(h:AK ρ l l'):l.length=l'.length:=by
 induction l generalizing l' with
 | nil=>cases h;rfl
 | cons a l ih=>cases h with | cons h hs=>simp[ih hs]
theorem AK.get{l:List AV}{l':List Value}(h:AK ρ l l'){k:Nat}{v:AV}(hk:l[k]? = some v):∃v',l'[k]? = some v'∧AL ρ v v':=by
  induction l generalizing l' k with
  | nil=>simp at hk
  | cons a l ih =>
    cases h with
    | cons h hs =>
      cases k with
      | zero=>simp at hk;subst hk;exact⟨_,rfl,h⟩
      | succ k=>simp at hk;obtain⟨v',h1,h2⟩:=ih hs hk;exact⟨v',by simpa using h1,h2⟩
theorem AK.of_get{l:List AV}{l':List Value}(hl:l.length=l'.length)(h:∀ (k:Nat)(v:AV)(v':Value),l[k]? = some v→l'[k]? = some v'→AL ρ v v'):AK ρ l l':=by
  induction l generalizing l' with
  | nil=>cases l' with | nil=>exact .nil | cons=>simp at hl
  | cons a l ih =>
    cases l' with
    | nil=>simp at hl
    | cons a' l'=>exact .cons (h 0 a a' rfl rfl) (ih (by simpa using hl) fun k v v' h1 h2=>h (k+1) v v' (by simpa using h1) (by simpa using h2))
theorem AK.append{l m:List AV}{l' m':List Value}(h:AK ρ l l')(k:AK ρ m m'):AK ρ (l++m) (l'++m'):=by
 induction l generalizing l' with
 | nil=>cases h;exact k
 | cons a l ih=>cases h with | cons h hs=>exact .cons h (ih hs)
theorem AK.take{l:List AV}{l':List Value}(h:AK ρ l l')(n:Nat):AK ρ (l.take n) (l'.take n):=by
  induction l generalizing l' n with
  | nil=>cases h;simp;exact .nil
  | cons a l ih =>
    cases h with
    | cons h hs=>cases n with
      | zero=>exact .nil
      | succ n=>exact .cons h (ih hs n)
theorem AK.drop{l:List AV}{l':List Value}(h:AK ρ l l')(n:Nat):AK ρ (l.drop n) (l'.drop n):=by
  induction l generalizing l' n with
  | nil=>cases h;simp;exact .nil
  | cons a l ih =>
    cases h with
    | cons h hs=>cases n with
      | zero=>exact .cons h hs
      | succ n=>exact ih hs n
theorem AL.cells{v:AV}{v':Value}(h:AL ρ v v'):AK ρ v.cells v'.cells.toList:=by
 cases h with
 | agg h=>exact h
 | bool b=>exact .cons (.bool b) .nil
 | int k n=>exact .cons (.int k n) .nil
 | str h=>exact .cons (.str h) .nil
 | ptrNil=>exact .cons .ptrNil .nil
 | ptr h=>exact .cons (.ptr h) .nil
 | gptr g o=>exact .cons (.gptr g o) .nil
 | sliceNil=>exact .cons .sliceNil .nil
 | slice h hl=>exact .cons (.slice h hl) .nil
 | sliceOpen h hs hl h1 h2=>exact .cons (.sliceOpen h hs hl h1 h2) .nil
 | sliceEnd h hs h1 h2=>exact .cons (.sliceEnd h hs h1 h2) .nil
 | mapNil=>exact .cons .mapNil .nil
 | map h=>exact .cons (.map h) .nil
 | func ha hc=>exact .cons (.func ha hc) .nil
 | yield h=>exact .cons (.yield h) .nil
 | nilFunc=>exact .cons .nilFunc .nil
 | nilIface=>exact .cons .nilIface .nil
 | iface h=>exact .cons (.iface h) .nil
 | tuple h=>exact .cons (.tuple h) .nil
 | any h=>rw[h];exact .cons (.any h) .nil
theorem AL.oneCell{v:AV}{v':Value}(h:AL ρ v v')(hc:v.isCell=true):v'.oneCell'=true:=by
 cases h<;>first | rfl | cases hc
theorem AK.oneCell{l:List AV}{l':List Value}(h:AK ρ l l')(hc:Aq l=true):∀v∈l',v.oneCell'=true:=by
  induction l generalizing l' with
  | nil=>cases h;simp
  | cons a l ih =>
    cases h with
    | cons h hs =>
      simp only[Aq,Bool.and_eq_true]at hc
      intro v hv
      rcases hZ.1 hv with rfl | hv
      · exact h.oneCell hc.1
      · exact ih hs hc.2 v hv
end lists
theorem HZ(ρ:A4){v:Value}{a:AV}(h:HY v=some a):AL ρ a v:=by
 unfold HY at h
 split at h<;>first
  | (injection h with h;subst h;first | exact .bool _ | exact .int _ _ | exact .str rfl | exact .ptrNil | exact .sliceNil | exact .mapNil | exact .nilFunc | exact .nilIface)
  | cases h
theorem Eb(ρ:A4):∀ {l:List Value}{r:List AV},D2 l=some r→AK ρ r l
 | [],r,h=>by simp[D2]at h;subst h;exact .nil
 | v::l,r,h=>by
  simp only[D2,ft]at h
  obtain⟨a,ha,r',hr,h⟩:=h
  injection h with h;subst h
  exact .cons (HZ ρ ha) (Eb ρ hr)
theorem Bi(ρ:A4){v:Value}{a:AV}(h:ofValue v=some a):AL ρ a v:=by
 unfold ofValue at h
 split at h
 ·simp only[ft]at h
  obtain⟨l,hl,h⟩:=h
  injection h with h;subst h
  exact .agg (Eb ρ hl)
 ·simp only[ft]at h
  obtain⟨l,hl,h⟩:=h
  injection h with h;subst h
  exact .tuple (Eb ρ hl)
 ·exact HZ ρ h
theorem Cq(ρ:A4):AL ρ BU undef:=.tuple .nil
theorem AA{α:Type}{b:Bool}{x:Option α}{a:α}(h:AH b x=some a):b=true∧x=some a:=by
 cases b with
 | true=>exact⟨rfl,h⟩
 | false=>cases h
inductive CI (ρ:A4):List (AV×AV)→List MapEntry→Prop
 | nil:CI ρ [] []
 | cons {k v:AV} {e:MapEntry} {l:List (AV×AV)} {l':List MapEntry} (hk:AL ρ k e.key) (hv:AL ρ v e.val) (hs:CI ρ l l'):CI ρ ((k,v)::l) (e::l')
theorem CI.mono{ρ σ:A4}(le:ρ.le σ){l:List (AV×AV)}{l':List MapEntry}(h:CI ρ l l'):CI σ l l':=by
 induction h with
 | nil=>exact .nil
 | cons hk hv _ ih=>exact .cons (hk.mono le) (hv.mono le) ih
theorem CI.length{ρ:A4}{l:List (AV×AV)}{l':List MapEntry}(h:CI ρ l l'):l.length=l'.length:=by
 induction h with
 | nil=>rfl
 | cons _ _ _ ih=>simp[ih]
structure GU(P:Program)(ρ:A4)(w:World)(kt:TypeId)(es:List (AV×AV))(rb:RB):Prop where
 ex:∃ (es':Array MapEntry) (clock:Nat),w.heap[rb.b]? = some (.map es' clock)∧MapKept.Stamped es' clock∧(∃l,l.Perm es'.toList∧CI ρ es l)∧∀e∈es'.toList,∃l,keyOf P kt e.key=some l
structure BF(ρ:A4)(w:World)(r:B6)(rb:RB):Prop where
 cells:∀k v,k<r.n→r.c.get k=some v→∃v',w.cell? ⟨rb.b,rb.off+k,none⟩=some v'∧AL ρ v v'
 le:r.n≤rb.N
 sz:r.sz=rb.sz
 tight:r.spare=false→rb.N=r.n
 own:r.mode≠.ro→∃cs,w.heap[rb.b]? = some (.cells cs r.elem (0,0))∧rb.off+rb.N≤cs.size
 base:r.bytes=true→rb.off=0
 gl:∀g,r.glob=some g→rb.b=g∧rb.off=0
 par:∀p,r.par=some p→∃rp,ρ p=some rp
def DP(ρ:A4)(vars:List Tmp)(var:List AV)(tmps:Array Value):Prop:=
 ∀ (t:Tmp) (k:Nat),Ao vars t=some k→t<tmps.size∧∃v:AV,var[k]? = some v∧AL ρ v (tmps.getD t undef)
end
end Go.Proofs.YtfgmceookgelcaaGreatDoor.Am
set_option linter.unusedVariables false
set_option linter.unusedSimpArgs false
namespace Go.Proofs.YtfgmceookgelcaaGreatDoor.Am
open Go
noncomputable section
theorem Ex{α:Type}{P:Program}{w:World}:∀ {s:Sem α}{a:α},C7 P s=some a→s.run P w=.ok a w:=by
 intro s
 induction s with
 | pure b=>intro a h;simp[C7]at h;subst h;rfl
 | program k ih=>intro a h;simp only[C7]at h;simp only[Sem.run];exact ih P h
 | mark m k ih=>intro a h;simp only[C7]at h;simp only[Sem.run];exact ih h
 | load=>intro a h;simp[C7]at h
 | store=>intro a h;simp[C7]at h
 | new=>intro a h;simp[C7]at h
 | shape=>intro a h;simp[C7]at h
 | freeze=>intro a h;simp[C7]at h
 | frozen=>intro a h;simp[C7]at h
 | getObj=>intro a h;simp[C7]at h
 | setObj=>intro a h;simp[C7]at h
 | choose=>intro a h;simp[C7]at h
 | sys=>intro a h;simp[C7]at h
 | halt=>intro a h;simp[C7]at h
section types
variable{P:Program}{w:World}{t:TypeId}
theorem AG{d:TypeDesc}(h:P.underlying t=some d):(underlying t).run P w=.ok d w:=by simp[underlying,h]
theorem GK{g:Bool}(h:EM P t=some g):(isAgg t).run P w=.ok g w:=by
 unfold EM at h
 split at h
 ·injection h with h;subst h;simp[isAgg,underlying, *]
 ·injection h with h;subst h;simp[isAgg,underlying, *]
 ·rename_i d _ _ hd
  injection h with h;subst h
  simp only[isAgg,Sem.run_bind,AG hd,Result.andThen_ok]
  cases d<;>simp_all
 ·cases h
theorem Ap{n:Nat}(h:A2 P t=some n):(sizeOf t).run P w=.ok n w:=by
 unfold A2 at h
 split at h
 ·injection h with h;subst h;simp[sizeOf,typeInfo, *]
 ·cases h
theorem Te{n:Nat}(h:Cz P t=some n):∃i,(typeInfo t).run P w=.ok i w∧i.bytes=n:=by
 unfold Cz at h
 split at h
 ·injection h with h;rename_i i hi;exact⟨i,by simp[typeInfo,hi],h⟩
 ·cases h
theorem Hh(ρ:A4){z:AV}(h:DW P t=some z):∃v,(zeroValue t).run P w=.ok v w∧AL ρ z v:=by
  unfold DW at h
  split at h
  · split at h
    · rename_i i hi _ v hv
      exact⟨v,by simp[zeroValue,typeInfo,hi,hv],Bi ρ h⟩
    · cases h
  · cases h
end types
theorem JJ{k:IntKind}{n:Int}(h:BY k n=true):k.wrap n=n:=by
 have hb:k.min≤n∧n≤k.max:=by
  unfold BY at h
  cases n with
  | ofNat m=>cases k<;>simp[fw]at h<;>simp[IntKind.min,IntKind.max,IntKind.signed,IntKind.bits]<;>omega
  | negSucc m=>cases k<;>simp[fw]at h<;>simp[IntKind.min,IntKind.max,IntKind.signed,IntKind.bits]<;>omega
 cases k<;>simp[IntKind.min,IntKind.max,IntKind.signed,IntKind.bits]at hb<;>simp only[IntKind.wrap,IntKind.signed,IntKind.bits]<;>simp<;>omega
theorem F6(k:IntKind)(n:Int):CN k n=k.wrap n:=by
 unfold CN
 cases h:BY k n with
 | true=>simp[JJ h]
 | false=>rfl
theorem CV(a b:Int):Kw a b=decide (a<b):=by
 cases a with
 | ofNat a=>cases b with
  | ofNat b=>rw[Bool.eq_iff_iff];simp only[Kw,gE,decide_eq_true_iff,iU];omega
  | negSucc b=>simp only[Kw];rw[eq_comm,decide_eq_false_iff_not];simp only[iU];omega
 | negSucc a=>cases b with
  | ofNat b=>simp only[Kw];rw[eq_comm,decide_eq_true_iff];simp only[iU];omega
  | negSucc b=>rw[Bool.eq_iff_iff];simp only[Kw,gE,decide_eq_true_iff];omega
theorem EW(a b:Int):Ma a b=(a == b):=by
 rw[Bool.eq_iff_iff,beq_iff_eq]
 cases a with
 | ofNat a=>cases b with
  | ofNat b=>simp only[Ma,gu,iU];omega
  | negSucc b=>simp[Ma]
 | negSucc a=>cases b with
  | ofNat b=>simp[Ma]
  | negSucc b=>simp only[Ma,gu];omega
theorem CK{k k':IntKind}(h:Bn k k'=true):k=k':=by cases k<;>cases k'<;>first | rfl | cases h
theorem YL{n:Int}{m:Nat}(h:Sa n=some m):n=(m:Int):=by cases n<;>simp[Sa]at h;subst h;rfl
theorem Xw{P:Program}{ρ:A4}{op:BinOp}{k:IntKind}{a b:Int}{v:AV}(h:Xv P op k a b=some v)(t:TypeId)(w:World):
  ∃v',(Go.binOp op t (.int k a) (.int k b)).run P w=.ok v' w∧AL ρ v v':=by
 unfold Xv at h
 split at h
 case h_1=>injection h with h;subst h;exact⟨.int k (k.wrap (a+b)),by simp[Go.binOp,Op.intArith],by rw[F6];exact .int _ _⟩
 case h_2=>injection h with h;subst h;exact⟨.int k (k.wrap (a - b)),by simp[Go.binOp,Op.intArith],by rw[F6];exact .int _ _⟩
 case h_3=>injection h with h;subst h;exact⟨.int k (k.wrap (a * b)),by simp[Go.binOp,Op.intArith],by rw[F6];exact .int _ _⟩
 case h_4=>injection h with h;subst h;exact⟨.bool (a == b),by simp[Go.binOp,Op.intCmp],by rw[EW];exact .bool _⟩
 case h_5=>injection h with h;subst h;exact⟨.bool (a != b),by simp[Go.binOp,Op.intCmp],by rw[EW];exact .bool _⟩
 case h_6=>injection h with h;subst h;exact⟨.bool (a<b),by simp[Go.binOp,Op.intCmp],by rw[CV];exact .bool _⟩
 case h_7=>injection h with h;subst h;exact⟨.bool (a≤b),by simp[Go.binOp,Op.intCmp],by rw[CV,show(!decide (b<a))=decide (a≤b)from by rw[Bool.eq_iff_iff];simp];exact .bool _⟩
 case h_8=>injection h with h;subst h;exact⟨.bool (a > b),by simp[Go.binOp,Op.intCmp],by rw[CV];exact .bool _⟩
 case h_9=>injection h with h;subst h;exact⟨.bool (a≥b),by simp[Go.binOp,Op.intCmp],by rw[CV,show(!decide (a<b))=decide (a≥b)from by rw[Bool.eq_iff_iff];simp];exact .bool _⟩
 case h_10 =>
  simp only[ft]at h
  obtain⟨u,hu,h⟩:=h
  exact⟨u,by have:=Ex (w:=w) hu;simpa[Go.binOp]using this,Bi ρ h⟩
 case h_11 =>
  simp only[ft]at h
  obtain⟨u,hu,h⟩:=h
  exact⟨u,by have:=Ex (w:=w) hu;simpa[Go.binOp]using this,Bi ρ h⟩
 case h_12=>cases h
 case h_13=>cases h
 case h_14 =>
  simp only[ft]at h
  obtain⟨u,hu,h⟩:=h
  refine⟨u,?_,Bi ρ h⟩
  have:=Ex (w:=w) hu
  rename_i n1 n2 n3 n4 n5 n6 n7 n8 n9 n10 n11 n12 n13
  cases op<;>first | (exfalso;simp at *;done) | simpa[Go.binOp]using this
abbrev C3(l:List UInt8):List Nat:=l.map (fun(b:UInt8)=>b.toNat)
theorem toNat_inj{a b:UInt8}(h:a.toNat=b.toNat):a=b:=UInt8.toNat_inj.1 h
theorem G3:∀ (x y:List UInt8),CB (C3 x) (C3 y)=(x == y)
 | [],[]=>rfl
 | [],_::_=>rfl
 | _::_,[]=>rfl
 | a::x,b::y=>by
  simp only[C3,gN,CB]
  by_cases e:a=b
  ·subst e
   have:Nat.beq a.toNat a.toNat=true:=by simp[gu]
   rw[this]
   have ih:=G3 x y
   simp only[C3]at ih
   simp[ih]
  ·have:Nat.beq a.toNat b.toNat=false:=AB.beq_no (fun h=>e (toNat_inj h))
   rw[this]
   simp[e]
theorem Km:∀ (x y:List UInt8),F1 (C3 x) (C3 y)=Op.bytesLess x y
 | [],[]=>rfl
 | [],_::_=>rfl
 | _::_,[]=>rfl
 | a::x,b::y=>by
  simp only[C3,gN,F1,Op.bytesLess]
  have ih:=Km x y
  simp only[C3]at ih
  have h1:Nat.blt a.toNat b.toNat=decide (a<b):=by rw[Bool.eq_iff_iff];simp[gE,UInt8.lt_iff_toNat_lt]
  have h2:Nat.beq a.toNat b.toNat=(a == b):=by
   rw[Bool.eq_iff_iff,beq_iff_eq,gu]
   exact⟨fun h=>toNat_inj h,fun h=>by rw[h]⟩
  rw[h1,h2,ih]
  cases decide (a<b)<;>cases (a == b)<;>rfl
theorem Ez(s:ByteArray):(C3 s.data.toList).length=s.size:=by simp[C3]
theorem Y2{P:Program}{ρ:A4}{op:BinOp}{x y:ByteArray}{v:AV}(h:Sk op (C3 x.data.toList) (C3 y.data.toList)=some v)(w:World):
  ∃v',(Op.stringOp op x y).run P w=.ok v' w∧AL ρ v v':=by
 unfold Sk at h
 rw[G3,Km,Ez,Ez]at h
 unfold Op.stringOp
 rw[ByteArray.toList_eq,ByteArray.toList_eq]
 split at h
 case h_1 =>
  obtain⟨hb,h⟩:=AA h
  injection h with h;subst h
  have hb':x.size+y.size≤1152921504606846976:=by simpa[fw]using hb
  refine⟨.string (x++y),?_,.str (by simp[C3])⟩
  have:¬ ((x.size+y.size:Nat):Int) > IntKind.i64.max:=by simp[IntKind.max,IntKind.signed,IntKind.bits];omega
  simp only[this,if_false]
  rfl
 case h_2=>injection h with h;subst h;exact⟨_,rfl,.bool _⟩
 case h_3=>injection h with h;subst h;exact⟨_,rfl,.bool _⟩
 case h_4=>injection h with h;subst h;exact⟨_,rfl,.bool _⟩
 case h_5=>injection h with h;subst h;exact⟨_,rfl,.bool _⟩
 case h_6=>injection h with h;subst h;exact⟨_,rfl,.bool _⟩
 case h_7=>injection h with h;subst h;exact⟨_,rfl,.bool _⟩
 case h_8=>cases h
section
variable{P:Program}{ρ:A4}{w:World}
theorem Ic{t:TypeId}(h:Fm P t=true):∃e,P.underlying t=some (.pointer e):=by
 unfold Fm at h;split at h
 ·rename_i e he;exact⟨e,he⟩
 ·cases h
theorem GY{t:TypeId}(h:HQ P t=true):∃e,P.underlying t=some (.slice e):=by
 unfold HQ at h;split at h
 ·rename_i e he;exact⟨e,he⟩
 ·cases h
theorem Ib{t:TypeId}(h:IA P t=true):∃k e,P.underlying t=some (.map k e):=by
 unfold IA at h;split at h
 ·rename_i k e he;exact⟨k,e,he⟩
 ·cases h
theorem FE{t:TypeId}(h:HP P t=true):∃a b c,P.underlying t=some (.func a b c):=by
 unfold HP at h;split at h
 ·rename_i a b c he;exact⟨a,b,c,he⟩
 ·cases h
theorem Mg{t:TypeId}(h:Mf P t=true):P.underlying t=some .bool:=by
 unfold Mf at h;split at h
 ·rename_i he;exact he
 ·cases h
set_option maxHeartbeats 1000000 in
theorem ck{t:TypeId}{x y:AV}{x' y':Value}{b:Bool}(h:aT P t x y=some b)(hx:AL ρ x x')(hy:AL ρ y y')(d:Nat):
  (Op.equalIn (d+1) t x' y').run P w=.ok b w:=by
 unfold aT at h
 split at h
 all_goals first | (cases h;done) | skip
 ·obtain⟨ht,h⟩:=AA h
  injection h with h;subst h
  cases hx;cases hy
  simp[Op.equalIn,AG (Mg ht)]
 ·obtain⟨ht,h⟩:=AA h
  injection h with h;subst h
  obtain⟨e,ht⟩:=Ic ht
  cases hx;cases hy<;>simp[Op.equalIn,AG ht]
 ·obtain⟨ht,h⟩:=AA h
  injection h with h;subst h
  obtain⟨e,ht⟩:=Ic ht
  cases hy;cases hx<;>simp[Op.equalIn,AG ht]
 ·obtain⟨ht,h⟩:=AA h
  injection h with h;subst h
  obtain⟨e,ht⟩:=GY ht
  cases hx;cases hy<;>simp[Op.equalIn,AG ht]
 ·obtain⟨ht,h⟩:=AA h
  injection h with h;subst h
  obtain⟨e,ht⟩:=GY ht
  cases hy;cases hx<;>simp[Op.equalIn,AG ht]
 ·obtain⟨ht,h⟩:=AA h
  injection h with h;subst h
  obtain⟨k,e,ht⟩:=Ib ht
  cases hx;cases hy<;>simp[Op.equalIn,AG ht]
 ·obtain⟨ht,h⟩:=AA h
  injection h with h;subst h
  obtain⟨k,e,ht⟩:=Ib ht
  cases hy;cases hx<;>simp[Op.equalIn,AG ht]
 ·obtain⟨ht,h⟩:=AA h
  injection h with h;subst h
  obtain⟨a,b,c,ht⟩:=FE ht
  cases hy;cases hx;simp[Op.equalIn,AG ht]
 ·obtain⟨ht,h⟩:=AA h
  injection h with h;subst h
  obtain⟨a,b,c,ht⟩:=FE ht
  cases hy;cases hx;simp[Op.equalIn,AG ht]
 ·obtain⟨ht,h⟩:=AA h
  injection h with h;subst h
  obtain⟨a,b,c,ht⟩:=FE ht
  cases hy;cases hx;simp[Op.equalIn,AG ht]
theorem Xh{t:TypeId}{x y:AV}{x' y':Value}{b:Bool}(h:aT P t x y=some b)(hx:AL ρ x x')(hy:AL ρ y y'):
  (Op.equal t x' y').run P w=.ok b w:=ck h hx hy 9999
def YY:Value→Bool
 | .nilIface | .agg _=>false
 | _=>true
theorem EA{x':Value}(h:YY x'=true)(op:BinOp)(t:TypeId)(ox oy:Operand)(y':Value):
  (eqGuard op t ox oy x' y').run P w=.ok () w:=by
 cases x'<;>first | (cases h;done) | (cases op<;>rfl)
theorem LD{t:TypeId}{x y:AV}{x':Value}{b:Bool}(h:aT P t x y=some b)(hx:AL ρ x x'):YY x'=true:=by
 unfold aT at h
 split at h<;>first | (cases h;done) | (cases hx<;>rfl)
theorem Q9      {op : BinOp} {t : TypeId} {x y v : AV} {x' y' : Value} (h : AN   P op t x y = some v) (hx : AL   ρ x x') (hy : AL   ρ y y') (ox oy : Operand) :
    ∃v',(do eqGuard op t ox oy x' y';Go.binOp op t x' y').run P w=.ok v' w∧AL ρ v v':=by
  unfold AN at h
  split at h
  · cases hx;cases hy
    rename_i k a k' b
    rw[Sem.run_bind,EA rfl]
    simp only[Result.andThen_ok]
    split at h
    · simp only[ft]at h
      obtain⟨u,hu,h⟩:=h
      exact⟨u,by have:=Ex (w:=w) hu;simpa[Go.binOp]using this,Bi ρ h⟩
    · simp only[ft]at h
      obtain⟨u,hu,h⟩:=h
      exact⟨u,by have:=Ex (w:=w) hu;simpa[Go.binOp]using this,Bi ρ h⟩
    · obtain⟨hk,h2⟩:=AA h
      have hkk:=CK hk
      subst hkk
      exact Xw h2 t w
  · cases hx;cases hy
    rename_i a b s1 h1 s2 h2
    subst h1;subst h2
    rw[Sem.run_bind,EA rfl]
    simp only[Result.andThen_ok]
    obtain⟨v',h1,h2⟩:=Y2 (P:=P) (ρ:=ρ) h w
    refine⟨v',?_,h2⟩
    rw[← h1]
    cases op<;>first | rfl | (simp[Sk]at h;done)
  · split at h
    · simp only[ft]at h
      obtain⟨b,hb,h⟩:=h
      injection h with h;subst h
      rw[Sem.run_bind,EA (LD hb hx)]
      simp only[Result.andThen_ok]
      refine⟨.bool b,?_,.bool b⟩
      have he:=Xh (w:=w) hb hx hy
      have:Go.binOp .eql t x' y'=(do pure (.bool (← Op.equal t x' y')):Sem Value):=by
        unfold aT at hb
        split at hb<;>first | (cases hb;done) | (cases hx<;>cases hy<;>rfl)
      rw[this,Sem.run_bind,he]
      rfl
    · simp only[ft]at h
      obtain⟨b,hb,h⟩:=h
      injection h with h;subst h
      rw[Sem.run_bind,EA (LD hb hx)]
      simp only[Result.andThen_ok]
      refine⟨.bool (!b),?_,.bool _⟩
      have he:=Xh (w:=w) hb hx hy
      have:Go.binOp .neq t x' y'=(do pure (.bool (!(← Op.equal t x' y'))):Sem Value):=by
        unfold aT at hb
        split at hb<;>first | (cases hb;done) | (cases hx<;>cases hy<;>rfl)
      rw[this,Sem.run_bind,he]
      rfl
    · cases h
theorem df{op:UnOp}{x v:AV}{x':Value}(h:de P op x=some v)(hx:AL ρ x x'):
  ∃v',(Op.unary op x').run P w=.ok v' w∧AL ρ v v':=by
 unfold de at h
 split at h
 ·cases hx
  rename_i k n
  split at h
  ·injection h with h;subst h
   exact⟨.int k (k.wrap (0 - n)),rfl,by rw[F6];exact .int _ _⟩
  ·simp only[ft]at h
   obtain⟨u,hu,h⟩:=h
   exact⟨u,Ex hu,Bi ρ h⟩
  ·cases h
 ·cases hx
  split at h
  ·injection h with h;subst h
   exact⟨_,rfl,.bool _⟩
  ·cases h
 ·cases h
theorem Ms{x v:AV}{x':Value}(h:IE x=some v)(hx:AL ρ x x')(ev:Operand→Value)(o:Oper)(y:Operand)(ho:o.op=.nilCheck y)(he:ev y=x'):
  ∃v',(execOp ev o).run P w=.ok (.value v') w∧AL ρ v v':=by
 unfold IE at h
 split at h<;>first | (cases h;done) | skip
 injection h with h;subst h
 refine⟨x',?_,hx⟩
 cases hx<;>first | (simp only[execOp,ho,he];done) | (simp only[execOp,ho,he];rfl) | (exfalso;simp_all;done)
theorem Nn{x v:AV}{i:Nat}{x':Value}(h:Za x i=some v)(hx:AL ρ x x'):
  ∃v',(Instr.extract x' i).run P w=.ok v' w∧AL ρ v v':=by
 unfold Za at h
 split at h<;>first | (cases h;done) | skip
 cases hx with
 | tuple hs =>
  rename_i cs'
  obtain⟨v',h1,h2⟩:=hs.get h
  refine⟨v',?_,h2⟩
  have:cs'[i]? = some v':=by rw[← Array.getElem?_toList];exact h1
  simp[Instr.extract,this]
theorem OH{t:TypeId}{cs:List AV}{cs':Array Value}{off:Nat}{v:AV}(h:Sc P t cs off=some v)(hc:AK ρ cs cs'.toList):
  ∃v',(part t cs' off).run P w=.ok v' w∧AL ρ v v':=by
 unfold Sc at h
 simp only[ft]at h
 obtain⟨g,hg,h⟩:=h
 cases g with
 | true =>
  simp only[ft]at h
  obtain⟨n,hn,h⟩:=h
  injection h with h;subst h
  refine⟨.agg (cs'.extract off (off+n)),by simp[part,GK hg,Ap hn],.agg ?_⟩
  have:(cs'.extract off (off+n)).toList=(cs'.toList.drop off).take n:=by
   rw[Array.toList_extract,List.extract_eq_take_drop]
   congr 1
   omega
  rw[this]
  exact(hc.drop off).take n
 | false =>
  obtain⟨v',h1,h2⟩:=hc.get h
  refine⟨v',?_,h2⟩
  have:cs'[off]? = some v':=by rw[← Array.getElem?_toList];exact h1
  simp[part,GK hg,this]
theorem Jz{x:AV}{x':Value}{k:Nat}(h:GX x=some k)(hx:AL ρ x x'):∃kd,x'=.int kd (k:Int):=by
 unfold GX at h
 split at h<;>first | (cases h;done) | skip
 cases hx
 rename_i kd n
 exact⟨kd,by rw[YL h]⟩
theorem TC{t:TypeId}{x v:AV}{x':Value}{f:Nat}(h:Pr P t x f=some v)(hx:AL ρ x x'):
  ∃v',(Instr.field t x' f).run P w=.ok v' w∧AL ρ v v':=by
 unfold Pr at h
 split at h<;>first | (cases h;done) | skip
 split at h<;>first | (cases h;done) | skip
 rename_i fs hfs
 simp only[ft]at h
 obtain⟨fd,hfd,h⟩:=h
 cases hx with
 | agg hs =>
  obtain⟨v',h1,h2⟩:=OH (w:=w) h hs
  exact⟨v',by simp[Instr.field,AG hfs,hfd,asAgg,h1],h2⟩
theorem TH        {t : TypeId} {x ix v : AV} {x' ix' : Value} (h : Px     P t x ix = some v) (hx : AL   ρ x x') (hi : AL   ρ ix ix') :
    ∃v',(Instr.index t x' ix').run P w=.ok v' w∧AL ρ v v':=by
  unfold Px at h
  simp only[ft]at h
  obtain⟨k,hk,h⟩:=h
  obtain⟨kd,rfl⟩:=Jz hk hi
  split at h<;>first | (cases h;done) | skip
  · split at h<;>first | (cases h;done) | skip
    rename_i len e he
    simp only[ft]at h
    obtain⟨n,hn,h⟩:=h
    obtain⟨hlt,h⟩:=AA h
    have hlt':k<len:=by simpa[gE]using hlt
    cases hx with
    | agg hs =>
      obtain⟨v',h1,h2⟩:=OH (w:=w) h hs
      refine⟨v',?_,h2⟩
      have:(0:Int)≤(k:Int)∧(k:Int)<(len:Int):=by omega
      simp only[Instr.index,asIntOf,Sem.run_bind,Sem.run_pure,Result.andThen_ok,AG he,this,and_self,if_true,Ap hn]
      simpa using h1
  · split at h <;> first | (cases h; done) | skip
    rename_i l _ he
    simp only[ft]at h
    obtain⟨b,hb,h⟩:=h
    injection h with h;subst h
    cases hx with
    | str hs =>
      rename_i s
      subst hs
      rw[iJ]at hb
      simp only[Option.map_eq_some_iff]at hb
      obtain⟨u,hu,rfl⟩:=hb
      refine⟨.int .u8 u.toNat,?_,.int _ _⟩
      have h0:(0:Int)≤(k:Int):=by omega
      have:s[k]? = some u:=by
        rw[← hu]
        rcases fv k s.size with hlt | hge
        · rw [getElem?_pos s k hlt, f9                       (by simpa using hlt)]
          rfl
        · rw[getElem?_neg s k (by omega),gH (by simpa using hge)]
      simp[Instr.index,asIntOf,AG he,this]
end
structure FY(P:Program)(ρ:A4)(w:World)(l:EN)(rb:RB):Prop where
 ex:∃L:Loop,w.heap[rb.b]? = some (.loop L)∧L.state=l.state∧L.pending=l.pending∧L.params=l.params∧L.assign=l.assign∧L.body=l.body ∧
  (∃rd,ρ l.dfr=some rd∧L.defers=rd.b)∧DP ρ (Dg P l.fn) l.var L.tmps∧(∀fn,P.funcs[l.fn]? = some fn→fn.ntmps≤L.tmps.size)∧l.var.length=(Dg P l.fn).length
def Cx(P:Program)(ρ:A4)(w:World):AX→RB→Prop
 | .row r,rb=>BF ρ w r rb
 | .map kt es,rb=>GU P ρ w kt es rb
 | .mapRo kt es,rb=>GU P ρ w kt es rb
 | .loop l,rb=>FY P ρ w l rb
 | .mark,rb=>w.heap[rb.b]? = some (.deferred (some []))
 | .iter _ _,_=>False
def wr:AX→Bool
 | .row r=>CS r.mode
 | .mapRo _ _=>false
 | _=>true
def EG:AX→Option Nat
 | .row r=>r.par
 | _=>none
def Dc:AX→Option Nat
 | .row r=>r.glob
 | _=>none
structure Av(P:Program)(ρ:A4)(s:AE)(w:World):Prop where
 obj:∀i o rb,s.heap.get i=some o→ρ i=some rb→Cx P ρ w o rb
 lt:∀i rb,ρ i=some rb→rb.b<w.heap.size
 sep:∀i j oi oj ri rj,i≠j→s.heap.get i=some oi→s.heap.get j=some oj→ρ i=some ri→ρ j=some rj→ri.b=rj.b→wr oj=true→EG oj=some i∧wr oi=false
 glb:∀i o g,s.heap.get i=some o→Dc o=some g→∃rb,ρ i=some rb
def Dh(ρ:A4)(s:AE)(b:Nat):Prop:=∃i o rb,s.heap.get i=some o∧wr o=true∧ρ i=some rb∧rb.b=b
structure Fr(ρ:A4)(s:AE)(w:World)(ρ':A4)(s':AE)(w':World):Prop where
 le:ρ.le ρ'
 fresh:∀i,ρ i=none→(i<s.next∨s'.next≤i)→ρ' i=none
 next:s.next≤s'.next
 size:w.heap.size≤w'.heap.size
 os:w'.os=w.os
 tape:w'.tape=w.tape
 output:w'.output=w.output
 keep:∀b,b<w.heap.size→¬ Dh ρ s b→w'.heap[b]? = w.heap[b]?
 own:∀b,Dh ρ' s' b→Dh ρ s b∨w.heap.size≤b
 unborn:∀i,ρ i=none→(i<s.next∨s'.next≤i)→s'.heap.get i=s.heap.get i
 blk:∀i rb,ρ' i=some rb→ρ i=none→w.heap.size≤rb.b∨∃j o rj,s.heap.get j=some o∧ρ j=some rj∧rj.b=rb.b
 dom:∀i o rb,s'.heap.get i=some o→ρ i=some rb→∃o',s.heap.get i=some o'
theorem KG{ρ:A4}{p:Prop}(i:Nat)(rb:RB)(h:ρ i=some rb)(h':ρ i=none):p:=by rw[h']at h;cases h
section
variable{P:Program}{ρ ρ1 ρ2:A4}{s s1 s2:AE}{w w1 w2:World}
theorem Fr.refl(ρ:A4)(s:AE)(w:World):Fr ρ s w ρ s w:=
 ⟨A4.le_refl ρ,fun _ h _=>h,fu _,fu _,rfl,rfl,rfl,fun _ _ _=>rfl,fun _ h=>.inl h,fun _ _ _=>rfl,fun i rb=>KG i rb,fun _ o _ h _=>⟨o,h⟩⟩
theorem Fr.trans (h : Fr ρ s w ρ1 s1 w1) (k : Fr ρ1 s1 w1 ρ2 s2 w2) : Fr ρ s w ρ2 s2 w2 where
  le:=A4.le_trans h.le k.le
  fresh:=fun i hi hr=>k.fresh i (h.fresh i hi (hr.imp id (fun h'=>fx k.next h'))) (hr.imp (fun h'=>fy h' h.next) id)
  next:=fx h.next k.next
  size:=fx h.size k.size
  os:=k.os.trans h.os
  tape:=k.tape.trans h.tape
  output:=k.output.trans h.output
  keep:=fun b hb ho=>(k.keep b (fy hb h.size) (fun ho1=>(h.own b ho1).elim ho (fun hge=>by omega))).trans (h.keep b hb ho)
  own:=fun b hb=>(k.own b hb).elim (fun h1=>h.own b h1) (fun hge=>.inr (fx h.size hge))
  unborn:=fun i hi hr=>(k.unborn i (h.fresh i hi (hr.imp id (fun h'=>fx k.next h'))) (hr.imp (fun h'=>fy h' h.next) id)).trans (h.unborn i hi (hr.imp id (fun h'=>fx k.next h')))
  blk:=fun i rb hi h0=>by
    cases h1:ρ1 i with
    | some rb1 =>
      have:=k.le _ _ h1
      rw[hi]at this
      injection this with this
      subst this
      exact h.blk i _ h1 h0
    | none =>
      rcases k.blk i rb hi h1 with h2 | ⟨j,o,rj,h2,h3,h4⟩
      · exact .inl (fx h.size h2)
      · cases h5:ρ j with
        | none=>rw[← h4];exact h.blk j rj h3 h5
        | some rj0 =>
          have:=h.le _ _ h5
          rw[h3]at this
          injection this with this
          subst this
          obtain⟨o',h6⟩:=h.dom j o _ h2 h5
          exact .inr ⟨j,o',_,h6,h5,h4⟩
  dom:=fun i o rb h2 h0=>by
    obtain⟨o1,h3⟩:=k.dom i o rb h2 (h.le _ _ h0)
    exact h.dom i o1 rb h3 h0
theorem HH{a:Addr}(h:w1.heap[a.block]? = w.heap[a.block]?):w1.cell? a=w.cell? a:=by simp[World.cell?,h]
theorem DP.mono{σ:A4}(le:ρ.le σ){vars:List Tmp}{var:List AV}{tmps:Array Value}(h:DP ρ vars var tmps):DP σ vars var tmps:=
 fun t k hk=>let ⟨h1,v,h2,h3⟩:=h t k hk;⟨h1,v,h2,h3.mono le⟩
theorem Cx.mono    {o : AX}   {rb : RB} (h : Cx    P ρ w o rb) (le : ρ.le ρ1) (hk : w1.heap[rb.b]? = w.heap[rb.b]?) : Cx    P ρ1 w1 o rb := by
  cases o with
  | row r =>
    exact⟨fun k v hk' hv=>by
        obtain⟨v',h1,h2⟩:=h.cells k v hk' hv
        exact⟨v',(HH (a:=⟨rb.b,_,none⟩) hk).trans h1,h2.mono le⟩,
      h.le,h.sz,h.tight,fun hm=>by
        obtain⟨cs,h1,h2⟩:=h.own hm
        exact⟨cs,hk.trans h1,h2⟩,h.base,h.gl,fun p hp=>let ⟨rp,h1⟩:=h.par p hp;⟨rp,le _ _ h1⟩⟩
  | map kt es =>
    obtain⟨es',clock,h1,h2,⟨l,h3,h4⟩,h5⟩:=h.ex
    exact⟨es',clock,hk.trans h1,h2,⟨l,h3,h4.mono le⟩,h5⟩
  | mapRo kt es =>
    obtain⟨es',clock,h1,h2,⟨l,h3,h4⟩,h5⟩:=h.ex
    exact⟨es',clock,hk.trans h1,h2,⟨l,h3,h4.mono le⟩,h5⟩
  | loop l =>
    obtain⟨L,h0,h1,h2,h4,h5,h6,⟨rd,h7,h7'⟩,h8,h9⟩:=h.ex
    exact⟨L,hk.trans h0,h1,h2,h4,h5,h6,⟨rd,le _ _ h7,h7'⟩,h8.mono le,h9⟩
  | mark=>exact hk.trans h
  | iter=>exact h
def Bc(ρ:A4)(i:Nat)(rb:RB):A4:=fun j=>if j=i then some rb else ρ j
theorem AM(i:Nat)(rb:RB):Bc ρ i rb i=some rb:=by simp[Bc]
theorem AJ{i j:Nat}(rb:RB)(h:j≠i):Bc ρ i rb j=ρ j:=by simp[Bc,h]
theorem Ax{i:Nat}{rb:RB}(h:ρ i=none):ρ.le (Bc ρ i rb):=fun j r hj=>by
 have:j≠i:=fun e=>by subst e;rw[h]at hj;cases hj
 rw[AJ rb this];exact hj
theorem Ah(s:AE)(o:AX)(j:Nat):(newObj s o).heap.get j=if j=s.next then some o else s.heap.get j:=AB.get_set _ _ _ _
theorem BE(s:AE)(i:Nat)(o:AX)(j:Nat):(setObj s i o).heap.get j=if j=i then some o else s.heap.get j:=AB.get_set _ _ _ _
theorem A9(s:AE)(i j:Nat):(Bu s i).heap.get j=if j=i then none else s.heap.get j:=AB.get_del _ _ _
theorem EY{o:Obj}{b:Nat}(h:b<w.heap.size):(w.alloc o).heap[b]? = w.heap[b]? :=
 Go.RowKit.Below.heap_alloc w o b h
theorem Av.new  (h : Av  P ρ s w) {o : AX}   {o' : Obj} {rb : RB} (hf : ρ s.next = none) (hb : rb.b = w.heap.size)
    (ho:Cx P (Bc ρ s.next rb) (w.alloc o') o rb):
    Av P (Bc ρ s.next rb) (newObj s o) (w.alloc o')∧Fr ρ s w (Bc ρ s.next rb) (newObj s o) (w.alloc o'):=by
  have hle:=Ax (rb:=rb) hf
  have hglb:∀i oi g,(newObj s o).heap.get i=some oi→Dc oi=some g→∃r,Bc ρ s.next rb i=some r:=by
    intro i oi g hi hg
    rw[Ah]at hi
    by_cases e:i=s.next
    · subst e;exact⟨_,AM _ _⟩
    · rw[if_neg e]at hi
      obtain⟨r,hr⟩:=h.glb i oi g hi hg
      exact⟨r,hle _ _ hr⟩
  refine⟨⟨?_,?_,?_,hglb⟩,?_⟩
  · intro i oi ri hi hr
    rw[Ah]at hi
    by_cases e:i=s.next
    · subst e
      rw[if_pos rfl]at hi
      injection hi with hi
      rw[AM]at hr
      injection hr with hr
      subst hi;subst hr
      exact ho
    · rw [if_neg e] at hi
      rw[AJ rb e]at hr
      exact(h.obj i oi ri hi hr).mono hle (EY (h.lt i ri hr))
  · intro i ri hr
    by_cases e:i=s.next
    · subst e
      rw[AM]at hr
      injection hr with hr
      subst hr
      simp[hb]
    · rw[AJ rb e]at hr
      have:=h.lt i ri hr
      simp;omega
  · intro i j oi oj ri rj hne hi hj hri hrj hbb hw
    rw[Ah]at hi hj
    by_cases ei:i=s.next
    · subst ei
      have ej:j≠s.next:=fun e=>hne e.symm
      rw[AM]at hri
      rw[AJ rb ej]at hrj
      injection hri with hri
      subst hri
      have:=h.lt j rj hrj
      omega
    · by_cases ej : j = s.next
      · subst ej
        rw[AJ rb ei]at hri
        rw[AM]at hrj
        injection hrj with hrj
        subst hrj
        have:=h.lt i ri hri
        omega
      · rw [if_neg ei] at hi
        rw[if_neg ej]at hj
        rw[AJ rb ei]at hri
        rw[AJ rb ej]at hrj
        exact h.sep i j oi oj ri rj hne hi hj hri hrj hbb hw
  · refine ⟨hle, ?_, by simp [newObj], by simp, rfl, rfl, rfl, fun b hb _ => EY            hb, ?_, ?_, fun i r hi h0 => ?_, fun i oi r hi h0 => ?_⟩
    · intro i hi hr
      have:i≠s.next:=by simp[newObj]at hr;omega
      rw[AJ rb this];exact hi
    · rintro b ⟨i, oi, ri, hi, hw, hr, rfl⟩
      rw[Ah]at hi
      by_cases e:i=s.next
      · subst e
        rw[AM]at hr
        injection hr with hr
        subst hr
        exact .inr (by omega)
      · rw [if_neg e] at hi
        rw[AJ rb e]at hr
        exact .inl ⟨i,oi,ri,hi,hw,hr,rfl⟩
    · intro i _ hi
      rw[Ah,if_neg (by simp[newObj]at hi;omega)]
    · by_cases e : i = s.next
      · subst e;rw[AM]at hi;injection hi with hi;subst hi;exact .inl (by omega)
      · rw[AJ rb e,h0]at hi;cases hi
    · rw[Ah]at hi
      by_cases e:i=s.next
      · subst e;rw[hf]at h0;cases h0
      · rw[if_neg e]at hi;exact⟨oi,hi⟩
theorem Av.set  (h : Av  P ρ s w) {i : Nat} {o o1 : AX}   {rb : RB} (hg : s.heap.get i = some o) (hr : ρ i = some rb) (hw : wr o = true) (hp : ∀ p, EG    o = some p → p ≠ i → s.heap.get p = none)
    (hp1:EG o1=none) (hsz:w1.heap.size=w.heap.size) (hkeep:∀b,b≠rb.b→w1.heap[b]? = w.heap[b]?) (hos:w1.os=w.os) (htape:w1.tape=w.tape) (hout:w1.output=w.output)
    (ho:Cx P ρ w1 o1 rb):Av P ρ (setObj s i o1) w1∧Fr ρ s w ρ (setObj s i o1) w1:=by
  have hsep:∀j oj rj,j≠i→s.heap.get j=some oj→ρ j=some rj→rj.b≠rb.b:=by
    intro j oj rj hne hj hrj e
    have:=hp j (h.sep j i oj o rj rb hne hj hg hrj hr e hw).1 hne
    rw[hj]at this
    cases this
  have hglb:∀j oj g,(setObj s i o1).heap.get j=some oj→Dc oj=some g→∃r,ρ j=some r:=by
    intro j oj g hj hg
    rw[BE]at hj
    by_cases e:j=i
    · subst e;exact⟨_,hr⟩
    · rw[if_neg e]at hj
      exact h.glb j oj g hj hg
  refine⟨⟨?_,?_,?_,hglb⟩,?_⟩
  · intro j oj rj hj hrj
    rw[BE]at hj
    by_cases e:j=i
    · subst e
      rw[if_pos rfl]at hj
      injection hj with hj
      subst hj
      rw[hr]at hrj
      injection hrj with hrj
      subst hrj
      exact ho
    · rw[if_neg e]at hj
      exact(h.obj j oj rj hj hrj).mono (A4.le_refl ρ) (hkeep _ (hsep j oj rj e hj hrj))
  · intro j rj hrj
    rw[hsz];exact h.lt j rj hrj
  · intro j k oj ok rj rk hne hj hk hrj hrk hbb hwk
    rw[BE]at hj hk
    by_cases ej:j=i
    · subst ej
      have ek:k≠j:=fun e=>hne e.symm
      rw[if_neg ek]at hk
      rw[hr]at hrj
      injection hrj with hrj
      subst hrj
      exact absurd hbb.symm (hsep k ok rk ek hk hrk)
    · by_cases ek : k = i
      · subst ek
        rw[if_neg ej]at hj
        rw[hr]at hrk
        injection hrk with hrk
        subst hrk
        exact absurd hbb (hsep j oj rj ej hj hrj)
      · rw [if_neg ej] at hj
        rw[if_neg ek]at hk
        exact h.sep j k oj ok rj rk hne hj hk hrj hrk hbb hwk
  · refine ⟨A4.le_refl  ρ, fun _ h _ => h, fu          _, by omega, hos, htape, hout, ?_, ?_, ?_, fun i rb => KG    i rb, fun j oj rj hj _ => ?_⟩
    · intro b _ hno
      exact hkeep b (fun e=>hno ⟨i,o,rb,hg,hw,hr,e.symm⟩)
    · rintro b ⟨j, oj, rj, hj, hwj, hrj, rfl⟩
      rw[BE]at hj
      by_cases e:j=i
      · subst e
        rw[hr]at hrj
        injection hrj with hrj
        subst hrj
        exact .inl ⟨j,o,rb,hg,hw,hr,rfl⟩
      · rw[if_neg e]at hj
        exact .inl ⟨j,oj,rj,hj,hwj,hrj,rfl⟩
    · intro j hrj _
      rw[BE,if_neg]
      intro e
      subst e
      rw[hr]at hrj
      cases hrj
    · rw[BE]at hj
      by_cases e:j=i
      · subst e;exact⟨o,hg⟩
      · rw[if_neg e]at hj;exact⟨oj,hj⟩
theorem Av.del  (h : Av  P ρ s w) {i : Nat} {rb : RB} (hr : ρ i = some rb) : Av  P ρ (Bu     s i) w ∧ Fr ρ s w ρ (Bu     s i) w := by
  have hglb:∀j oj g,(Bu s i).heap.get j=some oj→Dc oj=some g→∃r,ρ j=some r:=by
    intro j oj g hj hg
    rw[A9]at hj
    by_cases e:j=i
    · rw[if_pos e]at hj;cases hj
    · rw[if_neg e]at hj
      exact h.glb j oj g hj hg
  refine⟨⟨?_,h.lt,?_,hglb⟩,⟨A4.le_refl ρ,fun _ h _=>h,fu _,fu _,rfl,rfl,rfl,fun _ _ _=>rfl,?_,?_,fun i rb=>KG i rb,fun j oj rj hj _=>(by
    rw[A9]at hj
    by_cases e:j=i
    · rw[if_pos e]at hj;cases hj
    · rw[if_neg e]at hj;exact⟨oj,hj⟩)⟩⟩
  · intro j oj rj hj hrj
    rw[A9]at hj
    by_cases e:j=i
    · rw[if_pos e]at hj;cases hj
    · rw[if_neg e]at hj
      exact h.obj j oj rj hj hrj
  · intro j k oj ok rj rk hne hj hk
    rw[A9]at hj hk
    by_cases ej:j=i
    · rw[if_pos ej]at hj;cases hj
    · by_cases ek : k = i
      · rw[if_pos ek]at hk;cases hk
      · rw [if_neg ej] at hj
        rw[if_neg ek]at hk
        exact h.sep j k oj ok rj rk hne hj hk
  · rintro b ⟨j, oj, rj, hj, hwj, hrj, rfl⟩
    rw[A9]at hj
    by_cases e:j=i
    · rw[if_pos e]at hj;cases hj
    · rw[if_neg e]at hj
      exact .inl ⟨j,oj,rj,hj,hwj,hrj,rfl⟩
  · intro j hrj _
    rw[A9,if_neg]
    intro e
    subst e
    rw[hr]at hrj
    cases hrj
theorem As{i:Nat}{r:B6}(h:rowAt s i=some r):s.heap.get i=some (.row r):=by
 unfold rowAt at h
 split at h
 ·injection h with h;subst h;assumption
 ·cases h
theorem Bq(b o k:Nat):(⟨b,o,none⟩:Addr).add k=⟨b,o+k,none⟩:=by unfold Addr.add;split<;>simp_all
theorem Cd(h:Av P ρ s w){i off n:Nat}{l:List AV}{rb:RB}(hr:ρ i=some rb)(hl:Be s i off n=some l):
  ∃l':List Value,AK ρ l l'∧l'.length=n∧∀w1:World,w1.heap=w.heap→(loadCells ⟨rb.b,rb.off+off,none⟩ n).run P w1=.ok l'.toArray w1:=by
 unfold Be at hl
 simp only[ft]at hl
 obtain⟨r,hrow,hl⟩:=hl
 obtain⟨hb,hl⟩:=AA hl
 have hb:off+n≤r.n:=by simpa[fw]using hb
 have hok:BF ρ w r rb:=h.obj i _ rb (As hrow) hr
 have hlen:=AB.take_length hl
 have hc:∀k,k<n→∃v v',l[k]? = some v∧w.cell? ⟨rb.b,rb.off+off+k,none⟩=some v'∧AL ρ v v':=by
  intro k hk
  have hv:l[k]? = some l[k]:=f9 (by omega)
  have hg:=AB.take_get hl k hk
  rw[hv]at hg
  obtain⟨v',h1,h2⟩:=hok.cells (off+k) _ (by omega) hg
  exact⟨l[k],v',hv,by rw[show rb.off+off+k=rb.off+(off+k)from by omega];exact h1,h2⟩
 let f:Nat→Value:=fun k=>(w.cell? ⟨rb.b,rb.off+off+k,none⟩).getD undef
 have hf:∀k,k<n→w.cell? ⟨rb.b,rb.off+off+k,none⟩=some (f k):=by
  intro k hk
  obtain⟨v,v',_,h2,_⟩:=hc k hk
  simp[f,h2]
 refine⟨(List.range n).map f,?_,by simp,?_⟩
 ·refine AK.of_get (by simp[hlen]) ?_
  intro k v v' hv hv'
  have hk:k<n:=by
   rcases fv k n with h' | h'
   ·exact h'
   ·rw[gH (by omega)]at hv;cases hv
  obtain⟨u,u',h1,h2,h3⟩:=hc k hk
  rw[h1]at hv
  injection hv with hv
  subst hv
  rw[iJ,List.getElem?_range hk]at hv'
  simp only[gv]at hv'
  injection hv' with hv'
  rw[← hv']
  have:f k=u':=by simp[f,h2]
  rw[this];exact h3
 ·intro w1 he
  exact run_loadCells w1 _ n f (fun j hj=>by rw[Bq];exact(HH (by rw[he])).trans (hf j hj))
theorem J5(h:Av P ρ s w){i off:Nat}{v:AV}{rb:RB}(hr:ρ i=some rb)(hl:Cc s i off=some v):
  ∃v',AL ρ v v'∧w.cell? ⟨rb.b,rb.off+off,none⟩=some v':=by
 unfold Cc at hl
 simp only[ft]at hl
 obtain⟨r,hrow,hl⟩:=hl
 obtain⟨hb,hl⟩:=AA hl
 have hb:off<r.n:=by simpa[gE]using hb
 have hok:BF ρ w r rb:=h.obj i _ rb (As hrow) hr
 obtain⟨v',h1,h2⟩:=hok.cells off v hb hl
 exact⟨v',h2,h1⟩
theorem J7       (h : Av  P ρ s w) {t : TypeId} {a v : AV} {a' : Value} (hl : AF    P s t a = some v) (ha : AL   ρ a a') :
    ∃v',(Instr.loadAt t a').run P w=.ok v' w∧AL ρ v v'∧∃ad,a'=.pointer (some ad)∧(loadVar t ad).run P w=.ok v' w:=by
  unfold AF at hl
  split at hl<;>first | (cases hl;done) | skip
  · rename_i i o
    cases ha
    simp only[ft]at hl
    obtain⟨r,hgr,g,hg,hl⟩:=hl
    have hrow:rowAt s i=some r∧r.glob=some i:=by
      unfold Me at hgr
      simp only[ft]at hgr
      obtain⟨r',h1,h2⟩:=hgr
      split at h2<;>first | (cases h2;done) | skip
      rename_i g' hg'
      obtain⟨h3,h4⟩:=AA h2
      injection h4 with h4
      subst h4
      exact⟨h1,by rw[hg',fz h3]⟩
    obtain⟨rb,hr⟩:=h.glb i _ i (As hrow.1) hrow.2
    have hok:BF ρ w r rb:=h.obj i _ rb (As hrow.1) hr
    obtain⟨hb,ho⟩:=hok.gl i hrow.2
    cases g with
    | true =>
      simp only[ft]at hl
      obtain⟨n,hn,l,hl,hv⟩:=hl
      injection hv with hv;subst hv
      obtain⟨l',h1,h2,h3⟩:=Cd h hr hl
      rw[hb,ho,gA]at h3
      have hrun:(loadVar t ⟨i,o,none⟩).run P w=.ok (.agg l'.toArray) w:=by
        simp[loadVar,GK hg,Ap hn,h3 w rfl]
      exact⟨.agg l'.toArray,by simp[Instr.loadAt,Instr.sureAddr,hrun],.agg (by simpa using h1),_,rfl,hrun⟩
    | false =>
      obtain⟨v',h1,h2⟩:=J5 h hr hl
      rw[hb,ho,gA]at h2
      have hrun:(loadVar t ⟨i,o,none⟩).run P w=.ok v' w:=by
        simp[loadVar,GK hg,h2]
      exact⟨v',by simp[Instr.loadAt,Instr.sureAddr,hrun],h1,_,rfl,hrun⟩
  rename_i i o
  cases ha with
  | ptr hr =>
    rename_i rb
    simp only[ft]at hl
    obtain⟨g,hg,hl⟩:=hl
    cases g with
    | true =>
      simp only[ft]at hl
      obtain⟨n,hn,l,hl,hv⟩:=hl
      injection hv with hv;subst hv
      obtain⟨l',h1,h2,h3⟩:=Cd h hr hl
      have hrun:(loadVar t ⟨rb.b,rb.off+o,none⟩).run P w=.ok (.agg l'.toArray) w:=by
        simp[loadVar,GK hg,Ap hn,h3 w rfl]
      exact⟨.agg l'.toArray,by simp[Instr.loadAt,Instr.sureAddr,hrun],.agg (by simpa using h1),_,rfl,hrun⟩
    | false =>
      obtain⟨v',h1,h2⟩:=J5 h hr hl
      have hrun:(loadVar t ⟨rb.b,rb.off+o,none⟩).run P w=.ok v' w:=by
        simp[loadVar,GK hg,h2]
      exact⟨v',by simp[Instr.loadAt,Instr.sureAddr,hrun],h1,_,rfl,hrun⟩
end
section
variable{P:Program}{ρ ρ1 ρ2:A4}{s s1 s2:AE}{w w1 w2:World}
theorem X9{e:TypeId}{sz:Nat}{l:List AV}{cs:Array Value}(hl:AK ρ l cs.toList)(b:Nat)(hb:w.heap[b]? = some (.cells cs e (0,0))):
  Cx P ρ w (Fu e sz l) ⟨b,0,l.length,sz⟩:=by
 have hlen:=hl.length
 refine⟨?_,fu _,rfl,fun _=>rfl,fun _=>⟨cs,hb,by simp[hlen]⟩,fun _=>rfl,(fun g hg=>by cases hg),fun p hp=>by cases hp⟩
 intro k v hk hv
 simp only[AB.get_fill,gF,gA,true_and,Nat.sub_zero]at hv
 rw[if_pos hk]at hv
 obtain⟨v',h1,h2⟩:=hl.get hv
 refine⟨v',?_,h2⟩
 simp only[World.cell?,hb,gA]
 rw[← Array.getElem?_toList]
 simpa using h1
theorem GH(h:Av P ρ s w)(hf:ρ s.next=none){e:TypeId}{sz:Nat}{l:List AV}{cs:Array Value}(hl:AK ρ l cs.toList):
  ∃ρ',ρ' s.next=some ⟨w.heap.size,0,l.length,sz⟩∧Av P ρ' (newObj s (Fu e sz l)) (w.alloc (.cells cs e))∧Fr ρ s w ρ' (newObj s (Fu e sz l)) (w.alloc (.cells cs e)):=by
 have hle:=Ax (rb:=⟨w.heap.size,0,l.length,sz⟩) hf
 obtain⟨h1,h2⟩:=h.new (o:=Fu e sz l) (o':=.cells cs e) (rb:=⟨w.heap.size,0,l.length,sz⟩) hf rfl
  (X9 (hl.mono hle) _ (World.alloc_heap_new w _))
 exact⟨_,AM _ _,h1,h2⟩
theorem GO        (h : Av  P ρ s w) {i off : Nat} {vs : List AV} {vs' : List Value} {rb : RB} (hr : ρ i = some rb) (hs : CE     s i off vs = some s1) (hv : AK    ρ vs vs') :
    ∃w1,(storeCells ⟨rb.b,rb.off+off,none⟩ vs').run P w=.ok () w1∧Av P ρ s1 w1∧Fr ρ s w ρ s1 w1:=by
  cases vs with
  | nil =>
    cases hv
    simp only[CE]at hs
    injection hs with hs
    subst hs
    exact⟨w,rfl,h,Fr.refl _ _ _⟩
  | cons v0 vs0 =>
    have hsv:CE s i off (v0::vs0)=(rowAt s i).bind fun r =>
      AH (CS r.mode && Nat.ble (off+(v0::vs0).length) r.n && Aq (v0::vs0))
        (some (setObj (BC s i r) i (.row { r with c:=r.c.fill off (v0::vs0),par:=none }))):=rfl
    rw[hsv]at hs
    generalize v0::vs0=vs at hs hv
    simp only[ft]at hs
    obtain⟨r,hrow,hs⟩:=hs
    obtain⟨hb,hs⟩:=AA hs
    injection hs with hs
    subst hs
    simp only[Bool.and_eq_true,fw]at hb
    obtain⟨⟨hown,hle⟩,hall⟩:=hb
    have hg:=As hrow
    have hok:BF ρ w r rb:=h.obj i _ rb hg hr
    have hmode:r.mode≠.ro:=fun e=>by rw[e]at hown;cases hown
    obtain⟨cs,hblk,hsz⟩:=hok.own hmode
    obtain⟨e,he0⟩:∃e,r.elem=e:=⟨_,rfl⟩
    rw[he0]at hblk
    have hlen:=hv.length
    have hfit:rb.off+off+vs'.length≤cs.size:=by have:=hok.le;omega
    have hrun:=run_storeCells_at P rb.b (rb.off+off) e vs' 0 cs w hblk (by simpa using hfit) (hv.oneCell hall)
    refine⟨_,hrun,?_⟩
    simp only[gJ]
    generalize hnew:(cs.toList.take (rb.off+off)++vs'++cs.toList.drop (rb.off+off+vs'.length)).toArray=cs1
    have hblk1:(w.setRow rb.b cs1).heap[rb.b]? = some (.cells cs1 e (0,0)):=setRow_heap w rb.b cs cs1 e (0,0) hblk
    have hsize1:cs1.size=cs.size:=by rw[← hnew];simp;omega
    have hget:∀k,cs1[k]? = if rb.off+off≤k∧k<rb.off+off+vs'.length then vs'[k - (rb.off+off)]? else cs[k]? := by
      intro k
      rw[← hnew,List.getElem?_toArray]
      by_cases h1:k<rb.off+off
      · rw[if_neg (by omega),gP,gi (by simp;omega),iP h1,Array.getElem?_toList]
      · rw[gP,gj (by simp;omega)]
        have hmin:(cs.toList.take (rb.off+off)).length=rb.off+off:=by simp;omega
        rw[hmin]
        by_cases h2:k<rb.off+off+vs'.length
        · rw[if_pos (by omega),gi (by omega)]
        · rw[if_neg (by omega),gj (by omega),iV,← Array.getElem?_toList]
          congr 1
          omega
    have key:∀sx:AE,Av P ρ sx w→Fr ρ s w ρ sx w→sx.heap.get i=some (.row r)→(∀p,r.par=some p→p≠i→sx.heap.get p=none) →
        Av P ρ (setObj sx i (.row { r with c:=r.c.fill off vs,par:=none })) (w.setRow rb.b cs1) ∧
        Fr ρ s w ρ (setObj sx i (.row { r with c:=r.c.fill off vs,par:=none })) (w.setRow rb.b cs1):=by
      intro sx hx hfx hgx hpx
      obtain⟨h1,h2⟩:=hx.set (o1:=.row { r with c:=r.c.fill off vs,par:=none }) (w1:=w.setRow rb.b cs1) hgx hr (by simpa[wr]using hown) hpx rfl (by simp)
        (fun b hb=>setRow_other w rb.b b cs1 hb) rfl rfl rfl (by
          refine⟨?_,hok.le,hok.sz,hok.tight,fun _=>⟨cs1,by show _=some (Obj.cells cs1 r.elem (0,0));rw[he0];exact hblk1,by rw[hsize1];exact hsz⟩,hok.base,hok.gl,fun p hp=>by cases hp⟩
          intro k v hk hkv
          simp only[AB.get_fill]at hkv
          have hcell:(w.setRow rb.b cs1).cell? ⟨rb.b,rb.off+k,none⟩=cs1[rb.off+k]? := by simp[World.cell?,hblk1]
          rw[hcell,hget]
          by_cases hin:off≤k∧k<off+vs.length
          · rw [if_pos hin] at hkv
            rw[if_pos (by omega),show rb.off+k - (rb.off+off)=k - off from by omega]
            exact hv.get hkv
          · rw [if_neg hin] at hkv
            rw[if_neg (by omega)]
            obtain⟨v',h1,h2⟩:=hok.cells k v hk hkv
            refine⟨v',?_,h2⟩
            simpa[World.cell?,hblk]using h1)
      exact⟨h1,hfx.trans h2⟩
    unfold BC
    split
    · rename_i hp
      exact key s h (Fr.refl _ _ _) hg (fun p hp' _=>by rw[hp]at hp';cases hp')
    · rename_i p hp
      by_cases hpi:p=i
      · have:Nat.beq p i=true:=by rw[hpi];simp[gu]
        rw[this]
        exact key s h (Fr.refl _ _ _) hg (fun q hq hqi=>by rw[hp]at hq;injection hq with hq;exact absurd (hq.symm.trans hpi) hqi)
      · rw[AB.beq_no hpi]
        obtain⟨rp,hrp⟩:=hok.par p hp
        obtain⟨hd,hfd⟩:=h.del hrp
        exact key (Bu s p) hd hfd (by rw[A9,if_neg (fun e=>hpi e.symm)];exact hg) (fun q hq _=>by
          rw[hp]at hq
          injection hq with hq
          subst hq
          rw[A9,if_pos rfl])
theorem Ad{a b:Nat}(h:Nat.beq a b=true):a=b:=fz h
theorem Ti(h:Av P ρ s w){t:TypeId}{a v:AV}{a' v':Value}(hs:AZ P s t a v=some s1)(ha:AL ρ a a')(hv:AL ρ v v'):
  ∃w1,(Instr.storeAt t a' v').run P w=.ok () w1∧Av P ρ s1 w1∧Fr ρ s w ρ s1 w1:=by
 unfold AZ at hs
 split at hs<;>first | (cases hs;done) | skip
 rename_i i o
 cases ha with
 | ptr hr =>
  rename_i rb
  simp only[ft]at hs
  obtain⟨n,hn,hs⟩:=hs
  obtain⟨hb,hs⟩:=AA hs
  have hb:=Ad hb
  obtain⟨w1,h1,h2⟩:=GO h hr hs hv.cells
  refine⟨w1,?_,h2⟩
  have hc:v'.cells.size=n:=by have:=hv.cells.length;simp at this;omega
  simp[Instr.storeAt,Instr.sureAddr,storeVar,Ap hn,hc,h1]
def K7(P:Program)(ρ:A4)(s:AE)(w:World)(sem:Sem Value)(o:AX)(m:Made):Prop:=
 ∃v' w' ρ',sem.run P w=.ok v' w'∧AL ρ' (m.val s.next) v'∧Av P ρ' (newObj s o) w'∧Fr ρ s w ρ' (newObj s o) w'
theorem Sx(h:Av P ρ s w)(hf:ρ s.next=none){e:TypeId}{o:AX}{m:Made}(hs:Ar P e=some (o,m)):
  K7 P ρ s w (Instr.alloc e true (.tuple #[])) o m:=by
 unfold Ar at hs
 simp only[ft]at hs
 obtain⟨z,hz,hs⟩:=hs
 injection hs with hs
 injection hs with h1 h2
 subst h1;subst h2
 obtain⟨z',hz',hzr⟩:=Hh (w:=w) ρ hz
 obtain⟨ρ',h1,h2,h3⟩:=GH h hf (e:=e) (sz:=0) hzr.cells
 exact⟨.pointer (some ⟨w.heap.size,0,none⟩),_,ρ',by simp[Instr.alloc,hz',newVar,newRow],AL.ptr h1,h2,h3⟩
theorem Zc(h:Av P ρ s w)(hf:ρ s.next=none){e:TypeId}{v:AV}{v':Value}{o:AX}{m:Made}(hs:Cr e v=some (o,m))(hv:AL ρ v v'):
  K7 P ρ s w (Instr.box e v') o m:=by
 unfold Cr at hs
 injection hs with hs
 injection hs with h1 h2
 subst h1;subst h2
 obtain⟨ρ',h1,h2,h3⟩:=GH h hf (e:=e) (sz:=0) hv.cells
 exact⟨.pointer (some ⟨w.heap.size,0,none⟩),_,ρ',by simp[Instr.box,newVar,newRow],AL.ptr h1,h2,h3⟩
theorem P7(h:Av P ρ s w)(hf:ρ s.next=none)(t kt:TypeId):K7 P ρ s w (Instr.makeMap t none) (.map kt []) .map:=by
 have hle:=Ax (rb:=⟨w.heap.size,0,0,0⟩) hf
 obtain⟨h1,h2⟩:=h.new (o:=.map kt []) (o':=.map #[] 0) (rb:=⟨w.heap.size,0,0,0⟩) hf rfl ⟨#[],0,World.alloc_heap_new w _,MapKept.stamped_empty 0,⟨[],.refl _,.nil⟩,by simp⟩
 exact⟨.map (some w.heap.size),_,_,by simp[Instr.makeMap],AL.map (AM _ _),h1,h2⟩
theorem Ju       {place : Nat → Option (Nat × Nat)} {place' : Nat → Option (Nat × Nat)} (hp : ∀ i p, place i = some p → place' i = some p) :
    ∀ {parts:List (Nat×AV)} {parts':List (Nat×Value)} {cs l:List AV} {cs':Array Value},Jt place cs parts=some l→AK ρ cs cs'.toList →
      (parts.map (·.1)=parts'.map (·.1))→AK ρ (parts.map (·.2)) (parts'.map (·.2))→∃l',Instr.fill place' cs' parts'=some l'∧AK ρ l l'.toList:=by
  intro parts
  induction parts with
  | nil =>
    intro parts' cs l cs' h hc hm hv
    cases parts' with
    | nil=>simp[Jt]at h;subst h;exact⟨cs',rfl,hc⟩
    | cons=>simp at hm
  | cons p rest ih =>
    intro parts' cs l cs' h hc hm hv
    cases parts' with
    | nil=>simp at hm
    | cons p' rest' =>
      obtain⟨i,v⟩:=p
      obtain⟨i',v'⟩:=p'
      simp only[gN,List.cons.injEq]at hm
      obtain⟨hi,hm⟩:=hm
      skip
      subst hi
      simp only[gN]at hv
      cases hv with
      | cons hv hvs =>
        simp only[Jt,ft]at h
        obtain⟨q,hq,h⟩:=h
        obtain⟨hb,h⟩:=AA h
        simp only[Bool.and_eq_true,fw]at hb
        obtain⟨hb1,hb2⟩:=hb
        have hb1:=Ad hb1
        have hvc:=hv.cells
        have hvl:=hvc.length
        have hcl:=hc.length
        simp only[Array.length_toList]at hvl hcl
        have hnew:AK ρ (cs.take q.1++(v.cells++cs.drop (q.1+v.cells.length)))
            (v'.cells.zipIdx.foldl (fun cs (c,j)=>cs.setIfInBounds (q.1+j) c) cs').toList:=by
          have e:(v'.cells.zipIdx.foldl (fun cs (c,j)=>cs.setIfInBounds (q.1+j) c) cs').toList=cs'.toList.take q.1++(v'.cells.toList++cs'.toList.drop (q.1+v.cells.length)):=by
            have key:∀ (l:List Value) (k:Nat) (a:Array Value),q.1+k+l.length≤a.size →
                ((l.zipIdx k).foldl (fun cs (x:Value×Nat)=>cs.setIfInBounds (q.1+x.2) x.1) a).toList=a.toList.take (q.1+k)++(l++a.toList.drop (q.1+k+l.length)):=by
              intro l
              induction l with
              | nil=>intro k a _;simp
              | cons x l ihl =>
                intro k a hk
                simp only[gh]at hk
                rw[List.zipIdx_cons,List.foldl_cons,ihl (k+1) _ (by simp;omega)]
                simp only[Array.toList_setIfInBounds,gh]
                have e:=list_seg_step a.toList (q.1+k) x l (by simp;omega)
                simpa[gX,gP]using e
            have:=key v'.cells.toList 0 cs' (by simp;omega)
            simp only[gJ]at this
            rw[← Array.foldl_toList,Array.toList_zipIdx]
            rw[hvl]
            simpa using this
          rw[e]
          exact(hc.take _).append (hvc.append (hc.drop _))
        obtain⟨l',h1,h2⟩:=ih h hnew hm hvs
        refine⟨l',?_,h2⟩
        have hpq:=hp i q hq
        obtain⟨o,n⟩:=q
        simp only[Instr.fill,hpq]
        have c1:¬ (v'.cells.size≠n∨o+v'.cells.size > cs'.size):=by simp only at hb1 hb2;omega
        have:(decide (v'.cells.size≠n) || decide (o+v'.cells.size > cs'.size))=false:=by
          rw[Bool.eq_false_iff];intro hh;apply c1;simpa using hh
        simp only[this]
        exact h1
theorem GW:∀ {fs:List Field}{l:List (Nat×Nat)},EB P fs=some l →
  ∀w:World,((fs.mapM fun f=>do pure (f.offset,← sizeOf f.type):Sem (List (Nat×Nat)))).run P w=.ok l w
 | [],l,h,w=>by simp[EB]at h;subst h;rfl
 | f::fs,l,h,w=>by
  simp only[EB,ft]at h
  obtain⟨n,hn,r,hr,h⟩:=h
  injection h with h
  subst h
  have ih:=GW hr w
  simp only[List.mapM_cons,Sem.run_bind,Ap hn,Sem.run_pure,Result.andThen_ok,ih]
theorem S5{t:TypeId}{parts:List (Nat×AV)}{parts':Array (Nat×Value)}{v:AV}(h:FA P t parts=some v)
  (hm:parts.map (·.1)=parts'.toList.map (·.1)) (hv:AK ρ (parts.map (·.2)) (parts'.toList.map (·.2))) (w:World):
  ∃v',(Instr.build t parts').run P w=.ok v' w∧AL ρ v v':=by
 unfold FA at h
 simp only[ft]at h
 obtain⟨z,hz,h⟩:=h
 obtain⟨z',hz',hzr⟩:=Hh (w:=w) ρ hz
 split at h<;>first | (cases h;done) | skip
 ·rename_i fields hf
  simp only[ft]at h
  obtain⟨places,hpl,l,hl,h⟩:=h
  injection h with h
  subst h
  have hpl':=GW hpl w
  obtain⟨l',h1,h2⟩:=Ju (place':=fun i=>(places.toArray)[i]?) (fun i p hp=>by simpa using hp) hl hzr.cells hm hv
  refine⟨.agg l',?_,.agg h2⟩
  have hma:(fields.mapM fun f=>do pure (f.offset,← sizeOf f.type):Sem (Array (Nat×Nat))).run P w=.ok places.toArray w:=by
   rw[Array.mapM_eq_mapM_toList,Sem.run_map,hpl']
   rfl
  simp only[Instr.build,Sem.run_bind,hz',Result.andThen_ok,AG hf,hma,h1,Sem.run_pure]
 ·rename_i len e hf
  simp only[ft]at h
  obtain⟨n,hn,l,hl,h⟩:=h
  injection h with h
  subst h
  obtain⟨l',h1,h2⟩:=Ju (place':=fun i=>some (i * n,n)) (fun i p hp=>hp) hl hzr.cells hm hv
  refine⟨.agg l',?_,.agg h2⟩
  simp only[Instr.build,Sem.run_bind,hz',Result.andThen_ok,AG hf,Ap hn,h1,Sem.run_pure]
theorem M1      {z : AV} {z' : Value} {n c : Nat} (hz : AL   ρ z z') (hl : z.cells.length = n) :
    AK ρ (QG z.cells c) (((Array.range (c * n)).map (z'.cells[· % z'.cells.size]!)).toList):=by
  have hc:=hz.cells
  have hlen:z'.cells.size=n:=by have:=hc.length;simp at this;omega
  have hrl:∀c,(QG z.cells c).length=c * n:=by
    intro c
    induction c with
    | zero=>simp[QG]
    | succ c ih=>simp[QG,ih,hl,gW];omega
  have hrg:∀ (c k:Nat),k<c * n→(QG z.cells c)[k]? = z.cells[k % n]? := by
    intro c
    induction c with
    | zero=>intro k hk;omega
    | succ c ih =>
      intro k hk
      simp only[QG]
      by_cases h1:k<n
      · rw[gi (by omega),gT h1]
      · rw [gj                         (by omega), hl, ih (k - n) (by rw [gW]           at hk; omega)]
        rw[← Nat.mod_eq_sub_mod (by omega)]
  refine AK.of_get (by simp[hrl]) ?_
  intro k v v' hv hv'
  have hk:k<c * n:=by
    rcases fv k (c * n)with h | h
    · exact h
    · rw[gH (by rw[hrl];omega)]at hv;cases hv
  have hn:0<n:=by
    rcases gq n with h | h
    · subst h;simp at hk
    · exact h
  rw[hrg c k hk]at hv
  obtain⟨u,h1,h2⟩:=hc.get hv
  have:v'=u:=by
    rw[Array.getElem?_toList,Array.getElem?_map,Array.getElem?_range]at hv'
    rw[if_pos hk]at hv'
    simp only[gv]at hv'
    injection hv' with hv'
    rw[← hv',hlen]
    rw[Array.getElem?_toList]at h1
    rw[getElem!_def,h1]
  rw[this]
  exact h2
theorem M9(h:Av P ρ s w)(hf:ρ s.next=none){t:TypeId}{len:Nat}{parts:List (Nat×AV)}{parts':Array (Nat×Value)}{o:AX}(hs:Ak P t len parts=some o)
  (hm:parts.map (·.1)=parts'.toList.map (·.1)) (hv:AK ρ (parts.map (·.2)) (parts'.toList.map (·.2))):
  K7 P ρ s w (Instr.buildSlice t len parts') o (.slice len):=by
 unfold Ak at hs
 split at hs<;>first | (cases hs;done) | skip
 rename_i e he
 simp only[ft]at hs
 obtain⟨n,hn,hs⟩:=hs
 obtain⟨hb,hs⟩:=AA hs
 have hb:len * n≤16777216:=by simpa[fw]using hb
 simp only[ft]at hs
 obtain⟨z,hz,hs⟩:=hs
 obtain⟨hc,hs⟩:=AA hs
 simp only[ft]at hs
 obtain⟨l,hl,hs⟩:=hs
 injection hs with hs
 subst hs
 obtain⟨z',hz',hzr⟩:=Hh (w:=w) ρ hz
 have hz2:=M1 (c:=len) hzr (Ad hc)
 obtain⟨l',h1,h2⟩:=Ju (place':=fun i=>some (i * n,n)) (fun i p hp=>hp) hl hz2 hm hv
 obtain⟨ρ',g1,g2,g3⟩:=GH h hf (e:=e) (sz:=n) h2
 refine⟨.slice (some ⟨w.heap.size,0,none⟩) len len,_,ρ',?_,AL.slice g1 (fu _),g2,g3⟩
 have hbig:¬ len * n > 2 ^ 24:=by omega
 by_cases h0:len * n=0
 ·have hr0:Array.range 0=#[]:=by simp
  rw[h0,hr0]at h1
  simp only[Array.map_empty]at h1
  simp[Instr.buildSlice,AG he,Ap hn,h0,hr0,h1,newRow]
 ·simp[Instr.buildSlice,AG he,Ap hn,hbig,h0,hz',h1,newRow]
theorem Kx(h:Av P ρ s w)(hf:ρ s.next=none){t:TypeId}{l c:AV}{l' c':Value}{o:AX}{m:Made}(hs:Bv P t l c=some (o,m))
  (hl:AL ρ l l') (hc:AL ρ c c'):K7 P ρ s w (Instr.makeSlice t l' c') o m:=by
 unfold Bv at hs
 split at hs<;>first | (cases hs;done) | skip
 rename_i e l0 c0 he
 cases hl;cases hc
 simp only[ft]at hs
 obtain⟨by_,hby,n,hn,hs⟩:=hs
 obtain⟨hb,hs⟩:=AA hs
 simp only[Bool.and_eq_true,fw]at hb
 obtain⟨⟨hlc,hb1⟩,hb2⟩:=hb
 have hlc:=Ad hlc
 subst hlc
 simp only[ft]at hs
 obtain⟨z,hz,hs⟩:=hs
 obtain⟨hc,hs⟩:=AA hs
 injection hs with hs
 injection hs with hs1 hs2
 subst hs1;subst hs2
 obtain⟨z',hz',hzr⟩:=Hh (w:=w) ρ hz
 have hz2:=M1 (c:=l0) hzr (Ad hc)
 obtain⟨i,hi,hi2⟩:=Te (w:=w) hby
 obtain⟨ρ',g1,g2,g3⟩:=GH h hf (e:=e) (sz:=n) hz2
 refine⟨.slice (some ⟨w.heap.size,0,none⟩) l0 l0,_,ρ',?_,AL.slice g1 (fu _),g2,g3⟩
 have hw:IntKind.i64.wrap (l0:Int)=(l0:Int):=JJ (k:=.i64) (n:=Int.ofNat l0) (by simp[BY,fw];omega)
 have hmul:((by_:Int) * (l0:Int))≤1099511627776:=by
  have:((by_ * l0:Nat):Int)≤1099511627776:=by omega
  simpa using this
 have h1:¬ ((l0:Int)<0):=by omega
 have h2:¬ ((i.bytes:Int) * (l0:Int) > 2 ^ 48):=by rw[hi2];omega
 have h3:¬ ((281474976710656:Int)<(i.bytes:Int) * (l0:Int)):=by omega
 by_cases h0:l0 * n=0
 ·have hr0:Array.range 0=#[]:=by simp
  simp[Instr.makeSlice,AG he,asInt,asIntOf,hi,hw,h1,h3,Ap hn,h0,newRow,hr0]
 ·simp[Instr.makeSlice,AG he,asInt,asIntOf,hi,hw,h1,h3,Ap hn,h0,hz',newRow]
end
end
end Go.Proofs.YtfgmceookgelcaaGreatDoor.Am
