/- Binary tries over Nat keys, made for evaluation by the kernel: get, set, and their laws; conditions: none. -/
import GoSem.Dispatch
import Derived.CallsIn
import Derived.Laws.Sem
import Derived.Laws.Entries
import Derived.Laws.Slices
import Derived.Laws.Strings
import Derived.Lib.Hide
namespace Go.Proofs.Ytilhhmkdcoajnaa.Am
noncomputable section
abbrev km := @Option.bind_eq_some_iff
abbrev kn := @List.length_map
abbrev kp := @Nat.le_refl
abbrev kq := @List.mem_of_getElem?
abbrev kr := @List.length_append
abbrev ks := @Nat.lt_or_ge
abbrev ku := @Nat.zero_le
abbrev kv := @List.length_set
abbrev kx := @List.mem_cons_self
abbrev ky := @List.getElem?_eq_getElem
abbrev kz := @List.mem_cons_of_mem
abbrev lA := @Nat.ble_eq
abbrev lD := @Nat.zero_add
abbrev lE := @List.mem_append_left
abbrev lF := @Nat.le_trans
abbrev lG := @List.getElem?_append_left
abbrev lH := @List.getElem?_set
abbrev lI := @List.length_take
abbrev lJ := @Int.natAbs_neg
abbrev lK := @List.getD_eq_getElem?_getD
abbrev lL := @List.getElem?_append_right
abbrev lM := @List.mem_cons
abbrev lO := @List.length_cons
abbrev lP := @Nat.blt_eq
abbrev lQ := @List.getElem?_eq_none
abbrev lR := @Nat.lt_of_lt_of_le
abbrev lS := @List.mem_of_mem_take
abbrev lT := @Int.lt_irrefl
abbrev lU := @List.mem_append_right
abbrev lV := @List.take_append_of_le_length
abbrev lW := @Nat.lt_succ_self
abbrev lX := @List.getElem?_drop
abbrev lY := @Nat.mul_one
abbrev lZ := @List.nil_append
abbrev la := @List.map_append
abbrev lf := @Nat.eq_of_beq_eq_true
abbrev lg := @List.getElem?_map
abbrev lj := @Nat.add_mul
abbrev lk := @List.getElem?_take_of_lt
abbrev ll := @List.foldl_cons
abbrev lm := @List.length_nil
abbrev lp := @Int.neg_neg
abbrev lq := @List.drop_zero
abbrev lr := @Nat.add_assoc
abbrev lw := @List.length_drop
abbrev lx := @List.map_set
abbrev ly := @List.nodup_append
abbrev lz := @List.take_length
abbrev l7 := @Int.natAbs_natCast
abbrev mA := @List.map_cons
abbrev mB := @List.drop_drop
abbrev mC := @List.take_zero
abbrev mD := @List.append_assoc
abbrev mE := @List.append_nil
abbrev mF := @Int.le_refl
abbrev mG := @Nat.le_succ
abbrev mH := @Nat.sub_self
abbrev mI := @Nat.add_zero
abbrev mJ := @Nat.eq_zero_or_pos
abbrev mK := @Nat.mul_le_mul_right
abbrev mL := @List.map_take
abbrev mM := @Nat.lt_trichotomy
abbrev mN := @List.cons_append
abbrev mO := @List.mem_or_eq_of_mem_set
abbrev mP := @List.getElem_of_mem
abbrev mQ := @List.length_replicate
abbrev mR := @List.not_mem_nil
abbrev mS := @List.map_drop
abbrev mT := @Nat.min_eq_left
abbrev mU := @Nat.lt_succ_of_lt
abbrev mV := @List.nodup_cons
abbrev mW := @List.take_take
abbrev mX := @Option.map_some
abbrev mY := @List.getElem?_take
abbrev mZ := @Nat.mul_le_mul
abbrev ma := @Int.ofNat_eq_natCast
abbrev md := @List.getElem?_set_ne
abbrev me := @List.replicate_succ
abbrev mf := @List.drop_eq_nil_of_le
abbrev mg := @Nat.mul_le_mul_left
abbrev mh := @List.mem_of_mem_drop
abbrev mi := @List.take_append_drop
abbrev mj := @List.drop_of_length_le
abbrev ml := @List.pairwise_cons
inductive Ag (α:Type) where
 | leaf
 | node (v:Option α) (l r:Ag α)
namespace Ag
variable{α:Type}
def get:Ag α→Nat→Option α
 | .leaf,_=>none
 | .node v l r,k=>match k with
  | 0=>v
  | k+1=>bif Nat.beq (k % 2) 0 then l.get (k / 2)else r.get (k / 2)
def val:Ag α→Option α
 | .leaf=>none
 | .node v _ _=>v
def left:Ag α→Ag α
 | .leaf=>.leaf
 | .node _ l _=>l
def right:Ag α→Ag α
 | .leaf=>.leaf
 | .node _ _ r=>r
def eg(v:Option α)(l r:Ag α):Ag α:=
 match l with
 | .leaf=>.node v .leaf r
 | .node x a b=>.node v (.node x a b) r
def eh(v:Option α)(l r:Ag α):Ag α:=
 match r with
 | .leaf=>.node v l .leaf
 | .node x a b=>.node v l (.node x a b)
def PI(v:Option α):Nat→Ag α→Nat→Ag α
 | 0,t,_=>t
 | f+1,t,k=>match k with
  | 0=>.node v t.left t.right
  | k+1=>bif Nat.beq (k % 2) 0 then eg t.val (PI v f t.left (k / 2)) t.right
   else eh t.val t.left (PI v f t.right (k / 2))
def put(t:Ag α)(k:Nat)(v:Option α):Ag α:=PI v (k+1) t k
def set(t:Ag α)(k:Nat)(v:α):Ag α:=t.put k (some v)
def del(t:Ag α)(k:Nat):Ag α:=t.put k none
theorem beq_no{a b:Nat}(h:¬ a=b):Nat.beq a b=false:=by
 cases e:Nat.beq a b with
 | false=>rfl
 | true=>exact absurd (lf e) h
theorem YG(v:Option α)(l r:Ag α):eg v l r=.node v l r:=by cases l<;>rfl
theorem YH(v:Option α)(l r:Ag α):eh v l r=.node v l r:=by cases r<;>rfl
theorem K2(t:Ag α):t.get 0=t.val:=by cases t<;>rfl
theorem Dm(t:Ag α)(k:Nat):t.get (k+1)=if k % 2=0 then t.left.get (k / 2)else t.right.get (k / 2):=by
 cases t with
 | leaf=>simp[get,left,right]
 | node v l r =>
  by_cases h:k % 2=0
  ·simp[get,left,h]
  ·have:Nat.beq (k % 2) 0=false:=beq_no h
   simp[get,right,h,this]
theorem Xr       (v : Option α) : ∀ (f : Nat) (t : Ag   α) (k j : Nat), k < f → (PI   v f t k).get j = if j = k then v else t.get j := by
  intro f
  induction f with
  | zero=>intro t k j h;omega
  | succ f ih =>
    intro t k j h
    cases k with
    | zero =>
      cases j with
      | zero=>simp[PI,K2,val]
      | succ j=>simp[PI,Dm,left,right]
    | succ k =>
      by_cases hk:k % 2=0
      · have hb:Nat.beq (k % 2) 0=true:=by rw[hk];rfl
        simp only[PI,hb,cond_true,YG]
        cases j with
        | zero=>simp[K2,val]
        | succ j =>
          by_cases hj:j % 2=0
          · rw[Dm,Dm,if_pos hj,if_pos hj]
            simp only[left]
            rw[ih _ _ _ (by omega)]
            by_cases e:j=k
            · subst e;simp
            · rw[if_neg (by omega),if_neg (by omega)]
          · rw[Dm,Dm,if_neg hj,if_neg hj,if_neg (by omega)]
            simp only[right]
      · have hb:Nat.beq (k % 2) 0=false:=beq_no hk
        simp only[PI,hb,cond_false,YH]
        cases j with
        | zero=>simp[K2,val]
        | succ j =>
          by_cases hj:j % 2=0
          · rw[Dm,Dm,if_pos hj,if_pos hj,if_neg (by omega)]
            simp only[left]
          · rw[Dm,Dm,if_neg hj,if_neg hj]
            simp only[right]
            rw[ih _ _ _ (by omega)]
            by_cases e:j=k
            · subst e;simp
            · rw[if_neg (by omega),if_neg (by omega)]
theorem Su(t:Ag α)(k j:Nat)(v:Option α):(t.put k v).get j=if j=k then v else t.get j:=Xr v _ t k j (by omega)
theorem get_set(t:Ag α)(k j:Nat)(v:α):(t.set k v).get j=if j=k then some v else t.get j:=Su t k j _
theorem get_del(t:Ag α)(k j:Nat):(t.del k).get j=if j=k then none else t.get j:=Su t k j _
def fill(t:Ag α)(k:Nat):List α→Ag α
 | []=>t
 | v::l=>fill (t.set k v) (k+1) l
theorem get_fill(l:List α):∀ (t:Ag α)(k j:Nat),(t.fill k l).get j=if k≤j∧j<k+l.length then l[j - k]? else t.get j:=by
  induction l with
  | nil=>intro t k j;simp[fill];omega
  | cons v l ih =>
    intro t k j
    simp only[fill,ih,get_set,lO]
    by_cases h1:k+1≤j∧j<k+1+l.length
    · rw [if_pos h1, if_pos (by omega), show j - k = (j - (k + 1)) + 1 from by omega]
      rfl
    · rw[if_neg h1]
      by_cases h2:j=k
      · subst h2;simp
      · rw[if_neg h2,if_neg (by omega)]
def take(t:Ag α)(k:Nat):Nat→Option (List α)
 | 0=>some []
 | n+1=>match t.get k with
  | none=>none
  | some v=>match take t (k+1) n with
   | none=>none
   | some l=>some (v::l)
theorem take_length{t:Ag α}{k n:Nat}{l:List α}(h:t.take k n=some l):l.length=n:=by
  induction n generalizing k l with
  | zero=>simp[take]at h;subst h;rfl
  | succ n ih =>
    simp only[take]at h
    split at h
    · cases h
    · split at h
      · cases h
      · rename_i h2;injection h with h;subst h;simp[ih h2]
theorem take_get {t : Ag   α} {k n : Nat} {l : List α} (h : t.take k n = some l) (j : Nat) (hj : j < n) : t.get (k + j) = l[j]? := by
  induction n generalizing k l j with
  | zero=>omega
  | succ n ih =>
    simp only[take]at h
    split at h
    · cases h
    · rename_i v hv
      split at h
      · cases h
      · rename_i l' h2
        injection h with h
        subst h
        cases j with
        | zero=>simpa using hv
        | succ j=>rw[show k+(j+1)=k+1+j from by omega,ih h2 j (by omega)];rfl
end Ag
end
end Go.Proofs.Ytilhhmkdcoajnaa.Am
namespace Go.Proofs.Ytilhhmkdcoajnaa.Am
open Go
noncomputable section
inductive AV where
 | bool (b:Bool)
 | int (k:IntKind) (n:Int)
 | str (s:List Nat)
 | ptr (a:Option (Nat×Nat))
 | slice (a:Option (Nat×Nat)) (len:Nat) (cap:Option Nat)
 | map (r:Option Nat)
 | func (f:FuncId) (first cap:List AV)
 | yield (l:Nat)
 | nilFunc
 | iface (t:TypeId) (v:AV)
 | nilIface
 | agg (cs:List AV)
 | tuple (vs:List AV)
def BE:AV:=.tuple []
def AV.cells:AV→List AV
 | .agg cs=>cs
 | v=>[v]
def AV.isCell:AV→Bool
 | .agg _ | .tuple _=>false
 | _=>true
def A7:List AV→Bool
 | []=>true
 | v::l=>v.isCell && A7 l
inductive am where
 | ro | own | sealed
structure EI where
 elem:TypeId
 sz:Nat
 n:Nat
 c:Ag AV
 spare:Bool
 mode:am
 par:Option Nat
 bytes:Bool
inductive CX where
 | loc (i:Nat)
 | var (j:Nat)
 | const (v:AV)
inductive Made where
 | ptr | slice (n:Nat) | map
structure GO where
 state:LoopState
 pending:Option Code
 fn:FuncId
 var:List AV
 params:Array Tmp
 assign:Code
 body:Code
 dfr:Nat
inductive Cl where
 | row (r:EI)
 | map (es:List (AV×AV×Nat)) (clock:Nat)
 | loop (l:GO)
 | mark
 | iter (s:List Nat) (pos:Nat)
structure AG where
 next:Nat
 heap:Ag Cl
def IM:Value→Option AV
 | .bool b=>some (.bool b)
 | .int k n=>some (.int k n)
 | .string s=>some (.str (s.data.toList.map (fun(b:UInt8)=>b.toNat)))
 | .pointer none=>some (.ptr none)
 | .slice none 0 0=>some (.slice none 0 (some 0))
 | .map none=>some (.map none)
 | .nilFunc=>some .nilFunc
 | .nilIface=>some .nilIface
 | _=>none
def En:List Value→Option (List AV)
 | []=>some []
 | v::l=>(IM v).bind fun a=>(En l).bind fun r=>some (a::r)
def ofValue:Value→Option AV
 | .agg cs=>(En cs.toList).bind fun l=>some (.agg l)
 | .tuple vs=>(En vs.toList).bind fun l=>some (.tuple l)
 | v=>IM v
def AI{α:Type}(b:Bool)(x:Option α):Option α:=bif b then x else none
def EX{α:Type}(P:Program):Sem α→Option α
 | .pure a=>some a
 | .program k=>EX P (k P)
 | .mark _ k=>EX P k
 | _=>none
def Bx(k:IntKind):Int→Bool
 | .ofNat m=>match k with
  | .i64=>Nat.ble m 9223372036854775807
  | .u64=>Nat.ble m 18446744073709551615
  | .i32=>Nat.ble m 2147483647
  | .u32=>Nat.ble m 4294967295
  | .u8=>Nat.ble m 255
  | .i8=>Nat.ble m 127
  | .u16=>Nat.ble m 65535
  | .i16=>Nat.ble m 32767
 | .negSucc m=>match k with
  | .i64=>Nat.ble m 9223372036854775807
  | .i32=>Nat.ble m 2147483647
  | .i8=>Nat.ble m 127
  | .i16=>Nat.ble m 32767
  | _=>false
def DZ(k:IntKind)(n:Int):Int:=bif Bx k n then n else k.wrap n
def On:Int→Int→Bool
 | .ofNat a,.ofNat b=>Nat.blt a b
 | .ofNat _,.negSucc _=>false
 | .negSucc _,.ofNat _=>true
 | .negSucc a,.negSucc b=>Nat.blt b a
def Tc:Int→Int→Bool
 | .ofNat a,.ofNat b=>Nat.beq a b
 | .negSucc a,.negSucc b=>Nat.beq a b
 | _,_=>false
def Ov:Int→Option Nat
 | .ofNat m=>some m
 | .negSucc _=>none
def GL:List Nat→List Nat→Bool
 | [],[]=>true
 | a::x,b::y=>bif Nat.beq a b then GL x y else false
 | _,_=>false
def La:List Nat→List Nat→Bool
 | _,[]=>false
 | [],_::_=>true
 | a::x,b::y=>bif Nat.blt a b then true else bif Nat.beq a b then La x y else false
def TF(op:BinOp)(x y:List Nat):Option AV:=
 match op with
 | .add=>AI (Nat.ble (x.length+y.length) 1152921504606846976) (some (.str (x++y)))
 | .eql=>some (.bool (GL x y))
 | .neq=>some (.bool (!GL x y))
 | .lss=>some (.bool (La x y))
 | .leq=>some (.bool (La x y || GL x y))
 | .gtr=>some (.bool (!(La x y || GL x y)))
 | .geq=>some (.bool (!La x y))
 | _=>none
def Fy(P:Program)(t:TypeId):Option Bool:=
 match P.underlying t with
 | some (.struct _) | some (.array _ _)=>some true
 | some _=>some false
 | none=>none
def BD(P:Program)(t:TypeId):Option Nat:=match P.info? t with
 | some i=>some i.size
 | none=>none
def CL(P:Program)(t:TypeId):Option AV:=match P.info? t with
 | some i=>match i.zero with
  | some v=>ofValue v
  | none=>none
 | none=>none
def Cf(P:Program)(t:TypeId):Option Nat:=match P.info? t with
 | some i=>some i.bytes
 | none=>none
def rowAt(s:AG)(i:Nat):Option EI:=match s.heap.get i with
 | some (.row r)=>some r
 | _=>none
def newObj(s:AG)(o:Cl):AG:={ next:=s.next+1,heap:=s.heap.set s.next o }
def AO(elem:TypeId)(sz:Nat)(cells:List AV):Cl:=
 .row { elem,sz,n:=cells.length,c:=Ag.fill .leaf 0 cells,spare:=false,mode:=.own,par:=none,bytes:=false }
def setObj(s:AG)(i:Nat)(o:Cl):AG:={ s with heap:=s.heap.set i o }
def CV(s:AG)(i:Nat):AG:={ s with heap:=s.heap.del i }
def loadN(s:AG)(i off n:Nat):Option (List AV):=
 (rowAt s i).bind fun r=>AI (Nat.ble (off+n) r.n) (r.c.take off n)
def load1(s:AG)(i off:Nat):Option AV:=
 (rowAt s i).bind fun r=>AI (Nat.blt off r.n) (r.c.get off)
def Al(s:AG)(i:Nat)(r:EI):AG:=match r.par with
 | none=>s
 | some p=>bif Nat.beq p i then s else CV s p
def EK:am→Bool
 | .own=>true
 | _=>false
def B7(s:AG)(i off:Nat)(vs:List AV):Option AG:=
 match vs with
 | []=>some s
 | _::_=>(rowAt s i).bind fun r =>
  AI (EK r.mode && Nat.ble (off+vs.length) r.n && A7 vs)
   (some (setObj (Al s i r) i (.row { r with c:=r.c.fill off vs,par:=none })))
def AC(P:Program)(s:AG)(t:TypeId):AV→Option AV
 | .ptr (some (i,o))=>(Fy P t).bind fun g=>match g with
  | true=>(BD P t).bind fun n=>(loadN s i o n).bind fun l=>some (.agg l)
  | false=>load1 s i o
 | _=>none
def AN(P:Program)(s:AG)(t:TypeId)(a v:AV):Option AG:=
 match a with
 | .ptr (some (i,o))=>(BD P t).bind fun n=>AI (Nat.beq v.cells.length n) (B7 s i o v.cells)
 | _=>none
def Gh(P:Program)(t:TypeId):Bool:=match P.underlying t with
 | some (.pointer _)=>true
 | _=>false
def Fj(P:Program)(t:TypeId):Bool:=match P.underlying t with
 | some (.slice _)=>true
 | _=>false
def NV(P:Program)(t:TypeId):Bool:=match P.underlying t with
 | some (.map ..)=>true
 | _=>false
def IE(P:Program)(t:TypeId):Bool:=match P.underlying t with
 | some (.func ..)=>true
 | _=>false
def NT(P:Program)(t:TypeId):Bool:=match P.underlying t with
 | some .bool=>true
 | _=>false
def Y1(P:Program)(t:TypeId):AV→AV→Option Bool
 | .bool a,.bool b=>AI (NT P t) (some (a == b))
 | .ptr none,.ptr b=>AI (Gh P t) (some b.isNone)
 | .ptr a,.ptr none=>AI (Gh P t) (some a.isNone)
 | .slice none _ _,.slice b _ _=>AI (Fj P t) (some b.isNone)
 | .slice a _ _,.slice none _ _=>AI (Fj P t) (some a.isNone)
 | .map none,.map b=>AI (NV P t) (some b.isNone)
 | .map a,.map none=>AI (NV P t) (some a.isNone)
 | .nilFunc,.nilFunc=>AI (IE P t) (some true)
 | .func ..,.nilFunc=>AI (IE P t) (some false)
 | .nilFunc,.func ..=>AI (IE P t) (some false)
 | _,_=>none
def Bb:IntKind→IntKind→Bool
 | .i8,.i8 | .i16,.i16 | .i32,.i32 | .i64,.i64 | .u8,.u8 | .u16,.u16 | .u32,.u32 | .u64,.u64=>true
 | _,_=>false
def Xy(P:Program)(op:BinOp)(k:IntKind)(a b:Int):Option AV:=
 match op with
 | .add=>some (.int k (DZ k (a+b)))
 | .sub=>some (.int k (DZ k (a - b)))
 | .mul=>some (.int k (DZ k (a * b)))
 | .eql=>some (.bool (Tc a b))
 | .neq=>some (.bool (!Tc a b))
 | .lss=>some (.bool (On a b))
 | .leq=>some (.bool (!On b a))
 | .gtr=>some (.bool (On b a))
 | .geq=>some (.bool (!On a b))
 | .quo | .rem=>(EX P (Op.intDiv op k a b)).bind ofValue
 | .shl | .shr=>none
 | _=>(EX P (Op.intBits op k a b)).bind ofValue
def AM(P:Program)(op:BinOp)(t:TypeId)(x y:AV):Option AV:=
 match x,y with
 | .int k a,.int k' b=>match op with
  | .shl | .shr=>(EX P (Op.shift op k a k' b)).bind ofValue
  | _=>AI (Bb k k') (Xy P op k a b)
 | .str a,.str b=>TF op a b
 | x,y=>match op with
  | .eql=>(Y1 P t x y).bind fun b=>some (.bool b)
  | .neq=>(Y1 P t x y).bind fun b=>some (.bool (!b))
  | _=>none
def NW(P:Program)(t:TypeId):Bool:=match P.underlying t with
 | some (.pointer e)=>(match P.info? e with | some j=>!Nat.beq j.size 0 | none=>false)
 | _=>false
def Dq(s:AG)(i:Nat):Bool:=match rowAt s i with
 | some r=>EK r.mode && r.par.isNone
 | none=>false
def Gt(P:Program)(s:AG)(neg:Bool)(t:TypeId)(x y:AV):Option AV:=
 match x,y with
 | .ptr (some (i,o)),.ptr (some (j,q))=>AI (NW P t && Dq s i && Dq s j) (some (.bool ((Nat.beq i j && Nat.beq o q) != neg)))
 | x,y=>AM P (bif neg then .neq else .eql) t x y
def G3(P:Program)(op:UnOp):AV→Option AV
 | .int k n=>match op with
  | .neg=>some (.int k (DZ k (0 - n)))
  | .xor=>(EX P (Op.unary .xor (.int k n))).bind ofValue
  | _=>none
 | .bool b=>match op with
  | .not=>some (.bool (!b))
  | _=>none
 | _=>none
def Dk(place:Nat→Option (Nat×Nat))(cells:List AV):List (Nat×AV)→Option (List AV)
 | []=>some cells
 | (i,v)::rest=>(place i).bind fun p =>
  AI (Nat.beq v.cells.length p.2 && Nat.ble (p.1+v.cells.length) cells.length)
   (Dk place (cells.take p.1++(v.cells++cells.drop (p.1+v.cells.length))) rest)
def Bt(P:Program):List Field→Option (List (Nat×Nat))
 | []=>some []
 | f::l=>(BD P f.type).bind fun n=>(Bt P l).bind fun r=>some ((f.offset,n)::r)
def Bw(P:Program)(t:TypeId)(parts:List (Nat×AV)):Option AV:=
 (CL P t).bind fun z=>match P.underlying t with
  | some (.struct fields)=>(Bt P fields.toList).bind fun places =>
   (Dk (fun i=>places[i]?) z.cells parts).bind fun l=>some (.agg l)
  | some (.array _ e)=>(BD P e).bind fun n =>
   (Dk (fun i=>some (i * n,n)) z.cells parts).bind fun l=>some (.agg l)
  | _=>none
def J8(l:List AV):Nat→List AV
 | 0=>[]
 | n+1=>l++J8 l n
def Ab(P:Program)(t:TypeId)(len:Nat)(parts:List (Nat×AV)):Option Cl:=
 match P.underlying t with
 | some (.slice e)=>(BD P e).bind fun n=>AI (Nat.ble (len * n) 16777216) <|
  (CL P e).bind fun z=>AI (Nat.beq z.cells.length n) <|
   (Dk (fun i=>some (i * n,n)) (J8 z.cells len) parts).bind fun l=>some (AO e n l)
 | _=>none
def Ck(P:Program)(s:AG)(src dst:TypeId)(x:AV):Option AV:=
 match P.underlying src,P.underlying dst,x with
 | some _,some (.int k),.int _ n=>some (.int k (DZ k n))
 | some _,some .string,.str l=>some (.str l)
 | some (.slice e),some .string,.slice a len _=>match P.underlying e with
  | some (.int .u8)=>match a with
   | none=>some (.str [])
   | some (i,o)=>(loadN s i o len).bind fun l=>(bytesOf l).bind fun b=>some (.str b)
  | _=>none
 | _,_,_=>none
where
 bytesOf:List AV→Option (List Nat)
  | []=>some []
  | .int .u8 (.ofNat n)::l=>AI (Nat.blt n 256) ((bytesOf l).bind fun r=>some (n::r))
  | _::_=>none
def E5:AV→Option Nat
 | .int _ n=>Ov n
 | _=>none
def BA(x:AV)(y:Nat):Option Nat:=(E5 x).bind fun i=>AI (Nat.ble i y) (some i)
def A2(P:Program)(s:AG)(t:TypeId)(x:AV)(lo hi mx:Option AV):Option AV:=
 match x with
 | .str l=>(match mx with | some _=>none | none=>some ()).bind fun _ =>
  (match hi with | some h=>BA h l.length | none=>some l.length).bind fun h =>
  (match lo with | some v=>BA v h | none=>some 0).bind fun o =>
  (match P.underlying t with | some .string=>some () | _=>none).bind fun _=>some (.str ((l.drop o).take (h - o)))
 | .slice a len cap=>match P.underlying t with
  | some (.slice e)=>(BD P e).bind fun n =>
   (match cap with
    | some c=>some c
    | none=>match a with
     | none=>none
     | some (i,o)=>(rowAt s i).bind fun r=>AI (Nat.ble o r.n && Nat.beq n r.sz && !Nat.beq n 0) (some ((r.n - o) / n))).bind fun far =>
   (match mx with | some m=>(BA m far).bind fun c=>AI (cap.isSome || Nat.blt 0 far) (some (some c)) | none=>some cap).bind fun m =>
   (match hi,m with
    | some h,some c=>BA h c
    | some h,none=>BA h far
    | none,some c=>(match mx with | none=>some len | some _=>(fun(_:Nat)=>none) c)
    | none,none=>some len).bind fun h =>
   (match lo with | some v=>BA v h | none=>some 0).bind fun l =>
   some (.slice
    (match a with
     | none=>none
     | some (i,o)=>match m with
      | some c=>bif Nat.beq c l then some (i,o)else some (i,o+l * n)
      | none=>some (i,o+l * n))
    (h - l) (match m with | some c=>some (c - l) | none=>none))
  | _=>none
 | .ptr (some (i,o))=>match P.underlying t with
  | some (.array len e)=>arr len e i o
  | some (.pointer u)=>match P.underlying u with
   | some (.array len e)=>arr len e i o
   | _=>none
  | _=>none
 | _=>none
where
 arr (len:Nat) (e:TypeId) (i o:Nat):Option AV:=(BD P e).bind fun n =>
  (match mx with | some m=>BA m len | none=>some len).bind fun m =>
  (match hi with | some h=>BA h m | none=>match mx with | none=>some len | some _=>none).bind fun h =>
  (match lo with | some v=>BA v h | none=>some 0).bind fun l =>
  some (.slice (some (i,bif Nat.beq m l then o else o+l * n)) (h - l) (some (m - l)))
def AB(P:Program)(t:TypeId)(x:AV)(f:Nat):Option AV:=
 match x with
 | .ptr (some (i,o))=>match P.underlying t with
  | some (.struct fs)=>(fs[f]?).bind fun fd=>(BD P fd.type).bind fun n =>
   AI (!Nat.beq n 0) (some (.ptr (some (i,o+fd.offset))))
  | _=>none
 | _=>none
def S9(P:Program)(t:TypeId)(cs:List AV)(off:Nat):Option AV:=
 (Fy P t).bind fun g=>match g with
  | true=>(BD P t).bind fun n=>some (.agg ((cs.drop off).take n))
  | false=>cs[off]?
def RL(P:Program)(t:TypeId)(x:AV)(f:Nat):Option AV:=
 match x with
 | .agg cs=>match P.underlying t with
  | some (.struct fs)=>(fs[f]?).bind fun fd=>S9 P fd.type cs fd.offset
  | _=>none
 | _=>none
def AD(P:Program)(t:TypeId)(x ix:AV):Option AV:=
 (E5 ix).bind fun k=>match x with
  | .ptr (some (i,o))=>match P.underlying t with
   | some (.array len e)=>(BD P e).bind fun n=>AI (Nat.blt k len) (some (.ptr (some (i,o+k * n))))
   | _=>none
  | .slice (some (i,o)) len _=>match P.underlying t with
   | some (.slice e)=>(BD P e).bind fun n=>AI (Nat.blt k len) (some (.ptr (some (i,o+k * n))))
   | _=>none
  | _=>none
def HX(P:Program)(t:TypeId)(x ix:AV):Option AV:=
 (E5 ix).bind fun k=>match x with
  | .agg cs=>match P.underlying t with
   | some (.array len e)=>(BD P e).bind fun n=>AI (Nat.blt k len) (S9 P e cs (k * n))
   | _=>none
  | .str l=>match P.underlying t with
   | some .string=>(l[k]?).bind fun b=>some (.int .u8 (.ofNat b))
   | _=>none
  | _=>none
def AE:AV→Option AV
 | .ptr none | .nilIface | .nilFunc=>none
 | v=>some v
def Rp(x:AV)(i:Nat):Option AV:=
 match x with
 | .tuple vs=>vs[i]?
 | _=>none
def Ro(c a b:AV):Option AV:=
 match c with
 | .bool true=>some a
 | .bool false=>some b
 | _=>none
def D8(mx:Bool):AV→List AV→Option AV
 | v,[]=>some v
 | .int k a,.int k' b::l=>AI (Bb k k') (D8 mx (.int k (bif (bif mx then On a b else On b a)then b else a)) l)
 | _,_=>none
def K9:AV→AV→Option Bool
 | .int k a,.int k' b=>AI (Bb k k') (some (Tc a b))
 | .str a,.str b=>some (GL a b)
 | .agg a,.agg b=>keysEq a b
 | _,_=>none
where
 keysEq:List AV→List AV→Option Bool
 | [],[]=>some true
 | .int k a::x,.int k' b::y=>AI (Bb k k') ((keysEq x y).bind fun r=>some (Tc a b && r))
 | .str a::x,.str b::y=>(keysEq x y).bind fun r=>some (GL a b && r)
 | _,_=>none
def Dl(k:AV):List (AV×AV×Nat)→Nat→Option (Option (Nat×AV×Nat))
 | [],_=>some none
 | (k',v,b)::l,i=>(K9 k k').bind fun e=>match e with
  | true=>some (some (i,v,b))
  | false=>Dl k l (i+1)
def B2(P:Program)(t:TypeId):AV→Bool
 | .int k _=>match P.underlying t with
  | some (.int k')=>Bb k k'
  | _=>false
 | .str _=>match P.underlying t with
  | some .string=>true
  | _=>false
 | _=>false
def C0(P:Program)(s:AG)(t:TypeId)(m k:AV)(ok:Bool):Option AV:=
 match P.underlying t with
 | some (.map kt et)=>AI (B2 P kt k) <|
  (match m with
   | .map none=>some []
   | .map (some i)=>match s.heap.get i with
    | some (.map es _)=>some es
    | _=>none
   | _=>none).bind fun es=>(Dl k es 0).bind fun r =>
   (match r with
    | some (_,v,_)=>some (v,true)
    | none=>(CL P et).bind fun z=>some (z,false)).bind fun p=>some (bif ok then .tuple [p.1,.bool p.2]else p.1)
 | _=>none
def setNth(es:List (AV×AV×Nat))(i:Nat)(v:AV):List (AV×AV×Nat):=
 match es,i with
 | [],_=>[]
 | (k,_,b)::l,0=>(k,v,b)::l
 | e::l,i+1=>e::setNth l i v
def EH(P:Program)(s:AG)(t:TypeId)(m k v:AV):Option AG:=
 match P.underlying t,m with
 | some (.map kt _),.map (some i)=>AI (B2 P kt k) <| match s.heap.get i with
  | some (.map es clock)=>(Dl k es 0).bind fun r=>match r with
   | some (j,_,_)=>some (setObj s i (.map (setNth es j v) clock))
   | none=>some (setObj s i (.map (es++[(k,v,clock)]) (clock+1)))
  | _=>none
 | _,_=>none
def delNth(es:List (AV×AV×Nat))(i:Nat):List (AV×AV×Nat):=
 match es,i with
 | [],_=>[]
 | _::l,0=>l
 | e::l,i+1=>e::delNth l i
def J1(P:Program)(s:AG)(t:TypeId)(m k:AV):Option AG:=
 match P.underlying t with
 | some (.map kt _)=>AI (B2 P kt k) <| match m with
  | .map none=>some s
  | .map (some i)=>match s.heap.get i with
   | some (.map es clock)=>(Dl k es 0).bind fun r=>match r with
    | some (j,_,_)=>some (setObj s i (.map (delNth es j) clock))
    | none=>some s
   | _=>none
  | _=>none
 | _=>none
def A6(P:Program)(s:AG)(t:TypeId):AV→Option AV
 | .str l=>match P.underlying t with
  | some .string=>some (.int .i64 (.ofNat l.length))
  | _=>none
 | .slice _ n _=>match P.underlying t with
  | some (.slice _)=>some (.int .i64 (.ofNat n))
  | _=>none
 | .map none=>match P.underlying t with
  | some (.map ..)=>some (.int .i64 (.ofNat 0))
  | _=>none
 | .map (some i)=>match P.underlying t with
  | some (.map ..)=>match s.heap.get i with
   | some (.map es _)=>some (.int .i64 (.ofNat es.length))
   | _=>none
  | _=>none
 | _=>none
def TS(P:Program)(s:AG)(t:TypeId):AV→Option AV
 | .slice a _ cap=>match P.underlying t with
  | some (.slice e)=>match cap with
   | some c=>some (.int .i64 (.ofNat c))
   | none=>match a with
    | some (i,o)=>(BD P e).bind fun n=>(rowAt s i).bind fun r=>AI (!r.spare && Nat.ble o r.n && Nat.beq n r.sz && !Nat.beq n 0) (some (.int .i64 (.ofNat ((r.n - o) / n))))
    | none=>none
  | _=>none
 | _=>none
def Made.val(i:Nat):Made→AV
 | .ptr=>.ptr (some (i,0))
 | .slice n=>.slice (some (i,0)) n (some n)
 | .map=>.map (some i)
def Bv(P:Program)(e:TypeId):Option (Cl×Made):=(CL P e).bind fun z=>some (AO e 0 z.cells,.ptr)
def DD(e:TypeId)(v:AV):Option (Cl×Made):=some (AO e 0 v.cells,.ptr)
def HZ(P:Program)(t:TypeId)(l c:AV):Option (Cl×Made):=
 match P.underlying t,l,c with
  | some (.slice e),.int .i64 (.ofNat l),.int .i64 (.ofNat c)=>(Cf P e).bind fun by_=>(BD P e).bind fun n =>
   AI (Nat.beq l c && Nat.ble (by_ * c) 1099511627776 && Nat.ble c 1099511627776) <|
   (CL P e).bind fun z=>AI (Nat.beq z.cells.length n) (some (AO e n (J8 z.cells c),.slice c))
  | _,_,_=>none
def RS(P:Program)(t:TypeId):Bool:=match P.underlying t with
 | some (.int _)=>true
 | _=>false
def ac(s:AG)(i o n size:Nat):Option (List AV):=bif Nat.beq n 0 then some []else loadN s i o (n * size)
def CK(P:Program)(s:AG)(e:TypeId)(size:Nat):AV→Option (Nat×List AV)
 | .int _ (.ofNat n)=>AI (Nat.ble n 1099511627776 && Nat.blt 0 n) ((CL P e).bind fun z=>AI (Nat.beq z.cells.length size) (some (n,J8 z.cells n)))
 | .slice none _ _=>some (0,[])
 | .slice (some (i,o)) n _=>(ac s i o n size).bind fun l=>some (n,l)
 | .str l=>AI (Nat.beq size 1) (some (l.length,l.map fun b=>.int .u8 (.ofNat b)))
 | _=>none
def BG(P:Program)(t:TypeId):Bool:=match P.underlying t with
 | some (.slice _) | some .string=>true
 | _=>false
def Ca(e:TypeId)(sz:Nat)(c:Ag AV)(n:Nat)(par:Option Nat):Cl:=
 .row { elem:=e,sz,n,c,spare:=true,mode:=.own,par,bytes:=false }
def B8(P:Program)(e:TypeId)(size:Nat):Bool:=match CL P e with
 | some z=>Nat.beq z.cells.length size
 | none=>false
def Bg(P:Program)(s:AG)(e:TypeId)(size n:Nat)(cells:List AV):Option (AV×AG):=
 AI (B8 P e size) (some (.slice (some (s.next,0)) n none,newObj s (Ca e size (Ag.fill .leaf 0 cells) cells.length none)))
def CY(s:AG)(i:Nat)(r:EI)(ends:Bool):AG:=
 bif ends then setObj (Al s i r) i (.row { r with mode:=.sealed,par:=none })else CV (Al s i r) i
def DB(P:Program)(s:AG)(e:TypeId)(size i o len:Nat)(src:Nat×List AV)(r:EI)(old:List AV):Option (AV×AG):=
 AI (EK r.mode && B8 P e size) <|
  let ends:=Nat.beq (o+len * size) r.n
  let s2:=CY s i r ends
  some (.slice (some (s.next,0)) (len+src.1) none,
   newObj s2 (Ca e size (bif Nat.beq o 0 then r.c.fill (len * size) src.2 else Ag.fill .leaf 0 (old++src.2)) (old++src.2).length (bif ends then some i else none)))
def Dh(P:Program)(s:AG)(e:TypeId)(size i o len:Nat)(src:Nat×List AV)(r:EI):Option (AV×AG):=
 AI (Nat.beq size r.sz) <|
 bif Nat.ble (o+(len+src.1) * size) r.n then
  (B7 s i (o+len * size) src.2).bind fun s'=>some (.slice (some (i,o)) (len+src.1) none,s')
 else (loadN s i o (len * size)).bind fun old =>
  bif r.spare then DB P s e size i o len src r old else Bg P s e size (len+src.1) (old++src.2)
def DA(P:Program)(s:AG)(e:TypeId)(size i o len c:Nat)(src:Nat×List AV):Option (AV×AG):=
 bif Nat.ble (len+src.1) c then
  (B7 s i (o+len * size) src.2).bind fun s'=>some (.slice (some (i,o)) (len+src.1) (some c),s')
 else (loadN s i o (len * size)).bind fun old=>Bg P s e size (len+src.1) (old++src.2)
def appTo(P:Program)(s:AG)(e:TypeId)(size:Nat)(a:Option (Nat×Nat))(len:Nat)(cap:Option Nat)(src:Nat×List AV):Option (AV×AG):=
 match a with
 | none=>bif Nat.beq src.1 0 then some (.slice none 0 (some 0),s)else Bg P s e size src.1 src.2
 | some (i,o)=>match cap with
  | some c=>DA P s e size i o len c src
  | none=>(rowAt s i).bind fun r=>Dh P s e size i o len src r
def Ad(P:Program)(s:AG)(argTypes:List TypeId)(args:List AV):Option (AV×AG):=
 match argTypes,args with
 | [st,xt],[.slice a len cap,x]=>match P.underlying st with
  | some (.slice e)=>(BD P e).bind fun size=>(Cf P e).bind fun by_ =>
   AI (!Nat.beq size 0 && (match x with | .int ..=>RS P xt | _=>BG P xt)) <|
   (CK P s e size x).bind fun src =>
   AI (A7 src.2 && Nat.ble ((len+src.1) * by_) 1099511627776 && Nat.ble (len+src.1) 1099511627776) <|
   appTo P s e size a len cap src
  | _=>none
 | _,_=>none
def Xf(P:Program)(s:AG)(argTypes:List TypeId)(args:List AV):Option (AV×AG):=
 match argTypes,args with
 | dt::_,[.slice a dl _,x]=>match P.underlying dt with
  | some (.slice e)=>(BD P e).bind fun size =>
   (match x with | .slice _ n _=>some n | .str l=>some l.length | _=>none).bind fun sl =>
   let n:=bif Nat.ble sl dl then sl else dl
   (match x with
    | .slice none _ _=>some []
    | .slice (some (i,o)) _ _=>loadN s i o (n * size)
    | .str l=>AI (Nat.beq size 1) (some ((l.take n).map fun b=>.int .u8 (.ofNat b)))
    | _=>none).bind fun cells =>
   (match a with
    | none=>some s
    | some (i,o)=>B7 s i o cells).bind fun s'=>some (.int .i64 (.ofNat n),s')
  | _=>none
 | _,_=>none
def DO(P:Program)(s:AG)(argTypes:List TypeId)(args:List AV):Option (AV×AG):=
 match argTypes,args with
 | t::_,[x]=>match P.underlying t,x with
  | some (.slice _),.slice none _ _=>some (BE,s)
  | some (.slice _),.slice _ 0 _=>some (BE,s)
  | some (.slice e),.slice (some (i,o)) n _=>(CL P e).bind fun z=>(B7 s i o (J8 z.cells n)).bind fun s'=>some (BE,s')
  | _,_=>none
 | _,_=>none
inductive Sh where
 | p1 (f:AV→Option AV)
 | p2 (f:AV→AV→Option AV)
 | p (f:List AV→Option AV)
 | r1 (f:AG→AV→Option AV)
 | r (f:AG→List AV→Option AV)
 | mk (f:List AV→Option (Cl×Made))
 | e (f:AG→List AV→Option (AV×AG))
 | call (f:FuncId)
 | callv
def Sh.isEff:Sh→Bool
 | .e _ | .call _ | .callv=>true
 | _=>false
def Sh.isRead:Sh→Bool
 | .r1 _ | .r _=>true
 | _=>false
def Rn:List AV→Option AV
 | [c,a,b]=>Ro c a b
 | _=>none
def BU{α:Type}(f:AV→AV→Option α):List AV→Option α
 | [a,b]=>f a b
 | _=>none
def jM{α:Type}(f:AV→AV→AV→Option α):List AV→Option α
 | [a,b,c]=>f a b c
 | _=>none
def AX(x:Option AG):Option (AV×AG):=match x with
 | some s=>some (BE,s)
 | none=>none
def Ai(P:Program)(t:TypeId)(lo hi mx:Bool)(s:AG):List AV→Option AV
 | [x]=>match lo,hi,mx with
  | false,false,false=>A2 P s t x none none none
  | _,_,_=>none
 | [x,a]=>match lo,hi,mx with
  | true,false,false=>A2 P s t x (some a) none none
  | false,true,false=>A2 P s t x none (some a) none
  | _,_,_=>none
 | [x,a,b]=>match lo,hi,mx with
  | true,true,false=>A2 P s t x (some a) (some b) none
  | false,true,true=>A2 P s t x none (some a) (some b)
  | _,_,_=>none
 | [x,a,b,c]=>match lo,hi,mx with
  | true,true,true=>A2 P s t x (some a) (some b) (some c)
  | _,_,_=>none
 | _=>none
def zipIdx(is:List Nat)(l:List AV):List (Nat×AV):=is.zip l
def Gi:Operand→Bool
 | .tmp _=>true
 | _=>false
def YN(P:Program)(op:BinOp)(t:TypeId)(x y:Operand):Option Bool:=match op with
 | .eql=>bif Gi x && Gi y && Gh P t then some false else none
 | .neq=>bif Gi x && Gi y && Gh P t then some true else none
 | _=>none
def BK(P:Program)(o:Op):Option (Sh×List Operand):=
 match o with
 | .move x | .assign x=>some (.p1 some,[x])
 | .pick c a b=>some (.p Rn,[c,a,b])
 | .build t ps=>some (.p (fun l=>Bw P t (zipIdx (ps.toList.map (·.1)) l)),ps.toList.map (·.2))
 | .nilCheck x=>some (.p1 AE,[x])
 | .binOp op t x y _=>match YN P op t x y with
  | some neg=>some (.r (fun s=>BU (Gt P s neg t)),[x,y])
  | none=>some (.p2 (AM P op t),[x,y])
 | .unOp op _ x=>some (.p1 (G3 P op),[x])
 | .makeFunc fn first captured=>match fn with
  | .func f=>some (.p (fun l=>some (.func f (l.take first.size) (l.drop first.size))),first.toList++captured.toList)
  | _=>none
 | .fieldAddr t x f=>some (.p1 (fun x=>AB P t x f),[x])
 | .field t x f=>some (.p1 (fun x=>RL P t x f),[x])
 | .indexAddr t x i=>some (.p2 (AD P t),[x,i])
 | .index t x i=>some (.p2 (HX P t),[x,i])
 | .extract t i=>some (.p1 (fun x=>Rp x i),[t])
 | .load t a=>some (.r1 (fun s a=>AC P s t a),[a])
 | .lookup t m k ok=>some (.r (fun s=>BU (fun m k=>C0 P s t m k ok)),[m,k])
 | .convert src dst x=>some (.r1 (fun s x=>Ck P s src dst x),[x])
 | .slice t x lo hi mx=>some (.r (Ai P t lo.isSome hi.isSome mx.isSome),[x]++lo.toList++hi.toList++mx.toList)
 | .alloc e=>some (.mk (fun l=>match l with | []=>Bv P e | _=>none),[])
 | .box e x=>some (.mk (fun l=>match l with | [v]=>DD e v | _=>none),[x])
 | .buildSlice t len ps=>some (.mk (fun l=>(Ab P t len (zipIdx (ps.toList.map (·.1)) l)).bind fun r=>some (r,.slice len)),ps.toList.map (·.2))
 | .makeMap _ none=>some (.mk (fun l=>match l with | []=>some (.map [] 0,.map) | _=>none),[])
 | .makeSlice t l c=>some (.mk (BU (HZ P t)),[l,c])
 | .store t a x=>some (.e (fun s=>BU (fun a x=>AX (AN P s t a x))),[a,x])
 | .mapUpdate t m k x | .insert t m k x=>some (.e (fun s=>jM (fun m k x=>AX (EH P s t m k x))),[m,k,x])
 | .call { callee,args,argTypes }=>match callee with
  | .value (.func f)=>some (.call f,args.toList)
  | .value x=>some (.callv,x::args.toList)
  | .invoke ..=>none
  | .builtin b=>match b with
   | .len=>match argTypes[0]? with
    | some t=>some (.r (fun s l=>match l with | [x]=>A6 P s t x | _=>none),args.toList)
    | none=>none
   | .cap=>match argTypes[0]? with
    | some t=>some (.r (fun s l=>match l with | [x]=>TS P s t x | _=>none),args.toList)
    | none=>none
   | .min=>some (.p (fun l=>match l with | v::l=>D8 false v l | []=>none),args.toList)
   | .max=>some (.p (fun l=>match l with | v::l=>D8 true v l | []=>none),args.toList)
   | .append=>some (.e (fun s l=>Ad P s argTypes.toList l),args.toList)
   | .copy=>some (.e (fun s l=>Xf P s argTypes.toList l),args.toList)
   | .clear=>some (.e (fun s l=>DO P s argTypes.toList l),args.toList)
   | .delete=>match argTypes[0]? with
    | some t=>some (.e (fun s=>BU (fun m k=>AX (J1 P s t m k))),args.toList)
    | none=>none
   | _=>none
 | _=>none
def jV(t:Nat):Nat:=Nat.shiftLeft 1 t
def Gr:List Operand→Nat
 | []=>0
 | .tmp t::l=>Nat.lor (jV t) (Gr l)
 | _::l=>Gr l
def Kp(P:Program):List Oper→Nat→Nat→Nat
 | [],_,e=>e
 | o::l,wr,e =>
  let rd:=match BK P o.op with
   | some (_,xs)=>Gr xs
   | none=>0
  Kp P l (match o.dst with | some d=>Nat.lor wr (jV d) | none=>wr) (Nat.lor e (Nat.sub rd (Nat.land rd wr)))
def Ei(P:Program):Code→Nat
 | .region _ ops _=>Kp P ops.toList 0 0
 | .seq a b=>Nat.lor (Ei P a) (Ei P b)
 | .cond c a b=>Nat.lor (Gr [c]) (Nat.lor (Ei P a) (Ei P b))
 | .block _ b | .loop b | .scope b=>Ei P b
 | .rangeFunc f ps a b=>Nat.lor (Gr [f]) (Nat.lor (ps.toList.foldl (fun m t=>Nat.lor m (jV t)) 0) (Nat.lor (Ei P a) (Ei P b)))
 | _=>0
def Hc:List ResultVar→Nat
 | []=>0
 | .tmp t::l | .cell t _::l=>Nat.lor (jV t) (Hc l)
def Fb(m:Nat):Nat→Nat→List Nat
 | 0,_=>[]
 | n+1,k=>bif m.testBit k then k::Fb m n (k+1)else Fb m n (k+1)
def DN(fn:Func):Nat:=fn.params.size+fn.nfree
def BH(P:Program)(fn:Func):List Tmp:=
 List.range (DN fn)++match fn.body with
 | none=>[]
 | some c=>Fb (Nat.lor (Ei P c) (Hc fn.results.toList)) (fn.ntmps - DN fn) (DN fn)
def Br:List Tmp→Tmp→Option Nat
 | [],_=>none
 | a::l,t=>bif Nat.beq a t then some 0 else (Br l t).bind fun j=>some (j+1)
def OU(P:Program)(o:Oper):Bool:=match BK P o.op with
 | some (s,_)=>s.isEff
 | none=>true
def TB(b:Array Nat)(done:Nat)(i:Nat):Bool:=Nat.beq (Nat.land (b.getD i 0) done) (b.getD i 0)
def R7(P:Program)(ops:Array Oper)(b:Array Nat):Nat→Nat→List Nat→List Nat→List Nat
 | 0,_,_,acc=>acc.reverse
 | f+1,done,todo,acc =>
  match todo.find? fun i=>TB b done i && !OU P (ops.getD i default)with
  | some i=>R7 P ops b f (done+2 ^ i) (todo.filter fun j=>!Nat.beq j i) (i::acc)
  | none=>match todo.find? fun i=>TB b done i with
   | some i=>R7 P ops b f (done+2 ^ i) (todo.filter fun j=>!Nat.beq j i) (i::acc)
   | none=>acc.reverse
def aQ(P:Program)(ops:Array Oper):List Nat:=R7 P ops (Region.before ops) ops.size 0 (List.range ops.size) []
def F7(P:Program)(o:Oper):List Tmp:=o.dst.toList++((match BK P o.op with
 | some (_,xs)=>xs
 | none=>[]).filterMap fun x:Operand=>match x with
  | .tmp t=>some t
  | _=>none)
def Sy(o:Oper):List Nat:=match o.guard with
 | some (j,_)=>[j]
 | none=>[]
def Np(P:Program)(ops:Array Oper)(b:Array Nat)(before:List Nat)(i:Nat):Bool:=
 let o:=ops.getD i default
 let anc:=b.getD i 0
 Nat.blt i ops.size && !before.contains i &&
 (List.range ops.size).all (fun j=>!anc.testBit j || before.contains j) &&
 o.after.all (fun e=>!Region.binds .any e || before.contains e.on) &&
 before.all (fun j=>!OU P (ops.getD j default) || anc.testBit j) &&
 (Sy o).all (fun j=>anc.testBit j) &&
 before.all (fun j=>let p:=ops.getD j default
  (match o.dst with
   | none=>true
   | some d=>p.dst != some d && (!(F7 P p).contains d || anc.testBit j)) &&
  (match p.dst with
   | none=>true
   | some d=>!(F7 P o).contains d || anc.testBit j))
def E9(P:Program)(ops:Array Oper)(b:Array Nat):List Nat→List Nat→Bool
 | before,[]=>Nat.beq before.length ops.size
 | before,i::l=>Np P ops b before i && E9 P ops b (before++[i]) l
inductive Jo where
 | push | set (j:Nat)
structure GN where
 guard:Option (CX×Bool)
 sh:Sh
 xs:List CX
 ans:CX
structure AA where
 guard:Option (CX×Bool)
 sh:Sh
 xs:List CX
 dst:Jo
 again:List GN
structure Y4 where
 map:List (Tmp×CX)
 cnt:Nat
def EZ:List (Tmp×CX)→Tmp→Option CX
 | [],_=>none
 | (a,x)::l,t=>bif Nat.beq a t then some x else EZ l t
def CN(cnt:Nat):CX→CX
 | .loc p=>.loc (cnt - 1 - p)
 | x=>x
def Ec(vars:List Tmp)(c:Y4)(t:Tmp):Option CX:=
 match EZ c.map t with
 | some x=>some x
 | none=>(Br vars t).bind fun j=>some (.var j)
def FK(vars:List Tmp)(c:Y4):Operand→Option CX
 | .tmp t=>Ec vars c t
 | .const v=>(ofValue v).bind fun a=>some (.const a)
 | .global _=>none
 | .func f=>some (.const (.func f [] []))
def Hb(vars:List Tmp)(c:Y4):List Operand→Option (List CX)
 | []=>some []
 | x::l=>(FK vars c x).bind fun a=>(Hb vars c l).bind fun r=>some (a::r)
def isVar(j:Nat):CX→Bool
 | .var i=>Nat.beq i j
 | _=>false
def IL(j:Nat):List (Tmp×CX)→Bool
 | []=>true
 | (_,x)::l=>!isVar j x && IL j l
def Jx(vars:List Tmp)(later:List (Option Tmp))(o:Oper)(x:CX):Bool:=
 (match o.op with | .move _=>true | _=>false) && o.guard.isNone &&
 (match o.dst with | some d=>(Br vars d).isNone | none=>false) &&
 (match x with
  | .var j=>!(later.any fun d=>match d with
   | some t=>match Br vars t with
    | some i=>Nat.beq i j
    | none=>false
   | none=>false)
  | _=>true)
def HG(cnt:Nat):Option (CX×Bool)→Option (CX×Bool)
 | none=>none
 | some (x,b)=>some (CN cnt x,b)
def IT(cnt:Nat)(r:GN):GN:={ guard:=HG cnt r.guard,sh:=r.sh,xs:=r.xs.map (CN cnt),ans:=CN cnt r.ans }
def Nh(j:Nat)(r:GN):Bool:=(match r.guard with | none=>true | some (x,_)=>!isVar j x) && r.xs.all fun x=>!isVar j x
def Eh(P:Program)(nt:Nat)(vars:List Tmp)(ops:Array Oper)(b:Array Nat)(draw:Bool):List Nat→Y4→List (Nat×GN)→Option (List AA)
  | [],_,_=>some []
  | i::l,c,rs=>(ops[i]?).bind fun o=>(BK P o.op).bind fun sh=>(Hb vars c sh.2).bind fun xs =>
    match (match xs with | [x]=>bif Jx vars (l.map fun j=>(ops.getD j default).dst) o x then some x else none | _=>none),o.dst with
    | some x,some d=>AI (Nat.blt d nt) (Eh P nt vars ops b draw l { c with map:=(d,x)::c.map } rs)
    | _,_ =>
      (match o.guard with
        | none=>some none
        | some (j,want)=>(ops[j]?).bind fun p=>p.dst.bind fun d=>(Ec vars c d).bind fun x=>some (some (x,want))).bind fun g =>
      (match o.dst with
        | none=>some (Jo.push,{ c with cnt:=c.cnt+1 })
        | some d=>AI (Nat.blt d nt) <| match Br vars d with
          | some j=>AI (IL j c.map && rs.all fun r=>Nh j r.2) (some (Jo.set j,c))
          | none=>some (Jo.push,{ map:=(d,.loc c.cnt)::c.map,cnt:=c.cnt+1 })).bind fun q =>
      let ag:=match draw,sh.1.isEff with
        | true,true=>rs.filter fun(r:Nat×GN)=>!(b.getD i 0).testBit r.1
        | _,_=>[]
      let rd:=draw && sh.1.isRead
      AI (!rd || (match q.1 with | .push=>true | .set _=>false)) <|
      (Eh P nt vars ops b draw l q.2 (bif rd then (i,{ guard:=g,sh:=sh.1,xs,ans:=.loc c.cnt })::rs else rs)).bind fun r =>
        some ({ guard:=HG c.cnt g,sh:=sh.1,xs:=xs.map (CN c.cnt),dst:=q.1,again:=ag.map fun(r:Nat×GN)=>IT q.2.cnt r.2 }::r)
inductive Aa where
 | skip
 | ops (l:List AA)
 | seq (a b:Aa)
 | cond (x:CX) (a b:Aa)
 | block (id:Nat) (c:Aa)
 | loop (c:Aa)
 | rangeFunc (fn:FuncId) (f:CX) (params:Array Tmp) (assign body:Code)
 | exit (id:Nat)
 | ret
 | never
def er:Option (List AA)→Aa
 | some l=>.ops l
 | none=>.never
def BB(P:Program)(fn:FuncId)(nt:Nat)(vars:List Tmp):Code→Aa
 | .skip | .label _=>.skip
 | .ret=>.ret
 | .exit id=>.exit id
 | .goto _ | .refuse _=>.never
 | .region _ ops draw=>match draw with
  | false=>er (Eh P nt vars ops #[] false (List.range ops.size) ⟨[],0⟩ [])
  | true=>er (AI (E9 P ops (Region.before ops) [] (aQ P ops)) (Eh P nt vars ops (Region.before ops) true (aQ P ops) ⟨[],0⟩ []))
 | .seq a b=>.seq (BB P fn nt vars a) (BB P fn nt vars b)
 | .cond c a b=>match FK vars ⟨[],0⟩ c with
  | some z=>.cond z (BB P fn nt vars a) (BB P fn nt vars b)
  | none=>.never
 | .block id c=>.block id (BB P fn nt vars c)
 | .loop c=>.loop (BB P fn nt vars c)
 | .scope c=>BB P fn nt vars c
 | .rangeFunc f ps a b=>match FK vars ⟨[],0⟩ f with
  | some x=>.rangeFunc fn x ps a b
  | none=>.never
structure As where
 na:Nat
 nv:Nat
 body:Aa
 results:List (CX×Option TypeId)
def Cm(vars:List Tmp):List ResultVar→Option (List (CX×Option TypeId))
 | []=>some []
 | .tmp t::l=>(Br vars t).bind fun j=>(Cm vars l).bind fun r=>some ((.var j,none)::r)
 | .cell t ty::l=>(Br vars t).bind fun j=>(Cm vars l).bind fun r=>some ((.var j,some ty)::r)
def AR(P:Program)(f:FuncId):Option As:=(P.funcs[f]?).bind fun fn=>fn.body.bind fun c =>
 AI (Nat.ble (DN fn) fn.ntmps) <|
 let vars:=BH P fn
 (Cm vars fn.results.toList).bind fun r =>
  some { na:=DN fn,nv:=vars.length,body:=BB P f fn.ntmps vars c,results:=r }
def S8 (l:List AV):Nat→AV:=
 List.rec (fun _=>BE) (fun a _ ih i=>Nat.rec a (fun i _=>ih i) i) l
def Lj (v:AV) (l:List AV):Nat→List AV:=
 List.rec (fun _=>[]) (fun a l ih i=>Nat.rec (v::l) (fun i _=>a::ih i) i) l
def Da (loc var:List AV) (x:CX):AV:=
 match x with
 | .loc i=>S8 loc i
 | .var j=>S8 var j
 | .const v=>v
def D3 (loc var:List AV) (l:List CX):List AV:=
 List.rec [] (fun x _ ih=>Da loc var x::ih) l
inductive Ly where
 | normal | exit (id:Nat) | ret
structure Ar where
 exit:Ly
 var:List AV
 marks:List Nat
 st:AG
def Fs:AV→AV→Bool
 | .bool a,.bool b=>a == b
 | .int k a,.int k' b=>Bb k k' && Tc a b
 | .str a,.str b=>GL a b
 | .ptr none,.ptr none=>true
 | .ptr (some (i,o)),.ptr (some (j,p))=>Nat.beq i j && Nat.beq o p
 | .slice none n (some c),.slice none n' (some c')=>Nat.beq n n' && Nat.beq c c'
 | .slice none n none,.slice none n' none=>Nat.beq n n'
 | .slice (some (i,o)) n none,.slice (some (j,p)) n' none=>Nat.beq i j && Nat.beq o p && Nat.beq n n'
 | .slice (some (i,o)) n (some c),.slice (some (j,p)) n' (some c')=>Nat.beq i j && Nat.beq o p && Nat.beq n n' && Nat.beq c c'
 | .map none,.map none=>true
 | .map (some i),.map (some j)=>Nat.beq i j
 | .func f a c,.func g b d=>Nat.beq f g && eqAs a b && eqAs c d
 | .nilFunc,.nilFunc=>true
 | .nilIface,.nilIface=>true
 | .yield i,.yield j=>Nat.beq i j
 | .agg a,.agg b=>eqAs a b
 | .tuple a,.tuple b=>eqAs a b
 | _,_=>false
where
 eqAs:List AV→List AV→Bool
 | [],[]=>true
 | a::x,b::y=>Fs a b && eqAs x y
 | _,_=>false
abbrev Y8:=FuncId→List AV→AG→Option (AV×AG)
structure BJ where
 P:Program
 nat:Y8
structure Dy where
 code:Option Nat→Aa→List AV→List Nat→AG→Option Ar
 call:FuncId→List AV→AG→Option (AV×AG)
 round:Nat→List AV→AG→Option (AV×AG)
def GZ(F:Dy)(f:AV)(args:List AV)(s:AG):Option (AV×AG):=
 match f with
 | .func f first cap=>F.call f (first++(args++cap)) s
 | .yield l=>F.round l args s
 | _=>none
def Dx(s:AG)(x:Option AV):Option (AV×AG):=match x with
 | some v=>some (v,s)
 | none=>none
def one{α:Type}(f:AV→Option α):List AV→Option α
 | [a]=>f a
 | _=>none
def Eb(sh:Sh)(xs:List AV)(s:AG):Option AV:=
 match sh with
 | .r1 f=>one (f s) xs
 | .r f=>f s xs
 | _=>none
def Oq(s:AG)(r:Option (Cl×Made)):Option (AV×AG):=match r with
 | some p=>some (p.2.val s.next,newObj s p.1)
 | none=>none
def NP {α:Type} (f:CX→Option α) (xs:List CX):Option α:=List.rec none (fun x _ _=>f x) xs
def Lr {α:Type} (f:CX→CX→Option α) (xs:List CX):Option α:=NP (fun x=>NP (f x) xs.tail) xs
def j7 (f:AV→Option AV) (xs:List CX) (loc var:List AV) (s:AG):Option (AV×AG):=NP (fun x=>Dx s (f (Da loc var x))) xs
def j8 (f:AV→AV→Option AV) (xs:List CX) (loc var:List AV) (s:AG):Option (AV×AG):=Lr (fun x y=>Dx s (f (Da loc var x) (Da loc var y))) xs
def j9 (f:AG→AV→Option AV) (xs:List CX) (loc var:List AV) (s:AG):Option (AV×AG):=NP (fun x=>Dx s (f s (Da loc var x))) xs
def shV (F:Dy) (xs:List CX) (loc var:List AV) (s:AG):Option (AV×AG):=NP (fun x=>GZ F (Da loc var x) (D3 loc var xs.tail) s) xs
def gn (F:Dy) (sh:Sh) (xs:List CX) (loc var:List AV) (s:AG):Option (AV×AG):=
 match sh with
 | .p1 f=>j7 f xs loc var s
 | .p2 f=>j8 f xs loc var s
 | .p f=>Dx s (f (D3 loc var xs))
 | .r1 f=>j9 f xs loc var s
 | .r f=>Dx s (f s (D3 loc var xs))
 | .mk f=>Oq s (f (D3 loc var xs))
 | .e f=>f s (D3 loc var xs)
 | .call f=>F.call f (D3 loc var xs) s
 | .callv=>shV F xs loc var s
def gy(want:Bool):AV→Bool
 | .bool b=>b == want
 | _=>false
def BW (loc var:List AV) (g:Option (CX×Bool)):Bool:=
 match g with
 | none=>true
 | some p=>gy p.2 (Da loc var p.1)
def TD(x:Option AV)(v:AV):Bool:=match x with
 | some u=>Fs u v
 | none=>false
def Fx (s:AG) (loc var:List AV) (r:GN):Bool:=
 !BW loc var r.guard || TD (Eb r.sh (D3 loc var r.xs) s) (Da loc var r.ans)
def ER (s:AG) (loc var:List AV) (l:List GN):Bool:=
 List.rec true (fun r _ ih=>Fx s loc var r && ih) l
abbrev Ua:=List AV→List AV→AG→Option (List AV×AG)
def Cz (ag:List GN) (d:Jo) (k:Ua) (loc var:List AV) (v:AV) (s:AG):Option (List AV×AG):=
 match d with
 | .push=>bif ER s (v::loc) var ag then k (v::loc) var s else none
 | .set j=>bif ER s loc (Lj v var j) ag then k loc (Lj v var j) s else none
def J6 (it:AA) (k:Ua) (loc var:List AV) (r:Option (AV×AG)):Option (List AV×AG):=
 match r with
 | none=>none
 | some p=>Cz it.again it.dst k loc var p.1 p.2
def K8 (F:Dy) (it:AA) (k:Ua) (loc var:List AV) (s:AG):Option (List AV×AG):=
 match BW loc var it.guard with
 | true=>J6 it k loc var (gn F it.sh it.xs loc var s)
 | false=>Cz [] it.dst k loc var BE s
def EU (F:Dy) (l:List AA):Ua:=
 List.rec (fun _ var s=>some (var,s)) (fun it _ ih loc var s=>K8 F it ih loc var s) l
def Ql(l:List AV):Nat→List AV
 | 0=>[]
 | n+1=>match l with
  | []=>BE::Ql [] n
  | a::l=>a::Ql l n
def Bo (P:Program) (s:AG) (var:List AV):List (CX×Option TypeId)→Option (List AV)
 | []=>some []
 | (x,none)::l=>(Bo P s var l).bind fun r=>some (Da [] var x::r)
 | (x,some t)::l=>(AC P s t (Da [] var x)).bind fun v=>(Bo P s var l).bind fun r=>some (v::r)
def Ba:List AV→AV
 | [v]=>v
 | l=>.tuple l
def unmark(s:AG):List Nat→Option AG
 | []=>some s
 | i::l=>match s.heap.get i with
  | some .mark=>unmark (CV s i) l
  | _=>none
def DE:Ly→Option Code
 | .normal=>none
 | .ret=>some .ret
 | .exit id=>some (.exit id)
def Er (vars:List Tmp) (var:List AV):List Tmp→List AV→Option (List AV)
 | [],[]=>some var
 | t::ts,v::vs=>(Br vars t).bind fun j=>Er vars (Lj v var j) ts vs
 | _,_=>none
def Bj(s:AG)(l:Nat):Option GO:=match s.heap.get l with
 | some (.loop r)=>some r
 | _=>none
def HV(P:Program)(f:FuncId)(c:Code):Option Aa:=(P.funcs[f]?).bind fun fn=>some (BB P f fn.ntmps (BH P fn) c)
def FU(P:Program)(f:FuncId):List Tmp:=match P.funcs[f]? with
 | some fn=>BH P fn
 | none=>[]
def Zj(marks:List Nat)(r:Option (List AV×AG)):Option Ar:=match r with
 | some p=>some ⟨.normal,p.1,marks,p.2⟩
 | none=>none
def HI(F:Dy)(rnd:Option Nat)(b:Aa)(r:Ar):Option Ar:=match r.exit with
 | .normal=>F.code rnd b r.var r.marks r.st
 | _=>some r
def Hu(F:Dy)(rnd:Option Nat)(b:Aa)(r:Option Ar):Option Ar:=match r with
 | some r=>HI F rnd b r
 | none=>none
def ON(F:Dy)(rnd:Option Nat)(a b:Aa)(var:List AV)(marks:List Nat)(s:AG)(v:AV):Option Ar:=match v with
 | .bool t=>match t with
  | true=>F.code rnd a var marks s
  | false=>F.code rnd b var marks s
 | _=>none
def Jz(id:Nat)(r:Ar):Option Ar:=match r.exit with
 | .exit id'=>bif Nat.beq id' id then some ⟨.normal,r.var,r.marks,r.st⟩else some r
 | _=>some r
def Kg(id:Nat)(r:Option Ar):Option Ar:=match r with
 | some r=>Jz id r
 | none=>none
def GW(var:List AV)(marks:List Nat)(s:AG)(c:Option Code):Option Ar:=match c with
 | none=>some ⟨.normal,var,marks,s⟩
 | some .ret=>some ⟨.ret,var,marks,s⟩
 | some (.exit id)=>some ⟨.exit id,var,marks,s⟩
 | some _=>none
def RR:LoopState→Bool
 | .busy=>true
 | _=>false
def J4:LoopState→Bool
 | .ready=>true
 | _=>false
def G5(var:List AV)(marks:List Nat)(l:Nat)(q:Option (AV×AG)):Option Ar:=
 q.bind fun q=>(Bj q.2 l).bind fun r=>bif RR r.state then none else
  GW var marks (setObj q.2 l (.loop { r with state:=.exhausted })) r.pending
def FG(F:Dy)(var:List AV)(f:AV)(params:Array Tmp)(assign body:Code)(fn:FuncId)(dfr:Nat)(marks:List Nat)(s:AG):Option Ar:=
 G5 var marks s.next (GZ { F with round:=fun _ _ _=>none } f [.yield s.next] (newObj s (.loop { state:=.ready,pending:=none,fn,var,params,assign,body,dfr })))
def Kh(F:Dy)(rnd:Option Nat)(fn:FuncId)(f:AV)(params:Array Tmp)(assign body:Code)(var:List AV)(marks:List Nat)(s:AG):Option Ar:=
 match rnd with
 | some l=>(Bj s l).bind fun r=>FG F var f params assign body fn r.dfr marks s
 | none=>FG F var f params assign body fn s.next (s.next::marks) (newObj s .mark)
def C7 (F:Dy) (rnd:Option Nat) (c:Aa) (var:List AV) (marks:List Nat) (s:AG):Option Ar:=
 match c with
 | .skip=>some ⟨.normal,var,marks,s⟩
 | .ret=>some ⟨.ret,var,marks,s⟩
 | .exit id=>some ⟨.exit id,var,marks,s⟩
 | .never=>none
 | .ops l=>Zj marks (EU F l [] var s)
 | .seq a b=>Hu F rnd b (F.code rnd a var marks s)
 | .cond x a b=>ON F rnd a b var marks s (Da [] var x)
 | .block id body=>Kg id (F.code rnd body var marks s)
 | .loop body=>Hu F rnd (.loop body) (F.code rnd body var marks s)
 | .rangeFunc fn f params assign body=>Kh F rnd fn (Da [] var f) params assign body var marks s
def Sz:Ly→Bool
 | .normal | .ret=>true
 | .exit _=>false
def J0 (P:Program) (cf:As) (r:Option Ar):Option (AV×AG):=
 r.bind fun r=>bif Sz r.exit then (unmark r.st r.marks).bind fun s=>(Bo P s r.var cf.results).bind fun l=>some (Ba l,s)else none
def GX (P:Program) (F:Dy) (args:List AV) (s:AG) (cf:Option As):Option (AV×AG):=
 cf.bind fun cf=>bif Nat.beq args.length cf.na then J0 P cf (F.code none cf.body (Ql args cf.nv) [] s)else none
def Ji (E:BJ) (F:Dy) (f:FuncId) (args:List AV) (s:AG):Option (AV×AG):=
 match E.nat f args s with
 | some p=>some p
 | none=>GX E.P F args s (AR E.P f)
def IF:Ly→Bool
 | .normal=>true
 | _=>false
def HD:Option Code→LoopState
 | none=>.ready
 | some _=>.done
def IV(l:Nat)(q:Option Ar):Option (AV×AG):=q.bind fun q=>(Bj q.st l).bind fun r =>
 some (.bool (DE q.exit).isNone,setObj q.st l (.loop { r with state:=HD (DE q.exit),pending:=DE q.exit }))
def HC(F:Dy)(l:Nat)(cb:Aa)(q:Option Ar):Option (AV×AG):=q.bind fun q=>bif IF q.exit then
  (Bj q.st l).bind fun r=>bif J4 r.state then IV l (F.code (some l) cb q.var q.marks (setObj q.st l (.loop { r with state:=.busy })))else none
 else none
def Jj (E:BJ) (F:Dy) (l:Nat) (args:List AV) (s:AG):Option (AV×AG):=
 (Bj s l).bind fun r=>(Er (FU E.P r.fn) r.var r.params.toList args).bind fun var =>
  (HV E.P r.fn r.assign).bind fun ca=>(HV E.P r.fn r.body).bind fun cb=>HC F l cb (F.code (some l) ca var [] s)
def jL:Dy:=⟨fun _ _ _ _ _=>none,fun _ _ _=>none,fun _ _ _=>none⟩
def jJ (E:BJ) (F:Dy):Dy:=⟨C7 F,Ji E F,Jj E F⟩
def EN (E:BJ) (n:Nat):Dy:=Nat.rec jL (fun _ F=>jJ E F) n
end
end Go.Proofs.Ytilhhmkdcoajnaa.Am
set_option linter.unusedVariables false
set_option linter.unusedSimpArgs false
namespace Go.Proofs.Ytilhhmkdcoajnaa.Am
open Go
noncomputable section
structure Dy.le(F G:Dy):Prop where
 code:∀ {rnd:Option Nat} {c:Aa} {var:List AV} {marks:List Nat} {s:AG} {r:Ar},F.code rnd c var marks s=some r→G.code rnd c var marks s=some r
 call:∀ {f:FuncId} {aS:List AV} {s:AG} {p:AV×AG},F.call f aS s=some p→G.call f aS s=some p
 round:∀ {l:Nat} {aS:List AV} {s:AG} {p:AV×AG},F.round l aS s=some p→G.round l aS s=some p
section
variable{F G:Dy}
theorem Kj(h:F.le G){f:AV}{aS:List AV}{s:AG}{p:AV×AG}(hc:GZ F f aS s=some p):GZ G f aS s=some p:=by
 unfold GZ at hc ⊢
 split at hc
 ·exact h.call hc
 ·exact h.round hc
 ·cases hc
theorem PJ(h:F.le G){sh:Sh}{xs:List CX}{loc var:List AV}{s:AG}{p:AV×AG}(hc:gn F sh xs loc var s=some p):gn G sh xs loc var s=some p:=by
 cases sh<;>first | exact hc | exact h.call hc | skip
 cases xs with
 | nil=>cases hc
 | cons x xs=>exact Kj h hc
theorem Gj(it:AA)(l:List AA)(loc var:List AV)(s:AG):EU F (it::l) loc var s=K8 F it (EU F l) loc var s:=rfl
theorem IH{k k':Ua}(hk:∀loc var s p,k loc var s=some p→k' loc var s=some p){ag:List GN}{d:Jo}{loc var:List AV}{v:AV}{s:AG}{p:List AV×AG}(h:Cz ag d k loc var v s=some p):Cz ag d k' loc var v s=some p:=by
  cases d with
  | push =>
    simp only[Cz]at h ⊢
    cases hb:ER s (v::loc) var ag with
    | true=>rw[hb]at h;exact hk _ _ _ _ h
    | false=>rw[hb]at h;cases h
  | set j =>
    simp only[Cz]at h ⊢
    cases hb:ER s loc (Lj v var j) ag with
    | true=>rw[hb]at h;exact hk _ _ _ _ h
    | false=>rw[hb]at h;cases h
theorem Gk(h:F.le G):∀ (l:List AA)(loc var:List AV)(s:AG)(p:List AV×AG),EU F l loc var s=some p→EU G l loc var s=some p:=by
 intro l
 induction l with
 | nil=>intro loc var s p hp;exact hp
 | cons it l ih =>
  intro loc var s p hp
  rw[Gj]at hp ⊢
  unfold K8 at hp ⊢
  cases hw:BW loc var it.guard with
  | true =>
   rw[hw]at hp
   simp only at hp ⊢
   unfold J6 at hp ⊢
   cases hs:gn F it.sh it.xs loc var s with
   | none=>rw[hs]at hp;cases hp
   | some q=>rw[hs]at hp;rw[PJ h hs];exact IH ih hp
  | false =>
   rw[hw]at hp
   exact IH ih hp
theorem Ki(h:F.le G){rnd:Option Nat}{b:Aa}{r res:Ar}(hc:HI F rnd b r=some res):HI G rnd b r=some res:=by
 unfold HI at hc ⊢
 split at hc
 ·exact h.code hc
 ·exact hc
theorem Ht(h:F.le G){var:List AV}{f:AV}{params:Array Tmp}{assign body:Code}{fn:FuncId}{dfr:Nat}{marks:List Nat}{s:AG}{res:Ar}
  (hc:FG F var f params assign body fn dfr marks s=some res):FG G var f params assign body fn dfr marks s=some res:=by
 unfold FG G5 at hc ⊢
 simp only[km]at hc ⊢
 obtain⟨q,h1,rest⟩:=hc
 have h':Dy.le { F with round:=fun _ _ _=>none } { G with round:=fun _ _ _=>none }:=⟨h.code,h.call,fun h=>by cases h⟩
 exact⟨q,Kj h' h1,rest⟩
theorem SJ(h:F.le G){rnd:Option Nat}{c:Aa}{var:List AV}{marks:List Nat}{s:AG}{res:Ar}(hc:C7 F rnd c var marks s=some res):C7 G rnd c var marks s=some res:=by
  cases c with
  | skip=>exact hc
  | ret=>exact hc
  | exit id=>exact hc
  | never=>exact hc
  | ops l =>
    simp only[C7,Zj]at hc ⊢
    cases hi:EU F l [] var s with
    | none=>rw[hi]at hc;cases hc
    | some p=>rw[hi]at hc;rw[Gk h _ _ _ _ _ hi];exact hc
  | seq a b =>
    simp only[C7]at hc ⊢
    unfold Hu at hc ⊢
    cases ha:F.code rnd a var marks s with
    | none=>rw[ha]at hc;cases hc
    | some r=>rw[ha]at hc;rw[h.code ha];exact Ki h hc
  | cond x a b =>
    simp only[C7]at hc ⊢
    unfold ON at hc ⊢
    split at hc
    · split at hc
      · exact h.code hc
      · exact h.code hc
    · cases hc
  | block id c =>
    simp only[C7]at hc ⊢
    unfold Kg at hc ⊢
    cases ha:F.code rnd c var marks s with
    | none=>rw[ha]at hc;cases hc
    | some r=>rw[ha]at hc;rw[h.code ha];exact hc
  | loop c =>
    simp only[C7]at hc ⊢
    unfold Hu at hc ⊢
    cases ha:F.code rnd c var marks s with
    | none=>rw[ha]at hc;cases hc
    | some r=>rw[ha]at hc;rw[h.code ha];exact Ki h hc
  | rangeFunc fn f params assign body =>
    simp only[C7]at hc ⊢
    unfold Kh at hc ⊢
    cases rnd with
    | none=>exact Ht h hc
    | some l =>
      simp only[km]at hc ⊢
      obtain⟨r,h1,h2⟩:=hc
      exact⟨r,h1,Ht h h2⟩
theorem SK(h:F.le G){E:BJ}{f:FuncId}{aS:List AV}{s:AG}{p:AV×AG}(hc:Ji E F f aS s=some p):Ji E G f aS s=some p:=by
 unfold Ji at hc ⊢
 cases hn:E.nat f aS s with
 | some q=>rw[hn]at hc;exact hc
 | none =>
  rw[hn]at hc
  simp only at hc ⊢
  unfold GX at hc ⊢
  simp only[km]at hc ⊢
  obtain⟨cf,h1,h2⟩:=hc
  refine⟨cf,h1,?_⟩
  cases hb:Nat.beq aS.length cf.na with
  | false=>rw[hb]at h2;cases h2
  | true =>
   rw[hb]at h2
   simp only[cond_true]at h2 ⊢
   unfold J0 at h2 ⊢
   simp only[km]at h2 ⊢
   obtain⟨r,h3,h4⟩:=h2
   exact⟨r,h.code h3,h4⟩
theorem SL(h:F.le G){E:BJ}{l:Nat}{aS:List AV}{s:AG}{p:AV×AG}(hc:Jj E F l aS s=some p):Jj E G l aS s=some p:=by
 unfold Jj at hc ⊢
 simp only[km]at hc ⊢
 obtain⟨r,h1,var,h2,ca,h3,cb,h4,hc⟩:=hc
 refine⟨r,h1,var,h2,ca,h3,cb,h4,?_⟩
 unfold HC at hc ⊢
 simp only[km]at hc ⊢
 obtain⟨q,h5,hc⟩:=hc
 refine⟨q,h.code h5,?_⟩
 cases hn:IF q.exit with
 | false=>rw[hn]at hc;cases hc
 | true =>
  rw[hn]at hc
  simp only[cond_true,km]at hc ⊢
  obtain⟨r2,h6,hc⟩:=hc
  refine⟨r2,h6,?_⟩
  cases hr:J4 r2.state with
  | false=>rw[hr]at hc;cases hc
  | true =>
   rw[hr]at hc
   simp only[cond_true]at hc ⊢
   unfold IV at hc ⊢
   simp only[km]at hc ⊢
   obtain⟨q2,h7,rest⟩:=hc
   exact⟨q2,h.code h7,rest⟩
end
theorem Nl(E:BJ):∀n,(EN E n).le (EN E (n+1)):=by
 intro n
 induction n with
 | zero=>exact⟨fun h=>(by cases h),fun h=>(by cases h),fun h=>(by cases h)⟩
 | succ n ih=>exact⟨fun h=>SJ ih h,fun h=>SK ih h,fun h=>SL ih h⟩
theorem Dy.le.refl(F:Dy):F.le F:=⟨id,id,id⟩
theorem Dy.le.trans{F G H:Dy}(h:F.le G)(k:G.le H):F.le H:=⟨fun x=>k.code (h.code x),fun x=>k.call (h.call x),fun x=>k.round (h.round x)⟩
theorem GA(E:BJ){n m:Nat}(h:n≤m):(EN E n).le (EN E m):=by
 induction h with
 | refl=>exact Dy.le.refl _
 | step _ ih=>exact ih.trans (Nl E _)
section
variable(E:BJ)
def WC(rnd:Option Nat)(c:Aa)(Q:Ar→Prop)(var:List AV)(marks:List Nat)(s:AG):Prop:=∃n r,(EN E n).code rnd c var marks s=some r∧Q r
def WI(l:List AA)(K:List AV→AG→Prop)(loc var:List AV)(s:AG):Prop:=∃n p,EU (EN E n) l loc var s=some p∧K p.1 p.2
def WF(f:FuncId)(aS:List AV)(K:AV→AG→Prop)(s:AG):Prop:=∃n p,(EN E n).call f aS s=some p∧K p.1 p.2
def WR(l:Nat)(aS:List AV)(K:AV→AG→Prop)(s:AG):Prop:=∃n p,(EN E n).round l aS s=some p∧K p.1 p.2
end
section
variable{E:BJ}{rnd:Option Nat}{Q Q':Ar→Prop}{var loc:List AV}{marks:List Nat}{s:AG}{K K':AV→AG→Prop}{KI:List AV→AG→Prop}
theorem WC.mono{c:Aa}(h:WC E rnd c Q var marks s)(hq:∀r,Q r→Q' r):WC E rnd c Q' var marks s:=let ⟨n,r,h1,h2⟩:=h;⟨n,r,h1,hq r h2⟩
theorem WF.mono{f:FuncId}{aS:List AV}(h:WF E f aS K s)(hq:∀v s',K v s'→K' v s'):WF E f aS K' s:=let ⟨n,r,h1,h2⟩:=h;⟨n,r,h1,hq _ _ h2⟩
theorem WC.skip(h:Q ⟨.normal,var,marks,s⟩):WC E rnd .skip Q var marks s:=⟨1,_,rfl,h⟩
theorem WC.ret(h:Q ⟨.ret,var,marks,s⟩):WC E rnd .ret Q var marks s:=⟨1,_,rfl,h⟩
theorem WC.exit{id:Nat}(h:Q ⟨.exit id,var,marks,s⟩):WC E rnd (.exit id) Q var marks s:=⟨1,_,rfl,h⟩
def TM(E:BJ)(rnd:Option Nat)(b:Aa)(Q:Ar→Prop)(r:Ar):Prop:=match r.exit with
 | .normal=>WC E rnd b Q r.var r.marks r.st
 | _=>Q r
theorem PH{a b:Aa}{n:Nat}{r:Ar}(h1:(EN E n).code rnd a var marks s=some r)(h2:TM E rnd b Q r):∃m res,Hu (EN E m) rnd b ((EN E m).code rnd a var marks s)=some res∧Q res:=by
 unfold TM at h2
 cases he:r.exit with
 | normal =>
  rw[he]at h2
  obtain⟨m,res,h3,h4⟩:=h2
  refine⟨max n m,res,?_,h4⟩
  rw[(GA E (Nat.le_max_left n m)).code h1]
  simp only[Hu,HI,he]
  exact(GA E (Nat.le_max_right n m)).code h3
 | exit id=>rw[he]at h2;exact⟨n,r,by rw[h1];simp only[Hu,HI,he],h2⟩
 | ret=>rw[he]at h2;exact⟨n,r,by rw[h1];simp only[Hu,HI,he],h2⟩
theorem WC.seq{a b:Aa}(h:WC E rnd a (TM E rnd b Q) var marks s):WC E rnd (.seq a b) Q var marks s:=by
 obtain⟨n,r,h1,h2⟩:=h
 obtain⟨m,res,h3,h4⟩:=PH h1 h2
 exact⟨m+1,res,h3,h4⟩
theorem WC.loop{c:Aa}(h:WC E rnd c (TM E rnd (.loop c) Q) var marks s):WC E rnd (.loop c) Q var marks s:=by
 obtain⟨n,r,h1,h2⟩:=h
 obtain⟨m,res,h3,h4⟩:=PH h1 h2
 exact⟨m+1,res,h3,h4⟩
theorem WC.cond{x:CX}{a b:Aa}{t:Bool}(hx:Da [] var x=.bool t)(h:WC E rnd (bif t then a else b) Q var marks s):WC E rnd (.cond x a b) Q var marks s:=by
 obtain⟨n,r,h1,h2⟩:=h
 refine⟨n+1,r,?_,h2⟩
 show C7 (EN E n) rnd (.cond x a b) var marks s=some r
 simp only[C7,ON,hx]
 cases t<;>exact h1
def EC(id:Nat)(Q:Ar→Prop)(r:Ar):Prop:=match r.exit with
 | .exit id'=>bif Nat.beq id' id then Q ⟨.normal,r.var,r.marks,r.st⟩else Q r
 | _=>Q r
theorem WC.block{id:Nat}{c:Aa}(h:WC E rnd c (EC id Q) var marks s):WC E rnd (.block id c) Q var marks s:=by
 obtain⟨n,r,h1,h2⟩:=h
 unfold EC at h2
 have:∃res,Jz id r=some res∧Q res:=by
  unfold Jz
  split at h2
  ·rename_i id' he
   try simp only[he]
   cases hb:Nat.beq id' id with
   | true=>rw[hb]at h2;exact⟨_,rfl,h2⟩
   | false=>rw[hb]at h2;exact⟨_,rfl,h2⟩
  ·rename_i hne
   cases he:r.exit with
   | normal=>exact⟨r,rfl,h2⟩
   | ret=>exact⟨r,rfl,h2⟩
   | exit id'=>exact absurd he (hne id')
 obtain⟨res,h3,h4⟩:=this
 refine⟨n+1,res,?_,h4⟩
 show C7 (EN E n) rnd (.block id c) var marks s=some res
 simp only[C7,Kg,h1,h3]
theorem WC.ops{l:List AA}(h:WI E l (fun v s'=>Q ⟨.normal,v,marks,s'⟩) [] var s):WC E rnd (.ops l) Q var marks s:=by
 obtain⟨n,p,h1,h2⟩:=h
 refine⟨n+1,⟨.normal,p.1,marks,p.2⟩,?_,h2⟩
 show C7 (EN E n) rnd (.ops l) var marks s=_
 simp only[C7,Zj,h1]
theorem WI.nil(h:KI var s):WI E [] KI loc var s:=⟨0,_,rfl,h⟩
def hU(E:BJ)(ag:List GN)(d:Jo)(l:List AA)(KI:List AV→AG→Prop)(loc var:List AV)(v:AV)(s:AG):Prop:=match d with
 | .push=>ER s (v::loc) var ag=true∧WI E l KI (v::loc) var s
 | .set j=>ER s loc (Lj v var j) ag=true∧WI E l KI loc (Lj v var j) s
theorem Ss{ag:List GN}{d:Jo}{l:List AA}{v:AV}(h:hU E ag d l KI loc var v s):∃n p,(∀m,n≤m→Cz ag d (EU (EN E m) l) loc var v s=some p)∧KI p.1 p.2:=by
 cases d with
 | push =>
  obtain⟨h1,n,p,h2,h3⟩:=h
  exact⟨n,p,fun m hm=>by simp only[Cz,h1,cond_true];exact Gk (GA E hm) _ _ _ _ _ h2,h3⟩
 | set j =>
  obtain⟨h1,n,p,h2,h3⟩:=h
  exact⟨n,p,fun m hm=>by simp only[Cz,h1,cond_true];exact Gk (GA E hm) _ _ _ _ _ h2,h3⟩
theorem WI.item{it:AA}{l:List AA}{n:Nat}{p:AV×AG}(hw:BW loc var it.guard=true)(hs:gn (EN E n) it.sh it.xs loc var s=some p)(h:hU E it.again it.dst l KI loc var p.1 p.2):WI E (it::l) KI loc var s:=by
 obtain⟨m,q,h1,h2⟩:=Ss h
 refine⟨max n m,q,?_,h2⟩
 rw[Gj]
 unfold K8
 rw[hw]
 simp only[J6,PJ (GA E (Nat.le_max_left n m)) hs]
 exact h1 _ (Nat.le_max_right n m)
theorem WI.off{it:AA}{l:List AA}(hw:BW loc var it.guard=false)(h:hU E [] it.dst l KI loc var BE s):WI E (it::l) KI loc var s:=by
 obtain⟨m,q,h1,h2⟩:=Ss h
 refine⟨m,q,?_,h2⟩
 rw[Gj]
 unfold K8
 rw[hw]
 exact h1 _ (kp m)
def Ends(P:Program)(rs:List (CX×Option TypeId))(K:AV→AG→Prop)(r:Ar):Prop:=Sz r.exit=true∧∃s',unmark r.st r.marks=some s'∧∃l,Bo P s' r.var rs=some l∧K (Ba l) s'
theorem WF.body{f:FuncId}{aS:List AV}{cf:As}(hn:E.nat f aS s=none)(hf:AR E.P f=some cf)(ha:aS.length=cf.na)(h:WC E none cf.body (Ends E.P cf.results K) (Ql aS cf.nv) [] s):WF E f aS K s:=by
 obtain⟨n,r,h1,h2,s',h3,l,h4,h5⟩:=h
 refine⟨n+1,(Ba l,s'),?_,h5⟩
 show Ji E (EN E n) f aS s=_
 simp[Ji,hn,GX,hf,ha,J0,h1,h2,h3,h4]
end
def T5{α:Type}(x:Option α)(K:α→Prop):Prop:=match x with
 | some v=>K v
 | none=>False
theorem Qm{α:Type}(v:α)(K:α→Prop):T5 (some v) K=K v:=Eq.trans rfl rfl
section
variable(E:BJ)
def Qe(f:AV)(aS:List AV)(K:AV→AG→Prop)(s:AG):Prop:=match f with
 | .func f first cap=>WF E f (first++(aS++cap)) K s
 | .yield l=>WR E l aS K s
 | _=>False
def Qc(sh:Sh)(xs:List AV)(K:AV→AG→Prop)(s:AG):Prop:=match sh with
 | .p1 f=>match xs with
  | a::_=>T5 (f a) (fun v=>K v s)
  | []=>False
 | .p2 f=>match xs with
  | a::b::_=>T5 (f a b) (fun v=>K v s)
  | _=>False
 | .p f=>T5 (f xs) (fun v=>K v s)
 | .r1 f=>match xs with
  | a::_=>T5 (f s a) (fun v=>K v s)
  | []=>False
 | .r f=>T5 (f s xs) (fun v=>K v s)
 | .mk f=>T5 (f xs) (fun p=>K (p.2.val s.next) (newObj s p.1))
 | .e f=>T5 (f s xs) (fun p=>K p.1 p.2)
 | .call f=>WF E f xs K s
 | .callv=>match xs with
  | f::aS=>Qe E f aS K s
  | []=>False
def Qh (loc var:List AV):List CX→List AV
 | []=>[]
 | x::l=>Da loc var x::Qh loc var l
def Qn(s:AG)(loc var:List AV):List GN→Prop
 | []=>True
 | r::l=>Fx s loc var r=true∧Qn s loc var l
def Qd(ag:List GN)(d:Jo)(loc var:List AV)(k:List AV→List AV→AG→Prop)(v:AV)(s:AG):Prop:=match d with
 | .push=>Qn s (v::loc) var ag∧k (v::loc) var s
 | .set j=>Qn s loc (Lj v var j) ag∧k loc (Lj v var j) s
def Sq(v:AV)(x y:List AV→List Nat→AG→Prop)(var:List AV)(marks:List Nat)(s:AG):Prop:=match v with
 | .bool true=>x var marks s
 | .bool false=>y var marks s
 | _=>False
def IZ(k:List AV→List Nat→AG→Prop)(Q:Ar→Prop)(r:Ar):Prop:=match r.exit with
 | .normal=>k r.var r.marks r.st
 | _=>Q r
def kC(b:Bool)(sh:Sh)(xs:List AV)(ag:List GN)(d:Jo)(loc var:List AV)(k:List AV→List AV→AG→Prop)(s:AG):Prop:=match b with
 | true=>Qc E sh xs (Qd ag d loc var k) s
 | false=>Qd [] d loc var k BE s
def Qb:List AA→(List AV→AG→Prop)→List AV→List AV→AG→Prop
 | [],K,_,var,s=>K var s
 | it::l,K,loc,var,s=>kC E (BW loc var it.guard) it.sh (Qh loc var it.xs) it.again it.dst loc var (Qb l K) s
def Qa(rnd:Option Nat):Aa→(Ar→Prop)→List AV→List Nat→AG→Prop
 | .skip,Q,var,marks,s=>Q ⟨.normal,var,marks,s⟩
 | .ret,Q,var,marks,s=>Q ⟨.ret,var,marks,s⟩
 | .exit id,Q,var,marks,s=>Q ⟨.exit id,var,marks,s⟩
 | .never,_,_,_,_=>False
 | .ops l,Q,var,marks,s=>Qb E l (fun v s'=>Q ⟨.normal,v,marks,s'⟩) [] var s
 | .seq a b,Q,var,marks,s=>Qa rnd a (IZ (Qa rnd b Q) Q) var marks s
 | .cond x a b,Q,var,marks,s=>Sq (Da [] var x) (Qa rnd a Q) (Qa rnd b Q) var marks s
 | .block id c,Q,var,marks,s=>Qa rnd c (EC id Q) var marks s
 | .loop c,Q,var,marks,s=>WC E rnd (.loop c) Q var marks s
 | .rangeFunc fn f ps a b,Q,var,marks,s=>WC E rnd (.rangeFunc fn f ps a b) Q var marks s
end
section
variable{E:BJ}{rnd:Option Nat}{Q Q':Ar→Prop}{var loc:List AV}{marks:List Nat}{s:AG}{K K':AV→AG→Prop}{KI:List AV→AG→Prop}
theorem Ns:∀ (l:List CX),Qh loc var l=D3 loc var l
 | []=>rfl
 | x::l=>by show Da loc var x::Qh loc var l=Da loc var x::D3 loc var l;rw[Ns l]
theorem KL:∀ {l:List GN},Qn s loc var l→ER s loc var l=true
 | [],_=>rfl
 | r::l,h=>by show(Fx s loc var r && ER s loc var l)=true;rw[h.1,KL h.2];rfl
theorem F8{α:Type}{x:Option α}{K:α→Prop}(h:T5 x K):∃v,x=some v∧K v:=by
 cases x with
 | none=>exact h.elim
 | some v=>exact⟨v,rfl,h⟩
theorem aj{f:AV}{aS:List AV}(h:Qe E f aS K s):∃n p,GZ (EN E n) f aS s=some p∧K p.1 p.2:=by
 cases f with
 | func f first cap=>obtain⟨n,p,h1,h2⟩:=h;exact⟨n,p,h1,h2⟩
 | yield l=>obtain⟨n,p,h1,h2⟩:=h;exact⟨n,p,h1,h2⟩
 | _=>exact h.elim
theorem ai      {sh : Sh} {xs : List CX} (h : Qc E sh (Qh loc var xs) K s) : ∃ n p, gn  (EN   E n) sh xs loc var s = some p ∧ K p.1 p.2 := by
  rw[Ns]at h
  cases sh with
  | p1 f =>
    cases xs with
    | nil=>exact h.elim
    | cons x l =>
      obtain⟨v,h1,h2⟩:=F8 h
      exact⟨0,(v,s),by show Dx s (f (Da loc var x))=_;rw[h1];rfl,h2⟩
  | p2 f =>
    cases xs with
    | nil=>exact h.elim
    | cons x l =>
      cases l with
      | nil=>exact h.elim
      | cons y l =>
        obtain⟨v,h1,h2⟩:=F8 h
        exact⟨0,(v,s),by show Dx s (f (Da loc var x) (Da loc var y))=_;rw[h1];rfl,h2⟩
  | p f =>
    obtain⟨v,h1,h2⟩:=F8 h
    exact⟨0,(v,s),by show Dx s (f (D3 loc var xs))=_;rw[h1];rfl,h2⟩
  | r1 f =>
    cases xs with
    | nil=>exact h.elim
    | cons x l =>
      obtain⟨v,h1,h2⟩:=F8 h
      exact⟨0,(v,s),by show Dx s (f s (Da loc var x))=_;rw[h1];rfl,h2⟩
  | r f =>
    obtain⟨v,h1,h2⟩:=F8 h
    exact⟨0,(v,s),by show Dx s (f s (D3 loc var xs))=_;rw[h1];rfl,h2⟩
  | mk f =>
    obtain⟨v,h1,h2⟩:=F8 h
    exact⟨0,(v.2.val s.next,newObj s v.1),by show Oq s (f (D3 loc var xs))=_;rw[h1];rfl,h2⟩
  | e f =>
    obtain⟨v,h1,h2⟩:=F8 h
    exact⟨0,v,h1,h2⟩
  | call f=>obtain⟨n,p,h1,h2⟩:=h;exact⟨n,p,h1,h2⟩
  | callv =>
    cases xs with
    | nil=>exact h.elim
    | cons x l=>exact aj h
theorem ah:∀ {l:List AA}{loc var:List AV}{s:AG},Qb E l KI loc var s→WI E l KI loc var s:=by
 intro l
 induction l with
 | nil=>intro loc var s h;exact WI.nil h
 | cons it l ih =>
  intro loc var s h
  have dst:∀ {ag:List GN} {v:AV} {s:AG},Qd ag it.dst loc var (Qb E l KI) v s→hU E ag it.dst l KI loc var v s:=by
   intro ag v s h
   unfold Qd at h
   unfold hU
   cases hd:it.dst with
   | push=>rw[hd]at h;exact⟨KL h.1,ih h.2⟩
   | set j=>rw[hd]at h;exact⟨KL h.1,ih h.2⟩
  unfold Qb at h
  cases hw:BW loc var it.guard with
  | true =>
   rw[hw]at h
   have h:Qc E it.sh (Qh loc var it.xs) (Qd it.again it.dst loc var (Qb E l KI)) s:=h
   obtain⟨n,p,h1,h2⟩:=ai h
   exact WI.item hw h1 (dst h2)
  | false =>
   rw[hw]at h
   have h:Qd [] it.dst loc var (Qb E l KI) BE s:=h
   exact WI.off hw (dst h)
theorem KD:∀ {c:Aa}{Q:Ar→Prop}{var:List AV}{marks:List Nat}{s:AG},Qa E rnd c Q var marks s→WC E rnd c Q var marks s:=by
 intro c
 induction c with
 | skip=>intro Q var marks s h;exact WC.skip h
 | ret=>intro Q var marks s h;exact WC.ret h
 | exit id=>intro Q var marks s h;exact WC.exit h
 | never=>intro Q var marks s h;exact h.elim
 | ops l=>intro Q var marks s h;exact WC.ops (ah h)
 | seq a b iha ihb =>
  intro Q var marks s h
  refine WC.seq ((iha h).mono ?_)
  intro r hr
  unfold IZ at hr
  unfold TM
  cases he:r.exit with
  | normal=>rw[he]at hr;exact ihb hr
  | exit id=>rw[he]at hr;exact hr
  | ret=>rw[he]at hr;exact hr
 | cond x a b iha ihb =>
  intro Q var marks s h
  unfold Qa Sq at h
  split at h<;>first | exact h.elim | skip
  ·rename_i ht;exact WC.cond ht (iha h)
  ·rename_i ht;exact WC.cond ht (ihb h)
 | block id c ih=>intro Q var marks s h;exact WC.block (ih h)
 | loop c _=>intro Q var marks s h;exact h
 | rangeFunc fn f ps a b=>intro Q var marks s h;exact h
theorem WC.loop'{c:Aa}(h:Qa E rnd c (IZ (WC E rnd (.loop c) Q) Q) var marks s):WC E rnd (.loop c) Q var marks s:=by
 refine WC.loop ((KD h).mono ?_)
 intro r hr
 unfold IZ at hr
 unfold TM
 cases he:r.exit with
 | normal=>rw[he]at hr;exact hr
 | exit id=>rw[he]at hr;exact hr
 | ret=>rw[he]at hr;exact hr
theorem WF.body'{f:FuncId}{aS:List AV}{cf:As}(hn:E.nat f aS s=none)(hf:AR E.P f=some cf)(ha:aS.length=cf.na)(h:Qa E none cf.body (Ends E.P cf.results K) (Ql aS cf.nv) [] s):WF E f aS K s:=WF.body hn hf ha (KD h)
end
theorem Qq(a:AV)(l:List AV):S8 (a::l) 0=a:=rfl
theorem Qr(a:AV)(l:List AV)(n:Nat):S8 (a::l) (n+1)=S8 l n:=rfl
theorem Qo(v a:AV)(l:List AV):Lj v (a::l) 0=v::l:=rfl
theorem Qp(v a:AV)(l:List AV)(n:Nat):Lj v (a::l) (n+1)=a::Lj v l n:=rfl
theorem Qk(loc var:List AV)(i:Nat):Da loc var (.loc i)=S8 loc i:=rfl
theorem Qj(loc var:List AV)(i:Nat):Da loc var (.var i)=S8 var i:=rfl
theorem Qi(loc var:List AV)(v:AV):Da loc var (.const v)=v:=rfl
theorem Qf(loc var:List AV):BW loc var none=true:=rfl
theorem Qg(loc var:List AV)(x:CX)(b:Bool):BW loc var (some (x,b))=gy b (Da loc var x):=rfl
theorem Qs(E:BJ)(sh:Sh)(xs:List AV)(ag:List GN)(d:Jo)(loc var:List AV)(k:List AV→List AV→AG→Prop)(s:AG):kC E true sh xs ag d loc var k s=Qc E sh xs (Qd ag d loc var k) s:=rfl
theorem Qt(E:BJ)(sh:Sh)(xs:List AV)(ag:List GN)(d:Jo)(loc var:List AV)(k:List AV→List AV→AG→Prop)(s:AG):kC E false sh xs ag d loc var k s=Qd [] d loc var k BE s:=rfl
theorem Qu(x y:List AV→List Nat→AG→Prop)(var:List AV)(m:List Nat)(s:AG):Sq (.bool true) x y var m s=x var m s:=rfl
theorem Qv(x y:List AV→List Nat→AG→Prop)(var:List AV)(m:List Nat)(s:AG):Sq (.bool false) x y var m s=y var m s:=rfl
theorem Qw(k:List AV→List Nat→AG→Prop)(Q:Ar→Prop)(v:List AV)(m:List Nat)(s:AG):IZ k Q ⟨.normal,v,m,s⟩=k v m s:=rfl
theorem Qx(k:List AV→List Nat→AG→Prop)(Q:Ar→Prop)(v:List AV)(m:List Nat)(s:AG):IZ k Q ⟨.ret,v,m,s⟩=Q ⟨.ret,v,m,s⟩:=rfl
theorem Qy(k:List AV→List Nat→AG→Prop)(Q:Ar→Prop)(id:Nat)(v:List AV)(m:List Nat)(s:AG):IZ k Q ⟨.exit id,v,m,s⟩=Q ⟨.exit id,v,m,s⟩:=rfl
theorem Qz(id:Nat)(Q:Ar→Prop)(v:List AV)(m:List Nat)(s:AG):EC id Q ⟨.normal,v,m,s⟩=Q ⟨.normal,v,m,s⟩:=rfl
theorem Ra(id:Nat)(Q:Ar→Prop)(v:List AV)(m:List Nat)(s:AG):EC id Q ⟨.ret,v,m,s⟩=Q ⟨.ret,v,m,s⟩:=rfl
theorem Rb(id id':Nat)(Q:Ar→Prop)(v:List AV)(m:List Nat)(s:AG):EC id Q ⟨.exit id',v,m,s⟩=if id'=id then Q ⟨.normal,v,m,s⟩else Q ⟨.exit id',v,m,s⟩:=by
 unfold EC
 by_cases h:id'=id
 ·subst h;simp
 ·have:Nat.beq id' id=false:=by
   cases hb:Nat.beq id' id with
   | true=>exact absurd (lf hb) h
   | false=>rfl
  simp[h,this]
theorem Rc(P:Program)(rs:List (CX×Option TypeId))(K:AV→AG→Prop)(v:List AV)(m:List Nat)(s:AG):Ends P rs K ⟨.ret,v,m,s⟩=T5 (unmark s m) (fun s'=>T5 (Bo P s' v rs) (fun l=>K (Ba l) s')):=by
 unfold Ends
 apply propext
 constructor
 ·rintro⟨_,s',h1,l,h2,h3⟩
  have h1:unmark s m=some s':=h1
  have h2:Bo P s' v rs=some l:=h2
  rw[h1,Qm,h2,Qm];exact h3
 ·intro h
  obtain⟨s',h1,h⟩:=F8 h
  obtain⟨l,h2,h3⟩:=F8 h
  exact⟨rfl,s',h1,l,h2,h3⟩
theorem Rd(P:Program)(rs:List (CX×Option TypeId))(K:AV→AG→Prop)(v:List AV)(m:List Nat)(s:AG):Ends P rs K ⟨.normal,v,m,s⟩=T5 (unmark s m) (fun s'=>T5 (Bo P s' v rs) (fun l=>K (Ba l) s')):=by
 rw[← Rc];rfl
theorem Re(s:AG):unmark s []=some s:=rfl
theorem Rf(P:Program)(s:AG)(v:List AV):Bo P s v []=some []:=rfl
theorem Rg(P:Program)(s:AG)(v:List AV)(x:CX)(l:List (CX×Option TypeId)):Bo P s v ((x,none)::l)=(Bo P s v l).bind fun r=>some (Da [] v x::r):=rfl
theorem Rh(v:AV):Ba [v]=v:=rfl
theorem Ri:Ba []=.tuple []:=rfl
theorem Rj(v w:AV)(l:List AV):Ba (v::w::l)=.tuple (v::w::l):=rfl
theorem Rk(w:Bool):gy w BE=false:=rfl
theorem Rl(b:Bool):gy true (.bool b)=b:=by cases b<;>rfl
theorem Rm(b:Bool):gy false (.bool b)=!b:=by cases b<;>rfl
theorem Ya:(!true)=false:=rfl
theorem Yb:(!false)=true:=rfl
theorem Yc{α β:Type _}(a:α)(f:α→Option β):(some a).bind f=f a:=rfl
theorem Yd{α:Type _}(a:α)(l:List α):(a::l)[0]? = some a:=rfl
theorem Ye{α:Type _}(a:α)(l:List α)(i:Nat):(a::l)[i+1]? = l[i]? := rfl
end
end Go.Proofs.Ytilhhmkdcoajnaa.Am
namespace Go.Proofs.Ytilhhmkdcoajnaa.Am
open Go
noncomputable section
structure RB where
 b:Nat
 off:Nat
 N:Nat
 sz:Nat
abbrev Bp:=Nat→Option RB
mutual
inductive AZ (ρ:Bp):AV→Value→Prop
 | bool (b:Bool):AZ ρ (.bool b) (.bool b)
 | int (k:IntKind) (n:Int):AZ ρ (.int k n) (.int k n)
 | str {l:List Nat} {s:ByteArray} (h:s.data.toList.map (fun(b:UInt8)=>b.toNat)=l):AZ ρ (.str l) (.string s)
 | ptrNil:AZ ρ (.ptr none) (.pointer none)
 | ptr {i o:Nat} {rb:RB} (h:ρ i=some rb):AZ ρ (.ptr (some (i,o))) (.pointer (some ⟨rb.b,rb.off+o,none⟩))
 | sliceNil:AZ ρ (.slice none 0 (some 0)) (.slice none 0 0)
 | slice {i o len c:Nat} {rb:RB} (h:ρ i=some rb) (hl:len≤c):AZ ρ (.slice (some (i,o)) len (some c)) (.slice (some ⟨rb.b,rb.off+o,none⟩) len c)
 | sliceOpen {i o len c:Nat} {rb:RB} (h:ρ i=some rb) (hs:0<rb.sz) (hl:len≤c) (h1:o+c * rb.sz≤rb.N) (h2:rb.N<o+(c+1) * rb.sz):
   AZ ρ (.slice (some (i,o)) len none) (.slice (some ⟨rb.b,rb.off+o,none⟩) len c)
 | sliceEnd {i o:Nat} {rb:RB} {a:Addr} (h:ρ i=some rb) (hs:0<rb.sz) (h1:o≤rb.N) (h2:rb.N<o+rb.sz):
   AZ ρ (.slice (some (i,o)) 0 none) (.slice (some a) 0 0)
 | mapNil:AZ ρ (.map none) (.map none)
 | map {i:Nat} {rb:RB} (h:ρ i=some rb):AZ ρ (.map (some i)) (.map (some rb.b))
 | func {f:FuncId} {a c:List AV} {a' c':Array Value} (ha:AS ρ a a'.toList) (hc:AS ρ c c'.toList):AZ ρ (.func f a c) (.func (.func f) a' c')
 | yield {i:Nat} {rb:RB} (h:ρ i=some rb):AZ ρ (.yield i) (.func (.yield rb.b) #[] #[])
 | nilFunc:AZ ρ .nilFunc .nilFunc
 | nilIface:AZ ρ .nilIface .nilIface
 | iface {t:TypeId} {v:AV} {v':Value} (h:AZ ρ v v'):AZ ρ (.iface t v) (.iface t v')
 | agg {cs:List AV} {cs':Array Value} (h:AS ρ cs cs'.toList):AZ ρ (.agg cs) (.agg cs')
 | tuple {cs:List AV} {cs':Array Value} (h:AS ρ cs cs'.toList):AZ ρ (.tuple cs) (.tuple cs')
inductive AS (ρ:Bp):List AV→List Value→Prop
 | nil:AS ρ [] []
 | cons {v:AV} {v':Value} {l:List AV} {l':List Value} (h:AZ ρ v v') (hs:AS ρ l l'):AS ρ (v::l) (v'::l')
end
def Bp.le(ρ σ:Bp):Prop:=∀i rb,ρ i=some rb→σ i=some rb
theorem Bp.le_refl(ρ:Bp):ρ.le ρ:=fun _ _ h=>h
theorem Bp.le_trans{ρ σ τ:Bp}(h:ρ.le σ)(k:σ.le τ):ρ.le τ:=fun i rb e=>k i rb (h i rb e)
mutual
theorem AZ.mono{ρ σ:Bp}(le:ρ.le σ){v:AV}{v':Value}(h:AZ ρ v v'):AZ σ v v':=by
 cases h with
 | bool b=>exact .bool b
 | int k n=>exact .int k n
 | str h=>exact .str h
 | ptrNil=>exact .ptrNil
 | ptr h=>exact .ptr (le _ _ h)
 | sliceNil=>exact .sliceNil
 | slice h hl=>exact .slice (le _ _ h) hl
 | sliceOpen h hs hl h1 h2=>exact .sliceOpen (le _ _ h) hs hl h1 h2
 | sliceEnd h hs h1 h2=>exact .sliceEnd (le _ _ h) hs h1 h2
 | mapNil=>exact .mapNil
 | map h=>exact .map (le _ _ h)
 | func ha hc=>exact .func (AS.mono le ha) (AS.mono le hc)
 | yield h=>exact .yield (le _ _ h)
 | nilFunc=>exact .nilFunc
 | nilIface=>exact .nilIface
 | iface h=>exact .iface (AZ.mono le h)
 | agg h=>exact .agg (AS.mono le h)
 | tuple h=>exact .tuple (AS.mono le h)
theorem AS.mono{ρ σ:Bp}(le:ρ.le σ){v:List AV}{v':List Value}(h:AS ρ v v'):AS σ v v':=by
 cases h with
 | nil=>exact .nil
 | cons h hs=>exact .cons (AZ.mono le h) (AS.mono le hs)
end
section lists
variable{ρ:Bp}
theorem AS.length{l:List AV}{l':List Value}(h:AS ρ l l'):l.length=l'.length:=by
 induction l generalizing l' with
 | nil=>cases h;rfl
 | cons a l ih=>cases h with | cons h hs=>simp[ih hs]
theorem AS.get{l:List AV}{l':List Value}(h:AS ρ l l'){k:Nat}{v:AV}(hk:l[k]? = some v):∃v',l'[k]? = some v'∧AZ ρ v v':=by
  induction l generalizing l' k with
  | nil=>simp at hk
  | cons a l ih =>
    cases h with
    | cons h hs =>
      cases k with
      | zero=>simp at hk;subst hk;exact⟨_,rfl,h⟩
      | succ k=>simp at hk;obtain⟨v',h1,h2⟩:=ih hs hk;exact⟨v',by simpa using h1,h2⟩
theorem AS.of_get{l:List AV}{l':List Value}(hl:l.length=l'.length)(h:∀ (k:Nat)(v:AV)(v':Value),l[k]? = some v→l'[k]? = some v'→AZ ρ v v'):AS ρ l l':=by
  induction l generalizing l' with
  | nil=>cases l' with | nil=>exact .nil | cons=>simp at hl
  | cons a l ih =>
    cases l' with
    | nil=>simp at hl
    | cons a' l'=>exact .cons (h 0 a a' rfl rfl) (ih (by simpa using hl) fun k v v' h1 h2=>h (k+1) v v' (by simpa using h1) (by simpa using h2))
theorem AS.append{l m:List AV}{l' m':List Value}(h:AS ρ l l')(k:AS ρ m m'):AS ρ (l++m) (l'++m'):=by
 induction l generalizing l' with
 | nil=>cases h;exact k
 | cons a l ih=>cases h with | cons h hs=>exact .cons h (ih hs)
theorem AS.take{l:List AV}{l':List Value}(h:AS ρ l l')(n:Nat):AS ρ (l.take n) (l'.take n):=by
  induction l generalizing l' n with
  | nil=>cases h;simp;exact .nil
  | cons a l ih =>
    cases h with
    | cons h hs=>cases n with
      | zero=>exact .nil
      | succ n=>exact .cons h (ih hs n)
theorem AS.drop{l:List AV}{l':List Value}(h:AS ρ l l')(n:Nat):AS ρ (l.drop n) (l'.drop n):=by
  induction l generalizing l' n with
  | nil=>cases h;simp;exact .nil
  | cons a l ih =>
    cases h with
    | cons h hs=>cases n with
      | zero=>exact .cons h hs
      | succ n=>exact ih hs n
theorem AZ.cells{v:AV}{v':Value}(h:AZ ρ v v'):AS ρ v.cells v'.cells.toList:=by
 cases h with
 | agg h=>exact h
 | bool b=>exact .cons (.bool b) .nil
 | int k n=>exact .cons (.int k n) .nil
 | str h=>exact .cons (.str h) .nil
 | ptrNil=>exact .cons .ptrNil .nil
 | ptr h=>exact .cons (.ptr h) .nil
 | sliceNil=>exact .cons .sliceNil .nil
 | slice h hl=>exact .cons (.slice h hl) .nil
 | sliceOpen h hs hl h1 h2=>exact .cons (.sliceOpen h hs hl h1 h2) .nil
 | sliceEnd h hs h1 h2=>exact .cons (.sliceEnd h hs h1 h2) .nil
 | mapNil=>exact .cons .mapNil .nil
 | map h=>exact .cons (.map h) .nil
 | func ha hc=>exact .cons (.func ha hc) .nil
 | yield h=>exact .cons (.yield h) .nil
 | nilFunc=>exact .cons .nilFunc .nil
 | nilIface=>exact .cons .nilIface .nil
 | iface h=>exact .cons (.iface h) .nil
 | tuple h=>exact .cons (.tuple h) .nil
theorem AZ.oneCell{v:AV}{v':Value}(h:AZ ρ v v')(hc:v.isCell=true):v'.oneCell'=true:=by
 cases h<;>first | rfl | cases hc
theorem AS.oneCell{l:List AV}{l':List Value}(h:AS ρ l l')(hc:A7 l=true):∀v∈l',v.oneCell'=true:=by
  induction l generalizing l' with
  | nil=>cases h;simp
  | cons a l ih =>
    cases h with
    | cons h hs =>
      simp only[A7,Bool.and_eq_true]at hc
      intro v hv
      rcases lM.1 hv with rfl | hv
      · exact h.oneCell hc.1
      · exact ih hs hc.2 v hv
end lists
theorem IN(ρ:Bp){v:Value}{a:AV}(h:IM v=some a):AZ ρ a v:=by
 unfold IM at h
 split at h<;>first
  | (injection h with h;subst h;first | exact .bool _ | exact .int _ _ | exact .str rfl | exact .ptrNil | exact .sliceNil | exact .mapNil | exact .nilFunc | exact .nilIface)
  | cases h
theorem FR(ρ:Bp):∀ {l:List Value}{r:List AV},En l=some r→AS ρ r l
 | [],r,h=>by simp[En]at h;subst h;exact .nil
 | v::l,r,h=>by
  simp only[En,km]at h
  obtain⟨a,ha,r',hr,h⟩:=h
  injection h with h;subst h
  exact .cons (IN ρ ha) (FR ρ hr)
theorem Bz(ρ:Bp){v:Value}{a:AV}(h:ofValue v=some a):AZ ρ a v:=by
 unfold ofValue at h
 split at h
 ·simp only[km]at h
  obtain⟨l,hl,h⟩:=h
  injection h with h;subst h
  exact .agg (FR ρ hl)
 ·simp only[km]at h
  obtain⟨l,hl,h⟩:=h
  injection h with h;subst h
  exact .tuple (FR ρ hl)
 ·exact IN ρ h
theorem DY(ρ:Bp):AZ ρ BE undef:=.tuple .nil
theorem AK{α:Type}{b:Bool}{x:Option α}{a:α}(h:AI b x=some a):b=true∧x=some a:=by
 cases b with
 | true=>exact⟨rfl,h⟩
 | false=>cases h
inductive Ed (ρ:Bp):List (AV×AV×Nat)→List MapEntry→Prop
 | nil:Ed ρ [] []
 | cons {k v:AV} {b:Nat} {e:MapEntry} {l:List (AV×AV×Nat)} {l':List MapEntry} (hk:AZ ρ k e.key) (hv:AZ ρ v e.val) (hb:e.born=b) (hs:Ed ρ l l'):Ed ρ ((k,v,b)::l) (e::l')
theorem Ed.mono{ρ σ:Bp}(le:ρ.le σ){l:List (AV×AV×Nat)}{l':List MapEntry}(h:Ed ρ l l'):Ed σ l l':=by
 induction h with
 | nil=>exact .nil
 | cons hk hv hb _ ih=>exact .cons (hk.mono le) (hv.mono le) hb ih
structure Ev(ρ:Bp)(w:World)(r:EI)(rb:RB):Prop where
 cells:∀k v,k<r.n→r.c.get k=some v→∃v',w.cell? ⟨rb.b,rb.off+k,none⟩=some v'∧AZ ρ v v'
 le:r.n≤rb.N
 sz:r.sz=rb.sz
 tight:r.spare=false→rb.N=r.n
 own:r.mode≠.ro→∃cs e,w.heap[rb.b]? = some (.cells cs e (0,0))∧rb.off+rb.N≤cs.size
 par:∀p,r.par=some p→∃rp,ρ p=some rp
def EE(ρ:Bp)(vars:List Tmp)(var:List AV)(tmps:Array Value):Prop:=
 ∀ (t:Tmp) (k:Nat),Br vars t=some k→t<tmps.size∧∃v:AV,var[k]? = some v∧AZ ρ v (tmps.getD t undef)
end
end Go.Proofs.Ytilhhmkdcoajnaa.Am
set_option linter.unusedVariables false
set_option linter.unusedSimpArgs false
namespace Go.Proofs.Ytilhhmkdcoajnaa.Am
open Go
noncomputable section
theorem Fn{α:Type}{P:Program}{w:World}:∀ {s:Sem α}{a:α},EX P s=some a→s.run P w=.ok a w:=by
 intro s
 induction s with
 | pure b=>intro a h;simp[EX]at h;subst h;rfl
 | program k ih=>intro a h;simp only[EX]at h;simp only[Sem.run];exact ih P h
 | mark m k ih=>intro a h;simp only[EX]at h;simp only[Sem.run];exact ih h
 | load=>intro a h;simp[EX]at h
 | store=>intro a h;simp[EX]at h
 | new=>intro a h;simp[EX]at h
 | shape=>intro a h;simp[EX]at h
 | freeze=>intro a h;simp[EX]at h
 | frozen=>intro a h;simp[EX]at h
 | getObj=>intro a h;simp[EX]at h
 | setObj=>intro a h;simp[EX]at h
 | choose=>intro a h;simp[EX]at h
 | sys=>intro a h;simp[EX]at h
 | halt=>intro a h;simp[EX]at h
section types
variable{P:Program}{w:World}{t:TypeId}
theorem AL{d:TypeDesc}(h:P.underlying t=some d):(underlying t).run P w=.ok d w:=by simp[underlying,h]
theorem J9{g:Bool}(h:Fy P t=some g):(isAgg t).run P w=.ok g w:=by
 unfold Fy at h
 split at h
 ·injection h with h;subst h;simp[isAgg,underlying, *]
 ·injection h with h;subst h;simp[isAgg,underlying, *]
 ·rename_i d _ _ hd
  injection h with h;subst h
  simp only[isAgg,Sem.run_bind,AL hd,Result.andThen_ok]
  cases d<;>simp_all
 ·cases h
theorem BC{n:Nat}(h:BD P t=some n):(sizeOf t).run P w=.ok n w:=by
 unfold BD at h
 split at h
 ·injection h with h;subst h;simp[sizeOf,typeInfo, *]
 ·cases h
theorem UG{n:Nat}(h:Cf P t=some n):∃i,(typeInfo t).run P w=.ok i w∧i.bytes=n:=by
 unfold Cf at h
 split at h
 ·injection h with h;rename_i i hi;exact⟨i,by simp[typeInfo,hi],h⟩
 ·cases h
theorem IX(ρ:Bp){z:AV}(h:CL P t=some z):∃v,(zeroValue t).run P w=.ok v w∧AZ ρ z v:=by
  unfold CL at h
  split at h
  · split at h
    · rename_i i hi _ v hv
      exact⟨v,by simp[zeroValue,typeInfo,hi,hv],Bz ρ h⟩
    · cases h
  · cases h
end types
theorem KE{k:IntKind}{n:Int}(h:Bx k n=true):k.wrap n=n:=by
 have hb:k.min≤n∧n≤k.max:=by
  unfold Bx at h
  cases n with
  | ofNat m=>cases k<;>simp[lA]at h<;>simp[IntKind.min,IntKind.max,IntKind.signed,IntKind.bits]<;>omega
  | negSucc m=>cases k<;>simp[lA]at h<;>simp[IntKind.min,IntKind.max,IntKind.signed,IntKind.bits]<;>omega
 cases k<;>simp[IntKind.min,IntKind.max,IntKind.signed,IntKind.bits]at hb<;>simp only[IntKind.wrap,IntKind.signed,IntKind.bits]<;>simp<;>omega
theorem Fq(k:IntKind)(n:Int):DZ k n=k.wrap n:=by
 unfold DZ
 cases h:Bx k n with
 | true=>simp[KE h]
 | false=>rfl
theorem D7(a b:Int):On a b=decide (a<b):=by
 cases a with
 | ofNat a=>cases b with
  | ofNat b=>rw[Bool.eq_iff_iff];simp only[On,lP,decide_eq_true_iff,ma];omega
  | negSucc b=>simp only[On];rw[eq_comm,decide_eq_false_iff_not];simp only[ma];omega
 | negSucc a=>cases b with
  | ofNat b=>simp only[On];rw[eq_comm,decide_eq_true_iff];simp only[ma];omega
  | negSucc b=>rw[Bool.eq_iff_iff];simp only[On,lP,decide_eq_true_iff];omega
theorem F1(a b:Int):Tc a b=(a == b):=by
 rw[Bool.eq_iff_iff,beq_iff_eq]
 cases a with
 | ofNat a=>cases b with
  | ofNat b=>simp only[Tc,Nat.beq_eq,ma];omega
  | negSucc b=>simp[Tc]
 | negSucc a=>cases b with
  | ofNat b=>simp[Tc]
  | negSucc b=>simp only[Tc,Nat.beq_eq];omega
theorem FN{k k':IntKind}(h:Bb k k'=true):k=k':=by cases k<;>cases k'<;>first | rfl | cases h
theorem YC{n:Int}{m:Nat}(h:Ov n=some m):n=(m:Int):=by cases n<;>simp[Ov]at h;subst h;rfl
theorem Xz{P:Program}{ρ:Bp}{op:BinOp}{k:IntKind}{a b:Int}{v:AV}(h:Xy P op k a b=some v)(t:TypeId)(w:World):
  ∃v',(Go.binOp op t (.int k a) (.int k b)).run P w=.ok v' w∧AZ ρ v v':=by
 unfold Xy at h
 split at h
 case h_1=>injection h with h;subst h;exact⟨.int k (k.wrap (a+b)),by simp[Go.binOp,Op.intArith],by rw[Fq];exact .int _ _⟩
 case h_2=>injection h with h;subst h;exact⟨.int k (k.wrap (a - b)),by simp[Go.binOp,Op.intArith],by rw[Fq];exact .int _ _⟩
 case h_3=>injection h with h;subst h;exact⟨.int k (k.wrap (a * b)),by simp[Go.binOp,Op.intArith],by rw[Fq];exact .int _ _⟩
 case h_4=>injection h with h;subst h;exact⟨.bool (a == b),by simp[Go.binOp,Op.intCmp],by rw[F1];exact .bool _⟩
 case h_5=>injection h with h;subst h;exact⟨.bool (a != b),by simp[Go.binOp,Op.intCmp],by rw[F1];exact .bool _⟩
 case h_6=>injection h with h;subst h;exact⟨.bool (a<b),by simp[Go.binOp,Op.intCmp],by rw[D7];exact .bool _⟩
 case h_7=>injection h with h;subst h;exact⟨.bool (a≤b),by simp[Go.binOp,Op.intCmp],by rw[D7,show(!decide (b<a))=decide (a≤b)from by rw[Bool.eq_iff_iff];simp];exact .bool _⟩
 case h_8=>injection h with h;subst h;exact⟨.bool (a > b),by simp[Go.binOp,Op.intCmp],by rw[D7];exact .bool _⟩
 case h_9=>injection h with h;subst h;exact⟨.bool (a≥b),by simp[Go.binOp,Op.intCmp],by rw[D7,show(!decide (a<b))=decide (a≥b)from by rw[Bool.eq_iff_iff];simp];exact .bool _⟩
 case h_10 =>
  simp only[km]at h
  obtain⟨u,hu,h⟩:=h
  exact⟨u,by have:=Fn (w:=w) hu;simpa[Go.binOp]using this,Bz ρ h⟩
 case h_11 =>
  simp only[km]at h
  obtain⟨u,hu,h⟩:=h
  exact⟨u,by have:=Fn (w:=w) hu;simpa[Go.binOp]using this,Bz ρ h⟩
 case h_12=>cases h
 case h_13=>cases h
 case h_14 =>
  simp only[km]at h
  obtain⟨u,hu,h⟩:=h
  refine⟨u,?_,Bz ρ h⟩
  have:=Fn (w:=w) hu
  rename_i n1 n2 n3 n4 n5 n6 n7 n8 n9 n10 n11 n12 n13
  cases op<;>first | (exfalso;simp at *;done) | simpa[Go.binOp]using this
abbrev FQ(l:List UInt8):List Nat:=l.map (fun(b:UInt8)=>b.toNat)
theorem toNat_inj{a b:UInt8}(h:a.toNat=b.toNat):a=b:=UInt8.toNat_inj.1 h
theorem Hg:∀ (x y:List UInt8),GL (FQ x) (FQ y)=(x == y)
 | [],[]=>rfl
 | [],_::_=>rfl
 | _::_,[]=>rfl
 | a::x,b::y=>by
  simp only[FQ,mA,GL]
  by_cases e:a=b
  ·subst e
   have:Nat.beq a.toNat a.toNat=true:=by simp[Nat.beq_eq]
   rw[this]
   have ih:=Hg x y
   simp only[FQ]at ih
   simp[ih]
  ·have:Nat.beq a.toNat b.toNat=false:=Ag.beq_no (fun h=>e (toNat_inj h))
   rw[this]
   simp[e]
theorem Lb:∀ (x y:List UInt8),La (FQ x) (FQ y)=Op.bytesLess x y
 | [],[]=>rfl
 | [],_::_=>rfl
 | _::_,[]=>rfl
 | a::x,b::y=>by
  simp only[FQ,mA,La,Op.bytesLess]
  have ih:=Lb x y
  simp only[FQ]at ih
  have h1:Nat.blt a.toNat b.toNat=decide (a<b):=by rw[Bool.eq_iff_iff];simp[lP,UInt8.lt_iff_toNat_lt]
  have h2:Nat.beq a.toNat b.toNat=(a == b):=by
   rw[Bool.eq_iff_iff,beq_iff_eq,Nat.beq_eq]
   exact⟨fun h=>toNat_inj h,fun h=>by rw[h]⟩
  rw[h1,h2,ih]
  cases decide (a<b)<;>cases (a == b)<;>rfl
theorem Fo(s:ByteArray):(FQ s.data.toList).length=s.size:=by simp[FQ]
theorem Yp{P:Program}{ρ:Bp}{op:BinOp}{x y:ByteArray}{v:AV}(h:TF op (FQ x.data.toList) (FQ y.data.toList)=some v)(w:World):
  ∃v',(Op.stringOp op x y).run P w=.ok v' w∧AZ ρ v v':=by
 unfold TF at h
 rw[Hg,Lb,Fo,Fo]at h
 unfold Op.stringOp
 rw[ByteArray.toList_eq,ByteArray.toList_eq]
 split at h
 case h_1 =>
  obtain⟨hb,h⟩:=AK h
  injection h with h;subst h
  have hb':x.size+y.size≤1152921504606846976:=by simpa[lA]using hb
  refine⟨.string (x++y),?_,.str (by simp[FQ])⟩
  have:¬ ((x.size+y.size:Nat):Int) > IntKind.i64.max:=by simp[IntKind.max,IntKind.signed,IntKind.bits];omega
  simp only[this,if_false]
  rfl
 case h_2=>injection h with h;subst h;exact⟨_,rfl,.bool _⟩
 case h_3=>injection h with h;subst h;exact⟨_,rfl,.bool _⟩
 case h_4=>injection h with h;subst h;exact⟨_,rfl,.bool _⟩
 case h_5=>injection h with h;subst h;exact⟨_,rfl,.bool _⟩
 case h_6=>injection h with h;subst h;exact⟨_,rfl,.bool _⟩
 case h_7=>injection h with h;subst h;exact⟨_,rfl,.bool _⟩
 case h_8=>cases h
section
variable{P:Program}{ρ:Bp}{w:World}
theorem JY{t:TypeId}(h:Gh P t=true):∃e,P.underlying t=some (.pointer e):=by
 unfold Gh at h;split at h
 ·rename_i e he;exact⟨e,he⟩
 ·cases h
theorem HM{t:TypeId}(h:Fj P t=true):∃e,P.underlying t=some (.slice e):=by
 unfold Fj at h;split at h
 ·rename_i e he;exact⟨e,he⟩
 ·cases h
theorem JX{t:TypeId}(h:NV P t=true):∃k e,P.underlying t=some (.map k e):=by
 unfold NV at h;split at h
 ·rename_i k e he;exact⟨k,e,he⟩
 ·cases h
theorem F5{t:TypeId}(h:IE P t=true):∃a b c,P.underlying t=some (.func a b c):=by
 unfold IE at h;split at h
 ·rename_i a b c he;exact⟨a,b,c,he⟩
 ·cases h
theorem NU{t:TypeId}(h:NT P t=true):P.underlying t=some .bool:=by
 unfold NT at h;split at h
 ·rename_i he;exact he
 ·cases h
set_option maxHeartbeats 1000000 in
theorem ge{t:TypeId}{x y:AV}{x' y':Value}{b:Bool}(h:Y1 P t x y=some b)(hx:AZ ρ x x')(hy:AZ ρ y y')(d:Nat):
  (Op.equalIn (d+1) t x' y').run P w=.ok b w:=by
 unfold Y1 at h
 split at h
 all_goals first | (cases h;done) | skip
 ·obtain⟨ht,h⟩:=AK h
  injection h with h;subst h
  cases hx;cases hy
  simp[Op.equalIn,AL (NU ht)]
 ·obtain⟨ht,h⟩:=AK h
  injection h with h;subst h
  obtain⟨e,ht⟩:=JY ht
  cases hx;cases hy<;>simp[Op.equalIn,AL ht]
 ·obtain⟨ht,h⟩:=AK h
  injection h with h;subst h
  obtain⟨e,ht⟩:=JY ht
  cases hy;cases hx<;>simp[Op.equalIn,AL ht]
 ·obtain⟨ht,h⟩:=AK h
  injection h with h;subst h
  obtain⟨e,ht⟩:=HM ht
  cases hx;cases hy<;>simp[Op.equalIn,AL ht]
 ·obtain⟨ht,h⟩:=AK h
  injection h with h;subst h
  obtain⟨e,ht⟩:=HM ht
  cases hy;cases hx<;>simp[Op.equalIn,AL ht]
 ·obtain⟨ht,h⟩:=AK h
  injection h with h;subst h
  obtain⟨k,e,ht⟩:=JX ht
  cases hx;cases hy<;>simp[Op.equalIn,AL ht]
 ·obtain⟨ht,h⟩:=AK h
  injection h with h;subst h
  obtain⟨k,e,ht⟩:=JX ht
  cases hy;cases hx<;>simp[Op.equalIn,AL ht]
 ·obtain⟨ht,h⟩:=AK h
  injection h with h;subst h
  obtain⟨a,b,c,ht⟩:=F5 ht
  cases hy;cases hx;simp[Op.equalIn,AL ht]
 ·obtain⟨ht,h⟩:=AK h
  injection h with h;subst h
  obtain⟨a,b,c,ht⟩:=F5 ht
  cases hy;cases hx;simp[Op.equalIn,AL ht]
 ·obtain⟨ht,h⟩:=AK h
  injection h with h;subst h
  obtain⟨a,b,c,ht⟩:=F5 ht
  cases hy;cases hx;simp[Op.equalIn,AL ht]
theorem Xo{t:TypeId}{x y:AV}{x' y':Value}{b:Bool}(h:Y1 P t x y=some b)(hx:AZ ρ x x')(hy:AZ ρ y y'):
  (Op.equal t x' y').run P w=.ok b w:=ge h hx hy 9999
def YM:Value→Bool
 | .nilIface | .agg _=>false
 | _=>true
theorem Ez{x':Value}(h:YM x'=true)(op:BinOp)(t:TypeId)(ox oy:Operand)(y':Value):
  (eqGuard op t ox oy x' y').run P w=.ok () w:=by
 cases x'<;>first | (cases h;done) | (cases op<;>rfl)
theorem MH{t:TypeId}{x y:AV}{x':Value}{b:Bool}(h:Y1 P t x y=some b)(hx:AZ ρ x x'):YM x'=true:=by
 unfold Y1 at h
 split at h<;>first | (cases h;done) | (cases hx<;>rfl)
theorem SY      {op : BinOp} {t : TypeId} {x y v : AV} {x' y' : Value} (h : AM   P op t x y = some v) (hx : AZ   ρ x x') (hy : AZ   ρ y y') (ox oy : Operand) :
    ∃v',(do eqGuard op t ox oy x' y';Go.binOp op t x' y').run P w=.ok v' w∧AZ ρ v v':=by
  unfold AM at h
  split at h
  · cases hx;cases hy
    rename_i k a k' b
    rw[Sem.run_bind,Ez rfl]
    simp only[Result.andThen_ok]
    split at h
    · simp only[km]at h
      obtain⟨u,hu,h⟩:=h
      exact⟨u,by have:=Fn (w:=w) hu;simpa[Go.binOp]using this,Bz ρ h⟩
    · simp only[km]at h
      obtain⟨u,hu,h⟩:=h
      exact⟨u,by have:=Fn (w:=w) hu;simpa[Go.binOp]using this,Bz ρ h⟩
    · obtain⟨hk,h2⟩:=AK h
      have hkk:=FN hk
      subst hkk
      exact Xz h2 t w
  · cases hx;cases hy
    rename_i a b s1 h1 s2 h2
    subst h1;subst h2
    rw[Sem.run_bind,Ez rfl]
    simp only[Result.andThen_ok]
    obtain⟨v',h1,h2⟩:=Yp (P:=P) (ρ:=ρ) h w
    refine⟨v',?_,h2⟩
    rw[← h1]
    cases op<;>first | rfl | (simp[TF]at h;done)
  · split at h
    · simp only[km]at h
      obtain⟨b,hb,h⟩:=h
      injection h with h;subst h
      rw[Sem.run_bind,Ez (MH hb hx)]
      simp only[Result.andThen_ok]
      refine⟨.bool b,?_,.bool b⟩
      have he:=Xo (w:=w) hb hx hy
      have:Go.binOp .eql t x' y'=(do pure (.bool (← Op.equal t x' y')):Sem Value):=by
        unfold Y1 at hb
        split at hb<;>first | (cases hb;done) | (cases hx<;>cases hy<;>rfl)
      rw[this,Sem.run_bind,he]
      rfl
    · simp only[km]at h
      obtain⟨b,hb,h⟩:=h
      injection h with h;subst h
      rw[Sem.run_bind,Ez (MH hb hx)]
      simp only[Result.andThen_ok]
      refine⟨.bool (!b),?_,.bool _⟩
      have he:=Xo (w:=w) hb hx hy
      have:Go.binOp .neq t x' y'=(do pure (.bool (!(← Op.equal t x' y'))):Sem Value):=by
        unfold Y1 at hb
        split at hb<;>first | (cases hb;done) | (cases hx<;>cases hy<;>rfl)
      rw[this,Sem.run_bind,he]
      rfl
    · cases h
theorem gr{op:UnOp}{x v:AV}{x':Value}(h:G3 P op x=some v)(hx:AZ ρ x x'):
  ∃v',(Op.unary op x').run P w=.ok v' w∧AZ ρ v v':=by
 unfold G3 at h
 split at h
 ·cases hx
  rename_i k n
  split at h
  ·injection h with h;subst h
   exact⟨.int k (k.wrap (0 - n)),rfl,by rw[Fq];exact .int _ _⟩
  ·simp only[km]at h
   obtain⟨u,hu,h⟩:=h
   exact⟨u,Fn hu,Bz ρ h⟩
  ·cases h
 ·cases hx
  split at h
  ·injection h with h;subst h
   exact⟨_,rfl,.bool _⟩
  ·cases h
 ·cases h
theorem Nc{x v:AV}{x':Value}(h:AE x=some v)(hx:AZ ρ x x')(ev:Operand→Value)(o:Oper)(y:Operand)(ho:o.op=.nilCheck y)(he:ev y=x'):
  ∃v',(execOp ev o).run P w=.ok (.value v') w∧AZ ρ v v':=by
 unfold AE at h
 split at h<;>first | (cases h;done) | skip
 injection h with h;subst h
 refine⟨x',?_,hx⟩
 cases hx<;>first | (simp only[execOp,ho,he];done) | (simp only[execOp,ho,he];rfl) | (exfalso;simp_all;done)
theorem OV{x v:AV}{i:Nat}{x':Value}(h:Rp x i=some v)(hx:AZ ρ x x'):
  ∃v',(Instr.extract x' i).run P w=.ok v' w∧AZ ρ v v':=by
 unfold Rp at h
 split at h<;>first | (cases h;done) | skip
 cases hx with
 | tuple hs =>
  rename_i cs'
  obtain⟨v',h1,h2⟩:=hs.get h
  refine⟨v',?_,h2⟩
  have:cs'[i]? = some v':=by rw[← Array.getElem?_toList];exact h1
  simp[Instr.extract,this]
theorem O3{t:TypeId}{cs:List AV}{cs':Array Value}{off:Nat}{v:AV}(h:S9 P t cs off=some v)(hc:AS ρ cs cs'.toList):
  ∃v',(part t cs' off).run P w=.ok v' w∧AZ ρ v v':=by
 unfold S9 at h
 simp only[km]at h
 obtain⟨g,hg,h⟩:=h
 cases g with
 | true =>
  simp only[km]at h
  obtain⟨n,hn,h⟩:=h
  injection h with h;subst h
  refine⟨.agg (cs'.extract off (off+n)),by simp[part,J9 hg,BC hn],.agg ?_⟩
  have:(cs'.extract off (off+n)).toList=(cs'.toList.drop off).take n:=by
   rw[Array.toList_extract,List.extract_eq_take_drop]
   congr 1
   omega
  rw[this]
  exact(hc.drop off).take n
 | false =>
  obtain⟨v',h1,h2⟩:=hc.get h
  refine⟨v',?_,h2⟩
  have:cs'[off]? = some v':=by rw[← Array.getElem?_toList];exact h1
  simp[part,J9 hg,this]
theorem K7{x:AV}{x':Value}{k:Nat}(h:E5 x=some k)(hx:AZ ρ x x'):∃kd,x'=.int kd (k:Int):=by
 unfold E5 at h
 split at h<;>first | (cases h;done) | skip
 cases hx
 rename_i kd n
 exact⟨kd,by rw[YC h]⟩
theorem Td{t:TypeId}{x v:AV}{x':Value}{f:Nat}(h:RL P t x f=some v)(hx:AZ ρ x x'):
  ∃v',(Instr.field t x' f).run P w=.ok v' w∧AZ ρ v v':=by
 unfold RL at h
 split at h<;>first | (cases h;done) | skip
 split at h<;>first | (cases h;done) | skip
 rename_i fs hfs
 simp only[km]at h
 obtain⟨fd,hfd,h⟩:=h
 cases hx with
 | agg hs =>
  obtain⟨v',h1,h2⟩:=O3 (w:=w) h hs
  exact⟨v',by simp[Instr.field,AL hfs,hfd,asAgg,h1],h2⟩
theorem Tq        {t : TypeId} {x ix v : AV} {x' ix' : Value} (h : HX     P t x ix = some v) (hx : AZ   ρ x x') (hi : AZ   ρ ix ix') :
    ∃v',(Instr.index t x' ix').run P w=.ok v' w∧AZ ρ v v':=by
  unfold HX at h
  simp only[km]at h
  obtain⟨k,hk,h⟩:=h
  obtain⟨kd,rfl⟩:=K7 hk hi
  split at h<;>first | (cases h;done) | skip
  · split at h<;>first | (cases h;done) | skip
    rename_i len e he
    simp only[km]at h
    obtain⟨n,hn,h⟩:=h
    obtain⟨hlt,h⟩:=AK h
    have hlt':k<len:=by simpa[lP]using hlt
    cases hx with
    | agg hs =>
      obtain⟨v',h1,h2⟩:=O3 (w:=w) h hs
      refine⟨v',?_,h2⟩
      have:(0:Int)≤(k:Int)∧(k:Int)<(len:Int):=by omega
      simp only[Instr.index,asIntOf,Sem.run_bind,Sem.run_pure,Result.andThen_ok,AL he,this,and_self,if_true,BC hn]
      simpa using h1
  · split at h <;> first | (cases h; done) | skip
    rename_i l _ he
    simp only[km]at h
    obtain⟨b,hb,h⟩:=h
    injection h with h;subst h
    cases hx with
    | str hs =>
      rename_i s
      subst hs
      rw[lg]at hb
      simp only[Option.map_eq_some_iff]at hb
      obtain⟨u,hu,rfl⟩:=hb
      refine⟨.int .u8 u.toNat,?_,.int _ _⟩
      have h0:(0:Int)≤(k:Int):=by omega
      have:s[k]? = some u:=by
        rw[← hu]
        rcases ks k s.size with hlt | hge
        · rw [getElem?_pos s k hlt, ky                       (by simpa using hlt)]
          rfl
        · rw[getElem?_neg s k (by omega),lQ (by simpa using hge)]
      simp[Instr.index,asIntOf,AL he,this]
end
abbrev iv(n:Int):AV:=.int .i64 n
def i64(n:Int):Prop:=-9223372036854775808≤n∧n<9223372036854775808
theorem Ll{k:IntKind}{n:Int}(h:Bx k n=true):DZ k n=n:=by unfold DZ;rw[h];rfl
theorem Of{n:Int}(h:i64 n):Bx .i64 n=true:=by
 obtain⟨h1,h2⟩:=h
 cases n with
 | ofNat m=>simp only[Bx,lA];simp at h2;omega
 | negSucc m=>simp only[Bx,lA];omega
theorem EP{n:Int}(h:i64 n):DZ .i64 n=n:=Ll (Of h)
section
variable(P:Program)(t:TypeId)(a b:Int)
theorem Rq:AM P .lss t (iv a) (iv b)=some (.bool (decide (a<b))):=by
 show some (AV.bool (On a b))=_
 rw[D7]
theorem Rs:AM P .gtr t (iv a) (iv b)=some (.bool (decide (b<a))):=by
 show some (AV.bool (On b a))=_
 rw[D7]
theorem Rt:AM P .leq t (iv a) (iv b)=some (.bool (decide (a≤b))):=by
 show some (AV.bool (!On b a))=_
 rw[D7,← decide_not]
 congr 3
 exact propext Int.not_lt
theorem Ru:AM P .geq t (iv a) (iv b)=some (.bool (decide (b≤a))):=by
 show some (AV.bool (!On a b))=_
 rw[D7,← decide_not]
 congr 3
 exact propext Int.not_lt
theorem Rv:AM P .eql t (iv a) (iv b)=some (.bool (decide (a=b))):=by
 show some (AV.bool (Tc a b))=_
 rw[F1];rfl
theorem Rw:AM P .neq t (iv a) (iv b)=some (.bool (decide (a≠b))):=by
 show some (AV.bool (!Tc a b))=_
 rw[F1,decide_not];rfl
theorem Ao(h:i64 (a+b)):AM P .add t (iv a) (iv b)=some (iv (a+b)):=by
 show some (AV.int .i64 (DZ .i64 (a+b)))=_
 rw[EP h]
theorem EF(h:i64 (a - b)):AM P .sub t (iv a) (iv b)=some (iv (a - b)):=by
 show some (AV.int .i64 (DZ .i64 (a - b)))=_
 rw[EP h]
theorem Jy(h:i64 (a * b)):AM P .mul t (iv a) (iv b)=some (iv (a * b)):=by
 show some (AV.int .i64 (DZ .i64 (a * b)))=_
 rw[EP h]
theorem FT(h:i64 (-a)):G3 P .neg (iv a)=some (iv (-a)):=by
 show some (AV.int .i64 (DZ .i64 (0 - a)))=_
 rw[show(0:Int) - a=-a from by omega,EP h]
theorem Nr:G3 P .neg (iv (-9223372036854775808))=some (iv (-9223372036854775808)):=rfl
theorem Rx(c:Bool):G3 P .not (.bool c)=some (.bool (!c)):=rfl
end
def B6(b:Nat)(s s':AG):Prop:=s.next≤s'.next∧∀i,i<b→s'.heap.get i=s.heap.get i
theorem B6.refl(b:Nat)(s:AG):B6 b s s:=⟨kp _,fun _ _=>rfl⟩
theorem B6.trans{b:Nat}{s s1 s2:AG}(h:B6 b s s1)(k:B6 b s1 s2):B6 b s s2:=⟨lF h.1 k.1,fun i hi=>(k.2 i hi).trans (h.2 i hi)⟩
theorem B6.mono{b b':Nat}{s s1:AG}(h:B6 b s s1)(k:b'≤b):B6 b' s s1:=⟨h.1,fun i hi=>h.2 i (lR hi k)⟩
theorem AY(s:AG)(o:Cl)(j:Nat):(newObj s o).heap.get j=if j=s.next then some o else s.heap.get j:=Ag.get_set _ _ _ _
theorem BL(s:AG)(i:Nat)(o:Cl)(j:Nat):(setObj s i o).heap.get j=if j=i then some o else s.heap.get j:=Ag.get_set _ _ _ _
theorem E2(s:AG)(i j:Nat):(CV s i).heap.get j=if j=i then none else s.heap.get j:=Ag.get_del _ _ _
theorem B6.new(s:AG)(o:Cl):B6 s.next s (newObj s o):=⟨mG _,fun i hi=>by rw[AY,if_neg (by omega)]⟩
theorem Fk{s s':AG}{i o:Nat}(h:s'.heap.get i=s.heap.get i):load1 s' i o=load1 s i o:=by unfold load1 rowAt;rw[h]
theorem B9{s:AG}{i o:Nat}{r:EI}{u:AV}(h:s.heap.get i=some (.row r))(ho:o<r.n)(hc:r.c.get o=some u):load1 s i o=some u:=by
 have hb:Nat.blt o r.n=true:=by simpa[lP]using ho
 simp[load1,rowAt,h,AI,hb,hc]
def BM(b:Nat)(s:AG)(a:Option (Nat×Nat))(cs:List AV):Prop:=∀k u,cs[k]? = some u→∃i o,a=some (i,o)∧i<b∧load1 s i (o+k)=some u
theorem BM.old{b b':Nat}{s s':AG}{a:Option (Nat×Nat)}{cs:List AV}(h:BM b s a cs)(k:B6 b' s s')(hb:b≤b'):BM b s' a cs:=fun j u hj=>by
 obtain⟨i,o,h1,h2,h3⟩:=h j u hj
 exact⟨i,o,h1,h2,by rw[Fk (k.2 i (lR h2 hb))];exact h3⟩
theorem BM.mono{b b':Nat}{s:AG}{a:Option (Nat×Nat)}{cs:List AV}(h:BM b s a cs)(hb:b≤b'):BM b' s a cs:=fun j u hj=>by
 obtain⟨i,o,h1,h2,h3⟩:=h j u hj
 exact⟨i,o,h1,lR h2 hb,h3⟩
theorem BM.nil{b:Nat}{s:AG}{a:Option (Nat×Nat)}:BM b s a []:=fun k u h=>by simp at h
def Ae(b:Nat)(s:AG)(v:AV)(cs:List AV):Prop:=∃a cap,v=.slice a cs.length cap∧BM b s a cs
theorem Ae.old{b b':Nat}{s s':AG}{v:AV}{cs:List AV}(h:Ae b s v cs)(k:B6 b' s s')(hb:b≤b'):Ae b s' v cs:=by
 obtain⟨a,cap,h1,h2⟩:=h
 exact⟨a,cap,h1,h2.old k hb⟩
theorem Ae.mono{b b':Nat}{s:AG}{v:AV}{cs:List AV}(h:Ae b s v cs)(hb:b≤b'):Ae b' s v cs:=by
 obtain⟨a,cap,h1,h2⟩:=h
 exact⟨a,cap,h1,h2.mono hb⟩
theorem C1(k:Nat):Ov (k:Int)=some k:=rfl
theorem Bc{P:Program}{t e:TypeId}{n:Nat}(ht:P.underlying t=some (.slice e))(hs:BD P e=some n){i o len k:Nat}{cap:Option Nat}(hk:k<len):
  AD P t (.slice (some (i,o)) len cap) (iv (k:Int))=some (.ptr (some (i,o+k * n))):=by
 have hb:Nat.blt k len=true:=by simpa[lP]using hk
 simp[AD,E5,C1,ht,hs,AI,hb]
theorem CG{P:Program}{t:TypeId}(h:Fy P t=some false){s:AG}{i o:Nat}{u:AV}(hl:load1 s i o=some u):AC P s t (.ptr (some (i,o)))=some u:=by
 simp[AC,h,hl]
theorem BV{P:Program}{t e:TypeId}(ht:P.underlying t=some (.slice e)){s:AG}{a:Option (Nat×Nat)}{n:Nat}{cap:Option Nat}:A6 P s t (.slice a n cap)=some (iv (n:Int)):=by
 simp[A6,ht]
theorem BY{a b:Nat}(h:a≤b):Nat.ble a b=true:=by simpa[lA]using h
theorem fG{a b:Nat}(h:a<b):Nat.blt a b=true:=by simpa[lP]using h
theorem D1{a b:Nat}(h:a=b):Nat.beq a b=true:=by subst h;simp
theorem Di{a b:Nat}(h:a≠b):Nat.beq a b=false:=by
 cases hb:Nat.beq a b with
 | true=>exact absurd (lf hb) h
 | false=>rfl
theorem FF{a b:Nat}(h:b<a):Nat.ble a b=false:=by
 cases hb:Nat.ble a b with
 | true=>rw[lA]at hb;omega
 | false=>rfl
theorem KC{t:Ag AV}:∀ (cs:List AV)(k:Nat),(∀j u,cs[j]? = some u→t.get (k+j)=some u)→t.take k cs.length=some cs:=by
 intro cs
 induction cs with
 | nil=>intro k _;rfl
 | cons c cs ih =>
  intro k h
  have h0:=h 0 c rfl
  simp only[lO,Ag.take]
  rw[show k+0=k from rfl]at h0
  rw[h0]
  simp only
  rw[ih (k+1) (fun j u hj=>by rw[show k+1+j=k+(j+1)from by omega];exact h (j+1) u (by simpa using hj))]
def JR(r:EI)(cs:List AV):Prop:=r.n=cs.length∧∀k u,cs[k]? = some u→r.c.get k=some u
theorem JR.take{r:EI}{cs:List AV}(h:JR r cs)(o:Nat)(l:List AV)(hl:∀j u,l[j]? = some u→cs[o+j]? = some u):r.c.take o l.length=some l:=
 KC l o fun j u hj=>h.2 _ u (hl j u hj)
theorem Gm{s:AG}{i:Nat}{r:EI}{cs:List AV}(hg:s.heap.get i=some (.row r))(h:JR r cs)(o:Nat)(l:List AV)(hle:o+l.length≤cs.length)(hl:∀j u,l[j]? = some u→cs[o+j]? = some u):
  loadN s i o l.length=some l:=by
 simp[loadN,rowAt,hg,AI,h.1,BY hle,h.take o l hl]
theorem CP(e:TypeId)(sz:Nat)(cs:List AV):∃r,AO e sz cs=.row r∧JR r cs∧r.sz=sz∧r.spare=false∧r.mode=.own∧r.par=none:=by
 refine⟨_,rfl,⟨rfl,?_⟩,rfl,rfl,rfl,rfl⟩
 intro k u hk
 have hlt:k<cs.length:=by
  rcases ks k cs.length with h | h
  ·exact h
  ·rw[lQ h]at hk;cases hk
 show(Ag.fill .leaf 0 cs).get k=some u
 rw[Ag.get_fill,if_pos ⟨ku _,by omega⟩]
 simpa using hk
structure Jp(lo hi:Nat)(s:AG)(v:AV)(n sz:Nat)(cs:List AV)(i:Nat)(p:Option Nat):Prop where
 len:cs.length=n * sz
 ex:(v=.slice none 0 (some 0)∧n=0)∨(v=.slice (some (i,0)) n none∧lo≤i∧i<hi∧(∀q,p=some q→lo≤q∧q<hi∧q≠i) ∧
  ∃r,s.heap.get i=some (.row r)∧JR r cs∧r.spare=true∧r.mode=.own∧r.sz=sz∧r.par=p)
theorem Jp.frame{lo hi:Nat}{s s':AG}{v:AV}{n sz:Nat}{cs:List AV}{i:Nat}{p:Option Nat}(h:Jp lo hi s v n sz cs i p)(k:lo≤i→i<hi→s'.heap.get i=s.heap.get i):Jp lo hi s' v n sz cs i p:=by
 refine⟨h.len,?_⟩
 rcases h.ex with h1 | ⟨h1,h2,h3,h4,r,h5,h6⟩
 ·exact .inl h1
 ·exact .inr ⟨h1,h2,h3,h4,r,by rw[k h2 h3];exact h5,h6⟩
theorem Jp.mono{lo hi hi':Nat}{s:AG}{v:AV}{n sz:Nat}{cs:List AV}{i:Nat}{p:Option Nat}(h:Jp lo hi s v n sz cs i p)(k:hi≤hi'):Jp lo hi' s v n sz cs i p:=by
 refine⟨h.len,?_⟩
 rcases h.ex with h1 | ⟨h1,h2,h3,h4,rest⟩
 ·exact .inl h1
 ·exact .inr ⟨h1,h2,by omega,fun q hq=>⟨(h4 q hq).1,by have:=(h4 q hq).2.1;omega,(h4 q hq).2.2⟩,rest⟩
theorem Jp.cells{lo hi:Nat}{s:AG}{v:AV}{n sz:Nat}{cs:List AV}{i:Nat}{p:Option Nat}(h:Jp lo hi s v n sz cs i p):∃a cap,v=.slice a n cap∧BM hi s a cs:=by
 rcases h.ex with⟨rfl,rfl⟩ | ⟨rfl,h2,h3,h4,r,h5,h6,_⟩
 ·refine⟨none,some 0,rfl,?_⟩
  have:cs=[]:=by have:=h.len;simp at this;exact this
  subst this
  exact BM.nil
 ·refine⟨_,_,rfl,fun k u hk=>⟨i,0,rfl,h3,?_⟩⟩
  have hlt:k<cs.length:=by
   rcases ks k cs.length with h' | h'
   ·exact h'
   ·rw[lQ h']at hk;cases hk
  rw[lD]
  exact B9 h5 (by rw[h6.1];exact hlt) (h6.2 k u hk)
def gz(s s':AG)(i:Nat)(p:Option Nat):Prop:=s.next≤s'.next∧∀j,j<s.next→j≠i→p≠some j→s'.heap.get j=s.heap.get j
theorem Jp.appTo   {P : Program} {e : TypeId} {lo hi : Nat} {s : AG}  {v : AV} {n sz : Nat} {cs : List AV} {i : Nat} {p : Option Nat} (h : Jp   lo hi s v n sz cs i p) (hhi : hi ≤ s.next) (hlo : lo ≤ s.next) (hz : B8     P e sz = true) (hsz : 0 < sz) {m : Nat} {add : List AV} (ha : add.length = m * sz) (hm : 0 < m) :
    ∃a cap v' s',v=.slice a n cap∧appTo P s e sz a n cap (m,add)=some (v',s')∧∃i' p',Jp lo s'.next s' v' (n+m) sz (cs++add) i' p'∧gz s s' i p∧lo≤s'.next∧(i'=s.next)∧(p'=none∨p'=some i)∧s'.next=s.next+1 ∧
      (∀cell,cell<cs.length→load1 s' i cell=load1 s i cell∨n=0):=by
  have hlen:(cs++add).length=(n+m) * sz:=by rw[kr,h.len,ha,lj]
  rcases h.ex with⟨rfl,rfl⟩ | ⟨rfl,h2,h3,h4,r,h5,h6,h7,h8,h9,h10⟩
  · have hcs:cs=[]:=by have:=h.len;simp at this;exact this
    subst hcs
    refine⟨none,some 0,.slice (some (s.next,0)) m none,newObj s (Ca e sz (Ag.fill .leaf 0 add) add.length none),rfl,?_,s.next,none,⟨by simpa using hlen,.inr ⟨by simp,hlo,lW _,(fun q hq=>by cases hq),_,(by rw[AY,if_pos rfl];rfl),⟨rfl,?_⟩,rfl,rfl,rfl,rfl⟩⟩,
      ⟨mG _,fun j hj _ _=>by rw[AY,if_neg (by omega)]⟩,Nat.le_succ_of_le hlo,rfl,.inl rfl,rfl,fun _ _=>.inr rfl⟩
    · simp[Am.appTo,Bg,Di (show m≠0 by omega),AI,hz]
    · intro k u hk
      show(Ag.fill .leaf 0 add).get k=some u
      have hk':add[k]? = some u:=by simpa using hk
      have hlt:k<add.length:=by
        rcases ks k add.length with h' | h'
        · exact h'
        · rw[lQ h']at hk';cases hk'
      rw[Ag.get_fill,if_pos ⟨ku _,by omega⟩]
      simpa using hk'
  · have hrow : rowAt s i = some r := by simp [rowAt, h5]
    have hrn:r.n=n * sz:=by rw[h6.1,h.len]
    have hload:loadN s i 0 (n * sz)=some cs:=by
      have:=Gm h5 h6 0 cs (by omega) (fun j u hj=>by simpa using hj)
      rw[h.len]at this
      exact this
    have hgt:¬ (0+(n+m) * sz≤r.n):=by
      rw[hrn,lj]
      have:0<m * sz:=Nat.mul_pos hm hsz
      omega
    let s2:=setObj (Al s i r) i (.row { r with mode:=.sealed,par:=none })
    let s':=newObj s2 (Ca e sz (r.c.fill (n * sz) add) (cs++add).length (some i))
    have hun:∀j,j≠i→p≠some j→(Al s i r).heap.get j=s.heap.get j:=by
      intro j hj hp
      unfold Al
      rw[h10]
      cases p with
      | none=>rfl
      | some q =>
        simp only
        rw[Di (h4 q rfl).2.2,cond_false,E2,if_neg (fun e=>hp (by rw[e]))]
    have hnext:(Al s i r).next=s.next:=by
      unfold Al
      split
      · rfl
      · cases Nat.beq _ _<;>rfl
    have hs2n:s2.next=s.next:=hnext
    refine⟨_,_,.slice (some (s.next,0)) (n+m) none,s',rfl,?_,s.next,some i,⟨hlen,.inr ⟨rfl,hlo,by show s.next<s2.next+1;omega,?_,_,by rw[AY,if_pos hs2n.symm];rfl,⟨rfl,?_⟩,rfl,rfl,rfl,rfl⟩⟩,⟨by show s.next≤s2.next+1;omega,?_⟩,by show lo≤s2.next+1;omega,rfl,.inr rfl,by show s2.next+1=_;omega,?_⟩
    · simp only[Am.appTo]
      rw[hrow,Option.bind_some]
      unfold Dh
      rw[h9,D1 rfl]
      simp only[AI,cond_true]
      rw[show Nat.ble (0+(n+m) * sz) r.n=false from FF (by omega),cond_false,hload,Option.bind_some,h7,cond_true]
      unfold DB
      rw[h8,hz,show Nat.beq (0+n * sz) r.n=true from D1 (by omega)]
      simp only[EK,Bool.and_self,AI,cond_true,CY,Nat.beq_eq_true_eq,D1 rfl]
      show some (AV.slice (some (s.next,0)) (n+m) none,newObj s2 _)=_
      rfl
    · intro q hq
      injection hq with hq
      subst hq
      refine⟨h2,?_,?_⟩
      · show i<s2.next+1
        omega
      · omega
    · intro k u hk
      show(r.c.fill (n * sz) add).get k=some u
      rw[Ag.get_fill]
      by_cases hlt:k<cs.length
      · rw [if_neg (by rw [← h.len]; omega)]
        rw[lG hlt]at hk
        exact h6.2 k u hk
      · rw[lL (by omega)]at hk
        have hk2:k - cs.length<add.length:=by
          rcases ks (k - cs.length) add.length with h' | h'
          · exact h'
          · rw[lQ h']at hk;cases hk
        rw[if_pos ⟨by rw[← h.len];omega,by rw[← h.len];omega⟩,← h.len]
        exact hk
    · intro j hj hji hp
      show s'.heap.get j=_
      rw[AY,if_neg (by omega),BL,if_neg hji]
      exact hun j hji hp
    · intro cell hc
      left
      have e1:s'.heap.get i=some (.row { r with mode:=.sealed,par:=none }):=by
        rw[AY,if_neg (by omega),BL,if_pos rfl]
      simp only[load1,rowAt,e1,h5,Option.bind_some]
theorem Mk{s:AG}{i o n size:Nat}{l:List AV}(h:loadN s i o (n * size)=some l):ac s i o n size=some l:=by
 unfold ac
 cases hn0:Nat.beq n 0 with
 | false=>exact h
 | true =>
  have:=lf hn0
  subst this
  rw[Nat.zero_mul]at h
  unfold loadN at h
  simp only[km]at h
  obtain⟨r,_,h⟩:=h
  cases hb:Nat.ble (o+0) r.n with
  | true=>rw[hb]at h;exact h
  | false=>rw[hb]at h;cases h
theorem Bs{P:Program}{st xt e:TypeId}{size by_:Nat}(ht:P.underlying st=some (.slice e))(hs:BD P e=some size)(hb:Cf P e=some by_)(h0:0<size)(hx:BG P xt=true){s:AG}{a ax:Option (Nat×Nat)}{n m:Nat}{cap cx:Option Nat}{add:List AV}
  (hsrc:CK P s e size (.slice ax m cx)=some (m,add)) (hc:A7 add=true) (h1:(n+m) * by_≤1099511627776) (h2:n+m≤1099511627776):
  Ad P s [st,xt] [.slice a n cap,.slice ax m cx]=appTo P s e size a n cap (m,add):=by
 simp[Ad,ht,hs,hb,AI,Di (show size≠0 by omega),hx,hsrc,hc,BY h1,BY h2]
end
end Go.Proofs.Ytilhhmkdcoajnaa.Am
