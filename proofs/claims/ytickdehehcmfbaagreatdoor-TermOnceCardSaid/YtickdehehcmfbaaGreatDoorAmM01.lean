/- Binary tries over Nat keys, made for evaluation by the kernel: get, set, and their laws; conditions: none. -/
import GoSem.Dispatch
import GoSem.ClaimKeys
import Derived.DeepKeys2
import Derived.CallsIn
import Derived.Laws.Sem
import Derived.MapKept
import Derived.Laws.Entries
import Derived.Laws.Slices
import Derived.Laws.Strings
import Derived.Lib.Hide
import Derived.Laws.CopyRow
import Derived.Laws.Cells
import Derived.RangeFuncRecord
import Derived.Below
namespace Go.Proofs.YtickdehehcmfbaaGreatDoor.Am
noncomputable section
abbrev bM := @Nat.le_refl
abbrev bN := @Nat.zero_add
abbrev bO := @List.length_cons
abbrev bP := @List.nil_append
abbrev bQ := @Option.bind_eq_some_iff
abbrev bR := @List.drop_zero
abbrev bS := @List.cons_append
abbrev bT := @List.length_nil
abbrev bU := @List.set_cons_zero
abbrev bV := @List.set_cons_succ
abbrev bW := @List.take_succ_cons
abbrev bX := @List.drop_succ_cons
abbrev bY := @List.take_zero
abbrev bZ := @Nat.lt_add_one
abbrev bc := @List.getElem?_eq_getElem
abbrev be := @Nat.lt_or_ge
abbrev bf := @Nat.ble_eq
abbrev bh := @List.getElem?_eq_none
abbrev bi := @Nat.lt_of_lt_of_le
abbrev bj := @Nat.eq_of_beq_eq_true
abbrev bk := @List.map_cons
abbrev bl := @Nat.zero_le
abbrev bm := @List.mem_cons_self
abbrev bn := @List.mem_of_getElem?
abbrev bo := @Nat.le_trans
abbrev bp := @List.length_map
abbrev bq := @Nat.blt_eq
abbrev br := @List.mem_cons_of_mem
abbrev bt := @List.getElem?_append_left
abbrev bu := @List.length_append
abbrev bv := @List.mem_cons
abbrev bw := @List.take_of_length_le
abbrev bz := @List.getElem?_append_right
abbrev b0 := @Nat.mul_one
abbrev b1 := @Nat.add_mul
abbrev b3 := @List.getElem?_map
abbrev b4 := @List.not_mem_nil
abbrev b5 := @List.mem_append_left
abbrev cA := @Nat.add_assoc
abbrev cB := @Nat.mod_lt
abbrev cC := @Option.map_some
abbrev cD := @Nat.eq_zero_or_pos
abbrev cE := @Nat.mul_le_mul_right
abbrev cF := @Nat.lt_trans
abbrev cG := @List.take_succ_eq_append_getElem
abbrev cH := @Nat.beq_eq
abbrev cI := @List.append_assoc
abbrev cJ := @List.nodup_cons
abbrev cK := @List.map_append
abbrev cL := @Nat.lt_succ_self
abbrev cM := @List.mem_append_right
abbrev cN := @Nat.add_zero
abbrev cO := @List.getElem?_take_of_lt
abbrev cP := @List.foldl_cons
abbrev cQ := @List.eq_nil_of_length_eq_zero
abbrev cR := @Nat.lt_succ_of_lt
abbrev cT := @Nat.lt_trichotomy
abbrev cU := @List.getElem?_drop
abbrev cV := @List.mapM_cons
abbrev cW := @List.idxOf_append
abbrev cX := @List.idxOf_cons
abbrev cY := @Int.ofNat_eq_natCast
abbrev cZ := @List.map_congr_left
abbrev ce := @List.getD_eq_getElem?_getD
abbrev cg := @List.take_append_of_le_length
inductive AI (α:Type) where
 | leaf
 | node (v:Option α) (l r:AI α)
namespace AI
variable{α:Type}
def get:AI α→Nat→Option α
 | .leaf,_=>none
 | .node v l r,k=>match k with
  | 0=>v
  | k+1=>bif Nat.beq (k % 2) 0 then l.get (k / 2)else r.get (k / 2)
def val:AI α→Option α
 | .leaf=>none
 | .node v _ _=>v
def left:AI α→AI α
 | .leaf=>.leaf
 | .node _ l _=>l
def right:AI α→AI α
 | .leaf=>.leaf
 | .node _ _ r=>r
def XY(v:Option α)(l r:AI α):AI α:=
 match l with
 | .leaf=>.node v .leaf r
 | .node x a b=>.node v (.node x a b) r
def XZ(v:Option α)(l r:AI α):AI α:=
 match r with
 | .leaf=>.node v l .leaf
 | .node x a b=>.node v l (.node x a b)
def setF(v:Option α):Nat→AI α→Nat→AI α
 | 0,t,_=>t
 | f+1,t,k=>match k with
  | 0=>.node v t.left t.right
  | k+1=>bif Nat.beq (k % 2) 0 then XY t.val (setF v f t.left (k / 2)) t.right
   else XZ t.val t.left (setF v f t.right (k / 2))
def put(t:AI α)(k:Nat)(v:Option α):AI α:=setF v (k+1) t k
def set(t:AI α)(k:Nat)(v:α):AI α:=t.put k (some v)
def del(t:AI α)(k:Nat):AI α:=t.put k none
theorem beq_no{a b:Nat}(h:¬ a=b):Nat.beq a b=false:=by
 cases e:Nat.beq a b with
 | false=>rfl
 | true=>exact absurd (bj e) h
theorem nodeL_eq(v:Option α)(l r:AI α):XY v l r=.node v l r:=by cases l<;>rfl
theorem nodeR_eq(v:Option α)(l r:AI α):XZ v l r=.node v l r:=by cases r<;>rfl
theorem IU(t:AI α):t.get 0=t.val:=by cases t<;>rfl
theorem CP(t:AI α)(k:Nat):t.get (k+1)=if k % 2=0 then t.left.get (k / 2)else t.right.get (k / 2):=by
 cases t with
 | leaf=>simp[get,left,right]
 | node v l r =>
  by_cases h:k % 2=0
  ·simp[get,left,h]
  ·have:Nat.beq (k % 2) 0=false:=beq_no h
   simp[get,right,h,this]
theorem Se       (v : Option α) : ∀ (f : Nat) (t : AI   α) (k j : Nat), k < f → (setF v f t k).get j = if j = k then v else t.get j := by
  intro f
  induction f with
  | zero=>intro t k j h;omega
  | succ f ih =>
    intro t k j h
    cases k with
    | zero =>
      cases j with
      | zero=>simp[setF,IU,val]
      | succ j=>simp[setF,CP,left,right]
    | succ k =>
      by_cases hk:k % 2=0
      · have hb:Nat.beq (k % 2) 0=true:=by rw[hk];rfl
        simp only[setF,hb,cond_true,nodeL_eq]
        cases j with
        | zero=>simp[IU,val]
        | succ j =>
          by_cases hj:j % 2=0
          · rw[CP,CP,if_pos hj,if_pos hj]
            simp only[left]
            rw[ih _ _ _ (by omega)]
            by_cases e:j=k
            · subst e;simp
            · rw[if_neg (by omega),if_neg (by omega)]
          · rw[CP,CP,if_neg hj,if_neg hj,if_neg (by omega)]
            simp only[right]
      · have hb:Nat.beq (k % 2) 0=false:=beq_no hk
        simp only[setF,hb,cond_false,nodeR_eq]
        cases j with
        | zero=>simp[IU,val]
        | succ j =>
          by_cases hj:j % 2=0
          · rw[CP,CP,if_pos hj,if_pos hj,if_neg (by omega)]
            simp only[left]
          · rw[CP,CP,if_neg hj,if_neg hj]
            simp only[right]
            rw[ih _ _ _ (by omega)]
            by_cases e:j=k
            · subst e;simp
            · rw[if_neg (by omega),if_neg (by omega)]
theorem OR(t:AI α)(k j:Nat)(v:Option α):(t.put k v).get j=if j=k then v else t.get j:=Se v _ t k j (by omega)
theorem get_set(t:AI α)(k j:Nat)(v:α):(t.set k v).get j=if j=k then some v else t.get j:=OR t k j _
theorem get_del(t:AI α)(k j:Nat):(t.del k).get j=if j=k then none else t.get j:=OR t k j _
def fill(t:AI α)(k:Nat):List α→AI α
 | []=>t
 | v::l=>fill (t.set k v) (k+1) l
theorem get_fill(l:List α):∀ (t:AI α)(k j:Nat),(t.fill k l).get j=if k≤j∧j<k+l.length then l[j - k]? else t.get j:=by
  induction l with
  | nil=>intro t k j;simp[fill];omega
  | cons v l ih =>
    intro t k j
    simp only[fill,ih,get_set,bO]
    by_cases h1:k+1≤j∧j<k+1+l.length
    · rw [if_pos h1, if_pos (by omega), show j - k = (j - (k + 1)) + 1 from by omega]
      rfl
    · rw[if_neg h1]
      by_cases h2:j=k
      · subst h2;simp
      · rw[if_neg h2,if_neg (by omega)]
def take(t:AI α)(k:Nat):Nat→Option (List α)
 | 0=>some []
 | n+1=>match t.get k with
  | none=>none
  | some v=>match take t (k+1) n with
   | none=>none
   | some l=>some (v::l)
theorem take_length{t:AI α}{k n:Nat}{l:List α}(h:t.take k n=some l):l.length=n:=by
  induction n generalizing k l with
  | zero=>simp[take]at h;subst h;rfl
  | succ n ih =>
    simp only[take]at h
    split at h
    · cases h
    · split at h
      · cases h
      · rename_i h2;injection h with h;subst h;simp[ih h2]
theorem take_get {t : AI   α} {k n : Nat} {l : List α} (h : t.take k n = some l) (j : Nat) (hj : j < n) : t.get (k + j) = l[j]? := by
  induction n generalizing k l j with
  | zero=>omega
  | succ n ih =>
    simp only[take]at h
    split at h
    · cases h
    · rename_i v hv
      split at h
      · cases h
      · rename_i l' h2
        injection h with h
        subst h
        cases j with
        | zero=>simpa using hv
        | succ j=>rw[show k+(j+1)=k+1+j from by omega,ih h2 j (by omega)];rfl
end AI
end
end Go.Proofs.YtickdehehcmfbaaGreatDoor.Am
namespace Go.Proofs.YtickdehehcmfbaaGreatDoor.Am
open Go
noncomputable section
inductive AV where
 | bool (b:Bool)
 | int (k:IntKind) (n:Int)
 | str (s:List Nat)
 | ptr (a:Option (Nat×Nat))
 | gptr (g o:Nat)
 | slice (a:Option (Nat×Nat)) (len:Nat) (cap:Option Nat)
 | map (r:Option Nat)
 | func (f:FuncId) (first cap:List AV)
 | yield (l:Nat)
 | nilFunc
 | iface (t:TypeId) (v:AV)
 | nilIface
 | agg (cs:List AV)
 | tuple (vs:List AV)
def A5:AV:=.tuple []
def AV.cells:AV→List AV
 | .agg cs=>cs
 | v=>[v]
def AV.isCell:AV→Bool
 | .agg _ | .tuple _=>false
 | _=>true
def AW:List AV→Bool
 | []=>true
 | v::l=>v.isCell && AW l
inductive U1 where
 | ro | own | sealed
structure CJ where
 elem:TypeId
 sz:Nat
 n:Nat
 c:AI AV
 spare:Bool
 mode:U1
 par:Option Nat
 bytes:Bool
 glob:Option Nat:=none
inductive CX where
 | loc (i:Nat)
 | var (j:Nat)
 | const (v:AV)
inductive Made where
 | ptr | slice (n:Nat) | map
structure H2 where
 state:LoopState
 pending:Option Code
 fn:FuncId
 var:List AV
 params:Array Tmp
 assign:Code
 body:Code
 dfr:Nat
inductive Ao where
 | row (r:CJ)
 | map (kt:TypeId) (es:List (AV×AV))
 | loop (l:H2)
 | mark
 | iter (s:List Nat) (pos:Nat)
structure AD where
 next:Nat
 heap:AI Ao
def GR:Value→Option AV
 | .bool b=>some (.bool b)
 | .int k n=>some (.int k n)
 | .string s=>some (.str (s.data.toList.map (fun(b:UInt8)=>b.toNat)))
 | .pointer none=>some (.ptr none)
 | .slice none 0 0=>some (.slice none 0 (some 0))
 | .map none=>some (.map none)
 | .nilFunc=>some .nilFunc
 | .nilIface=>some .nilIface
 | _=>none
def DC:List Value→Option (List AV)
 | []=>some []
 | v::l=>(GR v).bind fun a=>(DC l).bind fun r=>some (a::r)
def ofValue:Value→Option AV
 | .agg cs=>(DC cs.toList).bind fun l=>some (.agg l)
 | .tuple vs=>(DC vs.toList).bind fun l=>some (.tuple l)
 | v=>GR v
def AF{α:Type}(b:Bool)(x:Option α):Option α:=bif b then x else none
def Db{α:Type}(P:Program):Sem α→Option α
 | .pure a=>some a
 | .program k=>Db P (k P)
 | .mark _ k=>Db P k
 | _=>none
def BA(k:IntKind):Int→Bool
 | .ofNat m=>match k with
  | .i64=>Nat.ble m 9223372036854775807
  | .u64=>Nat.ble m 18446744073709551615
  | .i32=>Nat.ble m 2147483647
  | .u32=>Nat.ble m 4294967295
  | .u8=>Nat.ble m 255
  | .i8=>Nat.ble m 127
  | .u16=>Nat.ble m 65535
  | .i16=>Nat.ble m 32767
 | .negSucc m=>match k with
  | .i64=>Nat.ble m 9223372036854775807
  | .i32=>Nat.ble m 2147483647
  | .i8=>Nat.ble m 127
  | .i16=>Nat.ble m 32767
  | _=>false
def EP(k:IntKind)(n:Int):Int:=bif BA k n then n else k.wrap n
def I9:Int→Int→Bool
 | .ofNat a,.ofNat b=>Nat.blt a b
 | .ofNat _,.negSucc _=>false
 | .negSucc _,.ofNat _=>true
 | .negSucc a,.negSucc b=>Nat.blt b a
def OP:Int→Int→Bool
 | .ofNat a,.ofNat b=>Nat.beq a b
 | .negSucc a,.negSucc b=>Nat.beq a b
 | _,_=>false
def Oc:Int→Option Nat
 | .ofNat m=>some m
 | .negSucc _=>none
def BX:List Nat→List Nat→Bool
 | [],[]=>true
 | a::x,b::y=>bif Nat.beq a b then BX x y else false
 | _,_=>false
def E0:List Nat→List Nat→Bool
 | _,[]=>false
 | [],_::_=>true
 | a::x,b::y=>bif Nat.blt a b then true else bif Nat.beq a b then E0 x y else false
def Oq(op:BinOp)(x y:List Nat):Option AV:=
 match op with
 | .add=>AF (Nat.ble (x.length+y.length) 1152921504606846976) (some (.str (x++y)))
 | .eql=>some (.bool (BX x y))
 | .neq=>some (.bool (!BX x y))
 | .lss=>some (.bool (E0 x y))
 | .leq=>some (.bool (E0 x y || BX x y))
 | .gtr=>some (.bool (!(E0 x y || BX x y)))
 | .geq=>some (.bool (!E0 x y))
 | _=>none
def Da(P:Program)(t:TypeId):Option Bool:=
 match P.underlying t with
 | some (.struct _) | some (.array _ _)=>some true
 | some _=>some false
 | none=>none
def Ap(P:Program)(t:TypeId):Option Nat:=match P.info? t with
 | some i=>some i.size
 | none=>none
def CI(P:Program)(t:TypeId):Option AV:=match P.info? t with
 | some i=>match i.zero with
  | some v=>ofValue v
  | none=>none
 | none=>none
def Bz(P:Program)(t:TypeId):Option Nat:=match P.info? t with
 | some i=>some i.bytes
 | none=>none
def rowAt(s:AD)(i:Nat):Option CJ:=match s.heap.get i with
 | some (.row r)=>some r
 | _=>none
def newObj(s:AD)(o:Ao):AD:={ next:=s.next+1,heap:=s.heap.set s.next o }
def HV(elem:TypeId)(sz:Nat)(cells:List AV):Ao:=
 .row { elem,sz,n:=cells.length,c:=AI.fill .leaf 0 cells,spare:=false,mode:=.own,par:=none,bytes:=true }
def setObj(s:AD)(i:Nat)(o:Ao):AD:={ s with heap:=s.heap.set i o }
def Bj(s:AD)(i:Nat):AD:={ s with heap:=s.heap.del i }
def BG(s:AD)(i off n:Nat):Option (List AV):=
 (rowAt s i).bind fun r=>AF (Nat.ble (off+n) r.n) (r.c.take off n)
def Ca(s:AD)(i off:Nat):Option AV:=
 (rowAt s i).bind fun r=>AF (Nat.blt off r.n) (r.c.get off)
def A3(s:AD)(i:Nat)(r:CJ):AD:=match r.par with
 | none=>s
 | some p=>bif Nat.beq p i then s else Bj s p
def Cy:U1→Bool
 | .own=>true
 | _=>false
def Bu(s:AD)(i off:Nat)(vs:List AV):Option AD:=
 match vs with
 | []=>some s
 | _::_=>(rowAt s i).bind fun r =>
  AF (Cy r.mode && Nat.ble (off+vs.length) r.n && AW vs)
   (some (setObj (A3 s i r) i (.row { r with c:=r.c.fill off vs,par:=none })))
def Kg(s:AD)(g:Nat):Option CJ:=(rowAt s g).bind fun r=>match r.glob with
 | some g'=>AF (Nat.beq g' g) (some r)
 | none=>none
def AK(P:Program)(s:AD)(t:TypeId):AV→Option AV
 | .gptr i o=>(Kg s i).bind fun _=>(Da P t).bind fun g=>match g with
  | true=>(Ap P t).bind fun n=>(BG s i o n).bind fun l=>some (.agg l)
  | false=>Ca s i o
 | .ptr (some (i,o))=>(Da P t).bind fun g=>match g with
  | true=>(Ap P t).bind fun n=>(BG s i o n).bind fun l=>some (.agg l)
  | false=>Ca s i o
 | _=>none
def As(P:Program)(s:AD)(t:TypeId)(a v:AV):Option AD:=
 match a with
 | .ptr (some (i,o))=>(Ap P t).bind fun n=>AF (Nat.beq v.cells.length n) (Bu s i o v.cells)
 | _=>none
def Ei(P:Program)(t:TypeId):Bool:=match P.underlying t with
 | some (.pointer _)=>true
 | _=>false
def GF(P:Program)(t:TypeId):Bool:=match P.underlying t with
 | some (.slice _)=>true
 | _=>false
def Kj(P:Program)(t:TypeId):Bool:=match P.underlying t with
 | some (.map ..)=>true
 | _=>false
def GE(P:Program)(t:TypeId):Bool:=match P.underlying t with
 | some (.func ..)=>true
 | _=>false
def Kh(P:Program)(t:TypeId):Bool:=match P.underlying t with
 | some .bool=>true
 | _=>false
def UK(P:Program)(t:TypeId):AV→AV→Option Bool
 | .bool a,.bool b=>AF (Kh P t) (some (a == b))
 | .ptr none,.ptr b=>AF (Ei P t) (some b.isNone)
 | .ptr a,.ptr none=>AF (Ei P t) (some a.isNone)
 | .slice none _ _,.slice b _ _=>AF (GF P t) (some b.isNone)
 | .slice a _ _,.slice none _ _=>AF (GF P t) (some a.isNone)
 | .map none,.map b=>AF (Kj P t) (some b.isNone)
 | .map a,.map none=>AF (Kj P t) (some a.isNone)
 | .nilFunc,.nilFunc=>AF (GE P t) (some true)
 | .func ..,.nilFunc=>AF (GE P t) (some false)
 | .nilFunc,.func ..=>AF (GE P t) (some false)
 | _,_=>none
def Bh:IntKind→IntKind→Bool
 | .i8,.i8 | .i16,.i16 | .i32,.i32 | .i64,.i64 | .u8,.u8 | .u16,.u16 | .u32,.u32 | .u64,.u64=>true
 | _,_=>false
def Sk(P:Program)(op:BinOp)(k:IntKind)(a b:Int):Option AV:=
 match op with
 | .add=>some (.int k (EP k (a+b)))
 | .sub=>some (.int k (EP k (a - b)))
 | .mul=>some (.int k (EP k (a * b)))
 | .eql=>some (.bool (OP a b))
 | .neq=>some (.bool (!OP a b))
 | .lss=>some (.bool (I9 a b))
 | .leq=>some (.bool (!I9 b a))
 | .gtr=>some (.bool (I9 b a))
 | .geq=>some (.bool (!I9 a b))
 | .quo | .rem=>(Db P (Op.intDiv op k a b)).bind ofValue
 | .shl | .shr=>none
 | _=>(Db P (Op.intBits op k a b)).bind ofValue
def AO(P:Program)(op:BinOp)(t:TypeId)(x y:AV):Option AV:=
 match x,y with
 | .int k a,.int k' b=>match op with
  | .shl | .shr=>(Db P (Op.shift op k a k' b)).bind ofValue
  | _=>AF (Bh k k') (Sk P op k a b)
 | .str a,.str b=>Oq op a b
 | x,y=>match op with
  | .eql=>(UK P t x y).bind fun b=>some (.bool b)
  | .neq=>(UK P t x y).bind fun b=>some (.bool (!b))
  | _=>none
def Sn(P:Program)(t:TypeId):Bool:=match P.underlying t with
 | some (.pointer e)=>(match P.info? e with | some j=>!Nat.beq j.size 0 | none=>false)
 | _=>false
def Fo(s:AD)(i:Nat):Bool:=match rowAt s i with
 | some r=>Cy r.mode && r.par.isNone
 | none=>false
def G2(P:Program)(s:AD)(neg:Bool)(t:TypeId)(x y:AV):Option AV:=
 match x,y with
 | .ptr (some (i,o)),.ptr (some (j,q))=>AF (Sn P t && Fo s i && Fo s j) (some (.bool ((Nat.beq i j && Nat.beq o q) != neg)))
 | x,y=>AO P (bif neg then .neq else .eql) t x y
def Uu(P:Program)(op:UnOp):AV→Option AV
 | .int k n=>match op with
  | .neg=>some (.int k (EP k (0 - n)))
  | .xor=>(Db P (Op.unary .xor (.int k n))).bind ofValue
  | _=>none
 | .bool b=>match op with
  | .not=>some (.bool (!b))
  | _=>none
 | _=>none
def IN(place:Nat→Option (Nat×Nat))(cells:List AV):List (Nat×AV)→Option (List AV)
 | []=>some cells
 | (i,v)::rest=>(place i).bind fun p =>
  AF (Nat.beq v.cells.length p.2 && Nat.ble (p.1+v.cells.length) cells.length)
   (IN place (cells.take p.1++(v.cells++cells.drop (p.1+v.cells.length))) rest)
def DO(P:Program):List Field→Option (List (Nat×Nat))
 | []=>some []
 | f::l=>(Ap P f.type).bind fun n=>(DO P l).bind fun r=>some ((f.offset,n)::r)
def AR(P:Program)(t:TypeId)(parts:List (Nat×AV)):Option AV:=
 (CI P t).bind fun z=>match P.underlying t with
  | some (.struct fields)=>(DO P fields.toList).bind fun places =>
   (IN (fun i=>places[i]?) z.cells parts).bind fun l=>some (.agg l)
  | some (.array _ e)=>(Ap P e).bind fun n =>
   (IN (fun i=>some (i * n,n)) z.cells parts).bind fun l=>some (.agg l)
  | _=>none
def QM(l:List AV):Nat→List AV
 | 0=>[]
 | n+1=>l++QM l n
def Aa(P:Program)(t:TypeId)(len:Nat)(parts:List (Nat×AV)):Option Ao:=
 match P.underlying t with
 | some (.slice e)=>(Ap P e).bind fun n=>AF (Nat.ble (len * n) 16777216) <|
  (CI P e).bind fun z=>AF (Nat.beq z.cells.length n) <|
   (IN (fun i=>some (i * n,n)) (QM z.cells len) parts).bind fun l=>some (HV e n l)
 | _=>none
def BJ(P:Program)(s:AD)(src dst:TypeId)(x:AV):Option AV:=
 match P.underlying src,P.underlying dst,x with
 | some _,some (.int k),.int _ n=>some (.int k (EP k n))
 | some _,some .string,.str l=>some (.str l)
 | some (.slice e),some .string,.slice a len _=>match P.underlying e with
  | some (.int .u8)=>match a with
   | none=>some (.str [])
   | some (i,o)=>(BG s i o len).bind fun l=>(bytesOf l).bind fun b=>some (.str b)
  | _=>none
 | some (.pointer u),some .unsafePointer,x=>seenPtr u x
 | some .unsafePointer,some (.pointer u),x=>seenPtr u x
 | _,_,_=>none
where
 seenPtr (u:TypeId):AV→Option AV
  | .ptr none=>some (.ptr none)
  | .ptr (some (i,o))=>(rowAt s i).bind fun r=>(Ap P u).bind fun n =>
   AF (Cy r.mode && r.bytes && Nat.beq o 0 && Nat.beq r.elem u && Nat.ble n r.n && !Nat.beq n 0) (some (.ptr (some (i,o))))
  | _=>none
 bytesOf:List AV→Option (List Nat)
  | []=>some []
  | .int .u8 (.ofNat n)::l=>AF (Nat.blt n 256) ((bytesOf l).bind fun r=>some (n::r))
  | _::_=>none
def idxOf:AV→Option Nat
 | .int _ n=>Oc n
 | _=>none
def Be(x:AV)(y:Nat):Option Nat:=(idxOf x).bind fun i=>AF (Nat.ble i y) (some i)
def Bf(P:Program)(s:AD)(t:TypeId)(x:AV)(lo hi mx:Option AV):Option AV:=
 match x with
 | .str l=>(match mx with | some _=>none | none=>some ()).bind fun _ =>
  (match hi with | some h=>Be h l.length | none=>some l.length).bind fun h =>
  (match lo with | some v=>Be v h | none=>some 0).bind fun o =>
  (match P.underlying t with | some .string=>some () | _=>none).bind fun _=>some (.str ((l.drop o).take (h - o)))
 | .slice a len cap=>match P.underlying t with
  | some (.slice e)=>(Ap P e).bind fun n =>
   (match cap with
    | some c=>some c
    | none=>match a with
     | none=>none
     | some (i,o)=>(rowAt s i).bind fun r=>AF (Nat.ble o r.n && Nat.beq n r.sz && !Nat.beq n 0) (some ((r.n - o) / n))).bind fun far =>
   (match mx with | some m=>(Be m far).bind fun c=>AF (cap.isSome || Nat.blt 0 far) (some (some c)) | none=>some cap).bind fun m =>
   (match hi,m with
    | some h,some c=>Be h c
    | some h,none=>Be h far
    | none,some c=>(match mx with | none=>some len | some _=>(fun(_:Nat)=>none) c)
    | none,none=>some len).bind fun h =>
   (match lo with | some v=>Be v h | none=>some 0).bind fun l =>
   some (.slice
    (match a with
     | none=>none
     | some (i,o)=>match m with
      | some c=>bif Nat.beq c l then some (i,o)else some (i,o+l * n)
      | none=>some (i,o+l * n))
    (h - l) (match m with | some c=>some (c - l) | none=>none))
  | _=>none
 | .ptr (some (i,o))=>match P.underlying t with
  | some (.array len e)=>arr len e i o
  | some (.pointer u)=>match P.underlying u with
   | some (.array len e)=>arr len e i o
   | _=>none
  | _=>none
 | _=>none
where
 arr (len:Nat) (e:TypeId) (i o:Nat):Option AV:=(Ap P e).bind fun n =>
  (match mx with | some m=>Be m len | none=>some len).bind fun m =>
  (match hi with | some h=>Be h m | none=>match mx with | none=>some len | some _=>none).bind fun h =>
  (match lo with | some v=>Be v h | none=>some 0).bind fun l =>
  some (.slice (some (i,bif Nat.beq m l then o else o+l * n)) (h - l) (some (m - l)))
def AA(P:Program)(t:TypeId)(x:AV)(f:Nat):Option AV:=
 match x with
 | .ptr (some (i,o))=>match P.underlying t with
  | some (.struct fs)=>(fs[f]?).bind fun fd=>(Ap P fd.type).bind fun n =>
   AF (!Nat.beq n 0) (some (.ptr (some (i,o+fd.offset))))
  | _=>none
 | _=>none
def Og(P:Program)(t:TypeId)(cs:List AV)(off:Nat):Option AV:=
 (Da P t).bind fun g=>match g with
  | true=>(Ap P t).bind fun n=>some (.agg ((cs.drop off).take n))
  | false=>cs[off]?
def CN(P:Program)(t:TypeId)(x:AV)(f:Nat):Option AV:=
 match x with
 | .agg cs=>match P.underlying t with
  | some (.struct fs)=>(fs[f]?).bind fun fd=>Og P fd.type cs fd.offset
  | _=>none
 | _=>none
def AH(P:Program)(t:TypeId)(x ix:AV):Option AV:=
 (idxOf ix).bind fun k=>match x with
  | .ptr (some (i,o))=>match P.underlying t with
   | some (.array len e)=>(Ap P e).bind fun n=>AF (Nat.blt k len) (some (.ptr (some (i,o+k * n))))
   | _=>none
  | .gptr g o=>match P.underlying t with
   | some (.array len e)=>(Ap P e).bind fun n=>AF (Nat.blt k len) (some (.gptr g (o+k * n)))
   | _=>none
  | .slice (some (i,o)) len _=>match P.underlying t with
   | some (.slice e)=>(Ap P e).bind fun n=>AF (Nat.blt k len) (some (.ptr (some (i,o+k * n))))
   | _=>none
  | _=>none
def M8(P:Program)(t:TypeId)(x ix:AV):Option AV:=
 (idxOf ix).bind fun k=>match x with
  | .agg cs=>match P.underlying t with
   | some (.array len e)=>(Ap P e).bind fun n=>AF (Nat.blt k len) (Og P e cs (k * n))
   | _=>none
  | .str l=>match P.underlying t with
   | some .string=>(l[k]?).bind fun b=>some (.int .u8 (.ofNat b))
   | _=>none
  | _=>none
def AY:AV→Option AV
 | .ptr none | .nilIface | .nilFunc=>none
 | v=>some v
def Xv(x:AV)(i:Nat):Option AV:=
 match x with
 | .tuple vs=>vs[i]?
 | _=>none
def Ro(c a b:AV):Option AV:=
 match c with
 | .bool true=>some a
 | .bool false=>some b
 | _=>none
def B9(mx:Bool):AV→List AV→Option AV
 | v,[]=>some v
 | .int k a,.int k' b::l=>AF (Bh k k') (B9 mx (.int k (bif (bif mx then I9 a b else I9 b a)then b else a)) l)
 | _,_=>none
def Di:AV→AV→Option Bool
 | .int k a,.int k' b=>AF (Bh k k') (some (OP a b))
 | .str a,.str b=>some (BX a b)
 | .agg a,.agg b=>keysEq a b
 | _,_=>none
where
 keysEq:List AV→List AV→Option Bool
 | [],[]=>some true
 | .int k a::x,.int k' b::y=>AF (Bh k k') ((keysEq x y).bind fun r=>some (OP a b && r))
 | .str a::x,.str b::y=>(keysEq x y).bind fun r=>some (BX a b && r)
 | _,_=>none
def CW(k:AV):List (AV×AV)→Nat→Option (Option (Nat×AV))
 | [],_=>some none
 | (k',v)::l,i=>(Di k k').bind fun e=>match e with
  | true=>some (some (i,v))
  | false=>CW k l (i+1)
def FU(P:Program):Nat→TypeId→List AV→Bool
 | 0,_,_=>false
 | d+1,t,cs=>match P.underlying t with
  | some (.int q)=>match cs with
   | [.int q' n]=>Bh q' q && BA q n
   | _=>false
  | some .string=>match cs with
   | [.str l]=>Nat.ble l.length 1099511627776
   | _=>false
  | some (.array n e)=>Nat.beq cs.length (P.cellsOf t) && (List.range n).all fun i=>FU P d e ((cs.drop (i * P.cellsOf e)).take (P.cellsOf e))
  | some (.struct fs)=>Nat.beq cs.length (P.cellsOf t) && fs.toList.all fun f=>FU P d f.type ((cs.drop f.offset).take (P.cellsOf f.type))
  | _=>false
def CF(P:Program)(t:TypeId)(k:AV):Bool:=match P.underlying t with
 | some (.array _ _) | some (.struct _)=>match k with
  | .agg cs=>FU P 4 t cs
  | _=>false
 | _=>FU P 1 t [k]
def Do(P:Program)(t:TypeId):Bool:=match P.underlying t with
 | some (.int _) | some .string=>true
 | some (.array _ _) | some (.struct _)=>P.keyType t && (P.tiled (P.types.size+1) t && (Nat.ble 4 P.types.size && Nat.ble P.types.size 9990))
 | _=>false
def FW(P:Program)(t:TypeId):Bool:=match P.underlying t with
 | some (.map kt _)=>Do P kt
 | _=>false
def Dy(P:Program)(t:TypeId):Option TypeId:=match P.underlying t with
 | some (.map kt _)=>some kt
 | _=>none
def FV(s:AD)(kt:TypeId)(i:Nat):Option (List (AV×AV)):=match s.heap.get i with
 | some (.map kt' es)=>AF (Nat.beq kt' kt) (some es)
 | _=>none
def Cp(P:Program)(s:AD)(t:TypeId)(m k:AV)(ok:Bool):Option AV:=
 match P.underlying t with
 | some (.map kt et)=>AF (CF P kt k) <|
  (match m with
   | .map none=>some []
   | .map (some i)=>FV s kt i
   | _=>none).bind fun es=>(CW k es 0).bind fun r =>
   (match r with
    | some (_,v)=>some (v,true)
    | none=>(CI P et).bind fun z=>some (z,false)).bind fun p=>some (bif ok then .tuple [p.1,.bool p.2]else p.1)
 | _=>none
def setNth(es:List (AV×AV))(i:Nat)(v:AV):List (AV×AV):=
 match es,i with
 | [],_=>[]
 | (k,_)::l,0=>(k,v)::l
 | e::l,i+1=>e::setNth l i v
def Kz(k v:AV)(es:List (AV×AV)):Option (List (AV×AV)):=(CW k es 0).bind fun r=>match r with
 | some (j,_)=>some (setNth es j v)
 | none=>some (es++[(k,v)])
def Cq(P:Program)(s:AD)(t:TypeId)(m k v:AV):Option AD:=
 match P.underlying t,m with
 | some (.map kt _),.map (some i)=>AF (CF P kt k) <|
  (FV s kt i).bind fun es=>(Kz k v es).bind fun es'=>some (setObj s i (.map kt es'))
 | _,_=>none
def delNth(es:List (AV×AV))(i:Nat):List (AV×AV):=
 match es,i with
 | [],_=>[]
 | _::l,0=>l
 | e::l,i+1=>e::delNth l i
def Hu(P:Program)(s:AD)(t:TypeId)(m k:AV):Option AD:=
 match P.underlying t with
 | some (.map kt _)=>AF (CF P kt k) <| match m with
  | .map none=>some s
  | .map (some i)=>(FV s kt i).bind fun es=>(CW k es 0).bind fun r=>match r with
    | some (j,_)=>some (setObj s i (.map kt (delNth es j)))
    | none=>some s
  | _=>none
 | _=>none
def BY(P:Program)(s:AD)(t:TypeId):AV→Option AV
 | .str l=>match P.underlying t with
  | some .string=>some (.int .i64 (.ofNat l.length))
  | _=>none
 | .slice _ n _=>match P.underlying t with
  | some (.slice _)=>some (.int .i64 (.ofNat n))
  | _=>none
 | .map none=>match P.underlying t with
  | some (.map ..)=>some (.int .i64 (.ofNat 0))
  | _=>none
 | .map (some i)=>match P.underlying t with
  | some (.map ..)=>match s.heap.get i with
   | some (.map _ es)=>some (.int .i64 (.ofNat es.length))
   | _=>none
  | _=>none
 | _=>none
def PI(P:Program)(s:AD)(t:TypeId):AV→Option AV
 | .slice a _ cap=>match P.underlying t with
  | some (.slice e)=>match cap with
   | some c=>some (.int .i64 (.ofNat c))
   | none=>match a with
    | some (i,o)=>(Ap P e).bind fun n=>(rowAt s i).bind fun r=>AF (!r.spare && Nat.ble o r.n && Nat.beq n r.sz && !Nat.beq n 0) (some (.int .i64 (.ofNat ((r.n - o) / n))))
    | none=>none
  | _=>none
 | _=>none
def SP:AV→Option AV
 | .slice none _ _=>some (.ptr none)
 | .slice (some (i,o)) (_+1) _=>some (.ptr (some (i,o)))
 | _=>none
def Made.val(i:Nat):Made→AV
 | .ptr=>.ptr (some (i,0))
 | .slice n=>.slice (some (i,0)) n (some n)
 | .map=>.map (some i)
def Bo(P:Program)(e:TypeId):Option (Ao×Made):=(CI P e).bind fun z=>some (HV e 0 z.cells,.ptr)
def EY(e:TypeId)(v:AV):Option (Ao×Made):=some (HV e 0 v.cells,.ptr)
def EH(P:Program)(t:TypeId)(l c:AV):Option (Ao×Made):=
 match P.underlying t,l,c with
  | some (.slice e),.int .i64 (.ofNat l),.int .i64 (.ofNat c)=>(Bz P e).bind fun by_=>(Ap P e).bind fun n =>
   AF (Nat.beq l c && Nat.ble (by_ * c) 1099511627776 && Nat.ble c 1099511627776) <|
   (CI P e).bind fun z=>AF (Nat.beq z.cells.length n) (some (HV e n (QM z.cells c),.slice c))
  | _,_,_=>none
def NA(P:Program)(t:TypeId):Bool:=match P.underlying t with
 | some (.int _)=>true
 | _=>false
def I2(s:AD)(i o n size:Nat):Option (List AV):=bif Nat.beq n 0 then some []else BG s i o (n * size)
def B3(P:Program)(s:AD)(e:TypeId)(size:Nat):AV→Option (Nat×List AV)
 | .int _ (.ofNat n)=>AF (Nat.ble n 1099511627776 && Nat.blt 0 n) ((CI P e).bind fun z=>AF (Nat.beq z.cells.length size) (some (n,QM z.cells n)))
 | .slice none _ _=>some (0,[])
 | .slice (some (i,o)) n _=>(I2 s i o n size).bind fun l=>some (n,l)
 | .str l=>AF (Nat.beq size 1) (some (l.length,l.map fun b=>.int .u8 (.ofNat b)))
 | _=>none
def BH(P:Program)(t:TypeId):Bool:=match P.underlying t with
 | some (.slice _) | some .string=>true
 | _=>false
def CQ(e:TypeId)(sz:Nat)(c:AI AV)(n:Nat)(par:Option Nat)(base:Bool):Ao:=
 .row { elem:=e,sz,n,c,spare:=true,mode:=.own,par,bytes:=base }
def Bv(P:Program)(e:TypeId)(size:Nat):Bool:=match CI P e with
 | some z=>Nat.beq z.cells.length size
 | none=>false
def Bp(P:Program)(s:AD)(e:TypeId)(size n:Nat)(cells:List AV):Option (AV×AD):=
 AF (Bv P e size) (some (.slice (some (s.next,0)) n none,newObj s (CQ e size (AI.fill .leaf 0 cells) cells.length none true)))
def B6(s:AD)(i:Nat)(r:CJ)(ends:Bool):AD:=
 bif ends then setObj (A3 s i r) i (.row { r with mode:=.sealed,par:=none })else Bj (A3 s i r) i
def DI(P:Program)(s:AD)(e:TypeId)(size i o len:Nat)(src:Nat×List AV)(r:CJ)(old:List AV):Option (AV×AD):=
 AF (Cy r.mode && Nat.beq r.elem e && Bv P e size) <|
  let ends:=Nat.beq (o+len * size) r.n
  let s2:=B6 s i r ends
  some (.slice (some (s.next,0)) (len+src.1) none,
   newObj s2 (CQ e size (bif Nat.beq o 0 then r.c.fill (len * size) src.2 else AI.fill .leaf 0 (old++src.2)) (old++src.2).length (bif ends then some i else none) (r.bytes && Nat.beq o 0)))
def KH(P:Program)(s:AD)(e:TypeId)(size i o len:Nat)(src:Nat×List AV)(r:CJ):Option (AV×AD):=
 AF (Nat.beq size r.sz) <|
 bif Nat.ble (o+(len+src.1) * size) r.n then
  (Bu s i (o+len * size) src.2).bind fun s'=>some (.slice (some (i,o)) (len+src.1) none,s')
 else (BG s i o (len * size)).bind fun old =>
  bif r.spare then DI P s e size i o len src r old else Bp P s e size (len+src.1) (old++src.2)
def F3(P:Program)(s:AD)(e:TypeId)(size i o len c:Nat)(src:Nat×List AV):Option (AV×AD):=
 bif Nat.ble (len+src.1) c then
  (Bu s i (o+len * size) src.2).bind fun s'=>some (.slice (some (i,o)) (len+src.1) (some c),s')
 else (BG s i o (len * size)).bind fun old=>Bp P s e size (len+src.1) (old++src.2)
def appTo(P:Program)(s:AD)(e:TypeId)(size:Nat)(a:Option (Nat×Nat))(len:Nat)(cap:Option Nat)(src:Nat×List AV):Option (AV×AD):=
 match a with
 | none=>bif Nat.beq src.1 0 then some (.slice none 0 (some 0),s)else Bp P s e size src.1 src.2
 | some (i,o)=>match cap with
  | some c=>F3 P s e size i o len c src
  | none=>(rowAt s i).bind fun r=>KH P s e size i o len src r
def Ay(P:Program)(s:AD)(argTypes:List TypeId)(args:List AV):Option (AV×AD):=
 match argTypes,args with
 | [st,xt],[.slice a len cap,x]=>match P.underlying st with
  | some (.slice e)=>(Ap P e).bind fun size=>(Bz P e).bind fun by_ =>
   AF (!Nat.beq size 0 && (match x with | .int ..=>NA P xt | _=>BH P xt)) <|
   (B3 P s e size x).bind fun src =>
   AF (AW src.2 && Nat.ble ((len+src.1) * by_) 1099511627776 && Nat.ble (len+src.1) 1099511627776) <|
   appTo P s e size a len cap src
  | _=>none
 | _,_=>none
def II(P:Program)(s:AD)(argTypes:List TypeId)(args:List AV):Option (AV×AD):=
 match argTypes,args with
 | dt::_,[.slice a dl _,x]=>match P.underlying dt with
  | some (.slice e)=>(Ap P e).bind fun size =>
   (match x with | .slice _ n _=>some n | .str l=>some l.length | _=>none).bind fun sl =>
   let n:=bif Nat.ble sl dl then sl else dl
   (match x with
    | .slice none _ _=>some []
    | .slice (some (i,o)) _ _=>BG s i o (n * size)
    | .str l=>AF (Nat.beq size 1) (some ((l.take n).map fun b=>.int .u8 (.ofNat b)))
    | _=>none).bind fun cells =>
   (match a with
    | none=>some s
    | some (i,o)=>Bu s i o cells).bind fun s'=>some (.int .i64 (.ofNat n),s')
  | _=>none
 | _,_=>none
def OI(r:CJ):Ao:=.row { r with n:=0,spare:=true,mode:=.ro,par:=none,bytes:=false,glob:=none }
def Oy(P:Program)(s:AD)(t:TypeId)(n:Nat):Option (Nat×Nat)→Option (AV×AD)
 | none=>none
 | some (i,o)=>match P.underlying t with
  | some (.pointer e)=>(rowAt s i).bind fun r=>AF (Cy r.mode && r.bytes && Nat.beq o 0 && Nat.beq r.elem e && Nat.ble n 1099511627776) <| (Ap P e).bind fun z=>AF (Nat.beq z 1) <|
   (BG s i o n).bind fun l=>(BJ.bytesOf l).bind fun b=>some (.str b,setObj (A3 s i r) i (OI r))
  | _=>none
def Th(P:Program)(s:AD)(argTypes:List TypeId)(args:List AV):Option (AV×AD):=
 match argTypes,args with
 | [t,_],[.ptr a,.int .i64 (.ofNat n)]=>match n with
  | 0=>some (.str [],s)
  | n+1=>Oy P s t (n+1) a
 | _,_=>none
def Sy(s:AD):List AV→Option (AV×AD)
 | [x]=>some (x,s)
 | _=>none
def Ks(e:TypeId)(s:AD):List AV→Option (AV×AD)
 | [.int .i64 (.ofNat n)]=>AF (Nat.ble n 1099511627776) (some (.slice (some (s.next,0)) n none,newObj s (CQ e 1 .leaf n none true)))
 | _=>none
def OH(s:AD):List AV→Option (AV×AD)
 | [.str a,.str b]=>some (.int .i64 (bif E0 a b then -1 else bif BX a b then 0 else 1),s)
 | _=>none
def Lb(P:Program)(name:String)(rt:Array TypeId):Option (AD→List AV→Option (AV×AD)):=
  bif name == "internal/abi.NoEscape" then some Sy else
  bif name == "internal/bytealg.abigen_runtime_cmpstring" then some OH else
  bif name == "internal/bytealg.MakeNoZero" then (match rt.toList with
    | [t]=>match P.underlying t with
      | some (.slice e)=>match Ap P e with
        | some 1=>some (Ks e)
        | _=>none
      | _=>none
    | _=>none)
  else none
def SU(P:Program)(f:FuncId):Option (AD→List AV→Option (AV×AD)):=match P.funcs[f]? with
  | some fn=>match fn.body with
    | some _=>none
    | none => bif fn.origin == "" then Lb P fn.name fn.resultTypes else none
  | none=>none
def Mv(P:Program)(s:AD)(argTypes:List TypeId)(args:List AV):Option (AV×AD):=
 match argTypes,args with
 | t::_,[x]=>match P.underlying t,x with
  | some (.slice _),.slice none _ _=>some (A5,s)
  | some (.slice _),.slice _ 0 _=>some (A5,s)
  | some (.slice e),.slice (some (i,o)) n _=>(CI P e).bind fun z=>(Bu s i o (QM z.cells n)).bind fun s'=>some (A5,s')
  | _,_=>none
 | _,_=>none
inductive Sh where
 | p1 (f:AV→Option AV)
 | p2 (f:AV→AV→Option AV)
 | p (f:List AV→Option AV)
 | r1 (f:AD→AV→Option AV)
 | r (f:AD→List AV→Option AV)
 | mk (f:List AV→Option (Ao×Made))
 | e (f:AD→List AV→Option (AV×AD))
 | call (f:FuncId)
 | callv
def Sh.isEff:Sh→Bool
 | .e _ | .call _ | .callv=>true
 | _=>false
def Sh.isRead:Sh→Bool
 | .r1 _ | .r _=>true
 | _=>false
def Rn:List AV→Option AV
 | [c,a,b]=>Ro c a b
 | _=>none
def Xs{α:Type}(f:AV→AV→Option α):List AV→Option α
 | [a,b]=>f a b
 | _=>none
def Xt{α:Type}(f:AV→AV→AV→Option α):List AV→Option α
 | [a,b,c]=>f a b c
 | _=>none
def Xu(x:Option AD):Option (AV×AD):=match x with
 | some s=>some (A5,s)
 | none=>none
def Ar(P:Program)(t:TypeId)(lo hi mx:Bool)(s:AD):List AV→Option AV
 | [x]=>match lo,hi,mx with
  | false,false,false=>Bf P s t x none none none
  | _,_,_=>none
 | [x,a]=>match lo,hi,mx with
  | true,false,false=>Bf P s t x (some a) none none
  | false,true,false=>Bf P s t x none (some a) none
  | _,_,_=>none
 | [x,a,b]=>match lo,hi,mx with
  | true,true,false=>Bf P s t x (some a) (some b) none
  | false,true,true=>Bf P s t x none (some a) (some b)
  | _,_,_=>none
 | [x,a,b,c]=>match lo,hi,mx with
  | true,true,true=>Bf P s t x (some a) (some b) (some c)
  | _,_,_=>none
 | _=>none
def zipIdx(is:List Nat)(l:List AV):List (Nat×AV):=is.zip l
def Ej:Operand→Bool
 | .tmp _=>true
 | _=>false
def S5(P:Program)(op:BinOp)(t:TypeId)(x y:Operand):Option Bool:=match op with
 | .eql=>bif Ej x && Ej y && Ei P t then some false else none
 | .neq=>bif Ej x && Ej y && Ei P t then some true else none
 | _=>none
def Ad(P:Program)(o:Op):Option (Sh×List Operand):=
 match o with
 | .move x | .assign x=>some (.p1 some,[x])
 | .pick c a b=>some (.p Rn,[c,a,b])
 | .build t ps=>some (.p (fun l=>AR P t (zipIdx (ps.toList.map (·.1)) l)),ps.toList.map (·.2))
 | .nilCheck x=>some (.p1 AY,[x])
 | .binOp op t x y _=>match S5 P op t x y with
  | some neg=>some (.r (fun s=>Xs (G2 P s neg t)),[x,y])
  | none=>some (.p2 (AO P op t),[x,y])
 | .unOp op _ x=>some (.p1 (Uu P op),[x])
 | .makeFunc fn first captured=>match fn with
  | .func f=>some (.p (fun l=>some (.func f (l.take first.size) (l.drop first.size))),first.toList++captured.toList)
  | _=>none
 | .fieldAddr t x f=>some (.p1 (fun x=>AA P t x f),[x])
 | .field t x f=>some (.p1 (fun x=>CN P t x f),[x])
 | .indexAddr t x i=>some (.p2 (AH P t),[x,i])
 | .index t x i=>some (.p2 (M8 P t),[x,i])
 | .extract t i=>some (.p1 (fun x=>Xv x i),[t])
 | .load t a=>some (.r1 (fun s a=>AK P s t a),[a])
 | .lookup t m k ok=>AF (FW P t) (some (.r (fun s=>Xs (fun m k=>Cp P s t m k ok)),[m,k]))
 | .convert src dst x=>some (.r1 (fun s x=>BJ P s src dst x),[x])
 | .slice t x lo hi mx=>some (.r (Ar P t lo.isSome hi.isSome mx.isSome),[x]++lo.toList++hi.toList++mx.toList)
 | .alloc e=>some (.mk (fun l=>match l with | []=>Bo P e | _=>none),[])
 | .box e x=>some (.mk (fun l=>match l with | [v]=>EY e v | _=>none),[x])
 | .buildSlice t len ps=>some (.mk (fun l=>(Aa P t len (zipIdx (ps.toList.map (·.1)) l)).bind fun r=>some (r,.slice len)),ps.toList.map (·.2))
 | .makeMap t none=>AF (FW P t) (some (.mk (fun l=>match l with | []=>(Dy P t).bind fun kt=>some (.map kt [],.map) | _=>none),[]))
 | .makeSlice t l c=>some (.mk (Xs (EH P t)),[l,c])
 | .store t a x=>some (.e (fun s=>Xs (fun a x=>Xu (As P s t a x))),[a,x])
 | .mapUpdate t m k x | .insert t m k x=>AF (FW P t) (some (.e (fun s=>Xt (fun m k x=>Xu (Cq P s t m k x))),[m,k,x]))
 | .call { callee,args,argTypes }=>match callee with
  | .value (.func f)=>match SU P f with
   | some e=>some (.e e,args.toList)
   | none=>some (.call f,args.toList)
  | .value x=>some (.callv,x::args.toList)
  | .invoke ..=>none
  | .builtin b=>match b with
   | .len=>match argTypes[0]? with
    | some t=>some (.r (fun s l=>match l with | [x]=>BY P s t x | _=>none),args.toList)
    | none=>none
   | .cap=>match argTypes[0]? with
    | some t=>some (.r (fun s l=>match l with | [x]=>PI P s t x | _=>none),args.toList)
    | none=>none
   | .min=>some (.p (fun l=>match l with | v::l=>B9 false v l | []=>none),args.toList)
   | .max=>some (.p (fun l=>match l with | v::l=>B9 true v l | []=>none),args.toList)
   | .append=>some (.e (fun s l=>Ay P s argTypes.toList l),args.toList)
   | .copy=>some (.e (fun s l=>II P s argTypes.toList l),args.toList)
   | .unsafeSliceData=>some (.p (fun l=>match l with | [x]=>SP x | _=>none),args.toList)
   | .unsafeString=>some (.e (fun s l=>Th P s argTypes.toList l),args.toList)
   | .clear=>some (.e (fun s l=>Mv P s argTypes.toList l),args.toList)
   | .delete=>match argTypes[0]? with
    | some t=>AF (FW P t) (some (.e (fun s=>Xs (fun m k=>Xu (Hu P s t m k))),args.toList))
    | none=>none
   | _=>none
 | _=>none
def aF(t:Nat):Nat:=Nat.shiftLeft 1 t
def Ep:List Operand→Nat
 | []=>0
 | .tmp t::l=>Nat.lor (aF t) (Ep l)
 | _::l=>Ep l
def IL(P:Program):List Oper→Nat→Nat→Nat
 | [],_,e=>e
 | o::l,wr,e =>
  let rd:=match Ad P o.op with
   | some (_,xs)=>Ep xs
   | none=>0
  IL P l (match o.dst with | some d=>Nat.lor wr (aF d) | none=>wr) (Nat.lor e (Nat.sub rd (Nat.land rd wr)))
def C7(P:Program):Code→Nat
 | .region _ ops _=>IL P ops.toList 0 0
 | .seq a b=>Nat.lor (C7 P a) (C7 P b)
 | .cond c a b=>Nat.lor (Ep [c]) (Nat.lor (C7 P a) (C7 P b))
 | .block _ b | .loop b | .scope b=>C7 P b
 | .rangeFunc f ps a b=>Nat.lor (Ep [f]) (Nat.lor (ps.toList.foldl (fun m t=>Nat.lor m (aF t)) 0) (Nat.lor (C7 P a) (C7 P b)))
 | _=>0
def Fp:List ResultVar→Nat
 | []=>0
 | .tmp t::l | .cell t _::l=>Nat.lor (aF t) (Fp l)
def Dv(m:Nat):Nat→Nat→List Nat
 | 0,_=>[]
 | n+1,k=>bif m.testBit k then k::Dv m n (k+1)else Dv m n (k+1)
def B8(fn:Func):Nat:=fn.params.size+fn.nfree
def Al(P:Program)(fn:Func):List Tmp:=
 List.range (B8 fn)++match fn.body with
 | none=>[]
 | some c=>Dv (Nat.lor (C7 P c) (Fp fn.results.toList)) (fn.ntmps - B8 fn) (B8 fn)
def BE:List Tmp→Tmp→Option Nat
 | [],_=>none
 | a::l,t=>bif Nat.beq a t then some 0 else (BE l t).bind fun j=>some (j+1)
def LZ(P:Program)(o:Oper):Bool:=match Ad P o.op with
 | some (s,_)=>s.isEff
 | none=>true
def Oh(b:Array Nat)(done:Nat)(i:Nat):Bool:=Nat.beq (Nat.land (b.getD i 0) done) (b.getD i 0)
def NR(P:Program)(ops:Array Oper)(b:Array Nat):Nat→Nat→List Nat→List Nat→List Nat
 | 0,_,_,acc=>acc.reverse
 | f+1,done,todo,acc =>
  match todo.find? fun i=>Oh b done i && !LZ P (ops.getD i default)with
  | some i=>NR P ops b f (done+2 ^ i) (todo.filter fun j=>!Nat.beq j i) (i::acc)
  | none=>match todo.find? fun i=>Oh b done i with
   | some i=>NR P ops b f (done+2 ^ i) (todo.filter fun j=>!Nat.beq j i) (i::acc)
   | none=>acc.reverse
def Ub(P:Program)(ops:Array Oper):List Nat:=NR P ops (Region.before ops) ops.size 0 (List.range ops.size) []
def EI(P:Program)(o:Oper):List Tmp:=o.dst.toList++((match Ad P o.op with
 | some (_,xs)=>xs
 | none=>[]).filterMap fun x:Operand=>match x with
  | .tmp t=>some t
  | _=>none)
def OS(o:Oper):List Nat:=match o.guard with
 | some (j,_)=>[j]
 | none=>[]
def K7(P:Program)(ops:Array Oper)(b:Array Nat)(before:List Nat)(i:Nat):Bool:=
 let o:=ops.getD i default
 let anc:=b.getD i 0
 Nat.blt i ops.size && !before.contains i &&
 (List.range ops.size).all (fun j=>!anc.testBit j || before.contains j) &&
 o.after.all (fun e=>!Region.binds .any e || before.contains e.on) &&
 before.all (fun j=>!LZ P (ops.getD j default) || anc.testBit j) &&
 (OS o).all (fun j=>anc.testBit j) &&
 before.all (fun j=>let p:=ops.getD j default
  (match o.dst with
   | none=>true
   | some d=>p.dst != some d && (!(EI P p).contains d || anc.testBit j)) &&
  (match p.dst with
   | none=>true
   | some d=>!(EI P o).contains d || anc.testBit j))
def DV(P:Program)(ops:Array Oper)(b:Array Nat):List Nat→List Nat→Bool
 | before,[]=>Nat.beq before.length ops.size
 | before,i::l=>K7 P ops b before i && DV P ops b (before++[i]) l
inductive Gg where
 | push | set (j:Nat)
structure ES where
 guard:Option (CX×Bool)
 sh:Sh
 xs:List CX
 ans:CX
structure AC where
 guard:Option (CX×Bool)
 sh:Sh
 xs:List CX
 dst:Gg
 again:List ES
structure Tv where
 map:List (Tmp×CX)
 cnt:Nat
def C0:List (Tmp×CX)→Tmp→Option CX
 | [],_=>none
 | (a,x)::l,t=>bif Nat.beq a t then some x else C0 l t
def BZ(cnt:Nat):CX→CX
 | .loc p=>.loc (cnt - 1 - p)
 | x=>x
def C1(vars:List Tmp)(c:Tv)(t:Tmp):Option CX:=
 match C0 c.map t with
 | some x=>some x
 | none=>(BE vars t).bind fun j=>some (.var j)
def DT(vars:List Tmp)(c:Tv):Operand→Option CX
 | .tmp t=>C1 vars c t
 | .const v=>(ofValue v).bind fun a=>some (.const a)
 | .global g=>some (.const (.gptr g 0))
 | .func f=>some (.const (.func f [] []))
def Fn(vars:List Tmp)(c:Tv):List Operand→Option (List CX)
 | []=>some []
 | x::l=>(DT vars c x).bind fun a=>(Fn vars c l).bind fun r=>some (a::r)
def isVar(j:Nat):CX→Bool
 | .var i=>Nat.beq i j
 | _=>false
def GQ(j:Nat):List (Tmp×CX)→Bool
 | []=>true
 | (_,x)::l=>!isVar j x && GQ j l
def Hp(vars:List Tmp)(later:List (Option Tmp))(o:Oper)(x:CX):Bool:=
 (match o.op with | .move _=>true | _=>false) && o.guard.isNone &&
 (match o.dst with | some d=>(BE vars d).isNone | none=>false) &&
 (match x with
  | .var j=>!(later.any fun d=>match d with
   | some t=>match BE vars t with
    | some i=>Nat.beq i j
    | none=>false
   | none=>false)
  | _=>true)
def FN(cnt:Nat):Option (CX×Bool)→Option (CX×Bool)
 | none=>none
 | some (x,b)=>some (BZ cnt x,b)
def GV(cnt:Nat)(r:ES):ES:={ guard:=FN cnt r.guard,sh:=r.sh,xs:=r.xs.map (BZ cnt),ans:=BZ cnt r.ans }
def K1(j:Nat)(r:ES):Bool:=(match r.guard with | none=>true | some (x,_)=>!isVar j x) && r.xs.all fun x=>!isVar j x
def C6(P:Program)(nt:Nat)(vars:List Tmp)(ops:Array Oper)(b:Array Nat)(draw:Bool):List Nat→Tv→List (Nat×ES)→Option (List AC)
  | [],_,_=>some []
  | i::l,c,rs=>(ops[i]?).bind fun o=>(Ad P o.op).bind fun sh=>(Fn vars c sh.2).bind fun xs =>
    match (match xs with | [x]=>bif Hp vars (l.map fun j=>(ops.getD j default).dst) o x then some x else none | _=>none),o.dst with
    | some x,some d=>AF (Nat.blt d nt) (C6 P nt vars ops b draw l { c with map:=(d,x)::c.map } rs)
    | _,_ =>
      (match o.guard with
        | none=>some none
        | some (j,want)=>(ops[j]?).bind fun p=>p.dst.bind fun d=>(C1 vars c d).bind fun x=>some (some (x,want))).bind fun g =>
      (match o.dst with
        | none=>some (Gg.push,{ c with cnt:=c.cnt+1 })
        | some d=>AF (Nat.blt d nt) <| match BE vars d with
          | some j=>AF (GQ j c.map && rs.all fun r=>K1 j r.2) (some (Gg.set j,c))
          | none=>some (Gg.push,{ map:=(d,.loc c.cnt)::c.map,cnt:=c.cnt+1 })).bind fun q =>
      let ag:=match draw,sh.1.isEff with
        | true,true=>rs.filter fun(r:Nat×ES)=>!(b.getD i 0).testBit r.1
        | _,_=>[]
      let rd:=draw && sh.1.isRead
      AF (!rd || (match q.1 with | .push=>true | .set _=>false)) <|
      (C6 P nt vars ops b draw l q.2 (bif rd then (i,{ guard:=g,sh:=sh.1,xs,ans:=.loc c.cnt })::rs else rs)).bind fun r =>
        some ({ guard:=FN c.cnt g,sh:=sh.1,xs:=xs.map (BZ c.cnt),dst:=q.1,again:=ag.map fun(r:Nat×ES)=>GV q.2.cnt r.2 }::r)
inductive AU where
 | skip
 | ops (l:List AC)
 | seq (a b:AU)
 | cond (x:CX) (a b:AU)
 | block (id:Nat) (c:AU)
 | loop (c:AU)
 | rangeFunc (fn:FuncId) (f:CX) (params:Array Tmp) (assign body:Code)
 | exit (id:Nat)
 | ret
 | never
def Xx:Option (List AC)→AU
 | some l=>.ops l
 | none=>.never
def Ah(P:Program)(fn:FuncId)(nt:Nat)(vars:List Tmp):Code→AU
 | .skip | .label _=>.skip
 | .ret=>.ret
 | .exit id=>.exit id
 | .goto _ | .refuse _=>.never
 | .region _ ops draw=>match draw with
  | false=>Xx (C6 P nt vars ops #[] false (List.range ops.size) ⟨[],0⟩ [])
  | true=>Xx (AF (DV P ops (Region.before ops) [] (Ub P ops)) (C6 P nt vars ops (Region.before ops) true (Ub P ops) ⟨[],0⟩ []))
 | .seq a b=>.seq (Ah P fn nt vars a) (Ah P fn nt vars b)
 | .cond c a b=>match DT vars ⟨[],0⟩ c with
  | some z=>.cond z (Ah P fn nt vars a) (Ah P fn nt vars b)
  | none=>.never
 | .block id c=>.block id (Ah P fn nt vars c)
 | .loop c=>.loop (Ah P fn nt vars c)
 | .scope c=>Ah P fn nt vars c
 | .rangeFunc f ps a b=>match DT vars ⟨[],0⟩ f with
  | some x=>.rangeFunc fn x ps a b
  | none=>.never
structure At where
 na:Nat
 nv:Nat
 body:AU
 results:List (CX×Option TypeId)
def Bq(vars:List Tmp):List ResultVar→Option (List (CX×Option TypeId))
 | []=>some []
 | .tmp t::l=>(BE vars t).bind fun j=>(Bq vars l).bind fun r=>some ((.var j,none)::r)
 | .cell t ty::l=>(BE vars t).bind fun j=>(Bq vars l).bind fun r=>some ((.var j,some ty)::r)
def AP(P:Program)(f:FuncId):Option At:=(P.funcs[f]?).bind fun fn=>fn.body.bind fun c =>
 AF (Nat.ble (B8 fn) fn.ntmps) <|
 let vars:=Al P fn
 (Bq vars fn.results.toList).bind fun r =>
  some { na:=B8 fn,nv:=vars.length,body:=Ah P f fn.ntmps vars c,results:=r }
def JG (l:List AV):Nat→AV:=
 List.rec (fun _=>A5) (fun a _ ih i=>Nat.rec a (fun i _=>ih i) i) l
def upd (v:AV) (l:List AV):Nat→List AV:=
 List.rec (fun _=>[]) (fun a l ih i=>Nat.rec (v::l) (fun i _=>a::ih i) i) l
def CB (loc var:List AV) (x:CX):AV:=
 match x with
 | .loc i=>JG loc i
 | .var j=>JG var j
 | .const v=>v
def Ch (loc var:List AV) (l:List CX):List AV:=
 List.rec [] (fun x _ ih=>CB loc var x::ih) l
inductive JK where
 | normal | exit (id:Nat) | ret
structure Au where
 exit:JK
 var:List AV
 marks:List Nat
 st:AD
def LC:AV→AV→Bool
 | .bool a,.bool b=>a == b
 | .int k a,.int k' b=>Bh k k' && OP a b
 | .str a,.str b=>BX a b
 | .ptr none,.ptr none=>true
 | .gptr a b,.gptr c d=>Nat.beq a c && Nat.beq b d
 | .ptr (some (i,o)),.ptr (some (j,p))=>Nat.beq i j && Nat.beq o p
 | .slice none n (some c),.slice none n' (some c')=>Nat.beq n n' && Nat.beq c c'
 | .slice none n none,.slice none n' none=>Nat.beq n n'
 | .slice (some (i,o)) n none,.slice (some (j,p)) n' none=>Nat.beq i j && Nat.beq o p && Nat.beq n n'
 | .slice (some (i,o)) n (some c),.slice (some (j,p)) n' (some c')=>Nat.beq i j && Nat.beq o p && Nat.beq n n' && Nat.beq c c'
 | .map none,.map none=>true
 | .map (some i),.map (some j)=>Nat.beq i j
 | .func f a c,.func g b d=>Nat.beq f g && eqAs a b && eqAs c d
 | .nilFunc,.nilFunc=>true
 | .nilIface,.nilIface=>true
 | .yield i,.yield j=>Nat.beq i j
 | .agg a,.agg b=>eqAs a b
 | .tuple a,.tuple b=>eqAs a b
 | _,_=>false
where
 eqAs:List AV→List AV→Bool
 | [],[]=>true
 | a::x,b::y=>LC a b && eqAs x y
 | _,_=>false
abbrev QO:=FuncId→List AV→AD→Option (AV×AD)
structure Bl where
 P:Program
 nat:QO
structure Cd where
 code:Option Nat→AU→List AV→List Nat→AD→Option Au
 call:FuncId→List AV→AD→Option (AV×AD)
 round:Nat→List AV→AD→Option (AV×AD)
def FQ(F:Cd)(f:AV)(args:List AV)(s:AD):Option (AV×AD):=
 match f with
 | .func f first cap=>F.call f (first++(args++cap)) s
 | .yield l=>F.round l args s
 | _=>none
def Cc(s:AD)(x:Option AV):Option (AV×AD):=match x with
 | some v=>some (v,s)
 | none=>none
def one{α:Type}(f:AV→Option α):List AV→Option α
 | [a]=>f a
 | _=>none
def DW(sh:Sh)(xs:List AV)(s:AD):Option AV:=
 match sh with
 | .r1 f=>one (f s) xs
 | .r f=>f s xs
 | _=>none
def Lu(s:AD)(r:Option (Ao×Made)):Option (AV×AD):=match r with
 | some p=>some (p.2.val s.next,newObj s p.1)
 | none=>none
def Ma {α:Type} (f:CX→Option α) (xs:List CX):Option α:=List.rec none (fun x _ _=>f x) xs
def Yt {α:Type} (f:CX→CX→Option α) (xs:List CX):Option α:=Ma (fun x=>Ma (f x) xs.tail) xs
def aU (f:AV→Option AV) (xs:List CX) (loc var:List AV) (s:AD):Option (AV×AD):=Ma (fun x=>Cc s (f (CB loc var x))) xs
def aV (f:AV→AV→Option AV) (xs:List CX) (loc var:List AV) (s:AD):Option (AV×AD):=Yt (fun x y=>Cc s (f (CB loc var x) (CB loc var y))) xs
def aW (f:AD→AV→Option AV) (xs:List CX) (loc var:List AV) (s:AD):Option (AV×AD):=Ma (fun x=>Cc s (f s (CB loc var x))) xs
def shV (F:Cd) (xs:List CX) (loc var:List AV) (s:AD):Option (AV×AD):=Ma (fun x=>FQ F (CB loc var x) (Ch loc var xs.tail) s) xs
def Y6 (F:Cd) (sh:Sh) (xs:List CX) (loc var:List AV) (s:AD):Option (AV×AD):=
 match sh with
 | .p1 f=>aU f xs loc var s
 | .p2 f=>aV f xs loc var s
 | .p f=>Cc s (f (Ch loc var xs))
 | .r1 f=>aW f xs loc var s
 | .r f=>Cc s (f s (Ch loc var xs))
 | .mk f=>Lu s (f (Ch loc var xs))
 | .e f=>f s (Ch loc var xs)
 | .call f=>F.call f (Ch loc var xs) s
 | .callv=>shV F xs loc var s
def ZF(want:Bool):AV→Bool
 | .bool b=>b == want
 | _=>false
def A4 (loc var:List AV) (g:Option (CX×Bool)):Bool:=
 match g with
 | none=>true
 | some p=>ZF p.2 (CB loc var p.1)
def Xz(x:Option AV)(v:AV):Bool:=match x with
 | some u=>LC u v
 | none=>false
def EW (s:AD) (loc var:List AV) (r:ES):Bool:=
 !A4 loc var r.guard || Xz (DW r.sh (Ch loc var r.xs) s) (CB loc var r.ans)
def Cv (s:AD) (loc var:List AV) (l:List ES):Bool:=
 List.rec true (fun r _ ih=>EW s loc var r && ih) l
abbrev QN:=List AV→List AV→AD→Option (List AV×AD)
def Bx (ag:List ES) (d:Gg) (k:QN) (loc var:List AV) (v:AV) (s:AD):Option (List AV×AD):=
 match d with
 | .push=>bif Cv s (v::loc) var ag then k (v::loc) var s else none
 | .set j=>bif Cv s loc (upd v var j) ag then k loc (upd v var j) s else none
def Hz (it:AC) (k:QN) (loc var:List AV) (r:Option (AV×AD)):Option (List AV×AD):=
 match r with
 | none=>none
 | some p=>Bx it.again it.dst k loc var p.1 p.2
def IZ (F:Cd) (it:AC) (k:QN) (loc var:List AV) (s:AD):Option (List AV×AD):=
 match A4 loc var it.guard with
 | true=>Hz it k loc var (Y6 F it.sh it.xs loc var s)
 | false=>Bx [] it.dst k loc var A5 s
def Cw (F:Cd) (l:List AC):QN:=
 List.rec (fun _ var s=>some (var,s)) (fun it _ ih loc var s=>IZ F it ih loc var s) l
def Ql(l:List AV):Nat→List AV
 | 0=>[]
 | n+1=>match l with
  | []=>A5::Ql [] n
  | a::l=>a::Ql l n
def BC (P:Program) (s:AD) (var:List AV):List (CX×Option TypeId)→Option (List AV)
 | []=>some []
 | (x,none)::l=>(BC P s var l).bind fun r=>some (CB [] var x::r)
 | (x,some t)::l=>(AK P s t (CB [] var x)).bind fun v=>(BC P s var l).bind fun r=>some (v::r)
def A2:List AV→AV
 | [v]=>v
 | l=>.tuple l
def CU(s:AD):List Nat→Option AD
 | []=>some s
 | i::l=>match s.heap.get i with
  | some .mark=>CU (Bj s i) l
  | _=>none
def DM:JK→Option Code
 | .normal=>none
 | .ret=>some .ret
 | .exit id=>some (.exit id)
def FK (vars:List Tmp) (var:List AV):List Tmp→List AV→Option (List AV)
 | [],[]=>some var
 | t::ts,v::vs=>(BE vars t).bind fun j=>FK vars (upd v var j) ts vs
 | _,_=>none
def Fl(s:AD)(l:Nat):Option H2:=match s.heap.get l with
 | some (.loop r)=>some r
 | _=>none
def Mw(P:Program)(f:FuncId)(c:Code):Option AU:=(P.funcs[f]?).bind fun fn=>some (Ah P f fn.ntmps (Al P fn) c)
def Fx(P:Program)(f:FuncId):List Tmp:=match P.funcs[f]? with
 | some fn=>Al P fn
 | none=>[]
def T8(marks:List Nat)(r:Option (List AV×AD)):Option Au:=match r with
 | some p=>some ⟨.normal,p.1,marks,p.2⟩
 | none=>none
def FP(F:Cd)(rnd:Option Nat)(b:AU)(r:Au):Option Au:=match r.exit with
 | .normal=>F.code rnd b r.var r.marks r.st
 | _=>some r
def F8(F:Cd)(rnd:Option Nat)(b:AU)(r:Option Au):Option Au:=match r with
 | some r=>FP F rnd b r
 | none=>none
def LV(F:Cd)(rnd:Option Nat)(a b:AU)(var:List AV)(marks:List Nat)(s:AD)(v:AV):Option Au:=match v with
 | .bool t=>match t with
  | true=>F.code rnd a var marks s
  | false=>F.code rnd b var marks s
 | _=>none
def Hs(id:Nat)(r:Au):Option Au:=match r.exit with
 | .exit id'=>bif Nat.beq id' id then some ⟨.normal,r.var,r.marks,r.st⟩else some r
 | _=>some r
def ID(id:Nat)(r:Option Au):Option Au:=match r with
 | some r=>Hs id r
 | none=>none
def IE(var:List AV)(marks:List Nat)(s:AD)(c:Option Code):Option Au:=match c with
 | none=>some ⟨.normal,var,marks,s⟩
 | some .ret=>some ⟨.ret,var,marks,s⟩
 | some (.exit id)=>some ⟨.exit id,var,marks,s⟩
 | some _=>none
def Sm:LoopState→Bool
 | .busy=>true
 | _=>false
def Kk:LoopState→Bool
 | .ready=>true
 | _=>false
def Gq(var:List AV)(marks:List Nat)(l:Nat)(q:Option (AV×AD)):Option Au:=
 q.bind fun q=>(Fl q.2 l).bind fun r=>bif Sm r.state then none else
  IE var marks (setObj q.2 l (.loop { r with state:=.exhausted })) r.pending
def EA(F:Cd)(var:List AV)(f:AV)(params:Array Tmp)(assign body:Code)(fn:FuncId)(dfr:Nat)(marks:List Nat)(s:AD):Option Au:=
 Gq var marks s.next (FQ { F with round:=fun _ _ _=>none } f [.yield s.next] (newObj s (.loop { state:=.ready,pending:=none,fn,var,params,assign,body,dfr })))
def KZ(F:Cd)(rnd:Option Nat)(fn:FuncId)(f:AV)(params:Array Tmp)(assign body:Code)(var:List AV)(marks:List Nat)(s:AD):Option Au:=
 match rnd with
 | some l=>(Fl s l).bind fun r=>EA F var f params assign body fn r.dfr marks s
 | none=>EA F var f params assign body fn s.next (s.next::marks) (newObj s .mark)
def CG (F:Cd) (rnd:Option Nat) (c:AU) (var:List AV) (marks:List Nat) (s:AD):Option Au:=
 match c with
 | .skip=>some ⟨.normal,var,marks,s⟩
 | .ret=>some ⟨.ret,var,marks,s⟩
 | .exit id=>some ⟨.exit id,var,marks,s⟩
 | .never=>none
 | .ops l=>T8 marks (Cw F l [] var s)
 | .seq a b=>F8 F rnd b (F.code rnd a var marks s)
 | .cond x a b=>LV F rnd a b var marks s (CB [] var x)
 | .block id body=>ID id (F.code rnd body var marks s)
 | .loop body=>F8 F rnd (.loop body) (F.code rnd body var marks s)
 | .rangeFunc fn f params assign body=>KZ F rnd fn (CB [] var f) params assign body var marks s
def OW:JK→Bool
 | .normal | .ret=>true
 | .exit _=>false
def Ht (P:Program) (cf:At) (r:Option Au):Option (AV×AD):=
 r.bind fun r=>bif OW r.exit then (CU r.st r.marks).bind fun s=>(BC P s r.var cf.results).bind fun l=>some (A2 l,s)else none
def Eb (P:Program) (F:Cd) (args:List AV) (s:AD) (cf:Option At):Option (AV×AD):=
 cf.bind fun cf=>bif Nat.beq args.length cf.na then Ht P cf (F.code none cf.body (Ql args cf.nv) [] s)else none
def Fb (E:Bl) (F:Cd) (f:FuncId) (args:List AV) (s:AD):Option (AV×AD):=
 match E.nat f args s with
 | some p=>some p
 | none=>Eb E.P F args s (AP E.P f)
def IX:JK→Bool
 | .normal=>true
 | _=>false
def GZ:Option Code→LoopState
 | none=>.ready
 | some _=>.done
def Iv(l:Nat)(q:Option Au):Option (AV×AD):=q.bind fun q=>(Fl q.st l).bind fun r =>
 some (.bool (DM q.exit).isNone,setObj q.st l (.loop { r with state:=GZ (DM q.exit),pending:=DM q.exit }))
def G8(F:Cd)(l:Nat)(cb:AU)(q:Option Au):Option (AV×AD):=q.bind fun q=>bif IX q.exit then
  (Fl q.st l).bind fun r=>bif Kk r.state then Iv l (F.code (some l) cb q.var q.marks (setObj q.st l (.loop { r with state:=.busy })))else none
 else none
def J9 (E:Bl) (F:Cd) (l:Nat) (args:List AV) (s:AD):Option (AV×AD):=
 (Fl s l).bind fun r=>(FK (Fx E.P r.fn) r.var r.params.toList args).bind fun var =>
  (Mw E.P r.fn r.assign).bind fun ca=>(Mw E.P r.fn r.body).bind fun cb=>G8 F l cb (F.code (some l) ca var [] s)
def Z8:Cd:=⟨fun _ _ _ _ _=>none,fun _ _ _=>none,fun _ _ _=>none⟩
def Z7 (E:Bl) (F:Cd):Cd:=⟨CG F,Fb E F,J9 E F⟩
def Cx (E:Bl) (n:Nat):Cd:=Nat.rec Z8 (fun _ F=>Z7 E F) n
structure RB where
 b:Nat
 off:Nat
 N:Nat
 sz:Nat
abbrev Aq:=Nat→Option RB
mutual
inductive AL (ρ:Aq):AV→Value→Prop
 | bool (b:Bool):AL ρ (.bool b) (.bool b)
 | int (k:IntKind) (n:Int):AL ρ (.int k n) (.int k n)
 | str {l:List Nat} {s:ByteArray} (h:s.data.toList.map (fun(b:UInt8)=>b.toNat)=l):AL ρ (.str l) (.string s)
 | ptrNil:AL ρ (.ptr none) (.pointer none)
 | ptr {i o:Nat} {rb:RB} (h:ρ i=some rb):AL ρ (.ptr (some (i,o))) (.pointer (some ⟨rb.b,rb.off+o,none⟩))
 | gptr (g o:Nat):AL ρ (.gptr g o) (.pointer (some ⟨g,o,none⟩))
 | sliceNil:AL ρ (.slice none 0 (some 0)) (.slice none 0 0)
 | slice {i o len c:Nat} {rb:RB} (h:ρ i=some rb) (hl:len≤c):AL ρ (.slice (some (i,o)) len (some c)) (.slice (some ⟨rb.b,rb.off+o,none⟩) len c)
 | sliceOpen {i o len c:Nat} {rb:RB} (h:ρ i=some rb) (hs:0<rb.sz) (hl:len≤c) (h1:o+c * rb.sz≤rb.N) (h2:rb.N<o+(c+1) * rb.sz):
   AL ρ (.slice (some (i,o)) len none) (.slice (some ⟨rb.b,rb.off+o,none⟩) len c)
 | sliceEnd {i o:Nat} {rb:RB} {a:Addr} (h:ρ i=some rb) (hs:0<rb.sz) (h1:o≤rb.N) (h2:rb.N<o+rb.sz):
   AL ρ (.slice (some (i,o)) 0 none) (.slice (some a) 0 0)
 | mapNil:AL ρ (.map none) (.map none)
 | map {i:Nat} {rb:RB} (h:ρ i=some rb):AL ρ (.map (some i)) (.map (some rb.b))
 | func {f:FuncId} {a c:List AV} {a' c':Array Value} (ha:AJ ρ a a'.toList) (hc:AJ ρ c c'.toList):AL ρ (.func f a c) (.func (.func f) a' c')
 | yield {i:Nat} {rb:RB} (h:ρ i=some rb):AL ρ (.yield i) (.func (.yield rb.b) #[] #[])
 | nilFunc:AL ρ .nilFunc .nilFunc
 | nilIface:AL ρ .nilIface .nilIface
 | iface {t:TypeId} {v:AV} {v':Value} (h:AL ρ v v'):AL ρ (.iface t v) (.iface t v')
 | agg {cs:List AV} {cs':Array Value} (h:AJ ρ cs cs'.toList):AL ρ (.agg cs) (.agg cs')
 | tuple {cs:List AV} {cs':Array Value} (h:AJ ρ cs cs'.toList):AL ρ (.tuple cs) (.tuple cs')
inductive AJ (ρ:Aq):List AV→List Value→Prop
 | nil:AJ ρ [] []
 | cons {v:AV} {v':Value} {l:List AV} {l':List Value} (h:AL ρ v v') (hs:AJ ρ l l'):AJ ρ (v::l) (v'::l')
end
def Aq.le(ρ σ:Aq):Prop:=∀i rb,ρ i=some rb→σ i=some rb
theorem Aq.le_refl(ρ:Aq):ρ.le ρ:=fun _ _ h=>h
theorem Aq.le_trans{ρ σ τ:Aq}(h:ρ.le σ)(k:σ.le τ):ρ.le τ:=fun i rb e=>k i rb (h i rb e)
mutual
theorem AL.mono{ρ σ:Aq}(le:ρ.le σ){v:AV}{v':Value}(h:AL ρ v v'):AL σ v v':=by
 cases h with
 | bool b=>exact .bool b
 | int k n=>exact .int k n
 | str h=>exact .str h
 | ptrNil=>exact .ptrNil
 | ptr h=>exact .ptr (le _ _ h)
 | gptr g o=>exact .gptr g o
 | sliceNil=>exact .sliceNil
 | slice h hl=>exact .slice (le _ _ h) hl
 | sliceOpen h hs hl h1 h2=>exact .sliceOpen (le _ _ h) hs hl h1 h2
 | sliceEnd h hs h1 h2=>exact .sliceEnd (le _ _ h) hs h1 h2
 | mapNil=>exact .mapNil
 | map h=>exact .map (le _ _ h)
 | func ha hc=>exact .func (AJ.mono le ha) (AJ.mono le hc)
 | yield h=>exact .yield (le _ _ h)
 | nilFunc=>exact .nilFunc
 | nilIface=>exact .nilIface
 | iface h=>exact .iface (AL.mono le h)
 | agg h=>exact .agg (AJ.mono le h)
 | tuple h=>exact .tuple (AJ.mono le h)
theorem AJ.mono{ρ σ:Aq}(le:ρ.le σ){v:List AV}{v':List Value}(h:AJ ρ v v'):AJ σ v v':=by
 cases h with
 | nil=>exact .nil
 | cons h hs=>exact .cons (AL.mono le h) (AJ.mono le hs)
end
section lists
variable{ρ:Aq}
theorem AJ.length{l:List AV}{l':List Value}(h:AJ ρ l l'):l.length=l'.length:=by
 induction l generalizing l' with
 | nil=>cases h;rfl
 | cons a l ih=>cases h with | cons h hs=>simp[ih hs]
theorem AJ.get{l:List AV}{l':List Value}(h:AJ ρ l l'){k:Nat}{v:AV}(hk:l[k]? = some v):∃v',l'[k]? = some v'∧AL ρ v v':=by
  induction l generalizing l' k with
  | nil=>simp at hk
  | cons a l ih =>
    cases h with
    | cons h hs =>
      cases k with
      | zero=>simp at hk;subst hk;exact⟨_,rfl,h⟩
      | succ k=>simp at hk;obtain⟨v',h1,h2⟩:=ih hs hk;exact⟨v',by simpa using h1,h2⟩
theorem AJ.of_get{l:List AV}{l':List Value}(hl:l.length=l'.length)(h:∀ (k:Nat)(v:AV)(v':Value),l[k]? = some v→l'[k]? = some v'→AL ρ v v'):AJ ρ l l':=by
  induction l generalizing l' with
  | nil=>cases l' with | nil=>exact .nil | cons=>simp at hl
  | cons a l ih =>
    cases l' with
    | nil=>simp at hl
    | cons a' l'=>exact .cons (h 0 a a' rfl rfl) (ih (by simpa using hl) fun k v v' h1 h2=>h (k+1) v v' (by simpa using h1) (by simpa using h2))
theorem AJ.append{l m:List AV}{l' m':List Value}(h:AJ ρ l l')(k:AJ ρ m m'):AJ ρ (l++m) (l'++m'):=by
 induction l generalizing l' with
 | nil=>cases h;exact k
 | cons a l ih=>cases h with | cons h hs=>exact .cons h (ih hs)
theorem AJ.take{l:List AV}{l':List Value}(h:AJ ρ l l')(n:Nat):AJ ρ (l.take n) (l'.take n):=by
  induction l generalizing l' n with
  | nil=>cases h;simp;exact .nil
  | cons a l ih =>
    cases h with
    | cons h hs=>cases n with
      | zero=>exact .nil
      | succ n=>exact .cons h (ih hs n)
theorem AJ.drop{l:List AV}{l':List Value}(h:AJ ρ l l')(n:Nat):AJ ρ (l.drop n) (l'.drop n):=by
  induction l generalizing l' n with
  | nil=>cases h;simp;exact .nil
  | cons a l ih =>
    cases h with
    | cons h hs=>cases n with
      | zero=>exact .cons h hs
      | succ n=>exact ih hs n
theorem AL.cells{v:AV}{v':Value}(h:AL ρ v v'):AJ ρ v.cells v'.cells.toList:=by
 cases h with
 | agg h=>exact h
 | bool b=>exact .cons (.bool b) .nil
 | int k n=>exact .cons (.int k n) .nil
 | str h=>exact .cons (.str h) .nil
 | ptrNil=>exact .cons .ptrNil .nil
 | ptr h=>exact .cons (.ptr h) .nil
 | gptr g o=>exact .cons (.gptr g o) .nil
 | sliceNil=>exact .cons .sliceNil .nil
 | slice h hl=>exact .cons (.slice h hl) .nil
 | sliceOpen h hs hl h1 h2=>exact .cons (.sliceOpen h hs hl h1 h2) .nil
 | sliceEnd h hs h1 h2=>exact .cons (.sliceEnd h hs h1 h2) .nil
 | mapNil=>exact .cons .mapNil .nil
 | map h=>exact .cons (.map h) .nil
 | func ha hc=>exact .cons (.func ha hc) .nil
 | yield h=>exact .cons (.yield h) .nil
 | nilFunc=>exact .cons .nilFunc .nil
 | nilIface=>exact .cons .nilIface .nil
 | iface h=>exact .cons (.iface h) .nil
 | tuple h=>exact .cons (.tuple h) .nil
theorem AL.oneCell{v:AV}{v':Value}(h:AL ρ v v')(hc:v.isCell=true):v'.oneCell'=true:=by
 cases h<;>first | rfl | cases hc
theorem AJ.oneCell{l:List AV}{l':List Value}(h:AJ ρ l l')(hc:AW l=true):∀v∈l',v.oneCell'=true:=by
  induction l generalizing l' with
  | nil=>cases h;simp
  | cons a l ih =>
    cases h with
    | cons h hs =>
      simp only[AW,Bool.and_eq_true]at hc
      intro v hv
      rcases bv.1 hv with rfl | hv
      · exact h.oneCell hc.1
      · exact ih hs hc.2 v hv
end lists
theorem GS(ρ:Aq){v:Value}{a:AV}(h:GR v=some a):AL ρ a v:=by
 unfold GR at h
 split at h<;>first
  | (injection h with h;subst h;first | exact .bool _ | exact .int _ _ | exact .str rfl | exact .ptrNil | exact .sliceNil | exact .mapNil | exact .nilFunc | exact .nilIface)
  | cases h
theorem Dp(ρ:Aq):∀ {l:List Value}{r:List AV},DC l=some r→AJ ρ r l
 | [],r,h=>by simp[DC]at h;subst h;exact .nil
 | v::l,r,h=>by
  simp only[DC,bQ]at h
  obtain⟨a,ha,r',hr,h⟩:=h
  injection h with h;subst h
  exact .cons (GS ρ ha) (Dp ρ hr)
theorem BL(ρ:Aq){v:Value}{a:AV}(h:ofValue v=some a):AL ρ a v:=by
 unfold ofValue at h
 split at h
 ·simp only[bQ]at h
  obtain⟨l,hl,h⟩:=h
  injection h with h;subst h
  exact .agg (Dp ρ hl)
 ·simp only[bQ]at h
  obtain⟨l,hl,h⟩:=h
  injection h with h;subst h
  exact .tuple (Dp ρ hl)
 ·exact GS ρ h
theorem CH(ρ:Aq):AL ρ A5 undef:=.tuple .nil
theorem AB{α:Type}{b:Bool}{x:Option α}{a:α}(h:AF b x=some a):b=true∧x=some a:=by
 cases b with
 | true=>exact⟨rfl,h⟩
 | false=>cases h
inductive B7 (ρ:Aq):List (AV×AV)→List MapEntry→Prop
 | nil:B7 ρ [] []
 | cons {k v:AV} {e:MapEntry} {l:List (AV×AV)} {l':List MapEntry} (hk:AL ρ k e.key) (hv:AL ρ v e.val) (hs:B7 ρ l l'):B7 ρ ((k,v)::l) (e::l')
theorem B7.mono{ρ σ:Aq}(le:ρ.le σ){l:List (AV×AV)}{l':List MapEntry}(h:B7 ρ l l'):B7 σ l l':=by
 induction h with
 | nil=>exact .nil
 | cons hk hv _ ih=>exact .cons (hk.mono le) (hv.mono le) ih
theorem B7.length{ρ:Aq}{l:List (AV×AV)}{l':List MapEntry}(h:B7 ρ l l'):l.length=l'.length:=by
 induction h with
 | nil=>rfl
 | cons _ _ _ ih=>simp[ih]
structure HI(P:Program)(ρ:Aq)(w:World)(kt:TypeId)(es:List (AV×AV))(rb:RB):Prop where
 ex:∃ (es':Array MapEntry) (clock:Nat),w.heap[rb.b]? = some (.map es' clock)∧MapKept.Stamped es' clock∧(∃l,l.Perm es'.toList∧B7 ρ es l)∧∀e∈es'.toList,∃l,keyOf P kt e.key=some l
structure Ba(ρ:Aq)(w:World)(r:CJ)(rb:RB):Prop where
 cells:∀k v,k<r.n→r.c.get k=some v→∃v',w.cell? ⟨rb.b,rb.off+k,none⟩=some v'∧AL ρ v v'
 le:r.n≤rb.N
 sz:r.sz=rb.sz
 tight:r.spare=false→rb.N=r.n
 own:r.mode≠.ro→∃cs,w.heap[rb.b]? = some (.cells cs r.elem (0,0))∧rb.off+rb.N≤cs.size
 base:r.bytes=true→rb.off=0
 gl:∀g,r.glob=some g→rb.b=g∧rb.off=0
 par:∀p,r.par=some p→∃rp,ρ p=some rp
def Cn(ρ:Aq)(vars:List Tmp)(var:List AV)(tmps:Array Value):Prop:=
 ∀ (t:Tmp) (k:Nat),BE vars t=some k→t<tmps.size∧∃v:AV,var[k]? = some v∧AL ρ v (tmps.getD t undef)
end
end Go.Proofs.YtickdehehcmfbaaGreatDoor.Am
set_option linter.unusedVariables false
set_option linter.unusedSimpArgs false
namespace Go.Proofs.YtickdehehcmfbaaGreatDoor.Am
open Go
noncomputable section
theorem D3{α:Type}{P:Program}{w:World}:∀ {s:Sem α}{a:α},Db P s=some a→s.run P w=.ok a w:=by
 intro s
 induction s with
 | pure b=>intro a h;simp[Db]at h;subst h;rfl
 | program k ih=>intro a h;simp only[Db]at h;simp only[Sem.run];exact ih P h
 | mark m k ih=>intro a h;simp only[Db]at h;simp only[Sem.run];exact ih h
 | load=>intro a h;simp[Db]at h
 | store=>intro a h;simp[Db]at h
 | new=>intro a h;simp[Db]at h
 | shape=>intro a h;simp[Db]at h
 | freeze=>intro a h;simp[Db]at h
 | frozen=>intro a h;simp[Db]at h
 | getObj=>intro a h;simp[Db]at h
 | setObj=>intro a h;simp[Db]at h
 | choose=>intro a h;simp[Db]at h
 | sys=>intro a h;simp[Db]at h
 | halt=>intro a h;simp[Db]at h
section types
variable{P:Program}{w:World}{t:TypeId}
theorem AE{d:TypeDesc}(h:P.underlying t=some d):(underlying t).run P w=.ok d w:=by simp[underlying,h]
theorem FF{g:Bool}(h:Da P t=some g):(isAgg t).run P w=.ok g w:=by
 unfold Da at h
 split at h
 ·injection h with h;subst h;simp[isAgg,underlying, *]
 ·injection h with h;subst h;simp[isAgg,underlying, *]
 ·rename_i d _ _ hd
  injection h with h;subst h
  simp only[isAgg,Sem.run_bind,AE hd,Result.andThen_ok]
  cases d<;>simp_all
 ·cases h
theorem Ab{n:Nat}(h:Ap P t=some n):(sizeOf t).run P w=.ok n w:=by
 unfold Ap at h
 split at h
 ·injection h with h;subst h;simp[sizeOf,typeInfo, *]
 ·cases h
theorem P9{n:Nat}(h:Bz P t=some n):∃i,(typeInfo t).run P w=.ok i w∧i.bytes=n:=by
 unfold Bz at h
 split at h
 ·injection h with h;rename_i i hi;exact⟨i,by simp[typeInfo,hi],h⟩
 ·cases h
theorem GX(ρ:Aq){z:AV}(h:CI P t=some z):∃v,(zeroValue t).run P w=.ok v w∧AL ρ z v:=by
  unfold CI at h
  split at h
  · split at h
    · rename_i i hi _ v hv
      exact⟨v,by simp[zeroValue,typeInfo,hi,hv],BL ρ h⟩
    · cases h
  · cases h
end types
theorem H1{k:IntKind}{n:Int}(h:BA k n=true):k.wrap n=n:=by
 have hb:k.min≤n∧n≤k.max:=by
  unfold BA at h
  cases n with
  | ofNat m=>cases k<;>simp[bf]at h<;>simp[IntKind.min,IntKind.max,IntKind.signed,IntKind.bits]<;>omega
  | negSucc m=>cases k<;>simp[bf]at h<;>simp[IntKind.min,IntKind.max,IntKind.signed,IntKind.bits]<;>omega
 cases k<;>simp[IntKind.min,IntKind.max,IntKind.signed,IntKind.bits]at hb<;>simp only[IntKind.wrap,IntKind.signed,IntKind.bits]<;>simp<;>omega
theorem E5(k:IntKind)(n:Int):EP k n=k.wrap n:=by
 unfold EP
 cases h:BA k n with
 | true=>simp[H1 h]
 | false=>rfl
theorem B1(a b:Int):I9 a b=decide (a<b):=by
 cases a with
 | ofNat a=>cases b with
  | ofNat b=>rw[Bool.eq_iff_iff];simp only[I9,bq,decide_eq_true_iff,cY];omega
  | negSucc b=>simp only[I9];rw[eq_comm,decide_eq_false_iff_not];simp only[cY];omega
 | negSucc a=>cases b with
  | ofNat b=>simp only[I9];rw[eq_comm,decide_eq_true_iff];simp only[cY];omega
  | negSucc b=>rw[Bool.eq_iff_iff];simp only[I9,bq,decide_eq_true_iff];omega
theorem DL(a b:Int):OP a b=(a == b):=by
 rw[Bool.eq_iff_iff,beq_iff_eq]
 cases a with
 | ofNat a=>cases b with
  | ofNat b=>simp only[OP,cH,cY];omega
  | negSucc b=>simp[OP]
 | negSucc a=>cases b with
  | ofNat b=>simp[OP]
  | negSucc b=>simp only[OP,cH];omega
theorem Bs{k k':IntKind}(h:Bh k k'=true):k=k':=by cases k<;>cases k'<;>first | rfl | cases h
theorem Sx{n:Int}{m:Nat}(h:Oc n=some m):n=(m:Int):=by cases n<;>simp[Oc]at h;subst h;rfl
theorem Sl{P:Program}{ρ:Aq}{op:BinOp}{k:IntKind}{a b:Int}{v:AV}(h:Sk P op k a b=some v)(t:TypeId)(w:World):
  ∃v',(Go.binOp op t (.int k a) (.int k b)).run P w=.ok v' w∧AL ρ v v':=by
 unfold Sk at h
 split at h
 case h_1=>injection h with h;subst h;exact⟨.int k (k.wrap (a+b)),by simp[Go.binOp,Op.intArith],by rw[E5];exact .int _ _⟩
 case h_2=>injection h with h;subst h;exact⟨.int k (k.wrap (a - b)),by simp[Go.binOp,Op.intArith],by rw[E5];exact .int _ _⟩
 case h_3=>injection h with h;subst h;exact⟨.int k (k.wrap (a * b)),by simp[Go.binOp,Op.intArith],by rw[E5];exact .int _ _⟩
 case h_4=>injection h with h;subst h;exact⟨.bool (a == b),by simp[Go.binOp,Op.intCmp],by rw[DL];exact .bool _⟩
 case h_5=>injection h with h;subst h;exact⟨.bool (a != b),by simp[Go.binOp,Op.intCmp],by rw[DL];exact .bool _⟩
 case h_6=>injection h with h;subst h;exact⟨.bool (a<b),by simp[Go.binOp,Op.intCmp],by rw[B1];exact .bool _⟩
 case h_7=>injection h with h;subst h;exact⟨.bool (a≤b),by simp[Go.binOp,Op.intCmp],by rw[B1,show(!decide (b<a))=decide (a≤b)from by rw[Bool.eq_iff_iff];simp];exact .bool _⟩
 case h_8=>injection h with h;subst h;exact⟨.bool (a > b),by simp[Go.binOp,Op.intCmp],by rw[B1];exact .bool _⟩
 case h_9=>injection h with h;subst h;exact⟨.bool (a≥b),by simp[Go.binOp,Op.intCmp],by rw[B1,show(!decide (a<b))=decide (a≥b)from by rw[Bool.eq_iff_iff];simp];exact .bool _⟩
 case h_10 =>
  simp only[bQ]at h
  obtain⟨u,hu,h⟩:=h
  exact⟨u,by have:=D3 (w:=w) hu;simpa[Go.binOp]using this,BL ρ h⟩
 case h_11 =>
  simp only[bQ]at h
  obtain⟨u,hu,h⟩:=h
  exact⟨u,by have:=D3 (w:=w) hu;simpa[Go.binOp]using this,BL ρ h⟩
 case h_12=>cases h
 case h_13=>cases h
 case h_14 =>
  simp only[bQ]at h
  obtain⟨u,hu,h⟩:=h
  refine⟨u,?_,BL ρ h⟩
  have:=D3 (w:=w) hu
  rename_i n1 n2 n3 n4 n5 n6 n7 n8 n9 n10 n11 n12 n13
  cases op<;>first | (exfalso;simp at *;done) | simpa[Go.binOp]using this
abbrev CR(l:List UInt8):List Nat:=l.map (fun(b:UInt8)=>b.toNat)
theorem toNat_inj{a b:UInt8}(h:a.toNat=b.toNat):a=b:=UInt8.toNat_inj.1 h
theorem Fu:∀ (x y:List UInt8),BX (CR x) (CR y)=(x == y)
 | [],[]=>rfl
 | [],_::_=>rfl
 | _::_,[]=>rfl
 | a::x,b::y=>by
  simp only[CR,bk,BX]
  by_cases e:a=b
  ·subst e
   have:Nat.beq a.toNat a.toNat=true:=by simp[cH]
   rw[this]
   have ih:=Fu x y
   simp only[CR]at ih
   simp[ih]
  ·have:Nat.beq a.toNat b.toNat=false:=AI.beq_no (fun h=>e (toNat_inj h))
   rw[this]
   simp[e]
theorem I4:∀ (x y:List UInt8),E0 (CR x) (CR y)=Op.bytesLess x y
 | [],[]=>rfl
 | [],_::_=>rfl
 | _::_,[]=>rfl
 | a::x,b::y=>by
  simp only[CR,bk,E0,Op.bytesLess]
  have ih:=I4 x y
  simp only[CR]at ih
  have h1:Nat.blt a.toNat b.toNat=decide (a<b):=by rw[Bool.eq_iff_iff];simp[bq,UInt8.lt_iff_toNat_lt]
  have h2:Nat.beq a.toNat b.toNat=(a == b):=by
   rw[Bool.eq_iff_iff,beq_iff_eq,cH]
   exact⟨fun h=>toNat_inj h,fun h=>by rw[h]⟩
  rw[h1,h2,ih]
  cases decide (a<b)<;>cases (a == b)<;>rfl
theorem D4(s:ByteArray):(CR s.data.toList).length=s.size:=by simp[CR]
theorem Tc{P:Program}{ρ:Aq}{op:BinOp}{x y:ByteArray}{v:AV}(h:Oq op (CR x.data.toList) (CR y.data.toList)=some v)(w:World):
  ∃v',(Op.stringOp op x y).run P w=.ok v' w∧AL ρ v v':=by
 unfold Oq at h
 rw[Fu,I4,D4,D4]at h
 unfold Op.stringOp
 rw[ByteArray.toList_eq,ByteArray.toList_eq]
 split at h
 case h_1 =>
  obtain⟨hb,h⟩:=AB h
  injection h with h;subst h
  have hb':x.size+y.size≤1152921504606846976:=by simpa[bf]using hb
  refine⟨.string (x++y),?_,.str (by simp[CR])⟩
  have:¬ ((x.size+y.size:Nat):Int) > IntKind.i64.max:=by simp[IntKind.max,IntKind.signed,IntKind.bits];omega
  simp only[this,if_false]
  rfl
 case h_2=>injection h with h;subst h;exact⟨_,rfl,.bool _⟩
 case h_3=>injection h with h;subst h;exact⟨_,rfl,.bool _⟩
 case h_4=>injection h with h;subst h;exact⟨_,rfl,.bool _⟩
 case h_5=>injection h with h;subst h;exact⟨_,rfl,.bool _⟩
 case h_6=>injection h with h;subst h;exact⟨_,rfl,.bool _⟩
 case h_7=>injection h with h;subst h;exact⟨_,rfl,.bool _⟩
 case h_8=>cases h
section
variable{P:Program}{ρ:Aq}{w:World}
theorem HS{t:TypeId}(h:Ei P t=true):∃e,P.underlying t=some (.pointer e):=by
 unfold Ei at h;split at h
 ·rename_i e he;exact⟨e,he⟩
 ·cases h
theorem FT{t:TypeId}(h:GF P t=true):∃e,P.underlying t=some (.slice e):=by
 unfold GF at h;split at h
 ·rename_i e he;exact⟨e,he⟩
 ·cases h
theorem HR{t:TypeId}(h:Kj P t=true):∃k e,P.underlying t=some (.map k e):=by
 unfold Kj at h;split at h
 ·rename_i k e he;exact⟨k,e,he⟩
 ·cases h
theorem EE{t:TypeId}(h:GE P t=true):∃a b c,P.underlying t=some (.func a b c):=by
 unfold GE at h;split at h
 ·rename_i a b c he;exact⟨a,b,c,he⟩
 ·cases h
theorem Ki{t:TypeId}(h:Kh P t=true):P.underlying t=some .bool:=by
 unfold Kh at h;split at h
 ·rename_i he;exact he
 ·cases h
set_option maxHeartbeats 1000000 in
theorem Yk{t:TypeId}{x y:AV}{x' y':Value}{b:Bool}(h:UK P t x y=some b)(hx:AL ρ x x')(hy:AL ρ y y')(d:Nat):
  (Op.equalIn (d+1) t x' y').run P w=.ok b w:=by
 unfold UK at h
 split at h
 all_goals first | (cases h;done) | skip
 ·obtain⟨ht,h⟩:=AB h
  injection h with h;subst h
  cases hx;cases hy
  simp[Op.equalIn,AE (Ki ht)]
 ·obtain⟨ht,h⟩:=AB h
  injection h with h;subst h
  obtain⟨e,ht⟩:=HS ht
  cases hx;cases hy<;>simp[Op.equalIn,AE ht]
 ·obtain⟨ht,h⟩:=AB h
  injection h with h;subst h
  obtain⟨e,ht⟩:=HS ht
  cases hy;cases hx<;>simp[Op.equalIn,AE ht]
 ·obtain⟨ht,h⟩:=AB h
  injection h with h;subst h
  obtain⟨e,ht⟩:=FT ht
  cases hx;cases hy<;>simp[Op.equalIn,AE ht]
 ·obtain⟨ht,h⟩:=AB h
  injection h with h;subst h
  obtain⟨e,ht⟩:=FT ht
  cases hy;cases hx<;>simp[Op.equalIn,AE ht]
 ·obtain⟨ht,h⟩:=AB h
  injection h with h;subst h
  obtain⟨k,e,ht⟩:=HR ht
  cases hx;cases hy<;>simp[Op.equalIn,AE ht]
 ·obtain⟨ht,h⟩:=AB h
  injection h with h;subst h
  obtain⟨k,e,ht⟩:=HR ht
  cases hy;cases hx<;>simp[Op.equalIn,AE ht]
 ·obtain⟨ht,h⟩:=AB h
  injection h with h;subst h
  obtain⟨a,b,c,ht⟩:=EE ht
  cases hy;cases hx;simp[Op.equalIn,AE ht]
 ·obtain⟨ht,h⟩:=AB h
  injection h with h;subst h
  obtain⟨a,b,c,ht⟩:=EE ht
  cases hy;cases hx;simp[Op.equalIn,AE ht]
 ·obtain⟨ht,h⟩:=AB h
  injection h with h;subst h
  obtain⟨a,b,c,ht⟩:=EE ht
  cases hy;cases hx;simp[Op.equalIn,AE ht]
theorem ST{t:TypeId}{x y:AV}{x' y':Value}{b:Bool}(h:UK P t x y=some b)(hx:AL ρ x x')(hy:AL ρ y y'):
  (Op.equal t x' y').run P w=.ok b w:=Yk h hx hy 9999
def S4:Value→Bool
 | .nilIface | .agg _=>false
 | _=>true
theorem DK{x':Value}(h:S4 x'=true)(op:BinOp)(t:TypeId)(ox oy:Operand)(y':Value):
  (eqGuard op t ox oy x' y').run P w=.ok () w:=by
 cases x'<;>first | (cases h;done) | (cases op<;>rfl)
theorem Jf{t:TypeId}{x y:AV}{x':Value}{b:Bool}(h:UK P t x y=some b)(hx:AL ρ x x'):S4 x'=true:=by
 unfold UK at h
 split at h<;>first | (cases h;done) | (cases hx<;>rfl)
theorem Nz      {op : BinOp} {t : TypeId} {x y v : AV} {x' y' : Value} (h : AO   P op t x y = some v) (hx : AL   ρ x x') (hy : AL   ρ y y') (ox oy : Operand) :
    ∃v',(do eqGuard op t ox oy x' y';Go.binOp op t x' y').run P w=.ok v' w∧AL ρ v v':=by
  unfold AO at h
  split at h
  · cases hx;cases hy
    rename_i k a k' b
    rw[Sem.run_bind,DK rfl]
    simp only[Result.andThen_ok]
    split at h
    · simp only[bQ]at h
      obtain⟨u,hu,h⟩:=h
      exact⟨u,by have:=D3 (w:=w) hu;simpa[Go.binOp]using this,BL ρ h⟩
    · simp only[bQ]at h
      obtain⟨u,hu,h⟩:=h
      exact⟨u,by have:=D3 (w:=w) hu;simpa[Go.binOp]using this,BL ρ h⟩
    · obtain⟨hk,h2⟩:=AB h
      have hkk:=Bs hk
      subst hkk
      exact Sl h2 t w
  · cases hx;cases hy
    rename_i a b s1 h1 s2 h2
    subst h1;subst h2
    rw[Sem.run_bind,DK rfl]
    simp only[Result.andThen_ok]
    obtain⟨v',h1,h2⟩:=Tc (P:=P) (ρ:=ρ) h w
    refine⟨v',?_,h2⟩
    rw[← h1]
    cases op<;>first | rfl | (simp[Oq]at h;done)
  · split at h
    · simp only[bQ]at h
      obtain⟨b,hb,h⟩:=h
      injection h with h;subst h
      rw[Sem.run_bind,DK (Jf hb hx)]
      simp only[Result.andThen_ok]
      refine⟨.bool b,?_,.bool b⟩
      have he:=ST (w:=w) hb hx hy
      have:Go.binOp .eql t x' y'=(do pure (.bool (← Op.equal t x' y')):Sem Value):=by
        unfold UK at hb
        split at hb<;>first | (cases hb;done) | (cases hx<;>cases hy<;>rfl)
      rw[this,Sem.run_bind,he]
      rfl
    · simp only[bQ]at h
      obtain⟨b,hb,h⟩:=h
      injection h with h;subst h
      rw[Sem.run_bind,DK (Jf hb hx)]
      simp only[Result.andThen_ok]
      refine⟨.bool (!b),?_,.bool _⟩
      have he:=ST (w:=w) hb hx hy
      have:Go.binOp .neq t x' y'=(do pure (.bool (!(← Op.equal t x' y'))):Sem Value):=by
        unfold UK at hb
        split at hb<;>first | (cases hb;done) | (cases hx<;>cases hy<;>rfl)
      rw[this,Sem.run_bind,he]
      rfl
    · cases h
theorem ZA{op:UnOp}{x v:AV}{x':Value}(h:Uu P op x=some v)(hx:AL ρ x x'):
  ∃v',(Op.unary op x').run P w=.ok v' w∧AL ρ v v':=by
 unfold Uu at h
 split at h
 ·cases hx
  rename_i k n
  split at h
  ·injection h with h;subst h
   exact⟨.int k (k.wrap (0 - n)),rfl,by rw[E5];exact .int _ _⟩
  ·simp only[bQ]at h
   obtain⟨u,hu,h⟩:=h
   exact⟨u,D3 hu,BL ρ h⟩
  ·cases h
 ·cases hx
  split at h
  ·injection h with h;subst h
   exact⟨_,rfl,.bool _⟩
  ·cases h
 ·cases h
theorem Kr{x v:AV}{x':Value}(h:AY x=some v)(hx:AL ρ x x')(ev:Operand→Value)(o:Oper)(y:Operand)(ho:o.op=.nilCheck y)(he:ev y=x'):
  ∃v',(execOp ev o).run P w=.ok (.value v') w∧AL ρ v v':=by
 unfold AY at h
 split at h<;>first | (cases h;done) | skip
 injection h with h;subst h
 refine⟨x',?_,hx⟩
 cases hx<;>first | (simp only[execOp,ho,he];done) | (simp only[execOp,ho,he];rfl) | (exfalso;simp_all;done)
theorem Lc{x v:AV}{i:Nat}{x':Value}(h:Xv x i=some v)(hx:AL ρ x x'):
  ∃v',(Instr.extract x' i).run P w=.ok v' w∧AL ρ v v':=by
 unfold Xv at h
 split at h<;>first | (cases h;done) | skip
 cases hx with
 | tuple hs =>
  rename_i cs'
  obtain⟨v',h1,h2⟩:=hs.get h
  refine⟨v',?_,h2⟩
  have:cs'[i]? = some v':=by rw[← Array.getElem?_toList];exact h1
  simp[Instr.extract,this]
theorem MA{t:TypeId}{cs:List AV}{cs':Array Value}{off:Nat}{v:AV}(h:Og P t cs off=some v)(hc:AJ ρ cs cs'.toList):
  ∃v',(part t cs' off).run P w=.ok v' w∧AL ρ v v':=by
 unfold Og at h
 simp only[bQ]at h
 obtain⟨g,hg,h⟩:=h
 cases g with
 | true =>
  simp only[bQ]at h
  obtain⟨n,hn,h⟩:=h
  injection h with h;subst h
  refine⟨.agg (cs'.extract off (off+n)),by simp[part,FF hg,Ab hn],.agg ?_⟩
  have:(cs'.extract off (off+n)).toList=(cs'.toList.drop off).take n:=by
   rw[Array.toList_extract,List.extract_eq_take_drop]
   congr 1
   omega
  rw[this]
  exact(hc.drop off).take n
 | false =>
  obtain⟨v',h1,h2⟩:=hc.get h
  refine⟨v',?_,h2⟩
  have:cs'[off]? = some v':=by rw[← Array.getElem?_toList];exact h1
  simp[part,FF hg,this]
theorem IV{x:AV}{x':Value}{k:Nat}(h:idxOf x=some k)(hx:AL ρ x x'):∃kd,x'=.int kd (k:Int):=by
 unfold idxOf at h
 split at h<;>first | (cases h;done) | skip
 cases hx
 rename_i kd n
 exact⟨kd,by rw[Sx h]⟩
theorem PU{t:TypeId}{x v:AV}{x':Value}{f:Nat}(h:CN P t x f=some v)(hx:AL ρ x x'):
  ∃v',(Instr.field t x' f).run P w=.ok v' w∧AL ρ v v':=by
 unfold CN at h
 split at h<;>first | (cases h;done) | skip
 split at h<;>first | (cases h;done) | skip
 rename_i fs hfs
 simp only[bQ]at h
 obtain⟨fd,hfd,h⟩:=h
 cases hx with
 | agg hs =>
  obtain⟨v',h1,h2⟩:=MA (w:=w) h hs
  exact⟨v',by simp[Instr.field,AE hfs,hfd,asAgg,h1],h2⟩
theorem PW        {t : TypeId} {x ix v : AV} {x' ix' : Value} (h : M8     P t x ix = some v) (hx : AL   ρ x x') (hi : AL   ρ ix ix') :
    ∃v',(Instr.index t x' ix').run P w=.ok v' w∧AL ρ v v':=by
  unfold M8 at h
  simp only[bQ]at h
  obtain⟨k,hk,h⟩:=h
  obtain⟨kd,rfl⟩:=IV hk hi
  split at h<;>first | (cases h;done) | skip
  · split at h<;>first | (cases h;done) | skip
    rename_i len e he
    simp only[bQ]at h
    obtain⟨n,hn,h⟩:=h
    obtain⟨hlt,h⟩:=AB h
    have hlt':k<len:=by simpa[bq]using hlt
    cases hx with
    | agg hs =>
      obtain⟨v',h1,h2⟩:=MA (w:=w) h hs
      refine⟨v',?_,h2⟩
      have:(0:Int)≤(k:Int)∧(k:Int)<(len:Int):=by omega
      simp only[Instr.index,asIntOf,Sem.run_bind,Sem.run_pure,Result.andThen_ok,AE he,this,and_self,if_true,Ab hn]
      simpa using h1
  · split at h <;> first | (cases h; done) | skip
    rename_i l _ he
    simp only[bQ]at h
    obtain⟨b,hb,h⟩:=h
    injection h with h;subst h
    cases hx with
    | str hs =>
      rename_i s
      subst hs
      rw[b3]at hb
      simp only[Option.map_eq_some_iff]at hb
      obtain⟨u,hu,rfl⟩:=hb
      refine⟨.int .u8 u.toNat,?_,.int _ _⟩
      have h0:(0:Int)≤(k:Int):=by omega
      have:s[k]? = some u:=by
        rw[← hu]
        rcases be k s.size with hlt | hge
        · rw [getElem?_pos s k hlt, bc                       (by simpa using hlt)]
          rfl
        · rw[getElem?_neg s k (by omega),bh (by simpa using hge)]
      simp[Instr.index,asIntOf,AE he,this]
end
structure ET(P:Program)(ρ:Aq)(w:World)(l:H2)(rb:RB):Prop where
 ex:∃L:Loop,w.heap[rb.b]? = some (.loop L)∧L.state=l.state∧L.pending=l.pending∧L.params=l.params∧L.assign=l.assign∧L.body=l.body ∧
  (∃rd,ρ l.dfr=some rd∧L.defers=rd.b)∧Cn ρ (Fx P l.fn) l.var L.tmps∧(∀fn,P.funcs[l.fn]? = some fn→fn.ntmps≤L.tmps.size)∧l.var.length=(Fx P l.fn).length
def EO(P:Program)(ρ:Aq)(w:World):Ao→RB→Prop
 | .row r,rb=>Ba ρ w r rb
 | .map kt es,rb=>HI P ρ w kt es rb
 | .loop l,rb=>ET P ρ w l rb
 | .mark,rb=>w.heap[rb.b]? = some (.deferred (some []))
 | .iter _ _,_=>False
def wr:Ao→Bool
 | .row r=>Cy r.mode
 | _=>true
def HY:Ao→Option Nat
 | .row r=>r.par
 | _=>none
def Fi:Ao→Option Nat
 | .row r=>r.glob
 | _=>none
structure Av(P:Program)(ρ:Aq)(s:AD)(w:World):Prop where
 obj:∀i o rb,s.heap.get i=some o→ρ i=some rb→EO P ρ w o rb
 lt:∀i rb,ρ i=some rb→rb.b<w.heap.size
 sep:∀i j oi oj ri rj,i≠j→s.heap.get i=some oi→s.heap.get j=some oj→ρ i=some ri→ρ j=some rj→ri.b=rj.b→wr oj=true→HY oj=some i∧wr oi=false
 glb:∀i o g,s.heap.get i=some o→Fi o=some g→∃rb,ρ i=some rb
def EV(ρ:Aq)(s:AD)(b:Nat):Prop:=∃i o rb,s.heap.get i=some o∧wr o=true∧ρ i=some rb∧rb.b=b
structure Fr(ρ:Aq)(s:AD)(w:World)(ρ':Aq)(s':AD)(w':World):Prop where
 le:ρ.le ρ'
 fresh:∀i,ρ i=none→(i<s.next∨s'.next≤i)→ρ' i=none
 next:s.next≤s'.next
 size:w.heap.size≤w'.heap.size
 os:w'.os=w.os
 tape:w'.tape=w.tape
 output:w'.output=w.output
 keep:∀b,b<w.heap.size→¬ EV ρ s b→w'.heap[b]? = w.heap[b]?
 own:∀b,EV ρ' s' b→EV ρ s b∨w.heap.size≤b
 unborn:∀i,ρ i=none→(i<s.next∨s'.next≤i)→s'.heap.get i=s.heap.get i
section
variable{P:Program}{ρ ρ1 ρ2:Aq}{s s1 s2:AD}{w w1 w2:World}
theorem Fr.refl(ρ:Aq)(s:AD)(w:World):Fr ρ s w ρ s w:=
 ⟨Aq.le_refl ρ,fun _ h _=>h,bM _,bM _,rfl,rfl,rfl,fun _ _ _=>rfl,fun _ h=>.inl h,fun _ _ _=>rfl⟩
theorem Fr.trans(h:Fr ρ s w ρ1 s1 w1)(k:Fr ρ1 s1 w1 ρ2 s2 w2):Fr ρ s w ρ2 s2 w2 where
 le:=Aq.le_trans h.le k.le
 fresh:=fun i hi hr=>k.fresh i (h.fresh i hi (hr.imp id (fun h'=>bo k.next h'))) (hr.imp (fun h'=>bi h' h.next) id)
 next:=bo h.next k.next
 size:=bo h.size k.size
 os:=k.os.trans h.os
 tape:=k.tape.trans h.tape
 output:=k.output.trans h.output
 keep:=fun b hb ho=>(k.keep b (bi hb h.size) (fun ho1=>(h.own b ho1).elim ho (fun hge=>by omega))).trans (h.keep b hb ho)
 own:=fun b hb=>(k.own b hb).elim (fun h1=>h.own b h1) (fun hge=>.inr (bo h.size hge))
 unborn:=fun i hi hr=>(k.unborn i (h.fresh i hi (hr.imp id (fun h'=>bo k.next h'))) (hr.imp (fun h'=>bi h' h.next) id)).trans (h.unborn i hi (hr.imp id (fun h'=>bo k.next h')))
theorem F9{a:Addr}(h:w1.heap[a.block]? = w.heap[a.block]?):w1.cell? a=w.cell? a:=by simp[World.cell?,h]
theorem Cn.mono{σ:Aq}(le:ρ.le σ){vars:List Tmp}{var:List AV}{tmps:Array Value}(h:Cn ρ vars var tmps):Cn σ vars var tmps:=
 fun t k hk=>let ⟨h1,v,h2,h3⟩:=h t k hk;⟨h1,v,h2,h3.mono le⟩
theorem EO.mono    {o : Ao}   {rb : RB} (h : EO    P ρ w o rb) (le : ρ.le ρ1) (hk : w1.heap[rb.b]? = w.heap[rb.b]?) : EO    P ρ1 w1 o rb := by
  cases o with
  | row r =>
    exact⟨fun k v hk' hv=>by
        obtain⟨v',h1,h2⟩:=h.cells k v hk' hv
        exact⟨v',(F9 (a:=⟨rb.b,_,none⟩) hk).trans h1,h2.mono le⟩,
      h.le,h.sz,h.tight,fun hm=>by
        obtain⟨cs,h1,h2⟩:=h.own hm
        exact⟨cs,hk.trans h1,h2⟩,h.base,h.gl,fun p hp=>let ⟨rp,h1⟩:=h.par p hp;⟨rp,le _ _ h1⟩⟩
  | map kt es =>
    obtain⟨es',clock,h1,h2,⟨l,h3,h4⟩,h5⟩:=h.ex
    exact⟨es',clock,hk.trans h1,h2,⟨l,h3,h4.mono le⟩,h5⟩
  | loop l =>
    obtain⟨L,h0,h1,h2,h4,h5,h6,⟨rd,h7,h7'⟩,h8,h9⟩:=h.ex
    exact⟨L,hk.trans h0,h1,h2,h4,h5,h6,⟨rd,le _ _ h7,h7'⟩,h8.mono le,h9⟩
  | mark=>exact hk.trans h
  | iter=>exact h
def BQ(ρ:Aq)(i:Nat)(rb:RB):Aq:=fun j=>if j=i then some rb else ρ j
theorem AN(i:Nat)(rb:RB):BQ ρ i rb i=some rb:=by simp[BQ]
theorem AM{i j:Nat}(rb:RB)(h:j≠i):BQ ρ i rb j=ρ j:=by simp[BQ,h]
theorem BR{i:Nat}{rb:RB}(h:ρ i=none):ρ.le (BQ ρ i rb):=fun j r hj=>by
 have:j≠i:=fun e=>by subst e;rw[h]at hj;cases hj
 rw[AM rb this];exact hj
theorem An(s:AD)(o:Ao)(j:Nat):(newObj s o).heap.get j=if j=s.next then some o else s.heap.get j:=AI.get_set _ _ _ _
theorem A8(s:AD)(i:Nat)(o:Ao)(j:Nat):(setObj s i o).heap.get j=if j=i then some o else s.heap.get j:=AI.get_set _ _ _ _
theorem Ax(s:AD)(i j:Nat):(Bj s i).heap.get j=if j=i then none else s.heap.get j:=AI.get_del _ _ _
theorem Dm{o:Obj}{b:Nat}(h:b<w.heap.size):(w.alloc o).heap[b]? = w.heap[b]? :=
 Go.RowKit.Below.heap_alloc w o b h
theorem Av.new  (h : Av  P ρ s w) {o : Ao}   {o' : Obj} {rb : RB} (hf : ρ s.next = none) (hb : rb.b = w.heap.size)
    (ho:EO P (BQ ρ s.next rb) (w.alloc o') o rb):
    Av P (BQ ρ s.next rb) (newObj s o) (w.alloc o')∧Fr ρ s w (BQ ρ s.next rb) (newObj s o) (w.alloc o'):=by
  have hle:=BR (rb:=rb) hf
  have hglb:∀i oi g,(newObj s o).heap.get i=some oi→Fi oi=some g→∃r,BQ ρ s.next rb i=some r:=by
    intro i oi g hi hg
    rw[An]at hi
    by_cases e:i=s.next
    · subst e;exact⟨_,AN _ _⟩
    · rw[if_neg e]at hi
      obtain⟨r,hr⟩:=h.glb i oi g hi hg
      exact⟨r,hle _ _ hr⟩
  refine⟨⟨?_,?_,?_,hglb⟩,?_⟩
  · intro i oi ri hi hr
    rw[An]at hi
    by_cases e:i=s.next
    · subst e
      rw[if_pos rfl]at hi
      injection hi with hi
      rw[AN]at hr
      injection hr with hr
      subst hi;subst hr
      exact ho
    · rw [if_neg e] at hi
      rw[AM rb e]at hr
      exact(h.obj i oi ri hi hr).mono hle (Dm (h.lt i ri hr))
  · intro i ri hr
    by_cases e:i=s.next
    · subst e
      rw[AN]at hr
      injection hr with hr
      subst hr
      simp[hb]
    · rw[AM rb e]at hr
      have:=h.lt i ri hr
      simp;omega
  · intro i j oi oj ri rj hne hi hj hri hrj hbb hw
    rw[An]at hi hj
    by_cases ei:i=s.next
    · subst ei
      have ej:j≠s.next:=fun e=>hne e.symm
      rw[AN]at hri
      rw[AM rb ej]at hrj
      injection hri with hri
      subst hri
      have:=h.lt j rj hrj
      omega
    · by_cases ej : j = s.next
      · subst ej
        rw[AM rb ei]at hri
        rw[AN]at hrj
        injection hrj with hrj
        subst hrj
        have:=h.lt i ri hri
        omega
      · rw [if_neg ei] at hi
        rw[if_neg ej]at hj
        rw[AM rb ei]at hri
        rw[AM rb ej]at hrj
        exact h.sep i j oi oj ri rj hne hi hj hri hrj hbb hw
  · refine ⟨hle, ?_, by simp [newObj], by simp, rfl, rfl, rfl, fun b hb _ => Dm            hb, ?_, ?_⟩
    · intro i hi hr
      have:i≠s.next:=by simp[newObj]at hr;omega
      rw[AM rb this];exact hi
    · rintro b ⟨i, oi, ri, hi, hw, hr, rfl⟩
      rw[An]at hi
      by_cases e:i=s.next
      · subst e
        rw[AN]at hr
        injection hr with hr
        subst hr
        exact .inr (by omega)
      · rw [if_neg e] at hi
        rw[AM rb e]at hr
        exact .inl ⟨i,oi,ri,hi,hw,hr,rfl⟩
    · intro i _ hi
      rw[An,if_neg (by simp[newObj]at hi;omega)]
theorem Av.set  (h : Av  P ρ s w) {i : Nat} {o o1 : Ao}   {rb : RB} (hg : s.heap.get i = some o) (hr : ρ i = some rb) (hw : wr o = true) (hp : ∀ p, HY    o = some p → p ≠ i → s.heap.get p = none)
    (hp1:HY o1=none) (hsz:w1.heap.size=w.heap.size) (hkeep:∀b,b≠rb.b→w1.heap[b]? = w.heap[b]?) (hos:w1.os=w.os) (htape:w1.tape=w.tape) (hout:w1.output=w.output)
    (ho:EO P ρ w1 o1 rb):Av P ρ (setObj s i o1) w1∧Fr ρ s w ρ (setObj s i o1) w1:=by
  have hsep:∀j oj rj,j≠i→s.heap.get j=some oj→ρ j=some rj→rj.b≠rb.b:=by
    intro j oj rj hne hj hrj e
    have:=hp j (h.sep j i oj o rj rb hne hj hg hrj hr e hw).1 hne
    rw[hj]at this
    cases this
  have hglb:∀j oj g,(setObj s i o1).heap.get j=some oj→Fi oj=some g→∃r,ρ j=some r:=by
    intro j oj g hj hg
    rw[A8]at hj
    by_cases e:j=i
    · subst e;exact⟨_,hr⟩
    · rw[if_neg e]at hj
      exact h.glb j oj g hj hg
  refine⟨⟨?_,?_,?_,hglb⟩,?_⟩
  · intro j oj rj hj hrj
    rw[A8]at hj
    by_cases e:j=i
    · subst e
      rw[if_pos rfl]at hj
      injection hj with hj
      subst hj
      rw[hr]at hrj
      injection hrj with hrj
      subst hrj
      exact ho
    · rw[if_neg e]at hj
      exact(h.obj j oj rj hj hrj).mono (Aq.le_refl ρ) (hkeep _ (hsep j oj rj e hj hrj))
  · intro j rj hrj
    rw[hsz];exact h.lt j rj hrj
  · intro j k oj ok rj rk hne hj hk hrj hrk hbb hwk
    rw[A8]at hj hk
    by_cases ej:j=i
    · subst ej
      have ek:k≠j:=fun e=>hne e.symm
      rw[if_neg ek]at hk
      rw[hr]at hrj
      injection hrj with hrj
      subst hrj
      exact absurd hbb.symm (hsep k ok rk ek hk hrk)
    · by_cases ek : k = i
      · subst ek
        rw[if_neg ej]at hj
        rw[hr]at hrk
        injection hrk with hrk
        subst hrk
        exact absurd hbb (hsep j oj rj ej hj hrj)
      · rw [if_neg ej] at hj
        rw[if_neg ek]at hk
        exact h.sep j k oj ok rj rk hne hj hk hrj hrk hbb hwk
  · refine ⟨Aq.le_refl  ρ, fun _ h _ => h, bM          _, by omega, hos, htape, hout, ?_, ?_, ?_⟩
    · intro b _ hno
      exact hkeep b (fun e=>hno ⟨i,o,rb,hg,hw,hr,e.symm⟩)
    · rintro b ⟨j, oj, rj, hj, hwj, hrj, rfl⟩
      rw[A8]at hj
      by_cases e:j=i
      · subst e
        rw[hr]at hrj
        injection hrj with hrj
        subst hrj
        exact .inl ⟨j,o,rb,hg,hw,hr,rfl⟩
      · rw[if_neg e]at hj
        exact .inl ⟨j,oj,rj,hj,hwj,hrj,rfl⟩
    · intro j hrj _
      rw[A8,if_neg]
      intro e
      subst e
      rw[hr]at hrj
      cases hrj
theorem Av.del  (h : Av  P ρ s w) {i : Nat} {rb : RB} (hr : ρ i = some rb) : Av  P ρ (Bj     s i) w ∧ Fr ρ s w ρ (Bj     s i) w := by
  have hglb:∀j oj g,(Bj s i).heap.get j=some oj→Fi oj=some g→∃r,ρ j=some r:=by
    intro j oj g hj hg
    rw[Ax]at hj
    by_cases e:j=i
    · rw[if_pos e]at hj;cases hj
    · rw[if_neg e]at hj
      exact h.glb j oj g hj hg
  refine⟨⟨?_,h.lt,?_,hglb⟩,⟨Aq.le_refl ρ,fun _ h _=>h,bM _,bM _,rfl,rfl,rfl,fun _ _ _=>rfl,?_,?_⟩⟩
  · intro j oj rj hj hrj
    rw[Ax]at hj
    by_cases e:j=i
    · rw[if_pos e]at hj;cases hj
    · rw[if_neg e]at hj
      exact h.obj j oj rj hj hrj
  · intro j k oj ok rj rk hne hj hk
    rw[Ax]at hj hk
    by_cases ej:j=i
    · rw[if_pos ej]at hj;cases hj
    · by_cases ek : k = i
      · rw[if_pos ek]at hk;cases hk
      · rw [if_neg ej] at hj
        rw[if_neg ek]at hk
        exact h.sep j k oj ok rj rk hne hj hk
  · rintro b ⟨j, oj, rj, hj, hwj, hrj, rfl⟩
    rw[Ax]at hj
    by_cases e:j=i
    · rw[if_pos e]at hj;cases hj
    · rw[if_neg e]at hj
      exact .inl ⟨j,oj,rj,hj,hwj,hrj,rfl⟩
  · intro j hrj _
    rw[Ax,if_neg]
    intro e
    subst e
    rw[hr]at hrj
    cases hrj
theorem Aw{i:Nat}{r:CJ}(h:rowAt s i=some r):s.heap.get i=some (.row r):=by
 unfold rowAt at h
 split at h
 ·injection h with h;subst h;assumption
 ·cases h
theorem BS(b o k:Nat):(⟨b,o,none⟩:Addr).add k=⟨b,o+k,none⟩:=by unfold Addr.add;split<;>simp_all
theorem Bg(h:Av P ρ s w){i off n:Nat}{l:List AV}{rb:RB}(hr:ρ i=some rb)(hl:BG s i off n=some l):
  ∃l':List Value,AJ ρ l l'∧l'.length=n∧∀w1:World,w1.heap=w.heap→(loadCells ⟨rb.b,rb.off+off,none⟩ n).run P w1=.ok l'.toArray w1:=by
 unfold BG at hl
 simp only[bQ]at hl
 obtain⟨r,hrow,hl⟩:=hl
 obtain⟨hb,hl⟩:=AB hl
 have hb:off+n≤r.n:=by simpa[bf]using hb
 have hok:Ba ρ w r rb:=h.obj i _ rb (Aw hrow) hr
 have hlen:=AI.take_length hl
 have hc:∀k,k<n→∃v v',l[k]? = some v∧w.cell? ⟨rb.b,rb.off+off+k,none⟩=some v'∧AL ρ v v':=by
  intro k hk
  have hv:l[k]? = some l[k]:=bc (by omega)
  have hg:=AI.take_get hl k hk
  rw[hv]at hg
  obtain⟨v',h1,h2⟩:=hok.cells (off+k) _ (by omega) hg
  exact⟨l[k],v',hv,by rw[show rb.off+off+k=rb.off+(off+k)from by omega];exact h1,h2⟩
 let f:Nat→Value:=fun k=>(w.cell? ⟨rb.b,rb.off+off+k,none⟩).getD undef
 have hf:∀k,k<n→w.cell? ⟨rb.b,rb.off+off+k,none⟩=some (f k):=by
  intro k hk
  obtain⟨v,v',_,h2,_⟩:=hc k hk
  simp[f,h2]
 refine⟨(List.range n).map f,?_,by simp,?_⟩
 ·refine AJ.of_get (by simp[hlen]) ?_
  intro k v v' hv hv'
  have hk:k<n:=by
   rcases be k n with h' | h'
   ·exact h'
   ·rw[bh (by omega)]at hv;cases hv
  obtain⟨u,u',h1,h2,h3⟩:=hc k hk
  rw[h1]at hv
  injection hv with hv
  subst hv
  rw[b3,List.getElem?_range hk]at hv'
  simp only[cC]at hv'
  injection hv' with hv'
  rw[← hv']
  have:f k=u':=by simp[f,h2]
  rw[this];exact h3
 ·intro w1 he
  exact run_loadCells w1 _ n f (fun j hj=>by rw[BS];exact(F9 (by rw[he])).trans (hf j hj))
theorem GN(h:Av P ρ s w){i off:Nat}{v:AV}{rb:RB}(hr:ρ i=some rb)(hl:Ca s i off=some v):
  ∃v',AL ρ v v'∧w.cell? ⟨rb.b,rb.off+off,none⟩=some v':=by
 unfold Ca at hl
 simp only[bQ]at hl
 obtain⟨r,hrow,hl⟩:=hl
 obtain⟨hb,hl⟩:=AB hl
 have hb:off<r.n:=by simpa[bq]using hb
 have hok:Ba ρ w r rb:=h.obj i _ rb (Aw hrow) hr
 obtain⟨v',h1,h2⟩:=hok.cells off v hb hl
 exact⟨v',h2,h1⟩
theorem Ls       (h : Av  P ρ s w) {t : TypeId} {a v : AV} {a' : Value} (hl : AK    P s t a = some v) (ha : AL   ρ a a') :
    ∃v',(Instr.loadAt t a').run P w=.ok v' w∧AL ρ v v'∧∃ad,a'=.pointer (some ad)∧(loadVar t ad).run P w=.ok v' w:=by
  unfold AK at hl
  split at hl<;>first | (cases hl;done) | skip
  · rename_i i o
    cases ha
    simp only[bQ]at hl
    obtain⟨r,hgr,g,hg,hl⟩:=hl
    have hrow:rowAt s i=some r∧r.glob=some i:=by
      unfold Kg at hgr
      simp only[bQ]at hgr
      obtain⟨r',h1,h2⟩:=hgr
      split at h2<;>first | (cases h2;done) | skip
      rename_i g' hg'
      obtain⟨h3,h4⟩:=AB h2
      injection h4 with h4
      subst h4
      exact⟨h1,by rw[hg',bj h3]⟩
    obtain⟨rb,hr⟩:=h.glb i _ i (Aw hrow.1) hrow.2
    have hok:Ba ρ w r rb:=h.obj i _ rb (Aw hrow.1) hr
    obtain⟨hb,ho⟩:=hok.gl i hrow.2
    cases g with
    | true =>
      simp only[bQ]at hl
      obtain⟨n,hn,l,hl,hv⟩:=hl
      injection hv with hv;subst hv
      obtain⟨l',h1,h2,h3⟩:=Bg h hr hl
      rw[hb,ho,bN]at h3
      have hrun:(loadVar t ⟨i,o,none⟩).run P w=.ok (.agg l'.toArray) w:=by
        simp[loadVar,FF hg,Ab hn,h3 w rfl]
      exact⟨.agg l'.toArray,by simp[Instr.loadAt,Instr.sureAddr,hrun],.agg (by simpa using h1),_,rfl,hrun⟩
    | false =>
      obtain⟨v',h1,h2⟩:=GN h hr hl
      rw[hb,ho,bN]at h2
      have hrun:(loadVar t ⟨i,o,none⟩).run P w=.ok v' w:=by
        simp[loadVar,FF hg,h2]
      exact⟨v',by simp[Instr.loadAt,Instr.sureAddr,hrun],h1,_,rfl,hrun⟩
  rename_i i o
  cases ha with
  | ptr hr =>
    rename_i rb
    simp only[bQ]at hl
    obtain⟨g,hg,hl⟩:=hl
    cases g with
    | true =>
      simp only[bQ]at hl
      obtain⟨n,hn,l,hl,hv⟩:=hl
      injection hv with hv;subst hv
      obtain⟨l',h1,h2,h3⟩:=Bg h hr hl
      have hrun:(loadVar t ⟨rb.b,rb.off+o,none⟩).run P w=.ok (.agg l'.toArray) w:=by
        simp[loadVar,FF hg,Ab hn,h3 w rfl]
      exact⟨.agg l'.toArray,by simp[Instr.loadAt,Instr.sureAddr,hrun],.agg (by simpa using h1),_,rfl,hrun⟩
    | false =>
      obtain⟨v',h1,h2⟩:=GN h hr hl
      have hrun:(loadVar t ⟨rb.b,rb.off+o,none⟩).run P w=.ok v' w:=by
        simp[loadVar,FF hg,h2]
      exact⟨v',by simp[Instr.loadAt,Instr.sureAddr,hrun],h1,_,rfl,hrun⟩
end
section
variable{P:Program}{ρ ρ1 ρ2:Aq}{s s1 s2:AD}{w w1 w2:World}
theorem Sw{e:TypeId}{sz:Nat}{l:List AV}{cs:Array Value}(hl:AJ ρ l cs.toList)(b:Nat)(hb:w.heap[b]? = some (.cells cs e (0,0))):
  EO P ρ w (HV e sz l) ⟨b,0,l.length,sz⟩:=by
 have hlen:=hl.length
 refine⟨?_,bM _,rfl,fun _=>rfl,fun _=>⟨cs,hb,by simp[hlen]⟩,fun _=>rfl,(fun g hg=>by cases hg),fun p hp=>by cases hp⟩
 intro k v hk hv
 simp only[AI.get_fill,bl,bN,true_and,Nat.sub_zero]at hv
 rw[if_pos hk]at hv
 obtain⟨v',h1,h2⟩:=hl.get hv
 refine⟨v',?_,h2⟩
 simp only[World.cell?,hb,bN]
 rw[← Array.getElem?_toList]
 simpa using h1
theorem FE(h:Av P ρ s w)(hf:ρ s.next=none){e:TypeId}{sz:Nat}{l:List AV}{cs:Array Value}(hl:AJ ρ l cs.toList):
  ∃ρ',ρ' s.next=some ⟨w.heap.size,0,l.length,sz⟩∧Av P ρ' (newObj s (HV e sz l)) (w.alloc (.cells cs e))∧Fr ρ s w ρ' (newObj s (HV e sz l)) (w.alloc (.cells cs e)):=by
 have hle:=BR (rb:=⟨w.heap.size,0,l.length,sz⟩) hf
 obtain⟨h1,h2⟩:=h.new (o:=HV e sz l) (o':=.cells cs e) (rb:=⟨w.heap.size,0,l.length,sz⟩) hf rfl
  (Sw (hl.mono hle) _ (World.alloc_heap_new w _))
 exact⟨_,AN _ _,h1,h2⟩
theorem FH        (h : Av  P ρ s w) {i off : Nat} {vs : List AV} {vs' : List Value} {rb : RB} (hr : ρ i = some rb) (hs : Bu     s i off vs = some s1) (hv : AJ    ρ vs vs') :
    ∃w1,(storeCells ⟨rb.b,rb.off+off,none⟩ vs').run P w=.ok () w1∧Av P ρ s1 w1∧Fr ρ s w ρ s1 w1:=by
  cases vs with
  | nil =>
    cases hv
    simp only[Bu]at hs
    injection hs with hs
    subst hs
    exact⟨w,rfl,h,Fr.refl _ _ _⟩
  | cons v0 vs0 =>
    have hsv:Bu s i off (v0::vs0)=(rowAt s i).bind fun r =>
      AF (Cy r.mode && Nat.ble (off+(v0::vs0).length) r.n && AW (v0::vs0))
        (some (setObj (A3 s i r) i (.row { r with c:=r.c.fill off (v0::vs0),par:=none }))):=rfl
    rw[hsv]at hs
    generalize v0::vs0=vs at hs hv
    simp only[bQ]at hs
    obtain⟨r,hrow,hs⟩:=hs
    obtain⟨hb,hs⟩:=AB hs
    injection hs with hs
    subst hs
    simp only[Bool.and_eq_true,bf]at hb
    obtain⟨⟨hown,hle⟩,hall⟩:=hb
    have hg:=Aw hrow
    have hok:Ba ρ w r rb:=h.obj i _ rb hg hr
    have hmode:r.mode≠.ro:=fun e=>by rw[e]at hown;cases hown
    obtain⟨cs,hblk,hsz⟩:=hok.own hmode
    obtain⟨e,he0⟩:∃e,r.elem=e:=⟨_,rfl⟩
    rw[he0]at hblk
    have hlen:=hv.length
    have hfit:rb.off+off+vs'.length≤cs.size:=by have:=hok.le;omega
    have hrun:=run_storeCells_at P rb.b (rb.off+off) e vs' 0 cs w hblk (by simpa using hfit) (hv.oneCell hall)
    refine⟨_,hrun,?_⟩
    simp only[cN]
    generalize hnew:(cs.toList.take (rb.off+off)++vs'++cs.toList.drop (rb.off+off+vs'.length)).toArray=cs1
    have hblk1:(w.setRow rb.b cs1).heap[rb.b]? = some (.cells cs1 e (0,0)):=setRow_heap w rb.b cs cs1 e (0,0) hblk
    have hsize1:cs1.size=cs.size:=by rw[← hnew];simp;omega
    have hget:∀k,cs1[k]? = if rb.off+off≤k∧k<rb.off+off+vs'.length then vs'[k - (rb.off+off)]? else cs[k]? := by
      intro k
      rw[← hnew,List.getElem?_toArray]
      by_cases h1:k<rb.off+off
      · rw[if_neg (by omega),cI,bt (by simp;omega),cO h1,Array.getElem?_toList]
      · rw[cI,bz (by simp;omega)]
        have hmin:(cs.toList.take (rb.off+off)).length=rb.off+off:=by simp;omega
        rw[hmin]
        by_cases h2:k<rb.off+off+vs'.length
        · rw[if_pos (by omega),bt (by omega)]
        · rw[if_neg (by omega),bz (by omega),cU,← Array.getElem?_toList]
          congr 1
          omega
    have key:∀sx:AD,Av P ρ sx w→Fr ρ s w ρ sx w→sx.heap.get i=some (.row r)→(∀p,r.par=some p→p≠i→sx.heap.get p=none) →
        Av P ρ (setObj sx i (.row { r with c:=r.c.fill off vs,par:=none })) (w.setRow rb.b cs1) ∧
        Fr ρ s w ρ (setObj sx i (.row { r with c:=r.c.fill off vs,par:=none })) (w.setRow rb.b cs1):=by
      intro sx hx hfx hgx hpx
      obtain⟨h1,h2⟩:=hx.set (o1:=.row { r with c:=r.c.fill off vs,par:=none }) (w1:=w.setRow rb.b cs1) hgx hr (by simpa[wr]using hown) hpx rfl (by simp)
        (fun b hb=>setRow_other w rb.b b cs1 hb) rfl rfl rfl (by
          refine⟨?_,hok.le,hok.sz,hok.tight,fun _=>⟨cs1,by show _=some (Obj.cells cs1 r.elem (0,0));rw[he0];exact hblk1,by rw[hsize1];exact hsz⟩,hok.base,hok.gl,fun p hp=>by cases hp⟩
          intro k v hk hkv
          simp only[AI.get_fill]at hkv
          have hcell:(w.setRow rb.b cs1).cell? ⟨rb.b,rb.off+k,none⟩=cs1[rb.off+k]? := by simp[World.cell?,hblk1]
          rw[hcell,hget]
          by_cases hin:off≤k∧k<off+vs.length
          · rw [if_pos hin] at hkv
            rw[if_pos (by omega),show rb.off+k - (rb.off+off)=k - off from by omega]
            exact hv.get hkv
          · rw [if_neg hin] at hkv
            rw[if_neg (by omega)]
            obtain⟨v',h1,h2⟩:=hok.cells k v hk hkv
            refine⟨v',?_,h2⟩
            simpa[World.cell?,hblk]using h1)
      exact⟨h1,hfx.trans h2⟩
    unfold A3
    split
    · rename_i hp
      exact key s h (Fr.refl _ _ _) hg (fun p hp' _=>by rw[hp]at hp';cases hp')
    · rename_i p hp
      by_cases hpi:p=i
      · have:Nat.beq p i=true:=by rw[hpi];simp[cH]
        rw[this]
        exact key s h (Fr.refl _ _ _) hg (fun q hq hqi=>by rw[hp]at hq;injection hq with hq;exact absurd (hq.symm.trans hpi) hqi)
      · rw[AI.beq_no hpi]
        obtain⟨rp,hrp⟩:=hok.par p hp
        obtain⟨hd,hfd⟩:=h.del hrp
        exact key (Bj s p) hd hfd (by rw[Ax,if_neg (fun e=>hpi e.symm)];exact hg) (fun q hq _=>by
          rw[hp]at hq
          injection hq with hq
          subst hq
          rw[Ax,if_pos rfl])
theorem AX{a b:Nat}(h:Nat.beq a b=true):a=b:=bj h
theorem QF(h:Av P ρ s w){t:TypeId}{a v:AV}{a' v':Value}(hs:As P s t a v=some s1)(ha:AL ρ a a')(hv:AL ρ v v'):
  ∃w1,(Instr.storeAt t a' v').run P w=.ok () w1∧Av P ρ s1 w1∧Fr ρ s w ρ s1 w1:=by
 unfold As at hs
 split at hs<;>first | (cases hs;done) | skip
 rename_i i o
 cases ha with
 | ptr hr =>
  rename_i rb
  simp only[bQ]at hs
  obtain⟨n,hn,hs⟩:=hs
  obtain⟨hb,hs⟩:=AB hs
  have hb:=AX hb
  obtain⟨w1,h1,h2⟩:=FH h hr hs hv.cells
  refine⟨w1,?_,h2⟩
  have hc:v'.cells.size=n:=by have:=hv.cells.length;simp at this;omega
  simp[Instr.storeAt,Instr.sureAddr,storeVar,Ab hn,hc,h1]
def JM(P:Program)(ρ:Aq)(s:AD)(w:World)(sem:Sem Value)(o:Ao)(m:Made):Prop:=
 ∃v' w' ρ',sem.run P w=.ok v' w'∧AL ρ' (m.val s.next) v'∧Av P ρ' (newObj s o) w'∧Fr ρ s w ρ' (newObj s o) w'
theorem PB(h:Av P ρ s w)(hf:ρ s.next=none){e:TypeId}{o:Ao}{m:Made}(hs:Bo P e=some (o,m)):
  JM P ρ s w (Instr.alloc e true (.tuple #[])) o m:=by
 unfold Bo at hs
 simp only[bQ]at hs
 obtain⟨z,hz,hs⟩:=hs
 injection hs with hs
 injection hs with h1 h2
 subst h1;subst h2
 obtain⟨z',hz',hzr⟩:=GX (w:=w) ρ hz
 obtain⟨ρ',h1,h2,h3⟩:=FE h hf (e:=e) (sz:=0) hzr.cells
 exact⟨.pointer (some ⟨w.heap.size,0,none⟩),_,ρ',by simp[Instr.alloc,hz',newVar,newRow],AL.ptr h1,h2,h3⟩
theorem T4(h:Av P ρ s w)(hf:ρ s.next=none){e:TypeId}{v:AV}{v':Value}{o:Ao}{m:Made}(hs:EY e v=some (o,m))(hv:AL ρ v v'):
  JM P ρ s w (Instr.box e v') o m:=by
 unfold EY at hs
 injection hs with hs
 injection hs with h1 h2
 subst h1;subst h2
 obtain⟨ρ',h1,h2,h3⟩:=FE h hf (e:=e) (sz:=0) hv.cells
 exact⟨.pointer (some ⟨w.heap.size,0,none⟩),_,ρ',by simp[Instr.box,newVar,newRow],AL.ptr h1,h2,h3⟩
theorem NK(h:Av P ρ s w)(hf:ρ s.next=none)(t kt:TypeId):JM P ρ s w (Instr.makeMap t none) (.map kt []) .map:=by
 have hle:=BR (rb:=⟨w.heap.size,0,0,0⟩) hf
 obtain⟨h1,h2⟩:=h.new (o:=.map kt []) (o':=.map #[] 0) (rb:=⟨w.heap.size,0,0,0⟩) hf rfl ⟨#[],0,World.alloc_heap_new w _,MapKept.stamped_empty 0,⟨[],.refl _,.nil⟩,by simp⟩
 exact⟨.map (some w.heap.size),_,_,by simp[Instr.makeMap,newObj],AL.map (AN _ _),h1,h2⟩
theorem IP       {place : Nat → Option (Nat × Nat)} {place' : Nat → Option (Nat × Nat)} (hp : ∀ i p, place i = some p → place' i = some p) :
    ∀ {parts:List (Nat×AV)} {parts':List (Nat×Value)} {cs l:List AV} {cs':Array Value},IN place cs parts=some l→AJ ρ cs cs'.toList →
      (parts.map (·.1)=parts'.map (·.1))→AJ ρ (parts.map (·.2)) (parts'.map (·.2))→∃l',Instr.fill place' cs' parts'=some l'∧AJ ρ l l'.toList:=by
  intro parts
  induction parts with
  | nil =>
    intro parts' cs l cs' h hc hm hv
    cases parts' with
    | nil=>simp[IN]at h;subst h;exact⟨cs',rfl,hc⟩
    | cons=>simp at hm
  | cons p rest ih =>
    intro parts' cs l cs' h hc hm hv
    cases parts' with
    | nil=>simp at hm
    | cons p' rest' =>
      obtain⟨i,v⟩:=p
      obtain⟨i',v'⟩:=p'
      simp only[bk,List.cons.injEq]at hm
      obtain⟨hi,hm⟩:=hm
      skip
      subst hi
      simp only[bk]at hv
      cases hv with
      | cons hv hvs =>
        simp only[IN,bQ]at h
        obtain⟨q,hq,h⟩:=h
        obtain⟨hb,h⟩:=AB h
        simp only[Bool.and_eq_true,bf]at hb
        obtain⟨hb1,hb2⟩:=hb
        have hb1:=AX hb1
        have hvc:=hv.cells
        have hvl:=hvc.length
        have hcl:=hc.length
        simp only[Array.length_toList]at hvl hcl
        have hnew:AJ ρ (cs.take q.1++(v.cells++cs.drop (q.1+v.cells.length)))
            (v'.cells.zipIdx.foldl (fun cs (c,j)=>cs.setIfInBounds (q.1+j) c) cs').toList:=by
          have e:(v'.cells.zipIdx.foldl (fun cs (c,j)=>cs.setIfInBounds (q.1+j) c) cs').toList=cs'.toList.take q.1++(v'.cells.toList++cs'.toList.drop (q.1+v.cells.length)):=by
            have key:∀ (l:List Value) (k:Nat) (a:Array Value),q.1+k+l.length≤a.size →
                ((l.zipIdx k).foldl (fun cs (x:Value×Nat)=>cs.setIfInBounds (q.1+x.2) x.1) a).toList=a.toList.take (q.1+k)++(l++a.toList.drop (q.1+k+l.length)):=by
              intro l
              induction l with
              | nil=>intro k a _;simp
              | cons x l ihl =>
                intro k a hk
                simp only[bO]at hk
                rw[List.zipIdx_cons,cP,ihl (k+1) _ (by simp;omega)]
                simp only[Array.toList_setIfInBounds,bO]
                have e:=list_seg_step a.toList (q.1+k) x l (by simp;omega)
                simpa[cA,cI]using e
            have:=key v'.cells.toList 0 cs' (by simp;omega)
            simp only[cN]at this
            rw[← Array.foldl_toList,Array.toList_zipIdx]
            rw[hvl]
            simpa using this
          rw[e]
          exact(hc.take _).append (hvc.append (hc.drop _))
        obtain⟨l',h1,h2⟩:=ih h hnew hm hvs
        refine⟨l',?_,h2⟩
        have hpq:=hp i q hq
        obtain⟨o,n⟩:=q
        simp only[Instr.fill,hpq]
        have c1:¬ (v'.cells.size≠n∨o+v'.cells.size > cs'.size):=by simp only at hb1 hb2;omega
        have:(decide (v'.cells.size≠n) || decide (o+v'.cells.size > cs'.size))=false:=by
          rw[Bool.eq_false_iff];intro hh;apply c1;simpa using hh
        simp only[this]
        exact h1
theorem FS:∀ {fs:List Field}{l:List (Nat×Nat)},DO P fs=some l →
  ∀w:World,((fs.mapM fun f=>do pure (f.offset,← sizeOf f.type):Sem (List (Nat×Nat)))).run P w=.ok l w
 | [],l,h,w=>by simp[DO]at h;subst h;rfl
 | f::fs,l,h,w=>by
  simp only[DO,bQ]at h
  obtain⟨n,hn,r,hr,h⟩:=h
  injection h with h
  subst h
  have ih:=FS hr w
  simp only[cV,Sem.run_bind,Ab hn,Sem.run_pure,Result.andThen_ok,ih]
theorem PF{t:TypeId}{parts:List (Nat×AV)}{parts':Array (Nat×Value)}{v:AV}(h:AR P t parts=some v)
  (hm:parts.map (·.1)=parts'.toList.map (·.1)) (hv:AJ ρ (parts.map (·.2)) (parts'.toList.map (·.2))) (w:World):
  ∃v',(Instr.build t parts').run P w=.ok v' w∧AL ρ v v':=by
 unfold AR at h
 simp only[bQ]at h
 obtain⟨z,hz,h⟩:=h
 obtain⟨z',hz',hzr⟩:=GX (w:=w) ρ hz
 split at h<;>first | (cases h;done) | skip
 ·rename_i fields hf
  simp only[bQ]at h
  obtain⟨places,hpl,l,hl,h⟩:=h
  injection h with h
  subst h
  have hpl':=FS hpl w
  obtain⟨l',h1,h2⟩:=IP (place':=fun i=>(places.toArray)[i]?) (fun i p hp=>by simpa using hp) hl hzr.cells hm hv
  refine⟨.agg l',?_,.agg h2⟩
  have hma:(fields.mapM fun f=>do pure (f.offset,← sizeOf f.type):Sem (Array (Nat×Nat))).run P w=.ok places.toArray w:=by
   rw[Array.mapM_eq_mapM_toList,Sem.run_map,hpl']
   rfl
  simp only[Instr.build,Sem.run_bind,hz',Result.andThen_ok,AE hf,hma,h1,Sem.run_pure]
 ·rename_i len e hf
  simp only[bQ]at h
  obtain⟨n,hn,l,hl,h⟩:=h
  injection h with h
  subst h
  obtain⟨l',h1,h2⟩:=IP (place':=fun i=>some (i * n,n)) (fun i p hp=>hp) hl hzr.cells hm hv
  refine⟨.agg l',?_,.agg h2⟩
  simp only[Instr.build,Sem.run_bind,hz',Result.andThen_ok,AE hf,Ab hn,h1,Sem.run_pure]
theorem K2      {z : AV} {z' : Value} {n c : Nat} (hz : AL   ρ z z') (hl : z.cells.length = n) :
    AJ ρ (QM z.cells c) (((Array.range (c * n)).map (z'.cells[· % z'.cells.size]!)).toList):=by
  have hc:=hz.cells
  have hlen:z'.cells.size=n:=by have:=hc.length;simp at this;omega
  have hrl:∀c,(QM z.cells c).length=c * n:=by
    intro c
    induction c with
    | zero=>simp[QM]
    | succ c ih=>simp[QM,ih,hl,Nat.succ_mul];omega
  have hrg:∀ (c k:Nat),k<c * n→(QM z.cells c)[k]? = z.cells[k % n]? := by
    intro c
    induction c with
    | zero=>intro k hk;omega
    | succ c ih =>
      intro k hk
      simp only[QM]
      by_cases h1:k<n
      · rw[bt (by omega),Nat.mod_eq_of_lt h1]
      · rw [bz                         (by omega), hl, ih (k - n) (by rw [Nat.succ_mul] at hk; omega)]
        rw[← Nat.mod_eq_sub_mod (by omega)]
  refine AJ.of_get (by simp[hrl]) ?_
  intro k v v' hv hv'
  have hk:k<c * n:=by
    rcases be k (c * n)with h | h
    · exact h
    · rw[bh (by rw[hrl];omega)]at hv;cases hv
  have hn:0<n:=by
    rcases cD n with h | h
    · subst h;simp at hk
    · exact h
  rw[hrg c k hk]at hv
  obtain⟨u,h1,h2⟩:=hc.get hv
  have:v'=u:=by
    rw[Array.getElem?_toList,Array.getElem?_map,Array.getElem?_range]at hv'
    rw[if_pos hk]at hv'
    simp only[cC]at hv'
    injection hv' with hv'
    rw[← hv',hlen]
    rw[Array.getElem?_toList]at h1
    rw[getElem!_def,h1]
  rw[this]
  exact h2
theorem K5(h:Av P ρ s w)(hf:ρ s.next=none){t:TypeId}{len:Nat}{parts:List (Nat×AV)}{parts':Array (Nat×Value)}{o:Ao}(hs:Aa P t len parts=some o)
  (hm:parts.map (·.1)=parts'.toList.map (·.1)) (hv:AJ ρ (parts.map (·.2)) (parts'.toList.map (·.2))):
  JM P ρ s w (Instr.buildSlice t len parts') o (.slice len):=by
 unfold Aa at hs
 split at hs<;>first | (cases hs;done) | skip
 rename_i e he
 simp only[bQ]at hs
 obtain⟨n,hn,hs⟩:=hs
 obtain⟨hb,hs⟩:=AB hs
 have hb:len * n≤16777216:=by simpa[bf]using hb
 simp only[bQ]at hs
 obtain⟨z,hz,hs⟩:=hs
 obtain⟨hc,hs⟩:=AB hs
 simp only[bQ]at hs
 obtain⟨l,hl,hs⟩:=hs
 injection hs with hs
 subst hs
 obtain⟨z',hz',hzr⟩:=GX (w:=w) ρ hz
 have hz2:=K2 (c:=len) hzr (AX hc)
 obtain⟨l',h1,h2⟩:=IP (place':=fun i=>some (i * n,n)) (fun i p hp=>hp) hl hz2 hm hv
 obtain⟨ρ',g1,g2,g3⟩:=FE h hf (e:=e) (sz:=n) h2
 refine⟨.slice (some ⟨w.heap.size,0,none⟩) len len,_,ρ',?_,AL.slice g1 (bM _),g2,g3⟩
 have hbig:¬ len * n > 2 ^ 24:=by omega
 by_cases h0:len * n=0
 ·have hr0:Array.range 0=#[]:=by simp
  rw[h0,hr0]at h1
  simp only[Array.map_empty]at h1
  simp[Instr.buildSlice,AE he,Ab hn,h0,hr0,h1,newRow]
 ·simp[Instr.buildSlice,AE he,Ab hn,hbig,h0,hz',h1,newRow]
theorem JF(h:Av P ρ s w)(hf:ρ s.next=none){t:TypeId}{l c:AV}{l' c':Value}{o:Ao}{m:Made}(hs:EH P t l c=some (o,m))
  (hl:AL ρ l l') (hc:AL ρ c c'):JM P ρ s w (Instr.makeSlice t l' c') o m:=by
 unfold EH at hs
 split at hs<;>first | (cases hs;done) | skip
 rename_i e l0 c0 he
 cases hl;cases hc
 simp only[bQ]at hs
 obtain⟨by_,hby,n,hn,hs⟩:=hs
 obtain⟨hb,hs⟩:=AB hs
 simp only[Bool.and_eq_true,bf]at hb
 obtain⟨⟨hlc,hb1⟩,hb2⟩:=hb
 have hlc:=AX hlc
 subst hlc
 simp only[bQ]at hs
 obtain⟨z,hz,hs⟩:=hs
 obtain⟨hc,hs⟩:=AB hs
 injection hs with hs
 injection hs with hs1 hs2
 subst hs1;subst hs2
 obtain⟨z',hz',hzr⟩:=GX (w:=w) ρ hz
 have hz2:=K2 (c:=l0) hzr (AX hc)
 obtain⟨i,hi,hi2⟩:=P9 (w:=w) hby
 obtain⟨ρ',g1,g2,g3⟩:=FE h hf (e:=e) (sz:=n) hz2
 refine⟨.slice (some ⟨w.heap.size,0,none⟩) l0 l0,_,ρ',?_,AL.slice g1 (bM _),g2,g3⟩
 have hw:IntKind.i64.wrap (l0:Int)=(l0:Int):=H1 (k:=.i64) (n:=Int.ofNat l0) (by simp[BA,bf];omega)
 have hmul:((by_:Int) * (l0:Int))≤1099511627776:=by
  have:((by_ * l0:Nat):Int)≤1099511627776:=by omega
  simpa using this
 have h1:¬ ((l0:Int)<0):=by omega
 have h2:¬ ((i.bytes:Int) * (l0:Int) > 2 ^ 48):=by rw[hi2];omega
 have h3:¬ ((281474976710656:Int)<(i.bytes:Int) * (l0:Int)):=by omega
 by_cases h0:l0 * n=0
 ·have hr0:Array.range 0=#[]:=by simp
  simp[Instr.makeSlice,AE he,asInt,asIntOf,hi,hw,h1,h3,Ab hn,h0,newRow,hr0]
 ·simp[Instr.makeSlice,AE he,asInt,asIntOf,hi,hw,h1,h3,Ab hn,h0,hz',newRow]
end
end
end Go.Proofs.YtickdehehcmfbaaGreatDoor.Am
