/- Binary tries over Nat keys, made for evaluation by the kernel: get, set, and their laws; conditions: none. -/
import GoSem.Dispatch
import GoSem.ClaimKeys
import Derived.DeepKeys2
import Derived.CallsIn
import Derived.Laws.Sem
import Derived.MapKept
import Derived.Laws.Entries
import Derived.Laws.Slices
import Derived.Laws.Strings
import Derived.Lib.Hide
import Derived.Laws.CopyRow
import Derived.Laws.Cells
import Derived.RangeFuncRecord
import Derived.Below
namespace Go.Proofs.YtickdehehcmfbaaGreatDoor.Am
noncomputable section
abbrev cJ := @Nat.le_refl
abbrev cK := @Nat.zero_add
abbrev cL := @List.nil_append
abbrev cM := @List.drop_zero
abbrev cN := @List.length_cons
abbrev cO := @List.cons_append
abbrev cP := @List.length_nil
abbrev cQ := @List.set_cons_zero
abbrev cR := @List.set_cons_succ
abbrev cT := @List.drop_succ_cons
abbrev cU := @List.take_succ_cons
abbrev cV := @List.take_zero
abbrev cW := @Nat.lt_add_one
abbrev cX := @Option.bind_eq_some_iff
abbrev cY := @List.getElem?_eq_getElem
abbrev cZ := @Nat.lt_or_ge
abbrev ce := @Nat.ble_eq
abbrev cg := @Nat.lt_of_lt_of_le
abbrev ck := @List.mem_cons_self
abbrev cm := @List.getElem?_eq_none
abbrev cn := @List.mem_cons_of_mem
abbrev co := @List.length_map
abbrev cp := @Nat.zero_le
abbrev cq := @Nat.eq_of_beq_eq_true
abbrev ct := @Nat.mul_one
abbrev cu := @List.mem_of_getElem?
abbrev cw := @Nat.le_trans
abbrev cy := @Nat.blt_eq
abbrev cz := @List.map_cons
abbrev dA := @List.getElem?_append_left
abbrev dB := @List.getElem?_append_right
abbrev dC := @List.length_append
abbrev dD := @List.take_of_length_le
abbrev dE := @List.mem_cons
abbrev dF := @Nat.add_mul
abbrev dG := @List.getElem?_map
abbrev dH := @Nat.add_assoc
abbrev dI := @List.mem_append_right
abbrev dJ := @Option.map_some
abbrev dK := @Nat.eq_zero_or_pos
abbrev dM := @Nat.mul_le_mul_right
abbrev dN := @Nat.beq_eq
abbrev dP := @List.append_assoc
abbrev dQ := @List.nodup_cons
abbrev dR := @Nat.lt_succ_self
abbrev dS := @List.not_mem_nil
abbrev dT := @Nat.lt_trans
abbrev dU := @List.eq_nil_of_length_eq_zero
abbrev dV := @List.mem_append_left
abbrev dW := @Nat.add_zero
abbrev dX := @List.foldl_cons
abbrev dY := @List.map_append
abbrev dZ := @Nat.lt_succ_of_lt
abbrev da := @Nat.lt_trichotomy
abbrev db := @List.nodup_nil
abbrev dd := @List.getElem_mem
abbrev de := @List.getElem?_take_of_lt
abbrev df := @List.getElem?_drop
abbrev dg := @List.mapM_cons
abbrev dh := @Int.ofNat_eq_natCast
abbrev dj := @List.mem_iff_getElem
abbrev dp := @List.idxOf_lt_length_of_mem
abbrev dr := @List.map_congr_left
abbrev du := @List.getD_eq_getElem?_getD
abbrev dv := @List.take_append_of_le_length
inductive AI (α:Type) where
 | leaf
 | node (v:Option α) (l r:AI α)
namespace AI
variable{α:Type}
def get:AI α→Nat→Option α
 | .leaf,_=>none
 | .node v l r,k=>match k with
  | 0=>v
  | k+1=>bif Nat.beq (k % 2) 0 then l.get (k / 2)else r.get (k / 2)
def val:AI α→Option α
 | .leaf=>none
 | .node v _ _=>v
def left:AI α→AI α
 | .leaf=>.leaf
 | .node _ l _=>l
def right:AI α→AI α
 | .leaf=>.leaf
 | .node _ _ r=>r
def X9(v:Option α)(l r:AI α):AI α:=
 match l with
 | .leaf=>.node v .leaf r
 | .node x a b=>.node v (.node x a b) r
def YA(v:Option α)(l r:AI α):AI α:=
 match r with
 | .leaf=>.node v l .leaf
 | .node x a b=>.node v l (.node x a b)
def setF(v:Option α):Nat→AI α→Nat→AI α
 | 0,t,_=>t
 | f+1,t,k=>match k with
  | 0=>.node v t.left t.right
  | k+1=>bif Nat.beq (k % 2) 0 then X9 t.val (setF v f t.left (k / 2)) t.right
   else YA t.val t.left (setF v f t.right (k / 2))
def put(t:AI α)(k:Nat)(v:Option α):AI α:=setF v (k+1) t k
def set(t:AI α)(k:Nat)(v:α):AI α:=t.put k (some v)
def del(t:AI α)(k:Nat):AI α:=t.put k none
theorem beq_no{a b:Nat}(h:¬ a=b):Nat.beq a b=false:=by
 cases e:Nat.beq a b with
 | false=>rfl
 | true=>exact absurd (cq e) h
theorem nodeL_eq(v:Option α)(l r:AI α):X9 v l r=.node v l r:=by cases l<;>rfl
theorem nodeR_eq(v:Option α)(l r:AI α):YA v l r=.node v l r:=by cases r<;>rfl
theorem Ih(t:AI α):t.get 0=t.val:=by cases t<;>rfl
theorem CR(t:AI α)(k:Nat):t.get (k+1)=if k % 2=0 then t.left.get (k / 2)else t.right.get (k / 2):=by
 cases t with
 | leaf=>simp[get,left,right]
 | node v l r =>
  by_cases h:k % 2=0
  ·simp[get,left,h]
  ·have:Nat.beq (k % 2) 0=false:=beq_no h
   simp[get,right,h,this]
theorem SS       (v : Option α) : ∀ (f : Nat) (t : AI   α) (k j : Nat), k < f → (setF v f t k).get j = if j = k then v else t.get j := by
  intro f
  induction f with
  | zero=>intro t k j h;omega
  | succ f ih =>
    intro t k j h
    cases k with
    | zero =>
      cases j with
      | zero=>simp[setF,Ih,val]
      | succ j=>simp[setF,CR,left,right]
    | succ k =>
      by_cases hk:k % 2=0
      · have hb:Nat.beq (k % 2) 0=true:=by rw[hk];rfl
        simp only[setF,hb,cond_true,nodeL_eq]
        cases j with
        | zero=>simp[Ih,val]
        | succ j =>
          by_cases hj:j % 2=0
          · rw[CR,CR,if_pos hj,if_pos hj]
            simp only[left]
            rw[ih _ _ _ (by omega)]
            by_cases e:j=k
            · subst e;simp
            · rw[if_neg (by omega),if_neg (by omega)]
          · rw[CR,CR,if_neg hj,if_neg hj,if_neg (by omega)]
            simp only[right]
      · have hb:Nat.beq (k % 2) 0=false:=beq_no hk
        simp only[setF,hb,cond_false,nodeR_eq]
        cases j with
        | zero=>simp[Ih,val]
        | succ j =>
          by_cases hj:j % 2=0
          · rw[CR,CR,if_pos hj,if_pos hj,if_neg (by omega)]
            simp only[left]
          · rw[CR,CR,if_neg hj,if_neg hj]
            simp only[right]
            rw[ih _ _ _ (by omega)]
            by_cases e:j=k
            · subst e;simp
            · rw[if_neg (by omega),if_neg (by omega)]
theorem OD(t:AI α)(k j:Nat)(v:Option α):(t.put k v).get j=if j=k then v else t.get j:=SS v _ t k j (by omega)
theorem get_set(t:AI α)(k j:Nat)(v:α):(t.set k v).get j=if j=k then some v else t.get j:=OD t k j _
theorem get_del(t:AI α)(k j:Nat):(t.del k).get j=if j=k then none else t.get j:=OD t k j _
def fill(t:AI α)(k:Nat):List α→AI α
 | []=>t
 | v::l=>fill (t.set k v) (k+1) l
theorem get_fill(l:List α):∀ (t:AI α)(k j:Nat),(t.fill k l).get j=if k≤j∧j<k+l.length then l[j - k]? else t.get j:=by
  induction l with
  | nil=>intro t k j;simp[fill];omega
  | cons v l ih =>
    intro t k j
    simp only[fill,ih,get_set,cN]
    by_cases h1:k+1≤j∧j<k+1+l.length
    · rw [if_pos h1, if_pos (by omega), show j - k = (j - (k + 1)) + 1 from by omega]
      rfl
    · rw[if_neg h1]
      by_cases h2:j=k
      · subst h2;simp
      · rw[if_neg h2,if_neg (by omega)]
def take(t:AI α)(k:Nat):Nat→Option (List α)
 | 0=>some []
 | n+1=>match t.get k with
  | none=>none
  | some v=>match take t (k+1) n with
   | none=>none
   | some l=>some (v::l)
theorem take_length{t:AI α}{k n:Nat}{l:List α}(h:t.take k n=some l):l.length=n:=by
  induction n generalizing k l with
  | zero=>simp[take]at h;subst h;rfl
  | succ n ih =>
    simp only[take]at h
    split at h
    · cases h
    · split at h
      · cases h
      · rename_i h2;injection h with h;subst h;simp[ih h2]
theorem take_get {t : AI   α} {k n : Nat} {l : List α} (h : t.take k n = some l) (j : Nat) (hj : j < n) : t.get (k + j) = l[j]? := by
  induction n generalizing k l j with
  | zero=>omega
  | succ n ih =>
    simp only[take]at h
    split at h
    · cases h
    · rename_i v hv
      split at h
      · cases h
      · rename_i l' h2
        injection h with h
        subst h
        cases j with
        | zero=>simpa using hv
        | succ j=>rw[show k+(j+1)=k+1+j from by omega,ih h2 j (by omega)];rfl
end AI
end
end Go.Proofs.YtickdehehcmfbaaGreatDoor.Am
namespace Go.Proofs.YtickdehehcmfbaaGreatDoor.Am
open Go
noncomputable section
inductive AV where
 | bool (b:Bool)
 | int (k:IntKind) (n:Int)
 | str (s:List Nat)
 | ptr (a:Option (Nat×Nat))
 | gptr (g o:Nat)
 | slice (a:Option (Nat×Nat)) (len:Nat) (cap:Option Nat)
 | map (r:Option Nat)
 | func (f:FuncId) (first cap:List AV)
 | yield (l:Nat)
 | nilFunc
 | iface (t:TypeId) (v:AV)
 | nilIface
 | agg (cs:List AV)
 | tuple (vs:List AV)
def A7:AV:=.tuple []
def AV.cells:AV→List AV
 | .agg cs=>cs
 | v=>[v]
def AV.isCell:AV→Bool
 | .agg _ | .tuple _=>false
 | _=>true
def Aa:List AV→Bool
 | []=>true
 | v::l=>v.isCell && Aa l
inductive Uq where
 | ro | own | sealed
structure CL where
 elem:TypeId
 sz:Nat
 n:Nat
 c:AI AV
 spare:Bool
 mode:Uq
 par:Option Nat
 bytes:Bool
 glob:Option Nat:=none
inductive CX where
 | loc (i:Nat)
 | var (j:Nat)
 | const (v:AV)
inductive Made where
 | ptr | slice (n:Nat) | map
structure ID where
 state:LoopState
 pending:Option Code
 fn:FuncId
 var:List AV
 params:Array Tmp
 assign:Code
 body:Code
 dfr:Nat
inductive Ae where
 | row (r:CL)
 | map (kt:TypeId) (es:List (AV×AV))
 | loop (l:ID)
 | mark
 | iter (s:List Nat) (pos:Nat)
structure AD where
 next:Nat
 heap:AI Ae
def Gb:Value→Option AV
 | .bool b=>some (.bool b)
 | .int k n=>some (.int k n)
 | .string s=>some (.str (s.data.toList.map (fun(b:UInt8)=>b.toNat)))
 | .pointer none=>some (.ptr none)
 | .slice none 0 0=>some (.slice none 0 (some 0))
 | .map none=>some (.map none)
 | .nilFunc=>some .nilFunc
 | .nilIface=>some .nilIface
 | _=>none
def DP:List Value→Option (List AV)
 | []=>some []
 | v::l=>(Gb v).bind fun a=>(DP l).bind fun r=>some (a::r)
def ofValue:Value→Option AV
 | .agg cs=>(DP cs.toList).bind fun l=>some (.agg l)
 | .tuple vs=>(DP vs.toList).bind fun l=>some (.tuple l)
 | v=>Gb v
def AH{α:Type}(b:Bool)(x:Option α):Option α:=bif b then x else none
def Dk{α:Type}(P:Program):Sem α→Option α
 | .pure a=>some a
 | .program k=>Dk P (k P)
 | .mark _ k=>Dk P k
 | _=>none
def A9(k:IntKind):Int→Bool
 | .ofNat m=>match k with
  | .i64=>Nat.ble m 9223372036854775807
  | .u64=>Nat.ble m 18446744073709551615
  | .i32=>Nat.ble m 2147483647
  | .u32=>Nat.ble m 4294967295
  | .u8=>Nat.ble m 255
  | .i8=>Nat.ble m 127
  | .u16=>Nat.ble m 65535
  | .i16=>Nat.ble m 32767
 | .negSucc m=>match k with
  | .i64=>Nat.ble m 9223372036854775807
  | .i32=>Nat.ble m 2147483647
  | .i8=>Nat.ble m 127
  | .i16=>Nat.ble m 32767
  | _=>false
def Ej(k:IntKind)(n:Int):Int:=bif A9 k n then n else k.wrap n
def JH:Int→Int→Bool
 | .ofNat a,.ofNat b=>Nat.blt a b
 | .ofNat _,.negSucc _=>false
 | .negSucc _,.ofNat _=>true
 | .negSucc a,.negSucc b=>Nat.blt b a
def N9:Int→Int→Bool
 | .ofNat a,.ofNat b=>Nat.beq a b
 | .negSucc a,.negSucc b=>Nat.beq a b
 | _,_=>false
def OM:Int→Option Nat
 | .ofNat m=>some m
 | .negSucc _=>none
def Bu:List Nat→List Nat→Bool
 | [],[]=>true
 | a::x,b::y=>bif Nat.beq a b then Bu x y else false
 | _,_=>false
def FJ:List Nat→List Nat→Bool
 | _,[]=>false
 | [],_::_=>true
 | a::x,b::y=>bif Nat.blt a b then true else bif Nat.beq a b then FJ x y else false
def Oa(op:BinOp)(x y:List Nat):Option AV:=
 match op with
 | .add=>AH (Nat.ble (x.length+y.length) 1152921504606846976) (some (.str (x++y)))
 | .eql=>some (.bool (Bu x y))
 | .neq=>some (.bool (!Bu x y))
 | .lss=>some (.bool (FJ x y))
 | .leq=>some (.bool (FJ x y || Bu x y))
 | .gtr=>some (.bool (!(FJ x y || Bu x y)))
 | .geq=>some (.bool (!FJ x y))
 | _=>none
def Cw(P:Program)(t:TypeId):Option Bool:=
 match P.underlying t with
 | some (.struct _) | some (.array _ _)=>some true
 | some _=>some false
 | none=>none
def Ap(P:Program)(t:TypeId):Option Nat:=match P.info? t with
 | some i=>some i.size
 | none=>none
def Bv(P:Program)(t:TypeId):Option AV:=match P.info? t with
 | some i=>match i.zero with
  | some v=>ofValue v
  | none=>none
 | none=>none
def CE(P:Program)(t:TypeId):Option Nat:=match P.info? t with
 | some i=>some i.bytes
 | none=>none
def rowAt(s:AD)(i:Nat):Option CL:=match s.heap.get i with
 | some (.row r)=>some r
 | _=>none
def newObj(s:AD)(o:Ae):AD:={ next:=s.next+1,heap:=s.heap.set s.next o }
def Hg(elem:TypeId)(sz:Nat)(cells:List AV):Ae:=
 .row { elem,sz,n:=cells.length,c:=AI.fill .leaf 0 cells,spare:=false,mode:=.own,par:=none,bytes:=true }
def setObj(s:AD)(i:Nat)(o:Ae):AD:={ s with heap:=s.heap.set i o }
def Bn(s:AD)(i:Nat):AD:={ s with heap:=s.heap.del i }
def BX(s:AD)(i off n:Nat):Option (List AV):=
 (rowAt s i).bind fun r=>AH (Nat.ble (off+n) r.n) (r.c.take off n)
def Cs(s:AD)(i off:Nat):Option AV:=
 (rowAt s i).bind fun r=>AH (Nat.blt off r.n) (r.c.get off)
def A4(s:AD)(i:Nat)(r:CL):AD:=match r.par with
 | none=>s
 | some p=>bif Nat.beq p i then s else Bn s p
def C4:Uq→Bool
 | .own=>true
 | _=>false
def Bt(s:AD)(i off:Nat)(vs:List AV):Option AD:=
 match vs with
 | []=>some s
 | _::_=>(rowAt s i).bind fun r =>
  AH (C4 r.mode && Nat.ble (off+vs.length) r.n && Aa vs)
   (some (setObj (A4 s i r) i (.row { r with c:=r.c.fill off vs,par:=none })))
def Ke(s:AD)(g:Nat):Option CL:=(rowAt s g).bind fun r=>match r.glob with
 | some g'=>AH (Nat.beq g' g) (some r)
 | none=>none
def AG(P:Program)(s:AD)(t:TypeId):AV→Option AV
 | .gptr i o=>(Ke s i).bind fun _=>(Cw P t).bind fun g=>match g with
  | true=>(Ap P t).bind fun n=>(BX s i o n).bind fun l=>some (.agg l)
  | false=>Cs s i o
 | .ptr (some (i,o))=>(Cw P t).bind fun g=>match g with
  | true=>(Ap P t).bind fun n=>(BX s i o n).bind fun l=>some (.agg l)
  | false=>Cs s i o
 | _=>none
def At(P:Program)(s:AD)(t:TypeId)(a v:AV):Option AD:=
 match a with
 | .ptr (some (i,o))=>(Ap P t).bind fun n=>AH (Nat.beq v.cells.length n) (Bt s i o v.cells)
 | _=>none
def E4(P:Program)(t:TypeId):Bool:=match P.underlying t with
 | some (.pointer _)=>true
 | _=>false
def GW(P:Program)(t:TypeId):Bool:=match P.underlying t with
 | some (.slice _)=>true
 | _=>false
def Kh(P:Program)(t:TypeId):Bool:=match P.underlying t with
 | some (.map ..)=>true
 | _=>false
def GV(P:Program)(t:TypeId):Bool:=match P.underlying t with
 | some (.func ..)=>true
 | _=>false
def Kf(P:Program)(t:TypeId):Bool:=match P.underlying t with
 | some .bool=>true
 | _=>false
def UA(P:Program)(t:TypeId):AV→AV→Option Bool
 | .bool a,.bool b=>AH (Kf P t) (some (a == b))
 | .ptr none,.ptr b=>AH (E4 P t) (some b.isNone)
 | .ptr a,.ptr none=>AH (E4 P t) (some a.isNone)
 | .slice none _ _,.slice b _ _=>AH (GW P t) (some b.isNone)
 | .slice a _ _,.slice none _ _=>AH (GW P t) (some a.isNone)
 | .map none,.map b=>AH (Kh P t) (some b.isNone)
 | .map a,.map none=>AH (Kh P t) (some a.isNone)
 | .nilFunc,.nilFunc=>AH (GV P t) (some true)
 | .func ..,.nilFunc=>AH (GV P t) (some false)
 | .nilFunc,.func ..=>AH (GV P t) (some false)
 | _,_=>none
def Bg:IntKind→IntKind→Bool
 | .i8,.i8 | .i16,.i16 | .i32,.i32 | .i64,.i64 | .u8,.u8 | .u16,.u16 | .u32,.u32 | .u64,.u64=>true
 | _,_=>false
def SY(P:Program)(op:BinOp)(k:IntKind)(a b:Int):Option AV:=
 match op with
 | .add=>some (.int k (Ej k (a+b)))
 | .sub=>some (.int k (Ej k (a - b)))
 | .mul=>some (.int k (Ej k (a * b)))
 | .eql=>some (.bool (N9 a b))
 | .neq=>some (.bool (!N9 a b))
 | .lss=>some (.bool (JH a b))
 | .leq=>some (.bool (!JH b a))
 | .gtr=>some (.bool (JH b a))
 | .geq=>some (.bool (!JH a b))
 | .quo | .rem=>(Dk P (Op.intDiv op k a b)).bind ofValue
 | .shl | .shr=>none
 | _=>(Dk P (Op.intBits op k a b)).bind ofValue
def AQ(P:Program)(op:BinOp)(t:TypeId)(x y:AV):Option AV:=
 match x,y with
 | .int k a,.int k' b=>match op with
  | .shl | .shr=>(Dk P (Op.shift op k a k' b)).bind ofValue
  | _=>AH (Bg k k') (SY P op k a b)
 | .str a,.str b=>Oa op a b
 | x,y=>match op with
  | .eql=>(UA P t x y).bind fun b=>some (.bool b)
  | .neq=>(UA P t x y).bind fun b=>some (.bool (!b))
  | _=>none
def Sc(P:Program)(t:TypeId):Bool:=match P.underlying t with
 | some (.pointer e)=>(match P.info? e with | some j=>!Nat.beq j.size 0 | none=>false)
 | _=>false
def F5(s:AD)(i:Nat):Bool:=match rowAt s i with
 | some r=>C4 r.mode && r.par.isNone
 | none=>false
def HG(P:Program)(s:AD)(neg:Bool)(t:TypeId)(x y:AV):Option AV:=
 match x,y with
 | .ptr (some (i,o)),.ptr (some (j,q))=>AH (Sc P t && F5 s i && F5 s j) (some (.bool ((Nat.beq i j && Nat.beq o q) != neg)))
 | x,y=>AQ P (bif neg then .neq else .eql) t x y
def Uh(P:Program)(op:UnOp):AV→Option AV
 | .int k n=>match op with
  | .neg=>some (.int k (Ej k (0 - n)))
  | .xor=>(Dk P (Op.unary .xor (.int k n))).bind ofValue
  | _=>none
 | .bool b=>match op with
  | .not=>some (.bool (!b))
  | _=>none
 | _=>none
def Ib(place:Nat→Option (Nat×Nat))(cells:List AV):List (Nat×AV)→Option (List AV)
 | []=>some cells
 | (i,v)::rest=>(place i).bind fun p =>
  AH (Nat.beq v.cells.length p.2 && Nat.ble (p.1+v.cells.length) cells.length)
   (Ib place (cells.take p.1++(v.cells++cells.drop (p.1+v.cells.length))) rest)
def DX(P:Program):List Field→Option (List (Nat×Nat))
 | []=>some []
 | f::l=>(Ap P f.type).bind fun n=>(DX P l).bind fun r=>some ((f.offset,n)::r)
def AT(P:Program)(t:TypeId)(parts:List (Nat×AV)):Option AV:=
 (Bv P t).bind fun z=>match P.underlying t with
  | some (.struct fields)=>(DX P fields.toList).bind fun places =>
   (Ib (fun i=>places[i]?) z.cells parts).bind fun l=>some (.agg l)
  | some (.array _ e)=>(Ap P e).bind fun n =>
   (Ib (fun i=>some (i * n,n)) z.cells parts).bind fun l=>some (.agg l)
  | _=>none
def P5(l:List AV):Nat→List AV
 | 0=>[]
 | n+1=>l++P5 l n
def AY(P:Program)(t:TypeId)(len:Nat)(parts:List (Nat×AV)):Option Ae:=
 match P.underlying t with
 | some (.slice e)=>(Ap P e).bind fun n=>AH (Nat.ble (len * n) 16777216) <|
  (Bv P e).bind fun z=>AH (Nat.beq z.cells.length n) <|
   (Ib (fun i=>some (i * n,n)) (P5 z.cells len) parts).bind fun l=>some (Hg e n l)
 | _=>none
def BB(P:Program)(s:AD)(src dst:TypeId)(x:AV):Option AV:=
 match P.underlying src,P.underlying dst,x with
 | some _,some (.int k),.int _ n=>some (.int k (Ej k n))
 | some _,some .string,.str l=>some (.str l)
 | some (.slice e),some .string,.slice a len _=>match P.underlying e with
  | some (.int .u8)=>match a with
   | none=>some (.str [])
   | some (i,o)=>(BX s i o len).bind fun l=>(bytesOf l).bind fun b=>some (.str b)
  | _=>none
 | some (.pointer u),some .unsafePointer,x=>seenPtr u x
 | some .unsafePointer,some (.pointer u),x=>seenPtr u x
 | _,_,_=>none
where
 seenPtr (u:TypeId):AV→Option AV
  | .ptr none=>some (.ptr none)
  | .ptr (some (i,o))=>(rowAt s i).bind fun r=>(Ap P u).bind fun n =>
   AH (C4 r.mode && r.bytes && Nat.beq o 0 && Nat.beq r.elem u && Nat.ble n r.n && !Nat.beq n 0) (some (.ptr (some (i,o))))
  | _=>none
 bytesOf:List AV→Option (List Nat)
  | []=>some []
  | .int .u8 (.ofNat n)::l=>AH (Nat.blt n 256) ((bytesOf l).bind fun r=>some (n::r))
  | _::_=>none
def idxOf:AV→Option Nat
 | .int _ n=>OM n
 | _=>none
def Be(x:AV)(y:Nat):Option Nat:=(idxOf x).bind fun i=>AH (Nat.ble i y) (some i)
def BZ(P:Program)(s:AD)(t:TypeId)(x:AV)(lo hi mx:Option AV):Option AV:=
 match x with
 | .str l=>(match mx with | some _=>none | none=>some ()).bind fun _ =>
  (match hi with | some h=>Be h l.length | none=>some l.length).bind fun h =>
  (match lo with | some v=>Be v h | none=>some 0).bind fun o =>
  (match P.underlying t with | some .string=>some () | _=>none).bind fun _=>some (.str ((l.drop o).take (h - o)))
 | .slice a len cap=>match P.underlying t with
  | some (.slice e)=>(Ap P e).bind fun n =>
   (match cap with
    | some c=>some c
    | none=>match a with
     | none=>none
     | some (i,o)=>(rowAt s i).bind fun r=>AH (Nat.ble o r.n && Nat.beq n r.sz && !Nat.beq n 0) (some ((r.n - o) / n))).bind fun far =>
   (match mx with | some m=>(Be m far).bind fun c=>AH (cap.isSome || Nat.blt 0 far) (some (some c)) | none=>some cap).bind fun m =>
   (match hi,m with
    | some h,some c=>Be h c
    | some h,none=>Be h far
    | none,some c=>(match mx with | none=>some len | some _=>(fun(_:Nat)=>none) c)
    | none,none=>some len).bind fun h =>
   (match lo with | some v=>Be v h | none=>some 0).bind fun l =>
   some (.slice
    (match a with
     | none=>none
     | some (i,o)=>match m with
      | some c=>bif Nat.beq c l then some (i,o)else some (i,o+l * n)
      | none=>some (i,o+l * n))
    (h - l) (match m with | some c=>some (c - l) | none=>none))
  | _=>none
 | .ptr (some (i,o))=>match P.underlying t with
  | some (.array len e)=>arr len e i o
  | some (.pointer u)=>match P.underlying u with
   | some (.array len e)=>arr len e i o
   | _=>none
  | _=>none
 | _=>none
where
 arr (len:Nat) (e:TypeId) (i o:Nat):Option AV:=(Ap P e).bind fun n =>
  (match mx with | some m=>Be m len | none=>some len).bind fun m =>
  (match hi with | some h=>Be h m | none=>match mx with | none=>some len | some _=>none).bind fun h =>
  (match lo with | some v=>Be v h | none=>some 0).bind fun l =>
  some (.slice (some (i,bif Nat.beq m l then o else o+l * n)) (h - l) (some (m - l)))
def AA(P:Program)(t:TypeId)(x:AV)(f:Nat):Option AV:=
 match x with
 | .ptr (some (i,o))=>match P.underlying t with
  | some (.struct fs)=>(fs[f]?).bind fun fd=>(Ap P fd.type).bind fun n =>
   AH (!Nat.beq n 0) (some (.ptr (some (i,o+fd.offset))))
  | _=>none
 | _=>none
def OR(P:Program)(t:TypeId)(cs:List AV)(off:Nat):Option AV:=
 (Cw P t).bind fun g=>match g with
  | true=>(Ap P t).bind fun n=>some (.agg ((cs.drop off).take n))
  | false=>cs[off]?
def Fw(P:Program)(t:TypeId)(x:AV)(f:Nat):Option AV:=
 match x with
 | .agg cs=>match P.underlying t with
  | some (.struct fs)=>(fs[f]?).bind fun fd=>OR P fd.type cs fd.offset
  | _=>none
 | _=>none
def AK(P:Program)(t:TypeId)(x ix:AV):Option AV:=
 (idxOf ix).bind fun k=>match x with
  | .ptr (some (i,o))=>match P.underlying t with
   | some (.array len e)=>(Ap P e).bind fun n=>AH (Nat.blt k len) (some (.ptr (some (i,o+k * n))))
   | _=>none
  | .gptr g o=>match P.underlying t with
   | some (.array len e)=>(Ap P e).bind fun n=>AH (Nat.blt k len) (some (.gptr g (o+k * n)))
   | _=>none
  | .slice (some (i,o)) len _=>match P.underlying t with
   | some (.slice e)=>(Ap P e).bind fun n=>AH (Nat.blt k len) (some (.ptr (some (i,o+k * n))))
   | _=>none
  | _=>none
def My(P:Program)(t:TypeId)(x ix:AV):Option AV:=
 (idxOf ix).bind fun k=>match x with
  | .agg cs=>match P.underlying t with
   | some (.array len e)=>(Ap P e).bind fun n=>AH (Nat.blt k len) (OR P e cs (k * n))
   | _=>none
  | .str l=>match P.underlying t with
   | some .string=>(l[k]?).bind fun b=>some (.int .u8 (.ofNat b))
   | _=>none
  | _=>none
def AX:AV→Option AV
 | .ptr none | .nilIface | .nilFunc=>none
 | v=>some v
def Xv(x:AV)(i:Nat):Option AV:=
 match x with
 | .tuple vs=>vs[i]?
 | _=>none
def Ro(c a b:AV):Option AV:=
 match c with
 | .bool true=>some a
 | .bool false=>some b
 | _=>none
def CF(mx:Bool):AV→List AV→Option AV
 | v,[]=>some v
 | .int k a,.int k' b::l=>AH (Bg k k') (CF mx (.int k (bif (bif mx then JH a b else JH b a)then b else a)) l)
 | _,_=>none
def Cq:AV→AV→Option Bool
 | .int k a,.int k' b=>AH (Bg k k') (some (N9 a b))
 | .str a,.str b=>some (Bu a b)
 | .agg a,.agg b=>keysEq a b
 | _,_=>none
where
 keysEq:List AV→List AV→Option Bool
 | [],[]=>some true
 | .int k a::x,.int k' b::y=>AH (Bg k k') ((keysEq x y).bind fun r=>some (N9 a b && r))
 | .str a::x,.str b::y=>(keysEq x y).bind fun r=>some (Bu a b && r)
 | _,_=>none
def CP(k:AV):List (AV×AV)→Nat→Option (Option (Nat×AV))
 | [],_=>some none
 | (k',v)::l,i=>(Cq k k').bind fun e=>match e with
  | true=>some (some (i,v))
  | false=>CP k l (i+1)
def Fk(P:Program):Nat→TypeId→List AV→Bool
 | 0,_,_=>false
 | d+1,t,cs=>match P.underlying t with
  | some (.int q)=>match cs with
   | [.int q' n]=>Bg q' q && A9 q n
   | _=>false
  | some .string=>match cs with
   | [.str l]=>Nat.ble l.length 1099511627776
   | _=>false
  | some (.array n e)=>Nat.beq cs.length (P.cellsOf t) && (List.range n).all fun i=>Fk P d e ((cs.drop (i * P.cellsOf e)).take (P.cellsOf e))
  | some (.struct fs)=>Nat.beq cs.length (P.cellsOf t) && fs.toList.all fun f=>Fk P d f.type ((cs.drop f.offset).take (P.cellsOf f.type))
  | _=>false
def CI(P:Program)(t:TypeId)(k:AV):Bool:=match P.underlying t with
 | some (.array _ _) | some (.struct _)=>match k with
  | .agg cs=>Fk P 4 t cs
  | _=>false
 | _=>Fk P 1 t [k]
def Dy(P:Program)(t:TypeId):Bool:=match P.underlying t with
 | some (.int _) | some .string=>true
 | some (.array _ _) | some (.struct _)=>P.keyType t && (P.tiled (P.types.size+1) t && (Nat.ble 4 P.types.size && Nat.ble P.types.size 9990))
 | _=>false
def Fm(P:Program)(t:TypeId):Bool:=match P.underlying t with
 | some (.map kt _)=>Dy P kt
 | _=>false
def DN(P:Program)(t:TypeId):Option TypeId:=match P.underlying t with
 | some (.map kt _)=>some kt
 | _=>none
def Fl(s:AD)(kt:TypeId)(i:Nat):Option (List (AV×AV)):=match s.heap.get i with
 | some (.map kt' es)=>AH (Nat.beq kt' kt) (some es)
 | _=>none
def Bz(P:Program)(s:AD)(t:TypeId)(m k:AV)(ok:Bool):Option AV:=
 match P.underlying t with
 | some (.map kt et)=>AH (CI P kt k) <|
  (match m with
   | .map none=>some []
   | .map (some i)=>Fl s kt i
   | _=>none).bind fun es=>(CP k es 0).bind fun r =>
   (match r with
    | some (_,v)=>some (v,true)
    | none=>(Bv P et).bind fun z=>some (z,false)).bind fun p=>some (bif ok then .tuple [p.1,.bool p.2]else p.1)
 | _=>none
def setNth(es:List (AV×AV))(i:Nat)(v:AV):List (AV×AV):=
 match es,i with
 | [],_=>[]
 | (k,_)::l,0=>(k,v)::l
 | e::l,i+1=>e::setNth l i v
def JP(k v:AV)(es:List (AV×AV)):Option (List (AV×AV)):=(CP k es 0).bind fun r=>match r with
 | some (j,_)=>some (setNth es j v)
 | none=>some (es++[(k,v)])
def B1(P:Program)(s:AD)(t:TypeId)(m k v:AV):Option AD:=
 match P.underlying t,m with
 | some (.map kt _),.map (some i)=>AH (CI P kt k) <|
  (Fl s kt i).bind fun es=>(JP k v es).bind fun es'=>some (setObj s i (.map kt es'))
 | _,_=>none
def delNth(es:List (AV×AV))(i:Nat):List (AV×AV):=
 match es,i with
 | [],_=>[]
 | _::l,0=>l
 | e::l,i+1=>e::delNth l i
def H6(P:Program)(s:AD)(t:TypeId)(m k:AV):Option AD:=
 match P.underlying t with
 | some (.map kt _)=>AH (CI P kt k) <| match m with
  | .map none=>some s
  | .map (some i)=>(Fl s kt i).bind fun es=>(CP k es 0).bind fun r=>match r with
    | some (j,_)=>some (setObj s i (.map kt (delNth es j)))
    | none=>some s
  | _=>none
 | _=>none
def BN(P:Program)(s:AD)(t:TypeId):AV→Option AV
 | .str l=>match P.underlying t with
  | some .string=>some (.int .i64 (.ofNat l.length))
  | _=>none
 | .slice _ n _=>match P.underlying t with
  | some (.slice _)=>some (.int .i64 (.ofNat n))
  | _=>none
 | .map none=>match P.underlying t with
  | some (.map ..)=>some (.int .i64 (.ofNat 0))
  | _=>none
 | .map (some i)=>match P.underlying t with
  | some (.map ..)=>match s.heap.get i with
   | some (.map _ es)=>some (.int .i64 (.ofNat es.length))
   | _=>none
  | _=>none
 | _=>none
def Oy(P:Program)(s:AD)(t:TypeId):AV→Option AV
 | .slice a _ cap=>match P.underlying t with
  | some (.slice e)=>match cap with
   | some c=>some (.int .i64 (.ofNat c))
   | none=>match a with
    | some (i,o)=>(Ap P e).bind fun n=>(rowAt s i).bind fun r=>AH (!r.spare && Nat.ble o r.n && Nat.beq n r.sz && !Nat.beq n 0) (some (.int .i64 (.ofNat ((r.n - o) / n))))
    | none=>none
  | _=>none
 | _=>none
def SC:AV→Option AV
 | .slice none _ _=>some (.ptr none)
 | .slice (some (i,o)) (_+1) _=>some (.ptr (some (i,o)))
 | _=>none
def Made.val(i:Nat):Made→AV
 | .ptr=>.ptr (some (i,0))
 | .slice n=>.slice (some (i,0)) n (some n)
 | .map=>.map (some i)
def Bl(P:Program)(e:TypeId):Option (Ae×Made):=(Bv P e).bind fun z=>some (Hg e 0 z.cells,.ptr)
def Cx(e:TypeId)(v:AV):Option (Ae×Made):=some (Hg e 0 v.cells,.ptr)
def EZ(P:Program)(t:TypeId)(l c:AV):Option (Ae×Made):=
 match P.underlying t,l,c with
  | some (.slice e),.int .i64 (.ofNat l),.int .i64 (.ofNat c)=>(CE P e).bind fun by_=>(Ap P e).bind fun n =>
   AH (Nat.beq l c && Nat.ble (by_ * c) 1099511627776 && Nat.ble c 1099511627776) <|
   (Bv P e).bind fun z=>AH (Nat.beq z.cells.length n) (some (Hg e n (P5 z.cells c),.slice c))
  | _,_,_=>none
def M0(P:Program)(t:TypeId):Bool:=match P.underlying t with
 | some (.int _)=>true
 | _=>false
def JR(s:AD)(i o n size:Nat):Option (List AV):=bif Nat.beq n 0 then some []else BX s i o (n * size)
def CU(P:Program)(s:AD)(e:TypeId)(size:Nat):AV→Option (Nat×List AV)
 | .int _ (.ofNat n)=>AH (Nat.ble n 1099511627776 && Nat.blt 0 n) ((Bv P e).bind fun z=>AH (Nat.beq z.cells.length size) (some (n,P5 z.cells n)))
 | .slice none _ _=>some (0,[])
 | .slice (some (i,o)) n _=>(JR s i o n size).bind fun l=>some (n,l)
 | .str l=>AH (Nat.beq size 1) (some (l.length,l.map fun b=>.int .u8 (.ofNat b)))
 | _=>none
def BW(P:Program)(t:TypeId):Bool:=match P.underlying t with
 | some (.slice _) | some .string=>true
 | _=>false
def CS(e:TypeId)(sz:Nat)(c:AI AV)(n:Nat)(par:Option Nat)(base:Bool):Ae:=
 .row { elem:=e,sz,n,c,spare:=true,mode:=.own,par,bytes:=base }
def B6(P:Program)(e:TypeId)(size:Nat):Bool:=match Bv P e with
 | some z=>Nat.beq z.cells.length size
 | none=>false
def Bp(P:Program)(s:AD)(e:TypeId)(size n:Nat)(cells:List AV):Option (AV×AD):=
 AH (B6 P e size) (some (.slice (some (s.next,0)) n none,newObj s (CS e size (AI.fill .leaf 0 cells) cells.length none true)))
def CB(s:AD)(i:Nat)(r:CL)(ends:Bool):AD:=
 bif ends then setObj (A4 s i r) i (.row { r with mode:=.sealed,par:=none })else Bn (A4 s i r) i
def DT(P:Program)(s:AD)(e:TypeId)(size i o len:Nat)(src:Nat×List AV)(r:CL)(old:List AV):Option (AV×AD):=
 AH (C4 r.mode && Nat.beq r.elem e && B6 P e size) <|
  let ends:=Nat.beq (o+len * size) r.n
  let s2:=CB s i r ends
  some (.slice (some (s.next,0)) (len+src.1) none,
   newObj s2 (CS e size (bif Nat.beq o 0 then r.c.fill (len * size) src.2 else AI.fill .leaf 0 (old++src.2)) (old++src.2).length (bif ends then some i else none) (r.bytes && Nat.beq o 0)))
def KG(P:Program)(s:AD)(e:TypeId)(size i o len:Nat)(src:Nat×List AV)(r:CL):Option (AV×AD):=
 AH (Nat.beq size r.sz) <|
 bif Nat.ble (o+(len+src.1) * size) r.n then
  (Bt s i (o+len * size) src.2).bind fun s'=>some (.slice (some (i,o)) (len+src.1) none,s')
 else (BX s i o (len * size)).bind fun old =>
  bif r.spare then DT P s e size i o len src r old else Bp P s e size (len+src.1) (old++src.2)
def Er(P:Program)(s:AD)(e:TypeId)(size i o len c:Nat)(src:Nat×List AV):Option (AV×AD):=
 bif Nat.ble (len+src.1) c then
  (Bt s i (o+len * size) src.2).bind fun s'=>some (.slice (some (i,o)) (len+src.1) (some c),s')
 else (BX s i o (len * size)).bind fun old=>Bp P s e size (len+src.1) (old++src.2)
def appTo(P:Program)(s:AD)(e:TypeId)(size:Nat)(a:Option (Nat×Nat))(len:Nat)(cap:Option Nat)(src:Nat×List AV):Option (AV×AD):=
 match a with
 | none=>bif Nat.beq src.1 0 then some (.slice none 0 (some 0),s)else Bp P s e size src.1 src.2
 | some (i,o)=>match cap with
  | some c=>Er P s e size i o len c src
  | none=>(rowAt s i).bind fun r=>KG P s e size i o len src r
def Aj(P:Program)(s:AD)(argTypes:List TypeId)(args:List AV):Option (AV×AD):=
 match argTypes,args with
 | [st,xt],[.slice a len cap,x]=>match P.underlying st with
  | some (.slice e)=>(Ap P e).bind fun size=>(CE P e).bind fun by_ =>
   AH (!Nat.beq size 0 && (match x with | .int ..=>M0 P xt | _=>BW P xt)) <|
   (CU P s e size x).bind fun src =>
   AH (Aa src.2 && Nat.ble ((len+src.1) * by_) 1099511627776 && Nat.ble (len+src.1) 1099511627776) <|
   appTo P s e size a len cap src
  | _=>none
 | _,_=>none
def IY(P:Program)(s:AD)(argTypes:List TypeId)(args:List AV):Option (AV×AD):=
 match argTypes,args with
 | dt::_,[.slice a dl _,x]=>match P.underlying dt with
  | some (.slice e)=>(Ap P e).bind fun size =>
   (match x with | .slice _ n _=>some n | .str l=>some l.length | _=>none).bind fun sl =>
   let n:=bif Nat.ble sl dl then sl else dl
   (match x with
    | .slice none _ _=>some []
    | .slice (some (i,o)) _ _=>BX s i o (n * size)
    | .str l=>AH (Nat.beq size 1) (some ((l.take n).map fun b=>.int .u8 (.ofNat b)))
    | _=>none).bind fun cells =>
   (match a with
    | none=>some s
    | some (i,o)=>Bt s i o cells).bind fun s'=>some (.int .i64 (.ofNat n),s')
  | _=>none
 | _,_=>none
def N5(r:CL):Ae:=.row { r with n:=0,spare:=true,mode:=.ro,par:=none,bytes:=false,glob:=none }
def Og(P:Program)(s:AD)(t:TypeId)(n:Nat):Option (Nat×Nat)→Option (AV×AD)
 | none=>none
 | some (i,o)=>match P.underlying t with
  | some (.pointer e)=>(rowAt s i).bind fun r=>AH (C4 r.mode && r.bytes && Nat.beq o 0 && Nat.beq r.elem e && Nat.ble n 1099511627776) <| (Ap P e).bind fun z=>AH (Nat.beq z 1) <|
   (BX s i o n).bind fun l=>(BB.bytesOf l).bind fun b=>some (.str b,setObj (A4 s i r) i (N5 r))
  | _=>none
def Te(P:Program)(s:AD)(argTypes:List TypeId)(args:List AV):Option (AV×AD):=
 match argTypes,args with
 | [t,_],[.ptr a,.int .i64 (.ofNat n)]=>match n with
  | 0=>some (.str [],s)
  | n+1=>Og P s t (n+1) a
 | _,_=>none
def So(s:AD):List AV→Option (AV×AD)
 | [x]=>some (x,s)
 | _=>none
def Kq(e:TypeId)(s:AD):List AV→Option (AV×AD)
 | [.int .i64 (.ofNat n)]=>AH (Nat.ble n 1099511627776) (some (.slice (some (s.next,0)) n none,newObj s (CS e 1 .leaf n none true)))
 | _=>none
def N2(s:AD):List AV→Option (AV×AD)
 | [.str a,.str b]=>some (.int .i64 (bif FJ a b then -1 else bif Bu a b then 0 else 1),s)
 | _=>none
def LX(P:Program)(name:String)(rt:Array TypeId):Option (AD→List AV→Option (AV×AD)):=
  bif name == "internal/abi.NoEscape" then some So else
  bif name == "internal/bytealg.abigen_runtime_cmpstring" then some N2 else
  bif name == "internal/bytealg.MakeNoZero" then (match rt.toList with
    | [t]=>match P.underlying t with
      | some (.slice e)=>match Ap P e with
        | some 1=>some (Kq e)
        | _=>none
      | _=>none
    | _=>none)
  else none
def SH(P:Program)(f:FuncId):Option (AD→List AV→Option (AV×AD)):=match P.funcs[f]? with
  | some fn=>match fn.body with
    | some _=>none
    | none => bif fn.origin == "" then LX P fn.name fn.resultTypes else none
  | none=>none
def Mm(P:Program)(s:AD)(argTypes:List TypeId)(args:List AV):Option (AV×AD):=
 match argTypes,args with
 | t::_,[x]=>match P.underlying t,x with
  | some (.slice _),.slice none _ _=>some (A7,s)
  | some (.slice _),.slice _ 0 _=>some (A7,s)
  | some (.slice e),.slice (some (i,o)) n _=>(Bv P e).bind fun z=>(Bt s i o (P5 z.cells n)).bind fun s'=>some (A7,s')
  | _,_=>none
 | _,_=>none
inductive Sh where
 | p1 (f:AV→Option AV)
 | p2 (f:AV→AV→Option AV)
 | p (f:List AV→Option AV)
 | r1 (f:AD→AV→Option AV)
 | r (f:AD→List AV→Option AV)
 | mk (f:List AV→Option (Ae×Made))
 | e (f:AD→List AV→Option (AV×AD))
 | call (f:FuncId)
 | callv
def Sh.isEff:Sh→Bool
 | .e _ | .call _ | .callv=>true
 | _=>false
def Sh.isRead:Sh→Bool
 | .r1 _ | .r _=>true
 | _=>false
def Rn:List AV→Option AV
 | [c,a,b]=>Ro c a b
 | _=>none
def Xs{α:Type}(f:AV→AV→Option α):List AV→Option α
 | [a,b]=>f a b
 | _=>none
def Xt{α:Type}(f:AV→AV→AV→Option α):List AV→Option α
 | [a,b,c]=>f a b c
 | _=>none
def Xu(x:Option AD):Option (AV×AD):=match x with
 | some s=>some (A7,s)
 | none=>none
def Ar(P:Program)(t:TypeId)(lo hi mx:Bool)(s:AD):List AV→Option AV
 | [x]=>match lo,hi,mx with
  | false,false,false=>BZ P s t x none none none
  | _,_,_=>none
 | [x,a]=>match lo,hi,mx with
  | true,false,false=>BZ P s t x (some a) none none
  | false,true,false=>BZ P s t x none (some a) none
  | _,_,_=>none
 | [x,a,b]=>match lo,hi,mx with
  | true,true,false=>BZ P s t x (some a) (some b) none
  | false,true,true=>BZ P s t x none (some a) (some b)
  | _,_,_=>none
 | [x,a,b,c]=>match lo,hi,mx with
  | true,true,true=>BZ P s t x (some a) (some b) (some c)
  | _,_,_=>none
 | _=>none
def zipIdx(is:List Nat)(l:List AV):List (Nat×AV):=is.zip l
def E5:Operand→Bool
 | .tmp _=>true
 | _=>false
def Sw(P:Program)(op:BinOp)(t:TypeId)(x y:Operand):Option Bool:=match op with
 | .eql=>bif E5 x && E5 y && E4 P t then some false else none
 | .neq=>bif E5 x && E5 y && E4 P t then some true else none
 | _=>none
def Ai(P:Program)(o:Op):Option (Sh×List Operand):=
 match o with
 | .move x | .assign x=>some (.p1 some,[x])
 | .pick c a b=>some (.p Rn,[c,a,b])
 | .build t ps=>some (.p (fun l=>AT P t (zipIdx (ps.toList.map (·.1)) l)),ps.toList.map (·.2))
 | .nilCheck x=>some (.p1 AX,[x])
 | .binOp op t x y _=>match Sw P op t x y with
  | some neg=>some (.r (fun s=>Xs (HG P s neg t)),[x,y])
  | none=>some (.p2 (AQ P op t),[x,y])
 | .unOp op _ x=>some (.p1 (Uh P op),[x])
 | .makeFunc fn first captured=>match fn with
  | .func f=>some (.p (fun l=>some (.func f (l.take first.size) (l.drop first.size))),first.toList++captured.toList)
  | _=>none
 | .fieldAddr t x f=>some (.p1 (fun x=>AA P t x f),[x])
 | .field t x f=>some (.p1 (fun x=>Fw P t x f),[x])
 | .indexAddr t x i=>some (.p2 (AK P t),[x,i])
 | .index t x i=>some (.p2 (My P t),[x,i])
 | .extract t i=>some (.p1 (fun x=>Xv x i),[t])
 | .load t a=>some (.r1 (fun s a=>AG P s t a),[a])
 | .lookup t m k ok=>AH (Fm P t) (some (.r (fun s=>Xs (fun m k=>Bz P s t m k ok)),[m,k]))
 | .convert src dst x=>some (.r1 (fun s x=>BB P s src dst x),[x])
 | .slice t x lo hi mx=>some (.r (Ar P t lo.isSome hi.isSome mx.isSome),[x]++lo.toList++hi.toList++mx.toList)
 | .alloc e=>some (.mk (fun l=>match l with | []=>Bl P e | _=>none),[])
 | .box e x=>some (.mk (fun l=>match l with | [v]=>Cx e v | _=>none),[x])
 | .buildSlice t len ps=>some (.mk (fun l=>(AY P t len (zipIdx (ps.toList.map (·.1)) l)).bind fun r=>some (r,.slice len)),ps.toList.map (·.2))
 | .makeMap t none=>AH (Fm P t) (some (.mk (fun l=>match l with | []=>(DN P t).bind fun kt=>some (.map kt [],.map) | _=>none),[]))
 | .makeSlice t l c=>some (.mk (Xs (EZ P t)),[l,c])
 | .store t a x=>some (.e (fun s=>Xs (fun a x=>Xu (At P s t a x))),[a,x])
 | .mapUpdate t m k x | .insert t m k x=>AH (Fm P t) (some (.e (fun s=>Xt (fun m k x=>Xu (B1 P s t m k x))),[m,k,x]))
 | .call { callee,args,argTypes }=>match callee with
  | .value (.func f)=>match SH P f with
   | some e=>some (.e e,args.toList)
   | none=>some (.call f,args.toList)
  | .value x=>some (.callv,x::args.toList)
  | .invoke ..=>none
  | .builtin b=>match b with
   | .len=>match argTypes[0]? with
    | some t=>some (.r (fun s l=>match l with | [x]=>BN P s t x | _=>none),args.toList)
    | none=>none
   | .cap=>match argTypes[0]? with
    | some t=>some (.r (fun s l=>match l with | [x]=>Oy P s t x | _=>none),args.toList)
    | none=>none
   | .min=>some (.p (fun l=>match l with | v::l=>CF false v l | []=>none),args.toList)
   | .max=>some (.p (fun l=>match l with | v::l=>CF true v l | []=>none),args.toList)
   | .append=>some (.e (fun s l=>Aj P s argTypes.toList l),args.toList)
   | .copy=>some (.e (fun s l=>IY P s argTypes.toList l),args.toList)
   | .unsafeSliceData=>some (.p (fun l=>match l with | [x]=>SC x | _=>none),args.toList)
   | .unsafeString=>some (.e (fun s l=>Te P s argTypes.toList l),args.toList)
   | .clear=>some (.e (fun s l=>Mm P s argTypes.toList l),args.toList)
   | .delete=>match argTypes[0]? with
    | some t=>AH (Fm P t) (some (.e (fun s=>Xs (fun m k=>Xu (H6 P s t m k))),args.toList))
    | none=>none
   | _=>none
 | _=>none
def bA(t:Nat):Nat:=Nat.shiftLeft 1 t
def FB:List Operand→Nat
 | []=>0
 | .tmp t::l=>Nat.lor (bA t) (FB l)
 | _::l=>FB l
def Ia(P:Program):List Oper→Nat→Nat→Nat
 | [],_,e=>e
 | o::l,wr,e =>
  let rd:=match Ai P o.op with
   | some (_,xs)=>FB xs
   | none=>0
  Ia P l (match o.dst with | some d=>Nat.lor wr (bA d) | none=>wr) (Nat.lor e (Nat.sub rd (Nat.land rd wr)))
def DG(P:Program):Code→Nat
 | .region _ ops _=>Ia P ops.toList 0 0
 | .seq a b=>Nat.lor (DG P a) (DG P b)
 | .cond c a b=>Nat.lor (FB [c]) (Nat.lor (DG P a) (DG P b))
 | .block _ b | .loop b | .scope b=>DG P b
 | .rangeFunc f ps a b=>Nat.lor (FB [f]) (Nat.lor (ps.toList.foldl (fun m t=>Nat.lor m (bA t)) 0) (Nat.lor (DG P a) (DG P b)))
 | _=>0
def F6:List ResultVar→Nat
 | []=>0
 | .tmp t::l | .cell t _::l=>Nat.lor (bA t) (F6 l)
def D5(m:Nat):Nat→Nat→List Nat
 | 0,_=>[]
 | n+1,k=>bif m.testBit k then k::D5 m n (k+1)else D5 m n (k+1)
def CD(fn:Func):Nat:=fn.params.size+fn.nfree
def Ao(P:Program)(fn:Func):List Tmp:=
 List.range (CD fn)++match fn.body with
 | none=>[]
 | some c=>D5 (Nat.lor (DG P c) (F6 fn.results.toList)) (fn.ntmps - CD fn) (CD fn)
def BE:List Tmp→Tmp→Option Nat
 | [],_=>none
 | a::l,t=>bif Nat.beq a t then some 0 else (BE l t).bind fun j=>some (j+1)
def LW(P:Program)(o:Oper):Bool:=match Ai P o.op with
 | some (s,_)=>s.isEff
 | none=>true
def OS(b:Array Nat)(done:Nat)(i:Nat):Bool:=Nat.beq (Nat.land (b.getD i 0) done) (b.getD i 0)
def NE(P:Program)(ops:Array Oper)(b:Array Nat):Nat→Nat→List Nat→List Nat→List Nat
 | 0,_,_,acc=>acc.reverse
 | f+1,done,todo,acc =>
  match todo.find? fun i=>OS b done i && !LW P (ops.getD i default)with
  | some i=>NE P ops b f (done+2 ^ i) (todo.filter fun j=>!Nat.beq j i) (i::acc)
  | none=>match todo.find? fun i=>OS b done i with
   | some i=>NE P ops b f (done+2 ^ i) (todo.filter fun j=>!Nat.beq j i) (i::acc)
   | none=>acc.reverse
def UP(P:Program)(ops:Array Oper):List Nat:=NE P ops (Region.before ops) ops.size 0 (List.range ops.size) []
def Eb(P:Program)(o:Oper):List Tmp:=o.dst.toList++((match Ai P o.op with
 | some (_,xs)=>xs
 | none=>[]).filterMap fun x:Operand=>match x with
  | .tmp t=>some t
  | _=>none)
def OE(o:Oper):List Nat:=match o.guard with
 | some (j,_)=>[j]
 | none=>[]
def K2(P:Program)(ops:Array Oper)(b:Array Nat)(before:List Nat)(i:Nat):Bool:=
 let o:=ops.getD i default
 let anc:=b.getD i 0
 Nat.blt i ops.size && !before.contains i &&
 (List.range ops.size).all (fun j=>!anc.testBit j || before.contains j) &&
 o.after.all (fun e=>!Region.binds .any e || before.contains e.on) &&
 before.all (fun j=>!LW P (ops.getD j default) || anc.testBit j) &&
 (OE o).all (fun j=>anc.testBit j) &&
 before.all (fun j=>let p:=ops.getD j default
  (match o.dst with
   | none=>true
   | some d=>p.dst != some d && (!(Eb P p).contains d || anc.testBit j)) &&
  (match p.dst with
   | none=>true
   | some d=>!(Eb P o).contains d || anc.testBit j))
def Df(P:Program)(ops:Array Oper)(b:Array Nat):List Nat→List Nat→Bool
 | before,[]=>Nat.beq before.length ops.size
 | before,i::l=>K2 P ops b before i && Df P ops b (before++[i]) l
inductive Gu where
 | push | set (j:Nat)
structure Ek where
 guard:Option (CX×Bool)
 sh:Sh
 xs:List CX
 ans:CX
structure AC where
 guard:Option (CX×Bool)
 sh:Sh
 xs:List CX
 dst:Gu
 again:List Ek
structure Tl where
 map:List (Tmp×CX)
 cnt:Nat
def C5:List (Tmp×CX)→Tmp→Option CX
 | [],_=>none
 | (a,x)::l,t=>bif Nat.beq a t then some x else C5 l t
def Bh(cnt:Nat):CX→CX
 | .loc p=>.loc (cnt - 1 - p)
 | x=>x
def C7(vars:List Tmp)(c:Tl)(t:Tmp):Option CX:=
 match C5 c.map t with
 | some x=>some x
 | none=>(BE vars t).bind fun j=>some (.var j)
def Dc(vars:List Tmp)(c:Tl):Operand→Option CX
 | .tmp t=>C7 vars c t
 | .const v=>(ofValue v).bind fun a=>some (.const a)
 | .global g=>some (.const (.gptr g 0))
 | .func f=>some (.const (.func f [] []))
def F4(vars:List Tmp)(c:Tl):List Operand→Option (List CX)
 | []=>some []
 | x::l=>(Dc vars c x).bind fun a=>(F4 vars c l).bind fun r=>some (a::r)
def isVar(j:Nat):CX→Bool
 | .var i=>Nat.beq i j
 | _=>false
def Ga(j:Nat):List (Tmp×CX)→Bool
 | []=>true
 | (_,x)::l=>!isVar j x && Ga j l
def H1(vars:List Tmp)(later:List (Option Tmp))(o:Oper)(x:CX):Bool:=
 (match o.op with | .move _=>true | _=>false) && o.guard.isNone &&
 (match o.dst with | some d=>(BE vars d).isNone | none=>false) &&
 (match x with
  | .var j=>!(later.any fun d=>match d with
   | some t=>match BE vars t with
    | some i=>Nat.beq i j
    | none=>false
   | none=>false)
  | _=>true)
def Fc(cnt:Nat):Option (CX×Bool)→Option (CX×Bool)
 | none=>none
 | some (x,b)=>some (Bh cnt x,b)
def Gh(cnt:Nat)(r:Ek):Ek:={ guard:=Fc cnt r.guard,sh:=r.sh,xs:=r.xs.map (Bh cnt),ans:=Bh cnt r.ans }
def Kw(j:Nat)(r:Ek):Bool:=(match r.guard with | none=>true | some (x,_)=>!isVar j x) && r.xs.all fun x=>!isVar j x
def DF(P:Program)(nt:Nat)(vars:List Tmp)(ops:Array Oper)(b:Array Nat)(draw:Bool):List Nat→Tl→List (Nat×Ek)→Option (List AC)
  | [],_,_=>some []
  | i::l,c,rs=>(ops[i]?).bind fun o=>(Ai P o.op).bind fun sh=>(F4 vars c sh.2).bind fun xs =>
    match (match xs with | [x]=>bif H1 vars (l.map fun j=>(ops.getD j default).dst) o x then some x else none | _=>none),o.dst with
    | some x,some d=>AH (Nat.blt d nt) (DF P nt vars ops b draw l { c with map:=(d,x)::c.map } rs)
    | _,_ =>
      (match o.guard with
        | none=>some none
        | some (j,want)=>(ops[j]?).bind fun p=>p.dst.bind fun d=>(C7 vars c d).bind fun x=>some (some (x,want))).bind fun g =>
      (match o.dst with
        | none=>some (Gu.push,{ c with cnt:=c.cnt+1 })
        | some d=>AH (Nat.blt d nt) <| match BE vars d with
          | some j=>AH (Ga j c.map && rs.all fun r=>Kw j r.2) (some (Gu.set j,c))
          | none=>some (Gu.push,{ map:=(d,.loc c.cnt)::c.map,cnt:=c.cnt+1 })).bind fun q =>
      let ag:=match draw,sh.1.isEff with
        | true,true=>rs.filter fun(r:Nat×Ek)=>!(b.getD i 0).testBit r.1
        | _,_=>[]
      let rd:=draw && sh.1.isRead
      AH (!rd || (match q.1 with | .push=>true | .set _=>false)) <|
      (DF P nt vars ops b draw l q.2 (bif rd then (i,{ guard:=g,sh:=sh.1,xs,ans:=.loc c.cnt })::rs else rs)).bind fun r =>
        some ({ guard:=Fc c.cnt g,sh:=sh.1,xs:=xs.map (Bh c.cnt),dst:=q.1,again:=ag.map fun(r:Nat×Ek)=>Gh q.2.cnt r.2 }::r)
inductive AW where
 | skip
 | ops (l:List AC)
 | seq (a b:AW)
 | cond (x:CX) (a b:AW)
 | block (id:Nat) (c:AW)
 | loop (c:AW)
 | rangeFunc (fn:FuncId) (f:CX) (params:Array Tmp) (assign body:Code)
 | exit (id:Nat)
 | ret
 | never
def YC:Option (List AC)→AW
 | some l=>.ops l
 | none=>.never
def Ak(P:Program)(fn:FuncId)(nt:Nat)(vars:List Tmp):Code→AW
 | .skip | .label _=>.skip
 | .ret=>.ret
 | .exit id=>.exit id
 | .goto _ | .refuse _=>.never
 | .region _ ops draw=>match draw with
  | false=>YC (DF P nt vars ops #[] false (List.range ops.size) ⟨[],0⟩ [])
  | true=>YC (AH (Df P ops (Region.before ops) [] (UP P ops)) (DF P nt vars ops (Region.before ops) true (UP P ops) ⟨[],0⟩ []))
 | .seq a b=>.seq (Ak P fn nt vars a) (Ak P fn nt vars b)
 | .cond c a b=>match Dc vars ⟨[],0⟩ c with
  | some z=>.cond z (Ak P fn nt vars a) (Ak P fn nt vars b)
  | none=>.never
 | .block id c=>.block id (Ak P fn nt vars c)
 | .loop c=>.loop (Ak P fn nt vars c)
 | .scope c=>Ak P fn nt vars c
 | .rangeFunc f ps a b=>match Dc vars ⟨[],0⟩ f with
  | some x=>.rangeFunc fn x ps a b
  | none=>.never
structure Al where
 na:Nat
 nv:Nat
 body:AW
 results:List (CX×Option TypeId)
def Bq(vars:List Tmp):List ResultVar→Option (List (CX×Option TypeId))
 | []=>some []
 | .tmp t::l=>(BE vars t).bind fun j=>(Bq vars l).bind fun r=>some ((.var j,none)::r)
 | .cell t ty::l=>(BE vars t).bind fun j=>(Bq vars l).bind fun r=>some ((.var j,some ty)::r)
def AN(P:Program)(f:FuncId):Option Al:=(P.funcs[f]?).bind fun fn=>fn.body.bind fun c =>
 AH (Nat.ble (CD fn) fn.ntmps) <|
 let vars:=Ao P fn
 (Bq vars fn.results.toList).bind fun r =>
  some { na:=CD fn,nv:=vars.length,body:=Ak P f fn.ntmps vars c,results:=r }
def Iu (l:List AV):Nat→AV:=
 List.rec (fun _=>A7) (fun a _ ih i=>Nat.rec a (fun i _=>ih i) i) l
def upd (v:AV) (l:List AV):Nat→List AV:=
 List.rec (fun _=>[]) (fun a l ih i=>Nat.rec (v::l) (fun i _=>a::ih i) i) l
def CH (loc var:List AV) (x:CX):AV:=
 match x with
 | .loc i=>Iu loc i
 | .var j=>Iu var j
 | .const v=>v
def Cd (loc var:List AV) (l:List CX):List AV:=
 List.rec [] (fun x _ ih=>CH loc var x::ih) l
inductive LA where
 | normal | exit (id:Nat) | ret
structure Aw where
 exit:LA
 var:List AV
 marks:List Nat
 st:AD
def K9:AV→AV→Bool
 | .bool a,.bool b=>a == b
 | .int k a,.int k' b=>Bg k k' && N9 a b
 | .str a,.str b=>Bu a b
 | .ptr none,.ptr none=>true
 | .gptr a b,.gptr c d=>Nat.beq a c && Nat.beq b d
 | .ptr (some (i,o)),.ptr (some (j,p))=>Nat.beq i j && Nat.beq o p
 | .slice none n (some c),.slice none n' (some c')=>Nat.beq n n' && Nat.beq c c'
 | .slice none n none,.slice none n' none=>Nat.beq n n'
 | .slice (some (i,o)) n none,.slice (some (j,p)) n' none=>Nat.beq i j && Nat.beq o p && Nat.beq n n'
 | .slice (some (i,o)) n (some c),.slice (some (j,p)) n' (some c')=>Nat.beq i j && Nat.beq o p && Nat.beq n n' && Nat.beq c c'
 | .map none,.map none=>true
 | .map (some i),.map (some j)=>Nat.beq i j
 | .func f a c,.func g b d=>Nat.beq f g && eqAs a b && eqAs c d
 | .nilFunc,.nilFunc=>true
 | .nilIface,.nilIface=>true
 | .yield i,.yield j=>Nat.beq i j
 | .agg a,.agg b=>eqAs a b
 | .tuple a,.tuple b=>eqAs a b
 | _,_=>false
where
 eqAs:List AV→List AV→Bool
 | [],[]=>true
 | a::x,b::y=>K9 a b && eqAs x y
 | _,_=>false
abbrev P7:=FuncId→List AV→AD→Option (AV×AD)
structure Bb where
 P:Program
 nat:P7
structure Ca where
 code:Option Nat→AW→List AV→List Nat→AD→Option Aw
 call:FuncId→List AV→AD→Option (AV×AD)
 round:Nat→List AV→AD→Option (AV×AD)
def Fg(F:Ca)(f:AV)(args:List AV)(s:AD):Option (AV×AD):=
 match f with
 | .func f first cap=>F.call f (first++(args++cap)) s
 | .yield l=>F.round l args s
 | _=>none
def CZ(s:AD)(x:Option AV):Option (AV×AD):=match x with
 | some v=>some (v,s)
 | none=>none
def one{α:Type}(f:AV→Option α):List AV→Option α
 | [a]=>f a
 | _=>none
def Dg(sh:Sh)(xs:List AV)(s:AD):Option AV:=
 match sh with
 | .r1 f=>one (f s) xs
 | .r f=>f s xs
 | _=>none
def Lq(s:AD)(r:Option (Ae×Made)):Option (AV×AD):=match r with
 | some p=>some (p.2.val s.next,newObj s p.1)
 | none=>none
def F0 {α:Type} (f:CX→Option α) (xs:List CX):Option α:=List.rec none (fun x _ _=>f x) xs
def SU {α:Type} (f:CX→CX→Option α) (xs:List CX):Option α:=F0 (fun x=>F0 (f x) xs.tail) xs
def bN (f:AV→Option AV) (xs:List CX) (loc var:List AV) (s:AD):Option (AV×AD):=F0 (fun x=>CZ s (f (CH loc var x))) xs
def bO (f:AV→AV→Option AV) (xs:List CX) (loc var:List AV) (s:AD):Option (AV×AD):=SU (fun x y=>CZ s (f (CH loc var x) (CH loc var y))) xs
def bP (f:AD→AV→Option AV) (xs:List CX) (loc var:List AV) (s:AD):Option (AV×AD):=F0 (fun x=>CZ s (f s (CH loc var x))) xs
def shV (F:Ca) (xs:List CX) (loc var:List AV) (s:AD):Option (AV×AD):=F0 (fun x=>Fg F (CH loc var x) (Cd loc var xs.tail) s) xs
def ZU (F:Ca) (sh:Sh) (xs:List CX) (loc var:List AV) (s:AD):Option (AV×AD):=
 match sh with
 | .p1 f=>bN f xs loc var s
 | .p2 f=>bO f xs loc var s
 | .p f=>CZ s (f (Cd loc var xs))
 | .r1 f=>bP f xs loc var s
 | .r f=>CZ s (f s (Cd loc var xs))
 | .mk f=>Lq s (f (Cd loc var xs))
 | .e f=>f s (Cd loc var xs)
 | .call f=>F.call f (Cd loc var xs) s
 | .callv=>shV F xs loc var s
def Zf(want:Bool):AV→Bool
 | .bool b=>b == want
 | _=>false
def A5 (loc var:List AV) (g:Option (CX×Bool)):Bool:=
 match g with
 | none=>true
 | some p=>Zf p.2 (CH loc var p.1)
def YE(x:Option AV)(v:AV):Bool:=match x with
 | some u=>K9 u v
 | none=>false
def Ep (s:AD) (loc var:List AV) (r:Ek):Bool:=
 !A5 loc var r.guard || YE (Dg r.sh (Cd loc var r.xs) s) (CH loc var r.ans)
def Cv (s:AD) (loc var:List AV) (l:List Ek):Bool:=
 List.rec true (fun r _ ih=>Ep s loc var r && ih) l
abbrev P6:=List AV→List AV→AD→Option (List AV×AD)
def By (ag:List Ek) (d:Gu) (k:P6) (loc var:List AV) (v:AV) (s:AD):Option (List AV×AD):=
 match d with
 | .push=>bif Cv s (v::loc) var ag then k (v::loc) var s else none
 | .set j=>bif Cv s loc (upd v var j) ag then k loc (upd v var j) s else none
def IA (it:AC) (k:P6) (loc var:List AV) (r:Option (AV×AD)):Option (List AV×AD):=
 match r with
 | none=>none
 | some p=>By it.again it.dst k loc var p.1 p.2
def Im (F:Ca) (it:AC) (k:P6) (loc var:List AV) (s:AD):Option (List AV×AD):=
 match A5 loc var it.guard with
 | true=>IA it k loc var (ZU F it.sh it.xs loc var s)
 | false=>By [] it.dst k loc var A7 s
def Cz (F:Ca) (l:List AC):P6:=
 List.rec (fun _ var s=>some (var,s)) (fun it _ ih loc var s=>Im F it ih loc var s) l
def Ql(l:List AV):Nat→List AV
 | 0=>[]
 | n+1=>match l with
  | []=>A7::Ql [] n
  | a::l=>a::Ql l n
def BD (P:Program) (s:AD) (var:List AV):List (CX×Option TypeId)→Option (List AV)
 | []=>some []
 | (x,none)::l=>(BD P s var l).bind fun r=>some (CH [] var x::r)
 | (x,some t)::l=>(AG P s t (CH [] var x)).bind fun v=>(BD P s var l).bind fun r=>some (v::r)
def A3:List AV→AV
 | [v]=>v
 | l=>.tuple l
def B5(s:AD):List Nat→Option AD
 | []=>some s
 | i::l=>match s.heap.get i with
  | some .mark=>B5 (Bn s i) l
  | _=>none
def DV:LA→Option Code
 | .normal=>none
 | .ret=>some .ret
 | .exit id=>some (.exit id)
def FX (vars:List Tmp) (var:List AV):List Tmp→List AV→Option (List AV)
 | [],[]=>some var
 | t::ts,v::vs=>(BE vars t).bind fun j=>FX vars (upd v var j) ts vs
 | _,_=>none
def F3(s:AD)(l:Nat):Option ID:=match s.heap.get l with
 | some (.loop r)=>some r
 | _=>none
def Mn(P:Program)(f:FuncId)(c:Code):Option AW:=(P.funcs[f]?).bind fun fn=>some (Ak P f fn.ntmps (Ao P fn) c)
def GE(P:Program)(f:FuncId):List Tmp:=match P.funcs[f]? with
 | some fn=>Ao P fn
 | none=>[]
def Tx(marks:List Nat)(r:Option (List AV×AD)):Option Aw:=match r with
 | some p=>some ⟨.normal,p.1,marks,p.2⟩
 | none=>none
def Ff(F:Ca)(rnd:Option Nat)(b:AW)(r:Aw):Option Aw:=match r.exit with
 | .normal=>F.code rnd b r.var r.marks r.st
 | _=>some r
def GP(F:Ca)(rnd:Option Nat)(b:AW)(r:Option Aw):Option Aw:=match r with
 | some r=>Ff F rnd b r
 | none=>none
def LT(F:Ca)(rnd:Option Nat)(a b:AW)(var:List AV)(marks:List Nat)(s:AD)(v:AV):Option Aw:=match v with
 | .bool t=>match t with
  | true=>F.code rnd a var marks s
  | false=>F.code rnd b var marks s
 | _=>none
def H4(id:Nat)(r:Aw):Option Aw:=match r.exit with
 | .exit id'=>bif Nat.beq id' id then some ⟨.normal,r.var,r.marks,r.st⟩else some r
 | _=>some r
def IT(id:Nat)(r:Option Aw):Option Aw:=match r with
 | some r=>H4 id r
 | none=>none
def IU(var:List AV)(marks:List Nat)(s:AD)(c:Option Code):Option Aw:=match c with
 | none=>some ⟨.normal,var,marks,s⟩
 | some .ret=>some ⟨.ret,var,marks,s⟩
 | some (.exit id)=>some ⟨.exit id,var,marks,s⟩
 | some _=>none
def Sb:LoopState→Bool
 | .busy=>true
 | _=>false
def Ki:LoopState→Bool
 | .ready=>true
 | _=>false
def G4(var:List AV)(marks:List Nat)(l:Nat)(q:Option (AV×AD)):Option Aw:=
 q.bind fun q=>(F3 q.2 l).bind fun r=>bif Sb r.state then none else
  IU var marks (setObj q.2 l (.loop { r with state:=.exhausted })) r.pending
def EO(F:Ca)(var:List AV)(f:AV)(params:Array Tmp)(assign body:Code)(fn:FuncId)(dfr:Nat)(marks:List Nat)(s:AD):Option Aw:=
 G4 var marks s.next (Fg { F with round:=fun _ _ _=>none } f [.yield s.next] (newObj s (.loop { state:=.ready,pending:=none,fn,var,params,assign,body,dfr })))
def KY(F:Ca)(rnd:Option Nat)(fn:FuncId)(f:AV)(params:Array Tmp)(assign body:Code)(var:List AV)(marks:List Nat)(s:AD):Option Aw:=
 match rnd with
 | some l=>(F3 s l).bind fun r=>EO F var f params assign body fn r.dfr marks s
 | none=>EO F var f params assign body fn s.next (s.next::marks) (newObj s .mark)
def CJ (F:Ca) (rnd:Option Nat) (c:AW) (var:List AV) (marks:List Nat) (s:AD):Option Aw:=
 match c with
 | .skip=>some ⟨.normal,var,marks,s⟩
 | .ret=>some ⟨.ret,var,marks,s⟩
 | .exit id=>some ⟨.exit id,var,marks,s⟩
 | .never=>none
 | .ops l=>Tx marks (Cz F l [] var s)
 | .seq a b=>GP F rnd b (F.code rnd a var marks s)
 | .cond x a b=>LT F rnd a b var marks s (CH [] var x)
 | .block id body=>IT id (F.code rnd body var marks s)
 | .loop body=>GP F rnd (.loop body) (F.code rnd body var marks s)
 | .rangeFunc fn f params assign body=>KY F rnd fn (CH [] var f) params assign body var marks s
def OI:LA→Bool
 | .normal | .ret=>true
 | .exit _=>false
def H5 (P:Program) (cf:Al) (r:Option Aw):Option (AV×AD):=
 r.bind fun r=>bif OI r.exit then (B5 r.st r.marks).bind fun s=>(BD P s r.var cf.results).bind fun l=>some (A3 l,s)else none
def Eu (P:Program) (F:Ca) (args:List AV) (s:AD) (cf:Option Al):Option (AV×AD):=
 cf.bind fun cf=>bif Nat.beq args.length cf.na then H5 P cf (F.code none cf.body (Ql args cf.nv) [] s)else none
def Fs (E:Bb) (F:Ca) (f:FuncId) (args:List AV) (s:AD):Option (AV×AD):=
 match E.nat f args s with
 | some p=>some p
 | none=>Eu E.P F args s (AN E.P f)
def Il:LA→Bool
 | .normal=>true
 | _=>false
def Gl:Option Code→LoopState
 | none=>.ready
 | some _=>.done
def I5(l:Nat)(q:Option Aw):Option (AV×AD):=q.bind fun q=>(F3 q.st l).bind fun r =>
 some (.bool (DV q.exit).isNone,setObj q.st l (.loop { r with state:=Gl (DV q.exit),pending:=DV q.exit }))
def HL(F:Ca)(l:Nat)(cb:AW)(q:Option Aw):Option (AV×AD):=q.bind fun q=>bif Il q.exit then
  (F3 q.st l).bind fun r=>bif Ki r.state then I5 l (F.code (some l) cb q.var q.marks (setObj q.st l (.loop { r with state:=.busy })))else none
 else none
def J9 (E:Bb) (F:Ca) (l:Nat) (args:List AV) (s:AD):Option (AV×AD):=
 (F3 s l).bind fun r=>(FX (GE E.P r.fn) r.var r.params.toList args).bind fun var =>
  (Mn E.P r.fn r.assign).bind fun ca=>(Mn E.P r.fn r.body).bind fun cb=>HL F l cb (F.code (some l) ca var [] s)
def ai:Ca:=⟨fun _ _ _ _ _=>none,fun _ _ _=>none,fun _ _ _=>none⟩
def ah (E:Bb) (F:Ca):Ca:=⟨CJ F,Fs E F,J9 E F⟩
def C1 (E:Bb) (n:Nat):Ca:=Nat.rec ai (fun _ F=>ah E F) n
structure RB where
 b:Nat
 off:Nat
 N:Nat
 sz:Nat
abbrev Au:=Nat→Option RB
mutual
inductive AL (ρ:Au):AV→Value→Prop
 | bool (b:Bool):AL ρ (.bool b) (.bool b)
 | int (k:IntKind) (n:Int):AL ρ (.int k n) (.int k n)
 | str {l:List Nat} {s:ByteArray} (h:s.data.toList.map (fun(b:UInt8)=>b.toNat)=l):AL ρ (.str l) (.string s)
 | ptrNil:AL ρ (.ptr none) (.pointer none)
 | ptr {i o:Nat} {rb:RB} (h:ρ i=some rb):AL ρ (.ptr (some (i,o))) (.pointer (some ⟨rb.b,rb.off+o,none⟩))
 | gptr (g o:Nat):AL ρ (.gptr g o) (.pointer (some ⟨g,o,none⟩))
 | sliceNil:AL ρ (.slice none 0 (some 0)) (.slice none 0 0)
 | slice {i o len c:Nat} {rb:RB} (h:ρ i=some rb) (hl:len≤c):AL ρ (.slice (some (i,o)) len (some c)) (.slice (some ⟨rb.b,rb.off+o,none⟩) len c)
 | sliceOpen {i o len c:Nat} {rb:RB} (h:ρ i=some rb) (hs:0<rb.sz) (hl:len≤c) (h1:o+c * rb.sz≤rb.N) (h2:rb.N<o+(c+1) * rb.sz):
   AL ρ (.slice (some (i,o)) len none) (.slice (some ⟨rb.b,rb.off+o,none⟩) len c)
 | sliceEnd {i o:Nat} {rb:RB} {a:Addr} (h:ρ i=some rb) (hs:0<rb.sz) (h1:o≤rb.N) (h2:rb.N<o+rb.sz):
   AL ρ (.slice (some (i,o)) 0 none) (.slice (some a) 0 0)
 | mapNil:AL ρ (.map none) (.map none)
 | map {i:Nat} {rb:RB} (h:ρ i=some rb):AL ρ (.map (some i)) (.map (some rb.b))
 | func {f:FuncId} {a c:List AV} {a' c':Array Value} (ha:AJ ρ a a'.toList) (hc:AJ ρ c c'.toList):AL ρ (.func f a c) (.func (.func f) a' c')
 | yield {i:Nat} {rb:RB} (h:ρ i=some rb):AL ρ (.yield i) (.func (.yield rb.b) #[] #[])
 | nilFunc:AL ρ .nilFunc .nilFunc
 | nilIface:AL ρ .nilIface .nilIface
 | iface {t:TypeId} {v:AV} {v':Value} (h:AL ρ v v'):AL ρ (.iface t v) (.iface t v')
 | agg {cs:List AV} {cs':Array Value} (h:AJ ρ cs cs'.toList):AL ρ (.agg cs) (.agg cs')
 | tuple {cs:List AV} {cs':Array Value} (h:AJ ρ cs cs'.toList):AL ρ (.tuple cs) (.tuple cs')
inductive AJ (ρ:Au):List AV→List Value→Prop
 | nil:AJ ρ [] []
 | cons {v:AV} {v':Value} {l:List AV} {l':List Value} (h:AL ρ v v') (hs:AJ ρ l l'):AJ ρ (v::l) (v'::l')
end
def Au.le(ρ σ:Au):Prop:=∀i rb,ρ i=some rb→σ i=some rb
theorem Au.le_refl(ρ:Au):ρ.le ρ:=fun _ _ h=>h
theorem Au.le_trans{ρ σ τ:Au}(h:ρ.le σ)(k:σ.le τ):ρ.le τ:=fun i rb e=>k i rb (h i rb e)
mutual
theorem AL.mono{ρ σ:Au}(le:ρ.le σ){v:AV}{v':Value}(h:AL ρ v v'):AL σ v v':=by
 cases h with
 | bool b=>exact .bool b
 | int k n=>exact .int k n
 | str h=>exact .str h
 | ptrNil=>exact .ptrNil
 | ptr h=>exact .ptr (le _ _ h)
 | gptr g o=>exact .gptr g o
 | sliceNil=>exact .sliceNil
 | slice h hl=>exact .slice (le _ _ h) hl
 | sliceOpen h hs hl h1 h2=>exact .sliceOpen (le _ _ h) hs hl h1 h2
 | sliceEnd h hs h1 h2=>exact .sliceEnd (le _ _ h) hs h1 h2
 | mapNil=>exact .mapNil
 | map h=>exact .map (le _ _ h)
 | func ha hc=>exact .func (AJ.mono le ha) (AJ.mono le hc)
 | yield h=>exact .yield (le _ _ h)
 | nilFunc=>exact .nilFunc
 | nilIface=>exact .nilIface
 | iface h=>exact .iface (AL.mono le h)
 | agg h=>exact .agg (AJ.mono le h)
 | tuple h=>exact .tuple (AJ.mono le h)
theorem AJ.mono{ρ σ:Au}(le:ρ.le σ){v:List AV}{v':List Value}(h:AJ ρ v v'):AJ σ v v':=by
 cases h with
 | nil=>exact .nil
 | cons h hs=>exact .cons (AL.mono le h) (AJ.mono le hs)
end
section lists
variable{ρ:Au}
theorem AJ.length{l:List AV}{l':List Value}(h:AJ ρ l l'):l.length=l'.length:=by
 induction l generalizing l' with
 | nil=>cases h;rfl
 | cons a l ih=>cases h with | cons h hs=>simp[ih hs]
theorem AJ.get{l:List AV}{l':List Value}(h:AJ ρ l l'){k:Nat}{v:AV}(hk:l[k]? = some v):∃v',l'[k]? = some v'∧AL ρ v v':=by
  induction l generalizing l' k with
  | nil=>simp at hk
  | cons a l ih =>
    cases h with
    | cons h hs =>
      cases k with
      | zero=>simp at hk;subst hk;exact⟨_,rfl,h⟩
      | succ k=>simp at hk;obtain⟨v',h1,h2⟩:=ih hs hk;exact⟨v',by simpa using h1,h2⟩
theorem AJ.of_get{l:List AV}{l':List Value}(hl:l.length=l'.length)(h:∀ (k:Nat)(v:AV)(v':Value),l[k]? = some v→l'[k]? = some v'→AL ρ v v'):AJ ρ l l':=by
  induction l generalizing l' with
  | nil=>cases l' with | nil=>exact .nil | cons=>simp at hl
  | cons a l ih =>
    cases l' with
    | nil=>simp at hl
    | cons a' l'=>exact .cons (h 0 a a' rfl rfl) (ih (by simpa using hl) fun k v v' h1 h2=>h (k+1) v v' (by simpa using h1) (by simpa using h2))
theorem AJ.append{l m:List AV}{l' m':List Value}(h:AJ ρ l l')(k:AJ ρ m m'):AJ ρ (l++m) (l'++m'):=by
 induction l generalizing l' with
 | nil=>cases h;exact k
 | cons a l ih=>cases h with | cons h hs=>exact .cons h (ih hs)
theorem AJ.take{l:List AV}{l':List Value}(h:AJ ρ l l')(n:Nat):AJ ρ (l.take n) (l'.take n):=by
  induction l generalizing l' n with
  | nil=>cases h;simp;exact .nil
  | cons a l ih =>
    cases h with
    | cons h hs=>cases n with
      | zero=>exact .nil
      | succ n=>exact .cons h (ih hs n)
theorem AJ.drop{l:List AV}{l':List Value}(h:AJ ρ l l')(n:Nat):AJ ρ (l.drop n) (l'.drop n):=by
  induction l generalizing l' n with
  | nil=>cases h;simp;exact .nil
  | cons a l ih =>
    cases h with
    | cons h hs=>cases n with
      | zero=>exact .cons h hs
      | succ n=>exact ih hs n
theorem AL.cells{v:AV}{v':Value}(h:AL ρ v v'):AJ ρ v.cells v'.cells.toList:=by
 cases h with
 | agg h=>exact h
 | bool b=>exact .cons (.bool b) .nil
 | int k n=>exact .cons (.int k n) .nil
 | str h=>exact .cons (.str h) .nil
 | ptrNil=>exact .cons .ptrNil .nil
 | ptr h=>exact .cons (.ptr h) .nil
 | gptr g o=>exact .cons (.gptr g o) .nil
 | sliceNil=>exact .cons .sliceNil .nil
 | slice h hl=>exact .cons (.slice h hl) .nil
 | sliceOpen h hs hl h1 h2=>exact .cons (.sliceOpen h hs hl h1 h2) .nil
 | sliceEnd h hs h1 h2=>exact .cons (.sliceEnd h hs h1 h2) .nil
 | mapNil=>exact .cons .mapNil .nil
 | map h=>exact .cons (.map h) .nil
 | func ha hc=>exact .cons (.func ha hc) .nil
 | yield h=>exact .cons (.yield h) .nil
 | nilFunc=>exact .cons .nilFunc .nil
 | nilIface=>exact .cons .nilIface .nil
 | iface h=>exact .cons (.iface h) .nil
 | tuple h=>exact .cons (.tuple h) .nil
theorem AL.oneCell{v:AV}{v':Value}(h:AL ρ v v')(hc:v.isCell=true):v'.oneCell'=true:=by
 cases h<;>first | rfl | cases hc
theorem AJ.oneCell{l:List AV}{l':List Value}(h:AJ ρ l l')(hc:Aa l=true):∀v∈l',v.oneCell'=true:=by
  induction l generalizing l' with
  | nil=>cases h;simp
  | cons a l ih =>
    cases h with
    | cons h hs =>
      simp only[Aa,Bool.and_eq_true]at hc
      intro v hv
      rcases dE.1 hv with rfl | hv
      · exact h.oneCell hc.1
      · exact ih hs hc.2 v hv
end lists
theorem Gc(ρ:Au){v:Value}{a:AV}(h:Gb v=some a):AL ρ a v:=by
 unfold Gb at h
 split at h<;>first
  | (injection h with h;subst h;first | exact .bool _ | exact .int _ _ | exact .str rfl | exact .ptrNil | exact .sliceNil | exact .mapNil | exact .nilFunc | exact .nilIface)
  | cases h
theorem Dz(ρ:Au):∀ {l:List Value}{r:List AV},DP l=some r→AJ ρ r l
 | [],r,h=>by simp[DP]at h;subst h;exact .nil
 | v::l,r,h=>by
  simp only[DP,cX]at h
  obtain⟨a,ha,r',hr,h⟩:=h
  injection h with h;subst h
  exact .cons (Gc ρ ha) (Dz ρ hr)
theorem BJ(ρ:Au){v:Value}{a:AV}(h:ofValue v=some a):AL ρ a v:=by
 unfold ofValue at h
 split at h
 ·simp only[cX]at h
  obtain⟨l,hl,h⟩:=h
  injection h with h;subst h
  exact .agg (Dz ρ hl)
 ·simp only[cX]at h
  obtain⟨l,hl,h⟩:=h
  injection h with h;subst h
  exact .tuple (Dz ρ hl)
 ·exact Gc ρ h
theorem CK(ρ:Au):AL ρ A7 undef:=.tuple .nil
theorem AB{α:Type}{b:Bool}{x:Option α}{a:α}(h:AH b x=some a):b=true∧x=some a:=by
 cases b with
 | true=>exact⟨rfl,h⟩
 | false=>cases h
inductive CC (ρ:Au):List (AV×AV)→List MapEntry→Prop
 | nil:CC ρ [] []
 | cons {k v:AV} {e:MapEntry} {l:List (AV×AV)} {l':List MapEntry} (hk:AL ρ k e.key) (hv:AL ρ v e.val) (hs:CC ρ l l'):CC ρ ((k,v)::l) (e::l')
theorem CC.mono{ρ σ:Au}(le:ρ.le σ){l:List (AV×AV)}{l':List MapEntry}(h:CC ρ l l'):CC σ l l':=by
 induction h with
 | nil=>exact .nil
 | cons hk hv _ ih=>exact .cons (hk.mono le) (hv.mono le) ih
theorem CC.length{ρ:Au}{l:List (AV×AV)}{l':List MapEntry}(h:CC ρ l l'):l.length=l'.length:=by
 induction h with
 | nil=>rfl
 | cons _ _ _ ih=>simp[ih]
structure HT(P:Program)(ρ:Au)(w:World)(kt:TypeId)(es:List (AV×AV))(rb:RB):Prop where
 ex:∃ (es':Array MapEntry) (clock:Nat),w.heap[rb.b]? = some (.map es' clock)∧MapKept.Stamped es' clock∧(∃l,l.Perm es'.toList∧CC ρ es l)∧∀e∈es'.toList,∃l,keyOf P kt e.key=some l
structure Bi(ρ:Au)(w:World)(r:CL)(rb:RB):Prop where
 cells:∀k v,k<r.n→r.c.get k=some v→∃v',w.cell? ⟨rb.b,rb.off+k,none⟩=some v'∧AL ρ v v'
 le:r.n≤rb.N
 sz:r.sz=rb.sz
 tight:r.spare=false→rb.N=r.n
 own:r.mode≠.ro→∃cs,w.heap[rb.b]? = some (.cells cs r.elem (0,0))∧rb.off+rb.N≤cs.size
 base:r.bytes=true→rb.off=0
 gl:∀g,r.glob=some g→rb.b=g∧rb.off=0
 par:∀p,r.par=some p→∃rp,ρ p=some rp
def Cm(ρ:Au)(vars:List Tmp)(var:List AV)(tmps:Array Value):Prop:=
 ∀ (t:Tmp) (k:Nat),BE vars t=some k→t<tmps.size∧∃v:AV,var[k]? = some v∧AL ρ v (tmps.getD t undef)
end
end Go.Proofs.YtickdehehcmfbaaGreatDoor.Am
set_option linter.unusedVariables false
set_option linter.unusedSimpArgs false
namespace Go.Proofs.YtickdehehcmfbaaGreatDoor.Am
open Go
noncomputable section
theorem EF{α:Type}{P:Program}{w:World}:∀ {s:Sem α}{a:α},Dk P s=some a→s.run P w=.ok a w:=by
 intro s
 induction s with
 | pure b=>intro a h;simp[Dk]at h;subst h;rfl
 | program k ih=>intro a h;simp only[Dk]at h;simp only[Sem.run];exact ih P h
 | mark m k ih=>intro a h;simp only[Dk]at h;simp only[Sem.run];exact ih h
 | load=>intro a h;simp[Dk]at h
 | store=>intro a h;simp[Dk]at h
 | new=>intro a h;simp[Dk]at h
 | shape=>intro a h;simp[Dk]at h
 | freeze=>intro a h;simp[Dk]at h
 | frozen=>intro a h;simp[Dk]at h
 | getObj=>intro a h;simp[Dk]at h
 | setObj=>intro a h;simp[Dk]at h
 | choose=>intro a h;simp[Dk]at h
 | sys=>intro a h;simp[Dk]at h
 | halt=>intro a h;simp[Dk]at h
section types
variable{P:Program}{w:World}{t:TypeId}
theorem AE{d:TypeDesc}(h:P.underlying t=some d):(underlying t).run P w=.ok d w:=by simp[underlying,h]
theorem FS{g:Bool}(h:Cw P t=some g):(isAgg t).run P w=.ok g w:=by
 unfold Cw at h
 split at h
 ·injection h with h;subst h;simp[isAgg,underlying, *]
 ·injection h with h;subst h;simp[isAgg,underlying, *]
 ·rename_i d _ _ hd
  injection h with h;subst h
  simp only[isAgg,Sem.run_bind,AE hd,Result.andThen_ok]
  cases d<;>simp_all
 ·cases h
theorem Ag{n:Nat}(h:Ap P t=some n):(sizeOf t).run P w=.ok n w:=by
 unfold Ap at h
 split at h
 ·injection h with h;subst h;simp[sizeOf,typeInfo, *]
 ·cases h
theorem Pu{n:Nat}(h:CE P t=some n):∃i,(typeInfo t).run P w=.ok i w∧i.bytes=n:=by
 unfold CE at h
 split at h
 ·injection h with h;rename_i i hi;exact⟨i,by simp[typeInfo,hi],h⟩
 ·cases h
theorem Gj(ρ:Au){z:AV}(h:Bv P t=some z):∃v,(zeroValue t).run P w=.ok v w∧AL ρ z v:=by
  unfold Bv at h
  split at h
  · split at h
    · rename_i i hi _ v hv
      exact⟨v,by simp[zeroValue,typeInfo,hi,hv],BJ ρ h⟩
    · cases h
  · cases h
end types
theorem IC{k:IntKind}{n:Int}(h:A9 k n=true):k.wrap n=n:=by
 have hb:k.min≤n∧n≤k.max:=by
  unfold A9 at h
  cases n with
  | ofNat m=>cases k<;>simp[ce]at h<;>simp[IntKind.min,IntKind.max,IntKind.signed,IntKind.bits]<;>omega
  | negSucc m=>cases k<;>simp[ce]at h<;>simp[IntKind.min,IntKind.max,IntKind.signed,IntKind.bits]<;>omega
 cases k<;>simp[IntKind.min,IntKind.max,IntKind.signed,IntKind.bits]at hb<;>simp only[IntKind.wrap,IntKind.signed,IntKind.bits]<;>simp<;>omega
theorem FK(k:IntKind)(n:Int):Ej k n=k.wrap n:=by
 unfold Ej
 cases h:A9 k n with
 | true=>simp[IC h]
 | false=>rfl
theorem B4(a b:Int):JH a b=decide (a<b):=by
 cases a with
 | ofNat a=>cases b with
  | ofNat b=>rw[Bool.eq_iff_iff];simp only[JH,cy,decide_eq_true_iff,dh];omega
  | negSucc b=>simp only[JH];rw[eq_comm,decide_eq_false_iff_not];simp only[dh];omega
 | negSucc a=>cases b with
  | ofNat b=>simp only[JH];rw[eq_comm,decide_eq_true_iff];simp only[dh];omega
  | negSucc b=>rw[Bool.eq_iff_iff];simp only[JH,cy,decide_eq_true_iff];omega
theorem Cy(a b:Int):N9 a b=(a == b):=by
 rw[Bool.eq_iff_iff,beq_iff_eq]
 cases a with
 | ofNat a=>cases b with
  | ofNat b=>simp only[N9,dN,dh];omega
  | negSucc b=>simp[N9]
 | negSucc a=>cases b with
  | ofNat b=>simp[N9]
  | negSucc b=>simp only[N9,dN];omega
theorem Br{k k':IntKind}(h:Bg k k'=true):k=k':=by cases k<;>cases k'<;>first | rfl | cases h
theorem Sn{n:Int}{m:Nat}(h:OM n=some m):n=(m:Int):=by cases n<;>simp[OM]at h;subst h;rfl
theorem SZ{P:Program}{ρ:Au}{op:BinOp}{k:IntKind}{a b:Int}{v:AV}(h:SY P op k a b=some v)(t:TypeId)(w:World):
  ∃v',(Go.binOp op t (.int k a) (.int k b)).run P w=.ok v' w∧AL ρ v v':=by
 unfold SY at h
 split at h
 case h_1=>injection h with h;subst h;exact⟨.int k (k.wrap (a+b)),by simp[Go.binOp,Op.intArith],by rw[FK];exact .int _ _⟩
 case h_2=>injection h with h;subst h;exact⟨.int k (k.wrap (a - b)),by simp[Go.binOp,Op.intArith],by rw[FK];exact .int _ _⟩
 case h_3=>injection h with h;subst h;exact⟨.int k (k.wrap (a * b)),by simp[Go.binOp,Op.intArith],by rw[FK];exact .int _ _⟩
 case h_4=>injection h with h;subst h;exact⟨.bool (a == b),by simp[Go.binOp,Op.intCmp],by rw[Cy];exact .bool _⟩
 case h_5=>injection h with h;subst h;exact⟨.bool (a != b),by simp[Go.binOp,Op.intCmp],by rw[Cy];exact .bool _⟩
 case h_6=>injection h with h;subst h;exact⟨.bool (a<b),by simp[Go.binOp,Op.intCmp],by rw[B4];exact .bool _⟩
 case h_7=>injection h with h;subst h;exact⟨.bool (a≤b),by simp[Go.binOp,Op.intCmp],by rw[B4,show(!decide (b<a))=decide (a≤b)from by rw[Bool.eq_iff_iff];simp];exact .bool _⟩
 case h_8=>injection h with h;subst h;exact⟨.bool (a > b),by simp[Go.binOp,Op.intCmp],by rw[B4];exact .bool _⟩
 case h_9=>injection h with h;subst h;exact⟨.bool (a≥b),by simp[Go.binOp,Op.intCmp],by rw[B4,show(!decide (a<b))=decide (a≥b)from by rw[Bool.eq_iff_iff];simp];exact .bool _⟩
 case h_10 =>
  simp only[cX]at h
  obtain⟨u,hu,h⟩:=h
  exact⟨u,by have:=EF (w:=w) hu;simpa[Go.binOp]using this,BJ ρ h⟩
 case h_11 =>
  simp only[cX]at h
  obtain⟨u,hu,h⟩:=h
  exact⟨u,by have:=EF (w:=w) hu;simpa[Go.binOp]using this,BJ ρ h⟩
 case h_12=>cases h
 case h_13=>cases h
 case h_14 =>
  simp only[cX]at h
  obtain⟨u,hu,h⟩:=h
  refine⟨u,?_,BJ ρ h⟩
  have:=EF (w:=w) hu
  rename_i n1 n2 n3 n4 n5 n6 n7 n8 n9 n10 n11 n12 n13
  cases op<;>first | (exfalso;simp at *;done) | simpa[Go.binOp]using this
abbrev CT(l:List UInt8):List Nat:=l.map (fun(b:UInt8)=>b.toNat)
theorem toNat_inj{a b:UInt8}(h:a.toNat=b.toNat):a=b:=UInt8.toNat_inj.1 h
theorem GA:∀ (x y:List UInt8),Bu (CT x) (CT y)=(x == y)
 | [],[]=>rfl
 | [],_::_=>rfl
 | _::_,[]=>rfl
 | a::x,b::y=>by
  simp only[CT,cz,Bu]
  by_cases e:a=b
  ·subst e
   have:Nat.beq a.toNat a.toNat=true:=by simp[dN]
   rw[this]
   have ih:=GA x y
   simp only[CT]at ih
   simp[ih]
  ·have:Nat.beq a.toNat b.toNat=false:=AI.beq_no (fun h=>e (toNat_inj h))
   rw[this]
   simp[e]
theorem JC:∀ (x y:List UInt8),FJ (CT x) (CT y)=Op.bytesLess x y
 | [],[]=>rfl
 | [],_::_=>rfl
 | _::_,[]=>rfl
 | a::x,b::y=>by
  simp only[CT,cz,FJ,Op.bytesLess]
  have ih:=JC x y
  simp only[CT]at ih
  have h1:Nat.blt a.toNat b.toNat=decide (a<b):=by rw[Bool.eq_iff_iff];simp[cy,UInt8.lt_iff_toNat_lt]
  have h2:Nat.beq a.toNat b.toNat=(a == b):=by
   rw[Bool.eq_iff_iff,beq_iff_eq,dN]
   exact⟨fun h=>toNat_inj h,fun h=>by rw[h]⟩
  rw[h1,h2,ih]
  cases decide (a<b)<;>cases (a == b)<;>rfl
theorem EG(s:ByteArray):(CT s.data.toList).length=s.size:=by simp[CT]
theorem Ta{P:Program}{ρ:Au}{op:BinOp}{x y:ByteArray}{v:AV}(h:Oa op (CT x.data.toList) (CT y.data.toList)=some v)(w:World):
  ∃v',(Op.stringOp op x y).run P w=.ok v' w∧AL ρ v v':=by
 unfold Oa at h
 rw[GA,JC,EG,EG]at h
 unfold Op.stringOp
 rw[ByteArray.toList_eq,ByteArray.toList_eq]
 split at h
 case h_1 =>
  obtain⟨hb,h⟩:=AB h
  injection h with h;subst h
  have hb':x.size+y.size≤1152921504606846976:=by simpa[ce]using hb
  refine⟨.string (x++y),?_,.str (by simp[CT])⟩
  have:¬ ((x.size+y.size:Nat):Int) > IntKind.i64.max:=by simp[IntKind.max,IntKind.signed,IntKind.bits];omega
  simp only[this,if_false]
  rfl
 case h_2=>injection h with h;subst h;exact⟨_,rfl,.bool _⟩
 case h_3=>injection h with h;subst h;exact⟨_,rfl,.bool _⟩
 case h_4=>injection h with h;subst h;exact⟨_,rfl,.bool _⟩
 case h_5=>injection h with h;subst h;exact⟨_,rfl,.bool _⟩
 case h_6=>injection h with h;subst h;exact⟨_,rfl,.bool _⟩
 case h_7=>injection h with h;subst h;exact⟨_,rfl,.bool _⟩
 case h_8=>cases h
section
variable{P:Program}{ρ:Au}{w:World}
theorem Hd{t:TypeId}(h:E4 P t=true):∃e,P.underlying t=some (.pointer e):=by
 unfold E4 at h;split at h
 ·rename_i e he;exact⟨e,he⟩
 ·cases h
theorem Fj{t:TypeId}(h:GW P t=true):∃e,P.underlying t=some (.slice e):=by
 unfold GW at h;split at h
 ·rename_i e he;exact⟨e,he⟩
 ·cases h
theorem Hb{t:TypeId}(h:Kh P t=true):∃k e,P.underlying t=some (.map k e):=by
 unfold Kh at h;split at h
 ·rename_i k e he;exact⟨k,e,he⟩
 ·cases h
theorem ET{t:TypeId}(h:GV P t=true):∃a b c,P.underlying t=some (.func a b c):=by
 unfold GV at h;split at h
 ·rename_i a b c he;exact⟨a,b,c,he⟩
 ·cases h
theorem Kg{t:TypeId}(h:Kf P t=true):P.underlying t=some .bool:=by
 unfold Kf at h;split at h
 ·rename_i he;exact he
 ·cases h
set_option maxHeartbeats 1000000 in
theorem Y7{t:TypeId}{x y:AV}{x' y':Value}{b:Bool}(h:UA P t x y=some b)(hx:AL ρ x x')(hy:AL ρ y y')(d:Nat):
  (Op.equalIn (d+1) t x' y').run P w=.ok b w:=by
 unfold UA at h
 split at h
 all_goals first | (cases h;done) | skip
 ·obtain⟨ht,h⟩:=AB h
  injection h with h;subst h
  cases hx;cases hy
  simp[Op.equalIn,AE (Kg ht)]
 ·obtain⟨ht,h⟩:=AB h
  injection h with h;subst h
  obtain⟨e,ht⟩:=Hd ht
  cases hx;cases hy<;>simp[Op.equalIn,AE ht]
 ·obtain⟨ht,h⟩:=AB h
  injection h with h;subst h
  obtain⟨e,ht⟩:=Hd ht
  cases hy;cases hx<;>simp[Op.equalIn,AE ht]
 ·obtain⟨ht,h⟩:=AB h
  injection h with h;subst h
  obtain⟨e,ht⟩:=Fj ht
  cases hx;cases hy<;>simp[Op.equalIn,AE ht]
 ·obtain⟨ht,h⟩:=AB h
  injection h with h;subst h
  obtain⟨e,ht⟩:=Fj ht
  cases hy;cases hx<;>simp[Op.equalIn,AE ht]
 ·obtain⟨ht,h⟩:=AB h
  injection h with h;subst h
  obtain⟨k,e,ht⟩:=Hb ht
  cases hx;cases hy<;>simp[Op.equalIn,AE ht]
 ·obtain⟨ht,h⟩:=AB h
  injection h with h;subst h
  obtain⟨k,e,ht⟩:=Hb ht
  cases hy;cases hx<;>simp[Op.equalIn,AE ht]
 ·obtain⟨ht,h⟩:=AB h
  injection h with h;subst h
  obtain⟨a,b,c,ht⟩:=ET ht
  cases hy;cases hx;simp[Op.equalIn,AE ht]
 ·obtain⟨ht,h⟩:=AB h
  injection h with h;subst h
  obtain⟨a,b,c,ht⟩:=ET ht
  cases hy;cases hx;simp[Op.equalIn,AE ht]
 ·obtain⟨ht,h⟩:=AB h
  injection h with h;subst h
  obtain⟨a,b,c,ht⟩:=ET ht
  cases hy;cases hx;simp[Op.equalIn,AE ht]
theorem SG{t:TypeId}{x y:AV}{x' y':Value}{b:Bool}(h:UA P t x y=some b)(hx:AL ρ x x')(hy:AL ρ y y'):
  (Op.equal t x' y').run P w=.ok b w:=Y7 h hx hy 9999
def Sv:Value→Bool
 | .nilIface | .agg _=>false
 | _=>true
theorem DU{x':Value}(h:Sv x'=true)(op:BinOp)(t:TypeId)(ox oy:Operand)(y':Value):
  (eqGuard op t ox oy x' y').run P w=.ok () w:=by
 cases x'<;>first | (cases h;done) | (cases op<;>rfl)
theorem Ji{t:TypeId}{x y:AV}{x':Value}{b:Bool}(h:UA P t x y=some b)(hx:AL ρ x x'):Sv x'=true:=by
 unfold UA at h
 split at h<;>first | (cases h;done) | (cases hx<;>rfl)
theorem Nl      {op : BinOp} {t : TypeId} {x y v : AV} {x' y' : Value} (h : AQ   P op t x y = some v) (hx : AL   ρ x x') (hy : AL   ρ y y') (ox oy : Operand) :
    ∃v',(do eqGuard op t ox oy x' y';Go.binOp op t x' y').run P w=.ok v' w∧AL ρ v v':=by
  unfold AQ at h
  split at h
  · cases hx;cases hy
    rename_i k a k' b
    rw[Sem.run_bind,DU rfl]
    simp only[Result.andThen_ok]
    split at h
    · simp only[cX]at h
      obtain⟨u,hu,h⟩:=h
      exact⟨u,by have:=EF (w:=w) hu;simpa[Go.binOp]using this,BJ ρ h⟩
    · simp only[cX]at h
      obtain⟨u,hu,h⟩:=h
      exact⟨u,by have:=EF (w:=w) hu;simpa[Go.binOp]using this,BJ ρ h⟩
    · obtain⟨hk,h2⟩:=AB h
      have hkk:=Br hk
      subst hkk
      exact SZ h2 t w
  · cases hx;cases hy
    rename_i a b s1 h1 s2 h2
    subst h1;subst h2
    rw[Sem.run_bind,DU rfl]
    simp only[Result.andThen_ok]
    obtain⟨v',h1,h2⟩:=Ta (P:=P) (ρ:=ρ) h w
    refine⟨v',?_,h2⟩
    rw[← h1]
    cases op<;>first | rfl | (simp[Oa]at h;done)
  · split at h
    · simp only[cX]at h
      obtain⟨b,hb,h⟩:=h
      injection h with h;subst h
      rw[Sem.run_bind,DU (Ji hb hx)]
      simp only[Result.andThen_ok]
      refine⟨.bool b,?_,.bool b⟩
      have he:=SG (w:=w) hb hx hy
      have:Go.binOp .eql t x' y'=(do pure (.bool (← Op.equal t x' y')):Sem Value):=by
        unfold UA at hb
        split at hb<;>first | (cases hb;done) | (cases hx<;>cases hy<;>rfl)
      rw[this,Sem.run_bind,he]
      rfl
    · simp only[cX]at h
      obtain⟨b,hb,h⟩:=h
      injection h with h;subst h
      rw[Sem.run_bind,DU (Ji hb hx)]
      simp only[Result.andThen_ok]
      refine⟨.bool (!b),?_,.bool _⟩
      have he:=SG (w:=w) hb hx hy
      have:Go.binOp .neq t x' y'=(do pure (.bool (!(← Op.equal t x' y'))):Sem Value):=by
        unfold UA at hb
        split at hb<;>first | (cases hb;done) | (cases hx<;>cases hy<;>rfl)
      rw[this,Sem.run_bind,he]
      rfl
    · cases h
theorem ZX{op:UnOp}{x v:AV}{x':Value}(h:Uh P op x=some v)(hx:AL ρ x x'):
  ∃v',(Op.unary op x').run P w=.ok v' w∧AL ρ v v':=by
 unfold Uh at h
 split at h
 ·cases hx
  rename_i k n
  split at h
  ·injection h with h;subst h
   exact⟨.int k (k.wrap (0 - n)),rfl,by rw[FK];exact .int _ _⟩
  ·simp only[cX]at h
   obtain⟨u,hu,h⟩:=h
   exact⟨u,EF hu,BJ ρ h⟩
  ·cases h
 ·cases hx
  split at h
  ·injection h with h;subst h
   exact⟨_,rfl,.bool _⟩
  ·cases h
 ·cases h
theorem Kp{x v:AV}{x':Value}(h:AX x=some v)(hx:AL ρ x x')(ev:Operand→Value)(o:Oper)(y:Operand)(ho:o.op=.nilCheck y)(he:ev y=x'):
  ∃v',(execOp ev o).run P w=.ok (.value v') w∧AL ρ v v':=by
 unfold AX at h
 split at h<;>first | (cases h;done) | skip
 injection h with h;subst h
 refine⟨x',?_,hx⟩
 cases hx<;>first | (simp only[execOp,ho,he];done) | (simp only[execOp,ho,he];rfl) | (exfalso;simp_all;done)
theorem LY{x v:AV}{i:Nat}{x':Value}(h:Xv x i=some v)(hx:AL ρ x x'):
  ∃v',(Instr.extract x' i).run P w=.ok v' w∧AL ρ v v':=by
 unfold Xv at h
 split at h<;>first | (cases h;done) | skip
 cases hx with
 | tuple hs =>
  rename_i cs'
  obtain⟨v',h1,h2⟩:=hs.get h
  refine⟨v',?_,h2⟩
  have:cs'[i]? = some v':=by rw[← Array.getElem?_toList];exact h1
  simp[Instr.extract,this]
theorem L7{t:TypeId}{cs:List AV}{cs':Array Value}{off:Nat}{v:AV}(h:OR P t cs off=some v)(hc:AJ ρ cs cs'.toList):
  ∃v',(part t cs' off).run P w=.ok v' w∧AL ρ v v':=by
 unfold OR at h
 simp only[cX]at h
 obtain⟨g,hg,h⟩:=h
 cases g with
 | true =>
  simp only[cX]at h
  obtain⟨n,hn,h⟩:=h
  injection h with h;subst h
  refine⟨.agg (cs'.extract off (off+n)),by simp[part,FS hg,Ag hn],.agg ?_⟩
  have:(cs'.extract off (off+n)).toList=(cs'.toList.drop off).take n:=by
   rw[Array.toList_extract,List.extract_eq_take_drop]
   congr 1
   omega
  rw[this]
  exact(hc.drop off).take n
 | false =>
  obtain⟨v',h1,h2⟩:=hc.get h
  refine⟨v',?_,h2⟩
  have:cs'[off]? = some v':=by rw[← Array.getElem?_toList];exact h1
  simp[part,FS hg,this]
theorem Ii{x:AV}{x':Value}{k:Nat}(h:idxOf x=some k)(hx:AL ρ x x'):∃kd,x'=.int kd (k:Int):=by
 unfold idxOf at h
 split at h<;>first | (cases h;done) | skip
 cases hx
 rename_i kd n
 exact⟨kd,by rw[Sn h]⟩
theorem PH{t:TypeId}{x v:AV}{x':Value}{f:Nat}(h:Fw P t x f=some v)(hx:AL ρ x x'):
  ∃v',(Instr.field t x' f).run P w=.ok v' w∧AL ρ v v':=by
 unfold Fw at h
 split at h<;>first | (cases h;done) | skip
 split at h<;>first | (cases h;done) | skip
 rename_i fs hfs
 simp only[cX]at h
 obtain⟨fd,hfd,h⟩:=h
 cases hx with
 | agg hs =>
  obtain⟨v',h1,h2⟩:=L7 (w:=w) h hs
  exact⟨v',by simp[Instr.field,AE hfs,hfd,asAgg,h1],h2⟩
theorem PJ        {t : TypeId} {x ix v : AV} {x' ix' : Value} (h : My     P t x ix = some v) (hx : AL   ρ x x') (hi : AL   ρ ix ix') :
    ∃v',(Instr.index t x' ix').run P w=.ok v' w∧AL ρ v v':=by
  unfold My at h
  simp only[cX]at h
  obtain⟨k,hk,h⟩:=h
  obtain⟨kd,rfl⟩:=Ii hk hi
  split at h<;>first | (cases h;done) | skip
  · split at h<;>first | (cases h;done) | skip
    rename_i len e he
    simp only[cX]at h
    obtain⟨n,hn,h⟩:=h
    obtain⟨hlt,h⟩:=AB h
    have hlt':k<len:=by simpa[cy]using hlt
    cases hx with
    | agg hs =>
      obtain⟨v',h1,h2⟩:=L7 (w:=w) h hs
      refine⟨v',?_,h2⟩
      have:(0:Int)≤(k:Int)∧(k:Int)<(len:Int):=by omega
      simp only[Instr.index,asIntOf,Sem.run_bind,Sem.run_pure,Result.andThen_ok,AE he,this,and_self,if_true,Ag hn]
      simpa using h1
  · split at h <;> first | (cases h; done) | skip
    rename_i l _ he
    simp only[cX]at h
    obtain⟨b,hb,h⟩:=h
    injection h with h;subst h
    cases hx with
    | str hs =>
      rename_i s
      subst hs
      rw[dG]at hb
      simp only[Option.map_eq_some_iff]at hb
      obtain⟨u,hu,rfl⟩:=hb
      refine⟨.int .u8 u.toNat,?_,.int _ _⟩
      have h0:(0:Int)≤(k:Int):=by omega
      have:s[k]? = some u:=by
        rw[← hu]
        rcases cZ k s.size with hlt | hge
        · rw [getElem?_pos s k hlt, cY                       (by simpa using hlt)]
          rfl
        · rw[getElem?_neg s k (by omega),cm (by simpa using hge)]
      simp[Instr.index,asIntOf,AE he,this]
end
structure El(P:Program)(ρ:Au)(w:World)(l:ID)(rb:RB):Prop where
 ex:∃L:Loop,w.heap[rb.b]? = some (.loop L)∧L.state=l.state∧L.pending=l.pending∧L.params=l.params∧L.assign=l.assign∧L.body=l.body ∧
  (∃rd,ρ l.dfr=some rd∧L.defers=rd.b)∧Cm ρ (GE P l.fn) l.var L.tmps∧(∀fn,P.funcs[l.fn]? = some fn→fn.ntmps≤L.tmps.size)∧l.var.length=(GE P l.fn).length
def Eh(P:Program)(ρ:Au)(w:World):Ae→RB→Prop
 | .row r,rb=>Bi ρ w r rb
 | .map kt es,rb=>HT P ρ w kt es rb
 | .loop l,rb=>El P ρ w l rb
 | .mark,rb=>w.heap[rb.b]? = some (.deferred (some []))
 | .iter _ _,_=>False
def wr:Ae→Bool
 | .row r=>C4 r.mode
 | _=>true
def Hk:Ae→Option Nat
 | .row r=>r.par
 | _=>none
def Fz:Ae→Option Nat
 | .row r=>r.glob
 | _=>none
structure Ax(P:Program)(ρ:Au)(s:AD)(w:World):Prop where
 obj:∀i o rb,s.heap.get i=some o→ρ i=some rb→Eh P ρ w o rb
 lt:∀i rb,ρ i=some rb→rb.b<w.heap.size
 sep:∀i j oi oj ri rj,i≠j→s.heap.get i=some oi→s.heap.get j=some oj→ρ i=some ri→ρ j=some rj→ri.b=rj.b→wr oj=true→Hk oj=some i∧wr oi=false
 glb:∀i o g,s.heap.get i=some o→Fz o=some g→∃rb,ρ i=some rb
def En(ρ:Au)(s:AD)(b:Nat):Prop:=∃i o rb,s.heap.get i=some o∧wr o=true∧ρ i=some rb∧rb.b=b
structure Fr(ρ:Au)(s:AD)(w:World)(ρ':Au)(s':AD)(w':World):Prop where
 le:ρ.le ρ'
 fresh:∀i,ρ i=none→(i<s.next∨s'.next≤i)→ρ' i=none
 next:s.next≤s'.next
 size:w.heap.size≤w'.heap.size
 os:w'.os=w.os
 tape:w'.tape=w.tape
 output:w'.output=w.output
 keep:∀b,b<w.heap.size→¬ En ρ s b→w'.heap[b]? = w.heap[b]?
 own:∀b,En ρ' s' b→En ρ s b∨w.heap.size≤b
 unborn:∀i,ρ i=none→(i<s.next∨s'.next≤i)→s'.heap.get i=s.heap.get i
section
variable{P:Program}{ρ ρ1 ρ2:Au}{s s1 s2:AD}{w w1 w2:World}
theorem Fr.refl(ρ:Au)(s:AD)(w:World):Fr ρ s w ρ s w:=
 ⟨Au.le_refl ρ,fun _ h _=>h,cJ _,cJ _,rfl,rfl,rfl,fun _ _ _=>rfl,fun _ h=>.inl h,fun _ _ _=>rfl⟩
theorem Fr.trans(h:Fr ρ s w ρ1 s1 w1)(k:Fr ρ1 s1 w1 ρ2 s2 w2):Fr ρ s w ρ2 s2 w2 where
 le:=Au.le_trans h.le k.le
 fresh:=fun i hi hr=>k.fresh i (h.fresh i hi (hr.imp id (fun h'=>cw k.next h'))) (hr.imp (fun h'=>cg h' h.next) id)
 next:=cw h.next k.next
 size:=cw h.size k.size
 os:=k.os.trans h.os
 tape:=k.tape.trans h.tape
 output:=k.output.trans h.output
 keep:=fun b hb ho=>(k.keep b (cg hb h.size) (fun ho1=>(h.own b ho1).elim ho (fun hge=>by omega))).trans (h.keep b hb ho)
 own:=fun b hb=>(k.own b hb).elim (fun h1=>h.own b h1) (fun hge=>.inr (cw h.size hge))
 unborn:=fun i hi hr=>(k.unborn i (h.fresh i hi (hr.imp id (fun h'=>cw k.next h'))) (hr.imp (fun h'=>cg h' h.next) id)).trans (h.unborn i hi (hr.imp id (fun h'=>cw k.next h')))
theorem GQ{a:Addr}(h:w1.heap[a.block]? = w.heap[a.block]?):w1.cell? a=w.cell? a:=by simp[World.cell?,h]
theorem Cm.mono{σ:Au}(le:ρ.le σ){vars:List Tmp}{var:List AV}{tmps:Array Value}(h:Cm ρ vars var tmps):Cm σ vars var tmps:=
 fun t k hk=>let ⟨h1,v,h2,h3⟩:=h t k hk;⟨h1,v,h2,h3.mono le⟩
theorem Eh.mono    {o : Ae}   {rb : RB} (h : Eh    P ρ w o rb) (le : ρ.le ρ1) (hk : w1.heap[rb.b]? = w.heap[rb.b]?) : Eh    P ρ1 w1 o rb := by
  cases o with
  | row r =>
    exact⟨fun k v hk' hv=>by
        obtain⟨v',h1,h2⟩:=h.cells k v hk' hv
        exact⟨v',(GQ (a:=⟨rb.b,_,none⟩) hk).trans h1,h2.mono le⟩,
      h.le,h.sz,h.tight,fun hm=>by
        obtain⟨cs,h1,h2⟩:=h.own hm
        exact⟨cs,hk.trans h1,h2⟩,h.base,h.gl,fun p hp=>let ⟨rp,h1⟩:=h.par p hp;⟨rp,le _ _ h1⟩⟩
  | map kt es =>
    obtain⟨es',clock,h1,h2,⟨l,h3,h4⟩,h5⟩:=h.ex
    exact⟨es',clock,hk.trans h1,h2,⟨l,h3,h4.mono le⟩,h5⟩
  | loop l =>
    obtain⟨L,h0,h1,h2,h4,h5,h6,⟨rd,h7,h7'⟩,h8,h9⟩:=h.ex
    exact⟨L,hk.trans h0,h1,h2,h4,h5,h6,⟨rd,le _ _ h7,h7'⟩,h8.mono le,h9⟩
  | mark=>exact hk.trans h
  | iter=>exact h
def BQ(ρ:Au)(i:Nat)(rb:RB):Au:=fun j=>if j=i then some rb else ρ j
theorem AP(i:Nat)(rb:RB):BQ ρ i rb i=some rb:=by simp[BQ]
theorem AO{i j:Nat}(rb:RB)(h:j≠i):BQ ρ i rb j=ρ j:=by simp[BQ,h]
theorem BR{i:Nat}{rb:RB}(h:ρ i=none):ρ.le (BQ ρ i rb):=fun j r hj=>by
 have:j≠i:=fun e=>by subst e;rw[h]at hj;cases hj
 rw[AO rb this];exact hj
theorem Aq(s:AD)(o:Ae)(j:Nat):(newObj s o).heap.get j=if j=s.next then some o else s.heap.get j:=AI.get_set _ _ _ _
theorem A8(s:AD)(i:Nat)(o:Ae)(j:Nat):(setObj s i o).heap.get j=if j=i then some o else s.heap.get j:=AI.get_set _ _ _ _
theorem Az(s:AD)(i j:Nat):(Bn s i).heap.get j=if j=i then none else s.heap.get j:=AI.get_del _ _ _
theorem Dx{o:Obj}{b:Nat}(h:b<w.heap.size):(w.alloc o).heap[b]? = w.heap[b]? :=
 Go.RowKit.Below.heap_alloc w o b h
theorem Ax.new  (h : Ax  P ρ s w) {o : Ae}   {o' : Obj} {rb : RB} (hf : ρ s.next = none) (hb : rb.b = w.heap.size)
    (ho:Eh P (BQ ρ s.next rb) (w.alloc o') o rb):
    Ax P (BQ ρ s.next rb) (newObj s o) (w.alloc o')∧Fr ρ s w (BQ ρ s.next rb) (newObj s o) (w.alloc o'):=by
  have hle:=BR (rb:=rb) hf
  have hglb:∀i oi g,(newObj s o).heap.get i=some oi→Fz oi=some g→∃r,BQ ρ s.next rb i=some r:=by
    intro i oi g hi hg
    rw[Aq]at hi
    by_cases e:i=s.next
    · subst e;exact⟨_,AP _ _⟩
    · rw[if_neg e]at hi
      obtain⟨r,hr⟩:=h.glb i oi g hi hg
      exact⟨r,hle _ _ hr⟩
  refine⟨⟨?_,?_,?_,hglb⟩,?_⟩
  · intro i oi ri hi hr
    rw[Aq]at hi
    by_cases e:i=s.next
    · subst e
      rw[if_pos rfl]at hi
      injection hi with hi
      rw[AP]at hr
      injection hr with hr
      subst hi;subst hr
      exact ho
    · rw [if_neg e] at hi
      rw[AO rb e]at hr
      exact(h.obj i oi ri hi hr).mono hle (Dx (h.lt i ri hr))
  · intro i ri hr
    by_cases e:i=s.next
    · subst e
      rw[AP]at hr
      injection hr with hr
      subst hr
      simp[hb]
    · rw[AO rb e]at hr
      have:=h.lt i ri hr
      simp;omega
  · intro i j oi oj ri rj hne hi hj hri hrj hbb hw
    rw[Aq]at hi hj
    by_cases ei:i=s.next
    · subst ei
      have ej:j≠s.next:=fun e=>hne e.symm
      rw[AP]at hri
      rw[AO rb ej]at hrj
      injection hri with hri
      subst hri
      have:=h.lt j rj hrj
      omega
    · by_cases ej : j = s.next
      · subst ej
        rw[AO rb ei]at hri
        rw[AP]at hrj
        injection hrj with hrj
        subst hrj
        have:=h.lt i ri hri
        omega
      · rw [if_neg ei] at hi
        rw[if_neg ej]at hj
        rw[AO rb ei]at hri
        rw[AO rb ej]at hrj
        exact h.sep i j oi oj ri rj hne hi hj hri hrj hbb hw
  · refine ⟨hle, ?_, by simp [newObj], by simp, rfl, rfl, rfl, fun b hb _ => Dx            hb, ?_, ?_⟩
    · intro i hi hr
      have:i≠s.next:=by simp[newObj]at hr;omega
      rw[AO rb this];exact hi
    · rintro b ⟨i, oi, ri, hi, hw, hr, rfl⟩
      rw[Aq]at hi
      by_cases e:i=s.next
      · subst e
        rw[AP]at hr
        injection hr with hr
        subst hr
        exact .inr (by omega)
      · rw [if_neg e] at hi
        rw[AO rb e]at hr
        exact .inl ⟨i,oi,ri,hi,hw,hr,rfl⟩
    · intro i _ hi
      rw[Aq,if_neg (by simp[newObj]at hi;omega)]
theorem Ax.set  (h : Ax  P ρ s w) {i : Nat} {o o1 : Ae}   {rb : RB} (hg : s.heap.get i = some o) (hr : ρ i = some rb) (hw : wr o = true) (hp : ∀ p, Hk    o = some p → p ≠ i → s.heap.get p = none)
    (hp1:Hk o1=none) (hsz:w1.heap.size=w.heap.size) (hkeep:∀b,b≠rb.b→w1.heap[b]? = w.heap[b]?) (hos:w1.os=w.os) (htape:w1.tape=w.tape) (hout:w1.output=w.output)
    (ho:Eh P ρ w1 o1 rb):Ax P ρ (setObj s i o1) w1∧Fr ρ s w ρ (setObj s i o1) w1:=by
  have hsep:∀j oj rj,j≠i→s.heap.get j=some oj→ρ j=some rj→rj.b≠rb.b:=by
    intro j oj rj hne hj hrj e
    have:=hp j (h.sep j i oj o rj rb hne hj hg hrj hr e hw).1 hne
    rw[hj]at this
    cases this
  have hglb:∀j oj g,(setObj s i o1).heap.get j=some oj→Fz oj=some g→∃r,ρ j=some r:=by
    intro j oj g hj hg
    rw[A8]at hj
    by_cases e:j=i
    · subst e;exact⟨_,hr⟩
    · rw[if_neg e]at hj
      exact h.glb j oj g hj hg
  refine⟨⟨?_,?_,?_,hglb⟩,?_⟩
  · intro j oj rj hj hrj
    rw[A8]at hj
    by_cases e:j=i
    · subst e
      rw[if_pos rfl]at hj
      injection hj with hj
      subst hj
      rw[hr]at hrj
      injection hrj with hrj
      subst hrj
      exact ho
    · rw[if_neg e]at hj
      exact(h.obj j oj rj hj hrj).mono (Au.le_refl ρ) (hkeep _ (hsep j oj rj e hj hrj))
  · intro j rj hrj
    rw[hsz];exact h.lt j rj hrj
  · intro j k oj ok rj rk hne hj hk hrj hrk hbb hwk
    rw[A8]at hj hk
    by_cases ej:j=i
    · subst ej
      have ek:k≠j:=fun e=>hne e.symm
      rw[if_neg ek]at hk
      rw[hr]at hrj
      injection hrj with hrj
      subst hrj
      exact absurd hbb.symm (hsep k ok rk ek hk hrk)
    · by_cases ek : k = i
      · subst ek
        rw[if_neg ej]at hj
        rw[hr]at hrk
        injection hrk with hrk
        subst hrk
        exact absurd hbb (hsep j oj rj ej hj hrj)
      · rw [if_neg ej] at hj
        rw[if_neg ek]at hk
        exact h.sep j k oj ok rj rk hne hj hk hrj hrk hbb hwk
  · refine ⟨Au.le_refl  ρ, fun _ h _ => h, cJ          _, by omega, hos, htape, hout, ?_, ?_, ?_⟩
    · intro b _ hno
      exact hkeep b (fun e=>hno ⟨i,o,rb,hg,hw,hr,e.symm⟩)
    · rintro b ⟨j, oj, rj, hj, hwj, hrj, rfl⟩
      rw[A8]at hj
      by_cases e:j=i
      · subst e
        rw[hr]at hrj
        injection hrj with hrj
        subst hrj
        exact .inl ⟨j,o,rb,hg,hw,hr,rfl⟩
      · rw[if_neg e]at hj
        exact .inl ⟨j,oj,rj,hj,hwj,hrj,rfl⟩
    · intro j hrj _
      rw[A8,if_neg]
      intro e
      subst e
      rw[hr]at hrj
      cases hrj
theorem Ax.del  (h : Ax  P ρ s w) {i : Nat} {rb : RB} (hr : ρ i = some rb) : Ax  P ρ (Bn     s i) w ∧ Fr ρ s w ρ (Bn     s i) w := by
  have hglb:∀j oj g,(Bn s i).heap.get j=some oj→Fz oj=some g→∃r,ρ j=some r:=by
    intro j oj g hj hg
    rw[Az]at hj
    by_cases e:j=i
    · rw[if_pos e]at hj;cases hj
    · rw[if_neg e]at hj
      exact h.glb j oj g hj hg
  refine⟨⟨?_,h.lt,?_,hglb⟩,⟨Au.le_refl ρ,fun _ h _=>h,cJ _,cJ _,rfl,rfl,rfl,fun _ _ _=>rfl,?_,?_⟩⟩
  · intro j oj rj hj hrj
    rw[Az]at hj
    by_cases e:j=i
    · rw[if_pos e]at hj;cases hj
    · rw[if_neg e]at hj
      exact h.obj j oj rj hj hrj
  · intro j k oj ok rj rk hne hj hk
    rw[Az]at hj hk
    by_cases ej:j=i
    · rw[if_pos ej]at hj;cases hj
    · by_cases ek : k = i
      · rw[if_pos ek]at hk;cases hk
      · rw [if_neg ej] at hj
        rw[if_neg ek]at hk
        exact h.sep j k oj ok rj rk hne hj hk
  · rintro b ⟨j, oj, rj, hj, hwj, hrj, rfl⟩
    rw[Az]at hj
    by_cases e:j=i
    · rw[if_pos e]at hj;cases hj
    · rw[if_neg e]at hj
      exact .inl ⟨j,oj,rj,hj,hwj,hrj,rfl⟩
  · intro j hrj _
    rw[Az,if_neg]
    intro e
    subst e
    rw[hr]at hrj
    cases hrj
theorem Ay{i:Nat}{r:CL}(h:rowAt s i=some r):s.heap.get i=some (.row r):=by
 unfold rowAt at h
 split at h
 ·injection h with h;subst h;assumption
 ·cases h
theorem BS(b o k:Nat):(⟨b,o,none⟩:Addr).add k=⟨b,o+k,none⟩:=by unfold Addr.add;split<;>simp_all
theorem B8(h:Ax P ρ s w){i off n:Nat}{l:List AV}{rb:RB}(hr:ρ i=some rb)(hl:BX s i off n=some l):
  ∃l':List Value,AJ ρ l l'∧l'.length=n∧∀w1:World,w1.heap=w.heap→(loadCells ⟨rb.b,rb.off+off,none⟩ n).run P w1=.ok l'.toArray w1:=by
 unfold BX at hl
 simp only[cX]at hl
 obtain⟨r,hrow,hl⟩:=hl
 obtain⟨hb,hl⟩:=AB hl
 have hb:off+n≤r.n:=by simpa[ce]using hb
 have hok:Bi ρ w r rb:=h.obj i _ rb (Ay hrow) hr
 have hlen:=AI.take_length hl
 have hc:∀k,k<n→∃v v',l[k]? = some v∧w.cell? ⟨rb.b,rb.off+off+k,none⟩=some v'∧AL ρ v v':=by
  intro k hk
  have hv:l[k]? = some l[k]:=cY (by omega)
  have hg:=AI.take_get hl k hk
  rw[hv]at hg
  obtain⟨v',h1,h2⟩:=hok.cells (off+k) _ (by omega) hg
  exact⟨l[k],v',hv,by rw[show rb.off+off+k=rb.off+(off+k)from by omega];exact h1,h2⟩
 let f:Nat→Value:=fun k=>(w.cell? ⟨rb.b,rb.off+off+k,none⟩).getD undef
 have hf:∀k,k<n→w.cell? ⟨rb.b,rb.off+off+k,none⟩=some (f k):=by
  intro k hk
  obtain⟨v,v',_,h2,_⟩:=hc k hk
  simp[f,h2]
 refine⟨(List.range n).map f,?_,by simp,?_⟩
 ·refine AJ.of_get (by simp[hlen]) ?_
  intro k v v' hv hv'
  have hk:k<n:=by
   rcases cZ k n with h' | h'
   ·exact h'
   ·rw[cm (by omega)]at hv;cases hv
  obtain⟨u,u',h1,h2,h3⟩:=hc k hk
  rw[h1]at hv
  injection hv with hv
  subst hv
  rw[dG,List.getElem?_range hk]at hv'
  simp only[dJ]at hv'
  injection hv' with hv'
  rw[← hv']
  have:f k=u':=by simp[f,h2]
  rw[this];exact h3
 ·intro w1 he
  exact run_loadCells w1 _ n f (fun j hj=>by rw[BS];exact(GQ (by rw[he])).trans (hf j hj))
theorem Iq(h:Ax P ρ s w){i off:Nat}{v:AV}{rb:RB}(hr:ρ i=some rb)(hl:Cs s i off=some v):
  ∃v',AL ρ v v'∧w.cell? ⟨rb.b,rb.off+off,none⟩=some v':=by
 unfold Cs at hl
 simp only[cX]at hl
 obtain⟨r,hrow,hl⟩:=hl
 obtain⟨hb,hl⟩:=AB hl
 have hb:off<r.n:=by simpa[cy]using hb
 have hok:Bi ρ w r rb:=h.obj i _ rb (Ay hrow) hr
 obtain⟨v',h1,h2⟩:=hok.cells off v hb hl
 exact⟨v',h2,h1⟩
theorem Lo       (h : Ax  P ρ s w) {t : TypeId} {a v : AV} {a' : Value} (hl : AG    P s t a = some v) (ha : AL   ρ a a') :
    ∃v',(Instr.loadAt t a').run P w=.ok v' w∧AL ρ v v'∧∃ad,a'=.pointer (some ad)∧(loadVar t ad).run P w=.ok v' w:=by
  unfold AG at hl
  split at hl<;>first | (cases hl;done) | skip
  · rename_i i o
    cases ha
    simp only[cX]at hl
    obtain⟨r,hgr,g,hg,hl⟩:=hl
    have hrow:rowAt s i=some r∧r.glob=some i:=by
      unfold Ke at hgr
      simp only[cX]at hgr
      obtain⟨r',h1,h2⟩:=hgr
      split at h2<;>first | (cases h2;done) | skip
      rename_i g' hg'
      obtain⟨h3,h4⟩:=AB h2
      injection h4 with h4
      subst h4
      exact⟨h1,by rw[hg',cq h3]⟩
    obtain⟨rb,hr⟩:=h.glb i _ i (Ay hrow.1) hrow.2
    have hok:Bi ρ w r rb:=h.obj i _ rb (Ay hrow.1) hr
    obtain⟨hb,ho⟩:=hok.gl i hrow.2
    cases g with
    | true =>
      simp only[cX]at hl
      obtain⟨n,hn,l,hl,hv⟩:=hl
      injection hv with hv;subst hv
      obtain⟨l',h1,h2,h3⟩:=B8 h hr hl
      rw[hb,ho,cK]at h3
      have hrun:(loadVar t ⟨i,o,none⟩).run P w=.ok (.agg l'.toArray) w:=by
        simp[loadVar,FS hg,Ag hn,h3 w rfl]
      exact⟨.agg l'.toArray,by simp[Instr.loadAt,Instr.sureAddr,hrun],.agg (by simpa using h1),_,rfl,hrun⟩
    | false =>
      obtain⟨v',h1,h2⟩:=Iq h hr hl
      rw[hb,ho,cK]at h2
      have hrun:(loadVar t ⟨i,o,none⟩).run P w=.ok v' w:=by
        simp[loadVar,FS hg,h2]
      exact⟨v',by simp[Instr.loadAt,Instr.sureAddr,hrun],h1,_,rfl,hrun⟩
  rename_i i o
  cases ha with
  | ptr hr =>
    rename_i rb
    simp only[cX]at hl
    obtain⟨g,hg,hl⟩:=hl
    cases g with
    | true =>
      simp only[cX]at hl
      obtain⟨n,hn,l,hl,hv⟩:=hl
      injection hv with hv;subst hv
      obtain⟨l',h1,h2,h3⟩:=B8 h hr hl
      have hrun:(loadVar t ⟨rb.b,rb.off+o,none⟩).run P w=.ok (.agg l'.toArray) w:=by
        simp[loadVar,FS hg,Ag hn,h3 w rfl]
      exact⟨.agg l'.toArray,by simp[Instr.loadAt,Instr.sureAddr,hrun],.agg (by simpa using h1),_,rfl,hrun⟩
    | false =>
      obtain⟨v',h1,h2⟩:=Iq h hr hl
      have hrun:(loadVar t ⟨rb.b,rb.off+o,none⟩).run P w=.ok v' w:=by
        simp[loadVar,FS hg,h2]
      exact⟨v',by simp[Instr.loadAt,Instr.sureAddr,hrun],h1,_,rfl,hrun⟩
end
section
variable{P:Program}{ρ ρ1 ρ2:Au}{s s1 s2:AD}{w w1 w2:World}
theorem Sm{e:TypeId}{sz:Nat}{l:List AV}{cs:Array Value}(hl:AJ ρ l cs.toList)(b:Nat)(hb:w.heap[b]? = some (.cells cs e (0,0))):
  Eh P ρ w (Hg e sz l) ⟨b,0,l.length,sz⟩:=by
 have hlen:=hl.length
 refine⟨?_,cJ _,rfl,fun _=>rfl,fun _=>⟨cs,hb,by simp[hlen]⟩,fun _=>rfl,(fun g hg=>by cases hg),fun p hp=>by cases hp⟩
 intro k v hk hv
 simp only[AI.get_fill,cp,cK,true_and,Nat.sub_zero]at hv
 rw[if_pos hk]at hv
 obtain⟨v',h1,h2⟩:=hl.get hv
 refine⟨v',?_,h2⟩
 simp only[World.cell?,hb,cK]
 rw[← Array.getElem?_toList]
 simpa using h1
theorem FR(h:Ax P ρ s w)(hf:ρ s.next=none){e:TypeId}{sz:Nat}{l:List AV}{cs:Array Value}(hl:AJ ρ l cs.toList):
  ∃ρ',ρ' s.next=some ⟨w.heap.size,0,l.length,sz⟩∧Ax P ρ' (newObj s (Hg e sz l)) (w.alloc (.cells cs e))∧Fr ρ s w ρ' (newObj s (Hg e sz l)) (w.alloc (.cells cs e)):=by
 have hle:=BR (rb:=⟨w.heap.size,0,l.length,sz⟩) hf
 obtain⟨h1,h2⟩:=h.new (o:=Hg e sz l) (o':=.cells cs e) (rb:=⟨w.heap.size,0,l.length,sz⟩) hf rfl
  (Sm (hl.mono hle) _ (World.alloc_heap_new w _))
 exact⟨_,AP _ _,h1,h2⟩
theorem FU        (h : Ax  P ρ s w) {i off : Nat} {vs : List AV} {vs' : List Value} {rb : RB} (hr : ρ i = some rb) (hs : Bt     s i off vs = some s1) (hv : AJ    ρ vs vs') :
    ∃w1,(storeCells ⟨rb.b,rb.off+off,none⟩ vs').run P w=.ok () w1∧Ax P ρ s1 w1∧Fr ρ s w ρ s1 w1:=by
  cases vs with
  | nil =>
    cases hv
    simp only[Bt]at hs
    injection hs with hs
    subst hs
    exact⟨w,rfl,h,Fr.refl _ _ _⟩
  | cons v0 vs0 =>
    have hsv:Bt s i off (v0::vs0)=(rowAt s i).bind fun r =>
      AH (C4 r.mode && Nat.ble (off+(v0::vs0).length) r.n && Aa (v0::vs0))
        (some (setObj (A4 s i r) i (.row { r with c:=r.c.fill off (v0::vs0),par:=none }))):=rfl
    rw[hsv]at hs
    generalize v0::vs0=vs at hs hv
    simp only[cX]at hs
    obtain⟨r,hrow,hs⟩:=hs
    obtain⟨hb,hs⟩:=AB hs
    injection hs with hs
    subst hs
    simp only[Bool.and_eq_true,ce]at hb
    obtain⟨⟨hown,hle⟩,hall⟩:=hb
    have hg:=Ay hrow
    have hok:Bi ρ w r rb:=h.obj i _ rb hg hr
    have hmode:r.mode≠.ro:=fun e=>by rw[e]at hown;cases hown
    obtain⟨cs,hblk,hsz⟩:=hok.own hmode
    obtain⟨e,he0⟩:∃e,r.elem=e:=⟨_,rfl⟩
    rw[he0]at hblk
    have hlen:=hv.length
    have hfit:rb.off+off+vs'.length≤cs.size:=by have:=hok.le;omega
    have hrun:=run_storeCells_at P rb.b (rb.off+off) e vs' 0 cs w hblk (by simpa using hfit) (hv.oneCell hall)
    refine⟨_,hrun,?_⟩
    simp only[dW]
    generalize hnew:(cs.toList.take (rb.off+off)++vs'++cs.toList.drop (rb.off+off+vs'.length)).toArray=cs1
    have hblk1:(w.setRow rb.b cs1).heap[rb.b]? = some (.cells cs1 e (0,0)):=setRow_heap w rb.b cs cs1 e (0,0) hblk
    have hsize1:cs1.size=cs.size:=by rw[← hnew];simp;omega
    have hget:∀k,cs1[k]? = if rb.off+off≤k∧k<rb.off+off+vs'.length then vs'[k - (rb.off+off)]? else cs[k]? := by
      intro k
      rw[← hnew,List.getElem?_toArray]
      by_cases h1:k<rb.off+off
      · rw[if_neg (by omega),dP,dA (by simp;omega),de h1,Array.getElem?_toList]
      · rw[dP,dB (by simp;omega)]
        have hmin:(cs.toList.take (rb.off+off)).length=rb.off+off:=by simp;omega
        rw[hmin]
        by_cases h2:k<rb.off+off+vs'.length
        · rw[if_pos (by omega),dA (by omega)]
        · rw[if_neg (by omega),dB (by omega),df,← Array.getElem?_toList]
          congr 1
          omega
    have key:∀sx:AD,Ax P ρ sx w→Fr ρ s w ρ sx w→sx.heap.get i=some (.row r)→(∀p,r.par=some p→p≠i→sx.heap.get p=none) →
        Ax P ρ (setObj sx i (.row { r with c:=r.c.fill off vs,par:=none })) (w.setRow rb.b cs1) ∧
        Fr ρ s w ρ (setObj sx i (.row { r with c:=r.c.fill off vs,par:=none })) (w.setRow rb.b cs1):=by
      intro sx hx hfx hgx hpx
      obtain⟨h1,h2⟩:=hx.set (o1:=.row { r with c:=r.c.fill off vs,par:=none }) (w1:=w.setRow rb.b cs1) hgx hr (by simpa[wr]using hown) hpx rfl (by simp)
        (fun b hb=>setRow_other w rb.b b cs1 hb) rfl rfl rfl (by
          refine⟨?_,hok.le,hok.sz,hok.tight,fun _=>⟨cs1,by show _=some (Obj.cells cs1 r.elem (0,0));rw[he0];exact hblk1,by rw[hsize1];exact hsz⟩,hok.base,hok.gl,fun p hp=>by cases hp⟩
          intro k v hk hkv
          simp only[AI.get_fill]at hkv
          have hcell:(w.setRow rb.b cs1).cell? ⟨rb.b,rb.off+k,none⟩=cs1[rb.off+k]? := by simp[World.cell?,hblk1]
          rw[hcell,hget]
          by_cases hin:off≤k∧k<off+vs.length
          · rw [if_pos hin] at hkv
            rw[if_pos (by omega),show rb.off+k - (rb.off+off)=k - off from by omega]
            exact hv.get hkv
          · rw [if_neg hin] at hkv
            rw[if_neg (by omega)]
            obtain⟨v',h1,h2⟩:=hok.cells k v hk hkv
            refine⟨v',?_,h2⟩
            simpa[World.cell?,hblk]using h1)
      exact⟨h1,hfx.trans h2⟩
    unfold A4
    split
    · rename_i hp
      exact key s h (Fr.refl _ _ _) hg (fun p hp' _=>by rw[hp]at hp';cases hp')
    · rename_i p hp
      by_cases hpi:p=i
      · have:Nat.beq p i=true:=by rw[hpi];simp[dN]
        rw[this]
        exact key s h (Fr.refl _ _ _) hg (fun q hq hqi=>by rw[hp]at hq;injection hq with hq;exact absurd (hq.symm.trans hpi) hqi)
      · rw[AI.beq_no hpi]
        obtain⟨rp,hrp⟩:=hok.par p hp
        obtain⟨hd,hfd⟩:=h.del hrp
        exact key (Bn s p) hd hfd (by rw[Az,if_neg (fun e=>hpi e.symm)];exact hg) (fun q hq _=>by
          rw[hp]at hq
          injection hq with hq
          subst hq
          rw[Az,if_pos rfl])
theorem AZ{a b:Nat}(h:Nat.beq a b=true):a=b:=cq h
theorem P0(h:Ax P ρ s w){t:TypeId}{a v:AV}{a' v':Value}(hs:At P s t a v=some s1)(ha:AL ρ a a')(hv:AL ρ v v'):
  ∃w1,(Instr.storeAt t a' v').run P w=.ok () w1∧Ax P ρ s1 w1∧Fr ρ s w ρ s1 w1:=by
 unfold At at hs
 split at hs<;>first | (cases hs;done) | skip
 rename_i i o
 cases ha with
 | ptr hr =>
  rename_i rb
  simp only[cX]at hs
  obtain⟨n,hn,hs⟩:=hs
  obtain⟨hb,hs⟩:=AB hs
  have hb:=AZ hb
  obtain⟨w1,h1,h2⟩:=FU h hr hs hv.cells
  refine⟨w1,?_,h2⟩
  have hc:v'.cells.size=n:=by have:=hv.cells.length;simp at this;omega
  simp[Instr.storeAt,Instr.sureAddr,storeVar,Ag hn,hc,h1]
def JT(P:Program)(ρ:Au)(s:AD)(w:World)(sem:Sem Value)(o:Ae)(m:Made):Prop:=
 ∃v' w' ρ',sem.run P w=.ok v' w'∧AL ρ' (m.val s.next) v'∧Ax P ρ' (newObj s o) w'∧Fr ρ s w ρ' (newObj s o) w'
theorem Oo(h:Ax P ρ s w)(hf:ρ s.next=none){e:TypeId}{o:Ae}{m:Made}(hs:Bl P e=some (o,m)):
  JT P ρ s w (Instr.alloc e true (.tuple #[])) o m:=by
 unfold Bl at hs
 simp only[cX]at hs
 obtain⟨z,hz,hs⟩:=hs
 injection hs with hs
 injection hs with h1 h2
 subst h1;subst h2
 obtain⟨z',hz',hzr⟩:=Gj (w:=w) ρ hz
 obtain⟨ρ',h1,h2,h3⟩:=FR h hf (e:=e) (sz:=0) hzr.cells
 exact⟨.pointer (some ⟨w.heap.size,0,none⟩),_,ρ',by simp[Instr.alloc,hz',newVar,newRow],AL.ptr h1,h2,h3⟩
theorem Ts(h:Ax P ρ s w)(hf:ρ s.next=none){e:TypeId}{v:AV}{v':Value}{o:Ae}{m:Made}(hs:Cx e v=some (o,m))(hv:AL ρ v v'):
  JT P ρ s w (Instr.box e v') o m:=by
 unfold Cx at hs
 injection hs with hs
 injection hs with h1 h2
 subst h1;subst h2
 obtain⟨ρ',h1,h2,h3⟩:=FR h hf (e:=e) (sz:=0) hv.cells
 exact⟨.pointer (some ⟨w.heap.size,0,none⟩),_,ρ',by simp[Instr.box,newVar,newRow],AL.ptr h1,h2,h3⟩
theorem M7(h:Ax P ρ s w)(hf:ρ s.next=none)(t kt:TypeId):JT P ρ s w (Instr.makeMap t none) (.map kt []) .map:=by
 have hle:=BR (rb:=⟨w.heap.size,0,0,0⟩) hf
 obtain⟨h1,h2⟩:=h.new (o:=.map kt []) (o':=.map #[] 0) (rb:=⟨w.heap.size,0,0,0⟩) hf rfl ⟨#[],0,World.alloc_heap_new w _,MapKept.stamped_empty 0,⟨[],.refl _,.nil⟩,by simp⟩
 exact⟨.map (some w.heap.size),_,_,by simp[Instr.makeMap,newObj],AL.map (AP _ _),h1,h2⟩
theorem Ic       {place : Nat → Option (Nat × Nat)} {place' : Nat → Option (Nat × Nat)} (hp : ∀ i p, place i = some p → place' i = some p) :
    ∀ {parts:List (Nat×AV)} {parts':List (Nat×Value)} {cs l:List AV} {cs':Array Value},Ib place cs parts=some l→AJ ρ cs cs'.toList →
      (parts.map (·.1)=parts'.map (·.1))→AJ ρ (parts.map (·.2)) (parts'.map (·.2))→∃l',Instr.fill place' cs' parts'=some l'∧AJ ρ l l'.toList:=by
  intro parts
  induction parts with
  | nil =>
    intro parts' cs l cs' h hc hm hv
    cases parts' with
    | nil=>simp[Ib]at h;subst h;exact⟨cs',rfl,hc⟩
    | cons=>simp at hm
  | cons p rest ih =>
    intro parts' cs l cs' h hc hm hv
    cases parts' with
    | nil=>simp at hm
    | cons p' rest' =>
      obtain⟨i,v⟩:=p
      obtain⟨i',v'⟩:=p'
      simp only[cz,List.cons.injEq]at hm
      obtain⟨hi,hm⟩:=hm
      skip
      subst hi
      simp only[cz]at hv
      cases hv with
      | cons hv hvs =>
        simp only[Ib,cX]at h
        obtain⟨q,hq,h⟩:=h
        obtain⟨hb,h⟩:=AB h
        simp only[Bool.and_eq_true,ce]at hb
        obtain⟨hb1,hb2⟩:=hb
        have hb1:=AZ hb1
        have hvc:=hv.cells
        have hvl:=hvc.length
        have hcl:=hc.length
        simp only[Array.length_toList]at hvl hcl
        have hnew:AJ ρ (cs.take q.1++(v.cells++cs.drop (q.1+v.cells.length)))
            (v'.cells.zipIdx.foldl (fun cs (c,j)=>cs.setIfInBounds (q.1+j) c) cs').toList:=by
          have e:(v'.cells.zipIdx.foldl (fun cs (c,j)=>cs.setIfInBounds (q.1+j) c) cs').toList=cs'.toList.take q.1++(v'.cells.toList++cs'.toList.drop (q.1+v.cells.length)):=by
            have key:∀ (l:List Value) (k:Nat) (a:Array Value),q.1+k+l.length≤a.size →
                ((l.zipIdx k).foldl (fun cs (x:Value×Nat)=>cs.setIfInBounds (q.1+x.2) x.1) a).toList=a.toList.take (q.1+k)++(l++a.toList.drop (q.1+k+l.length)):=by
              intro l
              induction l with
              | nil=>intro k a _;simp
              | cons x l ihl =>
                intro k a hk
                simp only[cN]at hk
                rw[List.zipIdx_cons,dX,ihl (k+1) _ (by simp;omega)]
                simp only[Array.toList_setIfInBounds,cN]
                have e:=list_seg_step a.toList (q.1+k) x l (by simp;omega)
                simpa[dH,dP]using e
            have:=key v'.cells.toList 0 cs' (by simp;omega)
            simp only[dW]at this
            rw[← Array.foldl_toList,Array.toList_zipIdx]
            rw[hvl]
            simpa using this
          rw[e]
          exact(hc.take _).append (hvc.append (hc.drop _))
        obtain⟨l',h1,h2⟩:=ih h hnew hm hvs
        refine⟨l',?_,h2⟩
        have hpq:=hp i q hq
        obtain⟨o,n⟩:=q
        simp only[Instr.fill,hpq]
        have c1:¬ (v'.cells.size≠n∨o+v'.cells.size > cs'.size):=by simp only at hb1 hb2;omega
        have:(decide (v'.cells.size≠n) || decide (o+v'.cells.size > cs'.size))=false:=by
          rw[Bool.eq_false_iff];intro hh;apply c1;simpa using hh
        simp only[this]
        exact h1
theorem Fi:∀ {fs:List Field}{l:List (Nat×Nat)},DX P fs=some l →
  ∀w:World,((fs.mapM fun f=>do pure (f.offset,← sizeOf f.type):Sem (List (Nat×Nat)))).run P w=.ok l w
 | [],l,h,w=>by simp[DX]at h;subst h;rfl
 | f::fs,l,h,w=>by
  simp only[DX,cX]at h
  obtain⟨n,hn,r,hr,h⟩:=h
  injection h with h
  subst h
  have ih:=Fi hr w
  simp only[dg,Sem.run_bind,Ag hn,Sem.run_pure,Result.andThen_ok,ih]
theorem Ov{t:TypeId}{parts:List (Nat×AV)}{parts':Array (Nat×Value)}{v:AV}(h:AT P t parts=some v)
  (hm:parts.map (·.1)=parts'.toList.map (·.1)) (hv:AJ ρ (parts.map (·.2)) (parts'.toList.map (·.2))) (w:World):
  ∃v',(Instr.build t parts').run P w=.ok v' w∧AL ρ v v':=by
 unfold AT at h
 simp only[cX]at h
 obtain⟨z,hz,h⟩:=h
 obtain⟨z',hz',hzr⟩:=Gj (w:=w) ρ hz
 split at h<;>first | (cases h;done) | skip
 ·rename_i fields hf
  simp only[cX]at h
  obtain⟨places,hpl,l,hl,h⟩:=h
  injection h with h
  subst h
  have hpl':=Fi hpl w
  obtain⟨l',h1,h2⟩:=Ic (place':=fun i=>(places.toArray)[i]?) (fun i p hp=>by simpa using hp) hl hzr.cells hm hv
  refine⟨.agg l',?_,.agg h2⟩
  have hma:(fields.mapM fun f=>do pure (f.offset,← sizeOf f.type):Sem (Array (Nat×Nat))).run P w=.ok places.toArray w:=by
   rw[Array.mapM_eq_mapM_toList,Sem.run_map,hpl']
   rfl
  simp only[Instr.build,Sem.run_bind,hz',Result.andThen_ok,AE hf,hma,h1,Sem.run_pure]
 ·rename_i len e hf
  simp only[cX]at h
  obtain⟨n,hn,l,hl,h⟩:=h
  injection h with h
  subst h
  obtain⟨l',h1,h2⟩:=Ic (place':=fun i=>some (i * n,n)) (fun i p hp=>hp) hl hzr.cells hm hv
  refine⟨.agg l',?_,.agg h2⟩
  simp only[Instr.build,Sem.run_bind,hz',Result.andThen_ok,AE hf,Ag hn,h1,Sem.run_pure]
theorem Kx      {z : AV} {z' : Value} {n c : Nat} (hz : AL   ρ z z') (hl : z.cells.length = n) :
    AJ ρ (P5 z.cells c) (((Array.range (c * n)).map (z'.cells[· % z'.cells.size]!)).toList):=by
  have hc:=hz.cells
  have hlen:z'.cells.size=n:=by have:=hc.length;simp at this;omega
  have hrl:∀c,(P5 z.cells c).length=c * n:=by
    intro c
    induction c with
    | zero=>simp[P5]
    | succ c ih=>simp[P5,ih,hl,Nat.succ_mul];omega
  have hrg:∀ (c k:Nat),k<c * n→(P5 z.cells c)[k]? = z.cells[k % n]? := by
    intro c
    induction c with
    | zero=>intro k hk;omega
    | succ c ih =>
      intro k hk
      simp only[P5]
      by_cases h1:k<n
      · rw[dA (by omega),Nat.mod_eq_of_lt h1]
      · rw [dB                         (by omega), hl, ih (k - n) (by rw [Nat.succ_mul] at hk; omega)]
        rw[← Nat.mod_eq_sub_mod (by omega)]
  refine AJ.of_get (by simp[hrl]) ?_
  intro k v v' hv hv'
  have hk:k<c * n:=by
    rcases cZ k (c * n)with h | h
    · exact h
    · rw[cm (by rw[hrl];omega)]at hv;cases hv
  have hn:0<n:=by
    rcases dK n with h | h
    · subst h;simp at hk
    · exact h
  rw[hrg c k hk]at hv
  obtain⟨u,h1,h2⟩:=hc.get hv
  have:v'=u:=by
    rw[Array.getElem?_toList,Array.getElem?_map,Array.getElem?_range]at hv'
    rw[if_pos hk]at hv'
    simp only[dJ]at hv'
    injection hv' with hv'
    rw[← hv',hlen]
    rw[Array.getElem?_toList]at h1
    rw[getElem!_def,h1]
  rw[this]
  exact h2
theorem K1(h:Ax P ρ s w)(hf:ρ s.next=none){t:TypeId}{len:Nat}{parts:List (Nat×AV)}{parts':Array (Nat×Value)}{o:Ae}(hs:AY P t len parts=some o)
  (hm:parts.map (·.1)=parts'.toList.map (·.1)) (hv:AJ ρ (parts.map (·.2)) (parts'.toList.map (·.2))):
  JT P ρ s w (Instr.buildSlice t len parts') o (.slice len):=by
 unfold AY at hs
 split at hs<;>first | (cases hs;done) | skip
 rename_i e he
 simp only[cX]at hs
 obtain⟨n,hn,hs⟩:=hs
 obtain⟨hb,hs⟩:=AB hs
 have hb:len * n≤16777216:=by simpa[ce]using hb
 simp only[cX]at hs
 obtain⟨z,hz,hs⟩:=hs
 obtain⟨hc,hs⟩:=AB hs
 simp only[cX]at hs
 obtain⟨l,hl,hs⟩:=hs
 injection hs with hs
 subst hs
 obtain⟨z',hz',hzr⟩:=Gj (w:=w) ρ hz
 have hz2:=Kx (c:=len) hzr (AZ hc)
 obtain⟨l',h1,h2⟩:=Ic (place':=fun i=>some (i * n,n)) (fun i p hp=>hp) hl hz2 hm hv
 obtain⟨ρ',g1,g2,g3⟩:=FR h hf (e:=e) (sz:=n) h2
 refine⟨.slice (some ⟨w.heap.size,0,none⟩) len len,_,ρ',?_,AL.slice g1 (cJ _),g2,g3⟩
 have hbig:¬ len * n > 2 ^ 24:=by omega
 by_cases h0:len * n=0
 ·have hr0:Array.range 0=#[]:=by simp
  rw[h0,hr0]at h1
  simp only[Array.map_empty]at h1
  simp[Instr.buildSlice,AE he,Ag hn,h0,hr0,h1,newRow]
 ·simp[Instr.buildSlice,AE he,Ag hn,hbig,h0,hz',h1,newRow]
theorem JN(h:Ax P ρ s w)(hf:ρ s.next=none){t:TypeId}{l c:AV}{l' c':Value}{o:Ae}{m:Made}(hs:EZ P t l c=some (o,m))
  (hl:AL ρ l l') (hc:AL ρ c c'):JT P ρ s w (Instr.makeSlice t l' c') o m:=by
 unfold EZ at hs
 split at hs<;>first | (cases hs;done) | skip
 rename_i e l0 c0 he
 cases hl;cases hc
 simp only[cX]at hs
 obtain⟨by_,hby,n,hn,hs⟩:=hs
 obtain⟨hb,hs⟩:=AB hs
 simp only[Bool.and_eq_true,ce]at hb
 obtain⟨⟨hlc,hb1⟩,hb2⟩:=hb
 have hlc:=AZ hlc
 subst hlc
 simp only[cX]at hs
 obtain⟨z,hz,hs⟩:=hs
 obtain⟨hc,hs⟩:=AB hs
 injection hs with hs
 injection hs with hs1 hs2
 subst hs1;subst hs2
 obtain⟨z',hz',hzr⟩:=Gj (w:=w) ρ hz
 have hz2:=Kx (c:=l0) hzr (AZ hc)
 obtain⟨i,hi,hi2⟩:=Pu (w:=w) hby
 obtain⟨ρ',g1,g2,g3⟩:=FR h hf (e:=e) (sz:=n) hz2
 refine⟨.slice (some ⟨w.heap.size,0,none⟩) l0 l0,_,ρ',?_,AL.slice g1 (cJ _),g2,g3⟩
 have hw:IntKind.i64.wrap (l0:Int)=(l0:Int):=IC (k:=.i64) (n:=Int.ofNat l0) (by simp[A9,ce];omega)
 have hmul:((by_:Int) * (l0:Int))≤1099511627776:=by
  have:((by_ * l0:Nat):Int)≤1099511627776:=by omega
  simpa using this
 have h1:¬ ((l0:Int)<0):=by omega
 have h2:¬ ((i.bytes:Int) * (l0:Int) > 2 ^ 48):=by rw[hi2];omega
 have h3:¬ ((281474976710656:Int)<(i.bytes:Int) * (l0:Int)):=by omega
 by_cases h0:l0 * n=0
 ·have hr0:Array.range 0=#[]:=by simp
  simp[Instr.makeSlice,AE he,asInt,asIntOf,hi,hw,h1,h3,Ag hn,h0,newRow,hr0]
 ·simp[Instr.makeSlice,AE he,asInt,asIntOf,hi,hw,h1,h3,Ag hn,h0,hz',newRow]
end
end
end Go.Proofs.YtickdehehcmfbaaGreatDoor.Am
