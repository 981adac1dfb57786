/- Binary tries over Nat keys, made for evaluation by the kernel: get, set, and their laws; conditions: none. -/
import GoSem.Dispatch
import GoSem.ClaimKeys
import Derived.DeepKeys2
import Derived.CallsIn
import Derived.Laws.Sem
import Derived.MapKept
import Derived.Laws.Entries
import Derived.Laws.Slices
import Derived.Laws.Strings
import Derived.Lib.Hide
import Derived.Laws.CopyRow
import Derived.Laws.Cells
import Derived.RangeFuncRecord
import Derived.Below
namespace Go.Proofs.YtoaaclpjkelofaaGreatDoor.Am
noncomputable section
abbrev tH := @Option.bind_eq_some_iff
abbrev tJ := @Nat.le_refl
abbrev tK := @Nat.ble_eq
abbrev tL := @Nat.lt_or_ge
abbrev tM := @Nat.eq_of_beq_eq_true
abbrev tN := @Nat.le_trans
abbrev tO := @Nat.lt_of_lt_of_le
abbrev tP := @Nat.blt_eq
abbrev tQ := @List.getElem?_eq_getElem
abbrev tR := @Nat.zero_add
abbrev tS := @List.mem_cons_self
abbrev tT := @Nat.mul_one
abbrev tU := @Nat.mul_comm
abbrev tV := @Nat.zero_le
abbrev tW := @List.mem_cons_of_mem
abbrev tX := @List.length_append
abbrev tY := @List.getElem?_eq_none
abbrev tZ := @Nat.add_zero
abbrev ta := @List.map_cons
abbrev tb := @Nat.mul_assoc
abbrev td := @Nat.mul_le_mul_right
abbrev tf := @List.mem_of_getElem?
abbrev tg := @List.append_assoc
abbrev th := @Nat.mul_add
abbrev ti := @Nat.mod_lt
abbrev tj := @Nat.add_mul
abbrev tp := @List.length_take
abbrev tq := @List.length_cons
abbrev tr := @Nat.mod_eq_of_lt
abbrev tt := @Nat.mul_le_mul_left
abbrev tu := @Nat.le_of_eq
abbrev tv := @Nat.add_assoc
abbrev tw := @Nat.succ_mul
abbrev tz := @List.length_map
abbrev t6 := @Nat.lt_succ_self
abbrev t7 := @Nat.le_succ
abbrev t8 := @List.drop_eq_getElem_cons
abbrev uA := @Option.map_some
abbrev uB := @List.getElem?_append_left
abbrev uC := @List.getElem?_append_right
abbrev uD := @Nat.div_lt_iff_lt_mul
abbrev uE := @List.set_cons_zero
abbrev uF := @Nat.pow_succ
abbrev uG := @List.getElem?_map
abbrev uH := @Nat.lt_of_le_of_lt
abbrev uI := @Nat.mul_zero
abbrev uJ := @Nat.pow_pos
abbrev uK := @List.drop_eq_nil_of_le
abbrev uL := @Nat.eq_zero_or_pos
abbrev uM := @List.drop_drop
abbrev uN := @List.length_drop
abbrev uO := @Nat.beq_eq
abbrev uP := @Nat.div_eq_of_lt
abbrev uQ := @List.eq_nil_of_length_eq_zero
abbrev uR := @List.all_eq_true
abbrev uS := @List.nodup_cons
abbrev uT := @List.mem_cons
abbrev uU := @List.getElem?_set_ne
abbrev uV := @List.length_nil
abbrev uW := @Nat.mul_le_mul
abbrev uX := @Nat.pow_le_pow_right
abbrev uY := @List.drop_zero
abbrev uZ := @List.getElem?_take_of_lt
abbrev ua := @Nat.min_eq_left
abbrev ub := @List.length_set
abbrev uc := @Nat.le_of_ble_eq_true
abbrev ud := @List.append_nil
abbrev ue := @Nat.lt_of_mul_lt_mul_right
abbrev uf := @List.length_zip
abbrev ug := @List.mem_append_left
abbrev uh := @List.zip_cons_cons
abbrev uj := @Nat.mod_mod
abbrev uk := @List.getElem?_drop
abbrev ul := @List.mem_singleton
abbrev um := @Nat.lt_succ_of_lt
abbrev un := @Nat.lt_trichotomy
abbrev uo := @Nat.mod_add_div
abbrev uq := @Nat.add_sub_cancel
abbrev ur := @List.take_append_drop
abbrev ut := @Int.ofNat_eq_natCast
abbrev uu := @List.mem_append
abbrev uv := @List.nil_append
abbrev uw := @List.getElem?_set_self
abbrev ux := @Nat.div_le_self
abbrev uy := @List.getD_eq_getElem?_getD
abbrev uz := @List.take_zero
abbrev u4 := @Nat.mul_lt_mul_of_pos_right
abbrev u5 := @Nat.testBit_two_pow
inductive AE (α:Type) where
 | leaf
 | node (v:Option α) (l r:AE α)
namespace AE
variable{α:Type}
def get (t:AE α):Nat→Option α:=
 AE.rec (fun _=>none) (fun v _ _ il ir k=>Nat.rec v (fun k _=>Bool.rec (ir (Nat.div k 2)) (il (Nat.div k 2)) (Nat.beq (Nat.mod k 2) 0)) k) t
theorem JZ(v:Option α)(l r:AE α)(k:Nat):(node v l r).get (k+1)=bif Nat.beq (k % 2) 0 then l.get (k / 2)else r.get (k / 2):=by
 show @Bool.rec (fun _=>Option α) (r.get (k / 2)) (l.get (k / 2)) (Nat.beq (k % 2) 0)=_
 cases Nat.beq (k % 2) 0<;>rfl
def val:AE α→Option α
 | .leaf=>none
 | .node v _ _=>v
def left:AE α→AE α
 | .leaf=>.leaf
 | .node _ l _=>l
def right:AE α→AE α
 | .leaf=>.leaf
 | .node _ _ r=>r
def gp(v:Option α)(l r:AE α):AE α:=
 match l with
 | .leaf=>.node v .leaf r
 | .node x a b=>.node v (.node x a b) r
def gq(v:Option α)(l r:AE α):AE α:=
 match r with
 | .leaf=>.node v l .leaf
 | .node x a b=>.node v l (.node x a b)
def GJ {β:Type} (t:AE α) (k:AE α→β):β:=AE.rec (k .leaf) (fun v l r _ _=>k (.node v l r)) t
theorem HN{β:Type}(t:AE α)(k:AE α→β):GJ t k=k t:=by cases t<;>rfl
def setF (w:Option α) (f:Nat):AE α→Nat→AE α:=
 Nat.rec (fun t _=>t) (fun _ ih t k=>AE.rec (Nat.rec (.node w .leaf .leaf) (fun k _=>Bool.rec (GJ (ih .leaf (Nat.div k 2)) fun r=>.node none .leaf r) (GJ (ih .leaf (Nat.div k 2)) fun l=>.node none l .leaf) (Nat.beq (Nat.mod k 2) 0)) k)
  (fun v l r _ _=>Nat.rec (.node w l r) (fun k _=>Bool.rec (GJ (ih r (Nat.div k 2)) fun r=>.node v l r) (GJ (ih l (Nat.div k 2)) fun l=>.node v l r) (Nat.beq (Nat.mod k 2) 0)) k) t) f
theorem setF_at(w:Option α)(f:Nat)(t:AE α):setF w (f+1) t 0=.node w t.left t.right:=by cases t<;>rfl
theorem setF_step(w:Option α)(f:Nat)(t:AE α)(k:Nat):setF w (f+1) t (k+1)=bif Nat.beq (k % 2) 0 then gp t.val (setF w f t.left (k / 2)) t.right else gq t.val t.left (setF w f t.right (k / 2)):=by
 have hL:∀ (v:Option α) (l r:AE α),gp v l r=.node v l r:=fun v l r=>by cases l<;>rfl
 have hR:∀ (v:Option α) (l r:AE α),gq v l r=.node v l r:=fun v l r=>by cases r<;>rfl
 rw[hL,hR]
 cases t with
 | leaf =>
  show @Bool.rec (fun _=>AE α) (GJ (setF w f .leaf (k / 2)) fun r=>.node none .leaf r) (GJ (setF w f .leaf (k / 2)) fun l=>.node none l .leaf) (Nat.beq (k % 2) 0)=_
  rw[HN,HN]
  cases Nat.beq (k % 2) 0<;>rfl
 | node v l r =>
  show @Bool.rec (fun _=>AE α) (GJ (setF w f r (k / 2)) fun r=>.node v l r) (GJ (setF w f l (k / 2)) fun l=>.node v l r) (Nat.beq (k % 2) 0)=_
  rw[HN,HN]
  cases Nat.beq (k % 2) 0<;>rfl
def put(t:AE α)(k:Nat)(v:Option α):AE α:=setF v (k+1) t k
def set(t:AE α)(k:Nat)(v:α):AE α:=t.put k (some v)
def del(t:AE α)(k:Nat):AE α:=t.put k none
theorem beq_no{a b:Nat}(h:¬ a=b):Nat.beq a b=false:=by
 cases e:Nat.beq a b with
 | false=>rfl
 | true=>exact absurd (tM e) h
theorem nodeL_eq(v:Option α)(l r:AE α):gp v l r=.node v l r:=by cases l<;>rfl
theorem nodeR_eq(v:Option α)(l r:AE α):gq v l r=.node v l r:=by cases r<;>rfl
theorem get_leaf(k:Nat):(leaf:AE α).get k=none:=rfl
theorem M8(t:AE α):t.get 0=t.val:=by cases t<;>rfl
theorem get_succ(t:AE α)(k:Nat):t.get (k+1)=if k % 2=0 then t.left.get (k / 2)else t.right.get (k / 2):=by
 cases t with
 | leaf=>simp[get,left,right]
 | node v l r =>
  by_cases h:k % 2=0
  ·rw[JZ,h];rfl
  ·have:Nat.beq (k % 2) 0=false:=beq_no h
   rw[JZ,this];simp[right,h]
def mapO{β:Type}(f:α→Option β):AE α→AE β
 | .leaf=>.leaf
 | .node v l r=>.node (v.bind f) (mapO f l) (mapO f r)
theorem get_mapO{β:Type}(f:α→Option β):∀ (t:AE α)(k:Nat),(t.mapO f).get k=(t.get k).bind f
 | .leaf,_=>rfl
 | .node v l r,0=>rfl
 | .node v l r,k+1=>by
  show(node _ _ _).get (k+1)=_
  rw[JZ,JZ]
  cases Nat.beq (k % 2) 0 with
  | true=>exact get_mapO f l (k / 2)
  | false=>exact get_mapO f r (k / 2)
theorem fv       (v : Option α) : ∀ (f : Nat) (t : AE   α) (k j : Nat), k < f → (setF v f t k).get j = if j = k then v else t.get j := by
  intro f
  induction f with
  | zero=>intro t k j h;omega
  | succ f ih =>
    intro t k j h
    cases k with
    | zero =>
      cases j with
      | zero=>rw[setF_at];simp[M8,val]
      | succ j=>rw[setF_at];simp[get_succ,left,right]
    | succ k =>
      by_cases hk:k % 2=0
      · have hb:Nat.beq (k % 2) 0=true:=by rw[hk];rfl
        simp only[setF_step,hb,cond_true,nodeL_eq]
        cases j with
        | zero=>simp[M8,val]
        | succ j =>
          by_cases hj:j % 2=0
          · rw[get_succ,get_succ,if_pos hj,if_pos hj]
            simp only[left]
            rw[ih _ _ _ (by omega)]
            by_cases e:j=k
            · subst e;simp
            · rw[if_neg (by omega),if_neg (by omega)]
          · rw[get_succ,get_succ,if_neg hj,if_neg hj,if_neg (by omega)]
            simp only[right]
      · have hb:Nat.beq (k % 2) 0=false:=beq_no hk
        simp only[setF_step,hb,cond_false,nodeR_eq]
        cases j with
        | zero=>simp[M8,val]
        | succ j =>
          by_cases hj:j % 2=0
          · rw[get_succ,get_succ,if_pos hj,if_pos hj,if_neg (by omega)]
            simp only[left]
          · rw[get_succ,get_succ,if_neg hj,if_neg hj]
            simp only[right]
            rw[ih _ _ _ (by omega)]
            by_cases e:j=k
            · subst e;simp
            · rw[if_neg (by omega),if_neg (by omega)]
theorem X2(t:AE α)(k j:Nat)(v:Option α):(t.put k v).get j=if j=k then v else t.get j:=fv v _ t k j (by omega)
theorem get_set(t:AE α)(k j:Nat)(v:α):(t.set k v).get j=if j=k then some v else t.get j:=X2 t k j _
theorem get_del(t:AE α)(k j:Nat):(t.del k).get j=if j=k then none else t.get j:=X2 t k j _
def fill (t:AE α) (k:Nat) (l:List α):AE α:=List.rec (fun t _=>t) (fun v _ ih t k=>ih (t.set k v) (Nat.succ k)) l t k
theorem fill_nil(t:AE α)(k:Nat):t.fill k []=t:=rfl
theorem fill_cons(t:AE α)(k:Nat)(v:α)(l:List α):t.fill k (v::l)=(t.set k v).fill (k+1) l:=rfl
theorem get_fill(l:List α):∀ (t:AE α)(k j:Nat),(t.fill k l).get j=if k≤j∧j<k+l.length then l[j - k]? else t.get j:=by
  induction l with
  | nil=>intro t k j;simp[fill_nil];omega
  | cons v l ih =>
    intro t k j
    simp only[fill_cons,ih,get_set,tq]
    by_cases h1:k+1≤j∧j<k+1+l.length
    · rw [if_pos h1, if_pos (by omega), show j - k = (j - (k + 1)) + 1 from by omega]
      rfl
    · rw[if_neg h1]
      by_cases h2:j=k
      · subst h2;simp
      · rw[if_neg h2,if_neg (by omega)]
def take (t:AE α) (k n:Nat):Option (List α):=
 Nat.rec (fun _=>some []) (fun _ ih k=>Option.rec none (fun v=>Option.rec none (fun l=>some (v::l)) (ih (Nat.succ k))) (t.get k)) n k
theorem take_zero(t:AE α)(k:Nat):t.take k 0=some []:=rfl
theorem take_succ(t:AE α)(k n:Nat):t.take k (n+1)=match t.get k with
  | none=>none
  | some v=>match t.take (k+1) n with
   | none=>none
   | some l=>some (v::l):=by
 show @Option.rec α (fun _=>Option (List α)) none (fun v=>@Option.rec (List α) (fun _=>Option (List α)) none (fun l=>some (v::l)) (t.take (k+1) n)) (t.get k)=_
 cases t.get k with
 | none=>rfl
 | some v=>cases t.take (k+1) n<;>rfl
theorem take_length{t:AE α}{k n:Nat}{l:List α}(h:t.take k n=some l):l.length=n:=by
  induction n generalizing k l with
  | zero=>simp[take_zero]at h;subst h;rfl
  | succ n ih =>
    simp only[take_succ]at h
    split at h
    · cases h
    · split at h
      · cases h
      · rename_i h2;injection h with h;subst h;simp[ih h2]
theorem take_get {t : AE   α} {k n : Nat} {l : List α} (h : t.take k n = some l) (j : Nat) (hj : j < n) : t.get (k + j) = l[j]? := by
  induction n generalizing k l j with
  | zero=>omega
  | succ n ih =>
    simp only[take_succ]at h
    split at h
    · cases h
    · rename_i v hv
      split at h
      · cases h
      · rename_i l' h2
        injection h with h
        subst h
        cases j with
        | zero=>simpa using hv
        | succ j=>rw[show k+(j+1)=k+1+j from by omega,ih h2 j (by omega)];rfl
end AE
end
end Go.Proofs.YtoaaclpjkelofaaGreatDoor.Am
namespace Go.Proofs.YtoaaclpjkelofaaGreatDoor.Am
open Go
noncomputable section
inductive AV where
 | bool (b:Bool)
 | int (k:IntKind) (n:Int)
 | str (s:List Nat)
 | ptr (a:Option (Nat×Nat))
 | gptr (g o:Nat)
 | slice (a:Option (Nat×Nat)) (len:Nat) (cap:Option Nat)
 | map (r:Option Nat)
 | func (f:FuncId) (first cap:List AV)
 | yield (l:Nat)
 | nilFunc
 | iface (t:TypeId) (v:AV)
 | nilIface
 | agg (cs:List AV)
 | tuple (vs:List AV)
 | junk
def Bo:AV:=.tuple []
def AV.cells:AV→List AV
 | .agg cs=>cs
 | v=>[v]
def AV.isCell:AV→Bool
 | .agg _ | .tuple _ | .junk=>false
 | _=>true
def Ag:List AV→Bool
 | []=>true
 | v::l=>v.isCell && Ag l
inductive SB where
 | ro | own | sealed
structure CG where
 elem:TypeId
 sz:Nat
 n:Nat
 c:AE AV
 spare:Bool
 mode:SB
 par:Option Nat
 bytes:Bool
 glob:Option Nat:=none
inductive CX where
 | loc (i:Nat)
 | var (j:Nat)
 | const (v:AV)
inductive Made where
 | ptr | slice (n:Nat) | map
structure FO where
 state:LoopState
 pending:Option Code
 fn:FuncId
 var:List AV
 params:Array Tmp
 assign:Code
 body:Code
 dfr:Nat
inductive AI where
 | row (r:CG)
 | map (kt:TypeId) (es:List (AV×AV))
 | mapRo (kt:TypeId) (es:List (AV×AV))
 | loop (l:FO)
 | mark
 | iter (s:List Nat) (pos:Nat)
structure AD where
 next:Nat
 heap:AE AI
def Jp:Value→Option AV
 | .bool b=>some (.bool b)
 | .int k n=>some (.int k n)
 | .string s=>some (.str (s.data.toList.map (fun(b:UInt8)=>b.toNat)))
 | .pointer none=>some (.ptr none)
 | .slice none 0 0=>some (.slice none 0 (some 0))
 | .map none=>some (.map none)
 | .nilFunc=>some .nilFunc
 | .nilIface=>some .nilIface
 | _=>none
def Ey:List Value→Option (List AV)
 | []=>some []
 | v::l=>(Jp v).bind fun a=>(Ey l).bind fun r=>some (a::r)
def ofValue:Value→Option AV
 | .agg cs=>(Ey cs.toList).bind fun l=>some (.agg l)
 | .tuple vs=>(Ey vs.toList).bind fun l=>some (.tuple l)
 | v=>Jp v
def AF{α:Type}(b:Bool)(x:Option α):Option α:=bif b then x else none
def DQ{α:Type}(P:Program):Sem α→Option α
 | .pure a=>some a
 | .program k=>DQ P (k P)
 | .mark _ k=>DQ P k
 | _=>none
def BM(k:IntKind):Int→Bool
 | .ofNat m=>match k with
  | .i64=>Nat.ble m 9223372036854775807
  | .u64=>Nat.ble m 18446744073709551615
  | .i32=>Nat.ble m 2147483647
  | .u32=>Nat.ble m 4294967295
  | .u8=>Nat.ble m 255
  | .i8=>Nat.ble m 127
  | .u16=>Nat.ble m 65535
  | .i16=>Nat.ble m 32767
 | .negSucc m=>match k with
  | .i64=>Nat.ble m 9223372036854775807
  | .i32=>Nat.ble m 2147483647
  | .i8=>Nat.ble m 127
  | .i16=>Nat.ble m 32767
  | _=>false
def Cb(k:IntKind)(n:Int):Int:=bif BM k n then n else k.wrap n
def O9:Int→Int→Bool
 | .ofNat a,.ofNat b=>Nat.blt a b
 | .ofNat _,.negSucc _=>false
 | .negSucc _,.ofNat _=>true
 | .negSucc a,.negSucc b=>Nat.blt b a
def R9:Int→Int→Bool
 | .ofNat a,.ofNat b=>Nat.beq a b
 | .negSucc a,.negSucc b=>Nat.beq a b
 | _,_=>false
def YA:Int→Option Nat
 | .ofNat m=>some m
 | .negSucc _=>none
def CM:List Nat→List Nat→Bool
 | [],[]=>true
 | a::x,b::y=>bif Nat.beq a b then CM x y else false
 | _,_=>false
def Dw:List Nat→List Nat→Bool
 | _,[]=>false
 | [],_::_=>true
 | a::x,b::y=>bif Nat.blt a b then true else bif Nat.beq a b then Dw x y else false
def YL(op:BinOp)(x y:List Nat):Option AV:=
 match op with
 | .add=>AF (Nat.ble (x.length+y.length) 1152921504606846976) (some (.str (x++y)))
 | .eql=>some (.bool (CM x y))
 | .neq=>some (.bool (!CM x y))
 | .lss=>some (.bool (Dw x y))
 | .leq=>some (.bool (Dw x y || CM x y))
 | .gtr=>some (.bool (!(Dw x y || CM x y)))
 | .geq=>some (.bool (!Dw x y))
 | _=>none
def Ek(P:Program)(t:TypeId):Option Bool:=
 match P.underlying t with
 | some (.struct _) | some (.array _ _)=>some true
 | some _=>some false
 | none=>none
def A1(P:Program)(t:TypeId):Option Nat:=match P.info? t with
 | some i=>some i.size
 | none=>none
def Dy(P:Program)(t:TypeId):Option AV:=match P.info? t with
 | some i=>match i.zero with
  | some v=>ofValue v
  | none=>none
 | none=>none
def DL(P:Program)(t:TypeId):Option Nat:=match P.info? t with
 | some i=>some i.bytes
 | none=>none
def rowAt(s:AD)(i:Nat):Option CG:=match s.heap.get i with
 | some (.row r)=>some r
 | _=>none
def newObj(s:AD)(o:AI):AD:={ next:=s.next+1,heap:=s.heap.set s.next o }
def G7(elem:TypeId)(sz:Nat)(cells:List AV):AI:=
 .row { elem,sz,n:=cells.length,c:=AE.fill .leaf 0 cells,spare:=false,mode:=.own,par:=none,bytes:=true }
def setObj(s:AD)(i:Nat)(o:AI):AD:={ s with heap:=s.heap.set i o }
def Bx(s:AD)(i:Nat):AD:={ s with heap:=s.heap.del i }
def BG(s:AD)(i off n:Nat):Option (List AV):=
 (rowAt s i).bind fun r=>AF (Nat.ble (off+n) r.n) (r.c.take off n)
def B1(s:AD)(i off:Nat):Option AV:=
 (rowAt s i).bind fun r=>AF (Nat.blt off r.n) (r.c.get off)
def A3(s:AD)(i:Nat)(r:CG):AD:=match r.par with
 | none=>s
 | some p=>bif Nat.beq p i then s else Bx s p
def B8:SB→Bool
 | .own=>true
 | _=>false
def Bi(s:AD)(i off:Nat)(vs:List AV):Option AD:=
 match vs with
 | []=>some s
 | _::_=>(rowAt s i).bind fun r =>
  AF (B8 r.mode && Nat.ble (off+vs.length) r.n && Ag vs)
   (some (setObj (A3 s i r) i (.row { r with c:=r.c.fill off vs,par:=none })))
def QZ(s:AD)(g:Nat):Option CG:=(rowAt s g).bind fun r=>match r.glob with
 | some g'=>AF (Nat.beq g' g) (some r)
 | none=>none
def AG(P:Program)(s:AD)(t:TypeId):AV→Option AV
 | .gptr i o=>(QZ s i).bind fun _=>(Ek P t).bind fun g=>match g with
  | true=>(A1 P t).bind fun n=>(BG s i o n).bind fun l=>some (.agg l)
  | false=>B1 s i o
 | .ptr (some (i,o))=>(Ek P t).bind fun g=>match g with
  | true=>(A1 P t).bind fun n=>(BG s i o n).bind fun l=>some (.agg l)
  | false=>B1 s i o
 | _=>none
def AY(P:Program)(s:AD)(t:TypeId)(a v:AV):Option AD:=
 match a with
 | .ptr (some (i,o))=>(A1 P t).bind fun n=>AF (Nat.beq v.cells.length n) (Bi s i o v.cells)
 | _=>none
def Gz(P:Program)(t:TypeId):Bool:=match P.underlying t with
 | some (.pointer _)=>true
 | _=>false
def Jd(P:Program)(t:TypeId):Bool:=match P.underlying t with
 | some (.slice _)=>true
 | _=>false
def Ka(P:Program)(t:TypeId):Bool:=match P.underlying t with
 | some (.map ..)=>true
 | _=>false
def Jc(P:Program)(t:TypeId):Bool:=match P.underlying t with
 | some (.func ..)=>true
 | _=>false
def Q1(P:Program)(t:TypeId):Bool:=match P.underlying t with
 | some .bool=>true
 | _=>false
def kN(P:Program)(t:TypeId):AV→AV→Option Bool
 | .bool a,.bool b=>AF (Q1 P t) (some (a == b))
 | .ptr none,.ptr b=>AF (Gz P t) (some b.isNone)
 | .ptr a,.ptr none=>AF (Gz P t) (some a.isNone)
 | .slice none _ _,.slice b _ _=>AF (Jd P t) (some b.isNone)
 | .slice a _ _,.slice none _ _=>AF (Jd P t) (some a.isNone)
 | .map none,.map b=>AF (Ka P t) (some b.isNone)
 | .map a,.map none=>AF (Ka P t) (some a.isNone)
 | .nilFunc,.nilFunc=>AF (Jc P t) (some true)
 | .func ..,.nilFunc=>AF (Jc P t) (some false)
 | .nilFunc,.func ..=>AF (Jc P t) (some false)
 | _,_=>none
def Bu:IntKind→IntKind→Bool
 | .i8,.i8 | .i16,.i16 | .i32,.i32 | .i64,.i64 | .u8,.u8 | .u16,.u16 | .u32,.u32 | .u64,.u64=>true
 | _,_=>false
def gA(P:Program)(op:BinOp)(k:IntKind)(a b:Int):Option AV:=
 match op with
 | .add=>some (.int k (Cb k (a+b)))
 | .sub=>some (.int k (Cb k (a - b)))
 | .mul=>some (.int k (Cb k (a * b)))
 | .eql=>some (.bool (R9 a b))
 | .neq=>some (.bool (!R9 a b))
 | .lss=>some (.bool (O9 a b))
 | .leq=>some (.bool (!O9 b a))
 | .gtr=>some (.bool (O9 b a))
 | .geq=>some (.bool (!O9 a b))
 | .quo | .rem=>(DQ P (Op.intDiv op k a b)).bind ofValue
 | .shl | .shr=>none
 | _=>(DQ P (Op.intBits op k a b)).bind ofValue
def AP(P:Program)(op:BinOp)(t:TypeId)(x y:AV):Option AV:=
 match x,y with
 | .int k a,.int k' b=>match op with
  | .shl | .shr=>(DQ P (Op.shift op k a k' b)).bind ofValue
  | _=>AF (Bu k k') (gA P op k a b)
 | .str a,.str b=>YL op a b
 | x,y=>match op with
  | .eql=>(kN P t x y).bind fun b=>some (.bool b)
  | .neq=>(kN P t x y).bind fun b=>some (.bool (!b))
  | _=>none
def VD(P:Program)(t:TypeId):Bool:=match P.underlying t with
 | some (.pointer e)=>(match P.info? e with | some j=>!Nat.beq j.size 0 | none=>false)
 | _=>false
def GW(s:AD)(i:Nat):Bool:=match rowAt s i with
 | some r=>B8 r.mode && r.par.isNone
 | none=>false
def GX(P:Program)(s:AD)(neg:Bool)(t:TypeId)(x y:AV):Option AV:=
 match x,y with
 | .ptr (some (i,o)),.ptr (some (j,q))=>AF (VD P t && GW s i && GW s j) (some (.bool ((Nat.beq i j && Nat.beq o q) != neg)))
 | x,y=>AP P (bif neg then .neq else .eql) t x y
def p5(P:Program)(op:UnOp):AV→Option AV
 | .int k n=>match op with
  | .neg=>some (.int k (Cb k (0 - n)))
  | .xor=>(DQ P (Op.unary .xor (.int k n))).bind ofValue
  | _=>none
 | .bool b=>match op with
  | .not=>some (.bool (!b))
  | _=>none
 | _=>none
def M5(place:Nat→Option (Nat×Nat))(cells:List AV):List (Nat×AV)→Option (List AV)
 | []=>some cells
 | (i,v)::rest=>(place i).bind fun p =>
  AF (Nat.beq v.cells.length p.2 && Nat.ble (p.1+v.cells.length) cells.length)
   (M5 place (cells.take p.1++(v.cells++cells.drop (p.1+v.cells.length))) rest)
def FD(P:Program):List Field→Option (List (Nat×Nat))
 | []=>some []
 | f::l=>(A1 P f.type).bind fun n=>(FD P l).bind fun r=>some ((f.offset,n)::r)
def GD(P:Program)(t:TypeId)(parts:List (Nat×AV)):Option AV:=
 (Dy P t).bind fun z=>match P.underlying t with
  | some (.struct fields)=>(FD P fields.toList).bind fun places =>
   (M5 (fun i=>places[i]?) z.cells parts).bind fun l=>some (.agg l)
  | some (.array _ e)=>(A1 P e).bind fun n =>
   (M5 (fun i=>some (i * n,n)) z.cells parts).bind fun l=>some (.agg l)
  | _=>none
def VV(l:List AV):Nat→List AV
 | 0=>[]
 | n+1=>l++VV l n
def An(P:Program)(t:TypeId)(len:Nat)(parts:List (Nat×AV)):Option AI:=
 match P.underlying t with
 | some (.slice e)=>(A1 P e).bind fun n=>AF (Nat.ble (len * n) 16777216) <|
  (Dy P e).bind fun z=>AF (Nat.beq z.cells.length n) <|
   (M5 (fun i=>some (i * n,n)) (VV z.cells len) parts).bind fun l=>some (G7 e n l)
 | _=>none
def Ac(P:Program)(s:AD)(src dst:TypeId)(x:AV):Option AV:=
 match P.underlying src,P.underlying dst,x with
 | some _,some (.int k),.int _ n=>some (.int k (Cb k n))
 | some _,some .string,.str l=>some (.str l)
 | some (.slice e),some .string,.slice a len _=>match P.underlying e with
  | some (.int .u8)=>match a with
   | none=>some (.str [])
   | some (i,o)=>(BG s i o len).bind fun l=>(bytesOf l).bind fun b=>some (.str b)
  | _=>none
 | some (.pointer u),some .unsafePointer,x=>seenPtr u x
 | some .unsafePointer,some (.pointer u),x=>seenPtr u x
 | _,_,_=>none
where
 seenPtr (u:TypeId):AV→Option AV
  | .ptr none=>some (.ptr none)
  | .ptr (some (i,o))=>(rowAt s i).bind fun r=>(A1 P u).bind fun n =>
   AF (B8 r.mode && r.bytes && Nat.beq o 0 && Nat.beq r.elem u && Nat.ble n r.n && !Nat.beq n 0) (some (.ptr (some (i,o))))
  | _=>none
 bytesOf:List AV→Option (List Nat)
  | []=>some []
  | .int .u8 (.ofNat n)::l=>AF (Nat.blt n 256) ((bytesOf l).bind fun r=>some (n::r))
  | _::_=>none
def IB:AV→Option Nat
 | .int _ n=>YA n
 | _=>none
def BY(x:AV)(y:Nat):Option Nat:=(IB x).bind fun i=>AF (Nat.ble i y) (some i)
def Bl(P:Program)(s:AD)(t:TypeId)(x:AV)(lo hi mx:Option AV):Option AV:=
 match x with
 | .str l=>(match mx with | some _=>none | none=>some ()).bind fun _ =>
  (match hi with | some h=>BY h l.length | none=>some l.length).bind fun h =>
  (match lo with | some v=>BY v h | none=>some 0).bind fun o =>
  (match P.underlying t with | some .string=>some () | _=>none).bind fun _=>some (.str ((l.drop o).take (h - o)))
 | .slice a len cap=>match P.underlying t with
  | some (.slice e)=>(A1 P e).bind fun n =>
   (match cap with
    | some c=>some c
    | none=>match a with
     | none=>none
     | some (i,o)=>(rowAt s i).bind fun r=>AF (Nat.ble o r.n && Nat.beq n r.sz && !Nat.beq n 0) (some ((r.n - o) / n))).bind fun far =>
   (match mx with | some m=>(BY m far).bind fun c=>AF (cap.isSome || Nat.blt 0 far) (some (some c)) | none=>some cap).bind fun m =>
   (match hi,m with
    | some h,some c=>BY h c
    | some h,none=>BY h far
    | none,some c=>(match mx with | none=>some len | some _=>(fun(_:Nat)=>none) c)
    | none,none=>some len).bind fun h =>
   (match lo with | some v=>BY v h | none=>some 0).bind fun l =>
   some (.slice
    (match a with
     | none=>none
     | some (i,o)=>match m with
      | some c=>bif Nat.beq c l then some (i,o)else some (i,o+l * n)
      | none=>some (i,o+l * n))
    (h - l) (match m with | some c=>some (c - l) | none=>none))
  | _=>none
 | .ptr (some (i,o))=>match P.underlying t with
  | some (.array len e)=>arr len e i o
  | some (.pointer u)=>match P.underlying u with
   | some (.array len e)=>arr len e i o
   | _=>none
  | _=>none
 | _=>none
where
 arr (len:Nat) (e:TypeId) (i o:Nat):Option AV:=(A1 P e).bind fun n =>
  (match mx with | some m=>BY m len | none=>some len).bind fun m =>
  (match hi with | some h=>BY h m | none=>match mx with | none=>some len | some _=>none).bind fun h =>
  (match lo with | some v=>BY v h | none=>some 0).bind fun l =>
  some (.slice (some (i,bif Nat.beq m l then o else o+l * n)) (h - l) (some (m - l)))
def AN(P:Program)(t:TypeId)(x:AV)(f:Nat):Option AV:=
 match x with
 | .ptr (some (i,o))=>match P.underlying t with
  | some (.struct fs)=>(fs[f]?).bind fun fd=>(A1 P fd.type).bind fun n =>
   AF (!Nat.beq n 0) (some (.ptr (some (i,o+fd.offset))))
  | _=>none
 | _=>none
def YC(P:Program)(t:TypeId)(cs:List AV)(off:Nat):Option AV:=
 (Ek P t).bind fun g=>match g with
  | true=>(A1 P t).bind fun n=>some (.agg ((cs.drop off).take n))
  | false=>cs[off]?
def U2(P:Program)(t:TypeId)(x:AV)(f:Nat):Option AV:=
 match x with
 | .agg cs=>match P.underlying t with
  | some (.struct fs)=>(fs[f]?).bind fun fd=>YC P fd.type cs fd.offset
  | _=>none
 | _=>none
def AR(P:Program)(t:TypeId)(x ix:AV):Option AV:=
 (IB ix).bind fun k=>match x with
  | .ptr (some (i,o))=>match P.underlying t with
   | some (.array len e)=>(A1 P e).bind fun n=>AF (Nat.blt k len) (some (.ptr (some (i,o+k * n))))
   | _=>none
  | .gptr g o=>match P.underlying t with
   | some (.array len e)=>(A1 P e).bind fun n=>AF (Nat.blt k len) (some (.gptr g (o+k * n)))
   | _=>none
  | .slice (some (i,o)) len _=>match P.underlying t with
   | some (.slice e)=>(A1 P e).bind fun n=>AF (Nat.blt k len) (some (.ptr (some (i,o+k * n))))
   | _=>none
  | _=>none
def U8(P:Program)(t:TypeId)(x ix:AV):Option AV:=
 (IB ix).bind fun k=>match x with
  | .agg cs=>match P.underlying t with
   | some (.array len e)=>(A1 P e).bind fun n=>AF (Nat.blt k len) (YC P e cs (k * n))
   | _=>none
  | .str l=>match P.underlying t with
   | some .string=>(l[k]?).bind fun b=>some (.int .u8 (.ofNat b))
   | _=>none
  | _=>none
def CD:AV→Option AV
 | .ptr none | .nilIface | .nilFunc | .junk=>none
 | v=>some v
def Za(x:AV)(i:Nat):Option AV:=
 match x with
 | .tuple vs=>vs[i]?
 | _=>none
def Ru(c a b:AV):Option AV:=
 match c with
 | .bool true=>some a
 | .bool false=>some b
 | _=>none
def GT(mx:Bool):AV→List AV→Option AV
 | v,[]=>some v
 | .int k a,.int k' b::l=>AF (Bu k k') (GT mx (.int k (bif (bif mx then O9 a b else O9 b a)then b else a)) l)
 | _,_=>none
def LT:AV→AV→Option Bool
 | .int k a,.int k' b=>AF (Bu k k') (some (R9 a b))
 | .str a,.str b=>some (CM a b)
 | .agg a,.agg b=>keysEq a b
 | _,_=>none
where
 keysEq:List AV→List AV→Option Bool
 | [],[]=>some true
 | .int k a::x,.int k' b::y=>AF (Bu k k') ((keysEq x y).bind fun r=>some (R9 a b && r))
 | .str a::x,.str b::y=>(keysEq x y).bind fun r=>some (CM a b && r)
 | _,_=>none
def Gu(k:AV):List (AV×AV)→Nat→Option (Option (Nat×AV))
 | [],_=>some none
 | (k',v)::l,i=>(LT k k').bind fun e=>match e with
  | true=>some (some (i,v))
  | false=>Gu k l (i+1)
def IF(P:Program):Nat→TypeId→List AV→Bool
 | 0,_,_=>false
 | d+1,t,cs=>match P.underlying t with
  | some (.int q)=>match cs with
   | [.int q' n]=>Bu q' q && BM q n
   | _=>false
  | some .string=>match cs with
   | [.str l]=>Nat.ble l.length 1099511627776
   | _=>false
  | some (.array n e)=>Nat.beq cs.length (P.cellsOf t) && (List.range n).all fun i=>IF P d e ((cs.drop (i * P.cellsOf e)).take (P.cellsOf e))
  | some (.struct fs)=>Nat.beq cs.length (P.cellsOf t) && fs.toList.all fun f=>IF P d f.type ((cs.drop f.offset).take (P.cellsOf f.type))
  | _=>false
def E0(P:Program)(t:TypeId)(k:AV):Bool:=match P.underlying t with
 | some (.array _ _) | some (.struct _)=>match k with
  | .agg cs=>IF P 4 t cs
  | _=>false
 | _=>IF P 1 t [k]
def FG(P:Program)(t:TypeId):Bool:=match P.underlying t with
 | some (.int _) | some .string=>true
 | some (.array _ _) | some (.struct _)=>P.keyType t && (P.tiled (P.types.size+1) t && (Nat.ble 4 P.types.size && Nat.ble P.types.size 9990))
 | _=>false
def IH(P:Program)(t:TypeId):Bool:=match P.underlying t with
 | some (.map kt _)=>FG P kt
 | _=>false
def Y3(P:Program)(t:TypeId):Option TypeId:=match P.underlying t with
 | some (.map kt _)=>some kt
 | _=>none
def IG(s:AD)(kt:TypeId)(i:Nat):Option (List (AV×AV)):=match s.heap.get i with
 | some (.map kt' es)=>AF (Nat.beq kt' kt) (some es)
 | _=>none
def X9(s:AD)(kt:TypeId)(i:Nat):Option (List (AV×AV)):=match s.heap.get i with
 | some (.map kt' es)=>AF (Nat.beq kt' kt) (some es)
 | some (.mapRo kt' es)=>AF (Nat.beq kt' kt) (some es)
 | _=>none
def HQ(P:Program)(s:AD)(t:TypeId)(m k:AV)(ok:Bool):Option AV:=
 match P.underlying t with
 | some (.map kt et)=>AF (E0 P kt k) <|
  (match m with
   | .map none=>some []
   | .map (some i)=>X9 s kt i
   | _=>none).bind fun es=>(Gu k es 0).bind fun r =>
   (match r with
    | some (_,v)=>some (v,true)
    | none=>(Dy P et).bind fun z=>some (z,false)).bind fun p=>some (bif ok then .tuple [p.1,.bool p.2]else p.1)
 | _=>none
def setNth(es:List (AV×AV))(i:Nat)(v:AV):List (AV×AV):=
 match es,i with
 | [],_=>[]
 | (k,_)::l,0=>(k,v)::l
 | e::l,i+1=>e::setNth l i v
def g8(k v:AV)(es:List (AV×AV)):Option (List (AV×AV)):=(Gu k es 0).bind fun r=>match r with
 | some (j,_)=>some (setNth es j v)
 | none=>some (es++[(k,v)])
def Gd(P:Program)(s:AD)(t:TypeId)(m k v:AV):Option AD:=
 match P.underlying t,m with
 | some (.map kt _),.map (some i)=>AF (E0 P kt k) <|
  (IG s kt i).bind fun es=>(g8 k v es).bind fun es'=>some (setObj s i (.map kt es'))
 | _,_=>none
def delNth(es:List (AV×AV))(i:Nat):List (AV×AV):=
 match es,i with
 | [],_=>[]
 | _::l,0=>l
 | e::l,i+1=>e::delNth l i
def L5(P:Program)(s:AD)(t:TypeId)(m k:AV):Option AD:=
 match P.underlying t with
 | some (.map kt _)=>AF (E0 P kt k) <| match m with
  | .map none=>some s
  | .map (some i)=>(IG s kt i).bind fun es=>(Gu k es 0).bind fun r=>match r with
    | some (j,_)=>some (setObj s i (.map kt (delNth es j)))
    | none=>some s
  | _=>none
 | _=>none
def Bb(P:Program)(s:AD)(t:TypeId):AV→Option AV
 | .str l=>match P.underlying t with
  | some .string=>some (.int .i64 (.ofNat l.length))
  | _=>none
 | .slice _ n _=>match P.underlying t with
  | some (.slice _)=>some (.int .i64 (.ofNat n))
  | _=>none
 | .map none=>match P.underlying t with
  | some (.map ..)=>some (.int .i64 (.ofNat 0))
  | _=>none
 | .map (some i)=>match P.underlying t with
  | some (.map ..)=>match s.heap.get i with
   | some (.map _ es)=>some (.int .i64 (.ofNat es.length))
   | some (.mapRo _ es)=>some (.int .i64 (.ofNat es.length))
   | _=>none
  | _=>none
 | _=>none
def Yj(P:Program)(s:AD)(t:TypeId):AV→Option AV
 | .slice a _ cap=>match P.underlying t with
  | some (.slice e)=>match cap with
   | some c=>some (.int .i64 (.ofNat c))
   | none=>match a with
    | some (i,o)=>(A1 P e).bind fun n=>(rowAt s i).bind fun r=>AF (!r.spare && Nat.ble o r.n && Nat.beq n r.sz && !Nat.beq n 0) (some (.int .i64 (.ofNat ((r.n - o) / n))))
    | none=>none
  | _=>none
 | _=>none
def SX:AV→Option AV
 | .slice none _ _=>some (.ptr none)
 | .slice (some (i,o)) (_+1) _=>some (.ptr (some (i,o)))
 | _=>none
def Made.val(i:Nat):Made→AV
 | .ptr=>.ptr (some (i,0))
 | .slice n=>.slice (some (i,0)) n (some n)
 | .map=>.map (some i)
def At(P:Program)(e:TypeId):Option (AI×Made):=(Dy P e).bind fun z=>some (G7 e 0 z.cells,.ptr)
def DD(e:TypeId)(v:AV):Option (AI×Made):=some (G7 e 0 v.cells,.ptr)
def B6(P:Program)(t:TypeId)(l c:AV):Option (AI×Made):=
 match P.underlying t,l,c with
  | some (.slice e),.int .i64 (.ofNat l),.int .i64 (.ofNat c)=>(DL P e).bind fun by_=>(A1 P e).bind fun n =>
   AF (Nat.beq l c && Nat.ble (by_ * c) 1099511627776 && Nat.ble c 1099511627776) <|
   (Dy P e).bind fun z=>AF (Nat.beq z.cells.length n) (some (G7 e n (VV z.cells c),.slice c))
  | _,_,_=>none
def VC(P:Program)(t:TypeId):Bool:=match P.underlying t with
 | some (.int _)=>true
 | _=>false
def Vn(s:AD)(i o n size:Nat):Option (List AV):=bif Nat.beq n 0 then some []else BG s i o (n * size)
def B4(P:Program)(s:AD)(e:TypeId)(size:Nat):AV→Option (Nat×List AV)
 | .int _ (.ofNat n)=>AF (Nat.ble n 1099511627776 && Nat.blt 0 n) ((Dy P e).bind fun z=>AF (Nat.beq z.cells.length size) (some (n,VV z.cells n)))
 | .slice none _ _=>some (0,[])
 | .slice (some (i,o)) n _=>(Vn s i o n size).bind fun l=>some (n,l)
 | .str l=>AF (Nat.beq size 1) (some (l.length,l.map fun b=>.int .u8 (.ofNat b)))
 | _=>none
def Bp(P:Program)(t:TypeId):Bool:=match P.underlying t with
 | some (.slice _) | some .string=>true
 | _=>false
def Co(e:TypeId)(sz:Nat)(c:AE AV)(n:Nat)(par:Option Nat)(base:Bool):AI:=
 .row { elem:=e,sz,n,c,spare:=true,mode:=.own,par,bytes:=base }
def Cj(P:Program)(e:TypeId)(size:Nat):Bool:=match Dy P e with
 | some z=>Nat.beq z.cells.length size
 | none=>false
def CB(P:Program)(s:AD)(e:TypeId)(size n:Nat)(cells:List AV):Option (AV×AD):=
 AF (Cj P e size) (some (.slice (some (s.next,0)) n none,newObj s (Co e size (AE.fill .leaf 0 cells) cells.length none true)))
def CQ(s:AD)(i:Nat)(r:CG)(ends:Bool):AD:=
 bif ends then setObj (A3 s i r) i (.row { r with mode:=.sealed,par:=none })else Bx (A3 s i r) i
def EJ(P:Program)(s:AD)(e:TypeId)(size i o len:Nat)(src:Nat×List AV)(r:CG)(old:List AV):Option (AV×AD):=
 AF (B8 r.mode && Nat.beq r.elem e && Cj P e size) <|
  let ends:=Nat.beq (o+len * size) r.n
  let s2:=CQ s i r ends
  some (.slice (some (s.next,0)) (len+src.1) none,
   newObj s2 (Co e size (bif Nat.beq o 0 then r.c.fill (len * size) src.2 else AE.fill .leaf 0 (old++src.2)) (old++src.2).length (bif ends then some i else none) (r.bytes && Nat.beq o 0)))
def Iq(P:Program)(s:AD)(e:TypeId)(size i o len:Nat)(src:Nat×List AV)(r:CG):Option (AV×AD):=
 AF (Nat.beq size r.sz) <|
 bif Nat.ble (o+(len+src.1) * size) r.n then
  (Bi s i (o+len * size) src.2).bind fun s'=>some (.slice (some (i,o)) (len+src.1) none,s')
 else (BG s i o (len * size)).bind fun old =>
  bif r.spare then EJ P s e size i o len src r old else CB P s e size (len+src.1) (old++src.2)
def Gk(P:Program)(s:AD)(e:TypeId)(size i o len c:Nat)(src:Nat×List AV):Option (AV×AD):=
 bif Nat.ble (len+src.1) c then
  (Bi s i (o+len * size) src.2).bind fun s'=>some (.slice (some (i,o)) (len+src.1) (some c),s')
 else (BG s i o (len * size)).bind fun old=>CB P s e size (len+src.1) (old++src.2)
def appTo(P:Program)(s:AD)(e:TypeId)(size:Nat)(a:Option (Nat×Nat))(len:Nat)(cap:Option Nat)(src:Nat×List AV):Option (AV×AD):=
 match a with
 | none=>bif Nat.beq src.1 0 then some (.slice none 0 (some 0),s)else CB P s e size src.1 src.2
 | some (i,o)=>match cap with
  | some c=>Gk P s e size i o len c src
  | none=>(rowAt s i).bind fun r=>Iq P s e size i o len src r
def Ay(P:Program)(s:AD)(argTypes:List TypeId)(args:List AV):Option (AV×AD):=
 match argTypes,args with
 | [st,xt],[.slice a len cap,x]=>match P.underlying st with
  | some (.slice e)=>(A1 P e).bind fun size=>(DL P e).bind fun by_ =>
   AF (!Nat.beq size 0 && (match x with | .int ..=>VC P xt | _=>Bp P xt)) <|
   (B4 P s e size x).bind fun src =>
   AF (Ag src.2 && Nat.ble ((len+src.1) * by_) 1099511627776 && Nat.ble (len+src.1) 1099511627776) <|
   appTo P s e size a len cap src
  | _=>none
 | _,_=>none
def ep(P:Program)(s:AD)(argTypes:List TypeId)(args:List AV):Option (AV×AD):=
 match argTypes,args with
 | dt::_,[.slice a dl _,x]=>match P.underlying dt with
  | some (.slice e)=>(A1 P e).bind fun size =>
   (match x with | .slice _ n _=>some n | .str l=>some l.length | _=>none).bind fun sl =>
   let n:=bif Nat.ble sl dl then sl else dl
   (match x with
    | .slice none _ _=>some []
    | .slice (some (i,o)) _ _=>BG s i o (n * size)
    | .str l=>AF (Nat.beq size 1) (some ((l.take n).map fun b=>.int .u8 (.ofNat b)))
    | _=>none).bind fun cells =>
   (match a with
    | none=>some s
    | some (i,o)=>Bi s i o cells).bind fun s'=>some (.int .i64 (.ofNat n),s')
  | _=>none
 | _,_=>none
def QM(r:CG):AI:=.row { r with n:=0,spare:=true,mode:=.ro,par:=none,bytes:=false,glob:=none }
def MF(P:Program)(s:AD)(t:TypeId)(n:Nat):Option (Nat×Nat)→Option (AV×AD)
 | none=>none
 | some (i,o)=>match P.underlying t with
  | some (.pointer e)=>(rowAt s i).bind fun r=>AF (B8 r.mode && r.bytes && Nat.beq o 0 && Nat.beq r.elem e && Nat.ble n 1099511627776) <| (A1 P e).bind fun z=>AF (Nat.beq z 1) <|
   (BG s i o n).bind fun l=>(Ac.bytesOf l).bind fun b=>some (.str b,setObj (A3 s i r) i (QM r))
  | _=>none
def Pi(P:Program)(s:AD)(argTypes:List TypeId)(args:List AV):Option (AV×AD):=
 match argTypes,args with
 | [t,_],[.ptr a,.int .i64 (.ofNat n)]=>match n with
  | 0=>some (.str [],s)
  | n+1=>MF P s t (n+1) a
 | _,_=>none
def RH(s:AD):List AV→Option (AV×AD)
 | [x]=>some (x,s)
 | _=>none
def RI(e:TypeId)(s:AD):List AV→Option (AV×AD)
 | [.int .i64 (.ofNat n)]=>AF (Nat.ble n 1099511627776) (some (.slice (some (s.next,0)) n none,newObj s (Co e 1 .leaf n none true)))
 | _=>none
def W3(s:AD):List AV→Option (AV×AD)
 | [.str a,.str b]=>some (.int .i64 (bif Dw a b then -1 else bif CM a b then 0 else 1),s)
 | _=>none
def Sm(P:Program)(name:String)(rt:Array TypeId):Option (AD→List AV→Option (AV×AD)):=
  bif name == "internal/abi.NoEscape" then some RH else
  bif name == "internal/bytealg.abigen_runtime_cmpstring" then some W3 else
  bif name == "internal/bytealg.MakeNoZero" then (match rt.toList with
    | [t]=>match P.underlying t with
      | some (.slice e)=>match A1 P e with
        | some 1=>some (RI e)
        | _=>none
      | _=>none
    | _=>none)
  else none
def fm(P:Program)(f:FuncId):Option (AD→List AV→Option (AV×AD)):=match P.funcs[f]? with
  | some fn=>match fn.body with
    | some _=>none
    | none => bif fn.origin == "" then Sm P fn.name fn.resultTypes else none
  | none=>none
def Ul(P:Program)(s:AD)(argTypes:List TypeId)(args:List AV):Option (AV×AD):=
 match argTypes,args with
 | t::_,[x]=>match P.underlying t,x with
  | some (.slice _),.slice none _ _=>some (Bo,s)
  | some (.slice _),.slice _ 0 _=>some (Bo,s)
  | some (.slice e),.slice (some (i,o)) n _=>(Dy P e).bind fun z=>(Bi s i o (VV z.cells n)).bind fun s'=>some (Bo,s')
  | _,_=>none
 | _,_=>none
inductive Sh where
 | p1 (f:AV→Option AV)
 | p2 (f:AV→AV→Option AV)
 | p (f:List AV→Option AV)
 | r1 (f:AD→AV→Option AV)
 | r (f:AD→List AV→Option AV)
 | mk (f:List AV→Option (AI×Made))
 | e (f:AD→List AV→Option (AV×AD))
 | call (f:FuncId)
 | callv
def Sh.isEff:Sh→Bool
 | .e _ | .call _ | .callv=>true
 | _=>false
def Sh.isRead:Sh→Bool
 | .r1 _ | .r _=>true
 | _=>false
def Rt:List AV→Option AV
 | [c,a,b]=>Ru c a b
 | _=>none
def Xx{α:Type}(f:AV→AV→Option α):List AV→Option α
 | [a,b]=>f a b
 | _=>none
def Xy{α:Type}(f:AV→AV→AV→Option α):List AV→Option α
 | [a,b,c]=>f a b c
 | _=>none
def Xz(x:Option AD):Option (AV×AD):=match x with
 | some s=>some (Bo,s)
 | none=>none
def Bn(P:Program)(t:TypeId)(lo hi mx:Bool)(s:AD):List AV→Option AV
 | [x]=>match lo,hi,mx with
  | false,false,false=>Bl P s t x none none none
  | _,_,_=>none
 | [x,a]=>match lo,hi,mx with
  | true,false,false=>Bl P s t x (some a) none none
  | false,true,false=>Bl P s t x none (some a) none
  | _,_,_=>none
 | [x,a,b]=>match lo,hi,mx with
  | true,true,false=>Bl P s t x (some a) (some b) none
  | false,true,true=>Bl P s t x none (some a) (some b)
  | _,_,_=>none
 | [x,a,b,c]=>match lo,hi,mx with
  | true,true,true=>Bl P s t x (some a) (some b) (some c)
  | _,_,_=>none
 | _=>none
def zipIdx(is:List Nat)(l:List AV):List (Nat×AV):=is.zip l
def G0:Operand→Bool
 | .tmp _=>true
 | _=>false
def gz(P:Program)(op:BinOp)(t:TypeId)(x y:Operand):Option Bool:=match op with
 | .eql=>bif G0 x && G0 y && Gz P t then some false else none
 | .neq=>bif G0 x && G0 y && Gz P t then some true else none
 | _=>none
def Az(P:Program)(o:Op):Option (Sh×List Operand):=
 match o with
 | .move x | .assign x=>some (.p1 some,[x])
 | .pick c a b=>some (.p Rt,[c,a,b])
 | .build t ps=>some (.p (fun l=>GD P t (zipIdx (ps.toList.map (·.1)) l)),ps.toList.map (·.2))
 | .nilCheck x=>some (.p1 CD,[x])
 | .binOp op t x y _=>match gz P op t x y with
  | some neg=>some (.r (fun s=>Xx (GX P s neg t)),[x,y])
  | none=>some (.p2 (AP P op t),[x,y])
 | .unOp op _ x=>some (.p1 (p5 P op),[x])
 | .makeFunc fn first captured=>match fn with
  | .func f=>some (.p (fun l=>some (.func f (l.take first.size) (l.drop first.size))),first.toList++captured.toList)
  | _=>none
 | .fieldAddr t x f=>some (.p1 (fun x=>AN P t x f),[x])
 | .field t x f=>some (.p1 (fun x=>U2 P t x f),[x])
 | .indexAddr t x i=>some (.p2 (AR P t),[x,i])
 | .index t x i=>some (.p2 (U8 P t),[x,i])
 | .extract t i=>some (.p1 (fun x=>Za x i),[t])
 | .load t a=>some (.r1 (fun s a=>AG P s t a),[a])
 | .lookup t m k ok=>AF (IH P t) (some (.r (fun s=>Xx (fun m k=>HQ P s t m k ok)),[m,k]))
 | .convert src dst x=>some (.r1 (fun s x=>Ac P s src dst x),[x])
 | .slice t x lo hi mx=>some (.r (Bn P t lo.isSome hi.isSome mx.isSome),[x]++lo.toList++hi.toList++mx.toList)
 | .alloc e=>some (.mk (fun l=>match l with | []=>At P e | _=>none),[])
 | .box e x=>some (.mk (fun l=>match l with | [v]=>DD e v | _=>none),[x])
 | .buildSlice t len ps=>some (.mk (fun l=>(An P t len (zipIdx (ps.toList.map (·.1)) l)).bind fun r=>some (r,.slice len)),ps.toList.map (·.2))
 | .makeMap t none=>AF (IH P t) (some (.mk (fun l=>match l with | []=>(Y3 P t).bind fun kt=>some (.map kt [],.map) | _=>none),[]))
 | .makeSlice t l c=>some (.mk (Xx (B6 P t)),[l,c])
 | .store t a x=>some (.e (fun s=>Xx (fun a x=>Xz (AY P s t a x))),[a,x])
 | .mapUpdate t m k x | .insert t m k x=>AF (IH P t) (some (.e (fun s=>Xy (fun m k x=>Xz (Gd P s t m k x))),[m,k,x]))
 | .call { callee,args,argTypes }=>match callee with
  | .value (.func f)=>match fm P f with
   | some e=>some (.e e,args.toList)
   | none=>some (.call f,args.toList)
  | .value x=>some (.callv,x::args.toList)
  | .invoke ..=>none
  | .builtin b=>match b with
   | .len=>match argTypes[0]? with
    | some t=>some (.r (fun s l=>match l with | [x]=>Bb P s t x | _=>none),args.toList)
    | none=>none
   | .cap=>match argTypes[0]? with
    | some t=>some (.r (fun s l=>match l with | [x]=>Yj P s t x | _=>none),args.toList)
    | none=>none
   | .min=>some (.p (fun l=>match l with | v::l=>GT false v l | []=>none),args.toList)
   | .max=>some (.p (fun l=>match l with | v::l=>GT true v l | []=>none),args.toList)
   | .append=>some (.e (fun s l=>Ay P s argTypes.toList l),args.toList)
   | .copy=>some (.e (fun s l=>ep P s argTypes.toList l),args.toList)
   | .unsafeSliceData=>some (.p (fun l=>match l with | [x]=>SX x | _=>none),args.toList)
   | .unsafeString=>some (.e (fun s l=>Pi P s argTypes.toList l),args.toList)
   | .clear=>some (.e (fun s l=>Ul P s argTypes.toList l),args.toList)
   | .delete=>match argTypes[0]? with
    | some t=>AF (IH P t) (some (.e (fun s=>Xx (fun m k=>Xz (L5 P s t m k))),args.toList))
    | none=>none
   | _=>none
 | _=>none
def qA(t:Nat):Nat:=Nat.shiftLeft 1 t
def Fx:List Operand→Nat
 | []=>0
 | .tmp t::l=>Nat.lor (qA t) (Fx l)
 | _::l=>Fx l
def M3(P:Program):List Oper→Nat→Nat→Nat
 | [],_,e=>e
 | o::l,wr,e =>
  let rd:=match Az P o.op with
   | some (_,xs)=>Fx xs
   | none=>match o.op with
    | .range _ x | .next x _ | .entry x=>Fx [x]
    | _=>0
  M3 P l (match o.dst with | some d=>Nat.lor wr (qA d) | none=>wr) (Nat.lor e (Nat.sub rd (Nat.land rd wr)))
def Eo(P:Program):Code→Nat
 | .region _ ops _=>M3 P ops.toList 0 0
 | .seq a b=>Nat.lor (Eo P a) (Eo P b)
 | .cond c a b=>Nat.lor (Fx [c]) (Nat.lor (Eo P a) (Eo P b))
 | .block _ b | .loop b | .scope b=>Eo P b
 | .rangeFunc f ps a b=>Nat.lor (Fx [f]) (Nat.lor (ps.toList.foldl (fun m t=>Nat.lor m (qA t)) 0) (Nat.lor (Eo P a) (Eo P b)))
 | _=>0
def Ie:List ResultVar→Nat
 | []=>0
 | .tmp t::l | .cell t _::l=>Nat.lor (qA t) (Ie l)
def Fl(m:Nat):Nat→Nat→List Nat
 | 0,_=>[]
 | n+1,k=>bif m.testBit k then k::Fl m n (k+1)else Fl m n (k+1)
def Ct(fn:Func):Nat:=fn.params.size+fn.nfree
def Ad(P:Program)(fn:Func):List Tmp:=
 List.range (Ct fn)++match fn.body with
 | none=>[]
 | some c=>Fl (Nat.lor (Eo P c) (Ie fn.results.toList)) (fn.ntmps - Ct fn) (Ct fn)
def Aq:List Tmp→Tmp→Option Nat
 | [],_=>none
 | a::l,t=>bif Nat.beq a t then some 0 else (Aq l t).bind fun j=>some (j+1)
def M1(P:Program)(o:Oper):Bool:=match Az P o.op with
 | some (s,_)=>s.isEff
 | none=>true
def YE(b:Array Nat)(done:Nat)(i:Nat):Bool:=Nat.beq (Nat.land (b.getD i 0) done) (b.getD i 0)
def EF(P:Program)(o:Oper):List Tmp:=o.dst.toList++((match Az P o.op with
 | some (_,xs)=>xs
 | none=>[]).filterMap fun x:Operand=>match x with
  | .tmp t=>some t
  | _=>none)
def Qx(o:Oper):List Nat:=match o.guard with
 | some (j,_)=>[j]
 | none=>[]
def Kn(P:Program)(ops:Array Oper)(b:Array Nat)(before:List Nat)(i:Nat):Bool:=
 let o:=ops.getD i default
 let anc:=b.getD i 0
 Nat.blt i ops.size && !before.contains i &&
 (List.range ops.size).all (fun j=>!anc.testBit j || before.contains j) &&
 o.after.all (fun e=>!Region.binds .any e || before.contains e.on) &&
 before.all (fun j=>!M1 P (ops.getD j default) || anc.testBit j) &&
 (Qx o).all (fun j=>anc.testBit j) &&
 before.all (fun j=>let p:=ops.getD j default
  (match o.dst with
   | none=>true
   | some d=>p.dst != some d && (!(EF P p).contains d || anc.testBit j)) &&
  (match p.dst with
   | none=>true
   | some d=>!(EF P o).contains d || anc.testBit j))
def Ea(P:Program)(ops:Array Oper)(b:Array Nat):List Nat→List Nat→Bool
 | before,[]=>Nat.beq before.length ops.size
 | before,i::l=>Kn P ops b before i && Ea P ops b (before++[i]) l
def Ir(m i:Nat):Bool:=Nat.beq (Nat.land (Nat.shiftRight m i) 1) 1
def Fs(f:Nat→Bool):Nat→Nat
 | 0=>0
 | n+1=>bif f n then Nat.lor (Nat.shiftLeft 1 n) (Fs f n)else Fs f n
def ZY(a b:Nat):Bool:=Nat.beq (Nat.land a b) a
def J6:List Tmp→Nat
 | []=>0
 | t::l=>Nat.lor (qA t) (J6 l)
def Jl(P:Program)(o:Oper):Nat:=J6 (EF P o)
def fT(o:Oper)(d:Tmp):Bool:=match o.dst with
 | some e=>Nat.beq e d
 | none=>false
def fS(o:Oper)(m:Nat):Bool:=match o.dst with
 | some e=>Ir m e
 | none=>false
def Yr(P:Program)(ops:Array Oper):Nat:=Fs (fun j=>M1 P (ops.getD j default)) ops.size
def QS(done:Nat):List Edge→Bool
 | []=>true
 | e::l=>(!Region.binds .any e || Ir done e.on) && QS done l
def fw(anc:Nat):Option (Nat×Bool)→Bool
 | some (j,_)=>Ir anc j
 | none=>true
def YJ(P:Program)(ops:Array Oper)(anc eff done i:Nat)(o:Oper):Bool:=
 Nat.blt i ops.size && (!Ir done i && (ZY anc done && (QS done o.after.toList && (ZY (Nat.land done eff) anc && (fw anc o.guard &&
  ((match o.dst with
   | none=>true
   | some d=>Nat.beq (Nat.land done (Fs (fun j=>fT (ops.getD j default) d) ops.size)) 0 && ZY (Nat.land done (Fs (fun j=>Ir (Jl P (ops.getD j default)) d) ops.size)) anc) &&
  ZY (Nat.land done (Fs (fun j=>fS (ops.getD j default) (Jl P o)) ops.size)) anc))))))
def HV(P:Program)(ops:Array Oper)(b:Array Nat)(eff:Nat):Nat→Nat→List Nat→Bool
 | n,_,[]=>Nat.beq n ops.size
 | n,done,i::l=>YJ P ops (b.getD i 0) eff done i (ops.getD i default) && HV P ops b eff (n+1) (Nat.lor (Nat.shiftLeft 1 i) done) l
def RN(b:Array Nat)(eff:Nat):Nat→Nat→List Nat→List Nat→List Nat
 | 0,_,_,acc=>acc.reverse
 | f+1,done,todo,acc =>
  match todo.find? fun i=>YE b done i && !Ir eff i with
  | some i=>RN b eff f (Nat.lor (Nat.shiftLeft 1 i) done) (todo.filter fun j=>!Nat.beq j i) (i::acc)
  | none=>match todo.find? fun i=>YE b done i with
   | some i=>RN b eff f (Nat.lor (Nat.shiftLeft 1 i) done) (todo.filter fun j=>!Nat.beq j i) (i::acc)
   | none=>acc.reverse
def YD(P:Program)(ops:Array Oper):List Nat:=RN (Region.before ops) (Yr P ops) ops.size 0 (List.range ops.size) []
inductive Lo where
 | push | set (j:Nat)
structure Gh where
 guard:Option (CX×Bool)
 sh:Sh
 xs:List CX
 ans:CX
structure AB where
 guard:Option (CX×Bool)
 sh:Sh
 xs:List CX
 dst:Lo
 again:List Gh
structure iz where
 map:List (Tmp×CX)
 cnt:Nat
def Eg:List (Tmp×CX)→Tmp→Option CX
 | [],_=>none
 | (a,x)::l,t=>bif Nat.beq a t then some x else Eg l t
def CF(cnt:Nat):CX→CX
 | .loc p=>.loc (cnt - 1 - p)
 | x=>x
def Ej(vars:List Tmp)(c:iz)(t:Tmp):Option CX:=
 match Eg c.map t with
 | some x=>some x
 | none=>(Aq vars t).bind fun j=>some (.var j)
def Eh(vars:List Tmp)(c:iz):Operand→Option CX
 | .tmp t=>Ej vars c t
 | .const v=>(ofValue v).bind fun a=>some (.const a)
 | .global g=>some (.const (.gptr g 0))
 | .func f=>some (.const (.func f [] []))
def Ib(vars:List Tmp)(c:iz):List Operand→Option (List CX)
 | []=>some []
 | x::l=>(Eh vars c x).bind fun a=>(Ib vars c l).bind fun r=>some (a::r)
def isVar(j:Nat):CX→Bool
 | .var i=>Nat.beq i j
 | _=>false
def Jm(j:Nat):List (Tmp×CX)→Bool
 | []=>true
 | (_,x)::l=>!isVar j x && Jm j l
def Lt(vars:List Tmp)(later:List (Option Tmp))(o:Oper)(x:CX):Bool:=
 (match o.op with | .move _=>true | _=>false) && o.guard.isNone &&
 (match o.dst with | some d=>(Aq vars d).isNone | none=>false) &&
 (match x with
  | .var j=>!(later.any fun d=>match d with
   | some t=>match Aq vars t with
    | some i=>Nat.beq i j
    | none=>false
   | none=>false)
  | _=>true)
def F0(cnt:Nat):Option (CX×Bool)→Option (CX×Bool)
 | none=>none
 | some (x,b)=>some (CF cnt x,b)
def Jv(cnt:Nat)(r:Gh):Gh:={ guard:=F0 cnt r.guard,sh:=r.sh,xs:=r.xs.map (CF cnt),ans:=CF cnt r.ans }
def RR(j:Nat)(r:Gh):Bool:=(match r.guard with | none=>true | some (x,_)=>!isVar j x) && r.xs.all fun x=>!isVar j x
def En(P:Program)(nt:Nat)(vars:List Tmp)(ops:Array Oper)(b:Array Nat)(draw:Bool):List Nat→iz→List (Nat×Gh)→Option (List AB)
  | [],_,_=>some []
  | i::l,c,rs=>(ops[i]?).bind fun o=>(Az P o.op).bind fun sh=>(Ib vars c sh.2).bind fun xs =>
    match (match xs with | [x]=>bif Lt vars (l.map fun j=>(ops.getD j default).dst) o x then some x else none | _=>none),o.dst with
    | some x,some d=>AF (Nat.blt d nt) (En P nt vars ops b draw l { c with map:=(d,x)::c.map } rs)
    | _,_ =>
      (match o.guard with
        | none=>some none
        | some (j,want)=>(ops[j]?).bind fun p=>p.dst.bind fun d=>(Ej vars c d).bind fun x=>some (some (x,want))).bind fun g =>
      (match o.dst with
        | none=>some (Lo.push,{ c with cnt:=c.cnt+1 })
        | some d=>AF (Nat.blt d nt) <| match Aq vars d with
          | some j=>AF (Jm j c.map && rs.all fun r=>RR j r.2) (some (Lo.set j,c))
          | none=>some (Lo.push,{ map:=(d,.loc c.cnt)::c.map,cnt:=c.cnt+1 })).bind fun q =>
      let ag:=match draw,sh.1.isEff with
        | true,true=>rs.filter fun(r:Nat×Gh)=>!(b.getD i 0).testBit r.1
        | _,_=>[]
      let rd:=draw && sh.1.isRead
      AF (!rd || (match q.1 with | .push=>true | .set _=>false)) <|
      (En P nt vars ops b draw l q.2 (bif rd then (i,{ guard:=g,sh:=sh.1,xs,ans:=.loc c.cnt })::rs else rs)).bind fun r =>
        some ({ guard:=F0 c.cnt g,sh:=sh.1,xs:=xs.map (CF c.cnt),dst:=q.1,again:=ag.map fun(r:Nat×Gh)=>Jv q.2.cnt r.2 }::r)
structure Lp where
 ad:CX
 rd:AD→AV→Option AV
 jt:Nat
 jok:Nat
 jk:Nat
 id2:Nat
 res:List CX
inductive Aa where
 | skip
 | ops (l:List AB)
 | seq (a b:Aa)
 | cond (x:CX) (a b:Aa)
 | block (id:Nat) (c:Aa)
 | loop (c:Aa)
 | rangeFunc (fn:FuncId) (f:CX) (params:Array Tmp) (assign body:Code)
 | exit (id:Nat)
 | ret
 | never
 | rangeMap (r:Lp) (body:Aa)
structure qG where
 ty:TypeId
 ad:Operand
 tm:Tmp
 it:Tmp
 tn:Tmp
 ok:Tmp
 te:Tmp
 tk:Tmp
 key:Tmp
 id2:Nat
def Ep(o:Oper):Option (Op×Tmp):=match o.guard,o.dst with
 | none,some d=>some (o.op,d)
 | _,_=>none
def T7:Op→Option (TypeId×Operand)
 | .load t a=>some (t,a)
 | _=>none
def Pv:Op→Option (TypeId×Tmp)
 | .range t (.tmp m)=>some (t,m)
 | _=>none
def T8:Op→Option Tmp
 | .next (.tmp i) false=>some i
 | _=>none
def Pt:Op→Option Tmp
 | .entry (.tmp i)=>some i
 | _=>none
def V0:Op→Option Tmp
 | .extract (.tmp n) 0=>some n
 | _=>none
def Zr:Op→Option Tmp
 | .assign (.tmp n)=>some n
 | _=>none
def RU:List Oper→Option (TypeId×Operand×Tmp×Tmp)
 | [o0,o1]=>(Ep o0).bind fun p0=>(Ep o1).bind fun p1=>(T7 p0.1).bind fun l=>(Pv p1.1).bind fun r =>
  AF (Nat.beq l.1 r.1 && Nat.beq p0.2 r.2) (some (l.1,l.2,p0.2,p1.2))
 | _=>none
def RW(it:Tmp):List Oper→Option (Tmp×Tmp)
 | [o0,o1]=>(Ep o0).bind fun p0=>(Ep o1).bind fun p1=>(T8 p0.1).bind fun i=>(V0 p1.1).bind fun n =>
  AF (Nat.beq i it && Nat.beq n p0.2) (some (p0.2,p1.2))
 | _=>none
def Nm(it:Tmp):List Oper→Option (Tmp×Tmp×Tmp)
 | [o0,o1,o2]=>(Ep o0).bind fun p0=>(Ep o1).bind fun p1=>(Ep o2).bind fun p2=>(Pt p0.1).bind fun i=>(V0 p1.1).bind fun n=>(Zr p2.1).bind fun k =>
  AF (Nat.beq i it && (Nat.beq n p0.2 && Nat.beq k p1.2)) (some (p0.2,p1.2,p2.2))
 | _=>none
def iG(ops1:Array Oper)(d1:Bool):Code→Option qG
 | .block id (.loop (.seq (.region _ ops2 false) (.seq (.cond (.tmp c) .skip (.exit id')) (.block id2 (.seq (.region _ ops3 false) _))))) =>
  AF (!d1) <| (RU ops1.toList).bind fun h=>(RW h.2.2.2 ops2.toList).bind fun n=>(Nm h.2.2.2 ops3.toList).bind fun e =>
   AF (Nat.beq id' id && Nat.beq c n.2) (some ⟨h.1,h.2.1,h.2.2.1,h.2.2.2,n.1,n.2,e.1,e.2.1,e.2.2,id2⟩)
 | _=>none
def YF(P:Program)(f:FuncId)(vars:List Tmp):List CX:=match P.funcs[f]? with
 | some fn=>fn.results.toList.filterMap fun v=>match v with
  | .cell t _=>(Aq vars t).map CX.var
  | _=>none
 | none=>[]
def W8(P:Program)(f:FuncId)(nt:Nat)(vars:List Tmp)(p:qG):Option Lp:=
 (Eh vars ⟨[],0⟩ p.ad).bind fun ad=>(Aq vars p.it).bind fun jt=>(Aq vars p.ok).bind fun jok=>(Aq vars p.key).bind fun jk =>
  AF ((Aq vars p.tm).isNone && ((Aq vars p.tn).isNone && ((Aq vars p.te).isNone && (Aq vars p.tk).isNone))) <|
  AF (Nat.blt p.tm nt && (Nat.blt p.tn nt && (Nat.blt p.te nt && (Nat.blt p.tk nt && (Nat.blt p.it nt && (Nat.blt p.ok nt && Nat.blt p.key nt)))))) <|
  AF (Ka P p.ty && (!Nat.beq jt jok && (!Nat.beq jt jk && !Nat.beq jok jk))) (some ⟨ad,fun s a=>AG P s p.ty a,jt,jok,jk,p.id2,YF P f vars⟩)
def HW:Aa→Option Aa
 | .block _ (.loop (.seq _ (.seq _ (.block _ (.seq _ b)))))=>some b
 | _=>none
def Ns(r:Option Lp)(a b:Aa):Aa:=match r with
 | none=>.seq a b
 | some r=>match HW b with
  | some c=>.rangeMap r c
  | none=>.seq a b
def IL(P:Program)(f:FuncId)(nt:Nat)(vars:List Tmp):Code→Code→Option Lp
 | .region _ ops d,b=>(iG ops d b).bind (W8 P f nt vars)
 | _,_=>none
def nU:Option (List AB)→Aa
 | some l=>.ops l
 | none=>.never
def Ab(P:Program)(fn:FuncId)(nt:Nat)(vars:List Tmp):Code→Aa
 | .skip | .label _=>.skip
 | .ret=>.ret
 | .exit id=>.exit id
 | .goto _ | .refuse _=>.never
 | .region _ ops draw=>match draw with
  | false=>nU (En P nt vars ops #[] false (List.range ops.size) ⟨[],0⟩ [])
  | true=>nU (AF (HV P ops (Region.before ops) (Yr P ops) 0 0 (YD P ops)) (En P nt vars ops (Region.before ops) true (YD P ops) ⟨[],0⟩ []))
 | .seq a b=>Ns (IL P fn nt vars a b) (Ab P fn nt vars a) (Ab P fn nt vars b)
 | .cond c a b=>match Eh vars ⟨[],0⟩ c with
  | some z=>.cond z (Ab P fn nt vars a) (Ab P fn nt vars b)
  | none=>.never
 | .block id c=>.block id (Ab P fn nt vars c)
 | .loop c=>.loop (Ab P fn nt vars c)
 | .scope c=>Ab P fn nt vars c
 | .rangeFunc f ps a b=>match Eh vars ⟨[],0⟩ f with
  | some x=>.rangeFunc fn x ps a b
  | none=>.never
structure Au where
 na:Nat
 nv:Nat
 body:Aa
 results:List (CX×Option TypeId)
def CV(vars:List Tmp):List ResultVar→Option (List (CX×Option TypeId))
 | []=>some []
 | .tmp t::l=>(Aq vars t).bind fun j=>(CV vars l).bind fun r=>some ((.var j,none)::r)
 | .cell t ty::l=>(Aq vars t).bind fun j=>(CV vars l).bind fun r=>some ((.var j,some ty)::r)
def AS(P:Program)(f:FuncId):Option Au:=(P.funcs[f]?).bind fun fn=>fn.body.bind fun c =>
 AF (Nat.ble (Ct fn) fn.ntmps) <|
 let vars:=Ad P fn
 (CV vars fn.results.toList).bind fun r =>
  some { na:=Ct fn,nv:=vars.length,body:=Ab P f fn.ntmps vars c,results:=r }
def LV (l:List AV):Nat→AV:=
 List.rec (fun _=>Bo) (fun a _ ih i=>Nat.rec a (fun i _=>ih i) i) l
def F4 (v:AV) (l:List AV):Nat→List AV:=
 List.rec (fun _=>[]) (fun a l ih i=>Nat.rec (v::l) (fun i _=>a::ih i) i) l
def Cc (loc var:List AV) (x:CX):AV:=
 match x with
 | .loc i=>LV loc i
 | .var j=>LV var j
 | .const v=>v
def DE (loc var:List AV) (l:List CX):List AV:=
 List.rec [] (fun x _ ih=>Cc loc var x::ih) l
inductive MH where
 | normal | exit (id:Nat) | ret
structure Ax where
 exit:MH
 var:List AV
 marks:List Nat
 st:AD
def FT:AV→AV→Bool
 | .bool a,.bool b=>a == b
 | .int k a,.int k' b=>Bu k k' && R9 a b
 | .str a,.str b=>CM a b
 | .ptr none,.ptr none=>true
 | .gptr a b,.gptr c d=>Nat.beq a c && Nat.beq b d
 | .ptr (some (i,o)),.ptr (some (j,p))=>Nat.beq i j && Nat.beq o p
 | .slice none n (some c),.slice none n' (some c')=>Nat.beq n n' && Nat.beq c c'
 | .slice none n none,.slice none n' none=>Nat.beq n n'
 | .slice (some (i,o)) n none,.slice (some (j,p)) n' none=>Nat.beq i j && Nat.beq o p && Nat.beq n n'
 | .slice (some (i,o)) n (some c),.slice (some (j,p)) n' (some c')=>Nat.beq i j && Nat.beq o p && Nat.beq n n' && Nat.beq c c'
 | .map none,.map none=>true
 | .map (some i),.map (some j)=>Nat.beq i j
 | .func f a c,.func g b d=>Nat.beq f g && eqAs a b && eqAs c d
 | .nilFunc,.nilFunc=>true
 | .nilIface,.nilIface=>true
 | .yield i,.yield j=>Nat.beq i j
 | .agg a,.agg b=>eqAs a b
 | .tuple a,.tuple b=>eqAs a b
 | _,_=>false
where
 eqAs:List AV→List AV→Bool
 | [],[]=>true
 | a::x,b::y=>FT a b && eqAs x y
 | _,_=>false
abbrev CU:=FuncId→List AV→AD→Option (AV×AD)
structure Ck where
 P:Program
 nat:CU
structure DH where
 code:Option Nat→Aa→List AV→List Nat→AD→Option Ax
 call:FuncId→List AV→AD→Option (AV×AD)
 round:Nat→List AV→AD→Option (AV×AD)
def Gq(F:DH)(f:AV)(args:List AV)(s:AD):Option (AV×AD):=
 match f with
 | .func f first cap=>F.call f (first++(args++cap)) s
 | .yield l=>F.round l args s
 | _=>none
def Dx(s:AD)(x:Option AV):Option (AV×AD):=match x with
 | some v=>some (v,s)
 | none=>none
def one{α:Type}(f:AV→Option α):List AV→Option α
 | [a]=>f a
 | _=>none
def Ei(sh:Sh)(xs:List AV)(s:AD):Option AV:=
 match sh with
 | .r1 f=>one (f s) xs
 | .r f=>f s xs
 | _=>none
def S7(s:AD)(r:Option (AI×Made)):Option (AV×AD):=match r with
 | some p=>some (p.2.val s.next,newObj s p.1)
 | none=>none
def Tz {α:Type} (f:CX→Option α) (xs:List CX):Option α:=List.rec none (fun x _ _=>f x) xs
def U7 {α:Type} (f:CX→CX→Option α) (xs:List CX):Option α:=Tz (fun x=>Tz (f x) xs.tail) xs
def sS (f:AV→Option AV) (xs:List CX) (loc var:List AV) (s:AD):Option (AV×AD):=Tz (fun x=>Dx s (f (Cc loc var x))) xs
def sT (f:AV→AV→Option AV) (xs:List CX) (loc var:List AV) (s:AD):Option (AV×AD):=U7 (fun x y=>Dx s (f (Cc loc var x) (Cc loc var y))) xs
def sU (f:AD→AV→Option AV) (xs:List CX) (loc var:List AV) (s:AD):Option (AV×AD):=Tz (fun x=>Dx s (f s (Cc loc var x))) xs
def shV (F:DH) (xs:List CX) (loc var:List AV) (s:AD):Option (AV×AD):=Tz (fun x=>Gq F (Cc loc var x) (DE loc var xs.tail) s) xs
def pn (F:DH) (sh:Sh) (xs:List CX) (loc var:List AV) (s:AD):Option (AV×AD):=
 match sh with
 | .p1 f=>sS f xs loc var s
 | .p2 f=>sT f xs loc var s
 | .p f=>Dx s (f (DE loc var xs))
 | .r1 f=>sU f xs loc var s
 | .r f=>Dx s (f s (DE loc var xs))
 | .mk f=>S7 s (f (DE loc var xs))
 | .e f=>f s (DE loc var xs)
 | .call f=>F.call f (DE loc var xs) s
 | .callv=>shV F xs loc var s
def rZ(want:Bool):AV→Bool
 | .bool b=>b == want
 | _=>false
def BO (loc var:List AV) (g:Option (CX×Bool)):Bool:=
 match g with
 | none=>true
 | some p=>rZ p.2 (Cc loc var p.1)
def qB:AV→Bool
 | .junk=>true
 | _=>false
def Zj (loc var:List AV) (g:Option (CX×Bool)):Bool:=
 match g with
 | none=>false
 | some p=>qB (Cc loc var p.1)
def TX(x:Option AV)(v:AV):Bool:=match x with
 | some u=>FT u v
 | none=>false
def GB (s:AD) (loc var:List AV) (r:Gh):Bool:=
 !BO loc var r.guard || TX (Ei r.sh (DE loc var r.xs) s) (Cc loc var r.ans)
def ES (s:AD) (loc var:List AV) (l:List Gh):Bool:=
 List.rec true (fun r _ ih=>GB s loc var r && ih) l
abbrev Zk:=List AV→List AV→AD→Option (List AV×AD)
def Ce (ag:List Gh) (d:Lo) (k:Zk) (loc var:List AV) (v:AV) (s:AD):Option (List AV×AD):=
 match d with
 | .push=>bif ES s (v::loc) var ag then k (v::loc) var s else none
 | .set j=>bif ES s loc (F4 v var j) ag then k loc (F4 v var j) s else none
def L9 (it:AB) (k:Zk) (loc var:List AV) (r:Option (AV×AD)):Option (List AV×AD):=
 match r with
 | none=>none
 | some p=>Ce it.again it.dst k loc var p.1 p.2
def LS (F:DH) (it:AB) (k:Zk) (loc var:List AV) (s:AD):Option (List AV×AD):=
 match Zj loc var it.guard with
 | true=>none
 | false=>match BO loc var it.guard with
  | true=>L9 it k loc var (pn F it.sh it.xs loc var s)
  | false=>Ce [] it.dst k loc var Bo s
def EZ (F:DH) (l:List AB):Zk:=
 List.rec (fun _ var s=>some (var,s)) (fun it _ ih loc var s=>LS F it ih loc var s) l
def Ql(l:List AV):Nat→List AV
 | 0=>[]
 | n+1=>match l with
  | []=>Bo::Ql [] n
  | a::l=>a::Ql l n
def Bg (P:Program) (s:AD) (var:List AV):List (CX×Option TypeId)→Option (List AV)
 | []=>some []
 | (x,none)::l=>(Bg P s var l).bind fun r=>some (Cc [] var x::r)
 | (x,some t)::l=>(AG P s t (Cc [] var x)).bind fun v=>(Bg P s var l).bind fun r=>some (v::r)
def BP:List AV→AV
 | [v]=>v
 | l=>.tuple l
def DS(s:AD):List Nat→Option AD
 | []=>some s
 | i::l=>match s.heap.get i with
  | some .mark=>DS (Bx s i) l
  | _=>none
def Cn:MH→Option Code
 | .normal=>none
 | .ret=>some .ret
 | .exit id=>some (.exit id)
def EA (vars:List Tmp) (var:List AV):List Tmp→List AV→Option (List AV)
 | [],[]=>some var
 | t::ts,v::vs=>(Aq vars t).bind fun j=>EA vars (F4 v var j) ts vs
 | _,_=>none
def Bc(s:AD)(l:Nat):Option FO:=match s.heap.get l with
 | some (.loop r)=>some r
 | _=>none
def GG(P:Program)(f:FuncId)(c:Code):Option Aa:=(P.funcs[f]?).bind fun fn=>some (Ab P f fn.ntmps (Ad P fn) c)
def Ec(P:Program)(f:FuncId):List Tmp:=match P.funcs[f]? with
 | some fn=>Ad P fn
 | none=>[]
def jN(marks:List Nat)(r:Option (List AV×AD)):Option Ax:=match r with
 | some p=>some ⟨.normal,p.1,marks,p.2⟩
 | none=>none
def Hk(F:DH)(rnd:Option Nat)(b:Aa)(r:Ax):Option Ax:=match r.exit with
 | .normal=>F.code rnd b r.var r.marks r.st
 | _=>some r
def I1(F:DH)(rnd:Option Nat)(b:Aa)(r:Option Ax):Option Ax:=match r with
 | some r=>Hk F rnd b r
 | none=>none
def SU(F:DH)(rnd:Option Nat)(a b:Aa)(var:List AV)(marks:List Nat)(s:AD)(v:AV):Option Ax:=match v with
 | .bool t=>match t with
  | true=>F.code rnd a var marks s
  | false=>F.code rnd b var marks s
 | _=>none
def Lz(id:Nat)(r:Ax):Option Ax:=match r.exit with
 | .exit id'=>bif Nat.beq id' id then some ⟨.normal,r.var,r.marks,r.st⟩else some r
 | _=>some r
def Me(id:Nat)(r:Option Ax):Option Ax:=match r with
 | some r=>Lz id r
 | none=>none
def Gm(var:List AV)(marks:List Nat)(s:AD)(c:Option Code):Option Ax:=match c with
 | none=>some ⟨.normal,var,marks,s⟩
 | some .ret=>some ⟨.ret,var,marks,s⟩
 | some (.exit id)=>some ⟨.exit id,var,marks,s⟩
 | some _=>none
def VB:LoopState→Bool
 | .busy=>true
 | _=>false
def L8:LoopState→Bool
 | .ready=>true
 | _=>false
def HM(var:List AV)(marks:List Nat)(l:Nat)(q:Option (AV×AD)):Option Ax:=
 q.bind fun q=>(Bc q.2 l).bind fun r=>bif VB r.state then none else
  Gm var marks (setObj q.2 l (.loop { r with state:=.exhausted })) r.pending
def FQ(F:DH)(var:List AV)(f:AV)(params:Array Tmp)(assign body:Code)(fn:FuncId)(dfr:Nat)(marks:List Nat)(s:AD):Option Ax:=
 HM var marks s.next (Gq { F with round:=fun _ _ _=>none } f [.yield s.next] (newObj s (.loop { state:=.ready,pending:=none,fn,var,params,assign,body,dfr })))
def Mf(F:DH)(rnd:Option Nat)(fn:FuncId)(f:AV)(params:Array Tmp)(assign body:Code)(var:List AV)(marks:List Nat)(s:AD):Option Ax:=
 match rnd with
 | some l=>(Bc s l).bind fun r=>FQ F var f params assign body fn r.dfr marks s
 | none=>FQ F var f params assign body fn s.next (s.next::marks) (newObj s .mark)
def Yt:AI→Option AI
 | .row r=>some (.row { r with mode:=.ro,par:=none })
 | .map kt es=>some (.mapRo kt es)
 | .mapRo kt es=>some (.mapRo kt es)
 | _=>none
def frz(n:Nat)(h:AE AI):AD:=⟨n,h.mapO Yt⟩
def Fh:AV→Bool
 | .agg _=>false
 | _=>true
def Jy(a b:AV):Bool:=match a,b with
 | .junk,.junk=>true
 | _,_=>FT a b
def RD:List AV→List AV→Option (List AV)
 | [],[]=>some []
 | a::l,b::m=>(bif Jy a b then some a else AF (Fh a && Fh b) (some .junk)).bind fun c=>(RD l m).bind fun r=>some (c::r)
 | _,_=>none
def rH(x b:AV):Bool:=Jy x b || (Fh x && Jy .junk b)
def er:List AV→List AV→Bool
 | [],[]=>true
 | x::l,b::m=>rH x b && er l m
 | _,_=>false
def Ha:List Nat→List Nat→Bool
 | [],[]=>true
 | a::l,b::m=>Nat.beq a b && Ha l m
 | _,_=>false
def KT(id2:Nat):MH→Bool
 | .normal=>true
 | .exit i=>Nat.beq i id2
 | .ret=>false
def PU:AV→Bool
 | .bool _ | .int .. | .str _=>true
 | _=>false
def iD:List AV→List AV→Option (List AV)
 | [],[]=>some []
 | a::l,x::m=>(bif PU x || Jy a x then some x else AF (Fh x) (some .junk)).bind fun c=>(iD l m).bind fun r=>some (c::r)
 | _,_=>none
def OY(var:List AV):List CX→List Nat
 | []=>[]
 | .var j::l=>match var[j]? with
  | some (.ptr (some (i,_)))=>i::OY var l
  | _=>OY var l
 | _::l=>OY var l
def CL(r:CG):Bool:=B8 r.mode && (r.par.isNone && r.glob.isNone)
def lN(h:AE AI):List Nat→AE AI→Option (AE AI)
 | [],t=>some t
 | i::l,t=>match h.get i with
  | some (.row r)=>AF (CL r) (lN h l (t.set i (.row r)))
  | _=>none
def pM(W:List Nat)(n:Nat)(h:AE AI):Option AD:=(lN h W (h.mapO Yt)).bind fun t=>some ⟨n,t⟩
def Gc(r q:CG):Bool:=Nat.beq q.n r.n && (Nat.beq q.elem r.elem && B8 q.mode)
def Fo:List AV→List AV→Bool
 | [],[]=>true
 | a::l,b::m=>(PU b || Jy a b) && Fo l m
 | _,_=>false
def PS(s q:AD):List Nat→Bool
 | []=>true
 | i::l=>(match rowAt s i,rowAt q i with
  | some r,some r'=>Gc r r' && (match r.c.take 0 r.n,r'.c.take 0 r.n with
   | some a,some b=>FT (.agg a) (.agg b)
   | _,_=>false)
  | _,_=>false) && PS s q l
def ZM(s q:AD):List Nat→Option (List (List AV))
 | []=>some []
 | i::l=>(rowAt s i).bind fun r=>(rowAt q i).bind fun r'=>AF (Gc r r') ((r.c.take 0 r.n).bind fun a=>(r'.c.take 0 r.n).bind fun b=>AF (Fo a b) ((ZM s q l).bind fun m=>some (b::m)))
def iN(h:AE AI):List Nat→List (List AV)→Option (AE AI)
 | [],[]=>some h
 | i::l,C::m=>match h.get i with
  | some (.row r)=>iN (h.set i (.row { r with c:=r.c.fill 0 C })) l m
  | _=>none
 | _,_=>none
def rY:List (List AV)→List (List AV)→Bool
 | [],[]=>true
 | a::l,b::m=>FT (.agg a) (.agg b) && rY l m
 | _,_=>false
inductive Pp where
 | go
 | ret (X:List AV) (M:List (List AV))
def gE (l:List AB):List Nat:=List.rec [] (fun it _ ih=>match it.dst with
 | .set j=>j::ih
 | .push=>ih) l
def Lg:Aa→Option (List Nat)
 | .ops l=>some (gE l)
 | .seq a b=>(Lg a).bind fun x=>(Lg b).bind fun y=>some (x++y)
 | .cond _ a b=>(Lg a).bind fun x=>(Lg b).bind fun y=>some (x++y)
 | .block _ c=>Lg c
 | .loop c=>Lg c
 | .rangeFunc ..=>none
 | .rangeMap r c=>(Lg c).bind fun x=>some (r.jt::r.jok::r.jk::x)
 | _=>some []
def Q4:List Nat→List AV→Option (List AV)
 | [],A=>some A
 | j::l,A=>AF (Fh (LV A j)) (Q4 l (F4 .junk A j))
def DP (F:DH) (rnd:Option Nat) (r:Lp) (body:Aa) (A:List AV) (W:List Nat) (marks:List Nat) (s:AD) (k:AV):Option Pp:=
 (F.code rnd body (F4 k (F4 (.bool true) A r.jok) r.jk) marks s).bind fun q=>AF (Ha q.marks marks) (match q.exit with
  | .ret=>(iD A q.var).bind fun X=>(ZM s q.st W).bind fun M=>some (.ret X M)
  | e=>AF (KT r.id2 e && (er q.var A && PS s q.st W)) (some .go))
def GY (f:AV→Option Pp) (R:Option (List AV×List (List AV))):List (AV×AV)→Option (Option (List AV×List (List AV)))
 | []=>some R
 | e::l=>(f e.1).bind fun o=>match o with
  | .go=>GY f R l
  | .ret X M=>match R with
   | none=>GY f (some (X,M)) l
   | some Y=>AF (rY Y.2 M) ((RD Y.1 X).bind fun Z=>GY f (some (Z,Y.2)) l)
def Nn (F:DH) (rnd:Option Nat) (r:Lp) (body:Aa) (it:AV) (marks:List Nat) (n:Nat) (h:AE AI) (A0:List AV) (l:List (AV×AV)):Option Ax:=
 (Lg body).bind fun J=>(Q4 (r.jok::r.jk::J) A0).bind fun A=>AF (FT (LV A r.jt) it && FT (LV A0 r.jt) it)
  ((pM (OY A0 r.res) n h).bind fun s=>(GY (DP F rnd r body A (OY A0 r.res) marks s) none l).bind fun R=>match R with
   | none=>some ⟨.normal,F4 (.bool false) A r.jok,marks,⟨n,h⟩⟩
   | some Z=>(iN h (OY A0 r.res) Z.2).bind fun h'=>some ⟨.ret,Z.1,marks,⟨n,h'⟩⟩)
def X8(s:AD):AV→Option (List (AV×AV))
 | .map (some i)=>match s.heap.get i with
  | some (.map _ es)=>some es
  | some (.mapRo _ es)=>some es
  | _=>none
 | _=>none
def jO (F:DH) (rnd:Option Nat) (r:Lp) (body:Aa) (var:List AV) (marks:List Nat) (s:AD):Option Ax:=
 (r.rd s (Cc [] var r.ad)).bind fun m=>(X8 s m).bind fun es =>
  Nn F rnd r body (.ptr (some (s.next,0))) marks (s.next+1) s.heap (F4 (.ptr (some (s.next,0))) var r.jt) es
def CR (F:DH) (rnd:Option Nat) (c:Aa) (var:List AV) (marks:List Nat) (s:AD):Option Ax:=
 match c with
 | .skip=>some ⟨.normal,var,marks,s⟩
 | .ret=>some ⟨.ret,var,marks,s⟩
 | .exit id=>some ⟨.exit id,var,marks,s⟩
 | .never=>none
 | .ops l=>jN marks (EZ F l [] var s)
 | .seq a b=>I1 F rnd b (F.code rnd a var marks s)
 | .cond x a b=>SU F rnd a b var marks s (Cc [] var x)
 | .block id body=>Me id (F.code rnd body var marks s)
 | .loop body=>I1 F rnd (.loop body) (F.code rnd body var marks s)
 | .rangeFunc fn f params assign body=>Mf F rnd fn (Cc [] var f) params assign body var marks s
 | .rangeMap r body=>jO F rnd r body var marks s
def X4:MH→Bool
 | .normal | .ret=>true
 | .exit _=>false
def L4 (P:Program) (cf:Au) (r:Option Ax):Option (AV×AD):=
 r.bind fun r=>bif X4 r.exit then (DS r.st r.marks).bind fun s=>(Bg P s r.var cf.results).bind fun l=>some (BP l,s)else none
def Gn (P:Program) (F:DH) (args:List AV) (s:AD) (cf:Option Au):Option (AV×AD):=
 cf.bind fun cf=>bif Nat.beq args.length cf.na then L4 P cf (F.code none cf.body (Ql args cf.nv) [] s)else none
def IN (E:Ck) (F:DH) (f:FuncId) (args:List AV) (s:AD):Option (AV×AD):=
 match E.nat f args s with
 | some p=>some p
 | none=>Gn E.P F args s (AS E.P f)
def Gy:MH→Bool
 | .normal=>true
 | _=>false
def Hc:Option Code→LoopState
 | none=>.ready
 | some _=>.done
def Jw(l:Nat)(q:Option Ax):Option (AV×AD):=q.bind fun q=>(Bc q.st l).bind fun r =>
 some (.bool (Cn q.exit).isNone,setObj q.st l (.loop { r with state:=Hc (Cn q.exit),pending:=Cn q.exit }))
def HX(F:DH)(l:Nat)(cb:Aa)(q:Option Ax):Option (AV×AD):=q.bind fun q=>bif Gy q.exit then
  (Bc q.st l).bind fun r=>bif L8 r.state then Jw l (F.code (some l) cb q.var q.marks (setObj q.st l (.loop { r with state:=.busy })))else none
 else none
def Lj (E:Ck) (F:DH) (l:Nat) (args:List AV) (s:AD):Option (AV×AD):=
 (Bc s l).bind fun r=>(EA (Ec E.P r.fn) r.var r.params.toList args).bind fun var =>
  (GG E.P r.fn r.assign).bind fun ca=>(GG E.P r.fn r.body).bind fun cb=>HX F l cb (F.code (some l) ca var [] s)
def ru:DH:=⟨fun _ _ _ _ _=>none,fun _ _ _=>none,fun _ _ _=>none⟩
def rh (E:Ck) (F:DH):DH:=⟨CR F,IN E F,Lj E F⟩
def DF (E:Ck) (n:Nat):DH:=Nat.rec ru (fun _ F=>rh E F) n
structure RB where
 b:Nat
 off:Nat
 N:Nat
 sz:Nat
abbrev A5:=Nat→Option RB
mutual
inductive AM (ρ:A5):AV→Value→Prop
 | bool (b:Bool):AM ρ (.bool b) (.bool b)
 | int (k:IntKind) (n:Int):AM ρ (.int k n) (.int k n)
 | str {l:List Nat} {s:ByteArray} (h:s.data.toList.map (fun(b:UInt8)=>b.toNat)=l):AM ρ (.str l) (.string s)
 | ptrNil:AM ρ (.ptr none) (.pointer none)
 | ptr {i o:Nat} {rb:RB} (h:ρ i=some rb):AM ρ (.ptr (some (i,o))) (.pointer (some ⟨rb.b,rb.off+o,none⟩))
 | gptr (g o:Nat):AM ρ (.gptr g o) (.pointer (some ⟨g,o,none⟩))
 | sliceNil:AM ρ (.slice none 0 (some 0)) (.slice none 0 0)
 | slice {i o len c:Nat} {rb:RB} (h:ρ i=some rb) (hl:len≤c):AM ρ (.slice (some (i,o)) len (some c)) (.slice (some ⟨rb.b,rb.off+o,none⟩) len c)
 | sliceOpen {i o len c:Nat} {rb:RB} (h:ρ i=some rb) (hs:0<rb.sz) (hl:len≤c) (h1:o+c * rb.sz≤rb.N) (h2:rb.N<o+(c+1) * rb.sz):
   AM ρ (.slice (some (i,o)) len none) (.slice (some ⟨rb.b,rb.off+o,none⟩) len c)
 | sliceEnd {i o:Nat} {rb:RB} {a:Addr} (h:ρ i=some rb) (hs:0<rb.sz) (h1:o≤rb.N) (h2:rb.N<o+rb.sz):
   AM ρ (.slice (some (i,o)) 0 none) (.slice (some a) 0 0)
 | mapNil:AM ρ (.map none) (.map none)
 | map {i:Nat} {rb:RB} (h:ρ i=some rb):AM ρ (.map (some i)) (.map (some rb.b))
 | func {f:FuncId} {a c:List AV} {a' c':Array Value} (ha:AJ ρ a a'.toList) (hc:AJ ρ c c'.toList):AM ρ (.func f a c) (.func (.func f) a' c')
 | yield {i:Nat} {rb:RB} (h:ρ i=some rb):AM ρ (.yield i) (.func (.yield rb.b) #[] #[])
 | nilFunc:AM ρ .nilFunc .nilFunc
 | nilIface:AM ρ .nilIface .nilIface
 | iface {t:TypeId} {v:AV} {v':Value} (h:AM ρ v v'):AM ρ (.iface t v) (.iface t v')
 | agg {cs:List AV} {cs':Array Value} (h:AJ ρ cs cs'.toList):AM ρ (.agg cs) (.agg cs')
 | tuple {cs:List AV} {cs':Array Value} (h:AJ ρ cs cs'.toList):AM ρ (.tuple cs) (.tuple cs')
 | any {v':Value} (h:v'.cells.toList=[v']):AM ρ .junk v'
inductive AJ (ρ:A5):List AV→List Value→Prop
 | nil:AJ ρ [] []
 | cons {v:AV} {v':Value} {l:List AV} {l':List Value} (h:AM ρ v v') (hs:AJ ρ l l'):AJ ρ (v::l) (v'::l')
end
def A5.le(ρ σ:A5):Prop:=∀i rb,ρ i=some rb→σ i=some rb
theorem A5.le_refl(ρ:A5):ρ.le ρ:=fun _ _ h=>h
theorem A5.le_trans{ρ σ τ:A5}(h:ρ.le σ)(k:σ.le τ):ρ.le τ:=fun i rb e=>k i rb (h i rb e)
mutual
theorem AM.mono{ρ σ:A5}(le:ρ.le σ){v:AV}{v':Value}(h:AM ρ v v'):AM σ v v':=by
 cases h with
 | bool b=>exact .bool b
 | int k n=>exact .int k n
 | str h=>exact .str h
 | ptrNil=>exact .ptrNil
 | ptr h=>exact .ptr (le _ _ h)
 | gptr g o=>exact .gptr g o
 | sliceNil=>exact .sliceNil
 | slice h hl=>exact .slice (le _ _ h) hl
 | sliceOpen h hs hl h1 h2=>exact .sliceOpen (le _ _ h) hs hl h1 h2
 | sliceEnd h hs h1 h2=>exact .sliceEnd (le _ _ h) hs h1 h2
 | mapNil=>exact .mapNil
 | map h=>exact .map (le _ _ h)
 | func ha hc=>exact .func (AJ.mono le ha) (AJ.mono le hc)
 | yield h=>exact .yield (le _ _ h)
 | nilFunc=>exact .nilFunc
 | nilIface=>exact .nilIface
 | iface h=>exact .iface (AM.mono le h)
 | agg h=>exact .agg (AJ.mono le h)
 | tuple h=>exact .tuple (AJ.mono le h)
 | any h=>exact .any h
theorem AJ.mono{ρ σ:A5}(le:ρ.le σ){v:List AV}{v':List Value}(h:AJ ρ v v'):AJ σ v v':=by
 cases h with
 | nil=>exact .nil
 | cons h hs=>exact .cons (AM.mono le h) (AJ.mono le hs)
end
section lists
variable{ρ:A5}
theorem AJ.length{l:List AV}{l':List Value}(h:AJ ρ l l'):l.length=l'.length:=by
 induction l generalizing l' with
 | nil=>cases h;rfl
 | cons a l ih=>cases h with | cons h hs=>simp[ih hs]
theorem AJ.get{l:List AV}{l':List Value}(h:AJ ρ l l'){k:Nat}{v:AV}(hk:l[k]? = some v):∃v',l'[k]? = some v'∧AM ρ v v':=by
  induction l generalizing l' k with
  | nil=>simp at hk
  | cons a l ih =>
    cases h with
    | cons h hs =>
      cases k with
      | zero=>simp at hk;subst hk;exact⟨_,rfl,h⟩
      | succ k=>simp at hk;obtain⟨v',h1,h2⟩:=ih hs hk;exact⟨v',by simpa using h1,h2⟩
theorem AJ.of_get{l:List AV}{l':List Value}(hl:l.length=l'.length)(h:∀ (k:Nat)(v:AV)(v':Value),l[k]? = some v→l'[k]? = some v'→AM ρ v v'):AJ ρ l l':=by
  induction l generalizing l' with
  | nil=>cases l' with | nil=>exact .nil | cons=>simp at hl
  | cons a l ih =>
    cases l' with
    | nil=>simp at hl
    | cons a' l'=>exact .cons (h 0 a a' rfl rfl) (ih (by simpa using hl) fun k v v' h1 h2=>h (k+1) v v' (by simpa using h1) (by simpa using h2))
theorem AJ.append{l m:List AV}{l' m':List Value}(h:AJ ρ l l')(k:AJ ρ m m'):AJ ρ (l++m) (l'++m'):=by
 induction l generalizing l' with
 | nil=>cases h;exact k
 | cons a l ih=>cases h with | cons h hs=>exact .cons h (ih hs)
theorem AJ.take{l:List AV}{l':List Value}(h:AJ ρ l l')(n:Nat):AJ ρ (l.take n) (l'.take n):=by
  induction l generalizing l' n with
  | nil=>cases h;simp;exact .nil
  | cons a l ih =>
    cases h with
    | cons h hs=>cases n with
      | zero=>exact .nil
      | succ n=>exact .cons h (ih hs n)
theorem AJ.drop{l:List AV}{l':List Value}(h:AJ ρ l l')(n:Nat):AJ ρ (l.drop n) (l'.drop n):=by
  induction l generalizing l' n with
  | nil=>cases h;simp;exact .nil
  | cons a l ih =>
    cases h with
    | cons h hs=>cases n with
      | zero=>exact .cons h hs
      | succ n=>exact ih hs n
theorem AM.cells{v:AV}{v':Value}(h:AM ρ v v'):AJ ρ v.cells v'.cells.toList:=by
 cases h with
 | agg h=>exact h
 | bool b=>exact .cons (.bool b) .nil
 | int k n=>exact .cons (.int k n) .nil
 | str h=>exact .cons (.str h) .nil
 | ptrNil=>exact .cons .ptrNil .nil
 | ptr h=>exact .cons (.ptr h) .nil
 | gptr g o=>exact .cons (.gptr g o) .nil
 | sliceNil=>exact .cons .sliceNil .nil
 | slice h hl=>exact .cons (.slice h hl) .nil
 | sliceOpen h hs hl h1 h2=>exact .cons (.sliceOpen h hs hl h1 h2) .nil
 | sliceEnd h hs h1 h2=>exact .cons (.sliceEnd h hs h1 h2) .nil
 | mapNil=>exact .cons .mapNil .nil
 | map h=>exact .cons (.map h) .nil
 | func ha hc=>exact .cons (.func ha hc) .nil
 | yield h=>exact .cons (.yield h) .nil
 | nilFunc=>exact .cons .nilFunc .nil
 | nilIface=>exact .cons .nilIface .nil
 | iface h=>exact .cons (.iface h) .nil
 | tuple h=>exact .cons (.tuple h) .nil
 | any h=>rw[h];exact .cons (.any h) .nil
theorem AM.oneCell{v:AV}{v':Value}(h:AM ρ v v')(hc:v.isCell=true):v'.oneCell'=true:=by
 cases h<;>first | rfl | cases hc
theorem AJ.oneCell{l:List AV}{l':List Value}(h:AJ ρ l l')(hc:Ag l=true):∀v∈l',v.oneCell'=true:=by
  induction l generalizing l' with
  | nil=>cases h;simp
  | cons a l ih =>
    cases h with
    | cons h hs =>
      simp only[Ag,Bool.and_eq_true]at hc
      intro v hv
      rcases uT.1 hv with rfl | hv
      · exact h.oneCell hc.1
      · exact ih hs hc.2 v hv
end lists
theorem Jq(ρ:A5){v:Value}{a:AV}(h:Jp v=some a):AM ρ a v:=by
 unfold Jp at h
 split at h<;>first
  | (injection h with h;subst h;first | exact .bool _ | exact .int _ _ | exact .str rfl | exact .ptrNil | exact .sliceNil | exact .mapNil | exact .nilFunc | exact .nilIface)
  | cases h
theorem Fg(ρ:A5):∀ {l:List Value}{r:List AV},Ey l=some r→AJ ρ r l
 | [],r,h=>by simp[Ey]at h;subst h;exact .nil
 | v::l,r,h=>by
  simp only[Ey,tH]at h
  obtain⟨a,ha,r',hr,h⟩:=h
  injection h with h;subst h
  exact .cons (Jq ρ ha) (Fg ρ hr)
theorem Br(ρ:A5){v:Value}{a:AV}(h:ofValue v=some a):AM ρ a v:=by
 unfold ofValue at h
 split at h
 ·simp only[tH]at h
  obtain⟨l,hl,h⟩:=h
  injection h with h;subst h
  exact .agg (Fg ρ hl)
 ·simp only[tH]at h
  obtain⟨l,hl,h⟩:=h
  injection h with h;subst h
  exact .tuple (Fg ρ hl)
 ·exact Jq ρ h
theorem DC(ρ:A5):AM ρ Bo undef:=.tuple .nil
theorem AA{α:Type}{b:Bool}{x:Option α}{a:α}(h:AF b x=some a):b=true∧x=some a:=by
 cases b with
 | true=>exact⟨rfl,h⟩
 | false=>cases h
inductive CT (ρ:A5):List (AV×AV)→List MapEntry→Prop
 | nil:CT ρ [] []
 | cons {k v:AV} {e:MapEntry} {l:List (AV×AV)} {l':List MapEntry} (hk:AM ρ k e.key) (hv:AM ρ v e.val) (hs:CT ρ l l'):CT ρ ((k,v)::l) (e::l')
theorem CT.mono{ρ σ:A5}(le:ρ.le σ){l:List (AV×AV)}{l':List MapEntry}(h:CT ρ l l'):CT σ l l':=by
 induction h with
 | nil=>exact .nil
 | cons hk hv _ ih=>exact .cons (hk.mono le) (hv.mono le) ih
theorem CT.length{ρ:A5}{l:List (AV×AV)}{l':List MapEntry}(h:CT ρ l l'):l.length=l'.length:=by
 induction h with
 | nil=>rfl
 | cons _ _ _ ih=>simp[ih]
structure Gj(P:Program)(ρ:A5)(w:World)(kt:TypeId)(es:List (AV×AV))(rb:RB):Prop where
 ex:∃ (es':Array MapEntry) (clock:Nat),w.heap[rb.b]? = some (.map es' clock)∧MapKept.Stamped es' clock∧(∃l,l.Perm es'.toList∧CT ρ es l)∧∀e∈es'.toList,∃l,keyOf P kt e.key=some l
structure BF(ρ:A5)(w:World)(r:CG)(rb:RB):Prop where
 cells:∀k v,k<r.n→r.c.get k=some v→∃v',w.cell? ⟨rb.b,rb.off+k,none⟩=some v'∧AM ρ v v'
 le:r.n≤rb.N
 sz:r.sz=rb.sz
 tight:r.spare=false→rb.N=r.n
 own:r.mode≠.ro→∃cs,w.heap[rb.b]? = some (.cells cs r.elem (0,0))∧rb.off+rb.N≤cs.size
 base:r.bytes=true→rb.off=0
 gl:∀g,r.glob=some g→rb.b=g∧rb.off=0∧∃cs e pl,w.heap[rb.b]? = some (.cells cs e pl)∧cs.size=rb.N
 par:∀p,r.par=some p→∃rp,ρ p=some rp
def ED(ρ:A5)(vars:List Tmp)(var:List AV)(tmps:Array Value):Prop:=
 ∀ (t:Tmp) (k:Nat),Aq vars t=some k→t<tmps.size∧∃v:AV,var[k]? = some v∧AM ρ v (tmps.getD t undef)
end
end Go.Proofs.YtoaaclpjkelofaaGreatDoor.Am
set_option linter.unusedVariables false
set_option linter.unusedSimpArgs false
namespace Go.Proofs.YtoaaclpjkelofaaGreatDoor.Am
open Go
noncomputable section
theorem F1{α:Type}{P:Program}{w:World}:∀ {s:Sem α}{a:α},DQ P s=some a→s.run P w=.ok a w:=by
 intro s
 induction s with
 | pure b=>intro a h;simp[DQ]at h;subst h;rfl
 | program k ih=>intro a h;simp only[DQ]at h;simp only[Sem.run];exact ih P h
 | mark m k ih=>intro a h;simp only[DQ]at h;simp only[Sem.run];exact ih h
 | load=>intro a h;simp[DQ]at h
 | store=>intro a h;simp[DQ]at h
 | new=>intro a h;simp[DQ]at h
 | shape=>intro a h;simp[DQ]at h
 | freeze=>intro a h;simp[DQ]at h
 | frozen=>intro a h;simp[DQ]at h
 | getObj=>intro a h;simp[DQ]at h
 | setObj=>intro a h;simp[DQ]at h
 | choose=>intro a h;simp[DQ]at h
 | sys=>intro a h;simp[DQ]at h
 | halt=>intro a h;simp[DQ]at h
section types
variable{P:Program}{w:World}{t:TypeId}
theorem AH{d:TypeDesc}(h:P.underlying t=some d):(underlying t).run P w=.ok d w:=by simp[underlying,h]
theorem HZ{g:Bool}(h:Ek P t=some g):(isAgg t).run P w=.ok g w:=by
 unfold Ek at h
 split at h
 ·injection h with h;subst h;simp[isAgg,underlying, *]
 ·injection h with h;subst h;simp[isAgg,underlying, *]
 ·rename_i d _ _ hd
  injection h with h;subst h
  simp only[isAgg,Sem.run_bind,AH hd,Result.andThen_ok]
  cases d<;>simp_all
 ·cases h
theorem Ar{n:Nat}(h:A1 P t=some n):(sizeOf t).run P w=.ok n w:=by
 unfold A1 at h
 split at h
 ·injection h with h;subst h;simp[sizeOf,typeInfo, *]
 ·cases h
theorem ZR{n:Nat}(h:DL P t=some n):∃i,(typeInfo t).run P w=.ok i w∧i.bytes=n:=by
 unfold DL at h
 split at h
 ·injection h with h;rename_i i hi;exact⟨i,by simp[typeInfo,hi],h⟩
 ·cases h
theorem Jx(ρ:A5){z:AV}(h:Dy P t=some z):∃v,(zeroValue t).run P w=.ok v w∧AM ρ z v:=by
  unfold Dy at h
  split at h
  · split at h
    · rename_i i hi _ v hv
      exact⟨v,by simp[zeroValue,typeInfo,hi,hv],Br ρ h⟩
    · cases h
  · cases h
end types
theorem MG{k:IntKind}{n:Int}(h:BM k n=true):k.wrap n=n:=by
 have hb:k.min≤n∧n≤k.max:=by
  unfold BM at h
  cases n with
  | ofNat m=>cases k<;>simp[tK]at h<;>simp[IntKind.min,IntKind.max,IntKind.signed,IntKind.bits]<;>omega
  | negSucc m=>cases k<;>simp[tK]at h<;>simp[IntKind.min,IntKind.max,IntKind.signed,IntKind.bits]<;>omega
 cases k<;>simp[IntKind.min,IntKind.max,IntKind.signed,IntKind.bits]at hb<;>simp only[IntKind.wrap,IntKind.signed,IntKind.bits]<;>simp<;>omega
theorem HI(k:IntKind)(n:Int):Cb k n=k.wrap n:=by
 unfold Cb
 cases h:BM k n with
 | true=>simp[MG h]
 | false=>rfl
theorem Cv(a b:Int):O9 a b=decide (a<b):=by
 cases a with
 | ofNat a=>cases b with
  | ofNat b=>rw[Bool.eq_iff_iff];simp only[O9,tP,decide_eq_true_iff,ut];omega
  | negSucc b=>simp only[O9];rw[eq_comm,decide_eq_false_iff_not];simp only[ut];omega
 | negSucc a=>cases b with
  | ofNat b=>simp only[O9];rw[eq_comm,decide_eq_true_iff];simp only[ut];omega
  | negSucc b=>rw[Bool.eq_iff_iff];simp only[O9,tP,decide_eq_true_iff];omega
theorem GI(a b:Int):R9 a b=(a == b):=by
 rw[Bool.eq_iff_iff,beq_iff_eq]
 cases a with
 | ofNat a=>cases b with
  | ofNat b=>simp only[R9,uO,ut];omega
  | negSucc b=>simp[R9]
 | negSucc a=>cases b with
  | ofNat b=>simp[R9]
  | negSucc b=>simp only[R9,uO];omega
theorem CW{k k':IntKind}(h:Bu k k'=true):k=k':=by cases k<;>cases k'<;>first | rfl | cases h
theorem gc{n:Int}{m:Nat}(h:YA n=some m):n=(m:Int):=by cases n<;>simp[YA]at h;subst h;rfl
theorem gB{P:Program}{ρ:A5}{op:BinOp}{k:IntKind}{a b:Int}{v:AV}(h:gA P op k a b=some v)(t:TypeId)(w:World):
  ∃v',(Go.binOp op t (.int k a) (.int k b)).run P w=.ok v' w∧AM ρ v v':=by
 unfold gA at h
 split at h
 case h_1=>injection h with h;subst h;exact⟨.int k (k.wrap (a+b)),by simp[Go.binOp,Op.intArith],by rw[HI];exact .int _ _⟩
 case h_2=>injection h with h;subst h;exact⟨.int k (k.wrap (a - b)),by simp[Go.binOp,Op.intArith],by rw[HI];exact .int _ _⟩
 case h_3=>injection h with h;subst h;exact⟨.int k (k.wrap (a * b)),by simp[Go.binOp,Op.intArith],by rw[HI];exact .int _ _⟩
 case h_4=>injection h with h;subst h;exact⟨.bool (a == b),by simp[Go.binOp,Op.intCmp],by rw[GI];exact .bool _⟩
 case h_5=>injection h with h;subst h;exact⟨.bool (a != b),by simp[Go.binOp,Op.intCmp],by rw[GI];exact .bool _⟩
 case h_6=>injection h with h;subst h;exact⟨.bool (a<b),by simp[Go.binOp,Op.intCmp],by rw[Cv];exact .bool _⟩
 case h_7=>injection h with h;subst h;exact⟨.bool (a≤b),by simp[Go.binOp,Op.intCmp],by rw[Cv,show(!decide (b<a))=decide (a≤b)from by rw[Bool.eq_iff_iff];simp];exact .bool _⟩
 case h_8=>injection h with h;subst h;exact⟨.bool (a > b),by simp[Go.binOp,Op.intCmp],by rw[Cv];exact .bool _⟩
 case h_9=>injection h with h;subst h;exact⟨.bool (a≥b),by simp[Go.binOp,Op.intCmp],by rw[Cv,show(!decide (a<b))=decide (a≥b)from by rw[Bool.eq_iff_iff];simp];exact .bool _⟩
 case h_10 =>
  simp only[tH]at h
  obtain⟨u,hu,h⟩:=h
  exact⟨u,by have:=F1 (w:=w) hu;simpa[Go.binOp]using this,Br ρ h⟩
 case h_11 =>
  simp only[tH]at h
  obtain⟨u,hu,h⟩:=h
  exact⟨u,by have:=F1 (w:=w) hu;simpa[Go.binOp]using this,Br ρ h⟩
 case h_12=>cases h
 case h_13=>cases h
 case h_14 =>
  simp only[tH]at h
  obtain⟨u,hu,h⟩:=h
  refine⟨u,?_,Br ρ h⟩
  have:=F1 (w:=w) hu
  rename_i n1 n2 n3 n4 n5 n6 n7 n8 n9 n10 n11 n12 n13
  cases op<;>first | (exfalso;simp at *;done) | simpa[Go.binOp]using this
abbrev DO(l:List UInt8):List Nat:=l.map (fun(b:UInt8)=>b.toNat)
theorem toNat_inj{a b:UInt8}(h:a.toNat=b.toNat):a=b:=UInt8.toNat_inj.1 h
theorem Ij:∀ (x y:List UInt8),CM (DO x) (DO y)=(x == y)
 | [],[]=>rfl
 | [],_::_=>rfl
 | _::_,[]=>rfl
 | a::x,b::y=>by
  simp only[DO,ta,CM]
  by_cases e:a=b
  ·subst e
   have:Nat.beq a.toNat a.toNat=true:=by simp[uO]
   rw[this]
   have ih:=Ij x y
   simp only[DO]at ih
   simp[ih]
  ·have:Nat.beq a.toNat b.toNat=false:=AE.beq_no (fun h=>e (toNat_inj h))
   rw[this]
   simp[e]
theorem N1:∀ (x y:List UInt8),Dw (DO x) (DO y)=Op.bytesLess x y
 | [],[]=>rfl
 | [],_::_=>rfl
 | _::_,[]=>rfl
 | a::x,b::y=>by
  simp only[DO,ta,Dw,Op.bytesLess]
  have ih:=N1 x y
  simp only[DO]at ih
  have h1:Nat.blt a.toNat b.toNat=decide (a<b):=by rw[Bool.eq_iff_iff];simp[tP,UInt8.lt_iff_toNat_lt]
  have h2:Nat.beq a.toNat b.toNat=(a == b):=by
   rw[Bool.eq_iff_iff,beq_iff_eq,uO]
   exact⟨fun h=>toNat_inj h,fun h=>by rw[h]⟩
  rw[h1,h2,ih]
  cases decide (a<b)<;>cases (a == b)<;>rfl
theorem F2(s:ByteArray):(DO s.data.toList).length=s.size:=by simp[DO]
theorem iU{P:Program}{ρ:A5}{op:BinOp}{x y:ByteArray}{v:AV}(h:YL op (DO x.data.toList) (DO y.data.toList)=some v)(w:World):
  ∃v',(Op.stringOp op x y).run P w=.ok v' w∧AM ρ v v':=by
 unfold YL at h
 rw[Ij,N1,F2,F2]at h
 unfold Op.stringOp
 rw[ByteArray.toList_eq,ByteArray.toList_eq]
 split at h
 case h_1 =>
  obtain⟨hb,h⟩:=AA h
  injection h with h;subst h
  have hb':x.size+y.size≤1152921504606846976:=by simpa[tK]using hb
  refine⟨.string (x++y),?_,.str (by simp[DO])⟩
  have:¬ ((x.size+y.size:Nat):Int) > IntKind.i64.max:=by simp[IntKind.max,IntKind.signed,IntKind.bits];omega
  simp only[this,if_false]
  rfl
 case h_2=>injection h with h;subst h;exact⟨_,rfl,.bool _⟩
 case h_3=>injection h with h;subst h;exact⟨_,rfl,.bool _⟩
 case h_4=>injection h with h;subst h;exact⟨_,rfl,.bool _⟩
 case h_5=>injection h with h;subst h;exact⟨_,rfl,.bool _⟩
 case h_6=>injection h with h;subst h;exact⟨_,rfl,.bool _⟩
 case h_7=>injection h with h;subst h;exact⟨_,rfl,.bool _⟩
 case h_8=>cases h
section
variable{P:Program}{ρ:A5}{w:World}
theorem LQ{t:TypeId}(h:Gz P t=true):∃e,P.underlying t=some (.pointer e):=by
 unfold Gz at h;split at h
 ·rename_i e he;exact⟨e,he⟩
 ·cases h
theorem IC{t:TypeId}(h:Jd P t=true):∃e,P.underlying t=some (.slice e):=by
 unfold Jd at h;split at h
 ·rename_i e he;exact⟨e,he⟩
 ·cases h
theorem LP{t:TypeId}(h:Ka P t=true):∃k e,P.underlying t=some (.map k e):=by
 unfold Ka at h;split at h
 ·rename_i k e he;exact⟨k,e,he⟩
 ·cases h
theorem GK{t:TypeId}(h:Jc P t=true):∃a b c,P.underlying t=some (.func a b c):=by
 unfold Jc at h;split at h
 ·rename_i a b c he;exact⟨a,b,c,he⟩
 ·cases h
theorem Q2{t:TypeId}(h:Q1 P t=true):P.underlying t=some .bool:=by
 unfold Q1 at h;split at h
 ·rename_i he;exact he
 ·cases h
set_option maxHeartbeats 1000000 in
theorem pJ{t:TypeId}{x y:AV}{x' y':Value}{b:Bool}(h:kN P t x y=some b)(hx:AM ρ x x')(hy:AM ρ y y')(d:Nat):
  (Op.equalIn (d+1) t x' y').run P w=.ok b w:=by
 unfold kN at h
 split at h
 all_goals first | (cases h;done) | skip
 ·obtain⟨ht,h⟩:=AA h
  injection h with h;subst h
  cases hx;cases hy
  simp[Op.equalIn,AH (Q2 ht)]
 ·obtain⟨ht,h⟩:=AA h
  injection h with h;subst h
  obtain⟨e,ht⟩:=LQ ht
  cases hx;cases hy<;>simp[Op.equalIn,AH ht]
 ·obtain⟨ht,h⟩:=AA h
  injection h with h;subst h
  obtain⟨e,ht⟩:=LQ ht
  cases hy;cases hx<;>simp[Op.equalIn,AH ht]
 ·obtain⟨ht,h⟩:=AA h
  injection h with h;subst h
  obtain⟨e,ht⟩:=IC ht
  cases hx;cases hy<;>simp[Op.equalIn,AH ht]
 ·obtain⟨ht,h⟩:=AA h
  injection h with h;subst h
  obtain⟨e,ht⟩:=IC ht
  cases hy;cases hx<;>simp[Op.equalIn,AH ht]
 ·obtain⟨ht,h⟩:=AA h
  injection h with h;subst h
  obtain⟨k,e,ht⟩:=LP ht
  cases hx;cases hy<;>simp[Op.equalIn,AH ht]
 ·obtain⟨ht,h⟩:=AA h
  injection h with h;subst h
  obtain⟨k,e,ht⟩:=LP ht
  cases hy;cases hx<;>simp[Op.equalIn,AH ht]
 ·obtain⟨ht,h⟩:=AA h
  injection h with h;subst h
  obtain⟨a,b,c,ht⟩:=GK ht
  cases hy;cases hx;simp[Op.equalIn,AH ht]
 ·obtain⟨ht,h⟩:=AA h
  injection h with h;subst h
  obtain⟨a,b,c,ht⟩:=GK ht
  cases hy;cases hx;simp[Op.equalIn,AH ht]
 ·obtain⟨ht,h⟩:=AA h
  injection h with h;subst h
  obtain⟨a,b,c,ht⟩:=GK ht
  cases hy;cases hx;simp[Op.equalIn,AH ht]
theorem fk{t:TypeId}{x y:AV}{x' y':Value}{b:Bool}(h:kN P t x y=some b)(hx:AM ρ x x')(hy:AM ρ y y'):
  (Op.equal t x' y').run P w=.ok b w:=pJ h hx hy 9999
def gy:Value→Bool
 | .nilIface | .agg _=>false
 | _=>true
theorem FB{x':Value}(h:gy x'=true)(op:BinOp)(t:TypeId)(ox oy:Operand)(y':Value):
  (eqGuard op t ox oy x' y').run P w=.ok () w:=by
 cases x'<;>first | (cases h;done) | (cases op<;>rfl)
theorem Ou{t:TypeId}{x y:AV}{x':Value}{b:Bool}(h:kN P t x y=some b)(hx:AM ρ x x'):gy x'=true:=by
 unfold kN at h
 split at h<;>first | (cases h;done) | (cases hx<;>rfl)
theorem V1      {op : BinOp} {t : TypeId} {x y v : AV} {x' y' : Value} (h : AP   P op t x y = some v) (hx : AM   ρ x x') (hy : AM   ρ y y') (ox oy : Operand) :
    ∃v',(do eqGuard op t ox oy x' y';Go.binOp op t x' y').run P w=.ok v' w∧AM ρ v v':=by
  unfold AP at h
  split at h
  · cases hx;cases hy
    rename_i k a k' b
    rw[Sem.run_bind,FB rfl]
    simp only[Result.andThen_ok]
    split at h
    · simp only[tH]at h
      obtain⟨u,hu,h⟩:=h
      exact⟨u,by have:=F1 (w:=w) hu;simpa[Go.binOp]using this,Br ρ h⟩
    · simp only[tH]at h
      obtain⟨u,hu,h⟩:=h
      exact⟨u,by have:=F1 (w:=w) hu;simpa[Go.binOp]using this,Br ρ h⟩
    · obtain⟨hk,h2⟩:=AA h
      have hkk:=CW hk
      subst hkk
      exact gB h2 t w
  · cases hx;cases hy
    rename_i a b s1 h1 s2 h2
    subst h1;subst h2
    rw[Sem.run_bind,FB rfl]
    simp only[Result.andThen_ok]
    obtain⟨v',h1,h2⟩:=iU (P:=P) (ρ:=ρ) h w
    refine⟨v',?_,h2⟩
    rw[← h1]
    cases op<;>first | rfl | (simp[YL]at h;done)
  · split at h
    · simp only[tH]at h
      obtain⟨b,hb,h⟩:=h
      injection h with h;subst h
      rw[Sem.run_bind,FB (Ou hb hx)]
      simp only[Result.andThen_ok]
      refine⟨.bool b,?_,.bool b⟩
      have he:=fk (w:=w) hb hx hy
      have:Go.binOp .eql t x' y'=(do pure (.bool (← Op.equal t x' y')):Sem Value):=by
        unfold kN at hb
        split at hb<;>first | (cases hb;done) | (cases hx<;>cases hy<;>rfl)
      rw[this,Sem.run_bind,he]
      rfl
    · simp only[tH]at h
      obtain⟨b,hb,h⟩:=h
      injection h with h;subst h
      rw[Sem.run_bind,FB (Ou hb hx)]
      simp only[Result.andThen_ok]
      refine⟨.bool (!b),?_,.bool _⟩
      have he:=fk (w:=w) hb hx hy
      have:Go.binOp .neq t x' y'=(do pure (.bool (!(← Op.equal t x' y'))):Sem Value):=by
        unfold kN at hb
        split at hb<;>first | (cases hb;done) | (cases hx<;>cases hy<;>rfl)
      rw[this,Sem.run_bind,he]
      rfl
    · cases h
theorem p6{op:UnOp}{x v:AV}{x':Value}(h:p5 P op x=some v)(hx:AM ρ x x'):
  ∃v',(Op.unary op x').run P w=.ok v' w∧AM ρ v v':=by
 unfold p5 at h
 split at h
 ·cases hx
  rename_i k n
  split at h
  ·injection h with h;subst h
   exact⟨.int k (k.wrap (0 - n)),rfl,by rw[HI];exact .int _ _⟩
  ·simp only[tH]at h
   obtain⟨u,hu,h⟩:=h
   exact⟨u,F1 hu,Br ρ h⟩
  ·cases h
 ·cases hx
  split at h
  ·injection h with h;subst h
   exact⟨_,rfl,.bool _⟩
  ·cases h
 ·cases h
theorem RG{x v:AV}{x':Value}(h:CD x=some v)(hx:AM ρ x x')(ev:Operand→Value)(o:Oper)(y:Operand)(ho:o.op=.nilCheck y)(he:ev y=x'):
  ∃v',(execOp ev o).run P w=.ok (.value v') w∧AM ρ v v':=by
 unfold CD at h
 split at h<;>first | (cases h;done) | skip
 injection h with h;subst h
 refine⟨x',?_,hx⟩
 cases hx<;>first | (simp only[execOp,ho,he];done) | (simp only[execOp,ho,he];rfl) | (exfalso;simp_all;done)
theorem Sn{x v:AV}{i:Nat}{x':Value}(h:Za x i=some v)(hx:AM ρ x x'):
  ∃v',(Instr.extract x' i).run P w=.ok v' w∧AM ρ v v':=by
 unfold Za at h
 split at h<;>first | (cases h;done) | skip
 cases hx with
 | tuple hs =>
  rename_i cs'
  obtain⟨v',h1,h2⟩:=hs.get h
  refine⟨v',?_,h2⟩
  have:cs'[i]? = some v':=by rw[← Array.getElem?_toList];exact h1
  simp[Instr.extract,this]
theorem TM{t:TypeId}{cs:List AV}{cs':Array Value}{off:Nat}{v:AV}(h:YC P t cs off=some v)(hc:AJ ρ cs cs'.toList):
  ∃v',(part t cs' off).run P w=.ok v' w∧AM ρ v v':=by
 unfold YC at h
 simp only[tH]at h
 obtain⟨g,hg,h⟩:=h
 cases g with
 | true =>
  simp only[tH]at h
  obtain⟨n,hn,h⟩:=h
  injection h with h;subst h
  refine⟨.agg (cs'.extract off (off+n)),by simp[part,HZ hg,Ar hn],.agg ?_⟩
  have:(cs'.extract off (off+n)).toList=(cs'.toList.drop off).take n:=by
   rw[Array.toList_extract,List.extract_eq_take_drop]
   congr 1
   omega
  rw[this]
  exact(hc.drop off).take n
 | false =>
  obtain⟨v',h1,h2⟩:=hc.get h
  refine⟨v',?_,h2⟩
  have:cs'[off]? = some v':=by rw[← Array.getElem?_toList];exact h1
  simp[part,HZ hg,this]
theorem NB{x:AV}{x':Value}{k:Nat}(h:IB x=some k)(hx:AM ρ x x'):∃kd,x'=.int kd (k:Int):=by
 unfold IB at h
 split at h<;>first | (cases h;done) | skip
 cases hx
 rename_i kd n
 exact⟨kd,by rw[gc h]⟩
theorem Ys{t:TypeId}{x v:AV}{x':Value}{f:Nat}(h:U2 P t x f=some v)(hx:AM ρ x x'):
  ∃v',(Instr.field t x' f).run P w=.ok v' w∧AM ρ v v':=by
 unfold U2 at h
 split at h<;>first | (cases h;done) | skip
 split at h<;>first | (cases h;done) | skip
 rename_i fs hfs
 simp only[tH]at h
 obtain⟨fd,hfd,h⟩:=h
 cases hx with
 | agg hs =>
  obtain⟨v',h1,h2⟩:=TM (w:=w) h hs
  exact⟨v',by simp[Instr.field,AH hfs,hfd,asAgg,h1],h2⟩
theorem Yx        {t : TypeId} {x ix v : AV} {x' ix' : Value} (h : U8     P t x ix = some v) (hx : AM   ρ x x') (hi : AM   ρ ix ix') :
    ∃v',(Instr.index t x' ix').run P w=.ok v' w∧AM ρ v v':=by
  unfold U8 at h
  simp only[tH]at h
  obtain⟨k,hk,h⟩:=h
  obtain⟨kd,rfl⟩:=NB hk hi
  split at h<;>first | (cases h;done) | skip
  · split at h<;>first | (cases h;done) | skip
    rename_i len e he
    simp only[tH]at h
    obtain⟨n,hn,h⟩:=h
    obtain⟨hlt,h⟩:=AA h
    have hlt':k<len:=by simpa[tP]using hlt
    cases hx with
    | agg hs =>
      obtain⟨v',h1,h2⟩:=TM (w:=w) h hs
      refine⟨v',?_,h2⟩
      have:(0:Int)≤(k:Int)∧(k:Int)<(len:Int):=by omega
      simp only[Instr.index,asIntOf,Sem.run_bind,Sem.run_pure,Result.andThen_ok,AH he,this,and_self,if_true,Ar hn]
      simpa using h1
  · split at h <;> first | (cases h; done) | skip
    rename_i l _ he
    simp only[tH]at h
    obtain⟨b,hb,h⟩:=h
    injection h with h;subst h
    cases hx with
    | str hs =>
      rename_i s
      subst hs
      rw[uG]at hb
      simp only[Option.map_eq_some_iff]at hb
      obtain⟨u,hu,rfl⟩:=hb
      refine⟨.int .u8 u.toNat,?_,.int _ _⟩
      have h0:(0:Int)≤(k:Int):=by omega
      have:s[k]? = some u:=by
        rw[← hu]
        rcases tL k s.size with hlt | hge
        · rw [getElem?_pos s k hlt, tQ                       (by simpa using hlt)]
          rfl
        · rw[getElem?_neg s k (by omega),tY (by simpa using hge)]
      simp[Instr.index,asIntOf,AH he,this]
end
structure Gi(P:Program)(ρ:A5)(w:World)(l:FO)(rb:RB):Prop where
 ex:∃L:Loop,w.heap[rb.b]? = some (.loop L)∧L.state=l.state∧L.pending=l.pending∧L.params=l.params∧L.assign=l.assign∧L.body=l.body ∧
  (∃rd,ρ l.dfr=some rd∧L.defers=rd.b)∧ED ρ (Ec P l.fn) l.var L.tmps∧(∀fn,P.funcs[l.fn]? = some fn→fn.ntmps≤L.tmps.size)∧l.var.length=(Ec P l.fn).length
def DK(P:Program)(ρ:A5)(w:World):AI→RB→Prop
 | .row r,rb=>BF ρ w r rb
 | .map kt es,rb=>Gj P ρ w kt es rb
 | .mapRo kt es,rb=>Gj P ρ w kt es rb
 | .loop l,rb=>Gi P ρ w l rb
 | .mark,rb=>w.heap[rb.b]? = some (.deferred (some []))
 | .iter _ _,_=>False
def wr:AI→Bool
 | .row r=>B8 r.mode
 | .mapRo _ _=>false
 | _=>true
def FJ:AI→Option Nat
 | .row r=>r.par
 | _=>none
def EY:AI→Option Nat
 | .row r=>r.glob
 | _=>none
structure As(P:Program)(ρ:A5)(s:AD)(w:World):Prop where
 obj:∀i o rb,s.heap.get i=some o→ρ i=some rb→DK P ρ w o rb
 lt:∀i rb,ρ i=some rb→rb.b<w.heap.size
 sep:∀i j oi oj ri rj,i≠j→s.heap.get i=some oi→s.heap.get j=some oj→ρ i=some ri→ρ j=some rj→ri.b=rj.b→wr oj=true→FJ oj=some i∧wr oi=false
 glb:∀i o g,s.heap.get i=some o→EY o=some g→∃rb,ρ i=some rb
def Ee(ρ:A5)(s:AD)(b:Nat):Prop:=∃i o rb,s.heap.get i=some o∧wr o=true∧ρ i=some rb∧rb.b=b
structure Fr(ρ:A5)(s:AD)(w:World)(ρ':A5)(s':AD)(w':World):Prop where
 le:ρ.le ρ'
 fresh:∀i,ρ i=none→(i<s.next∨s'.next≤i)→ρ' i=none
 next:s.next≤s'.next
 size:w.heap.size≤w'.heap.size
 os:w'.os=w.os
 tape:w'.tape=w.tape
 output:w'.output=w.output
 keep:∀b,b<w.heap.size→¬ Ee ρ s b→w'.heap[b]? = w.heap[b]?
 own:∀b,Ee ρ' s' b→Ee ρ s b∨w.heap.size≤b
 unborn:∀i,ρ i=none→(i<s.next∨s'.next≤i)→s'.heap.get i=s.heap.get i
 blk:∀i rb,ρ' i=some rb→ρ i=none→w.heap.size≤rb.b∨∃j o rj,s.heap.get j=some o∧ρ j=some rj∧rj.b=rb.b
 dom:∀i o rb,s'.heap.get i=some o→ρ i=some rb→∃o',s.heap.get i=some o'
theorem NP{ρ:A5}{p:Prop}(i:Nat)(rb:RB)(h:ρ i=some rb)(h':ρ i=none):p:=by rw[h']at h;cases h
section
variable{P:Program}{ρ ρ1 ρ2:A5}{s s1 s2:AD}{w w1 w2:World}
theorem Fr.refl(ρ:A5)(s:AD)(w:World):Fr ρ s w ρ s w:=
 ⟨A5.le_refl ρ,fun _ h _=>h,tJ _,tJ _,rfl,rfl,rfl,fun _ _ _=>rfl,fun _ h=>.inl h,fun _ _ _=>rfl,fun i rb=>NP i rb,fun _ o _ h _=>⟨o,h⟩⟩
theorem Fr.trans (h : Fr ρ s w ρ1 s1 w1) (k : Fr ρ1 s1 w1 ρ2 s2 w2) : Fr ρ s w ρ2 s2 w2 where
  le:=A5.le_trans h.le k.le
  fresh:=fun i hi hr=>k.fresh i (h.fresh i hi (hr.imp id (fun h'=>tN k.next h'))) (hr.imp (fun h'=>tO h' h.next) id)
  next:=tN h.next k.next
  size:=tN h.size k.size
  os:=k.os.trans h.os
  tape:=k.tape.trans h.tape
  output:=k.output.trans h.output
  keep:=fun b hb ho=>(k.keep b (tO hb h.size) (fun ho1=>(h.own b ho1).elim ho (fun hge=>by omega))).trans (h.keep b hb ho)
  own:=fun b hb=>(k.own b hb).elim (fun h1=>h.own b h1) (fun hge=>.inr (tN h.size hge))
  unborn:=fun i hi hr=>(k.unborn i (h.fresh i hi (hr.imp id (fun h'=>tN k.next h'))) (hr.imp (fun h'=>tO h' h.next) id)).trans (h.unborn i hi (hr.imp id (fun h'=>tN k.next h')))
  blk:=fun i rb hi h0=>by
    cases h1:ρ1 i with
    | some rb1 =>
      have:=k.le _ _ h1
      rw[hi]at this
      injection this with this
      subst this
      exact h.blk i _ h1 h0
    | none =>
      rcases k.blk i rb hi h1 with h2 | ⟨j,o,rj,h2,h3,h4⟩
      · exact .inl (tN h.size h2)
      · cases h5:ρ j with
        | none=>rw[← h4];exact h.blk j rj h3 h5
        | some rj0 =>
          have:=h.le _ _ h5
          rw[h3]at this
          injection this with this
          subst this
          obtain⟨o',h6⟩:=h.dom j o _ h2 h5
          exact .inr ⟨j,o',_,h6,h5,h4⟩
  dom:=fun i o rb h2 h0=>by
    obtain⟨o1,h3⟩:=k.dom i o rb h2 (h.le _ _ h0)
    exact h.dom i o1 rb h3 h0
theorem GF{a:Addr}(h:w1.heap[a.block]? = w.heap[a.block]?):w1.cell? a=w.cell? a:=by simp[World.cell?,h]
theorem ED.mono{σ:A5}(le:ρ.le σ){vars:List Tmp}{var:List AV}{tmps:Array Value}(h:ED ρ vars var tmps):ED σ vars var tmps:=
 fun t k hk=>let ⟨h1,v,h2,h3⟩:=h t k hk;⟨h1,v,h2,h3.mono le⟩
theorem DK.mono    {o : AI}   {rb : RB} (h : DK    P ρ w o rb) (le : ρ.le ρ1) (hk : w1.heap[rb.b]? = w.heap[rb.b]?) : DK    P ρ1 w1 o rb := by
  cases o with
  | row r =>
    exact⟨fun k v hk' hv=>by
        obtain⟨v',h1,h2⟩:=h.cells k v hk' hv
        exact⟨v',(GF (a:=⟨rb.b,_,none⟩) hk).trans h1,h2.mono le⟩,
      h.le,h.sz,h.tight,fun hm=>by
        obtain⟨cs,h1,h2⟩:=h.own hm
        exact⟨cs,hk.trans h1,h2⟩,h.base,fun g hg=>let ⟨a1,a2,cs,e,pl,a3,a4⟩:=h.gl g hg;⟨a1,a2,cs,e,pl,hk.trans a3,a4⟩,fun p hp=>let ⟨rp,h1⟩:=h.par p hp;⟨rp,le _ _ h1⟩⟩
  | map kt es =>
    obtain⟨es',clock,h1,h2,⟨l,h3,h4⟩,h5⟩:=h.ex
    exact⟨es',clock,hk.trans h1,h2,⟨l,h3,h4.mono le⟩,h5⟩
  | mapRo kt es =>
    obtain⟨es',clock,h1,h2,⟨l,h3,h4⟩,h5⟩:=h.ex
    exact⟨es',clock,hk.trans h1,h2,⟨l,h3,h4.mono le⟩,h5⟩
  | loop l =>
    obtain⟨L,h0,h1,h2,h4,h5,h6,⟨rd,h7,h7'⟩,h8,h9⟩:=h.ex
    exact⟨L,hk.trans h0,h1,h2,h4,h5,h6,⟨rd,le _ _ h7,h7'⟩,h8.mono le,h9⟩
  | mark=>exact hk.trans h
  | iter=>exact h
def Bh(ρ:A5)(i:Nat)(rb:RB):A5:=fun j=>if j=i then some rb else ρ j
theorem AO(i:Nat)(rb:RB):Bh ρ i rb i=some rb:=by simp[Bh]
theorem AL{i j:Nat}(rb:RB)(h:j≠i):Bh ρ i rb j=ρ j:=by simp[Bh,h]
theorem A2{i:Nat}{rb:RB}(h:ρ i=none):ρ.le (Bh ρ i rb):=fun j r hj=>by
 have:j≠i:=fun e=>by subst e;rw[h]at hj;cases hj
 rw[AL rb this];exact hj
theorem Ai(s:AD)(o:AI)(j:Nat):(newObj s o).heap.get j=if j=s.next then some o else s.heap.get j:=AE.get_set _ _ _ _
theorem BJ(s:AD)(i:Nat)(o:AI)(j:Nat):(setObj s i o).heap.get j=if j=i then some o else s.heap.get j:=AE.get_set _ _ _ _
theorem BA(s:AD)(i j:Nat):(Bx s i).heap.get j=if j=i then none else s.heap.get j:=AE.get_del _ _ _
theorem Fe{o:Obj}{b:Nat}(h:b<w.heap.size):(w.alloc o).heap[b]? = w.heap[b]? :=
 Go.RowKit.Below.heap_alloc w o b h
theorem As.new  (h : As  P ρ s w) {o : AI}   {o' : Obj} {rb : RB} (hf : ρ s.next = none) (hb : rb.b = w.heap.size)
    (ho:DK P (Bh ρ s.next rb) (w.alloc o') o rb):
    As P (Bh ρ s.next rb) (newObj s o) (w.alloc o')∧Fr ρ s w (Bh ρ s.next rb) (newObj s o) (w.alloc o'):=by
  have hle:=A2 (rb:=rb) hf
  have hglb:∀i oi g,(newObj s o).heap.get i=some oi→EY oi=some g→∃r,Bh ρ s.next rb i=some r:=by
    intro i oi g hi hg
    rw[Ai]at hi
    by_cases e:i=s.next
    · subst e;exact⟨_,AO _ _⟩
    · rw[if_neg e]at hi
      obtain⟨r,hr⟩:=h.glb i oi g hi hg
      exact⟨r,hle _ _ hr⟩
  refine⟨⟨?_,?_,?_,hglb⟩,?_⟩
  · intro i oi ri hi hr
    rw[Ai]at hi
    by_cases e:i=s.next
    · subst e
      rw[if_pos rfl]at hi
      injection hi with hi
      rw[AO]at hr
      injection hr with hr
      subst hi;subst hr
      exact ho
    · rw [if_neg e] at hi
      rw[AL rb e]at hr
      exact(h.obj i oi ri hi hr).mono hle (Fe (h.lt i ri hr))
  · intro i ri hr
    by_cases e:i=s.next
    · subst e
      rw[AO]at hr
      injection hr with hr
      subst hr
      simp[hb]
    · rw[AL rb e]at hr
      have:=h.lt i ri hr
      simp;omega
  · intro i j oi oj ri rj hne hi hj hri hrj hbb hw
    rw[Ai]at hi hj
    by_cases ei:i=s.next
    · subst ei
      have ej:j≠s.next:=fun e=>hne e.symm
      rw[AO]at hri
      rw[AL rb ej]at hrj
      injection hri with hri
      subst hri
      have:=h.lt j rj hrj
      omega
    · by_cases ej : j = s.next
      · subst ej
        rw[AL rb ei]at hri
        rw[AO]at hrj
        injection hrj with hrj
        subst hrj
        have:=h.lt i ri hri
        omega
      · rw [if_neg ei] at hi
        rw[if_neg ej]at hj
        rw[AL rb ei]at hri
        rw[AL rb ej]at hrj
        exact h.sep i j oi oj ri rj hne hi hj hri hrj hbb hw
  · refine ⟨hle, ?_, by simp [newObj], by simp, rfl, rfl, rfl, fun b hb _ => Fe            hb, ?_, ?_, fun i r hi h0 => ?_, fun i oi r hi h0 => ?_⟩
    · intro i hi hr
      have:i≠s.next:=by simp[newObj]at hr;omega
      rw[AL rb this];exact hi
    · rintro b ⟨i, oi, ri, hi, hw, hr, rfl⟩
      rw[Ai]at hi
      by_cases e:i=s.next
      · subst e
        rw[AO]at hr
        injection hr with hr
        subst hr
        exact .inr (by omega)
      · rw [if_neg e] at hi
        rw[AL rb e]at hr
        exact .inl ⟨i,oi,ri,hi,hw,hr,rfl⟩
    · intro i _ hi
      rw[Ai,if_neg (by simp[newObj]at hi;omega)]
    · by_cases e : i = s.next
      · subst e;rw[AO]at hi;injection hi with hi;subst hi;exact .inl (by omega)
      · rw[AL rb e,h0]at hi;cases hi
    · rw[Ai]at hi
      by_cases e:i=s.next
      · subst e;rw[hf]at h0;cases h0
      · rw[if_neg e]at hi;exact⟨oi,hi⟩
theorem As.set  (h : As  P ρ s w) {i : Nat} {o o1 : AI}   {rb : RB} (hg : s.heap.get i = some o) (hr : ρ i = some rb) (hw : wr o = true) (hp : ∀ p, FJ    o = some p → p ≠ i → s.heap.get p = none)
    (hp1:FJ o1=none) (hsz:w1.heap.size=w.heap.size) (hkeep:∀b,b≠rb.b→w1.heap[b]? = w.heap[b]?) (hos:w1.os=w.os) (htape:w1.tape=w.tape) (hout:w1.output=w.output)
    (ho:DK P ρ w1 o1 rb):As P ρ (setObj s i o1) w1∧Fr ρ s w ρ (setObj s i o1) w1:=by
  have hsep:∀j oj rj,j≠i→s.heap.get j=some oj→ρ j=some rj→rj.b≠rb.b:=by
    intro j oj rj hne hj hrj e
    have:=hp j (h.sep j i oj o rj rb hne hj hg hrj hr e hw).1 hne
    rw[hj]at this
    cases this
  have hglb:∀j oj g,(setObj s i o1).heap.get j=some oj→EY oj=some g→∃r,ρ j=some r:=by
    intro j oj g hj hg
    rw[BJ]at hj
    by_cases e:j=i
    · subst e;exact⟨_,hr⟩
    · rw[if_neg e]at hj
      exact h.glb j oj g hj hg
  refine⟨⟨?_,?_,?_,hglb⟩,?_⟩
  · intro j oj rj hj hrj
    rw[BJ]at hj
    by_cases e:j=i
    · subst e
      rw[if_pos rfl]at hj
      injection hj with hj
      subst hj
      rw[hr]at hrj
      injection hrj with hrj
      subst hrj
      exact ho
    · rw[if_neg e]at hj
      exact(h.obj j oj rj hj hrj).mono (A5.le_refl ρ) (hkeep _ (hsep j oj rj e hj hrj))
  · intro j rj hrj
    rw[hsz];exact h.lt j rj hrj
  · intro j k oj ok rj rk hne hj hk hrj hrk hbb hwk
    rw[BJ]at hj hk
    by_cases ej:j=i
    · subst ej
      have ek:k≠j:=fun e=>hne e.symm
      rw[if_neg ek]at hk
      rw[hr]at hrj
      injection hrj with hrj
      subst hrj
      exact absurd hbb.symm (hsep k ok rk ek hk hrk)
    · by_cases ek : k = i
      · subst ek
        rw[if_neg ej]at hj
        rw[hr]at hrk
        injection hrk with hrk
        subst hrk
        exact absurd hbb (hsep j oj rj ej hj hrj)
      · rw [if_neg ej] at hj
        rw[if_neg ek]at hk
        exact h.sep j k oj ok rj rk hne hj hk hrj hrk hbb hwk
  · refine ⟨A5.le_refl  ρ, fun _ h _ => h, tJ          _, by omega, hos, htape, hout, ?_, ?_, ?_, fun i rb => NP    i rb, fun j oj rj hj _ => ?_⟩
    · intro b _ hno
      exact hkeep b (fun e=>hno ⟨i,o,rb,hg,hw,hr,e.symm⟩)
    · rintro b ⟨j, oj, rj, hj, hwj, hrj, rfl⟩
      rw[BJ]at hj
      by_cases e:j=i
      · subst e
        rw[hr]at hrj
        injection hrj with hrj
        subst hrj
        exact .inl ⟨j,o,rb,hg,hw,hr,rfl⟩
      · rw[if_neg e]at hj
        exact .inl ⟨j,oj,rj,hj,hwj,hrj,rfl⟩
    · intro j hrj _
      rw[BJ,if_neg]
      intro e
      subst e
      rw[hr]at hrj
      cases hrj
    · rw[BJ]at hj
      by_cases e:j=i
      · subst e;exact⟨o,hg⟩
      · rw[if_neg e]at hj;exact⟨oj,hj⟩
theorem As.del  (h : As  P ρ s w) {i : Nat} {rb : RB} (hr : ρ i = some rb) : As  P ρ (Bx     s i) w ∧ Fr ρ s w ρ (Bx     s i) w := by
  have hglb:∀j oj g,(Bx s i).heap.get j=some oj→EY oj=some g→∃r,ρ j=some r:=by
    intro j oj g hj hg
    rw[BA]at hj
    by_cases e:j=i
    · rw[if_pos e]at hj;cases hj
    · rw[if_neg e]at hj
      exact h.glb j oj g hj hg
  refine⟨⟨?_,h.lt,?_,hglb⟩,⟨A5.le_refl ρ,fun _ h _=>h,tJ _,tJ _,rfl,rfl,rfl,fun _ _ _=>rfl,?_,?_,fun i rb=>NP i rb,fun j oj rj hj _=>(by
    rw[BA]at hj
    by_cases e:j=i
    · rw[if_pos e]at hj;cases hj
    · rw[if_neg e]at hj;exact⟨oj,hj⟩)⟩⟩
  · intro j oj rj hj hrj
    rw[BA]at hj
    by_cases e:j=i
    · rw[if_pos e]at hj;cases hj
    · rw[if_neg e]at hj
      exact h.obj j oj rj hj hrj
  · intro j k oj ok rj rk hne hj hk
    rw[BA]at hj hk
    by_cases ej:j=i
    · rw[if_pos ej]at hj;cases hj
    · by_cases ek : k = i
      · rw[if_pos ek]at hk;cases hk
      · rw [if_neg ej] at hj
        rw[if_neg ek]at hk
        exact h.sep j k oj ok rj rk hne hj hk
  · rintro b ⟨j, oj, rj, hj, hwj, hrj, rfl⟩
    rw[BA]at hj
    by_cases e:j=i
    · rw[if_pos e]at hj;cases hj
    · rw[if_neg e]at hj
      exact .inl ⟨j,oj,rj,hj,hwj,hrj,rfl⟩
  · intro j hrj _
    rw[BA,if_neg]
    intro e
    subst e
    rw[hr]at hrj
    cases hrj
theorem Ap{i:Nat}{r:CG}(h:rowAt s i=some r):s.heap.get i=some (.row r):=by
 unfold rowAt at h
 split at h
 ·injection h with h;subst h;assumption
 ·cases h
theorem By(b o k:Nat):(⟨b,o,none⟩:Addr).add k=⟨b,o+k,none⟩:=by unfold Addr.add;split<;>simp_all
theorem B2(h:As P ρ s w){i off n:Nat}{l:List AV}{rb:RB}(hr:ρ i=some rb)(hl:BG s i off n=some l):
  ∃l':List Value,AJ ρ l l'∧l'.length=n∧∀w1:World,w1.heap=w.heap→(loadCells ⟨rb.b,rb.off+off,none⟩ n).run P w1=.ok l'.toArray w1:=by
 unfold BG at hl
 simp only[tH]at hl
 obtain⟨r,hrow,hl⟩:=hl
 obtain⟨hb,hl⟩:=AA hl
 have hb:off+n≤r.n:=by simpa[tK]using hb
 have hok:BF ρ w r rb:=h.obj i _ rb (Ap hrow) hr
 have hlen:=AE.take_length hl
 have hc:∀k,k<n→∃v v',l[k]? = some v∧w.cell? ⟨rb.b,rb.off+off+k,none⟩=some v'∧AM ρ v v':=by
  intro k hk
  have hv:l[k]? = some l[k]:=tQ (by omega)
  have hg:=AE.take_get hl k hk
  rw[hv]at hg
  obtain⟨v',h1,h2⟩:=hok.cells (off+k) _ (by omega) hg
  exact⟨l[k],v',hv,by rw[show rb.off+off+k=rb.off+(off+k)from by omega];exact h1,h2⟩
 let f:Nat→Value:=fun k=>(w.cell? ⟨rb.b,rb.off+off+k,none⟩).getD undef
 have hf:∀k,k<n→w.cell? ⟨rb.b,rb.off+off+k,none⟩=some (f k):=by
  intro k hk
  obtain⟨v,v',_,h2,_⟩:=hc k hk
  simp[f,h2]
 refine⟨(List.range n).map f,?_,by simp,?_⟩
 ·refine AJ.of_get (by simp[hlen]) ?_
  intro k v v' hv hv'
  have hk:k<n:=by
   rcases tL k n with h' | h'
   ·exact h'
   ·rw[tY (by omega)]at hv;cases hv
  obtain⟨u,u',h1,h2,h3⟩:=hc k hk
  rw[h1]at hv
  injection hv with hv
  subst hv
  rw[uG,List.getElem?_range hk]at hv'
  simp only[uA]at hv'
  injection hv' with hv'
  rw[← hv']
  have:f k=u':=by simp[f,h2]
  rw[this];exact h3
 ·intro w1 he
  exact run_loadCells w1 _ n f (fun j hj=>by rw[By];exact(GF (by rw[he])).trans (hf j hj))
theorem EO(h:As P ρ s w){i off:Nat}{v:AV}{rb:RB}(hr:ρ i=some rb)(hl:B1 s i off=some v):
  ∃v',AM ρ v v'∧w.cell? ⟨rb.b,rb.off+off,none⟩=some v':=by
 unfold B1 at hl
 simp only[tH]at hl
 obtain⟨r,hrow,hl⟩:=hl
 obtain⟨hb,hl⟩:=AA hl
 have hb:off<r.n:=by simpa[tP]using hb
 have hok:BF ρ w r rb:=h.obj i _ rb (Ap hrow) hr
 obtain⟨v',h1,h2⟩:=hok.cells off v hb hl
 exact⟨v',h2,h1⟩
theorem NH       (h : As  P ρ s w) {t : TypeId} {a v : AV} {a' : Value} (hl : AG    P s t a = some v) (ha : AM   ρ a a') :
    ∃v',(Instr.loadAt t a').run P w=.ok v' w∧AM ρ v v'∧∃ad,a'=.pointer (some ad)∧(loadVar t ad).run P w=.ok v' w:=by
  unfold AG at hl
  split at hl<;>first | (cases hl;done) | skip
  · rename_i i o
    cases ha
    simp only[tH]at hl
    obtain⟨r,hgr,g,hg,hl⟩:=hl
    have hrow:rowAt s i=some r∧r.glob=some i:=by
      unfold QZ at hgr
      simp only[tH]at hgr
      obtain⟨r',h1,h2⟩:=hgr
      split at h2<;>first | (cases h2;done) | skip
      rename_i g' hg'
      obtain⟨h3,h4⟩:=AA h2
      injection h4 with h4
      subst h4
      exact⟨h1,by rw[hg',tM h3]⟩
    obtain⟨rb,hr⟩:=h.glb i _ i (Ap hrow.1) hrow.2
    have hok:BF ρ w r rb:=h.obj i _ rb (Ap hrow.1) hr
    obtain⟨hb,ho,_⟩:=hok.gl i hrow.2
    cases g with
    | true =>
      simp only[tH]at hl
      obtain⟨n,hn,l,hl,hv⟩:=hl
      injection hv with hv;subst hv
      obtain⟨l',h1,h2,h3⟩:=B2 h hr hl
      rw[hb,ho,tR]at h3
      have hrun:(loadVar t ⟨i,o,none⟩).run P w=.ok (.agg l'.toArray) w:=by
        simp[loadVar,HZ hg,Ar hn,h3 w rfl]
      exact⟨.agg l'.toArray,by simp[Instr.loadAt,Instr.sureAddr,hrun],.agg (by simpa using h1),_,rfl,hrun⟩
    | false =>
      obtain⟨v',h1,h2⟩:=EO h hr hl
      rw[hb,ho,tR]at h2
      have hrun:(loadVar t ⟨i,o,none⟩).run P w=.ok v' w:=by
        simp[loadVar,HZ hg,h2]
      exact⟨v',by simp[Instr.loadAt,Instr.sureAddr,hrun],h1,_,rfl,hrun⟩
  rename_i i o
  cases ha with
  | ptr hr =>
    rename_i rb
    simp only[tH]at hl
    obtain⟨g,hg,hl⟩:=hl
    cases g with
    | true =>
      simp only[tH]at hl
      obtain⟨n,hn,l,hl,hv⟩:=hl
      injection hv with hv;subst hv
      obtain⟨l',h1,h2,h3⟩:=B2 h hr hl
      have hrun:(loadVar t ⟨rb.b,rb.off+o,none⟩).run P w=.ok (.agg l'.toArray) w:=by
        simp[loadVar,HZ hg,Ar hn,h3 w rfl]
      exact⟨.agg l'.toArray,by simp[Instr.loadAt,Instr.sureAddr,hrun],.agg (by simpa using h1),_,rfl,hrun⟩
    | false =>
      obtain⟨v',h1,h2⟩:=EO h hr hl
      have hrun:(loadVar t ⟨rb.b,rb.off+o,none⟩).run P w=.ok v' w:=by
        simp[loadVar,HZ hg,h2]
      exact⟨v',by simp[Instr.loadAt,Instr.sureAddr,hrun],h1,_,rfl,hrun⟩
end
section
variable{P:Program}{ρ ρ1 ρ2:A5}{s s1 s2:AD}{w w1 w2:World}
theorem gM{e:TypeId}{sz:Nat}{l:List AV}{cs:Array Value}(hl:AJ ρ l cs.toList)(b:Nat)(hb:w.heap[b]? = some (.cells cs e (0,0))):
  DK P ρ w (G7 e sz l) ⟨b,0,l.length,sz⟩:=by
 have hlen:=hl.length
 refine⟨?_,tJ _,rfl,fun _=>rfl,fun _=>⟨cs,hb,by simp[hlen]⟩,fun _=>rfl,(fun g hg=>by cases hg),fun p hp=>by cases hp⟩
 intro k v hk hv
 simp only[AE.get_fill,tV,tR,true_and,Nat.sub_zero]at hv
 rw[if_pos hk]at hv
 obtain⟨v',h1,h2⟩:=hl.get hv
 refine⟨v',?_,h2⟩
 simp only[World.cell?,hb,tR]
 rw[← Array.getElem?_toList]
 simpa using h1
theorem HU(h:As P ρ s w)(hf:ρ s.next=none){e:TypeId}{sz:Nat}{l:List AV}{cs:Array Value}(hl:AJ ρ l cs.toList):
  ∃ρ',ρ' s.next=some ⟨w.heap.size,0,l.length,sz⟩∧As P ρ' (newObj s (G7 e sz l)) (w.alloc (.cells cs e))∧Fr ρ s w ρ' (newObj s (G7 e sz l)) (w.alloc (.cells cs e)):=by
 have hle:=A2 (rb:=⟨w.heap.size,0,l.length,sz⟩) hf
 obtain⟨h1,h2⟩:=h.new (o:=G7 e sz l) (o':=.cells cs e) (rb:=⟨w.heap.size,0,l.length,sz⟩) hf rfl
  (gM (hl.mono hle) _ (World.alloc_heap_new w _))
 exact⟨_,AO _ _,h1,h2⟩
theorem E4        (h : As  P ρ s w) {i off : Nat} {vs : List AV} {vs' : List Value} {rb : RB} (hr : ρ i = some rb) (hs : Bi     s i off vs = some s1) (hv : AJ    ρ vs vs') :
    ∃w1,(storeCells ⟨rb.b,rb.off+off,none⟩ vs').run P w=.ok () w1∧As P ρ s1 w1∧Fr ρ s w ρ s1 w1:=by
  cases vs with
  | nil =>
    cases hv
    simp only[Bi]at hs
    injection hs with hs
    subst hs
    exact⟨w,rfl,h,Fr.refl _ _ _⟩
  | cons v0 vs0 =>
    have hsv:Bi s i off (v0::vs0)=(rowAt s i).bind fun r =>
      AF (B8 r.mode && Nat.ble (off+(v0::vs0).length) r.n && Ag (v0::vs0))
        (some (setObj (A3 s i r) i (.row { r with c:=r.c.fill off (v0::vs0),par:=none }))):=rfl
    rw[hsv]at hs
    generalize v0::vs0=vs at hs hv
    simp only[tH]at hs
    obtain⟨r,hrow,hs⟩:=hs
    obtain⟨hb,hs⟩:=AA hs
    injection hs with hs
    subst hs
    simp only[Bool.and_eq_true,tK]at hb
    obtain⟨⟨hown,hle⟩,hall⟩:=hb
    have hg:=Ap hrow
    have hok:BF ρ w r rb:=h.obj i _ rb hg hr
    have hmode:r.mode≠.ro:=fun e=>by rw[e]at hown;cases hown
    obtain⟨cs,hblk,hsz⟩:=hok.own hmode
    obtain⟨e,he0⟩:∃e,r.elem=e:=⟨_,rfl⟩
    rw[he0]at hblk
    have hlen:=hv.length
    have hfit:rb.off+off+vs'.length≤cs.size:=by have:=hok.le;omega
    have hrun:=run_storeCells_at P rb.b (rb.off+off) e vs' 0 cs w hblk (by simpa using hfit) (hv.oneCell hall)
    refine⟨_,hrun,?_⟩
    simp only[tZ]
    generalize hnew:(cs.toList.take (rb.off+off)++vs'++cs.toList.drop (rb.off+off+vs'.length)).toArray=cs1
    have hblk1:(w.setRow rb.b cs1).heap[rb.b]? = some (.cells cs1 e (0,0)):=setRow_heap w rb.b cs cs1 e (0,0) hblk
    have hsize1:cs1.size=cs.size:=by rw[← hnew];simp;omega
    have hget:∀k,cs1[k]? = if rb.off+off≤k∧k<rb.off+off+vs'.length then vs'[k - (rb.off+off)]? else cs[k]? := by
      intro k
      rw[← hnew,List.getElem?_toArray]
      by_cases h1:k<rb.off+off
      · rw[if_neg (by omega),tg,uB (by simp;omega),uZ h1,Array.getElem?_toList]
      · rw[tg,uC (by simp;omega)]
        have hmin:(cs.toList.take (rb.off+off)).length=rb.off+off:=by simp;omega
        rw[hmin]
        by_cases h2:k<rb.off+off+vs'.length
        · rw[if_pos (by omega),uB (by omega)]
        · rw[if_neg (by omega),uC (by omega),uk,← Array.getElem?_toList]
          congr 1
          omega
    have key:∀sx:AD,As P ρ sx w→Fr ρ s w ρ sx w→sx.heap.get i=some (.row r)→(∀p,r.par=some p→p≠i→sx.heap.get p=none) →
        As P ρ (setObj sx i (.row { r with c:=r.c.fill off vs,par:=none })) (w.setRow rb.b cs1) ∧
        Fr ρ s w ρ (setObj sx i (.row { r with c:=r.c.fill off vs,par:=none })) (w.setRow rb.b cs1):=by
      intro sx hx hfx hgx hpx
      obtain⟨h1,h2⟩:=hx.set (o1:=.row { r with c:=r.c.fill off vs,par:=none }) (w1:=w.setRow rb.b cs1) hgx hr (by simpa[wr]using hown) hpx rfl (by simp)
        (fun b hb=>setRow_other w rb.b b cs1 hb) rfl rfl rfl (by
          refine⟨?_,hok.le,hok.sz,hok.tight,fun _=>⟨cs1,by show _=some (Obj.cells cs1 r.elem (0,0));rw[he0];exact hblk1,by rw[hsize1];exact hsz⟩,hok.base,fun g hg=>(let ⟨a1,a2,cs0,e0,pl,a3,a4⟩:=hok.gl g hg;⟨a1,a2,cs1,e,(0,0),hblk1,by rw[hblk]at a3;injection a3 with a3;injection a3 with a3;subst a3;rw[hsize1];exact a4⟩),fun p hp=>by cases hp⟩
          intro k v hk hkv
          simp only[AE.get_fill]at hkv
          have hcell:(w.setRow rb.b cs1).cell? ⟨rb.b,rb.off+k,none⟩=cs1[rb.off+k]? := by simp[World.cell?,hblk1]
          rw[hcell,hget]
          by_cases hin:off≤k∧k<off+vs.length
          · rw [if_pos hin] at hkv
            rw[if_pos (by omega),show rb.off+k - (rb.off+off)=k - off from by omega]
            exact hv.get hkv
          · rw [if_neg hin] at hkv
            rw[if_neg (by omega)]
            obtain⟨v',h1,h2⟩:=hok.cells k v hk hkv
            refine⟨v',?_,h2⟩
            simpa[World.cell?,hblk]using h1)
      exact⟨h1,hfx.trans h2⟩
    unfold A3
    split
    · rename_i hp
      exact key s h (Fr.refl _ _ _) hg (fun p hp' _=>by rw[hp]at hp';cases hp')
    · rename_i p hp
      by_cases hpi:p=i
      · have:Nat.beq p i=true:=by rw[hpi];simp[uO]
        rw[this]
        exact key s h (Fr.refl _ _ _) hg (fun q hq hqi=>by rw[hp]at hq;injection hq with hq;exact absurd (hq.symm.trans hpi) hqi)
      · rw[AE.beq_no hpi]
        obtain⟨rp,hrp⟩:=hok.par p hp
        obtain⟨hd,hfd⟩:=h.del hrp
        exact key (Bx s p) hd hfd (by rw[BA,if_neg (fun e=>hpi e.symm)];exact hg) (fun q hq _=>by
          rw[hp]at hq
          injection hq with hq
          subst hq
          rw[BA,if_pos rfl])
theorem Ae{a b:Nat}(h:Nat.beq a b=true):a=b:=tM h
theorem ZX(h:As P ρ s w){t:TypeId}{a v:AV}{a' v':Value}(hs:AY P s t a v=some s1)(ha:AM ρ a a')(hv:AM ρ v v'):
  ∃w1,(Instr.storeAt t a' v').run P w=.ok () w1∧As P ρ s1 w1∧Fr ρ s w ρ s1 w1:=by
 unfold AY at hs
 split at hs<;>first | (cases hs;done) | skip
 rename_i i o
 cases ha with
 | ptr hr =>
  rename_i rb
  simp only[tH]at hs
  obtain⟨n,hn,hs⟩:=hs
  obtain⟨hb,hs⟩:=AA hs
  have hb:=Ae hb
  obtain⟨w1,h1,h2⟩:=E4 h hr hs hv.cells
  refine⟨w1,?_,h2⟩
  have hc:v'.cells.size=n:=by have:=hv.cells.length;simp at this;omega
  simp[Instr.storeAt,Instr.sureAddr,storeVar,Ar hn,hc,h1]
def Oa(P:Program)(ρ:A5)(s:AD)(w:World)(sem:Sem Value)(o:AI)(m:Made):Prop:=
 ∃v' w' ρ',sem.run P w=.ok v' w'∧AM ρ' (m.val s.next) v'∧As P ρ' (newObj s o) w'∧Fr ρ s w ρ' (newObj s o) w'
theorem YZ(h:As P ρ s w)(hf:ρ s.next=none){e:TypeId}{o:AI}{m:Made}(hs:At P e=some (o,m)):
  Oa P ρ s w (Instr.alloc e true (.tuple #[])) o m:=by
 unfold At at hs
 simp only[tH]at hs
 obtain⟨z,hz,hs⟩:=hs
 injection hs with hs
 injection hs with h1 h2
 subst h1;subst h2
 obtain⟨z',hz',hzr⟩:=Jx (w:=w) ρ hz
 obtain⟨ρ',h1,h2,h3⟩:=HU h hf (e:=e) (sz:=0) hzr.cells
 exact⟨.pointer (some ⟨w.heap.size,0,none⟩),_,ρ',by simp[Instr.alloc,hz',newVar,newRow],AM.ptr h1,h2,h3⟩
theorem jK(h:As P ρ s w)(hf:ρ s.next=none){e:TypeId}{v:AV}{v':Value}{o:AI}{m:Made}(hs:DD e v=some (o,m))(hv:AM ρ v v'):
  Oa P ρ s w (Instr.box e v') o m:=by
 unfold DD at hs
 injection hs with hs
 injection hs with h1 h2
 subst h1;subst h2
 obtain⟨ρ',h1,h2,h3⟩:=HU h hf (e:=e) (sz:=0) hv.cells
 exact⟨.pointer (some ⟨w.heap.size,0,none⟩),_,ρ',by simp[Instr.box,newVar,newRow],AM.ptr h1,h2,h3⟩
theorem VK(h:As P ρ s w)(hf:ρ s.next=none)(t kt:TypeId):Oa P ρ s w (Instr.makeMap t none) (.map kt []) .map:=by
 have hle:=A2 (rb:=⟨w.heap.size,0,0,0⟩) hf
 obtain⟨h1,h2⟩:=h.new (o:=.map kt []) (o':=.map #[] 0) (rb:=⟨w.heap.size,0,0,0⟩) hf rfl ⟨#[],0,World.alloc_heap_new w _,MapKept.stamped_empty 0,⟨[],.refl _,.nil⟩,by simp⟩
 exact⟨.map (some w.heap.size),_,_,by simp[Instr.makeMap],AM.map (AO _ _),h1,h2⟩
theorem M6       {place : Nat → Option (Nat × Nat)} {place' : Nat → Option (Nat × Nat)} (hp : ∀ i p, place i = some p → place' i = some p) :
    ∀ {parts:List (Nat×AV)} {parts':List (Nat×Value)} {cs l:List AV} {cs':Array Value},M5 place cs parts=some l→AJ ρ cs cs'.toList →
      (parts.map (·.1)=parts'.map (·.1))→AJ ρ (parts.map (·.2)) (parts'.map (·.2))→∃l',Instr.fill place' cs' parts'=some l'∧AJ ρ l l'.toList:=by
  intro parts
  induction parts with
  | nil =>
    intro parts' cs l cs' h hc hm hv
    cases parts' with
    | nil=>simp[M5]at h;subst h;exact⟨cs',rfl,hc⟩
    | cons=>simp at hm
  | cons p rest ih =>
    intro parts' cs l cs' h hc hm hv
    cases parts' with
    | nil=>simp at hm
    | cons p' rest' =>
      obtain⟨i,v⟩:=p
      obtain⟨i',v'⟩:=p'
      simp only[ta,List.cons.injEq]at hm
      obtain⟨hi,hm⟩:=hm
      skip
      subst hi
      simp only[ta]at hv
      cases hv with
      | cons hv hvs =>
        simp only[M5,tH]at h
        obtain⟨q,hq,h⟩:=h
        obtain⟨hb,h⟩:=AA h
        simp only[Bool.and_eq_true,tK]at hb
        obtain⟨hb1,hb2⟩:=hb
        have hb1:=Ae hb1
        have hvc:=hv.cells
        have hvl:=hvc.length
        have hcl:=hc.length
        simp only[Array.length_toList]at hvl hcl
        have hnew:AJ ρ (cs.take q.1++(v.cells++cs.drop (q.1+v.cells.length)))
            (v'.cells.zipIdx.foldl (fun cs (c,j)=>cs.setIfInBounds (q.1+j) c) cs').toList:=by
          have e:(v'.cells.zipIdx.foldl (fun cs (c,j)=>cs.setIfInBounds (q.1+j) c) cs').toList=cs'.toList.take q.1++(v'.cells.toList++cs'.toList.drop (q.1+v.cells.length)):=by
            have key:∀ (l:List Value) (k:Nat) (a:Array Value),q.1+k+l.length≤a.size →
                ((l.zipIdx k).foldl (fun cs (x:Value×Nat)=>cs.setIfInBounds (q.1+x.2) x.1) a).toList=a.toList.take (q.1+k)++(l++a.toList.drop (q.1+k+l.length)):=by
              intro l
              induction l with
              | nil=>intro k a _;simp
              | cons x l ihl =>
                intro k a hk
                simp only[tq]at hk
                rw[List.zipIdx_cons,List.foldl_cons,ihl (k+1) _ (by simp;omega)]
                simp only[Array.toList_setIfInBounds,tq]
                have e:=list_seg_step a.toList (q.1+k) x l (by simp;omega)
                simpa[tv,tg]using e
            have:=key v'.cells.toList 0 cs' (by simp;omega)
            simp only[tZ]at this
            rw[← Array.foldl_toList,Array.toList_zipIdx]
            rw[hvl]
            simpa using this
          rw[e]
          exact(hc.take _).append (hvc.append (hc.drop _))
        obtain⟨l',h1,h2⟩:=ih h hnew hm hvs
        refine⟨l',?_,h2⟩
        have hpq:=hp i q hq
        obtain⟨o,n⟩:=q
        simp only[Instr.fill,hpq]
        have c1:¬ (v'.cells.size≠n∨o+v'.cells.size > cs'.size):=by simp only at hb1 hb2;omega
        have:(decide (v'.cells.size≠n) || decide (o+v'.cells.size > cs'.size))=false:=by
          rw[Bool.eq_false_iff];intro hh;apply c1;simpa using hh
        simp only[this]
        exact h1
theorem IA:∀ {fs:List Field}{l:List (Nat×Nat)},FD P fs=some l →
  ∀w:World,((fs.mapM fun f=>do pure (f.offset,← sizeOf f.type):Sem (List (Nat×Nat)))).run P w=.ok l w
 | [],l,h,w=>by simp[FD]at h;subst h;rfl
 | f::fs,l,h,w=>by
  simp only[FD,tH]at h
  obtain⟨n,hn,r,hr,h⟩:=h
  injection h with h
  subst h
  have ih:=IA hr w
  simp only[List.mapM_cons,Sem.run_bind,Ar hn,Sem.run_pure,Result.andThen_ok,ih]
theorem Yi{t:TypeId}{parts:List (Nat×AV)}{parts':Array (Nat×Value)}{v:AV}(h:GD P t parts=some v)
  (hm:parts.map (·.1)=parts'.toList.map (·.1)) (hv:AJ ρ (parts.map (·.2)) (parts'.toList.map (·.2))) (w:World):
  ∃v',(Instr.build t parts').run P w=.ok v' w∧AM ρ v v':=by
 unfold GD at h
 simp only[tH]at h
 obtain⟨z,hz,h⟩:=h
 obtain⟨z',hz',hzr⟩:=Jx (w:=w) ρ hz
 split at h<;>first | (cases h;done) | skip
 ·rename_i fields hf
  simp only[tH]at h
  obtain⟨places,hpl,l,hl,h⟩:=h
  injection h with h
  subst h
  have hpl':=IA hpl w
  obtain⟨l',h1,h2⟩:=M6 (place':=fun i=>(places.toArray)[i]?) (fun i p hp=>by simpa using hp) hl hzr.cells hm hv
  refine⟨.agg l',?_,.agg h2⟩
  have hma:(fields.mapM fun f=>do pure (f.offset,← sizeOf f.type):Sem (Array (Nat×Nat))).run P w=.ok places.toArray w:=by
   rw[Array.mapM_eq_mapM_toList,Sem.run_map,hpl']
   rfl
  simp only[Instr.build,Sem.run_bind,hz',Result.andThen_ok,AH hf,hma,h1,Sem.run_pure]
 ·rename_i len e hf
  simp only[tH]at h
  obtain⟨n,hn,l,hl,h⟩:=h
  injection h with h
  subst h
  obtain⟨l',h1,h2⟩:=M6 (place':=fun i=>some (i * n,n)) (fun i p hp=>hp) hl hzr.cells hm hv
  refine⟨.agg l',?_,.agg h2⟩
  simp only[Instr.build,Sem.run_bind,hz',Result.andThen_ok,AH hf,Ar hn,h1,Sem.run_pure]
theorem RS      {z : AV} {z' : Value} {n c : Nat} (hz : AM   ρ z z') (hl : z.cells.length = n) :
    AJ ρ (VV z.cells c) (((Array.range (c * n)).map (z'.cells[· % z'.cells.size]!)).toList):=by
  have hc:=hz.cells
  have hlen:z'.cells.size=n:=by have:=hc.length;simp at this;omega
  have hrl:∀c,(VV z.cells c).length=c * n:=by
    intro c
    induction c with
    | zero=>simp[VV]
    | succ c ih=>simp[VV,ih,hl,tw];omega
  have hrg:∀ (c k:Nat),k<c * n→(VV z.cells c)[k]? = z.cells[k % n]? := by
    intro c
    induction c with
    | zero=>intro k hk;omega
    | succ c ih =>
      intro k hk
      simp only[VV]
      by_cases h1:k<n
      · rw[uB (by omega),tr h1]
      · rw [uC                         (by omega), hl, ih (k - n) (by rw [tw]           at hk; omega)]
        rw[← Nat.mod_eq_sub_mod (by omega)]
  refine AJ.of_get (by simp[hrl]) ?_
  intro k v v' hv hv'
  have hk:k<c * n:=by
    rcases tL k (c * n)with h | h
    · exact h
    · rw[tY (by rw[hrl];omega)]at hv;cases hv
  have hn:0<n:=by
    rcases uL n with h | h
    · subst h;simp at hk
    · exact h
  rw[hrg c k hk]at hv
  obtain⟨u,h1,h2⟩:=hc.get hv
  have:v'=u:=by
    rw[Array.getElem?_toList,Array.getElem?_map,Array.getElem?_range]at hv'
    rw[if_pos hk]at hv'
    simp only[uA]at hv'
    injection hv' with hv'
    rw[← hv',hlen]
    rw[Array.getElem?_toList]at h1
    rw[getElem!_def,h1]
  rw[this]
  exact h2
theorem Rl(h:As P ρ s w)(hf:ρ s.next=none){t:TypeId}{len:Nat}{parts:List (Nat×AV)}{parts':Array (Nat×Value)}{o:AI}(hs:An P t len parts=some o)
  (hm:parts.map (·.1)=parts'.toList.map (·.1)) (hv:AJ ρ (parts.map (·.2)) (parts'.toList.map (·.2))):
  Oa P ρ s w (Instr.buildSlice t len parts') o (.slice len):=by
 unfold An at hs
 split at hs<;>first | (cases hs;done) | skip
 rename_i e he
 simp only[tH]at hs
 obtain⟨n,hn,hs⟩:=hs
 obtain⟨hb,hs⟩:=AA hs
 have hb:len * n≤16777216:=by simpa[tK]using hb
 simp only[tH]at hs
 obtain⟨z,hz,hs⟩:=hs
 obtain⟨hc,hs⟩:=AA hs
 simp only[tH]at hs
 obtain⟨l,hl,hs⟩:=hs
 injection hs with hs
 subst hs
 obtain⟨z',hz',hzr⟩:=Jx (w:=w) ρ hz
 have hz2:=RS (c:=len) hzr (Ae hc)
 obtain⟨l',h1,h2⟩:=M6 (place':=fun i=>some (i * n,n)) (fun i p hp=>hp) hl hz2 hm hv
 obtain⟨ρ',g1,g2,g3⟩:=HU h hf (e:=e) (sz:=n) h2
 refine⟨.slice (some ⟨w.heap.size,0,none⟩) len len,_,ρ',?_,AM.slice g1 (tJ _),g2,g3⟩
 have hbig:¬ len * n > 2 ^ 24:=by omega
 by_cases h0:len * n=0
 ·have hr0:Array.range 0=#[]:=by simp
  rw[h0,hr0]at h1
  simp only[Array.map_empty]at h1
  simp[Instr.buildSlice,AH he,Ar hn,h0,hr0,h1,newRow]
 ·simp[Instr.buildSlice,AH he,Ar hn,hbig,h0,hz',h1,newRow]
theorem OS(h:As P ρ s w)(hf:ρ s.next=none){t:TypeId}{l c:AV}{l' c':Value}{o:AI}{m:Made}(hs:B6 P t l c=some (o,m))
  (hl:AM ρ l l') (hc:AM ρ c c'):Oa P ρ s w (Instr.makeSlice t l' c') o m:=by
 unfold B6 at hs
 split at hs<;>first | (cases hs;done) | skip
 rename_i e l0 c0 he
 cases hl;cases hc
 simp only[tH]at hs
 obtain⟨by_,hby,n,hn,hs⟩:=hs
 obtain⟨hb,hs⟩:=AA hs
 simp only[Bool.and_eq_true,tK]at hb
 obtain⟨⟨hlc,hb1⟩,hb2⟩:=hb
 have hlc:=Ae hlc
 subst hlc
 simp only[tH]at hs
 obtain⟨z,hz,hs⟩:=hs
 obtain⟨hc,hs⟩:=AA hs
 injection hs with hs
 injection hs with hs1 hs2
 subst hs1;subst hs2
 obtain⟨z',hz',hzr⟩:=Jx (w:=w) ρ hz
 have hz2:=RS (c:=l0) hzr (Ae hc)
 obtain⟨i,hi,hi2⟩:=ZR (w:=w) hby
 obtain⟨ρ',g1,g2,g3⟩:=HU h hf (e:=e) (sz:=n) hz2
 refine⟨.slice (some ⟨w.heap.size,0,none⟩) l0 l0,_,ρ',?_,AM.slice g1 (tJ _),g2,g3⟩
 have hw:IntKind.i64.wrap (l0:Int)=(l0:Int):=MG (k:=.i64) (n:=Int.ofNat l0) (by simp[BM,tK];omega)
 have hmul:((by_:Int) * (l0:Int))≤1099511627776:=by
  have:((by_ * l0:Nat):Int)≤1099511627776:=by omega
  simpa using this
 have h1:¬ ((l0:Int)<0):=by omega
 have h2:¬ ((i.bytes:Int) * (l0:Int) > 2 ^ 48):=by rw[hi2];omega
 have h3:¬ ((281474976710656:Int)<(i.bytes:Int) * (l0:Int)):=by omega
 by_cases h0:l0 * n=0
 ·have hr0:Array.range 0=#[]:=by simp
  simp[Instr.makeSlice,AH he,asInt,asIntOf,hi,hw,h1,h3,Ar hn,h0,newRow,hr0]
 ·simp[Instr.makeSlice,AH he,asInt,asIntOf,hi,hw,h1,h3,Ar hn,h0,hz',newRow]
end
end
end Go.Proofs.YtoaaclpjkelofaaGreatDoor.Am
