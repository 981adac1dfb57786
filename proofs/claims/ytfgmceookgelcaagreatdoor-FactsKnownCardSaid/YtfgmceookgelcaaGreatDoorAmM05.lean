/- Code by symbolic execution: what must hold ahead of it, by its text; conditions: none. -/
import Derived.Test.YtfgmceookgelcaaGreatDoorAmM04
import Derived.Test.YtfgmceookgelcaaGreatDoorAmM01
import Derived.Test.YtfgmceookgelcaaGreatDoorProg
set_option linter.unusedVariables false
set_option linter.unusedSimpArgs false
namespace Go.Proofs.YtfgmceookgelcaaGreatDoor.Am
open Go
noncomputable section
def QC{α:Type}(x:Option α)(K:α→Prop):Prop:=match x with
 | some v=>K v
 | none=>False
theorem Qm{α:Type}(v:α)(K:α→Prop):QC (some v) K=K v:=Eq.trans rfl rfl
section
variable(E:Cg)
def Qe(f:AV)(aS:List AV)(K:AV→AE→Prop)(s:AE):Prop:=match f with
 | .func f first cap=>WF E f (first++(aS++cap)) K s
 | .yield l=>WR E l aS K s
 | _=>False
def Qc(sh:Sh)(xs:List AV)(K:AV→AE→Prop)(s:AE):Prop:=match sh with
 | .p1 f=>match xs with
  | a::_=>QC (f a) (fun v=>K v s)
  | []=>False
 | .p2 f=>match xs with
  | a::b::_=>QC (f a b) (fun v=>K v s)
  | _=>False
 | .p f=>QC (f xs) (fun v=>K v s)
 | .r1 f=>match xs with
  | a::_=>QC (f s a) (fun v=>K v s)
  | []=>False
 | .r f=>QC (f s xs) (fun v=>K v s)
 | .mk f=>QC (f xs) (fun p=>K (p.2.val s.next) (newObj s p.1))
 | .e f=>QC (f s xs) (fun p=>K p.1 p.2)
 | .call f=>WF E f xs K s
 | .callv=>match xs with
  | f::aS=>Qe E f aS K s
  | []=>False
def Qh (loc var:List AV):List CX→List AV
 | []=>[]
 | x::l=>CO loc var x::Qh loc var l
def Qn(s:AE)(loc var:List AV):List FW→Prop
 | []=>True
 | r::l=>E8 s loc var r=true∧Qn s loc var l
def Qd(ag:List FW)(d:Iw)(loc var:List AV)(k:List AV→List AV→AE→Prop)(v:AV)(s:AE):Prop:=match d with
 | .push=>Qn s (v::loc) var ag∧k (v::loc) var s
 | .set j=>Qn s loc (E3 v var j) ag∧k loc (E3 v var j) s
def Ni(v:AV)(x y:List AV→List Nat→AE→Prop)(var:List AV)(marks:List Nat)(s:AE):Prop:=match v with
 | .bool true=>x var marks s
 | .bool false=>y var marks s
 | _=>False
def Ke(k:List AV→List Nat→AE→Prop)(Q:Au→Prop)(r:Au):Prop:=match r.exit with
 | .normal=>k r.var r.marks r.st
 | _=>Q r
def fc(j b:Bool)(sh:Sh)(xs:List AV)(ag:List FW)(d:Iw)(loc var:List AV)(k:List AV→List AV→AE→Prop)(s:AE):Prop:=match j,b with
 | true,_=>False
 | false,true=>Qc E sh xs (Qd ag d loc var k) s
 | false,false=>Qd [] d loc var k BU s
def Qb:List AC→(List AV→AE→Prop)→List AV→List AV→AE→Prop
 | [],K,_,var,s=>K var s
 | it::l,K,loc,var,s=>fc E (Tt loc var it.guard) (BK loc var it.guard) it.sh (Qh loc var it.xs) it.again it.dst loc var (Qb l K) s
def Qa(rnd:Option Nat):Ab→(Au→Prop)→List AV→List Nat→AE→Prop
 | .skip,Q,var,marks,s=>Q ⟨.normal,var,marks,s⟩
 | .ret,Q,var,marks,s=>Q ⟨.ret,var,marks,s⟩
 | .exit id,Q,var,marks,s=>Q ⟨.exit id,var,marks,s⟩
 | .never,_,_,_,_=>False
 | .ops l,Q,var,marks,s=>Qb E l (fun v s'=>Q ⟨.normal,v,marks,s'⟩) [] var s
 | .seq a b,Q,var,marks,s=>Qa rnd a (Ke (Qa rnd b Q) Q) var marks s
 | .cond x a b,Q,var,marks,s=>Ni (CO [] var x) (Qa rnd a Q) (Qa rnd b Q) var marks s
 | .block id c,Q,var,marks,s=>Qa rnd c (E4 id Q) var marks s
 | .loop c,Q,var,marks,s=>WC E rnd (.loop c) Q var marks s
 | .rangeFunc fn f ps a b,Q,var,marks,s=>WC E rnd (.rangeFunc fn f ps a b) Q var marks s
 | .rangeMap r b,Q,var,marks,s=>WC E rnd (.rangeMap r b) Q var marks s
end
section
variable{E:Cg}{rnd:Option Nat}{Q Q':Au→Prop}{var loc:List AV}{marks:List Nat}{s:AE}{K K':AV→AE→Prop}{KI:List AV→AE→Prop}
theorem Sr:∀ (l:List CX),Qh loc var l=Cs loc var l
 | []=>rfl
 | x::l=>by show CO loc var x::Qh loc var l=CO loc var x::Cs loc var l;rw[Sr l]
theorem JT:∀ {l:List FW},Qn s loc var l→DZ s loc var l=true
 | [],_=>rfl
 | r::l,h=>by show(E8 s loc var r && DZ s loc var l)=true;rw[h.1,JT h.2];rfl
theorem FN{α:Type}{x:Option α}{K:α→Prop}(h:QC x K):∃v,x=some v∧K v:=by
 cases x with
 | none=>exact h.elim
 | some v=>exact⟨v,rfl,h⟩
theorem bh{f:AV}{aS:List AV}(h:Qe E f aS K s):∃n p,Fg (Ct E n) f aS s=some p∧K p.1 p.2:=by
 cases f with
 | func f first cap=>obtain⟨n,p,h1,h2⟩:=h;exact⟨n,p,h1,h2⟩
 | yield l=>obtain⟨n,p,h1,h2⟩:=h;exact⟨n,p,h1,h2⟩
 | _=>exact h.elim
theorem be      {sh : Sh} {xs : List CX} (h : Qc E sh (Qh loc var xs) K s) : ∃ n p, dV  (Ct   E n) sh xs loc var s = some p ∧ K p.1 p.2 := by
  rw[Sr]at h
  cases sh with
  | p1 f =>
    cases xs with
    | nil=>exact h.elim
    | cons x l =>
      obtain⟨v,h1,h2⟩:=FN h
      exact⟨0,(v,s),by show DC s (f (CO loc var x))=_;rw[h1];rfl,h2⟩
  | p2 f =>
    cases xs with
    | nil=>exact h.elim
    | cons x l =>
      cases l with
      | nil=>exact h.elim
      | cons y l =>
        obtain⟨v,h1,h2⟩:=FN h
        exact⟨0,(v,s),by show DC s (f (CO loc var x) (CO loc var y))=_;rw[h1];rfl,h2⟩
  | p f =>
    obtain⟨v,h1,h2⟩:=FN h
    exact⟨0,(v,s),by show DC s (f (Cs loc var xs))=_;rw[h1];rfl,h2⟩
  | r1 f =>
    cases xs with
    | nil=>exact h.elim
    | cons x l =>
      obtain⟨v,h1,h2⟩:=FN h
      exact⟨0,(v,s),by show DC s (f s (CO loc var x))=_;rw[h1];rfl,h2⟩
  | r f =>
    obtain⟨v,h1,h2⟩:=FN h
    exact⟨0,(v,s),by show DC s (f s (Cs loc var xs))=_;rw[h1];rfl,h2⟩
  | mk f =>
    obtain⟨v,h1,h2⟩:=FN h
    exact⟨0,(v.2.val s.next,newObj s v.1),by show N1 s (f (Cs loc var xs))=_;rw[h1];rfl,h2⟩
  | e f =>
    obtain⟨v,h1,h2⟩:=FN h
    exact⟨0,v,h1,h2⟩
  | call f=>obtain⟨n,p,h1,h2⟩:=h;exact⟨n,p,h1,h2⟩
  | callv =>
    cases xs with
    | nil=>exact h.elim
    | cons x l=>exact bh h
theorem bZ:∀ {l:List AC}{loc var:List AV}{s:AE},Qb E l KI loc var s→WI E l KI loc var s:=by
 intro l
 induction l with
 | nil=>intro loc var s h;exact WI.nil h
 | cons it l ih =>
  intro loc var s h
  have dst:∀ {ag:List FW} {v:AV} {s:AE},Qd ag it.dst loc var (Qb E l KI) v s→dk E ag it.dst l KI loc var v s:=by
   intro ag v s h
   unfold Qd at h
   unfold dk
   cases hd:it.dst with
   | push=>rw[hd]at h;exact⟨JT h.1,ih h.2⟩
   | set j=>rw[hd]at h;exact⟨JT h.1,ih h.2⟩
  unfold Qb at h
  cases hj:Tt loc var it.guard with
  | true=>rw[hj]at h;exact h.elim
  | false =>
  rw[hj]at h
  cases hw:BK loc var it.guard with
  | true =>
   rw[hw]at h
   have h:Qc E it.sh (Qh loc var it.xs) (Qd it.again it.dst loc var (Qb E l KI)) s:=h
   obtain⟨n,p,h1,h2⟩:=be h
   exact WI.item hj hw h1 (dst h2)
  | false =>
   rw[hw]at h
   have h:Qd [] it.dst loc var (Qb E l KI) BU s:=h
   exact WI.off hj hw (dst h)
theorem GQ:∀ {c:Ab}{Q:Au→Prop}{var:List AV}{marks:List Nat}{s:AE},Qa E rnd c Q var marks s→WC E rnd c Q var marks s:=by
 intro c
 induction c with
 | skip=>intro Q var marks s h;exact WC.skip h
 | ret=>intro Q var marks s h;exact WC.ret h
 | exit id=>intro Q var marks s h;exact WC.exit h
 | never=>intro Q var marks s h;exact h.elim
 | ops l=>intro Q var marks s h;exact WC.ops (bZ h)
 | seq a b iha ihb =>
  intro Q var marks s h
  refine WC.seq ((iha h).mono ?_)
  intro r hr
  unfold Ke at hr
  unfold Sw
  cases he:r.exit with
  | normal=>rw[he]at hr;exact ihb hr
  | exit id=>rw[he]at hr;exact hr
  | ret=>rw[he]at hr;exact hr
 | cond x a b iha ihb =>
  intro Q var marks s h
  unfold Qa Ni at h
  split at h<;>first | exact h.elim | skip
  ·rename_i ht;exact WC.cond ht (iha h)
  ·rename_i ht;exact WC.cond ht (ihb h)
 | block id c ih=>intro Q var marks s h;exact WC.block (ih h)
 | loop c _=>intro Q var marks s h;exact h
 | rangeFunc fn f ps a b=>intro Q var marks s h;exact h
 | rangeMap r b _=>intro Q var marks s h;exact h
theorem WC.loop'{c:Ab}(h:Qa E rnd c (Ke (WC E rnd (.loop c) Q) Q) var marks s):WC E rnd (.loop c) Q var marks s:=by
 refine WC.loop ((GQ h).mono ?_)
 intro r hr
 unfold Ke at hr
 unfold Sw
 cases he:r.exit with
 | normal=>rw[he]at hr;exact hr
 | exit id=>rw[he]at hr;exact hr
 | ret=>rw[he]at hr;exact hr
theorem WF.body'{f:FuncId}{aS:List AV}{cf:Ay}(hn:E.nat f aS s=none)(hf:AS E.P f=some cf)(ha:aS.length=cf.na)(h:Qa E none cf.body (Ends E.P cf.results K) (Ql aS cf.nv) [] s):WF E f aS K s:=WF.body hn hf ha (GQ h)
end
theorem Qq(a:AV)(l:List AV):If (a::l) 0=a:=rfl
theorem Qr(a:AV)(l:List AV)(n:Nat):If (a::l) (n+1)=If l n:=rfl
theorem Qo(v a:AV)(l:List AV):E3 v (a::l) 0=v::l:=rfl
theorem Qp(v a:AV)(l:List AV)(n:Nat):E3 v (a::l) (n+1)=a::E3 v l n:=rfl
theorem Qk(loc var:List AV)(i:Nat):CO loc var (.loc i)=If loc i:=rfl
theorem Qj(loc var:List AV)(i:Nat):CO loc var (.var i)=If var i:=rfl
theorem Qi(loc var:List AV)(v:AV):CO loc var (.const v)=v:=rfl
theorem Qf(loc var:List AV):BK loc var none=true:=rfl
theorem Qg(loc var:List AV)(x:CX)(b:Bool):BK loc var (some (x,b))=di b (CO loc var x):=rfl
theorem Qs(E:Cg)(sh:Sh)(xs:List AV)(ag:List FW)(d:Iw)(loc var:List AV)(k:List AV→List AV→AE→Prop)(s:AE):fc E false true sh xs ag d loc var k s=Qc E sh xs (Qd ag d loc var k) s:=rfl
theorem Qt(E:Cg)(sh:Sh)(xs:List AV)(ag:List FW)(d:Iw)(loc var:List AV)(k:List AV→List AV→AE→Prop)(s:AE):fc E false false sh xs ag d loc var k s=Qd [] d loc var k BU s:=rfl
theorem Qy(x y:List AV→List Nat→AE→Prop)(var:List AV)(m:List Nat)(s:AE):Ni (.bool true) x y var m s=x var m s:=rfl
theorem Qz(x y:List AV→List Nat→AE→Prop)(var:List AV)(m:List Nat)(s:AE):Ni (.bool false) x y var m s=y var m s:=rfl
theorem Ra(k:List AV→List Nat→AE→Prop)(Q:Au→Prop)(v:List AV)(m:List Nat)(s:AE):Ke k Q ⟨.normal,v,m,s⟩=k v m s:=rfl
theorem Rb(k:List AV→List Nat→AE→Prop)(Q:Au→Prop)(v:List AV)(m:List Nat)(s:AE):Ke k Q ⟨.ret,v,m,s⟩=Q ⟨.ret,v,m,s⟩:=rfl
theorem Rc(k:List AV→List Nat→AE→Prop)(Q:Au→Prop)(id:Nat)(v:List AV)(m:List Nat)(s:AE):Ke k Q ⟨.exit id,v,m,s⟩=Q ⟨.exit id,v,m,s⟩:=rfl
theorem Rd(id:Nat)(Q:Au→Prop)(v:List AV)(m:List Nat)(s:AE):E4 id Q ⟨.normal,v,m,s⟩=Q ⟨.normal,v,m,s⟩:=rfl
theorem Re(id:Nat)(Q:Au→Prop)(v:List AV)(m:List Nat)(s:AE):E4 id Q ⟨.ret,v,m,s⟩=Q ⟨.ret,v,m,s⟩:=rfl
theorem Rf(id id':Nat)(Q:Au→Prop)(v:List AV)(m:List Nat)(s:AE):E4 id Q ⟨.exit id',v,m,s⟩=if id'=id then Q ⟨.normal,v,m,s⟩else Q ⟨.exit id',v,m,s⟩:=by
 unfold E4
 by_cases h:id'=id
 ·subst h;simp
 ·have:Nat.beq id' id=false:=by
   cases hb:Nat.beq id' id with
   | true=>exact absurd (fz hb) h
   | false=>rfl
  simp[h,this]
theorem Rg(P:Program)(rs:List (CX×Option TypeId))(K:AV→AE→Prop)(v:List AV)(m:List Nat)(s:AE):Ends P rs K ⟨.ret,v,m,s⟩=QC (DA s m) (fun s'=>QC (Bb P s' v rs) (fun l=>K (BN l) s')):=by
 unfold Ends
 apply propext
 constructor
 ·rintro⟨_,s',h1,l,h2,h3⟩
  have h1:DA s m=some s':=h1
  have h2:Bb P s' v rs=some l:=h2
  rw[h1,Qm,h2,Qm];exact h3
 ·intro h
  obtain⟨s',h1,h⟩:=FN h
  obtain⟨l,h2,h3⟩:=FN h
  exact⟨rfl,s',h1,l,h2,h3⟩
theorem Rh(P:Program)(rs:List (CX×Option TypeId))(K:AV→AE→Prop)(v:List AV)(m:List Nat)(s:AE):Ends P rs K ⟨.normal,v,m,s⟩=QC (DA s m) (fun s'=>QC (Bb P s' v rs) (fun l=>K (BN l) s')):=by
 rw[← Rg];rfl
theorem Ri(s:AE):DA s []=some s:=rfl
theorem Rj(P:Program)(s:AE)(v:List AV):Bb P s v []=some []:=rfl
theorem Rk(P:Program)(s:AE)(v:List AV)(x:CX)(l:List (CX×Option TypeId)):Bb P s v ((x,none)::l)=(Bb P s v l).bind fun r=>some (CO [] v x::r):=rfl
theorem Rm(v:AV):BN [v]=v:=rfl
theorem Rn:BN []=.tuple []:=rfl
theorem Ro(v w:AV)(l:List AV):BN (v::w::l)=.tuple (v::w::l):=rfl
theorem Qu(loc var:List AV):Tt loc var none=false:=rfl
theorem Qv(loc var:List AV)(x:CX)(b:Bool):Tt loc var (some (x,b))=dH (CO loc var x):=rfl
theorem Qw(b:Bool):dH (.bool b)=false:=rfl
theorem Qx:dH BU=false:=rfl
theorem Rp(w:Bool):di w BU=false:=rfl
theorem Rq(b:Bool):di true (.bool b)=b:=by cases b<;>rfl
theorem Rs(b:Bool):di false (.bool b)=!b:=by cases b<;>rfl
theorem Ya:(!true)=false:=rfl
theorem Yb:(!false)=true:=rfl
theorem Yc{α β:Type _}(a:α)(f:α→Option β):(some a).bind f=f a:=rfl
theorem Yd{α:Type _}(a:α)(l:List α):(a::l)[0]? = some a:=rfl
theorem Ye{α:Type _}(a:α)(l:List α)(i:Nat):(a::l)[i+1]? = l[i]? := rfl
section
variable{α:Type}
theorem AB.setF_succ(v:Option α)(f:Nat)(t:AB α)(k:Nat):AB.setF v (f+1) t (k+1)=if k % 2=0 then .node t.val (AB.setF v f t.left (k / 2)) t.right else .node t.val t.left (AB.setF v f t.right (k / 2)):=by
 by_cases h:k % 2=0
 ·have hb:Nat.beq (k % 2) 0=true:=by rw[h];rfl
  simp only[AB.setF,hb,cond_true,AB.nodeL_eq,AB.nodeR_eq]
  rw[if_pos h]
 ·have hb:Nat.beq (k % 2) 0=false:=AB.beq_no h
  simp only[AB.setF,hb,cond_false,AB.nodeL_eq,AB.nodeR_eq]
  rw[if_neg h]
theorem AB.setF_fuel   (v : Option α) : ∀ (f g : Nat) (t : AB   α) (k : Nat), k < f → k < g → AB.setF   v f t k = AB.setF   v g t k := by
  intro f
  induction f with
  | zero=>intro g t k h;omega
  | succ f ih =>
    intro g t k h1 h2
    cases g with
    | zero=>omega
    | succ g =>
      cases k with
      | zero=>rfl
      | succ k =>
        rw[AB.setF_succ,AB.setF_succ,ih g t.left (k / 2) (by omega) (by omega),ih g t.right (k / 2) (by omega) (by omega)]
theorem AB.setF_same(v w:Option α):∀ (f:Nat)(t:AB α)(k:Nat),k<f→AB.setF w f (AB.setF v f t k) k=AB.setF w f t k:=by
 intro f
 induction f with
 | zero=>intro t k h;omega
 | succ f ih =>
  intro t k h
  cases k with
  | zero=>rfl
  | succ k =>
   rw[AB.setF_succ,AB.setF_succ,AB.setF_succ]
   by_cases hk:k % 2=0
   ·simp only[hk,if_true,AB.val,AB.left,AB.right];rw[ih _ _ (by omega)]
   ·simp only[hk,if_false,AB.val,AB.left,AB.right];rw[ih _ _ (by omega)]
theorem AB.setF_comm   (v w : Option α) : ∀ (f : Nat) (t : AB   α) (k j : Nat), k < f → j < f → k ≠ j → AB.setF   w f (AB.setF   v f t k) j = AB.setF   v f (AB.setF   w f t j) k := by
  intro f
  induction f with
  | zero=>intro t k j h;omega
  | succ f ih =>
    intro t k j h1 h2 hne
    cases k with
    | zero =>
      cases j with
      | zero=>omega
      | succ j =>
        rw[AB.setF_succ,AB.setF_succ]
        by_cases hj:j % 2=0
        · simp only[hj,if_true,AB.setF,AB.val,AB.left,AB.right]
        · simp only[hj,if_false,AB.setF,AB.val,AB.left,AB.right]
    | succ k =>
      cases j with
      | zero =>
        rw[AB.setF_succ,AB.setF_succ]
        by_cases hk:k % 2=0
        · simp only[hk,if_true,AB.setF,AB.val,AB.left,AB.right]
        · simp only[hk,if_false,AB.setF,AB.val,AB.left,AB.right]
      | succ j =>
        simp only[AB.setF_succ]
        by_cases hk:k % 2=0<;>by_cases hj:j % 2=0
        · simp only[hk,hj,if_true,AB.val,AB.left,AB.right];rw[ih _ _ _ (by omega) (by omega) (by omega)]
        · simp only[hk,hj,if_true,if_false,AB.val,AB.left,AB.right]
        · simp only[hk,hj,if_true,if_false,AB.val,AB.left,AB.right]
        · simp only[hk,hj,if_false,AB.val,AB.left,AB.right];rw[ih _ _ _ (by omega) (by omega) (by omega)]
theorem AB.set_same(t:AB α)(k:Nat)(v w:α):(t.set k v).set k w=t.set k w:=AB.setF_same _ _ _ _ _ (by omega)
theorem AB.set_comm(t:AB α){k j:Nat}(h:k≠j)(v w:α):(t.set k v).set j w=(t.set j w).set k v:=by
 unfold AB.set AB.put
 rw[AB.setF_fuel _ (k+1) (k+j+1) t k (by omega) (by omega),AB.setF_fuel _ (j+1) (k+j+1) _ j (by omega) (by omega),AB.setF_fuel _ (j+1) (k+j+1) t j (by omega) (by omega),AB.setF_fuel _ (k+1) (k+j+1) _ k (by omega) (by omega)]
 exact AB.setF_comm _ _ _ _ _ _ (by omega) (by omega) h
theorem AB.fill_set_below(l:List α):∀ (t:AB α)(k j:Nat)(v:α),j<k→(t.fill k l).set j v=(t.set j v).fill k l:=by
 induction l with
 | nil=>intro t k j v _;rfl
 | cons a l ih =>
  intro t k j v h
  simp only[AB.fill]
  rw[ih _ _ _ _ (by omega),AB.set_comm t (by omega)]
theorem AB.fill_set(l:List α):∀ (t:AB α)(k i:Nat)(v:α),i<l.length→(t.fill k l).set (k+i) v=t.fill k (l.set i v):=by
  induction l with
  | nil=>intro t k i v h;simp at h
  | cons a l ih =>
    intro t k i v h
    cases i with
    | zero =>
      simp only[AB.fill,gJ,gk]
      rw[AB.fill_set_below _ _ _ _ _ (by omega),AB.set_same]
    | succ i =>
      simp only[AB.fill,List.set_cons_succ]
      rw[show k+(i+1)=k+1+i from by omega]
      exact ih _ _ _ _ (by simpa using h)
end
def Sb(l:List AV):AB AV:=AB.fill .leaf 0 l
theorem Mv(l:List AV)(k:Nat):(Sb l).get k=l[k]? := by
 unfold Sb
 rw[AB.get_fill]
 by_cases h:k<l.length
 ·rw[if_pos ⟨gF _,by omega⟩];rfl
 ·rw[if_neg (by omega),gH (by omega)];rfl
def DK(cs:List AV)(off:Nat)(vs:List AV):List AV:=match vs with
 | []=>cs
 | v::vs=>DK (cs.set off v) (off+1) vs
theorem Gg:∀ (vs cs:List AV)(off:Nat),(DK cs off vs).length=cs.length
 | [],_,_=>rfl
 | v::vs,cs,off=>by unfold DK;rw[Gg];simp
theorem OC:∀ (vs cs:List AV)(off:Nat),off+vs.length≤cs.length→(Sb cs).fill off vs=Sb (DK cs off vs)
 | [],_,_,_=>rfl
 | v::vs,cs,off,h=>by
  simp only[AB.fill,DK]
  have e:(Sb cs).set off v=Sb (cs.set off v):=by
   unfold Sb
   have:=AB.fill_set cs .leaf 0 off v (by simp at h;omega)
   rwa[gA]at this
  rw[e]
  exact OC vs _ _ (by simp at h ⊢;omega)
theorem Kk         : ∀ (vs cs : List AV) (off k : Nat), off + vs.length ≤ cs.length → (DK     cs off vs)[k]? = if off ≤ k ∧ k < off + vs.length then vs[k - off]? else cs[k]?
  | [],cs,off,k,_=>by simp[DK];omega
  | v::vs,cs,off,k,h=>by
    simp only[gh]at h
    simp only[DK]
    rw[Kk vs _ _ _ (by simp;omega)]
    by_cases h1:off+1≤k∧k<off+1+vs.length
    · rw[if_pos h1,if_pos (by simp;omega),show k - off=(k - (off+1))+1 from by omega];rfl
    · rw[if_neg h1]
      by_cases h2:k=off
      · subst h2
        rw[if_pos (by simp),iQ (by omega)]
        simp
      · rw[if_neg (by simp;omega),gy (Ne.symm h2)]
def R(e sz:Nat)(sp:Bool)(cs:List AV):AX:=.row { elem:=e,sz,n:=cs.length,c:=Sb cs,spare:=sp,mode:=.own,par:=none,bytes:=true }
theorem Wv(s:AE)(i:Nat)(o:AX):(setObj s i o).heap.get i=some o:=by
 show(s.heap.set i o).get i=_
 rw[AB.get_set,if_pos rfl]
theorem Ww{s:AE}{i j:Nat}(o:AX)(h:j≠i):(setObj s i o).heap.get j=s.heap.get j:=by
 show(s.heap.set i o).get j=_
 rw[AB.get_set,if_neg h]
def Ys:Option AX→Option B6
 | some (.row r)=>some r
 | _=>none
def LN(o:Option AX)(off:Nat):Option AV:=(Ys o).bind fun r=>AH (Nat.blt off r.n) (r.c.get off)
def J6(o:Option AX)(off n:Nat):Option (List AV):=(Ys o).bind fun r=>AH (Nat.ble (off+n) r.n) (r.c.take off n)
def mapO(kt:TypeId):Option AX→Option (List (AV×AV))
 | some (.map kt' es)=>AH (Nat.beq kt' kt) (some es)
 | _=>none
theorem bM(s:AE)(i:Nat):rowAt s i=Ys (s.heap.get i):=rfl
theorem ak(s:AE)(i off:Nat):Cc s i off=LN (s.heap.get i) off:=rfl
theorem Mm(s:AE)(i off n:Nat):Be s i off n=J6 (s.heap.get i) off n:=rfl
theorem Wn(e sz:Nat)(sp:Bool)(cs:List AV)(off:Nat):LN (some (R e sz sp cs)) off=cs[off]? := by
 show AH (Nat.blt off cs.length) ((Sb cs).get off)=_
 rw[Mv]
 by_cases h:off<cs.length
 ·have:Nat.blt off cs.length=true:=by rw[gE];exact h
  rw[this];rfl
 ·have:Nat.blt off cs.length=false:=by
   cases hb:Nat.blt off cs.length with
   | false=>rfl
   | true=>rw[gE]at hb;exact absurd hb h
  rw[this,gH (by omega)];rfl
theorem Ok:∀ (n:Nat)(cs:List AV)(off:Nat),off+n≤cs.length→(Sb cs).take off n=some ((cs.drop off).take n)
 | 0,cs,off,_=>by simp[AB.take]
 | n+1,cs,off,h=>by
  have hg:cs[off]? = some cs[off]:=f9 (by omega)
  simp only[AB.take,Mv,hg,Ok n cs (off+1) (by omega)]
  rw[show cs.drop off=cs[off]::cs.drop (off+1)from(gc (by omega))]
  rfl
theorem Wo{e sz:Nat}{sp:Bool}{cs:List AV}{off n:Nat}(h:off+n≤cs.length):J6 (some (R e sz sp cs)) off n=some ((cs.drop off).take n):=by
 show AH (Nat.ble (off+n) cs.length) ((Sb cs).take off n)=_
 have:Nat.ble (off+n) cs.length=true:=by rw[fw];exact h
 rw[this,Ok n cs off h];rfl
theorem Of{s:AE}{i off e sz:Nat}{sp:Bool}{cs vs:List AV}(hg:s.heap.get i=some (R e sz sp cs))(h:off+vs.length≤cs.length)(ha:Aq vs=true):
  CE s i off vs=some (match vs with | []=>s | _::_=>setObj s i (R e sz sp (DK cs off vs))):=by
 cases vs with
 | nil=>rfl
 | cons v vs =>
  have hb:Nat.ble (off+(v::vs).length) cs.length=true:=by rw[fw];exact h
  show(rowAt s i).bind _=_
  rw[bM,hg]
  show AH (CS .own && Nat.ble (off+(v::vs).length) cs.length && Aq (v::vs)) _=_
  rw[hb,ha]
  show some (setObj s i _)=some (setObj s i _)
  rw[show R e sz sp (DK cs off (v::vs))=AX.row { elem:=e,sz,n:=(DK cs off (v::vs)).length,c:=Sb (DK cs off (v::vs)),spare:=sp,mode:=.own,par:=none,bytes:=true }from rfl,Gg,← OC _ _ _ h]
abbrev iv(n:Int):AV:=.int .i64 n
def i64(n:Int):Prop:=-9223372036854775808≤n∧n<9223372036854775808
theorem Kq{k:IntKind}{n:Int}(h:BY k n=true):CN k n=n:=by unfold CN;rw[h];rfl
theorem Nr{n:Int}(h:i64 n):BY .i64 n=true:=by
 obtain⟨h1,h2⟩:=h
 cases n with
 | ofNat m=>simp only[BY,fw];simp at h2;omega
 | negSucc m=>simp only[BY,fw];omega
theorem Oo{n:Int}(h:i64 n):CN .i64 n=n:=Kq (Nr h)
section
variable(P:Program)(t:TypeId)(a b:Int)
theorem Rx:AN P .lss t (iv a) (iv b)=some (.bool (decide (a<b))):=by
 show some (AV.bool (Kw a b))=_
 rw[CV]
theorem Ry:AN P .gtr t (iv a) (iv b)=some (.bool (decide (b<a))):=by
 show some (AV.bool (Kw b a))=_
 rw[CV]
theorem Rz:AN P .leq t (iv a) (iv b)=some (.bool (decide (a≤b))):=by
 show some (AV.bool (!Kw b a))=_
 rw[CV,← decide_not]
 congr 3
 exact propext Int.not_lt
theorem Wa:AN P .geq t (iv a) (iv b)=some (.bool (decide (b≤a))):=by
 show some (AV.bool (!Kw a b))=_
 rw[CV,← decide_not]
 congr 3
 exact propext Int.not_lt
theorem Wb:AN P .eql t (iv a) (iv b)=some (.bool (decide (a=b))):=by
 show some (AV.bool (Ma a b))=_
 rw[EW];rfl
theorem Wc:AN P .neq t (iv a) (iv b)=some (.bool (decide (a≠b))):=by
 show some (AV.bool (!Ma a b))=_
 rw[EW,decide_not];rfl
theorem By(h:i64 (a+b)):AN P .add t (iv a) (iv b)=some (iv (a+b)):=by
 show some (AV.int .i64 (CN .i64 (a+b)))=_
 rw[Oo h]
theorem Br(h:i64 (a - b)):AN P .sub t (iv a) (iv b)=some (iv (a - b)):=by
 show some (AV.int .i64 (CN .i64 (a - b)))=_
 rw[Oo h]
theorem Wd(c:Bool):de P .not (.bool c)=some (.bool (!c)):=rfl
end
def A8(b:Nat)(s s':AE):Prop:=s.next≤s'.next∧∀i,i<b→s'.heap.get i=s.heap.get i
theorem A8.refl(b:Nat)(s:AE):A8 b s s:=⟨fu _,fun _ _=>rfl⟩
theorem A8.trans{b:Nat}{s s1 s2:AE}(h:A8 b s s1)(k:A8 b s1 s2):A8 b s s2:=⟨fx h.1 k.1,fun i hi=>(k.2 i hi).trans (h.2 i hi)⟩
theorem A8.mono{b b':Nat}{s s1:AE}(h:A8 b s s1)(k:b'≤b):A8 b' s s1:=⟨h.1,fun i hi=>h.2 i (fy hi k)⟩
theorem AO(s:AE)(o:AX)(j:Nat):(newObj s o).heap.get j=if j=s.next then some o else s.heap.get j:=AB.get_set _ _ _ _
theorem Jy(s:AE)(i:Nat)(o:AX)(j:Nat):(setObj s i o).heap.get j=if j=i then some o else s.heap.get j:=AB.get_set _ _ _ _
theorem HO(s:AE)(i j:Nat):(Bu s i).heap.get j=if j=i then none else s.heap.get j:=AB.get_del _ _ _
theorem A8.new(s:AE)(o:AX):A8 s.next s (newObj s o):=⟨gZ _,fun i hi=>by rw[AO,if_neg (by omega)]⟩
theorem DV{s s':AE}{i o:Nat}(h:s'.heap.get i=s.heap.get i):Cc s' i o=Cc s i o:=by unfold Cc rowAt;rw[h]
theorem GC{s:AE}{i o:Nat}{r:B6}{u:AV}(h:s.heap.get i=some (.row r))(ho:o<r.n)(hc:r.c.get o=some u):Cc s i o=some u:=by
 have hb:Nat.blt o r.n=true:=by simpa[gE]using ho
 simp[Cc,rowAt,h,AH,hb,hc]
def Ai(b:Nat)(s:AE)(a:Option (Nat×Nat))(cs:List AV):Prop:=∀k u,cs[k]? = some u→∃i o,a=some (i,o)∧i<b∧Cc s i (o+k)=some u
theorem Ai.old{b b':Nat}{s s':AE}{a:Option (Nat×Nat)}{cs:List AV}(h:Ai b s a cs)(k:A8 b' s s')(hb:b≤b'):Ai b s' a cs:=fun j u hj=>by
 obtain⟨i,o,h1,h2,h3⟩:=h j u hj
 exact⟨i,o,h1,h2,by rw[DV (k.2 i (fy h2 hb))];exact h3⟩
theorem Ai.mono{b b':Nat}{s:AE}{a:Option (Nat×Nat)}{cs:List AV}(h:Ai b s a cs)(hb:b≤b'):Ai b' s a cs:=fun j u hj=>by
 obtain⟨i,o,h1,h2,h3⟩:=h j u hj
 exact⟨i,o,h1,fy h2 hb,h3⟩
theorem Ai.nil{b:Nat}{s:AE}{a:Option (Nat×Nat)}:Ai b s a []:=fun k u h=>by simp at h
theorem Er(k:Nat):Sa (k:Int)=some k:=rfl
theorem Aw{P:Program}{t e:TypeId}{n:Nat}(ht:P.underlying t=some (.slice e))(hs:A2 P e=some n){i o len k:Nat}{cap:Option Nat}(hk:k<len):
  AQ P t (.slice (some (i,o)) len cap) (iv (k:Int))=some (.ptr (some (i,o+k * n))):=by
 have hb:Nat.blt k len=true:=by simpa[gE]using hk
 simp[AQ,GX,Er,ht,hs,AH,hb]
theorem B9{P:Program}{t:TypeId}(h:EM P t=some false){s:AE}{i o:Nat}{u:AV}(hl:Cc s i o=some u):AF P s t (.ptr (some (i,o)))=some u:=by
 simp[AF,h,hl]
theorem AW{P:Program}{t e:TypeId}(ht:P.underlying t=some (.slice e)){s:AE}{a:Option (Nat×Nat)}{n:Nat}{cap:Option Nat}:Bk P s t (.slice a n cap)=some (iv (n:Int)):=by
 simp[Bk,ht]
theorem Cy{a b:Nat}(h:a≤b):Nat.ble a b=true:=by simpa[fw]using h
theorem cR{a b:Nat}(h:a<b):Nat.blt a b=true:=by simpa[gE]using h
theorem Gl{a b:Nat}(h:a=b):Nat.beq a b=true:=by subst h;simp
theorem Dq{a b:Nat}(h:a≠b):Nat.beq a b=false:=by
 cases hb:Nat.beq a b with
 | true=>exact absurd (fz hb) h
 | false=>rfl
theorem MB{a b:Nat}(h:b<a):Nat.ble a b=false:=by
 cases hb:Nat.ble a b with
 | true=>rw[fw]at hb;omega
 | false=>rfl
theorem bR{t:AB AV}:∀ (cs:List AV)(k:Nat),(∀j u,cs[j]? = some u→t.get (k+j)=some u)→t.take k cs.length=some cs:=by
 intro cs
 induction cs with
 | nil=>intro k _;rfl
 | cons c cs ih =>
  intro k h
  have h0:=h 0 c rfl
  simp only[gh,AB.take]
  rw[show k+0=k from rfl]at h0
  rw[h0]
  simp only
  rw[ih (k+1) (fun j u hj=>by rw[show k+1+j=k+(j+1)from by omega];exact h (j+1) u (by simpa using hj))]
def JM(r:B6)(cs:List AV):Prop:=r.n=cs.length∧∀k u,cs[k]? = some u→r.c.get k=some u
theorem JM.take{r:B6}{cs:List AV}(h:JM r cs)(o:Nat)(l:List AV)(hl:∀j u,l[j]? = some u→cs[o+j]? = some u):r.c.take o l.length=some l:=
 bR l o fun j u hj=>h.2 _ u (hl j u hj)
theorem Fs{s:AE}{i:Nat}{r:B6}{cs:List AV}(hg:s.heap.get i=some (.row r))(h:JM r cs)(o:Nat)(l:List AV)(hle:o+l.length≤cs.length)(hl:∀j u,l[j]? = some u→cs[o+j]? = some u):
  Be s i o l.length=some l:=by
 simp[Be,rowAt,hg,AH,h.1,Cy hle,h.take o l hl]
theorem Nq(e:TypeId)(sz:Nat)(cs:List AV):∃r,Fu e sz cs=.row r∧JM r cs∧r.sz=sz∧r.spare=false∧r.mode=.own∧r.par=none:=by
 refine⟨_,rfl,⟨rfl,?_⟩,rfl,rfl,rfl,rfl⟩
 intro k u hk
 have hlt:k<cs.length:=by
  rcases fv k cs.length with h | h
  ·exact h
  ·rw[gH h]at hk;cases hk
 show(AB.fill .leaf 0 cs).get k=some u
 rw[AB.get_fill,if_pos ⟨gF _,by omega⟩]
 simpa using hk
structure FX(e:TypeId)(lo hi:Nat)(s:AE)(v:AV)(n sz:Nat)(cs:List AV)(i:Nat)(p:Option Nat):Prop where
 len:cs.length=n * sz
 ex:(v=.slice none 0 (some 0)∧n=0)∨(v=.slice (some (i,0)) n none∧lo≤i∧i<hi∧(∀q,p=some q→lo≤q∧q<hi∧q≠i) ∧
  ∃r,s.heap.get i=some (.row r)∧JM r cs∧r.spare=true∧r.mode=.own∧r.sz=sz∧r.par=p∧r.elem=e)
theorem FX.zero(e:TypeId)(lo hi:Nat)(s:AE)(sz:Nat)(i:Nat)(p:Option Nat):FX e lo hi s (.slice none 0 (some 0)) 0 sz [] i p:=⟨by simp,.inl ⟨rfl,rfl⟩⟩
theorem FX.frame{e:TypeId}{lo hi:Nat}{s s':AE}{v:AV}{n sz:Nat}{cs:List AV}{i:Nat}{p:Option Nat}(h:FX e lo hi s v n sz cs i p)(k:lo≤i→i<hi→s'.heap.get i=s.heap.get i):FX e lo hi s' v n sz cs i p:=by
 refine⟨h.len,?_⟩
 rcases h.ex with h1 | ⟨h1,h2,h3,h4,r,h5,h6⟩
 ·exact .inl h1
 ·exact .inr ⟨h1,h2,h3,h4,r,by rw[k h2 h3];exact h5,h6⟩
theorem FX.mono{e:TypeId}{lo hi hi':Nat}{s:AE}{v:AV}{n sz:Nat}{cs:List AV}{i:Nat}{p:Option Nat}(h:FX e lo hi s v n sz cs i p)(k:hi≤hi'):FX e lo hi' s v n sz cs i p:=by
 refine⟨h.len,?_⟩
 rcases h.ex with h1 | ⟨h1,h2,h3,h4,rest⟩
 ·exact .inl h1
 ·exact .inr ⟨h1,h2,by omega,fun q hq=>⟨(h4 q hq).1,by have:=(h4 q hq).2.1;omega,(h4 q hq).2.2⟩,rest⟩
theorem FX.cells{e:TypeId}{lo hi:Nat}{s:AE}{v:AV}{n sz:Nat}{cs:List AV}{i:Nat}{p:Option Nat}(h:FX e lo hi s v n sz cs i p):∃a cap,v=.slice a n cap∧Ai hi s a cs:=by
 rcases h.ex with⟨rfl,rfl⟩ | ⟨rfl,h2,h3,h4,r,h5,h6,_⟩
 ·refine⟨none,some 0,rfl,?_⟩
  have:cs=[]:=by have:=h.len;simp at this;exact this
  subst this
  exact Ai.nil
 ·refine⟨_,_,rfl,fun k u hk=>⟨i,0,rfl,h3,?_⟩⟩
  have hlt:k<cs.length:=by
   rcases fv k cs.length with h' | h'
   ·exact h'
   ·rw[gH h']at hk;cases hk
  rw[gA]
  exact GC h5 (by rw[h6.1];exact hlt) (h6.2 k u hk)
def dj(s s':AE)(i:Nat)(p:Option Nat):Prop:=s.next≤s'.next∧∀j,j<s.next→j≠i→p≠some j→s'.heap.get j=s.heap.get j
theorem FX.appTo   {P : Program} {e : TypeId} {lo hi : Nat} {s : AE}  {v : AV} {n sz : Nat} {cs : List AV} {i : Nat} {p : Option Nat} (h : FX   e lo hi s v n sz cs i p) (hhi : hi ≤ s.next) (hlo : lo ≤ s.next) (hz : Cm     P e sz = true) (hsz : 0 < sz) {m : Nat} {add : List AV} (ha : add.length = m * sz) (hm : 0 < m) :
    ∃a cap v' s',v=.slice a n cap∧appTo P s e sz a n cap (m,add)=some (v',s')∧∃i' p',FX e lo s'.next s' v' (n+m) sz (cs++add) i' p'∧dj s s' i p∧lo≤s'.next∧(i'=s.next)∧(p'=none∨p'=some i)∧s'.next=s.next+1 ∧
      (∀cell,cell<cs.length→Cc s' i cell=Cc s i cell∨n=0):=by
  have hlen:(cs++add).length=(n+m) * sz:=by rw[gI,h.len,ha,gQ]
  rcases h.ex with⟨rfl,rfl⟩ | ⟨rfl,h2,h3,h4,r,h5,h6,h7,h8,h9,h10,h11⟩
  · have hcs:cs=[]:=by have:=h.len;simp at this;exact this
    subst hcs
    refine⟨none,some 0,.slice (some (s.next,0)) m none,newObj s (Ca e sz (AB.fill .leaf 0 add) add.length none true),rfl,?_,s.next,none,⟨by simpa using hlen,.inr ⟨by simp,hlo,gY _,(fun q hq=>by cases hq),_,(by rw[AO,if_pos rfl];rfl),⟨rfl,?_⟩,rfl,rfl,rfl,rfl,rfl⟩⟩,
      ⟨gZ _,fun j hj _ _=>by rw[AO,if_neg (by omega)]⟩,Nat.le_succ_of_le hlo,rfl,.inl rfl,rfl,fun _ _=>.inr rfl⟩
    · simp[Am.appTo,B7,Dq (show m≠0 by omega),AH,hz]
    · intro k u hk
      show(AB.fill .leaf 0 add).get k=some u
      have hk':add[k]? = some u:=by simpa using hk
      have hlt:k<add.length:=by
        rcases fv k add.length with h' | h'
        · exact h'
        · rw[gH h']at hk';cases hk'
      rw[AB.get_fill,if_pos ⟨gF _,by omega⟩]
      simpa using hk'
  · have hrow : rowAt s i = some r := by simp [rowAt, h5]
    have hrn:r.n=n * sz:=by rw[h6.1,h.len]
    have hload:Be s i 0 (n * sz)=some cs:=by
      have:=Fs h5 h6 0 cs (by omega) (fun j u hj=>by simpa using hj)
      rw[h.len]at this
      exact this
    have hgt:¬ (0+(n+m) * sz≤r.n):=by
      rw[hrn,gQ]
      have:0<m * sz:=Nat.mul_pos hm hsz
      omega
    let s2:=setObj (BC s i r) i (.row { r with mode:=.sealed,par:=none })
    let s':=newObj s2 (Ca e sz (r.c.fill (n * sz) add) (cs++add).length (some i) (r.bytes && Nat.beq 0 0))
    have hun:∀j,j≠i→p≠some j→(BC s i r).heap.get j=s.heap.get j:=by
      intro j hj hp
      unfold BC
      rw[h10]
      cases p with
      | none=>rfl
      | some q =>
        simp only
        rw[Dq (h4 q rfl).2.2,cond_false,HO,if_neg (fun e=>hp (by rw[e]))]
    have hnext:(BC s i r).next=s.next:=by
      unfold BC
      split
      · rfl
      · cases Nat.beq _ _<;>rfl
    have hs2n:s2.next=s.next:=hnext
    refine⟨_,_,.slice (some (s.next,0)) (n+m) none,s',rfl,?_,s.next,some i,⟨hlen,.inr ⟨rfl,hlo,by show s.next<s2.next+1;omega,?_,_,by rw[AO,if_pos hs2n.symm];rfl,⟨rfl,?_⟩,rfl,rfl,rfl,rfl,rfl⟩⟩,⟨by show s.next≤s2.next+1;omega,?_⟩,by show lo≤s2.next+1;omega,rfl,.inr rfl,by show s2.next+1=_;omega,?_⟩
    · simp only[Am.appTo]
      rw[hrow,Option.bind_some]
      unfold I2
      rw[h9,Gl rfl]
      simp only[AH,cond_true]
      rw[show Nat.ble (0+(n+m) * sz) r.n=false from MB (by omega),cond_false,hload,Option.bind_some,h7,cond_true]
      unfold D8
      rw[h8,hz,Gl h11,show Nat.beq (0+n * sz) r.n=true from Gl (by omega)]
      simp only[CS,Bool.and_self,AH,cond_true,Ch,Gl rfl]
      show some (AV.slice (some (s.next,0)) (n+m) none,newObj s2 _)=_
      rfl
    · intro q hq
      injection hq with hq
      subst hq
      refine⟨h2,?_,?_⟩
      · show i<s2.next+1
        omega
      · omega
    · intro k u hk
      show(r.c.fill (n * sz) add).get k=some u
      rw[AB.get_fill]
      by_cases hlt:k<cs.length
      · rw [if_neg (by rw [← h.len]; omega)]
        rw[gi hlt]at hk
        exact h6.2 k u hk
      · rw[gj (by omega)]at hk
        have hk2:k - cs.length<add.length:=by
          rcases fv (k - cs.length) add.length with h' | h'
          · exact h'
          · rw[gH h']at hk;cases hk
        rw[if_pos ⟨by rw[← h.len];omega,by rw[← h.len];omega⟩,← h.len]
        exact hk
    · intro j hj hji hp
      show s'.heap.get j=_
      rw[AO,if_neg (by omega),Jy,if_neg hji]
      exact hun j hji hp
    · intro cell hc
      left
      have e1:s'.heap.get i=some (.row { r with mode:=.sealed,par:=none }):=by
        rw[AO,if_neg (by omega),Jy,if_pos rfl]
      simp only[Cc,rowAt,e1,h5,Option.bind_some]
theorem Tg{s:AE}{i o n size:Nat}{l:List AV}(h:Be s i o (n * size)=some l):QV s i o n size=some l:=by
 unfold QV
 cases hn0:Nat.beq n 0 with
 | false=>exact h
 | true =>
  have:=fz hn0
  subst this
  rw[Nat.zero_mul]at h
  unfold Be at h
  simp only[ft]at h
  obtain⟨r,_,h⟩:=h
  cases hb:Nat.ble (o+0) r.n with
  | true=>rw[hb]at h;exact h
  | false=>rw[hb]at h;cases h
theorem DE{P:Program}{st xt e:TypeId}{size by_:Nat}(ht:P.underlying st=some (.slice e))(hs:A2 P e=some size)(hb:Cz P e=some by_)(h0:0<size)(hx:Bs P xt=true){s:AE}{a ax:Option (Nat×Nat)}{n m:Nat}{cap cx:Option Nat}{add:List AV}
  (hsrc:B0 P s e size (.slice ax m cx)=some (m,add)) (hc:Aq add=true) (h1:(n+m) * by_≤1099511627776) (h2:n+m≤1099511627776):
  A7 P s [st,xt] [.slice a n cap,.slice ax m cx]=appTo P s e size a n cap (m,add):=by
 simp[A7,ht,hs,hb,AH,Dq (show size≠0 by omega),hx,hsrc,hc,Cy h1,Cy h2]
def CT(e:TypeId)(s:AE)(v:AV)(n sz:Nat)(cs:List AV)(O:List Nat):Prop:=
 (∃a,v=.slice a n (some n)∧O=[]∧cs.length=n * sz∧(a=none→n=0)∧∀i o,a=some (i,o)→i<s.next∧Be s i o (n * sz)=some cs) ∨
 (∃i p,v=.slice (some (i,0)) n none∧FX e 0 s.next s v n sz cs i p∧O=i::p.toList)
theorem CT.nil{e:TypeId}(s:AE)(sz:Nat):CT e s (.slice none 0 (some 0)) 0 sz [] []:=.inl ⟨none,rfl,rfl,by simp,fun _=>rfl,fun i o h=>by cases h⟩
theorem CT.len{e:TypeId}{s:AE}{v:AV}{n sz:Nat}{cs:List AV}{O:List Nat}(h:CT e s v n sz cs O):cs.length=n * sz:=by
 rcases h with⟨a,h1,h2,h3,h4⟩ | ⟨i,p,h1,h2,h3⟩
 ·exact h3
 ·exact h2.len
theorem X7{s s':AE}{i o n:Nat}(h:s'.heap.get i=s.heap.get i):Be s' i o n=Be s i o n:=by unfold Be rowAt;rw[h]
def C8:AV→Option Nat
 | .slice (some (i,_)) _ _=>some i
 | _=>none
theorem CT.frame{e:TypeId}{s s':AE}{v:AV}{n sz:Nat}{cs:List AV}{O:List Nat}(h:CT e s v n sz cs O)(hn:s.next≤s'.next)(hf:∀j,C8 v=some j→s'.heap.get j=s.heap.get j):CT e s' v n sz cs O:=by
 rcases h with⟨a,rfl,h2,h3,h4,h5⟩ | ⟨i,p,rfl,h2,h3⟩
 ·refine .inl ⟨a,rfl,h2,h3,h4,fun i o e=>?_⟩
  obtain⟨k1,k2⟩:=h5 i o e
  subst e
  exact⟨by omega,by rw[X7 (hf i rfl)];exact k2⟩
 ·exact .inr ⟨i,p,rfl,(h2.mono hn).frame fun _ _=>hf i rfl,h3⟩
theorem CT.cells   {e : TypeId} {s : AE}  {v : AV} {n sz : Nat} {cs : List AV} {O : List Nat} (h : CT   e s v n sz cs O) : ∃ a cap, v = .slice a n cap ∧ Ai      s.next s a cs := by
  rcases h with⟨a,rfl,h2,h3,h4,h5⟩ | ⟨i,p,rfl,h2,h3⟩
  · refine⟨a,_,rfl,fun k u hk=>?_⟩
    have hlt:k<cs.length:=by
      rcases fv k cs.length with h | h
      · exact h
      · rw[gH h]at hk;cases hk
    cases a with
    | none=>rw[h4 rfl]at h3;simp at h3;subst h3;simp at hlt
    | some io =>
      obtain⟨i,o⟩:=io
      obtain⟨k1,k2⟩:=h5 i o rfl
      refine⟨i,o,rfl,k1,?_⟩
      unfold Be at k2
      simp only[ft]at k2
      obtain⟨r,g1,g2⟩:=k2
      have g3:Nat.ble (o+n * sz) r.n=true∧r.c.take o (n * sz)=some cs:=by
        cases hb:Nat.ble (o+n * sz) r.n with
        | true=>rw[hb]at g2;exact⟨rfl,g2⟩
        | false=>rw[hb]at g2;cases g2
      have g4:o+n * sz≤r.n:=by simpa[fw]using g3.1
      have g5:=AB.take_get g3.2 k (by omega)
      rw[hk]at g5
      have g6:s.heap.get i=some (.row r):=by
        unfold rowAt at g1
        split at g1
        · injection g1 with g1;subst g1;assumption
        · cases g1
      exact GC g6 (by omega) g5
  · obtain⟨a,cap,e,hc⟩:=h2.cells
    exact⟨a,cap,e,hc⟩
theorem CT.append   {P : Program} {st xt e : TypeId} {sz by_ : Nat} (ht : P.underlying st = some (.slice e)) (hs : A2    P e = some sz) (hb : Cz     P e = some by_) (h0 : 0 < sz) (hx : Bs           P xt = true) (hz : Cm     P e sz = true) {s : AE}  {v : AV} {n : Nat} {cs : List AV} {O : List Nat} (h : CT   e s v n sz cs O)
    {ax:Option (Nat×Nat)} {m:Nat} {cx:Option Nat} {add:List AV} (hsrc:B0 P s e sz (.slice ax m cx)=some (m,add)) (ha:add.length=m * sz) (hc:Aq add=true) (h1:(n+m) * by_≤1099511627776) (h2:n+m≤1099511627776):
    ∃v' s' O',A7 P s [st,xt] [v,.slice ax m cx]=some (v',s')∧CT e s' v' (n+m) sz (cs++add) O'∧s.next≤s'.next∧s'.next≤s.next+1∧(∀j,j<s.next→j ∉ O→s'.heap.get j=s.heap.get j)∧(∀j∈O',j∈O∨s.next≤j)∧(∀j,C8 v'=some j→C8 v=some j∨s.next≤j):=by
  have hlen:=h.len
  rcases gq m with rfl | hm
  ·
    have hadd:add=[]:=by simp at ha;exact ha
    subst hadd
    rw[iC,gJ]
    rcases h with⟨a,rfl,rfl,h3,h4,h5⟩ | ⟨i,p,rfl,h6,h7⟩
    · refine ⟨.slice a n (some n), s, [], ?_, .inl ⟨a, rfl, rfl, h3, h4, h5⟩, fu          _, gZ          _, fun _ _ _ => rfl, fun j hj => (by cases hj), fun j hj => .inl hj⟩
      rw[DE ht hs hb h0 hx hsrc hc h1 h2]
      cases a with
      | none=>rw[h4 rfl];rfl
      | some io =>
        obtain⟨i,o⟩:=io
        simp only[appTo,Fa,gJ,Cy (fu n),cond_true,CE,Option.bind_some]
    · refine ⟨.slice (some (i, 0)) n none, s, O, ?_, .inr ⟨i, p, rfl, h6, h7⟩, fu          _, gZ          _, fun _ _ _ => rfl, fun j hj => .inl hj, fun j hj => .inl hj⟩
      rw[DE ht hs hb h0 hx hsrc hc h1 h2]
      rcases h6.ex with⟨e',_⟩ | ⟨_,k1,k2,k3,r,k4,k5,k6,k7,k8,k9⟩
      · cases e'
      · have hrow : rowAt s i = some r := by simp [rowAt, k4]
        have hrn:r.n=n * sz:=by rw[k5.1,h6.len]
        simp only[appTo,hrow,Option.bind_some,I2,k8,Gl rfl,AH,cond_true,gJ,gA]
        rw[show Nat.ble (n * sz) r.n=true from Cy (by omega)]
        simp only[cond_true,CE,Option.bind_some]
  · rcases h with ⟨a, rfl, rfl, h3, h4, h5⟩ | ⟨i, p, rfl, h6, h7⟩
    ·
      refine⟨.slice (some (s.next,0)) (n+m) none,newObj s (Ca e sz (AB.fill .leaf 0 (cs++add)) (cs++add).length none true),[s.next],?_,?_,gZ _,fu _,fun j hj _=>by rw[AO,if_neg (by omega)],fun j hj=>by simp at hj;right;omega,fun j hj=>by simp[C8]at hj;right;omega⟩
      · rw[DE ht hs hb h0 hx hsrc hc h1 h2]
        cases a with
        | none =>
          have hn0:=h4 rfl
          subst hn0
          have:cs=[]:=by simp at h3;exact h3
          subst this
          simp only[appTo,Dq (show m≠0 by omega),cond_false,B7,AH,hz,cond_true,List.nil_append,gA]
        | some io =>
          obtain⟨i,o⟩:=io
          obtain⟨k1,k2⟩:=h5 i o rfl
          simp only[appTo,Fa,MB (show n<n+m by omega),cond_false,k2,Option.bind_some,B7,AH,hz,cond_true]
      · refine .inr ⟨s.next,none,rfl,⟨by rw[gI,h3,ha,gQ],.inr ⟨rfl,gF _,gY _,fun q hq=>(by cases hq),_,by rw[AO,if_pos rfl];rfl,⟨rfl,?_⟩,rfl,rfl,rfl,rfl,rfl⟩⟩,rfl⟩
        intro k u hk
        have hlt:k<(cs++add).length:=by
          rcases fv k (cs++add).length with h' | h'
          · exact h'
          · rw[gH h']at hk;cases hk
        show(AB.fill .leaf 0 (cs++add)).get k=some u
        rw[AB.get_fill,if_pos ⟨gF _,by omega⟩]
        simpa using hk
    · obtain⟨a,cap,v',s',e1,e2,i',p',g1,g2,g3,g4,g5,g6,_⟩:=h6.appTo (fu _) (gF _) hz h0 ha hm
      injection e1 with e1 e3 e4
      subst e1;subst e4
      have hv':v'=.slice (some (i',0)) (n+m) none:=by
        rcases g1.ex with⟨_,e⟩ | ⟨e,_⟩
        · omega
        · exact e
      refine⟨v',s',i'::p'.toList,?_,.inr ⟨i',p',hv',g1,rfl⟩,g2.1,by omega,?_,?_,?_⟩
      · rw[DE ht hs hb h0 hx hsrc hc h1 h2]
        exact e2
      · intro j hj hO
        subst h7
        refine g2.2 j hj (fun e=>hO (by simp[e])) (fun e=>hO (by simp[e]))
      · intro j hj
        subst h7
        rcases hZ.1 hj with rfl | hj
        · right;omega
        · rcases g5 with rfl | rfl
          · cases hj
          · simp at hj;left;simp[hj]
      · intro j hj
        rw[hv']at hj
        simp[C8]at hj
        right;omega
theorem NB{P:Program}{e:TypeId}{s:AE}{i:Nat}{cs:List AV}{n:Nat}{cap:Option Nat}{sz:Nat}(ty:TypeId)(z:Nat)(hg:s.heap.get i=some (Fu ty z cs))(hl:cs.length=n * sz):B0 P s e sz (.slice (some (i,0)) n cap)=some (n,cs):=by
 obtain⟨r,h1,h2,_⟩:=Nq ty z cs
 rw[h1]at hg
 have:=Fs hg h2 0 cs (by omega) (fun j u hj=>by simpa using hj)
 rw[hl]at this
 simp[B0,Tg this]
section
variable{P:Program}{s:AE}{os:List AX}{b k i o off n t e sz:Nat}{sp:Bool}{cs vs:List AV}
theorem Xg(cs:List AV):(AV.agg cs).cells=cs:=rfl
theorem Xm(a:Option (Nat×Nat))(n:Nat)(c:Option Nat):(AV.slice a n c).cells=[.slice a n c]:=rfl
theorem Xn(f:FuncId)(a c:List AV):(AV.func f a c).cells=[.func f a c]:=rfl
theorem ZV(a b:Nat):Nat.beq a b=decide (a=b):=by
 rw[Bool.eq_iff_iff,decide_eq_true_eq,gu]
theorem We(h:EM P t=some false):AF P s t (.ptr (some (i,o)))=LN (s.heap.get i) o:=by
 unfold AF
 rw[h];rfl
theorem Wf(h:EM P t=some true):AF P s t (.ptr (some (i,o)))=(A2 P t).bind fun n=>(J6 (s.heap.get i) o n).bind fun l=>some (.agg l):=by
 unfold AF
 rw[h];rfl
theorem Wg(v:AV):AZ P s t (.ptr (some (i,o))) v=(A2 P t).bind fun n=>AH (decide (v.cells.length=n)) (CE s i o v.cells):=by
 unfold AZ
 simp only[ZV]
theorem Wz(e:TypeId)(v:AV):Cr e v=some (R e 0 false v.cells,.ptr):=rfl
theorem Xa(e:TypeId):Ar P e=(DW P e).bind fun z=>some (R e 0 false z.cells,.ptr):=rfl
theorem Xb(i:Nat):Made.ptr.val i=.ptr (some (i,0)):=rfl
theorem Xd(i n:Nat):(Made.slice n).val i=.slice (some (i,0)) n (some n):=rfl
end
abbrev AT(n:Nat):AV:=.int .u64 (n:Int)
abbrev BO(n:Nat):AV:=.int .u32 (n:Int)
theorem Kr{n:Nat}(h:n<18446744073709551616):CN .u64 (n:Int)=(n:Int):=Kq (by simp only[BY,fw];omega)
theorem Ek(n:Int):IntKind.wrap .u64 n=n % 18446744073709551616:=by
 simp[IntKind.wrap,IntKind.signed,IntKind.bits]
theorem LM(n:Int):IntKind.wrap .u32 n=n % 4294967296:=by
 simp[IntKind.wrap,IntKind.signed,IntKind.bits]
theorem Tr(n:Int):CN .u64 n=n % 18446744073709551616:=by
 unfold CN
 cases h:BY .u64 n with
 | true =>
  cases n with
  | ofNat m =>
   simp only[BY,fw]at h
   simp only[cond_true]
   rw[show Int.ofNat m=(m:Int)from rfl]
   omega
  | negSucc m=>cases h
 | false=>exact Ek n
theorem Tq(n:Int):CN .u32 n=n % 4294967296:=by
 unfold CN
 cases h:BY .u32 n with
 | true =>
  cases n with
  | ofNat m =>
   simp only[BY,fw]at h
   simp only[cond_true]
   rw[show Int.ofNat m=(m:Int)from rfl]
   omega
  | negSucc m=>cases h
 | false=>exact LM n
section
variable(P:Program)(t:TypeId){a b:Nat}
theorem F4(h:a+b<18446744073709551616):AN P .add t (AT a) (AT b)=some (AT (a+b)):=by
 show some (AV.int .u64 (CN .u64 ((a:Int)+(b:Int))))=_
 rw[← Int.natCast_add,Kr h]
theorem Om(h:a * b<18446744073709551616):AN P .mul t (AT a) (AT b)=some (AT (a * b)):=by
 show some (AV.int .u64 (CN .u64 ((a:Int) * (b:Int))))=_
 rw[← Int.natCast_mul,Kr h]
theorem Lq(hb:b≤18446744073709551616):AN P .sub t (AT a) (AT b)=some (AT ((a+18446744073709551616 - b) % 18446744073709551616)):=by
 show some (AV.int .u64 (CN .u64 ((a:Int) - (b:Int))))=_
 rw[Tr]
 congr 2
 omega
theorem fN(k:IntKind):AN P .lss t (.int k (a:Int)) (.int k (b:Int))=some (.bool (decide (a<b))):=by
 have:∀k,Bn k k=true:=fun k=>by cases k<;>rfl
 show AH (Bn k k) (some (AV.bool (Kw (a:Int) (b:Int))))=_
 rw[this,CV]
 simp[AH]
theorem Lo(k:IntKind):AN P .gtr t (.int k (a:Int)) (.int k (b:Int))=some (.bool (decide (b<a))):=by
 have:∀k,Bn k k=true:=fun k=>by cases k<;>rfl
 show AH (Bn k k) (some (AV.bool (Kw (b:Int) (a:Int))))=_
 rw[this,CV]
 simp[AH]
theorem cM(k:IntKind):AN P .eql t (.int k (a:Int)) (.int k (b:Int))=some (.bool (decide (a=b))):=by
 have:∀k,Bn k k=true:=fun k=>by cases k<;>rfl
 show AH (Bn k k) (some (AV.bool (Ma (a:Int) (b:Int))))=_
 rw[this,EW]
 simp only[AH,cond_true]
 congr 2
 by_cases h:a=b
 ·subst h;simp
 ·have:(a:Int)≠b:=by omega
  simp[h,this]
theorem ZC(ha:a<18446744073709551616)(hb:b≠0):AN P .quo t (AT a) (AT b)=some (AT (a / b)):=by
 show(C7 P (Op.intDiv .quo .u64 (a:Int) (b:Int))).bind ofValue=_
 have hb':¬ ((b:Int)=0):=by omega
 unfold Op.intDiv
 rw[if_neg hb']
 show some (AV.int .u64 (IntKind.wrap .u64 ((a:Int).tdiv (b:Int))))=_
 rw[Ek,show(a:Int).tdiv (b:Int)=((a / b:Nat):Int)from rfl]
 congr 2
 have:a / b≤a:=iR a b
 generalize a / b=q at this
 omega
theorem ZD(hb:b≠0):AN P .rem t (AT a) (AT b)=some (AT (a % b)):=by
 show(C7 P (Op.intDiv .rem .u64 (a:Int) (b:Int))).bind ofValue=_
 have hb':¬ ((b:Int)=0):=by omega
 unfold Op.intDiv
 rw[if_neg hb']
 show some (AV.int .u64 ((a:Int).tmod (b:Int)))=_
 rfl
theorem Ho{k:IntKind}{n:Nat}(hn:n≤64):AN P .shr t (AT a) (.int k (n:Int))=some (AT (a / 2 ^ n)):=by
 show(C7 P (Op.shift .shr .u64 (a:Int) k (n:Int))).bind ofValue=_
 unfold Op.shift
 rw[if_neg (by omega)]
 show some (AV.int .u64 ((a:Int).fdiv (2 ^ min (n:Int).toNat 64)))=_
 rw[show min (n:Int).toNat 64=n by omega]
 congr 2
 rw[show((2:Int) ^ n)=((2 ^ n:Nat):Int) by push_cast;rfl]
 exact(Int.ofNat_fdiv a (2 ^ n)).symm
theorem Lp{k:IntKind}{n:Nat}(hn:n≤64)(h:a * 2 ^ n<18446744073709551616):AN P .shl t (AT a) (.int k (n:Int))=some (AT (a * 2 ^ n)):=by
 show(C7 P (Op.shift .shl .u64 (a:Int) k (n:Int))).bind ofValue=_
 unfold Op.shift
 rw[if_neg (by omega)]
 show some (AV.int .u64 (IntKind.wrap .u64 ((a:Int) * 2 ^ min (n:Int).toNat 64)))=_
 rw[show min (n:Int).toNat 64=n by omega,Ek]
 congr 2
 rw[show(a:Int) * 2 ^ n=((a * 2 ^ n:Nat):Int) by push_cast;rfl]
 omega
theorem It(h:a<18446744073709551616):AN P .and t (AT a) (.int .u64 4294967295)=some (AT (a % 4294967296)):=by
 show(C7 P (Op.intBits .and .u64 (a:Int) 4294967295)).bind ofValue=_
 show some (AV.int .u64 (IntKind.wrap .u64 ((BitVec.ofInt 64 (a:Int) &&& BitVec.ofInt 64 4294967295).toNat:Int)))=_
 rw[Ek]
 congr 2
 have:(BitVec.ofInt 64 (a:Int) &&& BitVec.ofInt 64 4294967295).toNat=a % 4294967296:=by
  rw[BitVec.ofInt_natCast,show BitVec.ofInt 64 4294967295=BitVec.ofNat 64 4294967295 from(by decide),BitVec.toNat_and,BitVec.toNat_ofNat,BitVec.toNat_ofNat]
  rw[gT (show a<2 ^ 64 by omega),show 4294967295 % 2 ^ 64=2 ^ 32 - 1 by decide,Nat.and_two_pow_sub_one_eq_mod]
 rw[this]
 omega
theorem bX(h:a * 4294967296+b<18446744073709551616)(hb:b<4294967296):AN P .or t (AT (a * 4294967296)) (AT b)=some (AT (a * 4294967296+b)):=by
 show(C7 P (Op.intBits .or .u64 ((a * 4294967296:Nat):Int) (b:Int))).bind ofValue=_
 show some (AV.int .u64 (IntKind.wrap .u64 ((BitVec.ofInt 64 ((a * 4294967296:Nat):Int) ||| BitVec.ofInt 64 (b:Int)).toNat:Int)))=_
 rw[Ek]
 congr 2
 have:(BitVec.ofInt 64 ((a * 4294967296:Nat):Int) ||| BitVec.ofInt 64 (b:Int)).toNat=a * 4294967296+b:=by
  rw[BitVec.ofInt_natCast,BitVec.ofInt_natCast,BitVec.toNat_or,BitVec.toNat_ofNat,BitVec.toNat_ofNat]
  have e64:(2:Nat) ^ 64=18446744073709551616:=by decide
  have e32:(2:Nat) ^ 32=4294967296:=by decide
  have h1:a * 4294967296<18446744073709551616:=gm (Nat.le_add_right _ _) h
  have h2:b<18446744073709551616:=Nat.lt_trans hb (by decide)
  rw[e64,gT h1,gT h2]
  have h3:b<2 ^ 32:=by rw[e32];exact hb
  have:=Nat.two_pow_add_eq_or_of_lt h3 a
  rw[e32,gD]at this
  exact this.symm
 rw[this]
 have h5:((a * 4294967296+b:Nat):Int)<18446744073709551616:=Int.ofNat_lt.2 h
 exact Int.emod_eq_of_lt (Int.natCast_nonneg _) h5
end
def Hr(e:TypeId)(sz:Nat)(s:AE)(v:AV)(n:Nat)(cs:List AV)(O:List Nat):Prop:=
 (v=.slice none 0 (some 0)∧n=0∧cs=[]∧O=[])∨∃i p,v=.slice (some (i,0)) n none∧FX e 0 s.next s v n sz cs i p∧O=i::p.toList
section
variable{e sz n:Nat}{s s':AE}{v:AV}{cs:List AV}{O:List Nat}
theorem Hr.nil(e sz:Nat)(s:AE):Hr e sz s (.slice none 0 (some 0)) 0 [] []:=.inl ⟨rfl,rfl,rfl,rfl⟩
theorem Hr.lt  (h : Hr  e sz s v n cs O) : ∀ j ∈ O, j < s.next := by
  rcases h with⟨_,_,_,rfl⟩ | ⟨i,p,hv,h,rfl⟩
  · intro j hj;cases hj
  · rcases h.ex with ⟨h1, _⟩ | ⟨_, _, h2, h3, _⟩
    · rw[hv]at h1;cases h1
    · intro j hj
      rcases hZ.1 hj with rfl | hj
      · exact h2
      · cases p with
        | none=>cases hj
        | some q=>simp at hj;subst hj;exact(h3 _ rfl).2.1
theorem Hr.frame(h:Hr e sz s v n cs O)(hn:s.next≤s'.next)(hf:∀j∈O,s'.heap.get j=s.heap.get j):Hr e sz s' v n cs O:=by
 rcases h with h | ⟨i,p,hv,h,rfl⟩
 ·exact .inl h
 ·exact .inr ⟨i,p,hv,(h.mono hn).frame fun _ _=>hf i (by simp),rfl⟩
theorem Hr.slice(h:Hr e sz s v n cs O):∃a cap,v=.slice a n cap∧Ai s.next s a cs:=by
 rcases h with⟨rfl,rfl,rfl,_⟩ | ⟨i,p,_,h,_⟩
 ·exact⟨none,some 0,rfl,Ai.nil⟩
 ·exact h.cells
theorem Hr.append  {P : Program} {st xt by_ : Nat} (ht : P.underlying st = some (.slice e)) (hs : A2    P e = some sz) (hb : Cz     P e = some by_) (h0 : 0 < sz) (hx : Bs           P xt = true) (hz : Cm     P e sz = true) (h : Hr  e sz s v n cs O)
    {ax:Option (Nat×Nat)} {m:Nat} {cx:Option Nat} {add:List AV} (hm:0<m) (hsrc:B0 P s e sz (.slice ax m cx)=some (m,add)) (ha:add.length=m * sz) (hc:Aq add=true) (h1:(n+m) * by_≤1099511627776) (h2:n+m≤1099511627776):
    ∃v' s' O',A7 P s [st,xt] [v,.slice ax m cx]=some (v',s')∧Hr e sz s' v' (n+m) (cs++add) O'∧s'.next=s.next+1∧(∀j,j<s.next→j ∉ O→s'.heap.get j=s.heap.get j)∧(∀j∈O',j∈O∨s.next≤j)∧C8 v'=some s.next:=by
  have key:∀ (i:Nat) (p:Option Nat),FX e 0 s.next s v n sz cs i p→(∀j,j<s.next→j ∉ O→j≠i∧p≠some j)→(∀j,j=i∨p=some j→j∈O∨s.next≤j) →
      ∃v' s' O',A7 P s [st,xt] [v,.slice ax m cx]=some (v',s')∧Hr e sz s' v' (n+m) (cs++add) O'∧s'.next=s.next+1∧(∀j,j<s.next→j ∉ O→s'.heap.get j=s.heap.get j)∧(∀j∈O',j∈O∨s.next≤j)∧C8 v'=some s.next:=by
    intro i p hg hi hO
    obtain⟨a,cap,v',s',rfl,happ,i',p',hg',hap,_,rfl,hp',hn',_⟩:=hg.appTo (P:=P) (fu _) (gF _) hz h0 ha hm
    have hv':v'=.slice (some (s.next,0)) (n+m) none:=by
      rcases hg'.ex with⟨_,h0'⟩ | ⟨h1',_⟩
      · omega
      · exact h1'
    refine⟨v',s',s.next::p'.toList,by rw[DE ht hs hb h0 hx hsrc hc h1 h2];exact happ,.inr ⟨s.next,p',hv',hg',rfl⟩,hn',fun j hj hjO=>?_,fun j hj=>?_,by rw[hv'];rfl⟩
    · exact hap.2 j hj (hi j hj hjO).1 (hi j hj hjO).2
    · rcases hZ.1            hj with rfl | hj
      · exact .inr (fu _)
      · rcases hp' with rfl | rfl
        · cases hj
        · simp at hj;subst hj;exact hO _ (.inl rfl)
  rcases h with⟨rfl,rfl,rfl,rfl⟩ | ⟨i,p,rfl,hg,rfl⟩
  · exact key s.next none (FX.zero _ _ _ _ _ _ _) (fun j hj _=>⟨by omega,by simp⟩) (fun j hj=>by rcases hj with rfl | hj;exact .inr (fu _);cases hj)
  · refine key i p hg (fun j hj hjO => ⟨fun e => hjO (by simp [e]), fun e => hjO (by simp [e])⟩) (fun j hj => ?_)
    rcases hj with rfl | rfl<;>simp
end
section
variable{P:Program}{s:AE}{i e sz o t:Nat}{sp:Bool}{cs:List AV}{v:AV}
theorem Cf(hs:A2 P t=some 1)(hg:s.heap.get i=some (R e sz sp cs))(ho:o<cs.length)(hv:v.isCell=true):
  AZ P s t (.ptr (some (i,o))) v=some (setObj s i (R e sz sp (cs.set o v))):=by
 have hc:v.cells=[v]:=by cases v<;>first | rfl | cases hv
 have hl:Aq [v]=true:=by simp[Aq,hv]
 rw[Wg,hs,hc]
 have:=Of (off:=o) (vs:=[v]) hg (by show o+1≤cs.length;omega) hl
 show AH (decide (1=1)) (CE s i o [v])=_
 rw[this]
 rfl
theorem Ae(ht:EM P t=some false)(hg:s.heap.get i=some (R e sz sp cs))(hk:cs[o]? = some v):AF P s t (.ptr (some (i,o)))=some v:=by
 rw[We ht,hg,Wn,hk]
theorem MW(hg:s.heap.get i=some (R e sz sp cs)){b:Nat}(hi:i<b):Ai b s (some (i,0)) cs:=fun k u hu=>⟨i,0,rfl,hi,by rw[ak,hg,Wn,gA];exact hu⟩
end
def us(l:List Nat):List AV:=l.map BO
theorem CM(l:List Nat):(us l).length=l.length:=by simp[us]
theorem DB{l:List Nat}{k x:Nat}(h:l[k]? = some x):(us l)[k]? = some (BO x):=by simp[us,h]
theorem Lr(a b:List Nat):us (a++b)=us a++us b:=by simp[us]
theorem IS(l:List Nat)(k x:Nat):(us l).set k (BO x)=us (l.set k x):=by simp[us,List.map_set]
theorem Sm(l:List Nat)(k:Nat):us (l.take k)=(us l).take k:=by simp[us,List.map_take]
theorem ao{o:Option AX}:∀ (l:List AV)(off:Nat),(∀j u,l[j]? = some u→LN o (off+j)=some u)→l≠[]→J6 o off l.length=some l:=by
 intro l off h h0
 obtain⟨r,hr⟩:∃r,Ys o=some r:=by
  cases l with
  | nil=>exact absurd rfl h0
  | cons a l =>
   have:=h 0 a rfl
   unfold LN at this
   cases hr:Ys o with
   | none=>rw[hr]at this;cases this
   | some r=>exact⟨r,rfl⟩
 have hg:∀j u,l[j]? = some u→off+j<r.n∧r.c.get (off+j)=some u:=fun j u hj=>by
  have:=h j u hj
  unfold LN at this
  rw[hr,Option.bind_some]at this
  obtain⟨g1,g2⟩:=AA this
  exact⟨by simpa[gE]using g1,g2⟩
 have ht:∀ (m:List AV) (k:Nat),(∀j u,m[j]? = some u→r.c.get (k+j)=some u)→r.c.take k m.length=some m:=by
  intro m
  induction m with
  | nil=>intro k _;simp[AB.take]
  | cons a m ih =>
   intro k hk
   have h1:=hk 0 a rfl
   rw[gJ]at h1
   simp only[gh,AB.take,h1,ih (k+1) fun j u hj=>by rw[show k+1+j=k+(j+1)from by omega];exact hk (j+1) u hj]
 unfold J6
 rw[hr,Option.bind_some,ht l off fun j u hj=>(hg j u hj).2]
 have hl:off+l.length≤r.n:=by
  cases hz:l.getLast? with
  | none=>exact absurd (List.getLast?_eq_none_iff.1 hz) h0
  | some u =>
   have hlen:0<l.length:=List.length_pos_iff.2 h0
   have:=(hg (l.length - 1) l[l.length - 1] (f9 (by omega))).1
   omega
 have:Nat.ble (off+l.length) r.n=true:=by rw[fw];exact hl
 rw[this];rfl
def B3(s:AE)(i:Nat)(cs:List AV)(p:Option Nat):Prop:=∃r,s.heap.get i=some (.row r)∧JM r cs∧CS r.mode=true∧r.sz=1∧(r.par=none∨r.par=p)
theorem B3.keep{s s':AE}{i:Nat}{cs:List AV}{p:Option Nat}(h:B3 s i cs p)(k:s'.heap.get i=s.heap.get i):B3 s' i cs p:=by
 obtain⟨r,h1,h2⟩:=h
 exact⟨r,k.trans h1,h2⟩
theorem B3.of_R{s:AE}{i e:Nat}{sp:Bool}{cs:List AV}(h:s.heap.get i=some (R e 1 sp cs)):B3 s i cs none:=
 ⟨{ elem:=e,sz:=1,n:=cs.length,c:=Sb cs,spare:=sp,mode:=.own,par:=none,bytes:=true },h,⟨rfl,fun k u hk=>by
  show(Sb cs).get k=_
  rw[Mv];exact hk⟩,rfl,rfl,.inl rfl⟩
theorem Ft{P:Program}{s:AE}{i o t:Nat}{cs:List AV}{p:Option Nat}{v:AV}(ht:EM P t=some false)(h:B3 s i cs p)(hk:cs[o]? = some v):AF P s t (.ptr (some (i,o)))=some v:=by
 obtain⟨r,h1,h2,_⟩:=h
 have ho:o<cs.length:=by
  rcases fv o cs.length with h' | h'
  ·exact h'
  ·rw[gH h']at hk;cases hk
 exact B9 ht (GC h1 (by rw[h2.1];exact ho) (h2.2 o v hk))
theorem H0{s:AE}{i:Nat}{cs:List AV}{p:Option Nat}(h:B3 s i cs p){b:Nat}(hi:i<b):Ai b s (some (i,0)) cs:=fun k u hu=>by
 obtain⟨r,h1,h2,_⟩:=h
 have ho:k<cs.length:=by
  rcases fv k cs.length with h' | h'
  ·exact h'
  ·rw[gH h']at hu;cases hu
 exact⟨i,0,rfl,hi,GC h1 (by rw[h2.1];omega) (by rw[gA];exact h2.2 k u hu)⟩
theorem DL        {P : Program} {s : AE}  {i o t : Nat} {cs : List AV} {p : Option Nat} {v : AV} (hs : A2    P t = some 1) (h : B3   s i cs p) (ho : o < cs.length) (hv : v.isCell = true) :
    ∃s',AZ P s t (.ptr (some (i,o))) v=some s'∧B3 s' i (cs.set o v) p∧s'.next=s.next∧∀j,j≠i→some j≠p→s'.heap.get j=s.heap.get j:=by
  obtain⟨r,h1,h2,h3,h4,h5⟩:=h
  have hc:v.cells=[v]:=by cases v<;>first | rfl | cases hv
  have hrow:rowAt s i=some r:=by unfold rowAt;rw[h1]
  have hb:Nat.ble (o+1) r.n=true:=Cy (by rw[h2.1];omega)
  have hal:Aq [v]=true:=by simp[Aq,hv]
  have est:AZ P s t (.ptr (some (i,o))) v=some (setObj (BC s i r) i (.row { r with c:=r.c.fill o [v],par:=none })):=by
    rw[Wg,hs,hc]
    show AH (decide (1=1)) (CE s i o [v])=_
    show(rowAt s i).bind _=_
    rw[hrow]
    show AH (CS r.mode && Nat.ble (o+1) r.n && Aq [v]) _=_
    rw[h3,hb,hal]
    rfl
  have hun:(BC s i r).next=s.next∧∀j,some j≠p→(BC s i r).heap.get j=s.heap.get j:=by
    unfold BC
    rcases h5 with h5 | h5
    · rw[h5];exact⟨rfl,fun j _=>rfl⟩
    · rw[h5]
      cases p with
      | none=>exact⟨rfl,fun j _=>rfl⟩
      | some q =>
        simp only
        cases hbq:Nat.beq q i with
        | true=>exact⟨rfl,fun j _=>rfl⟩
        | false =>
          refine⟨rfl,fun j hj=>?_⟩
          show(Bu s q).heap.get j=_
          rw[HO,if_neg]
          intro e
          exact hj (by rw[e])
  refine⟨_,est,⟨{ r with c:=r.c.fill o [v],par:=none },Wv _ _ _,⟨by show r.n=_;rw[h2.1,iA],fun k u hu=>?_⟩,h3,h4,.inl rfl⟩,hun.1,fun j hj hjp=>(Ww _ hj).trans (hun.2 j hjp)⟩
  show(r.c.fill o [v]).get k=some u
  rw[AB.get_fill]
  by_cases hk:k=o
  · subst hk
    rw[iQ ho]at hu
    rw[if_pos ⟨fu _,by simp⟩,Nat.sub_self]
    exact hu
  · rw [gy                   (Ne.symm hk)] at hu
    rw[if_neg (by simp;omega)]
    exact h2.2 k u hu
structure CY(s s':AE)(i:Nat)(p:Option Nat):Prop where
 next:s'.next=s.next
 get:∀j,j≠i→some j≠p→s'.heap.get j=s.heap.get j
theorem CY.refl(s:AE)(i:Nat)(p:Option Nat):CY s s i p:=⟨rfl,fun _ _ _=>rfl⟩
theorem CY.step{s s' s2:AE}{i:Nat}{p:Option Nat}(h:CY s s' i p)(h1:s2.next=s'.next)(h2:∀j,j≠i→some j≠p→s2.heap.get j=s'.heap.get j):CY s s2 i p:=⟨h1.trans h.next,fun j hj hp=>(h2 j hj hp).trans (h.get j hj hp)⟩
end
end Go.Proofs.YtfgmceookgelcaaGreatDoor.Am
set_option linter.unusedVariables false
set_option linter.unusedSimpArgs false
set_option maxRecDepth 100000
namespace Go.Proofs.YtfgmceookgelcaaGreatDoor.Am
open Go Go.Proofs
noncomputable section
theorem Ox:EM Tryz.prog 4=some false:=by kernel_rfl
theorem dY:A2 Tryz.prog 59=some 1:=by kernel_rfl
theorem D7:EM Tryz.prog 59=some false:=by kernel_rfl
theorem Bj:A2 Tryz.prog 203=some 1:=by kernel_rfl
theorem NZ:Cz Tryz.prog 203=some 4:=by kernel_rfl
theorem EO:EM Tryz.prog 203=some false:=by kernel_rfl
theorem fQ:DW Tryz.prog 203=some (.int .u32 (0)):=by kernel_rfl
theorem Oi:A2 Tryz.prog 205=some 1:=by kernel_rfl
theorem NO:EM Tryz.prog 205=some false:=by kernel_rfl
def PG:List AC:=[
 ⟨none,.p1 some,[(.const (.slice none 0 (some 0)))],(.set 1),[]⟩]
def PH:List AC:=[
 ⟨none,.r (fun s l=>match l with | [x]=>Bk Tryz.prog s 59 x | _=>none),[.var 0],.push,[]⟩,
 ⟨none,.p1 some,[.loc 0],(.set 2),[]⟩]
def MI:List AC:=[
 ⟨none,.p2 (AN Tryz.prog .gtr 3),[(.var 2),(.const (.int .i64 (0)))],.push,[]⟩,
 ⟨(some ((.loc 0),true)),.p1 some,[.var 0],.push,[]⟩,
 ⟨(some ((.loc 1),true)),.p1 some,[.var 2],.push,[]⟩,
 ⟨(some ((.loc 2),true)),.p2 (AN Tryz.prog .sub 3),[(.loc 0),(.const (.int .i64 (1)))],.push,[]⟩,
 ⟨(some ((.loc 3),true)),.p2 (AQ Tryz.prog 59),[.loc 2,.loc 0],.push,[]⟩,
 ⟨(some ((.loc 4),true)),.r1 (fun s a=>AF Tryz.prog s 203 a),[.loc 0],.push,[]⟩,
 ⟨(some ((.loc 5),true)),.p2 (AN Tryz.prog .eql 203),[(.loc 0),(.const (.int .u32 (0)))],.push,[]⟩,
 ⟨none,.p Rt,[(.loc 6),(.loc 0),(.const (.bool false))],(.set 3),[]⟩]
def Up:List AC:=[
 ⟨none,.p1 some,[.var 2],.push,[]⟩,
 ⟨none,.p2 (AN Tryz.prog .sub 3),[(.loc 0),(.const (.int .i64 (1)))],.push,[]⟩,
 ⟨none,.p1 some,[.loc 0],(.set 2),[]⟩]
def Hv:Ab:=(.seq (.seq (.ops MI) (.cond (.var 3)
 .skip
 (.exit 0))) (.block 1 (.ops Up)))
def PI:List AC:=[
 ⟨none,.r (Bg Tryz.prog 59 false true false),[.var 0,.var 2],.push,[]⟩,
 ⟨none,.call 242,[.loc 0],.push,[]⟩,
 ⟨none,.p1 some,[.loc 0],(.set 1),[]⟩]
def cW:Ay:=⟨1,4,(.seq (.ops PG) (.seq (.ops PH) (.seq (.block 0 (.loop Hv)) (.seq (.ops PI) .ret)))),[((.var 1),none)]⟩
def MP:List AC:=[
 ⟨none,.p1 some,[(.const (.slice none 0 (some 0)))],(.set 1),[]⟩]
def MQ:List AC:=[
 ⟨none,.p2 (AN Tryz.prog .eql 59),[(.var 0),(.const (.slice none 0 (some 0)))],(.set 2),[]⟩]
def PX:List AC:=[
 ⟨none,.p1 some,[(.const (.slice none 0 (some 0)))],(.set 1),[]⟩]
def Vw:List AC:=[
 ⟨none,.mk (fun l=>(Ak Tryz.prog 59 0 (zipIdx [] l)).bind fun r=>some (r,.slice 0)),[],.push,[]⟩,
 ⟨none,.e (fun s l=>A7 Tryz.prog s [59,59] l),[.loc 0,.var 0],.push,[]⟩,
 ⟨none,.p1 some,[.loc 0],(.set 1),[]⟩]
def Ze:Ay:=⟨1,3,(.seq (.ops MP) (.seq (.seq (.ops MQ) (.cond (.var 2)
 (.seq (.ops PX) .ret)
 .skip)) (.seq (.ops Vw) .ret))),[((.var 1),none)]⟩
def UV:List AC:=[
 ⟨none,.p1 some,[(.const (.slice none 0 (some 0)))],(.set 1),[]⟩]
def UW:List AC:=[
 ⟨none,.p2 (AN Tryz.prog .and 205),[(.var 0),(.const (.int .u64 (4294967295)))],.push,[]⟩,
 ⟨none,.r1 (fun s x=>Af Tryz.prog s 205 203 x),[.loc 0],.push,[]⟩,
 ⟨none,.p2 (AN Tryz.prog .shr 205),[(.var 0),(.const (.int .u64 (32)))],.push,[]⟩,
 ⟨none,.r1 (fun s x=>Af Tryz.prog s 205 203 x),[.loc 0],.push,[]⟩,
 ⟨none,.mk (fun l=>(Ak Tryz.prog 59 2 (zipIdx [0,1] l)).bind fun r=>some (r,.slice 2)),[.loc 2,.loc 0],.push,[]⟩,
 ⟨none,.call 208,[.loc 0],.push,[]⟩,
 ⟨none,.p1 some,[.loc 0],(.set 1),[]⟩]
def eE:Ay:=⟨1,2,(.seq (.ops UV) (.seq (.ops UW) .ret)),[((.var 1),none)]⟩
def Uq:List AC:=[
 ⟨none,.p1 some,[(.const (.int .i64 (0)))],(.set 2),[]⟩]
def Ur:List AC:=[
 ⟨none,.p1 some,[.var 0],.push,[]⟩,
 ⟨none,.call 208,[.loc 0],.push,[]⟩,
 ⟨none,.p1 some,[.var 1],.push,[]⟩,
 ⟨none,.call 208,[.loc 0],.push,[]⟩,
 ⟨none,.p1 some,[.loc 2],(.set 0),[]⟩,
 ⟨none,.p1 some,[.loc 0],(.set 1),[]⟩]
def MK:List AC:=[
 ⟨none,.r (fun s l=>match l with | [x]=>Bk Tryz.prog s 59 x | _=>none),[.var 0],.push,[]⟩,
 ⟨none,.r (fun s l=>match l with | [x]=>Bk Tryz.prog s 59 x | _=>none),[.var 1],.push,[]⟩,
 ⟨none,.p2 (AN Tryz.prog .lss 3),[.loc 1,.loc 0],.push,[]⟩,
 ⟨none,.p1 some,[.loc 0],(.set 4),[]⟩]
def Us:List AC:=[
 ⟨none,.p1 some,[(.const (.int .i64 (-1)))],(.set 2),[]⟩]
def PJ:List AC:=[
 ⟨none,.r (fun s l=>match l with | [x]=>Bk Tryz.prog s 59 x | _=>none),[.var 0],.push,[]⟩,
 ⟨none,.r (fun s l=>match l with | [x]=>Bk Tryz.prog s 59 x | _=>none),[.var 1],.push,[]⟩,
 ⟨none,.p2 (AN Tryz.prog .gtr 3),[.loc 1,.loc 0],.push,[]⟩,
 ⟨none,.p1 some,[.loc 0],(.set 5),[]⟩]
def Ut:List AC:=[
 ⟨none,.p1 some,[(.const (.int .i64 (1)))],(.set 2),[]⟩]
def Uu:List AC:=[
 ⟨none,.r (fun s l=>match l with | [x]=>Bk Tryz.prog s 59 x | _=>none),[.var 0],.push,[]⟩,
 ⟨none,.p2 (AN Tryz.prog .sub 3),[(.loc 0),(.const (.int .i64 (1)))],.push,[]⟩,
 ⟨none,.p1 some,[.loc 0],(.set 3),[]⟩]
def Ja:List AC:=[
 ⟨none,.p2 (AN Tryz.prog .geq 3),[(.var 3),(.const (.int .i64 (0)))],(.set 6),[]⟩]
def ML:List AC:=[
 ⟨none,.p2 (AQ Tryz.prog 59),[.var 0,.var 3],.push,[]⟩,
 ⟨none,.r1 (fun s a=>AF Tryz.prog s 203 a),[.loc 0],.push,[]⟩,
 ⟨none,.p2 (AQ Tryz.prog 59),[.var 1,.var 3],.push,[]⟩,
 ⟨none,.r1 (fun s a=>AF Tryz.prog s 203 a),[.loc 0],.push,[]⟩,
 ⟨none,.p2 (AN Tryz.prog .lss 203),[.loc 2,.loc 0],.push,[]⟩,
 ⟨none,.p1 some,[.loc 0],(.set 7),[]⟩]
def Uv:List AC:=[
 ⟨none,.p1 some,[(.const (.int .i64 (-1)))],(.set 2),[]⟩]
def MJ:List AC:=[
 ⟨none,.p2 (AQ Tryz.prog 59),[.var 0,.var 3],.push,[]⟩,
 ⟨none,.r1 (fun s a=>AF Tryz.prog s 203 a),[.loc 0],.push,[]⟩,
 ⟨none,.p2 (AQ Tryz.prog 59),[.var 1,.var 3],.push,[]⟩,
 ⟨none,.r1 (fun s a=>AF Tryz.prog s 203 a),[.loc 0],.push,[]⟩,
 ⟨none,.p2 (AN Tryz.prog .gtr 203),[.loc 2,.loc 0],.push,[]⟩,
 ⟨none,.p1 some,[.loc 0],(.set 8),[]⟩]
def RU:List AC:=[
 ⟨none,.p1 some,[(.const (.int .i64 (1)))],(.set 2),[]⟩]
def RV:List AC:=[
 ⟨none,.p1 some,[.var 3],.push,[]⟩,
 ⟨none,.p2 (AN Tryz.prog .sub 3),[(.loc 0),(.const (.int .i64 (1)))],.push,[]⟩,
 ⟨none,.p1 some,[.loc 0],(.set 3),[]⟩]
def FB:Ab:=(.seq (.seq (.ops Ja) (.cond (.var 6)
 .skip
 (.exit 1))) (.seq (.block 2 (.block 3 (.seq (.ops ML) (.cond (.var 7)
 (.seq (.ops Uv) .ret)
 (.seq (.ops MJ) (.cond (.var 8)
 (.seq (.ops RU) .ret)
 .skip)))))) (.ops RV)))
def RW:List AC:=[
 ⟨none,.p1 some,[(.const (.int .i64 (0)))],(.set 2),[]⟩]
def eJ:Ay:=⟨2,9,(.seq (.ops Uq) (.seq (.ops Ur) (.seq (.block 0 (.seq (.ops MK) (.cond (.var 4)
 (.seq (.ops Us) .ret)
 (.seq (.ops PJ) (.cond (.var 5)
 (.seq (.ops Ut) .ret)
 .skip))))) (.seq (.seq (.ops Uu) (.block 1 (.loop FB))) (.seq (.ops RW) .ret))))),[((.var 2),none)]⟩
def VS:List AC:=[
 ⟨none,.p1 some,[(.const (.slice none 0 (some 0)))],(.set 3),[]⟩]
def VT:List AC:=[
 ⟨none,.p1 some,[(.const (.slice none 0 (some 0)))],(.set 4),[]⟩]
def VU:List AC:=[
 ⟨none,.p1 some,[.var 0],(.set 6),[]⟩,
 ⟨none,.r (fun s l=>match l with | [x]=>Bk Tryz.prog s 59 x | _=>none),[.var 6],(.set 7),[]⟩,
 ⟨none,.p1 some,[(.const (.int .i64 (0)))],(.set 8),[]⟩]
def PO:List AC:=[
 ⟨none,.p2 (AN Tryz.prog .lss 3),[.var 8,.var 7],(.set 9),[]⟩]
def VV:List AC:=[
 ⟨none,.p2 (AQ Tryz.prog 59),[.var 6,.var 8],.push,[]⟩,
 ⟨none,.r1 (fun s a=>AF Tryz.prog s 203 a),[.loc 0],.push,[]⟩,
 ⟨none,.p1 some,[.loc 0],(.set 5),[]⟩]
def VW:List AC:=[
 ⟨none,.p1 some,[.var 2],.push,[]⟩,
 ⟨none,.r1 (fun s x=>Af Tryz.prog s 203 205 x),[.var 5],.push,[]⟩,
 ⟨none,.p2 (AN Tryz.prog .mul 205),[.var 1,.loc 0],.push,[]⟩,
 ⟨none,.p2 (AN Tryz.prog .add 205),[.loc 2,.loc 0],.push,[]⟩,
 ⟨none,.p1 some,[.loc 0],(.set 2),[]⟩]
def VX:List AC:=[
 ⟨none,.p1 some,[.var 4],.push,[]⟩,
 ⟨none,.p2 (AN Tryz.prog .and 205),[(.var 2),(.const (.int .u64 (4294967295)))],.push,[]⟩,
 ⟨none,.r1 (fun s x=>Af Tryz.prog s 205 203 x),[.loc 0],.push,[]⟩,
 ⟨none,.mk (fun l=>(Ak Tryz.prog 59 1 (zipIdx [0] l)).bind fun r=>some (r,.slice 1)),[.loc 0],.push,[]⟩,
 ⟨none,.e (fun s l=>A7 Tryz.prog s [59,59] l),[.loc 3,.loc 0],.push,[]⟩,
 ⟨none,.p1 some,[.loc 0],(.set 4),[]⟩]
def VY:List AC:=[
 ⟨none,.p1 some,[.var 2],.push,[]⟩,
 ⟨none,.p2 (AN Tryz.prog .shr 205),[(.loc 0),(.const (.int .u64 (32)))],.push,[]⟩,
 ⟨none,.p1 some,[.loc 0],(.set 2),[]⟩]
def VZ:List AC:=[
 ⟨none,.p2 (AN Tryz.prog .add 3),[(.var 8),(.const (.int .i64 (1)))],.push,[]⟩,
 ⟨none,.p1 some,[.loc 0],(.set 8),[]⟩]
def Jg:Ab:=(.seq (.ops PO) (.seq (.cond (.var 9)
 .skip
 (.exit 0)) (.seq (.block 1 (.seq (.ops VV) (.seq (.ops VW) (.seq (.ops VX) (.ops VY))))) (.ops VZ))))
def RZ:List AC:=[
 ⟨none,.r1 (fun s x=>Af Tryz.prog s 205 203 x),[.var 2],.push,[]⟩,
 ⟨none,.mk (fun l=>(Ak Tryz.prog 59 1 (zipIdx [0] l)).bind fun r=>some (r,.slice 1)),[.loc 0],.push,[]⟩,
 ⟨none,.e (fun s l=>A7 Tryz.prog s [59,59] l),[.var 4,.loc 0],.push,[]⟩,
 ⟨none,.p1 some,[.loc 0],(.set 3),[]⟩]
def eP:Ay:=⟨3,10,(.seq (.ops VS) (.seq (.ops VT) (.seq (.seq (.ops VU) (.block 0 (.loop Jg))) (.seq (.ops RZ) .ret)))),[((.var 3),none)]⟩
def U5:List AC:=[
 ⟨none,.p1 some,[(.const (.slice none 0 (some 0)))],(.set 2),[]⟩]
def U6:List AC:=[
 ⟨none,.p2 (AN Tryz.prog .shl 205),[(.const (.int .u64 (1))),(.var 1)],.push,[]⟩,
 ⟨none,.call 217,[(.var 0),(.loc 0),(.const (.int .u64 (0)))],.push,[]⟩,
 ⟨none,.p1 some,[.loc 0],(.set 2),[]⟩]
def eL:Ay:=⟨2,3,(.seq (.ops U5) (.seq (.ops U6) .ret)),[((.var 2),none)]⟩
def Uw:List AC:=[
 ⟨none,.p1 some,[(.const (.slice none 0 (some 0)))],(.set 2),[]⟩,
 ⟨none,.p1 some,[(.const (.int .u64 (0)))],(.set 3),[]⟩]
def Ux:List AC:=[
 ⟨none,.r (fun s l=>match l with | [x]=>Bk Tryz.prog s 59 x | _=>none),[.var 0],.push,[]⟩,
 ⟨none,.mk (Xx (Bv Tryz.prog 59)),[.loc 0,.loc 0],.push,[]⟩,
 ⟨none,.p1 some,[.loc 0],(.set 2),[]⟩]
def Uy:List AC:=[
 ⟨none,.r (fun s l=>match l with | [x]=>Bk Tryz.prog s 59 x | _=>none),[.var 0],.push,[]⟩,
 ⟨none,.p2 (AN Tryz.prog .sub 3),[(.loc 0),(.const (.int .i64 (1)))],.push,[]⟩,
 ⟨none,.p1 some,[.loc 0],(.set 4),[]⟩]
def PL:List AC:=[
 ⟨none,.p2 (AN Tryz.prog .geq 3),[(.var 4),(.const (.int .i64 (0)))],(.set 5),[]⟩]
def Uz:List AC:=[
 ⟨none,.p1 some,[.var 3],.push,[]⟩,
 ⟨none,.p2 (AN Tryz.prog .shl 205),[(.loc 0),(.const (.int .u64 (32)))],.push,[]⟩,
 ⟨none,.p2 (AQ Tryz.prog 59),[.var 0,.var 4],.push,[]⟩,
 ⟨none,.r1 (fun s a=>AF Tryz.prog s 203 a),[.loc 0],.push,[]⟩,
 ⟨none,.r1 (fun s x=>Af Tryz.prog s 203 205 x),[.loc 0],.push,[]⟩,
 ⟨none,.p2 (AN Tryz.prog .or 205),[.loc 3,.loc 0],.push,[]⟩,
 ⟨none,.p1 some,[.loc 0],(.set 3),[]⟩]
def U1:List AC:=[
 ⟨none,.p2 (AN Tryz.prog .quo 205),[.var 3,.var 1],.push,[]⟩,
 ⟨none,.r1 (fun s x=>Af Tryz.prog s 205 203 x),[.loc 0],.push,[]⟩,
 ⟨none,.p2 (AQ Tryz.prog 59),[.var 2,.var 4],.push,[]⟩,
 ⟨none,.e (fun s=>Xx (fun a x=>Xz (AZ Tryz.prog s 203 a x))),[.loc 0,.loc 1],.push,[]⟩]
def U2:List AC:=[
 ⟨none,.p1 some,[.var 3],.push,[]⟩,
 ⟨none,.p2 (AN Tryz.prog .rem 205),[.loc 0,.var 1],.push,[]⟩,
 ⟨none,.p1 some,[.loc 0],(.set 3),[]⟩]
def U3:List AC:=[
 ⟨none,.p1 some,[.var 4],.push,[]⟩,
 ⟨none,.p2 (AN Tryz.prog .sub 3),[(.loc 0),(.const (.int .i64 (1)))],.push,[]⟩,
 ⟨none,.p1 some,[.loc 0],(.set 4),[]⟩]
def Jb:Ab:=(.seq (.seq (.ops PL) (.cond (.var 5)
 .skip
 (.exit 0))) (.seq (.block 1 (.seq (.ops Uz) (.seq (.ops U1) (.ops U2)))) (.ops U3)))
def U4:List AC:=[
 ⟨none,.p1 some,[.var 2],.push,[]⟩,
 ⟨none,.call 208,[.loc 0],.push,[]⟩,
 ⟨none,.p1 some,[.var 3],.push,[]⟩,
 ⟨none,.p1 some,[.loc 1],(.set 2),[]⟩,
 ⟨none,.p1 some,[.loc 0],(.set 3),[]⟩]
def eK:Ay:=⟨2,6,(.seq (.ops Uw) (.seq (.ops Ux) (.seq (.seq (.ops Uy) (.block 0 (.loop Jb))) (.seq (.ops U4) .ret)))),[((.var 2),none),((.var 3),none)]⟩
def U7:List AC:=[
 ⟨none,.p1 some,[(.const (.int .u64 (0)))],(.set 2),[]⟩]
def U8:List AC:=[
 ⟨none,.r (fun s l=>match l with | [x]=>Bk Tryz.prog s 59 x | _=>none),[.var 1],.push,[]⟩,
 ⟨none,.p1 some,[.loc 0],(.set 3),[]⟩]
def U9:List AC:=[
 ⟨none,.p2 (AQ Tryz.prog 59),[.var 0,.var 3],.push,[]⟩,
 ⟨none,.r1 (fun s a=>AF Tryz.prog s 203 a),[.loc 0],.push,[]⟩,
 ⟨none,.r1 (fun s x=>Af Tryz.prog s 203 205 x),[.loc 0],.push,[]⟩,
 ⟨none,.p2 (AN Tryz.prog .shl 205),[(.loc 0),(.const (.int .u64 (32)))],.push,[]⟩,
 ⟨none,.p2 (AN Tryz.prog .sub 3),[(.var 3),(.const (.int .i64 (1)))],.push,[]⟩,
 ⟨none,.p2 (AQ Tryz.prog 59),[.var 0,.loc 0],.push,[]⟩,
 ⟨none,.r1 (fun s a=>AF Tryz.prog s 203 a),[.loc 0],.push,[]⟩,
 ⟨none,.r1 (fun s x=>Af Tryz.prog s 203 205 x),[.loc 0],.push,[]⟩,
 ⟨none,.p2 (AN Tryz.prog .or 205),[.loc 4,.loc 0],.push,[]⟩,
 ⟨none,.p1 some,[.loc 0],(.set 4),[]⟩]
def VA:List AC:=[
 ⟨none,.p2 (AN Tryz.prog .sub 3),[(.var 3),(.const (.int .i64 (1)))],.push,[]⟩,
 ⟨none,.p2 (AQ Tryz.prog 59),[.var 1,.loc 0],.push,[]⟩,
 ⟨none,.r1 (fun s a=>AF Tryz.prog s 203 a),[.loc 0],.push,[]⟩,
 ⟨none,.r1 (fun s x=>Af Tryz.prog s 203 205 x),[.loc 0],.push,[]⟩,
 ⟨none,.p2 (AN Tryz.prog .quo 205),[.var 4,.loc 0],.push,[]⟩,
 ⟨none,.p2 (AN Tryz.prog .sub 3),[(.var 3),(.const (.int .i64 (1)))],.push,[]⟩,
 ⟨none,.p2 (AQ Tryz.prog 59),[.var 1,.loc 0],.push,[]⟩,
 ⟨none,.r1 (fun s a=>AF Tryz.prog s 203 a),[.loc 0],.push,[]⟩,
 ⟨none,.r1 (fun s x=>Af Tryz.prog s 203 205 x),[.loc 0],.push,[]⟩,
 ⟨none,.p2 (AN Tryz.prog .rem 205),[.var 4,.loc 0],.push,[]⟩,
 ⟨none,.p1 some,[.loc 5],(.set 5),[]⟩,
 ⟨none,.p1 some,[.loc 0],(.set 6),[]⟩]
def Hw:List AC:=[
 ⟨none,.p2 (AN Tryz.prog .gtr 205),[(.var 5),(.const (.int .u64 (4294967295)))],.push,[]⟩,
 ⟨(some ((.loc 0),false)),.p1 some,[.var 5],.push,[]⟩,
 ⟨(some ((.loc 1),false)),.p1 some,[.var 1],.push,[]⟩,
 ⟨(some ((.loc 2),false)),.p1 some,[.var 3],.push,[]⟩,
 ⟨(some ((.loc 3),false)),.p2 (AN Tryz.prog .sub 3),[(.loc 0),(.const (.int .i64 (2)))],.push,[]⟩,
 ⟨(some ((.loc 4),false)),.p2 (AQ Tryz.prog 59),[.loc 2,.loc 0],.push,[]⟩,
 ⟨(some ((.loc 5),false)),.r1 (fun s a=>AF Tryz.prog s 203 a),[.loc 0],.push,[]⟩,
 ⟨(some ((.loc 6),false)),.r1 (fun s x=>Af Tryz.prog s 203 205 x),[.loc 0],.push,[]⟩,
 ⟨(some ((.loc 7),false)),.p2 (AN Tryz.prog .mul 205),[.loc 6,.loc 0],.push,[]⟩,
 ⟨(some ((.loc 8),false)),.p1 some,[.var 6],.push,[]⟩,
 ⟨(some ((.loc 9),false)),.p2 (AN Tryz.prog .shl 205),[(.loc 0),(.const (.int .u64 (32)))],.push,[]⟩,
 ⟨(some ((.loc 10),false)),.p1 some,[.var 0],.push,[]⟩,
 ⟨(some ((.loc 11),false)),.p1 some,[.var 3],.push,[]⟩,
 ⟨(some ((.loc 12),false)),.p2 (AN Tryz.prog .sub 3),[(.loc 0),(.const (.int .i64 (2)))],.push,[]⟩,
 ⟨(some ((.loc 13),false)),.p2 (AQ Tryz.prog 59),[.loc 2,.loc 0],.push,[]⟩,
 ⟨(some ((.loc 14),false)),.r1 (fun s a=>AF Tryz.prog s 203 a),[.loc 0],.push,[]⟩,
 ⟨(some ((.loc 15),false)),.r1 (fun s x=>Af Tryz.prog s 203 205 x),[.loc 0],.push,[]⟩,
 ⟨(some ((.loc 16),false)),.p2 (AN Tryz.prog .or 205),[.loc 6,.loc 0],.push,[]⟩,
 ⟨(some ((.loc 17),false)),.p2 (AN Tryz.prog .gtr 205),[.loc 9,.loc 0],.push,[]⟩,
 ⟨none,.p Rt,[(.loc 18),(.const (.bool true)),(.loc 0)],(.set 7),[]⟩]
def Jc:List AC:=[
 ⟨none,.p1 some,[.var 5],.push,[]⟩,
 ⟨none,.p2 (AN Tryz.prog .sub 205),[(.loc 0),(.const (.int .u64 (1)))],.push,[]⟩,
 ⟨none,.p1 some,[.loc 0],(.set 5),[]⟩]
def Jd:List AC:=[
 ⟨none,.p1 some,[.var 6],.push,[]⟩,
 ⟨none,.p2 (AN Tryz.prog .sub 3),[(.var 3),(.const (.int .i64 (1)))],.push,[]⟩,
 ⟨none,.p2 (AQ Tryz.prog 59),[.var 1,.loc 0],.push,[]⟩,
 ⟨none,.r1 (fun s a=>AF Tryz.prog s 203 a),[.loc 0],.push,[]⟩,
 ⟨none,.r1 (fun s x=>Af Tryz.prog s 203 205 x),[.loc 0],.push,[]⟩,
 ⟨none,.p2 (AN Tryz.prog .add 205),[.loc 4,.loc 0],.push,[]⟩,
 ⟨none,.p1 some,[.loc 0],(.set 6),[]⟩]
def Je:List AC:=[
 ⟨none,.p2 (AN Tryz.prog .gtr 205),[(.var 6),(.const (.int .u64 (4294967295)))],(.set 8),[]⟩]
def Gn:Ab:=(.seq (.seq (.ops Hw) (.cond (.var 7)
 .skip
 (.exit 0))) (.block 1 (.seq (.ops Jc) (.seq (.ops Jd) (.seq (.ops Je) (.cond (.var 8)
 (.exit 0)
 .skip))))))
def VB:List AC:=[
 ⟨none,.p1 some,[.var 5],(.set 2),[]⟩]
def eM:Ay:=⟨2,9,(.seq (.ops U7) (.seq (.ops U8) (.seq (.ops U9) (.seq (.ops VA) (.seq (.block 0 (.loop Gn)) (.seq (.ops VB) .ret)))))),[((.var 2),none)]⟩
def VC:List AC:=[
 ⟨none,.p1 some,[(.const (.bool false))],(.set 3),[]⟩]
def VD:List AC:=[
 ⟨none,.p1 some,[(.const (.int .u64 (0)))],(.set 4),[]⟩,
 ⟨none,.p1 some,[(.const (.int .u64 (0)))],(.set 5),[]⟩]
def VE:List AC:=[
 ⟨none,.call 242,[.var 1],.push,[]⟩,
 ⟨none,.mk (fun l=>(Ak Tryz.prog 59 1 (zipIdx [0] l)).bind fun r=>some (r,.slice 1)),[(.const (.int .u32 (0)))],.push,[]⟩,
 ⟨none,.e (fun s l=>A7 Tryz.prog s [59,59] l),[.loc 1,.loc 0],(.set 9),[]⟩,
 ⟨none,.r (fun s l=>match l with | [x]=>Bk Tryz.prog s 59 x | _=>none),[.var 9],(.set 10),[]⟩,
 ⟨none,.p1 some,[(.const (.int .i64 (0)))],(.set 11),[]⟩]
def PM:List AC:=[
 ⟨none,.p2 (AN Tryz.prog .lss 3),[.var 11,.var 10],(.set 12),[]⟩]
def VF:List AC:=[
 ⟨none,.p2 (AQ Tryz.prog 59),[.var 9,.var 11],.push,[]⟩,
 ⟨none,.r1 (fun s a=>AF Tryz.prog s 203 a),[.loc 0],.push,[]⟩,
 ⟨none,.p1 some,[.var 11],(.set 6),[]⟩,
 ⟨none,.p1 some,[.loc 0],(.set 7),[]⟩]
def VG:List AC:=[
 ⟨none,.p1 some,[.var 4],.push,[]⟩,
 ⟨none,.r1 (fun s x=>Af Tryz.prog s 203 205 x),[.var 7],.push,[]⟩,
 ⟨none,.p2 (AN Tryz.prog .mul 205),[.var 2,.loc 0],.push,[]⟩,
 ⟨none,.p2 (AN Tryz.prog .add 205),[.loc 2,.loc 0],.push,[]⟩,
 ⟨none,.p1 some,[.loc 0],(.set 4),[]⟩]
def VH:List AC:=[
 ⟨none,.p2 (AQ Tryz.prog 59),[.var 0,.var 6],.push,[]⟩,
 ⟨none,.r1 (fun s a=>AF Tryz.prog s 203 a),[.loc 0],.push,[]⟩,
 ⟨none,.r1 (fun s x=>Af Tryz.prog s 203 205 x),[.loc 0],.push,[]⟩,
 ⟨none,.p2 (AN Tryz.prog .and 205),[(.var 4),(.const (.int .u64 (4294967295)))],.push,[]⟩,
 ⟨none,.p2 (AN Tryz.prog .sub 205),[.loc 1,.loc 0],.push,[]⟩,
 ⟨none,.p2 (AN Tryz.prog .sub 205),[.loc 0,.var 5],.push,[]⟩,
 ⟨none,.p1 some,[.loc 0],(.set 8),[]⟩]
def VI:List AC:=[
 ⟨none,.p2 (AN Tryz.prog .and 205),[(.var 8),(.const (.int .u64 (4294967295)))],.push,[]⟩,
 ⟨none,.r1 (fun s x=>Af Tryz.prog s 205 203 x),[.loc 0],.push,[]⟩,
 ⟨none,.p2 (AQ Tryz.prog 59),[.var 0,.var 6],.push,[]⟩,
 ⟨none,.e (fun s=>Xx (fun a x=>Xz (AZ Tryz.prog s 203 a x))),[.loc 0,.loc 1],.push,[]⟩]
def VJ:List AC:=[
 ⟨none,.p1 some,[.var 4],.push,[]⟩,
 ⟨none,.p2 (AN Tryz.prog .shr 205),[(.loc 0),(.const (.int .u64 (32)))],.push,[]⟩,
 ⟨none,.p1 some,[.loc 0],(.set 4),[]⟩]
def VK:List AC:=[
 ⟨none,.p2 (AN Tryz.prog .shr 205),[(.var 8),(.const (.int .u64 (63)))],.push,[]⟩,
 ⟨none,.p1 some,[.loc 0],(.set 5),[]⟩]
def RX:List AC:=[
 ⟨none,.p2 (AN Tryz.prog .add 3),[(.var 11),(.const (.int .i64 (1)))],.push,[]⟩,
 ⟨none,.p1 some,[.loc 0],(.set 11),[]⟩]
def HC:Ab:=(.seq (.ops PM) (.seq (.cond (.var 12)
 .skip
 (.exit 0)) (.seq (.block 1 (.seq (.ops VF) (.seq (.ops VG) (.seq (.ops VH) (.seq (.ops VI) (.seq (.ops VJ) (.ops VK))))))) (.ops RX))))
def RY:List AC:=[
 ⟨none,.p2 (AN Tryz.prog .gtr 205),[(.var 5),(.const (.int .u64 (0)))],.push,[]⟩,
 ⟨none,.p1 some,[.loc 0],(.set 3),[]⟩]
def eN:Ay:=⟨3,13,(.seq (.ops VC) (.seq (.ops VD) (.seq (.seq (.ops VE) (.block 0 (.loop HC))) (.seq (.ops RY) .ret)))),[((.var 3),none)]⟩
def VL:List AC:=[
 ⟨none,.p1 some,[(.const (.int .u64 (0)))],(.set 2),[]⟩]
def VM:List AC:=[
 ⟨none,.call 242,[.var 1],.push,[]⟩,
 ⟨none,.mk (fun l=>(Ak Tryz.prog 59 1 (zipIdx [0] l)).bind fun r=>some (r,.slice 1)),[(.const (.int .u32 (0)))],.push,[]⟩,
 ⟨none,.e (fun s l=>A7 Tryz.prog s [59,59] l),[.loc 1,.loc 0],(.set 5),[]⟩,
 ⟨none,.r (fun s l=>match l with | [x]=>Bk Tryz.prog s 59 x | _=>none),[.var 5],(.set 6),[]⟩,
 ⟨none,.p1 some,[(.const (.int .i64 (0)))],(.set 7),[]⟩]
def PN:List AC:=[
 ⟨none,.p2 (AN Tryz.prog .lss 3),[.var 7,.var 6],(.set 8),[]⟩]
def VN:List AC:=[
 ⟨none,.p2 (AQ Tryz.prog 59),[.var 5,.var 7],.push,[]⟩,
 ⟨none,.r1 (fun s a=>AF Tryz.prog s 203 a),[.loc 0],.push,[]⟩,
 ⟨none,.p1 some,[.var 7],(.set 3),[]⟩,
 ⟨none,.p1 some,[.loc 0],(.set 4),[]⟩]
def VO:List AC:=[
 ⟨none,.p1 some,[.var 2],.push,[]⟩,
 ⟨none,.p2 (AQ Tryz.prog 59),[.var 0,.var 3],.push,[]⟩,
 ⟨none,.r1 (fun s a=>AF Tryz.prog s 203 a),[.loc 0],.push,[]⟩,
 ⟨none,.r1 (fun s x=>Af Tryz.prog s 203 205 x),[.loc 0],.push,[]⟩,
 ⟨none,.r1 (fun s x=>Af Tryz.prog s 203 205 x),[.var 4],.push,[]⟩,
 ⟨none,.p2 (AN Tryz.prog .add 205),[.loc 1,.loc 0],.push,[]⟩,
 ⟨none,.p2 (AN Tryz.prog .add 205),[.loc 5,.loc 0],.push,[]⟩,
 ⟨none,.p1 some,[.loc 0],(.set 2),[]⟩]
def VP:List AC:=[
 ⟨none,.p2 (AN Tryz.prog .and 205),[(.var 2),(.const (.int .u64 (4294967295)))],.push,[]⟩,
 ⟨none,.r1 (fun s x=>Af Tryz.prog s 205 203 x),[.loc 0],.push,[]⟩,
 ⟨none,.p2 (AQ Tryz.prog 59),[.var 0,.var 3],.push,[]⟩,
 ⟨none,.e (fun s=>Xx (fun a x=>Xz (AZ Tryz.prog s 203 a x))),[.loc 0,.loc 1],.push,[]⟩]
def VQ:List AC:=[
 ⟨none,.p1 some,[.var 2],.push,[]⟩,
 ⟨none,.p2 (AN Tryz.prog .shr 205),[(.loc 0),(.const (.int .u64 (32)))],.push,[]⟩,
 ⟨none,.p1 some,[.loc 0],(.set 2),[]⟩]
def VR:List AC:=[
 ⟨none,.p2 (AN Tryz.prog .add 3),[(.var 7),(.const (.int .i64 (1)))],.push,[]⟩,
 ⟨none,.p1 some,[.loc 0],(.set 7),[]⟩]
def Jf:Ab:=(.seq (.ops PN) (.seq (.cond (.var 8)
 .skip
 (.exit 0)) (.seq (.block 1 (.seq (.ops VN) (.seq (.ops VO) (.seq (.ops VP) (.ops VQ))))) (.ops VR))))
def eO:Ay:=⟨2,9,(.seq (.ops VL) (.seq (.ops VM) (.block 0 (.loop Jf)))),[]⟩
def UN:List AC:=[
 ⟨none,.p1 some,[(.const (.slice none 0 (some 0)))],(.set 2),[]⟩,
 ⟨none,.p1 some,[(.const (.slice none 0 (some 0)))],(.set 3),[]⟩,
 ⟨none,.p1 some,[(.const (.int .i64 (0)))],(.set 4),[]⟩]
def UO:List AC:=[
 ⟨none,.p1 some,[.var 0],.push,[]⟩,
 ⟨none,.call 208,[.loc 0],.push,[]⟩,
 ⟨none,.p1 some,[.var 1],.push,[]⟩,
 ⟨none,.call 208,[.loc 0],.push,[]⟩,
 ⟨none,.p1 some,[.loc 2],(.set 0),[]⟩,
 ⟨none,.p1 some,[.loc 0],(.set 1),[]⟩]
def PB:List AC:=[
 ⟨none,.r (fun s l=>match l with | [x]=>Bk Tryz.prog s 59 x | _=>none),[.var 1],.push,[]⟩,
 ⟨none,.p2 (AN Tryz.prog .eql 3),[(.loc 0),(.const (.int .i64 (0)))],.push,[]⟩,
 ⟨none,.p1 some,[.loc 0],(.set 13),[]⟩]
def UP:List AC:=[
 ⟨none,.p1 some,[(.const (.slice none 0 (some 0)))],(.set 2),[]⟩,
 ⟨none,.p1 some,[(.const (.slice none 0 (some 0)))],(.set 3),[]⟩,
 ⟨none,.p1 some,[(.const (.int .i64 (3)))],(.set 4),[]⟩]
def UQ:List AC:=[
 ⟨none,.call 209,[.var 0,.var 1],.push,[]⟩,
 ⟨none,.p2 (AN Tryz.prog .lss 3),[(.loc 0),(.const (.int .i64 (0)))],.push,[]⟩,
 ⟨none,.p1 some,[.loc 0],(.set 14),[]⟩]
def UR:List AC:=[
 ⟨none,.p1 some,[(.const (.slice none 0 (some 0)))],(.set 2),[]⟩,
 ⟨none,.p1 some,[.var 0],(.set 3),[]⟩,
 ⟨none,.p1 some,[(.const (.int .i64 (0)))],(.set 4),[]⟩]
def PC:List AC:=[
 ⟨none,.r (fun s l=>match l with | [x]=>Bk Tryz.prog s 59 x | _=>none),[.var 1],.push,[]⟩,
 ⟨none,.p2 (AN Tryz.prog .eql 3),[(.loc 0),(.const (.int .i64 (1)))],.push,[]⟩,
 ⟨none,.p1 some,[.loc 0],(.set 15),[]⟩]
def US:List AC:=[
 ⟨none,.p2 (AQ Tryz.prog 59),[(.var 1),(.const (.int .i64 (0)))],.push,[]⟩,
 ⟨none,.r1 (fun s a=>AF Tryz.prog s 203 a),[.loc 0],.push,[]⟩,
 ⟨none,.r1 (fun s x=>Af Tryz.prog s 203 205 x),[.loc 0],.push,[]⟩,
 ⟨none,.call 210,[.var 0,.loc 0],.push,[]⟩,
 ⟨none,.p1 (fun x=>Za x 0),[.loc 0],.push,[]⟩,
 ⟨none,.p1 (fun x=>Za x 1),[.loc 1],.push,[]⟩,
 ⟨none,.p1 some,[.loc 1],(.set 5),[]⟩,
 ⟨none,.p1 some,[.loc 0],(.set 6),[]⟩]
def UT:List AC:=[
 ⟨none,.call 167,[.var 6],.push,[]⟩,
 ⟨none,.p1 some,[.var 5],(.set 2),[]⟩,
 ⟨none,.p1 some,[.loc 0],(.set 3),[]⟩,
 ⟨none,.p1 some,[(.const (.int .i64 (0)))],(.set 4),[]⟩]
def UU:List AC:=[
 ⟨none,.p1 some,[(.const (.int .u64 (0)))],(.set 7),[]⟩]
def MD:List AC:=[
 ⟨none,.r (fun s l=>match l with | [x]=>Bk Tryz.prog s 59 x | _=>none),[.var 1],.push,[]⟩,
 ⟨none,.p2 (AN Tryz.prog .sub 3),[(.loc 0),(.const (.int .i64 (1)))],.push,[]⟩,
 ⟨none,.p2 (AQ Tryz.prog 59),[.var 1,.loc 0],.push,[]⟩,
 ⟨none,.r1 (fun s a=>AF Tryz.prog s 203 a),[.loc 0],.push,[]⟩,
 ⟨none,.p2 (AN Tryz.prog .shl 203),[.loc 0,.var 7],.push,[]⟩,
 ⟨none,.p2 (AN Tryz.prog .shr 203),[(.loc 0),(.const (.int .u64 (31)))],.push,[]⟩,
 ⟨none,.p2 (AN Tryz.prog .eql 203),[(.loc 0),(.const (.int .u32 (0)))],(.set 16),[]⟩]
def RD:List AC:=[
 ⟨none,.p1 some,[.var 7],.push,[]⟩,
 ⟨none,.p2 (AN Tryz.prog .add 161),[(.loc 0),(.const (.int .u64 (1)))],.push,[]⟩,
 ⟨none,.p1 some,[.loc 0],(.set 7),[]⟩]
def G9:Ab:=(.seq (.seq (.ops MD) (.cond (.var 16)
 .skip
 (.exit 1))) (.block 2 (.ops RD)))
def RE:List AC:=[
 ⟨none,.r (fun s l=>match l with | [x]=>Bk Tryz.prog s 59 x | _=>none),[.var 1],.push,[]⟩,
 ⟨none,.call 211,[.var 0,.var 7],.push,[⟨none,.r (fun s l=>match l with | [x]=>Bk Tryz.prog s 59 x | _=>none),[.var 1],(.loc 1)⟩]⟩,
 ⟨none,.call 211,[.var 1,.var 7],.push,[⟨none,.r (fun s l=>match l with | [x]=>Bk Tryz.prog s 59 x | _=>none),[.var 1],(.loc 2)⟩]⟩,
 ⟨none,.r (Bg Tryz.prog 59 false true false),[.loc 0,.loc 2],.push,[]⟩,
 ⟨none,.p1 some,[.loc 2],(.set 8),[]⟩,
 ⟨none,.p1 some,[.loc 0],(.set 9),[]⟩]
def RF:List AC:=[
 ⟨none,.r (fun s l=>match l with | [x]=>Bk Tryz.prog s 59 x | _=>none),[.var 8],.push,[]⟩,
 ⟨none,.r (fun s l=>match l with | [x]=>Bk Tryz.prog s 59 x | _=>none),[.var 9],.push,[]⟩,
 ⟨none,.p2 (AN Tryz.prog .sub 3),[.loc 1,.loc 0],.push,[]⟩,
 ⟨none,.mk (Xx (Bv Tryz.prog 59)),[.loc 0,.loc 0],.push,[]⟩,
 ⟨none,.p1 some,[.loc 0],(.set 2),[]⟩]
def RG:List AC:=[
 ⟨none,.r (fun s l=>match l with | [x]=>Bk Tryz.prog s 59 x | _=>none),[.var 2],.push,[]⟩,
 ⟨none,.p2 (AN Tryz.prog .sub 3),[(.loc 0),(.const (.int .i64 (1)))],.push,[]⟩,
 ⟨none,.p1 some,[.loc 0],(.set 10),[]⟩]
def ME:List AC:=[
 ⟨none,.p2 (AN Tryz.prog .geq 3),[(.var 10),(.const (.int .i64 (0)))],(.set 17),[]⟩]
def RH:List AC:=[
 ⟨none,.r (fun s l=>match l with | [x]=>Bk Tryz.prog s 59 x | _=>none),[.var 9],.push,[]⟩,
 ⟨none,.p2 (AN Tryz.prog .add 3),[.var 10,.loc 0],.push,[]⟩,
 ⟨none,.p2 (AN Tryz.prog .add 3),[(.loc 0),(.const (.int .i64 (1)))],.push,[]⟩,
 ⟨none,.r (Bg Tryz.prog 59 true true false),[.var 8,.var 10,.loc 0],.push,[]⟩,
 ⟨none,.p1 some,[.loc 0],(.set 11),[]⟩]
def RI:List AC:=[
 ⟨none,.call 212,[.var 11,.var 9],.push,[]⟩,
 ⟨none,.p1 some,[.loc 0],(.set 12),[]⟩]
def RJ:List AC:=[
 ⟨none,.call 213,[.var 11,.var 9,.var 12],(.set 18),[]⟩]
def RK:List AC:=[
 ⟨none,.call 214,[.var 11,.var 9],.push,[]⟩]
def RL:List AC:=[
 ⟨none,.p1 some,[.var 12],.push,[]⟩,
 ⟨none,.p2 (AN Tryz.prog .sub 205),[(.loc 0),(.const (.int .u64 (1)))],.push,[]⟩,
 ⟨none,.p1 some,[.loc 0],(.set 12),[]⟩]
def MF:List AC:=[
 ⟨none,.r1 (fun s x=>Af Tryz.prog s 205 203 x),[.var 12],.push,[]⟩,
 ⟨none,.p2 (AQ Tryz.prog 59),[.var 2,.var 10],.push,[]⟩,
 ⟨none,.e (fun s=>Xx (fun a x=>Xz (AZ Tryz.prog s 203 a x))),[.loc 0,.loc 1],.push,[]⟩]
def MG:List AC:=[
 ⟨none,.p1 some,[.var 10],.push,[]⟩,
 ⟨none,.p2 (AN Tryz.prog .sub 3),[(.loc 0),(.const (.int .i64 (1)))],.push,[]⟩,
 ⟨none,.p1 some,[.loc 0],(.set 10),[]⟩]
def F8:Ab:=(.seq (.seq (.ops ME) (.cond (.var 17)
 .skip
 (.exit 3))) (.seq (.block 4 (.seq (.ops RH) (.seq (.ops RI) (.seq (.seq (.ops RJ) (.cond (.var 18)
 (.seq (.ops RK) (.ops RL))
 .skip)) (.ops MF))))) (.ops MG)))
def RM:List AC:=[
 ⟨none,.p2 (AN Tryz.prog .shl 205),[(.const (.int .u64 (1))),(.var 7)],.push,[]⟩,
 ⟨none,.call 210,[.var 8,.loc 0],.push,[]⟩,
 ⟨none,.p1 (fun x=>Za x 0),[.loc 0],.push,[]⟩,
 ⟨none,.p1 (fun x=>Za x 1),[.loc 1],.push,[]⟩,
 ⟨none,.p1 some,[.loc 1],(.set 3),[]⟩]
def RN:List AC:=[
 ⟨none,.p1 some,[.var 2],.push,[]⟩,
 ⟨none,.call 208,[.loc 0],.push,[]⟩,
 ⟨none,.p1 some,[.var 3],.push,[]⟩,
 ⟨none,.p1 some,[.loc 1],(.set 2),[]⟩,
 ⟨none,.p1 some,[.loc 0],(.set 3),[]⟩,
 ⟨none,.p1 some,[(.const (.int .i64 (0)))],(.set 4),[]⟩]
def eC:Ay:=⟨2,19,(.seq (.ops UN) (.seq (.ops UO) (.seq (.block 0 (.seq (.ops PB) (.cond (.var 13)
 (.seq (.ops UP) .ret)
 (.seq (.ops UQ) (.cond (.var 14)
 (.seq (.ops UR) .ret)
 (.seq (.ops PC) (.cond (.var 15)
 (.seq (.ops US) (.seq (.ops UT) .ret))
 .skip))))))) (.seq (.ops UU) (.seq (.block 1 (.loop G9)) (.seq (.ops RE) (.seq (.ops RF) (.seq (.seq (.ops RG) (.block 3 (.loop F8))) (.seq (.ops RM) (.seq (.ops RN) .ret)))))))))),[((.var 2),none),((.var 3),none),((.var 4),none)]⟩
def UI:List AC:=[
 ⟨none,.p1 some,[(.const (.slice none 0 (some 0)))],(.set 2),[]⟩]
def UJ:List AC:=[
 ⟨none,.p1 some,[.var 0],.push,[]⟩,
 ⟨none,.call 208,[.loc 0],.push,[]⟩,
 ⟨none,.p1 some,[.var 1],.push,[]⟩,
 ⟨none,.call 208,[.loc 0],.push,[]⟩,
 ⟨none,.p1 some,[.loc 2],(.set 0),[]⟩,
 ⟨none,.p1 some,[.loc 0],(.set 1),[]⟩]
def PA:List AC:=[
 ⟨none,.r (fun s l=>match l with | [x]=>Bk Tryz.prog s 59 x | _=>none),[.var 1],.push,[]⟩,
 ⟨none,.p2 (AN Tryz.prog .gtr 3),[(.loc 0),(.const (.int .i64 (0)))],(.set 4),[]⟩]
def UK:List AC:=[
 ⟨none,.call 166,[.var 0,.var 1],.push,[]⟩,
 ⟨none,.p1 (fun x=>Za x 0),[.loc 0],.push,[]⟩,
 ⟨none,.p1 (fun x=>Za x 1),[.loc 1],.push,[]⟩,
 ⟨none,.p1 (fun x=>Za x 2),[.loc 2],.push,[]⟩,
 ⟨none,.p1 some,[.loc 2],.push,[]⟩,
 ⟨none,.p1 some,[.loc 2],(.set 3),[]⟩,
 ⟨none,.p1 some,[.loc 1],.push,[]⟩]
def UL:List AC:=[
 ⟨none,.p1 some,[.var 1],.push,[]⟩,
 ⟨none,.p1 some,[.loc 0],(.set 0),[]⟩,
 ⟨none,.p1 some,[.var 3],(.set 1),[]⟩]
def JZ:Ab:=(.seq (.seq (.ops PA) (.cond (.var 4)
 .skip
 (.exit 0))) (.block 1 (.seq (.ops UK) (.ops UL))))
def UM:List AC:=[
 ⟨none,.p1 some,[.var 0],(.set 2),[]⟩]
def d8:Ay:=⟨2,5,(.seq (.ops UI) (.seq (.ops UJ) (.seq (.block 0 (.loop JZ)) (.seq (.ops UM) .ret)))),[((.var 2),none)]⟩
def Uc:List AC:=[
 ⟨none,.p1 some,[(.const (.slice none 0 (some 0)))],(.set 2),[]⟩]
def Ud:List AC:=[
 ⟨none,.r (fun s l=>match l with | [x]=>Bk Tryz.prog s 59 x | _=>none),[.var 0],.push,[]⟩,
 ⟨none,.r (fun s l=>match l with | [x]=>Bk Tryz.prog s 59 x | _=>none),[.var 1],.push,[]⟩,
 ⟨none,.p2 (AN Tryz.prog .add 3),[.loc 1,.loc 0],.push,[]⟩,
 ⟨none,.mk (Xx (Bv Tryz.prog 59)),[.loc 0,.loc 0],.push,[]⟩,
 ⟨none,.p1 some,[.loc 0],(.set 3),[]⟩]
def Ue:List AC:=[
 ⟨none,.p1 some,[.var 0],(.set 9),[]⟩,
 ⟨none,.r (fun s l=>match l with | [x]=>Bk Tryz.prog s 59 x | _=>none),[.var 9],(.set 10),[]⟩,
 ⟨none,.p1 some,[(.const (.int .i64 (0)))],(.set 11),[]⟩]
def PE:List AC:=[
 ⟨none,.p2 (AN Tryz.prog .lss 3),[.var 11,.var 10],(.set 12),[]⟩]
def Uf:List AC:=[
 ⟨none,.p2 (AQ Tryz.prog 59),[.var 9,.var 11],.push,[]⟩,
 ⟨none,.r1 (fun s a=>AF Tryz.prog s 203 a),[.loc 0],.push,[]⟩,
 ⟨none,.p1 some,[.var 11],(.set 4),[]⟩,
 ⟨none,.p1 some,[.loc 0],(.set 5),[]⟩]
def Ug:List AC:=[
 ⟨none,.p1 some,[(.const (.int .u64 (0)))],(.set 6),[]⟩]
def Uh:List AC:=[
 ⟨none,.p1 some,[.var 1],(.set 13),[]⟩,
 ⟨none,.r (fun s l=>match l with | [x]=>Bk Tryz.prog s 59 x | _=>none),[.var 13],(.set 14),[]⟩,
 ⟨none,.p1 some,[(.const (.int .i64 (0)))],(.set 15),[]⟩]
def PF:List AC:=[
 ⟨none,.p2 (AN Tryz.prog .lss 3),[.var 15,.var 14],(.set 16),[]⟩]
def Ui:List AC:=[
 ⟨none,.p2 (AQ Tryz.prog 59),[.var 13,.var 15],.push,[]⟩,
 ⟨none,.r1 (fun s a=>AF Tryz.prog s 203 a),[.loc 0],.push,[]⟩,
 ⟨none,.p1 some,[.var 15],(.set 7),[]⟩,
 ⟨none,.p1 some,[.loc 0],(.set 8),[]⟩]
def Uj:List AC:=[
 ⟨none,.p1 some,[.var 6],.push,[]⟩,
 ⟨none,.r1 (fun s x=>Af Tryz.prog s 203 205 x),[.var 5],.push,[]⟩,
 ⟨none,.r1 (fun s x=>Af Tryz.prog s 203 205 x),[.var 8],.push,[]⟩,
 ⟨none,.p2 (AN Tryz.prog .mul 205),[.loc 1,.loc 0],.push,[]⟩,
 ⟨none,.p2 (AN Tryz.prog .add 3),[.var 4,.var 7],.push,[]⟩,
 ⟨none,.p2 (AQ Tryz.prog 59),[.var 3,.loc 0],.push,[]⟩,
 ⟨none,.r1 (fun s a=>AF Tryz.prog s 203 a),[.loc 0],.push,[]⟩,
 ⟨none,.r1 (fun s x=>Af Tryz.prog s 203 205 x),[.loc 0],.push,[]⟩,
 ⟨none,.p2 (AN Tryz.prog .add 205),[.loc 4,.loc 0],.push,[]⟩,
 ⟨none,.p2 (AN Tryz.prog .add 205),[.loc 8,.loc 0],.push,[]⟩,
 ⟨none,.p1 some,[.loc 0],(.set 6),[]⟩]
def RO:List AC:=[
 ⟨none,.p2 (AN Tryz.prog .add 3),[.var 4,.var 7],.push,[]⟩,
 ⟨none,.p2 (AN Tryz.prog .and 205),[(.var 6),(.const (.int .u64 (4294967295)))],.push,[]⟩,
 ⟨none,.r1 (fun s x=>Af Tryz.prog s 205 203 x),[.loc 0],.push,[]⟩,
 ⟨none,.p2 (AQ Tryz.prog 59),[.var 3,.loc 2],.push,[]⟩,
 ⟨none,.e (fun s=>Xx (fun a x=>Xz (AZ Tryz.prog s 203 a x))),[.loc 0,.loc 1],.push,[]⟩]
def RP:List AC:=[
 ⟨none,.p1 some,[.var 6],.push,[]⟩,
 ⟨none,.p2 (AN Tryz.prog .shr 205),[(.loc 0),(.const (.int .u64 (32)))],.push,[]⟩,
 ⟨none,.p1 some,[.loc 0],(.set 6),[]⟩]
def RQ:List AC:=[
 ⟨none,.p2 (AN Tryz.prog .add 3),[(.var 15),(.const (.int .i64 (1)))],.push,[]⟩,
 ⟨none,.p1 some,[.loc 0],(.set 15),[]⟩]
def HA:Ab:=(.seq (.ops PF) (.seq (.cond (.var 16)
 .skip
 (.exit 2)) (.seq (.block 3 (.seq (.ops Ui) (.seq (.ops Uj) (.seq (.ops RO) (.ops RP))))) (.ops RQ))))
def RR:List AC:=[
 ⟨none,.r (fun s l=>match l with | [x]=>Bk Tryz.prog s 59 x | _=>none),[.var 1],.push,[]⟩,
 ⟨none,.p2 (AN Tryz.prog .add 3),[.var 4,.loc 0],.push,[]⟩,
 ⟨none,.r1 (fun s x=>Af Tryz.prog s 205 203 x),[.var 6],.push,[]⟩,
 ⟨none,.p2 (AQ Tryz.prog 59),[.var 3,.loc 1],.push,[]⟩,
 ⟨none,.e (fun s=>Xx (fun a x=>Xz (AZ Tryz.prog s 203 a x))),[.loc 0,.loc 1],.push,[]⟩]
def RS:List AC:=[
 ⟨none,.p2 (AN Tryz.prog .add 3),[(.var 11),(.const (.int .i64 (1)))],.push,[]⟩,
 ⟨none,.p1 some,[.loc 0],(.set 11),[]⟩]
def HB:Ab:=(.seq (.ops PE) (.seq (.cond (.var 12)
 .skip
 (.exit 0)) (.seq (.block 1 (.seq (.ops Uf) (.seq (.ops Ug) (.seq (.seq (.ops Uh) (.block 2 (.loop HA))) (.ops RR))))) (.ops RS))))
def RT:List AC:=[
 ⟨none,.call 208,[.var 3],.push,[]⟩,
 ⟨none,.p1 some,[.loc 0],(.set 2),[]⟩]
def eG:Ay:=⟨2,17,(.seq (.ops Uc) (.seq (.ops Ud) (.seq (.seq (.ops Ue) (.block 0 (.loop HB))) (.seq (.ops RT) .ret)))),[((.var 2),none)]⟩
theorem SC:AS Tryz.prog 208=some cW:=by kernel_rfl
theorem SD:AS Tryz.prog 242=some Ze:=by kernel_rfl
theorem Zo:AS Tryz.prog 167=some eE:=by kernel_rfl
theorem Zt:AS Tryz.prog 209=some eJ:=by kernel_rfl
theorem Zz:AS Tryz.prog 217=some eP:=by kernel_rfl
theorem Zv:AS Tryz.prog 211=some eL:=by kernel_rfl
theorem Zu:AS Tryz.prog 210=some eK:=by kernel_rfl
theorem Zw:AS Tryz.prog 212=some eM:=by kernel_rfl
theorem Zx:AS Tryz.prog 213=some eN:=by kernel_rfl
theorem Zy:AS Tryz.prog 214=some eO:=by kernel_rfl
theorem Zn:AS Tryz.prog 166=some eC:=by kernel_rfl
theorem Zm:AS Tryz.prog 165=some d8:=by kernel_rfl
theorem Zq:AS Tryz.prog 172=some eG:=by kernel_rfl
end
end Go.Proofs.YtfgmceookgelcaaGreatDoor.Am
set_option linter.unusedVariables false
namespace Go.Proofs.YtfgmceookgelcaaGreatDoor.Am
noncomputable section
def LB:Nat:=4294967296
theorem A3:0<LB:=by decide
def AD:List Nat→Nat
 | []=>0
 | x::l=>x+LB * AD l
def BV(l:List Nat):Prop:=∀x∈l,x<LB
def AI(n:Nat):List Nat:=if h:n=0 then []else n % LB::AI (n / LB)
termination_by n
decreasing_by exact Nat.div_lt_self (by omega) (by decide)
theorem A6:AI 0=[]:=by rw[AI];rfl
theorem D1{n:Nat}(h:n≠0):AI n=n % LB::AI (n / LB):=by rw[AI,dif_neg h]
theorem Cb{n:Nat}(h:n≠0):AI n≠[]:=by rw[D1 h];exact fun e=>by cases e
theorem AY(n:Nat):AD (AI n)=n:=by
 induction n using Nat.strongRecOn with
 | _ n ih =>
  by_cases h:n=0
  ·rw[h,A6];rfl
  ·rw[D1 h]
   show n % LB+LB * AD (AI (n / LB))=n
   rw[ih (n / LB) (Nat.div_lt_self (by omega) (by decide))]
   exact iM n LB
theorem AR(n:Nat):BV (AI n):=by
 induction n using Nat.strongRecOn with
 | _ n ih =>
  by_cases h:n=0
  ·rw[h,A6];intro x hx;cases hx
  ·rw[D1 h]
   intro x hx
   rcases hZ.1 hx with e | e
   ·rw[e];exact gO _ A3
   ·exact ih (n / LB) (Nat.div_lt_self (by omega) (by decide)) x e
def C9:List Nat→List Nat
 | []=>[]
 | x::l=>if x=0∧C9 l=[]then []else x::C9 l
theorem BV.tail{x:Nat}{l:List Nat}(h:BV (x::l)):BV l:=fun y hy=>h y (gG _ hy)
theorem BJ      : ∀ {l : List Nat}, BV  l → C9    l = AI    (AD   l)
  | [],_=>by rw[C9,AD,A6]
  | x::l,h=>by
    have ih:=BJ h.tail
    have hx:=h x gC
    unfold C9
    show(if x=0∧C9 l=[]then []else x::C9 l)=AI (x+LB * AD l)
    by_cases hz:x+LB * AD l=0
    · have h1 : x = 0 := by omega
      have h2:AD l=0:=by
        have:LB * AD l=0:=by omega
        rcases Nat.mul_eq_zero.1 this with q | q
        · exact absurd q (by decide)
        · exact q
      rw[if_pos ⟨h1,by rw[ih,h2,A6]⟩,hz,A6]
    · rw[D1 hz]
      have hm:(x+LB * AD l) % LB=x:=by rw[Nat.add_mul_mod_self_left,gT hx]
      have hd:(x+LB * AD l) / LB=AD l:=by rw[Nat.add_mul_div_left _ _ A3,gw hx,gA]
      rw[hm,hd]
      rw[if_neg,ih]
      rintro⟨q1,q2⟩
      rw[ih]at q2
      by_cases hv:AD l=0
      · rw[q1,hv]at hz;exact hz rfl
      · exact Cb hv q2
theorem BA:∀ (a b:List Nat),AD (a++b)=AD a+LB ^ a.length * AD b
 | [],b=>by simp[AD]
 | x::a,b=>by
  show x+LB * AD (a++b)=x+LB * AD a+LB ^ (a.length+1) * AD b
  rw[BA a b,gM,gg,← gK,gD LB (LB ^ a.length)]
  omega
theorem CF:∀ {l:List Nat},BV l→AD l<LB ^ l.length
 | [],_=>by simp[AD]
 | x::l,h=>by
  have ih:=CF h.tail
  have hx:=h x gC
  show x+LB * AD l<LB ^ (l.length+1)
  rw[gg,gD (LB ^ l.length) LB]
  have:LB * (AD l+1)≤LB * LB ^ l.length:=gU LB ih
  rw[gM]at this
  omega
theorem TM{a b:Nat}(h:AI a=AI b):a=b:=by rw[← AY a,h,AY]
def Iy:List Nat→Nat→Nat→List Nat
 | [],_,c=>[c]
 | y::a,x,c=>(c+x * y) % LB::Iy a x ((c+x * y) / LB)
theorem I4:∀ (a:List Nat)(x c:Nat),AD (Iy a x c)=AD a * x+c
 | [],x,c=>by simp[Iy,AD]
 | y::a,x,c=>by
  have h1:=I4 a x ((c+x * y) / LB)
  have h2:=iM (c+x * y) LB
  show(c+x * y) % LB+LB * AD (Iy a x ((c+x * y) / LB))=(y+LB * AD a) * x+c
  rw[h1,gM,gQ,gD y x,gK]
  omega
def Ba(a b:List Nat):List (Nat×Nat):=(List.range (max a.length b.length)).map fun i=>(a.getD i 0,b.getD i 0)
theorem GP(k:Nat):AD (List.replicate k 0)=0:=by
 induction k with
 | zero=>rfl
 | succ k ih =>
  rw[List.replicate_succ]
  show 0+LB * AD (List.replicate k 0)=0
  rw[ih];rfl
theorem YW{a:List Nat}{n:Nat}(h:a.length≤n):(List.range n).map (fun i=>a.getD i 0)=a++List.replicate (n - a.length) 0:=by
 refine List.ext_getElem (by simp;omega) fun i h1 h2=>?_
 simp only[List.getElem_map,List.getElem_range]
 by_cases hi:i<a.length
 ·rw[List.getElem_append_left hi,iS,f9 hi];rfl
 ·rw[List.getElem_append_right (by omega),List.getElem_replicate,iS,gH (by omega)];rfl
theorem Sp(a:List Nat)(k:Nat):AD (a++List.replicate k 0)=AD a:=by rw[BA,GP];omega
theorem So(a b:List Nat):AD ((Ba a b).map Prod.fst)=AD a:=by
 unfold Ba
 rw[List.map_map]
 have:=YW (a:=a) (n:=max a.length b.length) (by omega)
 show AD ((List.range _).map fun i=>a.getD i 0)=_
 rw[this,Sp]
theorem Sq(a b:List Nat):AD ((Ba a b).map Prod.snd)=AD b:=by
 unfold Ba
 rw[List.map_map]
 have:=YW (a:=b) (n:=max a.length b.length) (by omega)
 show AD ((List.range _).map fun i=>b.getD i 0)=_
 rw[this,Sp]
def DS:List (Nat×Nat)→Nat→List Nat×Nat
 | [],c=>([],c)
 | p::P,c=>((p.1+p.2+c) % LB::(DS P ((p.1+p.2+c) / LB)).1,(DS P ((p.1+p.2+c) / LB)).2)
theorem JS:∀ (P:List (Nat×Nat))(c:Nat),AD (DS P c).1+LB ^ P.length * (DS P c).2=AD (P.map Prod.fst)+AD (P.map Prod.snd)+c
 | [],c=>by simp[DS,AD]
 | p::P,c=>by
  have h1:=JS P ((p.1+p.2+c) / LB)
  have h2:=iM (p.1+p.2+c) LB
  show(p.1+p.2+c) % LB+LB * AD (DS P ((p.1+p.2+c) / LB)).1+LB ^ (P.length+1) * (DS P ((p.1+p.2+c) / LB)).2=p.1+LB * AD (P.map Prod.fst)+(p.2+LB * AD (P.map Prod.snd))+c
  have h3:LB ^ (P.length+1) * (DS P ((p.1+p.2+c) / LB)).2=LB * (LB ^ P.length * (DS P ((p.1+p.2+c) / LB)).2):=by rw[gg,gD (LB ^ P.length) LB,gK]
  rw[h3]
  have h4:=congrArg (LB * ·) h1
  simp only[gM]at h4
  omega
theorem G7:∀ (P:List (Nat×Nat))(c:Nat),(DS P c).1.length=P.length
 | [],_=>rfl
 | p::P,c=>by show(DS P _).1.length+1=P.length+1;rw[G7 P]
theorem E6:∀ (P:List (Nat×Nat))(c:Nat),BV (DS P c).1
 | [],_=>fun x hx=>by cases hx
 | p::P,c=>fun x hx=>by
  rcases hZ.1 hx with e | e
  ·rw[e];exact gO _ A3
  ·exact E6 P _ x e
def Ef:List (Nat×Nat)→Nat→List Nat×Nat
 | [],c=>([],c)
 | p::P,c=>((p.1+LB - p.2 - c) % LB::(Ef P (if p.1<p.2+c then 1 else 0)).1,(Ef P (if p.1<p.2+c then 1 else 0)).2)
theorem Og:∀ (P:List (Nat×Nat))(c:Nat),(∀p∈P,p.1<LB∧p.2<LB)→c≤1→AD (P.map Prod.fst)+LB ^ P.length * (Ef P c).2=AD (Ef P c).1+AD (P.map Prod.snd)+c
 | [],c,_,_=>by simp[Ef,AD]
 | p::P,c,h,hc=>by
  obtain⟨hp1,hp2⟩:=h p gC
  have hB:LB=4294967296:=rfl
  generalize hd:(if p.1<p.2+c then 1 else 0)=d
  have Ot:d≤1:=by rw[← hd];split<;>omega
  have h1:=Og P d (fun q hq=>h q (gG _ hq)) Ot
  have h2:(p.1+LB - p.2 - c) % LB+p.2+c=p.1+LB * d:=by
   rw[← hd]
   rw[hB]at hp1 hp2 ⊢
   split<;>omega
  show p.1+LB * AD (P.map Prod.fst)+LB ^ (P.length+1) * (Ef P (if p.1<p.2+c then 1 else 0)).2=(p.1+LB - p.2 - c) % LB+LB * AD (Ef P (if p.1<p.2+c then 1 else 0)).1+(p.2+LB * AD (P.map Prod.snd))+c
  rw[hd]
  have h3:LB ^ (P.length+1) * (Ef P d).2=LB * (LB ^ P.length * (Ef P d).2):=by rw[gg,gD (LB ^ P.length) LB,gK]
  rw[h3]
  have h4:=congrArg (LB * ·) h1
  simp only[gM]at h4
  omega
theorem TG{U V T v1 v2 q g left top u2:Nat}{P:Nat}(hU:U<(top * LB+u2+1) * P)(hV:(v1 * LB+v2) * P≤V)(hq:q * V≤U)(hg:g * v1+left=top)(hgt:left * LB+u2<g * v2):q<g:=by
 rcases fv q g with h | h
 ·exact h
 ·exfalso
  have h1:g * V≤U:=fx (gL V h) hq
  have h2:g * ((v1 * LB+v2) * P)≤U:=fx (gU g hV) h1
  have h3:g * (v1 * LB+v2)=g * v1 * LB+g * v2:=by rw[gM,gK]
  have h4:top * LB=g * v1 * LB+left * LB:=by rw[← hg,gQ]
  have h5:top * LB+u2+1≤g * (v1 * LB+v2):=by omega
  have h6:(top * LB+u2+1) * P≤g * (v1 * LB+v2) * P:=gL P h5
  rw[← gK]at h2
  omega
theorem Pu{U V v1 v2 q g left top u2:Nat}{P:Nat}(hP:0<P)(hU:(top * LB+u2) * P≤U)(hV:V<(v1 * LB+v2+1) * P)(hq:U<(q+1) * V)(hg:g * v1+left=top)(hle:g * v2≤left * LB+u2)(hgB:g<LB)(hv1:1≤v1):g≤q+1:=by
 rcases fv (q+1) g with h | h
 ·exfalso
  have h0:q+1≤g - 1:=by omega
  have h1:U<(g - 1) * ((v1 * LB+v2+1) * P):=by
   have a1:(q+1) * V≤(g - 1) * V:=gL V h0
   have a2:(g - 1) * V≤(g - 1) * ((v1 * LB+v2+1) * P):=gU _ (Nat.le_of_lt hV)
   omega
  rw[← gK]at h1
  have h2:(top * LB+u2) * P<(g - 1) * (v1 * LB+v2+1) * P:=gm hU h1
  have h3:top * LB+u2<(g - 1) * (v1 * LB+v2+1):=iD h2
  have h4:top * LB=g * v1 * LB+left * LB:=by rw[← hg,gQ]
  have h5:g * (v1 * LB+v2)=g * v1 * LB+g * v2:=by rw[gM,gK]
  have h6:(g - 1) * (v1 * LB+v2+1)=(g - 1) * (v1 * LB+v2)+(g - 1):=by rw[gM,gB]
  have h7:g * (v1 * LB+v2)=(g - 1) * (v1 * LB+v2)+(v1 * LB+v2):=by
   obtain⟨k,rfl⟩:∃k,g=k+1:=⟨g - 1,by omega⟩
   rw[iN,gW]
  have h8:LB≤v1 * LB:=Nat.le_mul_of_pos_left LB hv1
  omega
 ·exact h
def Bo(q:Nat):List (Nat×Nat)→Nat→Nat→List Nat×Nat×Nat
 | [],c,br=>([],c,br)
 | p::P,c,br =>
  let r:=Bo q P ((c+q * p.2) / LB) (if p.1<(c+q * p.2) % LB+br then 1 else 0)
  ((p.1+LB - (c+q * p.2) % LB - br) % LB::r.1,r.2.1,r.2.2)
theorem Ll(q:Nat):∀ (P:List (Nat×Nat))(c br:Nat),(∀p∈P,p.1<LB)→br≤1 →
  AD (P.map Prod.fst)+LB ^ P.length * ((Bo q P c br).2.1+(Bo q P c br).2.2)=AD (Bo q P c br).1+q * AD (P.map Prod.snd)+c+br
 | [],c,br,_,_=>by simp[Bo,AD]
 | p::P,c,br,h,hb=>by
  have hp:=h p gC
  have hB:LB=4294967296:=rfl
  generalize hc1:c+q * p.2=c1
  have hm:c1 % LB<LB:=gO _ A3
  have hdm:=iM c1 LB
  generalize hd:(if p.1<c1 % LB+br then 1 else 0)=d
  have Ot:d≤1:=by rw[← hd];split<;>omega
  have ih:=Ll q P (c1 / LB) d (fun q hq=>h q (gG _ hq)) Ot
  have h2:(p.1+LB - c1 % LB - br) % LB+c1 % LB+br=p.1+LB * d:=by
   rw[← hd]
   generalize c1 % LB=m at hm
   rw[hB]at hp hm ⊢
   split<;>omega
  show p.1+LB * AD (P.map Prod.fst)+LB ^ (P.length+1) * ((Bo q P ((c+q * p.2) / LB) (if p.1<(c+q * p.2) % LB+br then 1 else 0)).2.1+(Bo q P ((c+q * p.2) / LB) (if p.1<(c+q * p.2) % LB+br then 1 else 0)).2.2)=(p.1+LB - (c+q * p.2) % LB - br) % LB+LB * AD (Bo q P ((c+q * p.2) / LB) (if p.1<(c+q * p.2) % LB+br then 1 else 0)).1+q * (p.2+LB * AD (P.map Prod.snd))+c+br
  rw[hc1,hd]
  have h3:∀z,LB ^ (P.length+1) * z=LB * (LB ^ P.length * z):=fun z=>by rw[gg,gD (LB ^ P.length) LB,gK]
  rw[h3]
  have h4:=congrArg (LB * ·) ih
  simp only[gM]at h4 ⊢
  have h5:q * (LB * AD (P.map Prod.snd))=LB * (q * AD (P.map Prod.snd)):=by rw[Nat.mul_left_comm]
  rw[h5]
  omega
def Ep(x:Nat):List (Nat×Nat)→Nat→List Nat×Nat
 | [],c=>([],c)
 | p::P,c=>((c+(x * p.1+p.2)) % LB::(Ep x P ((c+(x * p.1+p.2)) / LB)).1,(Ep x P ((c+(x * p.1+p.2)) / LB)).2)
theorem N3(x:Nat):∀ (P:List (Nat×Nat))(c:Nat),AD (Ep x P c).1+LB ^ P.length * (Ep x P c).2=x * AD (P.map Prod.fst)+AD (P.map Prod.snd)+c
 | [],c=>by simp[Ep,AD]
 | p::P,c=>by
  have ih:=N3 x P ((c+(x * p.1+p.2)) / LB)
  have hdm:=iM (c+(x * p.1+p.2)) LB
  show(c+(x * p.1+p.2)) % LB+LB * AD (Ep x P ((c+(x * p.1+p.2)) / LB)).1+LB ^ (P.length+1) * (Ep x P ((c+(x * p.1+p.2)) / LB)).2=x * (p.1+LB * AD (P.map Prod.fst))+(p.2+LB * AD (P.map Prod.snd))+c
  have h3:∀z,LB ^ (P.length+1) * z=LB * (LB ^ P.length * z):=fun z=>by rw[gg,gD (LB ^ P.length) LB,gK]
  rw[h3]
  have h4:=congrArg (LB * ·) ih
  simp only[gM]at h4 ⊢
  have h5:x * (LB * AD (P.map Prod.fst))=LB * (x * AD (P.map Prod.fst)):=by rw[Nat.mul_left_comm]
  rw[h5]
  omega
theorem KE(x:Nat):∀ (P:List (Nat×Nat))(c:Nat),(Ep x P c).1.length=P.length
 | [],_=>rfl
 | p::P,c=>by show(Ep x P _).1.length+1=P.length+1;rw[KE x P]
theorem Gs{x:Nat}(hx:x<LB):∀ {P:List (Nat×Nat)}{c:Nat},(∀p∈P,p.1<LB∧p.2<LB)→c<LB→(Ep x P c).2<LB∧BV (Ep x P c).1
 | [],c,_,hc=>⟨hc,fun y hy=>by cases hy⟩
 | p::P,c,h,hc=>by
  obtain⟨h1,h2⟩:=h p gC
  have hd:(c+(x * p.1+p.2)) / LB<LB:=by
   rw[ge A3]
   have:x * p.1≤(LB - 1) * (LB - 1):=gz (by omega) (by omega)
   have hB:LB=4294967296:=rfl
   rw[hB]at this hc h2 ⊢
   omega
  obtain⟨i1,i2⟩:=Gs (P:=P) (c:=(c+(x * p.1+p.2)) / LB) hx (fun r hr=>h r (gG _ hr)) hd
  refine⟨i1,fun y hy=>?_⟩
  rcases hZ.1 hy with e | e
  ·rw[e];exact gO _ A3
  ·exact i2 y e
def A1(x:Nat):List Nat→List Nat×Nat
 | []=>([],0)
 | y::l=>(((A1 x l).2 * LB+y) / x::(A1 x l).1,((A1 x l).2 * LB+y) % x)
theorem Cl{x:Nat}(hx:0<x):∀l:List Nat,AD l=x * AD (A1 x l).1+(A1 x l).2∧(A1 x l).2<x∧(A1 x l).1.length=l.length
 | []=>⟨by simp[A1,AD],hx,rfl⟩
 | y::l=>by
  obtain⟨i1,i2,i3⟩:=Cl hx l
  have hdm:=iM ((A1 x l).2 * LB+y) x
  refine⟨?_,gO _ hx,by show(A1 x l).1.length+1=l.length+1;rw[i3]⟩
  show y+LB * AD l=x * (((A1 x l).2 * LB+y) / x+LB * AD (A1 x l).1)+((A1 x l).2 * LB+y) % x
  rw[i1]
  simp only[gM]
  have h5:x * (LB * AD (A1 x l).1)=LB * (x * AD (A1 x l).1):=by rw[Nat.mul_left_comm]
  have h6:LB * (A1 x l).2=(A1 x l).2 * LB:=gD _ _
  rw[h5,h6]
  omega
theorem Dx{x:Nat}(hx:0<x):∀ {l:List Nat},BV l→BV (A1 x l).1
 | [],_=>fun y hy=>by cases hy
 | y::l,h=>by
  obtain⟨i1,i2,i3⟩:=Cl hx l
  have hy:=h y gC
  intro z hz
  rcases hZ.1 hz with e | e
  ·rw[e,ge hx]
   have:((A1 x l).2+1) * LB≤x * LB:=gL LB i2
   rw[gW]at this
   rw[gD LB x]
   omega
  ·exact Dx hx h.tail z e
theorem Tm{U V g D N br:Nat}(hV:0<V)(h1:U / V≤g)(h2:g≤U / V+1)(hD:D<N)(hbr:br≤1)(he:U+N * br=D+g * V):
  (br=0→g=U / V∧D=U % V)∧(br=1→g=U / V+1∧D+V=N+U % V):=by
 have hdm:=Nat.div_add_mod U V
 have hlt:=gO U hV
 have hc:V * (U / V)=U / V * V:=gD _ _
 generalize hq:U / V=q at *
 generalize U % V=r at *
 refine⟨fun h0=>?_,fun h0=>?_⟩
 ·subst h0
  rcases fv q g with h | h
  ·exfalso
   have:g=q+1:=by omega
   rw[this,gW]at he
   omega
  ·have:g=q:=by omega
   refine⟨this,?_⟩
   rw[this]at he
   omega
 ·subst h0
  rcases fv q g with h | h
  ·have:g=q+1:=by omega
   refine⟨this,?_⟩
   rw[this,gW]at he
   omega
  ·exfalso
   have:g=q:=by omega
   rw[this]at he
   omega
theorem Pp{V Q R u:Nat}{W:Nat}(hV:0<V)(hR:R<V)(hW:W=Q * V+R):(W * LB+u) / V=Q * LB+(R * LB+u) / V∧(W * LB+u) % V=(R * LB+u) % V:=by
 have e:W * LB+u=(R * LB+u)+V * (Q * LB):=by
  rw[hW,gQ,gK,Nat.mul_left_comm]
  omega
 rw[e]
 constructor
 ·rw[Nat.add_mul_div_left _ _ hV];omega
 ·rw[Nat.add_mul_mod_self_left]
end
end Go.Proofs.YtfgmceookgelcaaGreatDoor.Am
set_option linter.unusedVariables false
set_option linter.unusedSimpArgs false
namespace Go.Proofs.YtfgmceookgelcaaGreatDoor.Am
noncomputable section
theorem BV.append{a b:List Nat}(ha:BV a)(hb:BV b):BV (a++b):=fun x hx=>(List.mem_append.1 hx).elim (ha x) (hb x)
theorem HV(lo:List Nat)(x y:Nat):AD (lo++[x,y])=AD lo+LB ^ lo.length * (y * LB+x):=by
 rw[BA]
 show _+_ * (x+LB * (y+LB * 0))=_
 rw[gn,gJ,gD LB y,Nat.add_comm x]
theorem KB(lo:List Nat)(x y z:Nat):AD (lo++[x,y,z])=AD lo+LB ^ lo.length * ((z * LB+y) * LB+x):=by
 rw[BA]
 show _+_ * (x+LB * (y+LB * (z+LB * 0)))=_
 have:x+LB * (y+LB * (z+LB * 0))=(z * LB+y) * LB+x:=by
  rw[gn,gJ,gD LB z,Nat.add_comm y,gD LB,Nat.add_comm x]
 rw[this]
structure FV(plo vlo:List Nat)(u2 u1 u0 v2 v1:Nat)(g left:Nat):Prop where
 len:plo.length=vlo.length
 sp:BV plo
 sv:BV vlo
 b2:u2<LB
 b1:u1<LB
 c2:v2<LB
 c1:v1<LB
 big:LB≤2 * v1
 lt:AD (plo++[u2,u1,u0])<AD (vlo++[v2,v1]) * LB
 sum:g * v1+left=u0 * LB+u1
 low:AD (plo++[u2,u1,u0]) / AD (vlo++[v2,v1])≤g
section
variable{plo vlo:List Nat}{u2 u1 u0 v2 v1 g left:Nat}
theorem FV.v_pos(h:FV plo vlo u2 u1 u0 v2 v1 g left):0<AD (vlo++[v2,v1]):=by
 rw[HV]
 have h1:=h.big
 have:LB=4294967296:=rfl
 have h2:0<v1 * LB+v2:=by have:=Nat.mul_pos (show 0<v1 by omega) A3;omega
 have:=Nat.mul_pos (gp A3 (n:=vlo.length)) h2
 omega
theorem FV.bounds(h:FV plo vlo u2 u1 u0 v2 v1 g left):
  AD (plo++[u2,u1,u0])<((u0 * LB+u1) * LB+u2+1) * LB ^ vlo.length∧((u0 * LB+u1) * LB+u2) * LB ^ vlo.length≤AD (plo++[u2,u1,u0]) ∧
  AD (vlo++[v2,v1])<(v1 * LB+v2+1) * LB ^ vlo.length∧(v1 * LB+v2) * LB ^ vlo.length≤AD (vlo++[v2,v1]):=by
 have h1:=CF h.sp
 have h2:=CF h.sv
 rw[h.len]at h1
 rw[KB,HV,h.len]
 generalize LB ^ vlo.length=P at *
 generalize (u0 * LB+u1) * LB+u2=X
 generalize v1 * LB+v2=Y
 have e1:(X+1) * P=P * X+P:=by rw[gW,gD]
 have e2:(Y+1) * P=P * Y+P:=by rw[gW,gD]
 have e3:X * P=P * X:=gD _ _
 have e4:Y * P=P * Y:=gD _ _
 omega
theorem FV.start(len:plo.length=vlo.length)(sp:BV plo)(sv:BV vlo)(b2:u2<LB)(b1:u1<LB)(c2:v2<LB)(c1:v1<LB)(big:LB≤2 * v1)
  (lt:AD (plo++[u2,u1,u0])<AD (vlo++[v2,v1]) * LB):FV plo vlo u2 u1 u0 v2 v1 ((u0 * LB+u1) / v1) ((u0 * LB+u1) % v1):=by
 have hB:LB=4294967296:=rfl
 have hv1:0<v1:=by omega
 have hs:(u0 * LB+u1) / v1 * v1+(u0 * LB+u1) % v1=u0 * LB+u1:=by rw[gD];exact Nat.div_add_mod _ _
 have h0:FV plo vlo u2 u1 u0 v2 v1 (AD (plo++[u2,u1,u0]) / AD (vlo++[v2,v1])) (u0 * LB+u1 - AD (plo++[u2,u1,u0]) / AD (vlo++[v2,v1]) * v1)∨True:=.inr trivial
 refine⟨len,sp,sv,b2,b1,c2,c1,big,lt,hs,?_⟩
 have hP:0<LB ^ vlo.length:=gp A3
 have h1:=CF sp
 rw[len]at h1
 have hV:v1 * LB * LB ^ vlo.length≤AD (vlo++[v2,v1]):=by
  rw[HV,gD (v1 * LB),gM]
  omega
 rw[Nat.le_div_iff_mul_le hv1]
 generalize hq:AD (plo++[u2,u1,u0]) / AD (vlo++[v2,v1])=q
 have hqV:q * AD (vlo++[v2,v1])≤AD (plo++[u2,u1,u0]):=by rw[← hq];exact Nat.div_mul_le_self _ _
 have h2:q * (v1 * LB * LB ^ vlo.length)≤AD (plo++[u2,u1,u0]):=fx (gU q hV) hqV
 have h3:AD (plo++[u2,u1,u0])<((u0 * LB+u1) * LB+LB) * LB ^ vlo.length:=by
  rw[KB,len]
  have h4:(u0 * LB+u1) * LB+u2+1≤(u0 * LB+u1) * LB+LB:=by omega
  have h5:=gL (LB ^ vlo.length) h4
  rw[gW,gD _ (LB ^ vlo.length)]at h5
  omega
 have h6:q * v1 * LB * LB ^ vlo.length<((u0 * LB+u1) * LB+LB) * LB ^ vlo.length:=by
  have e:q * (v1 * LB * LB ^ vlo.length)=q * v1 * LB * LB ^ vlo.length:=by rw[gK,gK,gK]
  omega
 have h7:q * v1 * LB<(u0 * LB+u1) * LB+LB:=iD h6
 have h8:q * v1 * LB<(u0 * LB+u1+1) * LB:=by rw[gW];exact h7
 have:=iD h8
 omega
theorem FV.dec(h:FV plo vlo u2 u1 u0 v2 v1 g left)(hc:LB≤g∨left * LB+u2<g * v2):1≤g∧FV plo vlo u2 u1 u0 v2 v1 (g - 1) (left+v1):=by
 obtain⟨b1,b2,b3,b4⟩:=h.bounds
 have hlt:AD (plo++[u2,u1,u0]) / AD (vlo++[v2,v1])<g:=by
  rcases hc with hc | hc
  ·exact fy ((ge h.v_pos).2 (by rw[gD];exact h.lt)) hc
  ·exact TG (T:=0) b1 b4 (Nat.div_mul_le_self _ _) h.sum hc
 have hle:AD (plo++[u2,u1,u0]) / AD (vlo++[v2,v1])≤g - 1:=Nat.le_sub_one_of_lt hlt
 have hg1:1≤g:=gm (gF _) hlt
 refine⟨hg1,⟨h.len,h.sp,h.sv,h.b2,h.b1,h.c2,h.c1,h.big,h.lt,?_,hle⟩⟩
 clear hle hlt b1 b2 b3 b4
 obtain⟨k,rfl⟩:∃k,g=k+1:=⟨g - 1,by omega⟩
 have:=h.sum
 rw[gW]at this
 rw[iN]
 omega
theorem FV.done(h:FV plo vlo u2 u1 u0 v2 v1 g left)(hg:g<LB)(hc:g * v2≤left * LB+u2):g≤AD (plo++[u2,u1,u0]) / AD (vlo++[v2,v1])+1:=by
 obtain⟨b1,b2,b3,b4⟩:=h.bounds
 have hq:AD (plo++[u2,u1,u0])<(AD (plo++[u2,u1,u0]) / AD (vlo++[v2,v1])+1) * AD (vlo++[v2,v1]):=by
  have:=Nat.div_add_mod (AD (plo++[u2,u1,u0])) (AD (vlo++[v2,v1]))
  have h2:=gO (AD (plo++[u2,u1,u0])) h.v_pos
  rw[gW,gD]
  omega
 have hv1:1≤v1:=by have:=h.big;have:LB=4294967296:=rfl;omega
 exact Pu (gp A3) b2 b3 hq h.sum hc hg hv1
theorem FV.top(h:FV plo vlo u2 u1 u0 v2 v1 g left):u0≤v1:=by
 obtain⟨b1,b2,b3,b4⟩:=h.bounds
 have hP:0<LB ^ vlo.length:=gp A3
 have h1:((u0 * LB+u1) * LB+u2) * LB ^ vlo.length<(v1 * LB+v2+1) * LB ^ vlo.length * LB:=by
  have:=h.lt
  have h2:AD (vlo++[v2,v1]) * LB≤(v1 * LB+v2+1) * LB ^ vlo.length * LB:=gL LB (Nat.le_of_lt b3)
  omega
 have h3:(v1 * LB+v2+1) * LB ^ vlo.length * LB=(v1 * LB+v2+1) * LB * LB ^ vlo.length:=by rw[gK,gD (LB ^ _),← gK]
 rw[h3]at h1
 have h4:=iD h1
 have h5:(v1 * LB+v2+1) * LB≤(v1+1) * LB * LB:=gL LB (by rw[gW];have:=h.c2;omega)
 have h6:u0 * LB * LB≤(u0 * LB+u1) * LB:=gL LB (by omega)
 have h7:u0 * LB * LB<(v1+1) * LB * LB:=by omega
 have h8:=iD (iD h7)
 omega
end
theorem Hn{q:Nat}(hq:q<LB){x:Nat}:∀ {P:List (Nat×Nat)}{c br:Nat},(∀p∈P,p.2<LB)→c<LB→(Bo q (P++[(x,0)]) c br).2.1=0
 | [],c,br,_,hc=>by
  show(c+q * 0) / LB=0
  rw[gn,gJ,gw hc]
 | p::P,c,br,h,hc=>by
  have hp:=h p gC
  have hd:(c+q * p.2) / LB<LB:=by
   rw[ge A3]
   have:q * p.2≤(LB - 1) * (LB - 1):=gz (by omega) (by omega)
   have hB:LB=4294967296:=rfl
   rw[hB]at this hc ⊢
   omega
  exact Hn (P:=P) (c:=(c+q * p.2) / LB) hq (fun r hr=>h r (gG _ hr)) hd
theorem F3(q:Nat):∀ (P:List (Nat×Nat))(c br:Nat),BV (Bo q P c br).1
 | [],_,_=>fun x hx=>by cases hx
 | p::P,c,br=>fun x hx=>by
  rcases hZ.1 hx with e | e
  ·rw[e];exact gO _ A3
  ·exact F3 q P _ _ x e
theorem IQ(q:Nat):∀ (P:List (Nat×Nat))(c br:Nat),(Bo q P c br).1.length=P.length
 | [],_,_=>rfl
 | p::P,c,br=>by show(Bo q P _ _).1.length+1=P.length+1;rw[IQ q P]
theorem Oj(q:Nat):∀ (P:List (Nat×Nat))(c br:Nat),br≤1→(Bo q P c br).2.2≤1
 | [],_,_,h=>h
 | p::P,c,br,h=>Oj q P _ _ (by split<;>omega)
theorem NH{a b:List Nat}(h:a.length=b.length):(a.zip b).map Prod.fst=a:=by
 rw[List.map_fst_zip];omega
theorem NI{a b:List Nat}(h:a.length=b.length):(a.zip b).map Prod.snd=b:=by
 rw[List.map_snd_zip];omega
theorem LP(v:List Nat):AD (v++[0])=AD v:=by
 rw[BA]
 show _+_ * (0+LB * 0)=_
 simp
theorem XW       {p v : List Nat} (hl : p.length = v.length + 1) (hp : BV  p) (hv : BV  v) (hV : 0 < AD   v) {g : Nat} (h1 : AD   p / AD   v ≤ g) (h2 : g ≤ AD   p / AD   v + 1) (hg : g < LB) :
    ((Bo g (p.zip (v++[0])) 0 0).2.2=0→g=AD p / AD v∧AD (Bo g (p.zip (v++[0])) 0 0).1=AD p % AD v) ∧
    ((Bo g (p.zip (v++[0])) 0 0).2.2≠0→g=AD p / AD v+1∧AD (DS ((Bo g (p.zip (v++[0])) 0 0).1.zip (v++[0])) 0).1=AD p % AD v):=by
  have hlz:p.length=(v++[0]).length:=by rw[gI];exact hl
  have hsm:∀q∈p.zip (v++[0]),q.1<LB∧q.2<LB:=fun q hq=>by
    have hz:=List.of_mem_zip (a:=q.1) (b:=q.2) hq
    refine⟨hp _ hz.1,?_⟩
    rcases List.mem_append.1 hz.2 with h | h
    · exact hv _ h
    · rw[List.mem_singleton.1 h];exact A3
  have hc:(Bo g (p.zip (v++[0])) 0 0).2.1=0:=by
    obtain⟨pl,x,rfl⟩:∃pl x,p=pl++[x]:=by
      rcases List.eq_nil_or_concat p with h | ⟨pl,x,h⟩
      · rw[h]at hl;simp at hl
      · exact⟨pl,x,by rw[h];simp⟩
    have hpl:pl.length=v.length:=by rw[gI]at hl;simpa using hl
    rw[List.zip_append hpl]
    exact Hn hg (fun q hq=>hv _ (List.of_mem_zip (a:=q.1) (b:=q.2) hq).2) A3
  have hval:=Ll g (p.zip (v++[0])) 0 0 (fun q hq=>(hsm q hq).1) (gF _)
  have hbr:=Oj g (p.zip (v++[0])) 0 0 (gF _)
  have hlen:(p.zip (v++[0])).length=v.length+1:=by rw[iE,← hlz,Nat.min_self,hl]
  have hDl:=IQ g (p.zip (v++[0])) 0 0
  have hDs:=F3 g (p.zip (v++[0])) 0 0
  rw[NH hlz,NI hlz,LP,hc,hlen]at hval
  generalize Bo g (p.zip (v++[0])) 0 0=T at *
  obtain⟨D,c,br⟩:=T
  simp only at *
  rw[hlen]at hDl
  have hD:=CF hDs
  rw[hDl]at hD
  have hVl:=CF hv
  have hPow:LB ^ v.length≤LB ^ (v.length+1):=g0 A3 (gZ _)
  have key:=Tm (U:=AD p) (V:=AD v) (g:=g) (D:=AD D) (N:=LB ^ (v.length+1)) (br:=br) hV h1 h2 hD hbr (by
    generalize g * AD v=z at *
    generalize LB ^ (v.length+1)=N at *
    rw[gA]at hval
    omega)
  refine⟨fun h=>key.1 h,fun h=>?_⟩
  have hb1:br=1:=by omega
  obtain⟨k1,k2⟩:=key.2 hb1
  refine⟨k1,?_⟩
  have hlz2:D.length=(v++[0]).length:=by rw[gI,hDl];rfl
  have ha:=JS (D.zip (v++[0])) 0
  rw[NH hlz2,NI hlz2,LP,iE,← hlz2,Nat.min_self,hDl]at ha
  have hs:=CF (E6 (D.zip (v++[0])) 0)
  rw[G7,iE,← hlz2,Nat.min_self,hDl]at hs
  have hr:=gO (AD p) hV
  generalize AD (DS (D.zip (v++[0])) 0).1=O at *
  generalize (DS (D.zip (v++[0])) 0).2=c2 at *
  generalize hN:LB ^ (v.length+1)=N at *
  have hc2:c2=1:=by
    rcases fv c2 1 with h | h
    · have:c2=0:=by omega
      rw[this,gn]at ha
      omega
    · rcases fv           1 c2 with h' | h'
      · have:=gU N h'
        omega
      · omega
  rw[hc2,gB]at ha
  omega
structure Ov(u0 v cu qs:List Nat)(i:Nat):Prop where
 len:cu.length=u0.length
 low:cu.take i=u0.take i
 sm:BV cu
 rem:AD (cu.drop i)=AD (u0.drop i) % AD v
 qsm:BV qs
 quo:AD (qs.drop i)=AD (u0.drop i) / AD v
theorem El{l:List Nat}{i x:Nat}(h:l[i]? = some x):AD (l.drop i)=x+LB * AD (l.drop (i+1)):=by
 have hi:i<l.length:=by
  rcases fv i l.length with h' | h'
  ·exact h'
  ·rw[gH h']at h;cases h
 rw[gc hi]
 have:l[i]=x:=by rw[f9 hi]at h;exact Option.some.inj h
 rw[this];rfl
theorem BV.drop{l:List Nat}(h:BV l)(i:Nat):BV (l.drop i):=fun x hx=>h x (List.mem_of_mem_drop hx)
theorem BV.take{l:List Nat}(h:BV l)(i:Nat):BV (l.take i):=fun x hx=>h x (List.mem_of_mem_take hx)
theorem Ov.part{u0 v cu qs:List Nat}{i:Nat}(h:Ov u0 v cu qs (i+1))(hv:BV v)(hV:0<AD v)(hi:i+v.length+1≤cu.length):
  AD ((cu.drop i).take (v.length+1))=AD (cu.drop i)∧AD (cu.drop i)<AD v * LB∧AD (cu.drop (i+v.length+1))=0:=by
 have hx:cu[i]? = some cu[i]:=f9 (by omega)
 generalize cu[i]=x at hx
 have hxs:=h.sm x (gR hx)
 have e1:=El hx
 have hr:=gO (AD (u0.drop (i+1))) hV
 rw[← h.rem]at hr
 have hVl:=CF hv
 have hsplit:cu.drop (i+1)=(cu.drop (i+1)).take v.length++cu.drop (i+v.length+1):=by
  have:=(iO v.length (cu.drop (i+1))).symm
  rw[g8]at this
  rw[show i+v.length+1=i+1+v.length by omega]
  exact this
 have hval:=congrArg AD hsplit
 rw[BA]at hval
 have htl:((cu.drop (i+1)).take v.length).length=v.length:=by rw[gS,gr];omega
 rw[htl]at hval
 have hz:AD (cu.drop (i+v.length+1))=0:=by
  rcases gq (AD (cu.drop (i+v.length+1)))with h0 | h0
  ·exact h0
  ·exfalso
   have:=gU (LB ^ v.length) h0
   omega
 refine⟨?_,?_,hz⟩
 ·rw[e1]
  have hd:cu.drop i=x::cu.drop (i+1):=by
   rw[gc (show i<cu.length by omega)]
   have:cu[i]=x:=by rw[f9 (by omega)]at hx;exact Option.some.inj hx
   rw[this]
  rw[hd,List.take_succ_cons]
  show x+LB * _=_
  rw[hval,hz]
  simp
 ·rw[e1]
  have:LB * (AD (cu.drop (i+1))+1)≤LB * AD v:=gU LB hr
  rw[gD (AD v)]
  rw[gM]at this
  omega
theorem Ov.step{u0 v cu qs:List Nat}{i:Nat}(h:Ov u0 v cu qs (i+1))(hv:BV v)(hV:0<AD v)(hi:i+v.length+1≤cu.length)(hq:i<qs.length){D:List Nat}(hD:D.length=v.length+1)(hDs:BV D)
  (hDv:AD D=AD ((cu.drop i).take (v.length+1)) % AD v) {x:Nat} (hx:x=AD ((cu.drop i).take (v.length+1)) / AD v):Ov u0 v (cu.take i++D++cu.drop (i+v.length+1)) (qs.set i x) i:=by
 obtain⟨p1,p2,p3⟩:=h.part hv hV hi
 rw[p1]at hDv hx
 have hu:cu[i]? = some cu[i]:=f9 (by omega)
 generalize cu[i]=y at hu
 have hys:=h.sm y (gR hu)
 have hu0:u0[i]? = some y:=by
  have:=congrArg (fun l=>l[i]?) h.low
  simp only[iP (show i<i+1 by omega)]at this
  rw[← this];exact hu
 have e1:=El hu
 have e2:=El hu0
 have hR:=gO (AD (u0.drop (i+1))) hV
 have hW:AD (u0.drop (i+1))=AD (u0.drop (i+1)) / AD v * AD v+AD (u0.drop (i+1)) % AD v:=by
  have:=Nat.div_add_mod (AD (u0.drop (i+1))) (AD v)
  rw[gD]at this
  exact this.symm
 have hds:=Pp (V:=AD v) (Q:=AD (u0.drop (i+1)) / AD v) (R:=AD (u0.drop (i+1)) % AD v) (u:=y) hV hR hW
 rw[← h.rem]at hds
 have e3:AD (u0.drop (i+1)) * LB+y=AD (u0.drop i):=by rw[e2,gD];omega
 have e4:AD (cu.drop (i+1)) * LB+y=AD (cu.drop i):=by rw[e1,gD];omega
 rw[e3,e4]at hds
 have htl:(cu.take i).length=i:=by rw[gS];omega
 have hxs:x<LB:=by
  rw[hx,ge hV,gD]
  exact p2
 refine⟨?_,?_,?_,?_,?_,?_⟩
 ·simp only[gI,gS,gr,hD]
  have:=h.len
  omega
 ·rw[gP,List.take_left' htl]
  have:=congrArg (List.take i) h.low
  rw[List.take_take,List.take_take,hX (gZ i)]at this
  exact this
 ·exact((h.sm.take i).append hDs).append (h.sm.drop _)
 ·rw[gP,List.drop_left' htl,BA,p3,gn,gJ,hDv]
  exact hds.2.symm
 ·intro z hz
  rcases List.mem_or_eq_of_mem_set hz with h' | h'
  ·exact h.qsm z h'
  ·rw[h'];exact hxs
 ·have hqi:(qs.set i x)[i]? = some x:=by rw[iQ hq]
  rw[El hqi]
  have:(qs.set i x).drop (i+1)=qs.drop (i+1):=by
   rw[List.drop_set]
   simp
  rw[this,h.quo,hx,hds.1,gD LB]
  omega
theorem G8(x:Nat):∀ (l:List Nat)(c:Nat),(Iy l x c).length=l.length+1
 | [],_=>rfl
 | y::l,c=>by show(Iy l x _).length+1=_;rw[G8 x l];rfl
theorem Ei{x:Nat}(hx:x<LB):∀ {l:List Nat}{c:Nat},BV l→c<LB→BV (Iy l x c)
  | [],c,_,hc=>fun z hz=>by rw[List.mem_singleton.1 hz];exact hc
  | y::l,c,hl,hc=>fun z hz=>by
    have hy:=hl y gC
    rcases hZ.1 hz with e | e
    · rw[e];exact gO _ A3
    · refine Ei        hx hl.tail ?_ z e
      rw[ge A3]
      have:x * y≤(LB - 1) * (LB - 1):=gz (by omega) (by omega)
      have hB:LB=4294967296:=rfl
      rw[hB]at this hc ⊢
      omega
theorem EU{l:List Nat}{n:Nat}(h:l.length=n+1):∃lo t,l=lo++[t]∧lo.length=n:=by
 refine⟨l.take n,l[n]'(by omega),?_,by rw[gS];omega⟩
 have h1:=(iO n l).symm
 rw[gc (by omega),gt (by omega)]at h1
 exact h1
theorem Cp(lo:List Nat)(t:Nat):AD (lo++[t])=AD lo+LB ^ lo.length * t:=by
 rw[BA]
 show _+_ * (t+LB * 0)=_
 simp
theorem dN{lo:List Nat}{bt n:Nat}(hs:BV (lo++[bt]))(hn:n≤31)(h1:2147483648≤bt * 2 ^ n)(h2:bt * 2 ^ n<4294967296):
  AD ((Iy (lo++[bt]) (2 ^ n) 0).take (lo.length+1))=AD (lo++[bt]) * 2 ^ n∧∃vlo v1,(Iy (lo++[bt]) (2 ^ n) 0).take (lo.length+1)=vlo++[v1]∧vlo.length=lo.length∧2147483648≤v1:=by
 have hLB:LB=4294967296:=rfl
 have e32:(2:Nat) ^ 32=4294967296:=by decide
 have h2n:0<2 ^ n:=gp (by decide)
 have hn32:2 ^ n<LB:=by
  rw[hLB,← e32]
  exact Nat.pow_lt_pow_right (by decide) (by omega)
 have hbt:(bt+1) * 2 ^ n≤4294967296:=by
  have e:(4294967296:Nat)=2 ^ (32 - n) * 2 ^ n:=by rw[← Nat.pow_add,show 32 - n+n=32 by omega]
  rw[e]at h2 ⊢
  exact gL _ (iD h2)
 have hval:=I4 (lo++[bt]) (2 ^ n) 0
 have hlen:=G8 (2 ^ n) (lo++[bt]) 0
 have hsm:=Ei hn32 hs (show 0<LB from A3)
 have hll:(lo++[bt]).length=lo.length+1:=by simp
 rw[hll]at hlen
 generalize Iy (lo++[bt]) (2 ^ n) 0=W at *
 obtain⟨V,t,rfl,hV⟩:=EU hlen
 have hlo:BV lo:=fun x hx=>hs x (iF _ hx)
 have hvl:=CF hlo
 have hsV:BV V:=fun x hx=>hsm x (iF _ hx)
 rw[Cp,hV]at hval
 have hup:AD (lo++[bt]) * 2 ^ n<LB ^ (lo.length+1):=by
  rw[Cp]
  have g1:AD lo+LB ^ lo.length * bt<LB ^ lo.length * (bt+1):=by rw[gM,gB];omega
  have g2:(AD lo+LB ^ lo.length * bt) * 2 ^ n<LB ^ lo.length * (bt+1) * 2 ^ n:=iW g1 h2n
  have g3:LB ^ lo.length * (bt+1) * 2 ^ n≤LB ^ (lo.length+1):=by
   rw[gg,gK]
   exact gU _ (by rw[hLB];exact hbt)
  omega
 have ht:t=0:=by
  rcases gq t with h | h
  ·exact h
  ·exfalso
   have:=gU (LB ^ (lo.length+1)) h
   omega
 have htk:(V++[t]).take (lo.length+1)=V:=by rw[← hV];simp
 rw[htk]
 rw[ht,gn,gJ,gJ]at hval
 refine⟨hval,?_⟩
 obtain⟨vlo,v1,rfl,hvlo⟩:=EU hV
 refine⟨vlo,v1,rfl,hvlo,?_⟩
 have hvs:BV vlo:=fun x hx=>hsV x (iF _ hx)
 have hvv:=CF hvs
 rw[Cp,hvlo,Cp]at hval
 rw[hvlo]at hvv
 have g4:LB ^ lo.length * 2147483648≤(AD lo+LB ^ lo.length * bt) * 2 ^ n:=by
  rw[gQ,gK]
  exact fx (gU _ h1) (Nat.le_add_left _ _)
 rcases fv v1 2147483648 with h | h
 ·exfalso
  have:=gU (LB ^ lo.length) (show v1+1≤2147483648 from h)
  rw[gM,gB]at this
  omega
 ·exact h
theorem dM{la vlo:List Nat}{v1 n:Nat}(hs:BV la)(hn:n≤31)(hv1:2147483648≤v1)(hlen:vlo.length+1≤la.length):
  AD ((Iy la (2 ^ n) 0).drop (la.length - vlo.length))<AD (vlo++[v1]):=by
 have hLB:LB=4294967296:=rfl
 have e31:(2:Nat) ^ 31=2147483648:=by decide
 have h2n:2 ^ n≤2147483648:=by rw[← e31];exact g0 (by decide) hn
 have hval:=I4 la (2 ^ n) 0
 have hl:=G8 (2 ^ n) la 0
 have hsm:=Ei (show 2 ^ n<LB by rw[hLB];omega) hs (show 0<LB from A3)
 generalize Iy la (2 ^ n) 0=W at *
 obtain⟨U,t,rfl,hU⟩:=EU hl
 rw[Cp,hU,gJ]at hval
 have hA:=CF hs
 have ht:t<2 ^ n:=by
  rcases fv t (2 ^ n)with h | h
  ·exact h
  ·exfalso
   have g1:=gU (LB ^ la.length) h
   have g2:AD la * 2 ^ n<LB ^ la.length * 2 ^ n:=iW hA (gp (by decide))
   omega
 have hd:(U++[t]).drop (la.length - vlo.length)=U.drop (la.length - vlo.length)++[t]:=by
  rw[List.drop_append_of_le_length (by omega)]
 rw[hd,Cp,Cp]
 have hsU:BV U:=fun x hx=>hsm x (iF _ hx)
 have h3:=CF (hsU.drop (la.length - vlo.length))
 have hdl:(U.drop (la.length - vlo.length)).length=vlo.length:=by rw[gr];omega
 rw[hdl]at h3 ⊢
 have g1:LB ^ vlo.length * (t+1)≤LB ^ vlo.length * v1:=gU _ (by omega)
 rw[gM,gB]at g1
 omega
theorem F7:∀ (l w:List Nat),(l.take w.length).zip w=l.zip w
 | [],w=>by simp
 | _::_,[]=>by simp
 | x::l,y::w=>by
  rw[gh,List.take_succ_cons,iG,iG,F7 l w]
theorem ZM{d w:List Nat}(h:d.length=w.length)(x:List Nat):(d++x).zip w=d.zip w:=by
 have:=F7 (d++x) w
 rw[← h,List.take_left]at this
 exact this.symm
end
end Go.Proofs.YtfgmceookgelcaaGreatDoor.Am
