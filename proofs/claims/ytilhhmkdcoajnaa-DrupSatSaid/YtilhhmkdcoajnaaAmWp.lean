/- Code by symbolic execution: what must hold ahead of it, by its text; conditions: none. -/
import Derived.Test.YtilhhmkdcoajnaaAmLog
set_option linter.unusedVariables false
set_option linter.unusedSimpArgs false
namespace Go.Proofs.Ytilhhmkdcoajnaa.Am
open Go
noncomputable section
def okV{α:Type}(x:Option α)(K:α→Prop):Prop:=match x with
  | some v=>K v
  | none=>False
theorem Qm{α:Type}(v:α)(K:α→Prop):okV (some v) K=K v:=Eq.trans rfl rfl
section
variable(E:Env)
def Qe(f:AV)(as:List AV)(K:AV→ASt→Prop)(s:ASt):Prop:=match f with
  | .func f first cap=>WF E f (first++(as++cap)) K s
  | .yield l=>WR E l as K s
  | _=>False
def Qc(sh:Sh)(xs:List AV)(K:AV→ASt→Prop)(s:ASt):Prop:=match sh with
  | .p1 f=>match xs with
    | a::_=>okV (f a) (fun v=>K v s)
    | []=>False
  | .p2 f=>match xs with
    | a::b::_=>okV (f a b) (fun v=>K v s)
    | _=>False
  | .p f=>okV (f xs) (fun v=>K v s)
  | .r1 f=>match xs with
    | a::_=>okV (f s a) (fun v=>K v s)
    | []=>False
  | .r f=>okV (f s xs) (fun v=>K v s)
  | .mk f=>okV (f xs) (fun p=>K (p.2.val s.next) (AH s p.1))
  | .e f=>okV (f s xs) (fun p=>K p.1 p.2)
  | .call f=>WF E f xs K s
  | .callv=>match xs with
    | f::as=>Qe E f as K s
    | []=>False
def Qh (loc var:List AV):List CX→List AV
  | []=>[]
  | x::l=>cev loc var x::Qh loc var l
def Qn(s:ASt)(loc var:List AV):List CRd→Prop
  | []=>True
  | r::l=>Fw s loc var r=true∧Qn s loc var l
def Qd(ag:List CRd)(d:Jv)(loc var:List AV)(k:List AV→List AV→ASt→Prop)(v:AV)(s:ASt):Prop:=match d with
  | .push=>Qn s (v::loc) var ag∧k (v::loc) var s
  | .set j=>Qn s loc (upd v var j) ag∧k loc (upd v var j) s
def Tn(v:AV)(x y:List AV→List Nat→ASt→Prop)(var:List AV)(marks:List Nat)(s:ASt):Prop:=match v with
  | .bool true=>x var marks s
  | .bool false=>y var marks s
  | _=>False
def HM(k:List AV→List Nat→ASt→Prop)(Q:A6→Prop)(r:A6):Prop:=match r.exit with
  | .normal=>k r.var r.marks r.st
  | _=>Q r
def wpG(b:Bool)(sh:Sh)(xs:List AV)(ag:List CRd)(d:Jv)(loc var:List AV)(k:List AV→List AV→ASt→Prop)(s:ASt):Prop:=match b with
  | true=>Qc E sh xs (Qd ag d loc var k) s
  | false=>Qd [] d loc var k Au s
def Qb:List AA→(List AV→ASt→Prop)→List AV→List AV→ASt→Prop
  | [],K,_,var,s=>K var s
  | it::l,K,loc,var,s=>wpG E (Ba loc var it.guard) it.sh (Qh loc var it.xs) it.again it.dst loc var (Qb l K) s
def Qa(rnd:Option Nat):AX→(A6→Prop)→List AV→List Nat→ASt→Prop
  | .skip,Q,var,marks,s=>Q ⟨.normal,var,marks,s⟩
  | .ret,Q,var,marks,s=>Q ⟨.ret,var,marks,s⟩
  | .exit id,Q,var,marks,s=>Q ⟨.exit id,var,marks,s⟩
  | .never,_,_,_,_=>False
  | .ops l,Q,var,marks,s=>Qb E l (fun v s'=>Q ⟨.normal,v,marks,s'⟩) [] var s
  | .seq a b,Q,var,marks,s=>Qa rnd a (HM (Qa rnd b Q) Q) var marks s
  | .cond x a b,Q,var,marks,s=>Tn (cev [] var x) (Qa rnd a Q) (Qa rnd b Q) var marks s
  | .block id c,Q,var,marks,s=>Qa rnd c (DM id Q) var marks s
  | .loop c,Q,var,marks,s=>WC E rnd (.loop c) Q var marks s
  | .rangeFunc fn f ps a b,Q,var,marks,s=>WC E rnd (.rangeFunc fn f ps a b) Q var marks s
end
section
variable{E:Env}{rnd:Option Nat}{Q Q':A6→Prop}{var loc:List AV}{marks:List Nat}{s:ASt}{K K':AV→ASt→Prop}{KI:List AV→ASt→Prop}
theorem OM:∀ (l:List CX),Qh loc var l=D0 loc var l
  | []=>rfl
  | x::l=>by show cev loc var x::Qh loc var l=cev loc var x::D0 loc var l;rw[OM l]
theorem KU:∀ {l:List CRd},Qn s loc var l→EP s loc var l=true
  | [],_=>rfl
  | r::l,h=>by show(Fw s loc var r && EP s loc var l)=true;rw[h.1,KU h.2];rfl
theorem F6{α:Type}{x:Option α}{K:α→Prop}(h:okV x K):∃v,x=some v∧K v:=by
  cases x with
  | none=>exact h.elim
  | some v=>exact⟨v,rfl,h⟩
theorem dX{f:AV}{as:List AV}(h:Qe E f as K s):∃n p,GY (D9 E n) f as s=some p∧K p.1 p.2:=by
  cases f with
  | func f first cap=>obtain⟨n,p,h1,h2⟩:=h;exact⟨n,p,h1,h2⟩
  | yield l=>obtain⟨n,p,h1,h2⟩:=h;exact⟨n,p,h1,h2⟩
  | _=>exact h.elim
theorem dW      {sh : Sh} {xs : List CX} (h : Qc E sh (Qh loc var xs) K s) : ∃ n p, shA (D9   E n) sh xs loc var s = some p ∧ K p.1 p.2 := by
  rw[OM]at h
  cases sh with
  | p1 f =>
    cases xs with
    | nil=>exact h.elim
    | cons x l =>
      obtain⟨v,h1,h2⟩:=F6 h
      exact⟨0,(v,s),by show Dy s (f (cev loc var x))=_;rw[h1];rfl,h2⟩
  | p2 f =>
    cases xs with
    | nil=>exact h.elim
    | cons x l =>
      cases l with
      | nil=>exact h.elim
      | cons y l =>
        obtain⟨v,h1,h2⟩:=F6 h
        exact⟨0,(v,s),by show Dy s (f (cev loc var x) (cev loc var y))=_;rw[h1];rfl,h2⟩
  | p f =>
    obtain⟨v,h1,h2⟩:=F6 h
    exact⟨0,(v,s),by show Dy s (f (D0 loc var xs))=_;rw[h1];rfl,h2⟩
  | r1 f =>
    cases xs with
    | nil=>exact h.elim
    | cons x l =>
      obtain⟨v,h1,h2⟩:=F6 h
      exact⟨0,(v,s),by show Dy s (f s (cev loc var x))=_;rw[h1];rfl,h2⟩
  | r f =>
    obtain⟨v,h1,h2⟩:=F6 h
    exact⟨0,(v,s),by show Dy s (f s (D0 loc var xs))=_;rw[h1];rfl,h2⟩
  | mk f =>
    obtain⟨v,h1,h2⟩:=F6 h
    exact⟨0,(v.2.val s.next,AH s v.1),by show PR s (f (D0 loc var xs))=_;rw[h1];rfl,h2⟩
  | e f =>
    obtain⟨v,h1,h2⟩:=F6 h
    exact⟨0,v,h1,h2⟩
  | call f=>obtain⟨n,p,h1,h2⟩:=h;exact⟨n,p,h1,h2⟩
  | callv =>
    cases xs with
    | nil=>exact h.elim
    | cons x l=>exact dX h
theorem dV:∀ {l:List AA}{loc var:List AV}{s:ASt},Qb E l KI loc var s→WI E l KI loc var s:=by
  intro l
  induction l with
  | nil=>intro loc var s h;exact WI.nil h
  | cons it l ih =>
    intro loc var s h
    have dst:∀ {ag:List CRd} {v:AV} {s:ASt},Qd ag it.dst loc var (Qb E l KI) v s→Dst E ag it.dst l KI loc var v s:=by
      intro ag v s h
      unfold Qd at h
      unfold Dst
      cases hd:it.dst with
      | push=>rw[hd]at h;exact⟨KU h.1,ih h.2⟩
      | set j=>rw[hd]at h;exact⟨KU h.1,ih h.2⟩
    unfold Qb at h
    cases hw:Ba loc var it.guard with
    | true =>
      rw[hw]at h
      have h:Qc E it.sh (Qh loc var it.xs) (Qd it.again it.dst loc var (Qb E l KI)) s:=h
      obtain⟨n,p,h1,h2⟩:=dW h
      exact WI.item hw h1 (dst h2)
    | false =>
      rw[hw]at h
      have h:Qd [] it.dst loc var (Qb E l KI) Au s:=h
      exact WI.off hw (dst h)
theorem EE:∀ {c:AX}{Q:A6→Prop}{var:List AV}{marks:List Nat}{s:ASt},Qa E rnd c Q var marks s→WC E rnd c Q var marks s:=by
  intro c
  induction c with
  | skip=>intro Q var marks s h;exact WC.skip h
  | ret=>intro Q var marks s h;exact WC.ret h
  | exit id=>intro Q var marks s h;exact WC.exit h
  | never=>intro Q var marks s h;exact h.elim
  | ops l=>intro Q var marks s h;exact WC.ops (dV h)
  | seq a b iha ihb =>
    intro Q var marks s h
    refine WC.seq ((iha h).mono ?_)
    intro r hr
    unfold HM at hr
    unfold UH
    cases he:r.exit with
    | normal=>rw[he]at hr;exact ihb hr
    | exit id=>rw[he]at hr;exact hr
    | ret=>rw[he]at hr;exact hr
  | cond x a b iha ihb =>
    intro Q var marks s h
    unfold Qa Tn at h
    split at h<;>first | exact h.elim | skip
    · rename_i ht;exact WC.cond ht (iha h)
    · rename_i ht;exact WC.cond ht (ihb h)
  | block id c ih=>intro Q var marks s h;exact WC.block (ih h)
  | loop c _=>intro Q var marks s h;exact h
  | rangeFunc fn f ps a b=>intro Q var marks s h;exact h
theorem WC.loop'{c:AX}(h:Qa E rnd c (HM (WC E rnd (.loop c) Q) Q) var marks s):WC E rnd (.loop c) Q var marks s:=by
  refine WC.loop ((EE h).mono ?_)
  intro r hr
  unfold HM at hr
  unfold UH
  cases he:r.exit with
  | normal=>rw[he]at hr;exact hr
  | exit id=>rw[he]at hr;exact hr
  | ret=>rw[he]at hr;exact hr
theorem WF.body'{f:FuncId}{as:List AV}{cf:Ar}(hn:E.nat f as s=none)(hf:AQ E.P f=some cf)(ha:as.length=cf.na)(h:Qa E none cf.body (Jw E.P cf.results K) (Ql as cf.nv) [] s):WF E f as K s:=WF.body hn hf ha (EE h)
end
theorem Qq(a:AV)(l:List AV):nth (a::l) 0=a:=rfl
theorem Qr(a:AV)(l:List AV)(n:Nat):nth (a::l) (n+1)=nth l n:=rfl
theorem Qo(v a:AV)(l:List AV):upd v (a::l) 0=v::l:=rfl
theorem Qp(v a:AV)(l:List AV)(n:Nat):upd v (a::l) (n+1)=a::upd v l n:=rfl
theorem Qk(loc var:List AV)(i:Nat):cev loc var (.loc i)=nth loc i:=rfl
theorem Qj(loc var:List AV)(i:Nat):cev loc var (.var i)=nth var i:=rfl
theorem Qi(loc var:List AV)(v:AV):cev loc var (.const v)=v:=rfl
theorem Qf(loc var:List AV):Ba loc var none=true:=rfl
theorem Qg(loc var:List AV)(x:CX)(b:Bool):Ba loc var (some (x,b))=isB b (cev loc var x):=rfl
theorem Qs(E:Env)(sh:Sh)(xs:List AV)(ag:List CRd)(d:Jv)(loc var:List AV)(k:List AV→List AV→ASt→Prop)(s:ASt):wpG E true sh xs ag d loc var k s=Qc E sh xs (Qd ag d loc var k) s:=rfl
theorem Qt(E:Env)(sh:Sh)(xs:List AV)(ag:List CRd)(d:Jv)(loc var:List AV)(k:List AV→List AV→ASt→Prop)(s:ASt):wpG E false sh xs ag d loc var k s=Qd [] d loc var k Au s:=rfl
theorem Qu(x y:List AV→List Nat→ASt→Prop)(var:List AV)(m:List Nat)(s:ASt):Tn (.bool true) x y var m s=x var m s:=rfl
theorem Qv(x y:List AV→List Nat→ASt→Prop)(var:List AV)(m:List Nat)(s:ASt):Tn (.bool false) x y var m s=y var m s:=rfl
theorem Qw(k:List AV→List Nat→ASt→Prop)(Q:A6→Prop)(v:List AV)(m:List Nat)(s:ASt):HM k Q ⟨.normal,v,m,s⟩=k v m s:=rfl
theorem Qx(k:List AV→List Nat→ASt→Prop)(Q:A6→Prop)(v:List AV)(m:List Nat)(s:ASt):HM k Q ⟨.ret,v,m,s⟩=Q ⟨.ret,v,m,s⟩:=rfl
theorem Qy(k:List AV→List Nat→ASt→Prop)(Q:A6→Prop)(id:Nat)(v:List AV)(m:List Nat)(s:ASt):HM k Q ⟨.exit id,v,m,s⟩=Q ⟨.exit id,v,m,s⟩:=rfl
theorem Qz(id:Nat)(Q:A6→Prop)(v:List AV)(m:List Nat)(s:ASt):DM id Q ⟨.normal,v,m,s⟩=Q ⟨.normal,v,m,s⟩:=rfl
theorem Ra(id:Nat)(Q:A6→Prop)(v:List AV)(m:List Nat)(s:ASt):DM id Q ⟨.ret,v,m,s⟩=Q ⟨.ret,v,m,s⟩:=rfl
theorem Rb(id id':Nat)(Q:A6→Prop)(v:List AV)(m:List Nat)(s:ASt):DM id Q ⟨.exit id',v,m,s⟩=if id'=id then Q ⟨.normal,v,m,s⟩else Q ⟨.exit id',v,m,s⟩:=by
  unfold DM
  by_cases h:id'=id
  · subst h;simp
  · have:Nat.beq id' id=false:=by
      cases hb:Nat.beq id' id with
      | true=>exact absurd (pI hb) h
      | false=>rfl
    simp[h,this]
theorem Rc(P:Program)(rs:List (CX×Option TypeId))(K:AV→ASt→Prop)(v:List AV)(m:List Nat)(s:ASt):Jw P rs K ⟨.ret,v,m,s⟩=okV (unmark s m) (fun s'=>okV (Br P s' v rs) (fun l=>K (Bf l) s')):=by
  unfold Jw
  apply propext
  constructor
  · rintro⟨_,s',h1,l,h2,h3⟩
    have h1:unmark s m=some s':=h1
    have h2:Br P s' v rs=some l:=h2
    rw[h1,Qm,h2,Qm];exact h3
  · intro h
    obtain⟨s',h1,h⟩:=F6 h
    obtain⟨l,h2,h3⟩:=F6 h
    exact⟨rfl,s',h1,l,h2,h3⟩
theorem Rd(P:Program)(rs:List (CX×Option TypeId))(K:AV→ASt→Prop)(v:List AV)(m:List Nat)(s:ASt):Jw P rs K ⟨.normal,v,m,s⟩=okV (unmark s m) (fun s'=>okV (Br P s' v rs) (fun l=>K (Bf l) s')):=by
  rw[← Rc];rfl
theorem Re(s:ASt):unmark s []=some s:=rfl
theorem Rf(P:Program)(s:ASt)(v:List AV):Br P s v []=some []:=rfl
theorem Rg(P:Program)(s:ASt)(v:List AV)(x:CX)(l:List (CX×Option TypeId)):Br P s v ((x,none)::l)=(Br P s v l).bind fun r=>some (cev [] v x::r):=rfl
theorem Rh(v:AV):Bf [v]=v:=rfl
theorem Ri:Bf []=.tuple []:=rfl
theorem Rj(v w:AV)(l:List AV):Bf (v::w::l)=.tuple (v::w::l):=rfl
theorem Rk(w:Bool):isB w Au=false:=rfl
theorem Rl(b:Bool):isB true (.bool b)=b:=by cases b<;>rfl
theorem Rm(b:Bool):isB false (.bool b)=!b:=by cases b<;>rfl
theorem Ya:(!true)=false:=rfl
theorem Yb:(!false)=true:=rfl
theorem Yc{α β:Type _}(a:α)(f:α→Option β):(some a).bind f=f a:=rfl
theorem Yd{α:Type _}(a:α)(l:List α):(a::l)[0]? = some a:=rfl
theorem Ye{α:Type _}(a:α)(l:List α)(i:Nat):(a::l)[i+1]? = l[i]? := rfl
end
end Go.Proofs.Ytilhhmkdcoajnaa.Am
