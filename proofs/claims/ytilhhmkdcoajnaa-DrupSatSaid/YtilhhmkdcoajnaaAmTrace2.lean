/- Running compiled operations is a trace; conditions: none. -/
import Derived.Test.YtilhhmkdcoajnaaAmTrace
set_option linter.unusedVariables false
set_option linter.unusedSimpArgs false
namespace Go.Proofs.Ytilhhmkdcoajnaa.Am
open Go
noncomputable section
theorem dK{F:Fns}{sh:Sh}{xs:List CX}{loc var:List AV}{s:ASt}{p:AV×ASt}(h:shA F sh xs loc var s=some p):shF F sh (D0 loc var xs) s=some p:=by
  cases sh with
  | p1 f=>cases xs with
    | nil=>cases h
    | cons x l=>exact h
  | p2 f=>cases xs with
    | nil=>cases h
    | cons x l=>cases l with
      | nil=>cases h
      | cons y l=>exact h
  | p f=>exact h
  | r1 f=>cases xs with
    | nil=>cases h
    | cons x l=>exact h
  | r f=>exact h
  | mk f=>exact h
  | e f=>exact h
  | call f=>exact h
  | callv=>cases xs with
    | nil=>cases h
    | cons x l=>exact h
def NQ(cnt:Nat)(x:CX):Prop:=∀p,x=.loc p→p<cnt
structure H6(loc var:List AV)(cnt:Nat)(r:Nat×CRd)(q:Rec):Prop where
  idx:r.1=q.idx
  sh:r.2.sh=q.sh
  as:D0 loc var (r.2.xs.map (CY cnt))=q.as
  v:cev loc var (CY cnt r.2.ans)=q.v
  want:Ba loc var (HJ cnt r.2.guard)=q.want
  bx:∀x∈r.2.xs,NQ cnt x
  ba:∃p,r.2.ans=.loc p∧p<cnt
  bg:∀x b,r.2.guard=some (x,b)→NQ cnt x
inductive Ff (loc var:List AV) (cnt:Nat):List (Nat×CRd)→List Rec→Prop
  | nil:Ff loc var cnt [] []
  | cons {r:Nat×CRd} {q:Rec} {l:List (Nat×CRd)} {m:List Rec} (h:H6 loc var cnt r q) (hl:Ff loc var cnt l m):Ff loc var cnt (r::l) (q::m)
theorem JB{loc var:List AV}{v:AV}{cnt:Nat}:∀ {xs:List CX},(∀x∈xs,NQ cnt x)→D0 (v::loc) var (xs.map (CY (cnt+1)))=D0 loc var (xs.map (CY cnt))
  | [],_=>rfl
  | x::l,h=>by
    show cev (v::loc) var (CY (cnt+1) x)::D0 (v::loc) var (l.map (CY (cnt+1)))=cev loc var (CY cnt x)::D0 loc var (l.map (CY cnt))
    rw[Et (h x oH),JB fun y hy=>h y (oJ _ hy)]
theorem NQ.succ{cnt:Nat}{x:CX}(h:NQ cnt x):NQ (cnt+1) x:=fun p hp=>pk (h p hp)
theorem H6.push{loc var:List AV}{cnt:Nat}{r:Nat×CRd}{q:Rec}(h:H6 loc var cnt r q)(v:AV):H6 (v::loc) var (cnt+1) r q:=by
  obtain⟨p,hp,hlt⟩:=h.ba
  refine⟨h.idx,h.sh,(JB h.bx).trans h.as,?_,?_,fun x hx=>(h.bx x hx).succ,⟨p,hp,pk hlt⟩,fun x b e=>(h.bg x b e).succ⟩
  · rw [Et]
    · exact h.v
    · intro p' e;rw[hp]at e;injection e with e;subst e;exact hlt
  · rw[← h.want]
    cases hg:r.2.guard with
    | none=>rfl
    | some g =>
      obtain⟨x,b⟩:=g
      simp only[HJ,Ba]
      rw[Et (h.bg x b hg)]
theorem Ff.push{loc var:List AV}{cnt:Nat}{rs:List (Nat×CRd)}{m:List Rec}(h:Ff loc var cnt rs m)(v:AV):Ff (v::loc) var (cnt+1) rs m:=by
  induction h with
  | nil=>exact .nil
  | cons h _ ih=>exact .cons (h.push v) ih
theorem Tj{loc var:List AV}{v:AV}{j:Nat}{x:CX}(h:IV j x=false):cev loc (upd v var j) x=cev loc var x:=by
  cases x with
  | loc p=>rfl
  | const c=>rfl
  | var i =>
    simp only[cev]
    rw[HU]
    intro e
    subst e
    simp[IV]at h
theorem Mo{cnt j:Nat}{x:CX}:IV j (CY cnt x)=IV j x:=by cases x<;>rfl
theorem Ox{loc var:List AV}{v:AV}{j cnt:Nat}:∀ {xs:List CX},(xs.all fun x=>!IV j x)=true→D0 loc (upd v var j) (xs.map (CY cnt))=D0 loc var (xs.map (CY cnt))
  | [],_=>rfl
  | x::l,h=>by
    simp only[List.all_cons,Bool.and_eq_true,Bool.not_eq_true']at h
    show cev loc (upd v var j) (CY cnt x)::D0 loc (upd v var j) (l.map (CY cnt))=cev loc var (CY cnt x)::D0 loc var (l.map (CY cnt))
    rw[Tj (by rw[Mo];exact h.1),Ox h.2]
theorem H6.set{loc var:List AV}{cnt j:Nat}{r:Nat×CRd}{q:Rec}(h:H6 loc var cnt r q)(v:AV)(hf:N9 j r.2=true):H6 loc (upd v var j) cnt r q:=by
  obtain⟨p,hp,hlt⟩:=h.ba
  simp only[N9,Bool.and_eq_true]at hf
  refine⟨h.idx,h.sh,(Ox hf.2).trans h.as,?_,?_,h.bx,h.ba,h.bg⟩
  · rw[← h.v,hp];rfl
  · rw[← h.want]
    cases hg:r.2.guard with
    | none=>rfl
    | some g =>
      obtain⟨x,b⟩:=g
      have:=hf.1
      rw[hg]at this
      simp only[Bool.not_eq_true']at this
      simp only[HJ,Ba]
      rw[Tj (by rw[Mo];exact this)]
theorem Ff.set{loc var:List AV}{cnt j:Nat}{rs:List (Nat×CRd)}{m:List Rec}(h:Ff loc var cnt rs m)(v:AV)(hf:(rs.all fun r=>N9 j r.2)=true):Ff loc (upd v var j) cnt rs m:=by
  induction h with
  | nil=>exact .nil
  | cons h _ ih =>
    simp only[List.all_cons,Bool.and_eq_true]at hf
    exact .cons (h.set v hf.1) (ih hf.2)
theorem Vl       {s : ASt} {loc var : List AV} {cnt : Nat} {f : Nat × CRd → Bool} : ∀ {rs : List (Nat × CRd)} {m : List Rec}, Ff    loc var cnt rs m → EP     s loc var ((rs.filter f).map fun r => Ih    cnt r.2) = true →
    ∀q∈m,(∀r:Nat×CRd,r.1=q.idx→f r=true)→q.want=true→Eb q.sh q.as s=some q.v:=by
  intro rs m h
  induction h with
  | nil=>intro _ q hq;cases hq
  | cons h hl ih =>
    rename_i r q l m
    intro hag q' hq' hf hw
    simp only[List.filter_cons]at hag
    cases hq' with
    | head =>
      rw[if_pos (hf r h.idx)]at hag
      have hag:(Fw s loc var (Ih cnt r.2) && EP s loc var ((l.filter f).map fun r=>Ih cnt r.2))=true:=hag
      simp only[Bool.and_eq_true]at hag
      have h1:=hag.1
      simp only[Fw,Ih,h.want,hw,Bool.not_true,Bool.false_or,h.as,h.v,h.sh]at h1
      cases hr:Eb q.sh q.as s with
      | none=>rw[hr]at h1;cases h1
      | some u =>
        rw[hr]at h1
        have:=ZM (show eqA u q.v=true from h1)
        rw[this]
    | tail _ hq' =>
      refine ih ?_ q' hq' hf hw
      by_cases hfr:f r=true
      · rw[if_pos hfr]at hag
        have hag:(Fw s loc var (Ih cnt r.2) && EP s loc var ((l.filter f).map fun r=>Ih cnt r.2))=true:=hag
        simp only[Bool.and_eq_true]at hag
        exact hag.2
      · rw[if_neg hfr]at hag
        exact hag
theorem ZU       {P : Program} {vars : List Tmp} {c : CSt} {loc var : List AV} {R : CA}   {ops : Array Oper} {o : Oper} {g : Option (CX × Bool)} (h : EO   vars c loc var R)
    (hg:(match o.guard with
        | none=>some none
        | some (j,want)=>(ops[j]?).bind fun p=>p.dst.bind fun d=>(Ec vars c d).bind fun x=>some (some (x,want)))=some g):
    In ops R o=some (Ba loc var (HJ c.cnt g))∧∀x b,g=some (x,b)→NQ c.cnt x:=by
  unfold In
  split at hg
  · rename_i he
    injection hg with hg
    subst hg
    rw[he]
    exact⟨rfl,fun x b e=>by cases e⟩
  · rename_i j want he
    simp only[oE]at hg
    obtain⟨p,h1,d,h2,x,h3,h4⟩:=hg
    injection h4 with h4
    subst h4
    rw[he]
    refine⟨?_,fun y b e=>by injection e with e;injection e with e1 e2;subst e1;exact Lq h h3⟩
    simp only[h1,h2,Option.bind_some,h.val d x h3,HJ,Ba]
theorem SA         {P : Program} {F : Fns} {nt : Nat} {vars : List Tmp} {ops : Array Oper} {b : Array Nat} {draw : Bool} :
    ∀ (l:List Nat) (c:CSt) (rs:List (Nat×CRd)) (items:List AA) (loc var:List AV) (s:ASt) (var':List AV) (s':ASt) (R:CA) (m:List Rec),
      Ek P nt vars ops b draw l c rs=some items→ET F items loc var s=some (var',s')→EO vars c loc var R→Ff loc var c.cnt rs m →
      ∃R',H9 P F ops nt b draw l m R s R' s'∧∃c' loc',EO vars c' loc' var' R':=by
  intro l
  induction l with
  | nil =>
    intro c rs items loc var s var' s' R m hc hi hr hm
    injection hc with hc
    subst hc
    have hi:some (var,s)=some (var',s'):=hi
    injection hi with hi
    injection hi with h1 h2
    subst h1;subst h2
    exact⟨R,.nil,c,loc,hr⟩
  | cons i l ih =>
    intro c rs items loc var s var' s' R m hc hi hr hm
    simp only[Ek,oE]at hc
    obtain⟨o,ho,sh,hsh,xs,hxs,hc⟩:=hc
    split at hc
    ·
      rename_i x d hal hd
      obtain⟨hlt,hc⟩:=AJ hc
      have hlt:d<nt:=by simpa[oq]using hlt
      have hx1:xs=[x]∧J6 vars (l.map fun j=>(ops.getD j default).dst) o x=true:=by
        split at hal
        · rename_i y
          cases ha:J6 vars (l.map fun j=>(ops.getD j default).dst) o y with
          | true=>rw[ha]at hal;injection hal with hal;subst hal;exact⟨rfl,ha⟩
          | false=>rw[ha]at hal;cases hal
        · cases hal
      obtain⟨rfl,ha⟩:=hx1
      simp only[J6,Bool.and_eq_true]at ha
      obtain⟨⟨⟨a1,a2⟩,a3⟩,_⟩:=ha
      split at a1<;>first | (cases a1;done) | skip
      rename_i y hop
      have hsh':sh=(.p1 some,[y]):=by rw[hop]at hsh;injection hsh with hsh;exact hsh.symm
      subst hsh'
      have hy:FN vars c y=some x:=by
        simp only[Ho,oE]at hxs
        obtain⟨a,h1,r,h2,h3⟩:=hxs
        injection h3 with h3
        injection h3 with h3 h4
        subst h3
        exact h1
      rw[hd]at a3
      have hpd:Bu vars d=none:=by simpa using a3
      have hr':=hr.alias hy hpd
      obtain⟨R',t1,t2⟩:=ih _ rs items loc var s var' s' _ m hc hi hr' hm
      refine⟨R',.cons (sh:=.p1 some) (want:=true) (as:=[cev loc var (CY c.cnt x)]) (v:=cev loc var (CY c.cnt x)) (R1:=R.put (some d) (cev loc var (CY c.cnt x))) (s1:=s) ho ?_ ?_ ?_,t2⟩
      · refine ⟨⟨[y], hsh, ?_⟩, ?_, by rw [hd], ?_, fun _ => rfl, fun e => by cases e⟩
        · simp[D8,Le hr hy]
        · unfold In
          cases hg:o.guard with
          | none=>rfl
          | some g=>rw[hg]at a2;cases a2
        · intro d' e;rw[hd]at e;injection e with e;subst e;exact hlt
      · intro _ e;cases e
      · have:(draw && Sh.isRead (.p1 some))=false:=by cases draw<;>rfl
        rw[this]
        exact t1
    ·
      simp only[oE]at hc
      obtain⟨g,hg,q,hq,hc⟩:=hc
      obtain⟨hpush,hc⟩:=AJ hc
      simp only[oE]at hc
      obtain⟨items',hc',hc⟩:=hc
      injection hc with hc
      subst hc
      obtain⟨hw,hgb⟩:=ZU (P:=P) hr hg
      have has:=Mv hr hxs
      have hi:LR F _ (ET F items') loc var s=some (var',s'):=hi
      have step:∃v s1,(Ba loc var (HJ c.cnt g)=true→shF F sh.1 (D0 loc var (xs.map (CY c.cnt))) s=some (v,s1))∧(Ba loc var (HJ c.cnt g)=false→v=Au∧s1=s) ∧
          C5 (bif Ba loc var (HJ c.cnt g)then ((match draw,sh.1.isEff with
            | true,true=>rs.filter fun(r:Nat×CRd)=>!(b.getD i 0).testBit r.1
            | _,_=>[]).map fun(r:Nat×CRd)=>Ih q.2.cnt r.2)else []) q.1 (ET F items') loc var v s1=some (var',s'):=by
        unfold LR at hi
        cases hwt:Ba loc var (HJ c.cnt g)with
        | true =>
          simp only[hwt]at hi
          unfold KF at hi
          split at hi<;>first | (cases hi;done) | skip
          rename_i p hp
          exact⟨p.1,p.2,fun _=>dK hp,(fun e=>by cases e),hi⟩
        | false =>
          simp only[hwt]at hi
          exact⟨Au,s,(fun e=>by cases e),fun _=>⟨rfl,rfl⟩,hi⟩
      obtain⟨v,s1,st1,st2,st3⟩:=step
      have fin:∀ (loc1 var1:List AV),EO vars q.2 loc1 var1 (R.put o.dst v)→Ff loc1 var1 q.2.cnt rs m →
          ((draw && sh.1.isRead)=true→H6 loc1 var1 q.2.cnt (i,{ guard:=g,sh:=sh.1,xs,ans:=.loc c.cnt }) ⟨i,sh.1,D0 loc var (xs.map (CY c.cnt)),v,Ba loc var (HJ c.cnt g)⟩) →
          (∀d,o.dst=some d→d<nt) →
          EP s1 loc1 var1 (bif Ba loc var (HJ c.cnt g)then ((match draw,sh.1.isEff with
            | true,true=>rs.filter fun(r:Nat×CRd)=>!(b.getD i 0).testBit r.1
            | _,_=>[]).map fun(r:Nat×CRd)=>Ih q.2.cnt r.2)else [])=true→ET F items' loc1 var1 s1=some (var',s') →
          ∃R',H9 P F ops nt b draw (i::l) m R s R' s'∧∃c' loc',EO vars c' loc' var' R':=by
        intro loc1 var1 f1 f2 f3 f4 f5 f6
        have hm':Ff loc1 var1 q.2.cnt (bif draw && sh.1.isRead then (i,{ guard:=g,sh:=sh.1,xs,ans:=.loc c.cnt })::rs else rs)
            (bif draw && sh.1.isRead then ⟨i,sh.1,D0 loc var (xs.map (CY c.cnt)),v,Ba loc var (HJ c.cnt g)⟩::m else m):=by
          cases hrd:(draw && sh.1.isRead)with
          | true=>exact .cons (f3 hrd) f2
          | false=>exact f2
        obtain⟨R',t1,t2⟩:=ih _ _ items' loc1 var1 s1 var' s' _ _ hc' f6 f1 hm'
        refine⟨R',.cons ho ⟨⟨sh.2,hsh,has⟩,hw,rfl,f4,st1,st2⟩ ?_ t1,t2⟩
        intro hd he hwt r hr1 hr2 hr3
        rw[hwt,hd,he]at f5
        simp only[cond_true]at f5
        exact Vl f2 f5 r hr1 (fun r' e=>by rw[e,hr2];rfl) hr3
      have newRd:∀ (loc1:List AV),loc1=v::loc→q.2.cnt=c.cnt+1→H6 loc1 var q.2.cnt (i,{ guard:=g,sh:=sh.1,xs,ans:=.loc c.cnt }) ⟨i,sh.1,D0 loc var (xs.map (CY c.cnt)),v,Ba loc var (HJ c.cnt g)⟩:=by
        intro loc1 e1 e2
        subst e1
        rw[e2]
        have hbx:∀x∈xs,NQ c.cnt x:=by
          have:∀ (l:List Operand) (xs:List CX),Ho vars c l=some xs→∀x∈xs,NQ c.cnt x:=by
            intro l
            induction l with
            | nil=>intro xs h;injection h with h;subst h;intro x hx;cases hx
            | cons a l ih =>
              intro xs h
              simp only[Ho,oE]at h
              obtain⟨y,h1,r,h2,h3⟩:=h
              injection h3 with h3
              subst h3
              intro x hx
              cases hx with
              | head=>exact Ld hr h1
              | tail _ hx=>exact ih r h2 x hx
          exact this _ _ hxs
        refine⟨rfl,rfl,JB hbx,?_,?_,fun x hx=>(hbx x hx).succ,⟨c.cnt,rfl,pF _⟩,fun x b e=>(hgb x b e).succ⟩
        · simp only[CY,cev]
          rw[show c.cnt+1 - 1 - c.cnt=0 from by omega]
          rfl
        · cases g with
          | none=>rfl
          | some g =>
            obtain⟨x,b⟩:=g
            simp only[HJ,Ba]
            rw[Et (hgb x b rfl)]
      have ifsome:∀ {α:Type} {c:Bool} {x:Option α} {y:α},(bif c then x else none)=some y→c=true∧x=some y:=by
        intro α c x y h
        cases c with
        | true=>exact⟨rfl,h⟩
        | false=>cases h
      split at hq
      · rename_i hd
        injection hq with hq
        subst hq
        simp only[C5]at st3
        obtain⟨k1,k2⟩:=ifsome st3
        have hput:R.put o.dst v=R:=by rw[hd];rfl
        exact fin (v::loc) var (by rw[hput];exact hr.pushNone v) (hm.push v) (fun _=>newRd _ rfl rfl) (fun d e=>by rw[hd]at e;cases e) k1 k2
      · rename_i d hd
        obtain⟨hlt,hq⟩:=AJ hq
        have hlt:d<nt:=by simpa[oq]using hlt
        have hdl:∀d',o.dst=some d'→d'<nt:=fun d' e=>by rw[hd]at e;injection e with e;subst e;exact hlt
        split at hq
        · rename_i j hj
          obtain⟨hal,hq⟩:=AJ hq
          injection hq with hq
          subst hq
          simp only[Bool.and_eq_true]at hal
          simp only[C5]at st3
          obtain⟨k1,k2⟩:=ifsome st3
          refine fin loc (upd v var j) (by rw[hd];exact hr.set v hj hal.1) (hm.set v hal.2) ?_ hdl k1 k2
          intro hrd
          rw[hrd]at hpush
          cases hpush
        · rename_i hj
          injection hq with hq
          subst hq
          simp only[C5]at st3
          obtain⟨k1,k2⟩:=ifsome st3
          exact fin (v::loc) var (by rw[hd];exact hr.push v hj) (hm.push v) (fun _=>newRd _ rfl rfl) hdl k1 k2
end
end Go.Proofs.Ytilhhmkdcoajnaa.Am
