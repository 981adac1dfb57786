/- Compiled operations, and what they do slot by slot; conditions: none. -/
import Derived.Test.YtoaaclpjkelofaaGreatDoorAmM02
import Derived.OrdersIn
import Derived.RangeFuncLeaves
import Derived.Test.YtoaaclpjkelofaaGreatDoorAmM01
import Derived.LoopNIn
set_option linter.all false
namespace Go.Proofs.YtoaaclpjkelofaaGreatDoor.Am
open Go
noncomputable section
theorem Vu(l:List AV)(i:Nat):Hw l i=l.getD i Cx:=by
  induction l generalizing i with
  | nil=>rfl
  | cons a l ih =>
    cases i with
    | zero=>rfl
    | succ i=>exact ih i
theorem Ok{l:List AV}{i:Nat}{v:AV}(h:l[i]? = some v):Hw l i=v:=by rw[Vu];simp[h]
theorem Iq(v:AV)(l:List AV)(i:Nat):upd v l i=l.set i v:=by
  induction l generalizing i with
  | nil=>rfl
  | cons a l ih =>
    cases i with
    | zero=>rfl
    | succ i=>exact congrArg (a::·) (ih i)
theorem Nb{v:AV}{l:List AV}{i:Nat}(h:i<l.length):Hw (upd v l i) i=v:=by
 rw[Vu,Iq];simp[h]
theorem JN{v:AV}{l:List AV}{i j:Nat}(h:i≠j):Hw (upd v l j) i=Hw l i:=by
 rw[Vu,Vu,Iq];simp[List.getElem?_set_ne (Ne.symm h)]
theorem I5{vars:List Tmp}{t:Tmp}:∀ {j:Nat},DM vars t=some j→vars[j]? = some t:=by
 induction vars with
 | nil=>intro j h;cases h
 | cons a l ih =>
  intro j h
  unfold DM at h
  cases hb:Nat.beq a t with
  | true =>
   rw[hb]at h
   simp only[cond_true,A9b]at h
   subst h
   rw[Cv hb]
   rfl
  | false =>
   rw[hb]at h
   simp only[cond_false,A8G]at h
   obtain⟨i,h1,h2⟩:=h
   injection h2 with h2
   subst h2
   exact ih h1
theorem Gf{vars:List Tmp}{t:Tmp}{j:Nat}(h:DM vars t=some j):j<vars.length:=by
 have:=I5 h
 rcases A8N j vars.length with h' | h'
 ·exact h'
 ·rw[A8W h']at this;cases this
theorem LN{vars:List Tmp}{t u:Tmp}{j:Nat}(h:DM vars t=some j)(k:DM vars u=some j):t=u:=by
 have h1:=I5 h
 have h2:=I5 k
 rw[h1]at h2
 injection h2
mutual
theorem HM:∀ {a b:AV},IG a b=true→a=b:=by
  intro a b h
  unfold IG at h
  split at h
  · simp at h;rw[h]
  · simp only[A9W]at h;have:=GC h.1;subst this;have h2:=h.2;rw[Hn]at h2;simp at h2;rw[h2]
  · rename_i x y
    have:∀x y:List Nat,Fb x y=true→x=y:=by
      intro x
      induction x with
      | nil=>intro y h;cases y with | nil=>rfl | cons=>cases h
      | cons a x ih =>
        intro y h
        cases y with
        | nil=>cases h
        | cons b y =>
          unfold Fb at h
          cases hb:Nat.beq a b with
          | true=>rw[hb]at h;rw[Cv hb,ih y h]
          | false=>rw[hb]at h;cases h
    rw[this _ _ h]
  · rfl
  · simp only[A9W]at h;rw[Cv h.1,Cv h.2]
  · simp only[A9W]at h;rw[Cv h.1,Cv h.2]
  · simp only[A9W]at h;rw[Cv h.1,Cv h.2]
  · rw[Cv h]
  · simp only[A9W]at h;rw[Cv h.1.1,Cv h.1.2,Cv h.2]
  · simp only[A9W]at h;rw[Cv h.1.1.1,Cv h.1.1.2,Cv h.1.2,Cv h.2]
  · rfl
  · rw[Cv h]
  · simp only[A9W]at h;rw[Cv h.1.1,I0 h.1.2,I0 h.2]
  · rfl
  · rfl
  · rw[Cv h]
  · rw[I0 h]
  · rw[I0 h]
  · cases h
theorem I0:∀ {a b:List AV},IG.eqAs a b=true→a=b:=by
 intro a b h
 unfold IG.eqAs at h
 split at h
 ·rfl
 ·simp only[A9W]at h;rw[HM h.1,I0 h.2]
 ·cases h
end
abbrev Eu:=Tmp→Option AV
def Eu.put(R:Eu)(d:Option Tmp)(v:AV):Eu:=match d with
 | none=>R
 | some d=>fun t=>if t=d then some v else R t
def X8(R:Eu):Operand→Option AV
 | .tmp t=>R t
 | .const v=>ofValue v
 | .global g=>some (.gptr g 0)
 | .func f=>some (.func f [] [])
def HT(R:Eu):List Operand→Option (List AV)
 | []=>some []
 | x::l=>(X8 R x).bind fun a=>(HT R l).bind fun r=>some (a::r)
def N6(ops:Array Oper)(R:Eu)(o:Oper):Option Bool:=match o.guard with
 | none=>some true
 | some (j,want)=>(ops[j]?).bind fun p=>p.dst.bind fun d=>(R d).bind fun x=>bif A3K x then none else some (A3J want x)
def qd(F:Gm)(sh:Sh)(aS:List AV)(s:CO):Option (AV×CO):=
 match sh with
 | .call f=>F.call f aS s
 | .callv=>(match aS with | a::l=>Kw F a l s | []=>none)
 | _=>Ot sh aS s
structure Yv where
 idx:Nat
 sh:Sh
 aS:List AV
 v:AV
 want:Bool
structure QJ(P:Program)(F:Gm)(ops:Array Oper)(nt:Nat)(R:Eu)(s:CO)(o:Oper)(sh:Sh)(want:Bool)(aS:List AV)(v:AV)(R1:Eu)(s1:CO):Prop where
 shape:∃xs,De P o.op=some (sh,xs)∧HT R xs=some aS
 wants:N6 ops R o=some want
 put:R1=R.put o.dst v
 lt:∀d,o.dst=some d→d<nt
 yes:want=true→qd F sh aS s=some (v,s1)
 no:want=false→v=Cx∧s1=s
inductive Trace (P:Program) (F:Gm) (ops:Array Oper) (nt:Nat) (b:Array Nat) (draw:Bool):List Nat→List Yv→Eu→CO→Eu→CO→Prop
 | nil {rs:List Yv} {R:Eu} {s:CO}:Trace P F ops nt b draw [] rs R s R s
 | cons {i:Nat} {l:List Nat} {rs:List Yv} {R R1 R2:Eu} {s s1 s2:CO} {o:Oper} {sh:Sh} {want:Bool} {aS:List AV} {v:AV}
   (ho:ops[i]? = some o) (hs:QJ P F ops nt R s o sh want aS v R1 s1)
   (ag:draw=true→sh.isEff=true→want=true→∀r∈rs,(b.getD i 0).testBit r.idx=false→r.want=true→Ii r.sh r.aS s1=some r.v)
   (hl:Trace P F ops nt b draw l (bif draw && sh.isRead then ⟨i,sh,aS,v,want⟩::rs else rs) R1 s1 R2 s2):Trace P F ops nt b draw (i::l) rs R s R2 s2
structure Hl(vars:List Tmp)(c:qh)(loc var:List AV)(R:Eu):Prop where
 vlen:var.length=vars.length
 bnd:∀t p,Ht c.map t=some (.loc p)→p<c.cnt
 keys:∀t x,Ht c.map t=some x→DM vars t=none
 val:∀t x,Hy vars c t=some x→R t=some (Fz loc var (FY c.cnt x))
theorem fu:∀ {m:List (Tmp×CX)}{t:Tmp}{x:CX},Ht m t=some x→(t,x)∈m:=by
 intro m
 induction m with
 | nil=>intro t x h;cases h
 | cons p m ih =>
  obtain⟨a,y⟩:=p
  intro t x h
  unfold Ht at h
  cases hb:Nat.beq a t with
  | true =>
   rw[hb]at h
   simp only[cond_true,A9b]at h
   rw[Cv hb,h]
   exact A8M
  | false =>
   rw[hb]at h
   exact A8J _ (ih h)
theorem Xu:∀ {m:List (Tmp×CX)}{j:Nat},Na j m=true→∀t,(t,CX.var j) ∉ m:=by
 intro m
 induction m with
 | nil=>intro j h t hm;cases hm
 | cons p m ih =>
  obtain⟨a,y⟩:=p
  intro j h t hm
  simp only[Na,A9W,A9Y]at h
  cases hm with
  | head=>simp[isVar]at h
  | tail _ hm=>exact ih h.2 t hm
theorem HQ(m:List (Tmp×CX))(d t:Tmp)(x:CX):Ht ((d,x)::m) t=if t=d then some x else Ht m t:=by
 simp only[Ht]
 by_cases e:t=d
 ·subst e;simp
 ·have:Nat.beq d t=false:=by
   cases hb:Nat.beq d t with
   | true=>exact absurd (Cv hb).symm e
   | false=>rfl
  rw[this,if_neg e,cond_false]
theorem IM{loc var:List AV}{v:AV}{cnt:Nat}{x:CX}(h:∀p,x=.loc p→p<cnt):Fz (v::loc) var (FY (cnt+1) x)=Fz loc var (FY cnt x):=by
 cases x with
 | loc p =>
  have:=h p rfl
  simp only[FY,Fz]
  rw[show cnt+1 - 1 - p=(cnt - 1 - p)+1 from by omega]
  rfl
 | var j=>rfl
 | const v=>rfl
variable{vars:List Tmp}{c:qh}{loc var:List AV}{R:Eu}
theorem Hl.push(h:Hl vars c loc var R){d:Tmp}(v:AV)(hd:DM vars d=none):Hl vars { map:=(d,.loc c.cnt)::c.map,cnt:=c.cnt+1 } (v::loc) var (R.put (some d) v):=by
  refine⟨h.vlen,?_,?_,?_⟩
  · intro t p hp
    rw[HQ]at hp
    split at hp
    · injection hp with hp;injection hp with hp;subst hp;exact A8k _
    · exact A9F (h.bnd t p hp)
  · intro t x hx
    rw[HQ]at hx
    split at hx
    · rename_i e;subst e;exact hd
    · exact h.keys t x hx
  · intro t x hx
    unfold Hy at hx
    simp only[HQ]at hx
    by_cases e:t=d
    · subst e
      simp only[if_true,A9b]at hx
      subst hx
      simp only[Eu.put,if_true,FY,Fz]
      rw[show c.cnt+1 - 1 - c.cnt=0 from by omega]
      rfl
    · simp only [if_neg e] at hx
      simp only[Eu.put,if_neg e]
      have hx':Hy vars c t=some x:=by unfold Hy;exact hx
      rw[h.val t x hx',IM]
      intro p hp
      subst hp
      cases hl:Ht c.map t with
      | some y=>rw[hl]at hx;injection hx with hx;subst hx;exact h.bnd t p hl
      | none=>rw[hl]at hx;simp only[A8G]at hx;obtain⟨j,_,hx⟩:=hx;cases hx
theorem Sg(h:Hl vars c loc var R){t:Tmp}{x:CX}(hx:Hy vars c t=some x):∀p,x=.loc p→p<c.cnt:=by
 intro p hp
 subst hp
 unfold Hy at hx
 cases hl:Ht c.map t with
 | some y=>rw[hl]at hx;injection hx with hx;subst hx;exact h.bnd t p hl
 | none=>rw[hl]at hx;simp only[A8G]at hx;obtain⟨j,_,hx⟩:=hx;cases hx
theorem SJ(h:Hl vars c loc var R){o:Operand}{x:CX}(hx:Hx vars c o=some x):∀p,x=.loc p→p<c.cnt:=by
 cases o with
 | tmp t=>exact Sg h hx
 | const v =>
  intro p hp
  subst hp
  simp only[Hx,A8G]at hx
  obtain⟨a,_,hx⟩:=hx
  cases hx
 | global g=>intro p hp;subst hp;simp[Hx]at hx
 | func f=>intro p hp;subst hp;simp[Hx]at hx
theorem Hl.pushNone(h:Hl vars c loc var R)(v:AV):Hl vars { c with cnt:=c.cnt+1 } (v::loc) var R:=by
 refine⟨h.vlen,fun t p hp=>A9F (h.bnd t p hp),h.keys,?_⟩
 intro t x hx
 have hx':Hy vars c t=some x:=hx
 rw[h.val t x hx',IM (Sg h hx')]
theorem Hl.set(h:Hl vars c loc var R){d:Tmp}{j:Nat}(v:AV)(hd:DM vars d=some j)(hn:Na j c.map=true):Hl vars c loc (upd v var j) (R.put (some d) v):=by
  refine⟨by rw[Iq,A9M];exact h.vlen,h.bnd,h.keys,?_⟩
  intro t x hx
  have hj:j<var.length:=by rw[h.vlen];exact Gf hd
  by_cases e:t=d
  · subst e
    unfold Hy at hx
    cases hl:Ht c.map t with
    | some y=>have:=h.keys t y hl;rw[hd]at this;cases this
    | none =>
      rw[hl,hd]at hx
      injection hx with hx
      subst hx
      simp only[Eu.put,if_true,FY,Fz]
      rw[Nb hj]
  · simp only[Eu.put,if_neg e]
    rw[h.val t x hx]
    congr 1
    cases x with
    | loc p=>rfl
    | const v=>rfl
    | var i =>
      simp only[FY,Fz]
      rw[JN]
      intro q
      subst q
      unfold Hy at hx
      cases hl:Ht c.map t with
      | some y=>rw[hl]at hx;injection hx with hx;subst hx;exact Xu hn t (fu hl)
      | none =>
        rw[hl]at hx
        simp only[A8G]at hx
        obtain⟨k,hk,hx⟩:=hx
        injection hx with hx
        injection hx with hx
        subst hx
        exact e (LN hk hd)
theorem Hl.alias(h:Hl vars c loc var R){d:Tmp}{o:Operand}{x:CX}(hx:Hx vars c o=some x)(hd:DM vars d=none):
    Hl vars { c with map:=(d,x)::c.map } loc var (R.put (some d) (Fz loc var (FY c.cnt x))):=by
  refine⟨h.vlen,?_,?_,?_⟩
  · intro t p hp
    rw[HQ]at hp
    split at hp
    · injection hp with hp;subst hp;exact SJ h hx p rfl
    · exact h.bnd t p hp
  · intro t y hy
    rw[HQ]at hy
    split at hy
    · rename_i e;subst e;exact hd
    · exact h.keys t y hy
  · intro t y hy
    unfold Hy at hy
    simp only[HQ]at hy
    by_cases e:t=d
    · subst e
      simp only[if_true,A9b]at hy
      subst hy
      simp only[Eu.put,if_true]
    · simp only [if_neg e] at hy
      simp only[Eu.put,if_neg e]
      exact h.val t y hy
theorem SL(h:Hl vars c loc var R){o:Operand}{x:CX}(hx:Hx vars c o=some x):X8 R o=some (Fz loc var (FY c.cnt x)):=by
 cases o with
 | tmp t=>exact h.val t x hx
 | const v =>
  simp only[Hx,A8G]at hx
  obtain⟨a,h1,h2⟩:=hx
  injection h2 with h2
  subst h2
  exact h1
 | global g=>injection hx with hx;subst hx;rfl
 | func f=>injection hx with hx;subst hx;rfl
theorem UK(h:Hl vars c loc var R):∀ {l:List Operand}{xs:List CX},Mh vars c l=some xs→HT R l=some (HK loc var (xs.map (FY c.cnt)))
 | [],xs,hx=>by injection hx with hx;subst hx;rfl
 | o::l,xs,hx=>by
  simp only[Mh,A8G]at hx
  obtain⟨a,h1,r,h2,h3⟩:=hx
  injection h3 with h3
  subst h3
  simp only[HT,SL h h1,UK h h2,Option.bind_some,A8U]
  rfl
theorem tj{F:Gm}{sh:Sh}{xs:List CX}{loc var:List AV}{s:CO}{p:AV×CO}(h:A3q F sh xs loc var s=some p):qd F sh (HK loc var xs) s=some p:=by
 cases sh with
 | p1 f=>cases xs with
  | nil=>cases h
  | cons x l=>exact h
 | p2 f=>cases xs with
  | nil=>cases h
  | cons x l=>cases l with
   | nil=>cases h
   | cons y l=>exact h
 | p f=>exact h
 | r1 f=>cases xs with
  | nil=>cases h
  | cons x l=>exact h
 | r f=>exact h
 | mk f=>exact h
 | e f=>exact h
 | call f=>exact h
 | callv=>cases xs with
  | nil=>cases h
  | cons x l=>exact h
def Uy(cnt:Nat)(x:CX):Prop:=∀p,x=.loc p→p<cnt
structure M0(loc var:List AV)(cnt:Nat)(r:Nat×Kh)(q:Yv):Prop where
 idx:r.1=q.idx
 sh:r.2.sh=q.sh
 aS:HK loc var (r.2.xs.map (FY cnt))=q.aS
 v:Fz loc var (FY cnt r.2.ans)=q.v
 want:EN loc var (Jl cnt r.2.guard)=q.want
 bx:∀x∈r.2.xs,Uy cnt x
 ba:∃p,r.2.ans=.loc p∧p<cnt
 bg:∀x b,r.2.guard=some (x,b)→Uy cnt x
inductive JR (loc var:List AV) (cnt:Nat):List (Nat×Kh)→List Yv→Prop
 | nil:JR loc var cnt [] []
 | cons {r:Nat×Kh} {q:Yv} {l:List (Nat×Kh)} {m:List Yv} (h:M0 loc var cnt r q) (hl:JR loc var cnt l m):JR loc var cnt (r::l) (q::m)
theorem OP{loc var:List AV}{v:AV}{cnt:Nat}:∀ {xs:List CX},(∀x∈xs,Uy cnt x)→HK (v::loc) var (xs.map (FY (cnt+1)))=HK loc var (xs.map (FY cnt))
 | [],_=>rfl
 | x::l,h=>by
  show Fz (v::loc) var (FY (cnt+1) x)::HK (v::loc) var (l.map (FY (cnt+1)))=Fz loc var (FY cnt x)::HK loc var (l.map (FY cnt))
  rw[IM (h x A8M),OP fun y hy=>h y (A8J _ hy)]
theorem Uy.succ{cnt:Nat}{x:CX}(h:Uy cnt x):Uy (cnt+1) x:=fun p hp=>A9F (h p hp)
theorem M0.push{loc var:List AV}{cnt:Nat}{r:Nat×Kh}{q:Yv}(h:M0 loc var cnt r q)(v:AV):M0 (v::loc) var (cnt+1) r q:=by
  obtain⟨p,hp,hlt⟩:=h.ba
  refine⟨h.idx,h.sh,(OP h.bx).trans h.aS,?_,?_,fun x hx=>(h.bx x hx).succ,⟨p,hp,A9F hlt⟩,fun x b e=>(h.bg x b e).succ⟩
  · rw [IM]
    · exact h.v
    · intro p' e;rw[hp]at e;injection e with e;subst e;exact hlt
  · rw[← h.want]
    cases hg:r.2.guard with
    | none=>rfl
    | some g =>
      obtain⟨x,b⟩:=g
      simp only[Jl,EN]
      rw[IM (h.bg x b hg)]
theorem JR.push{loc var:List AV}{cnt:Nat}{rs:List (Nat×Kh)}{m:List Yv}(h:JR loc var cnt rs m)(v:AV):JR (v::loc) var (cnt+1) rs m:=by
 induction h with
 | nil=>exact .nil
 | cons h _ ih=>exact .cons (h.push v) ih
theorem cR{loc var:List AV}{v:AV}{j:Nat}{x:CX}(h:isVar j x=false):Fz loc (upd v var j) x=Fz loc var x:=by
 cases x with
 | loc p=>rfl
 | const c=>rfl
 | var i =>
  simp only[Fz]
  rw[JN]
  intro e
  subst e
  simp[isVar]at h
theorem Tq{cnt j:Nat}{x:CX}:isVar j (FY cnt x)=isVar j x:=by cases x<;>rfl
theorem W5{loc var:List AV}{v:AV}{j cnt:Nat}:∀ {xs:List CX},(xs.all fun x=>!isVar j x)=true→HK loc (upd v var j) (xs.map (FY cnt))=HK loc var (xs.map (FY cnt))
 | [],_=>rfl
 | x::l,h=>by
  simp only[List.all_cons,A9W,A9Y]at h
  show Fz loc (upd v var j) (FY cnt x)::HK loc (upd v var j) (l.map (FY cnt))=Fz loc var (FY cnt x)::HK loc var (l.map (FY cnt))
  rw[cR (by rw[Tq];exact h.1),W5 h.2]
theorem M0.set{loc var:List AV}{cnt j:Nat}{r:Nat×Kh}{q:Yv}(h:M0 loc var cnt r q)(v:AV)(hf:V1 j r.2=true):M0 loc (upd v var j) cnt r q:=by
 obtain⟨p,hp,hlt⟩:=h.ba
 simp only[V1,A9W]at hf
 refine⟨h.idx,h.sh,(W5 hf.2).trans h.aS,?_,?_,h.bx,h.ba,h.bg⟩
 ·rw[← h.v,hp];rfl
 ·rw[← h.want]
  cases hg:r.2.guard with
  | none=>rfl
  | some g =>
   obtain⟨x,b⟩:=g
   have:=hf.1
   rw[hg]at this
   simp only[A9Y]at this
   simp only[Jl,EN]
   rw[cR (by rw[Tq];exact this)]
theorem JR.set{loc var:List AV}{cnt j:Nat}{rs:List (Nat×Kh)}{m:List Yv}(h:JR loc var cnt rs m)(v:AV)(hf:(rs.all fun r=>V1 j r.2)=true):JR loc (upd v var j) cnt rs m:=by
 induction h with
 | nil=>exact .nil
 | cons h _ ih =>
  simp only[List.all_cons,A9W]at hf
  exact .cons (h.set v hf.1) (ih hf.2)
theorem ia{s:CO}{loc var:List AV}{cnt:Nat}{f:Nat×Kh→Bool}:∀ {rs:List (Nat×Kh)}{m:List Yv},JR loc var cnt rs m→JE s loc var ((rs.filter f).map fun r=>Nj cnt r.2)=true →
    ∀q∈m,(∀r:Nat×Kh,r.1=q.idx→f r=true)→q.want=true→Ii q.sh q.aS s=some q.v:=by
  intro rs m h
  induction h with
  | nil=>intro _ q hq;cases hq
  | cons h hl ih =>
    rename_i r q l m
    intro hag q' hq' hf hw
    simp only[List.filter_cons]at hag
    cases hq' with
    | head =>
      rw[if_pos (hf r h.idx)]at hag
      have hag:(JD s loc var (Nj cnt r.2) && JE s loc var ((l.filter f).map fun r=>Nj cnt r.2))=true:=hag
      simp only[A9W]at hag
      have h1:=hag.1
      simp only[JD,Nj,h.want,hw,Bool.not_true,Bool.false_or,h.aS,h.v,h.sh]at h1
      cases hr:Ii q.sh q.aS s with
      | none=>rw[hr]at h1;cases h1
      | some u =>
        rw[hr]at h1
        have:=HM (show IG u q.v=true from h1)
        rw[this]
    | tail _ hq' =>
      refine ih ?_ q' hq' hf hw
      by_cases hfr:f r=true
      · rw[if_pos hfr]at hag
        have hag:(JD s loc var (Nj cnt r.2) && JE s loc var ((l.filter f).map fun r=>Nj cnt r.2))=true:=hag
        simp only[A9W]at hag
        exact hag.2
      · rw[if_neg hfr]at hag
        exact hag
theorem nf{P:Program}{vars:List Tmp}{c:qh}{loc var:List AV}{R:Eu}{ops:Array Oper}{o:Oper}{g:Option (CX×Bool)}(h:Hl vars c loc var R)
    (hg:(match o.guard with
        | none=>some none
        | some (j,want)=>(ops[j]?).bind fun p=>p.dst.bind fun d=>(Hy vars c d).bind fun x=>some (some (x,want)))=some g)
    (hj:iM loc var (Jl c.cnt g)=false):
    N6 ops R o=some (EN loc var (Jl c.cnt g))∧∀x b,g=some (x,b)→Uy c.cnt x:=by
  unfold N6
  split at hg
  · rename_i he
    injection hg with hg
    subst hg
    try rw[he]
    exact⟨rfl,fun x b e=>by cases e⟩
  · rename_i j want he
    simp only[A8G]at hg
    obtain⟨p,h1,d,h2,x,h3,h4⟩:=hg
    injection h4 with h4
    subst h4
    try rw[he]
    refine⟨?_,fun y b e=>by injection e with e;injection e with e1 e2;subst e1;exact Sg h h3⟩
    simp only[Jl,iM]at hj
    simp only[h1,h2,Option.bind_some,h.val d x h3,Jl,EN,hj,cond_false]
theorem Zb{P:Program}{F:Gm}{nt:Nat}{vars:List Tmp}{ops:Array Oper}{b:Array Nat}{draw:Bool}:
    ∀ (l:List Nat) (c:qh) (rs:List (Nat×Kh)) (items:List CK) (loc var:List AV) (s:CO) (var':List AV) (s':CO) (R:Eu) (m:List Yv),
      H4 P nt vars ops b draw l c rs=some items→Ia F items loc var s=some (var',s')→Hl vars c loc var R→JR loc var c.cnt rs m →
      ∃R',Trace P F ops nt b draw l m R s R' s'∧∃c' loc',Hl vars c' loc' var' R':=by
  intro l
  induction l with
  | nil =>
    intro c rs items loc var s var' s' R m hc hi hr hm
    injection hc with hc
    subst hc
    have hi:some (var,s)=some (var',s'):=hi
    injection hi with hi
    injection hi with h1 h2
    subst h1;subst h2
    exact⟨R,.nil,c,loc,hr⟩
  | cons i l ih =>
    intro c rs items loc var s var' s' R m hc hi hr hm
    simp only[H4,A8G]at hc
    obtain⟨o,ho,sh,hsh,xs,hxs,hc⟩:=hc
    split at hc
    ·
      rename_i x d hal hd
      obtain⟨hlt,hc⟩:=CM hc
      have hlt:d<nt:=by simpa[A8Y]using hlt
      have hx1:xs=[x]∧Ps vars (l.map fun j=>(ops.getD j default).dst) o x=true:=by
        split at hal
        · rename_i y
          cases ha:Ps vars (l.map fun j=>(ops.getD j default).dst) o y with
          | true=>rw[ha]at hal;injection hal with hal;subst hal;exact⟨rfl,ha⟩
          | false=>rw[ha]at hal;cases hal
        · cases hal
      obtain⟨rfl,ha⟩:=hx1
      simp only[Ps,A9W]at ha
      obtain⟨⟨⟨a1,a2⟩,a3⟩,_⟩:=ha
      split at a1<;>first | (cases a1;done) | skip
      rename_i y hop
      have hsh':sh=(.p1 some,[y]):=by rw[hop]at hsh;injection hsh with hsh;exact hsh.symm
      subst hsh'
      have hy:Hx vars c y=some x:=by
        simp only[Mh,A8G]at hxs
        obtain⟨a,h1,r,h2,h3⟩:=hxs
        injection h3 with h3
        injection h3 with h3 h4
        subst h3
        exact h1
      rw[hd]at a3
      have hpd:DM vars d=none:=by simpa using a3
      have hr':=hr.alias hy hpd
      obtain⟨R',t1,t2⟩:=ih _ rs items loc var s var' s' _ m hc hi hr' hm
      refine⟨R',.cons (sh:=.p1 some) (want:=true) (aS:=[Fz loc var (FY c.cnt x)]) (v:=Fz loc var (FY c.cnt x)) (R1:=R.put (some d) (Fz loc var (FY c.cnt x))) (s1:=s) ho ?_ ?_ ?_,t2⟩
      · refine ⟨⟨[y], hsh, ?_⟩, ?_, by rw [hd], ?_, fun _ => rfl, fun e => by cases e⟩
        · simp[HT,SL hr hy]
        · unfold N6
          cases hg:o.guard with
          | none=>rfl
          | some g=>rw[hg]at a2;cases a2
        · intro d' e;rw[hd]at e;injection e with e;subst e;exact hlt
      · intro _ e;cases e
      · have:(draw && Sh.isRead (.p1 some))=false:=by cases draw<;>rfl
        rw[this]
        exact t1
    ·
      simp only[A8G]at hc
      obtain⟨g,hg,q,hq,hc⟩:=hc
      obtain⟨hpush,hc⟩:=CM hc
      simp only[A8G]at hc
      obtain⟨items',hc',hc⟩:=hc
      injection hc with hc
      subst hc
      have has:=UK hr hxs
      have hi:PO F _ (Ia F items') loc var s=some (var',s'):=hi
      have hj:iM loc var (Jl c.cnt g)=false:=by
        cases hj:iM loc var (Jl c.cnt g)with
        | false=>rfl
        | true=>unfold PO at hi;simp only[hj]at hi;cases hi
      obtain⟨hw,hgb⟩:=nf (P:=P) hr hg hj
      have step:∃v s1,(EN loc var (Jl c.cnt g)=true→qd F sh.1 (HK loc var (xs.map (FY c.cnt))) s=some (v,s1))∧(EN loc var (Jl c.cnt g)=false→v=Cx∧s1=s) ∧
          GJ (bif EN loc var (Jl c.cnt g)then ((match draw,sh.1.isEff with
            | true,true=>rs.filter fun(r:Nat×Kh)=>!(b.getD i 0).testBit r.1
            | _,_=>[]).map fun(r:Nat×Kh)=>Nj q.2.cnt r.2)else []) q.1 (Ia F items') loc var v s1=some (var',s'):=by
        unfold PO at hi
        simp only[hj]at hi
        cases hwt:EN loc var (Jl c.cnt g)with
        | true =>
          simp only[hwt]at hi
          unfold P4 at hi
          split at hi<;>first | (cases hi;done) | skip
          rename_i p hp
          exact⟨p.1,p.2,fun _=>tj hp,(fun e=>by cases e),hi⟩
        | false =>
          simp only[hwt]at hi
          exact⟨Cx,s,(fun e=>by cases e),fun _=>⟨rfl,rfl⟩,hi⟩
      obtain⟨v,s1,st1,st2,st3⟩:=step
      have fin:∀ (loc1 var1:List AV),Hl vars q.2 loc1 var1 (R.put o.dst v)→JR loc1 var1 q.2.cnt rs m →
          ((draw && sh.1.isRead)=true→M0 loc1 var1 q.2.cnt (i,{ guard:=g,sh:=sh.1,xs,ans:=.loc c.cnt }) ⟨i,sh.1,HK loc var (xs.map (FY c.cnt)),v,EN loc var (Jl c.cnt g)⟩) →
          (∀d,o.dst=some d→d<nt) →
          JE s1 loc1 var1 (bif EN loc var (Jl c.cnt g)then ((match draw,sh.1.isEff with
            | true,true=>rs.filter fun(r:Nat×Kh)=>!(b.getD i 0).testBit r.1
            | _,_=>[]).map fun(r:Nat×Kh)=>Nj q.2.cnt r.2)else [])=true→Ia F items' loc1 var1 s1=some (var',s') →
          ∃R',Trace P F ops nt b draw (i::l) m R s R' s'∧∃c' loc',Hl vars c' loc' var' R':=by
        intro loc1 var1 f1 f2 f3 f4 f5 f6
        have hm':JR loc1 var1 q.2.cnt (bif draw && sh.1.isRead then (i,{ guard:=g,sh:=sh.1,xs,ans:=.loc c.cnt })::rs else rs)
            (bif draw && sh.1.isRead then ⟨i,sh.1,HK loc var (xs.map (FY c.cnt)),v,EN loc var (Jl c.cnt g)⟩::m else m):=by
          cases hrd:(draw && sh.1.isRead)with
          | true=>exact .cons (f3 hrd) f2
          | false=>exact f2
        obtain⟨R',t1,t2⟩:=ih _ _ items' loc1 var1 s1 var' s' _ _ hc' f6 f1 hm'
        refine⟨R',.cons ho ⟨⟨sh.2,hsh,has⟩,hw,rfl,f4,st1,st2⟩ ?_ t1,t2⟩
        intro hd he hwt r hr1 hr2 hr3
        rw[hwt,hd,he]at f5
        simp only[cond_true]at f5
        exact ia f2 f5 r hr1 (fun r' e=>by rw[e,hr2];rfl) hr3
      have newRd:∀ (loc1:List AV),loc1=v::loc→q.2.cnt=c.cnt+1→M0 loc1 var q.2.cnt (i,{ guard:=g,sh:=sh.1,xs,ans:=.loc c.cnt }) ⟨i,sh.1,HK loc var (xs.map (FY c.cnt)),v,EN loc var (Jl c.cnt g)⟩:=by
        intro loc1 e1 e2
        subst e1
        rw[e2]
        have hbx:∀x∈xs,Uy c.cnt x:=by
          have:∀ (l:List Operand) (xs:List CX),Mh vars c l=some xs→∀x∈xs,Uy c.cnt x:=by
            intro l
            induction l with
            | nil=>intro xs h;injection h with h;subst h;intro x hx;cases hx
            | cons a l ih =>
              intro xs h
              simp only[Mh,A8G]at h
              obtain⟨y,h1,r,h2,h3⟩:=h
              injection h3 with h3
              subst h3
              intro x hx
              cases hx with
              | head=>exact SJ hr h1
              | tail _ hx=>exact ih r h2 x hx
          exact this _ _ hxs
        refine⟨rfl,rfl,OP hbx,?_,?_,fun x hx=>(hbx x hx).succ,⟨c.cnt,rfl,A8k _⟩,fun x b e=>(hgb x b e).succ⟩
        · simp only[FY,Fz]
          rw[show c.cnt+1 - 1 - c.cnt=0 from by omega]
          rfl
        · cases g with
          | none=>rfl
          | some g =>
            obtain⟨x,b⟩:=g
            simp only[Jl,EN]
            rw[IM (hgb x b rfl)]
      have ifsome:∀ {α:Type} {c:Bool} {x:Option α} {y:α},(bif c then x else none)=some y→c=true∧x=some y:=by
        intro α c x y h
        cases c with
        | true=>exact⟨rfl,h⟩
        | false=>cases h
      split at hq
      · rename_i hd
        injection hq with hq
        subst hq
        simp only[GJ]at st3
        obtain⟨k1,k2⟩:=ifsome st3
        have hput:R.put o.dst v=R:=by rw[hd];rfl
        exact fin (v::loc) var (by rw[hput];exact hr.pushNone v) (hm.push v) (fun _=>newRd _ rfl rfl) (fun d e=>by rw[hd]at e;cases e) k1 k2
      · rename_i d hd
        obtain⟨hlt,hq⟩:=CM hq
        have hlt:d<nt:=by simpa[A8Y]using hlt
        have hdl:∀d',o.dst=some d'→d'<nt:=fun d' e=>by rw[hd]at e;injection e with e;subst e;exact hlt
        split at hq
        · rename_i j hj
          obtain⟨hal,hq⟩:=CM hq
          injection hq with hq
          subst hq
          simp only[A9W]at hal
          simp only[GJ]at st3
          obtain⟨k1,k2⟩:=ifsome st3
          refine fin loc (upd v var j) (by rw[hd];exact hr.set v hj hal.1) (hm.set v hal.2) ?_ hdl k1 k2
          intro hrd
          rw[hrd]at hpush
          cases hpush
        · rename_i hj
          injection hq with hq
          subst hq
          simp only[GJ]at st3
          obtain⟨k1,k2⟩:=ifsome st3
          exact fin (v::loc) var (by rw[hd];exact hr.push v hj) (hm.push v) (fun _=>newRd _ rfl rfl) hdl k1 k2
def NI(r:Option Nat):Fence:={ Fence.wide with round:=r }
def IR(ρ:DV)(R:Eu)(tmps:Array Value):Prop:=∀ (t:Tmp)(v:AV),R t=some v→t<tmps.size∧Cc ρ v (tmps.getD t undef)
def Ey(P:Program)(ρ:DV)(s:CO)(w:World)(v:AV)(s1:CO):Ending→World→Prop
 | .returned v',w'=>∃ρ',Cc ρ' v v'∧DU P ρ' s1 w'∧Fr ρ s w ρ' s1 w'
 | _,_=>False
inductive Gn (P:Program) (ρ:DV) (s:CO) (w:World) (v:AV) (s1:CO):Result Next→Prop
 | value {v':Value} {w':World} {ρ':DV} (hv:Cc ρ' v v') (hi:DU P ρ' s1 w') (hf:Fr ρ s w ρ' s1 w'):Gn P ρ s w v s1 (.ok (.value v') w')
 | skip {w':World} {ρ':DV} (hv:Cc ρ' v undef) (hi:DU P ρ' s1 w') (hf:Fr ρ s w ρ' s1 w'):Gn P ρ s w v s1 (.ok .skip w')
 | enter {f:FuncId} {args:Array Value} (h:CallsIn Fence.wide 0 P f args w (Ey P ρ s w v s1)):Gn P ρ s w v s1 (.ok (.enter f args) w)
 | round {l:Nat} {f:FuncId} {tmps:Array Value} {assign body:Code} (h:RoundIn Fence.wide 0 P l f tmps assign body w (Ey P ρ s w v s1)):Gn P ρ s w v s1 (.ok (.round l f tmps assign body) w)
def DB(ρ:DV)(s:CO):Prop:=∀i,s.next≤i→ρ i=none∧s.heap.get i=none
structure qi(P:Program)(F:Gm):Prop where
 call:∀ (ρ:DV) (s:CO) (w:World) (f:FuncId) (aS:List AV) (v:AV) (s1:CO) (as':Array Value),F.call f aS s=some (v,s1)→DU P ρ s w→DB ρ s→Cb ρ aS as'.toList →
  Gn P ρ s w v s1 ((callFunc f as').run P w)
 round:∀ (ρ:DV) (s:CO) (w:World) (l:Nat) (rb:RB) (aS:List AV) (v:AV) (s1:CO) (as':Array Value),F.round l aS s=some (v,s1)→DU P ρ s w→DB ρ s→ρ l=some rb→Cb ρ aS as'.toList →
  Gn P ρ s w v s1 ((Instr.yield rb.b as').run P w)
section
variable{P:Program}{ρ ρ1 ρ2:DV}{s s1 s2:CO}{w w1 w2:World}{R:Eu}{a:Act}{ops:Array Oper}
theorem IR.mono{tmps:Array Value}(h:IR ρ R tmps)(le:ρ.le ρ1):IR ρ1 R tmps:=fun t v hv=>⟨(h t v hv).1,(h t v hv).2.mono le⟩
theorem X9(h:IR ρ R a.tmps){o:Operand}{v:AV}(hv:X8 R o=some v):Cc ρ v (a.eval o):=by
 cases o with
 | tmp t=>exact(h t v hv).2
 | const c=>exact Ei ρ hv
 | global g=>injection hv with hv;subst hv;exact .gptr g 0
 | func f=>injection hv with hv;subst hv;exact .func .nil .nil
theorem On(h:IR ρ R a.tmps):∀ {xs:List Operand}{aS:List AV},HT R xs=some aS→Cb ρ aS (xs.map a.eval)
 | [],aS,e=>by injection e with e;subst e;exact .nil
 | x::l,aS,e=>by
  simp only[HT,A8G]at e
  obtain⟨v,h1,r,h2,h3⟩:=e
  injection h3 with h3
  subst h3
  exact .cons (X9 h h1) (On h h2)
theorem ED(a:Act)(d:Option Tmp)(v:Value):(a.put d v).tmps.size=a.tmps.size:=by cases d<;>simp[Act.put]
theorem GB(a:Act)(d:Option Tmp)(v:Value):(a.put d v).defers=a.defers:=by cases d<;>rfl
theorem IR.put(h:IR ρ R a.tmps){d:Option Tmp}{v:AV}{v':Value}(hd:∀t,d=some t→t<a.tmps.size)(hv:Cc ρ v v'):IR ρ (R.put d v) (a.put d v').tmps:=by
  cases d with
  | none=>exact h
  | some d =>
    intro t u hu
    simp only[Act.put,Array.size_setIfInBounds]
    by_cases e:t=d
    · subst e
      simp only[Eu.put,if_true,A9b]at hu
      subst hu
      have:=hd t rfl
      exact⟨this,by simpa[A9d,this]using hv⟩
    · simp only[Eu.put,if_neg e]at hu
      have:=h t u hu
      refine⟨this.1,?_⟩
      have e2:(a.tmps.setIfInBounds d v').getD t undef=a.tmps.getD t undef:=by
        simp[A9d,A9c (Ne.symm e)]
      rw[e2]
      exact this.2
theorem Ui(h:IR ρ R a.tmps){o:Oper}{want:Bool}(hw:N6 ops R o=some want):Region.wanted o (yielded ops a.tmps)=want:=by
  unfold N6 at hw
  unfold Region.wanted
  split at hw
  · rename_i hg;rw[hg];injection hw
  · rename_i j b hg
    rw[hg]
    simp only[A8G]at hw
    obtain⟨p,h1,d,h2,x,h3,h4⟩:=hw
    have hnj:A3K x=false:=by
      cases hj:A3K x with
      | false=>rfl
      | true=>rw[hj]at h4;cases h4
    rw[hnj]at h4
    injection h4 with h4
    subst h4
    obtain⟨hlt,hv⟩:=h d x h3
    have hy:yielded ops a.tmps j=(match a.tmps.getD d undef with | .bool b=>some b | _=>none):=by
      unfold yielded
      rw[h1]
      simp only[Option.bind_some,h2]
      rw[Array.getElem?_eq_getElem hlt,show a.tmps.getD d undef=a.tmps[d]from by simp[A9d,hlt]]
      cases a.tmps[d]<;>rfl
    simp only[hy]
    generalize a.tmps.getD d undef=y at hv
    cases hv with
    | any h=>cases hnj
    | _=>first | rfl | (rename_i c;cases c<;>cases b<;>rfl)
theorem mQ{F:Gm}(hF:qi P F)(h:DU P ρ s w)(hf:DB ρ s){f v:AV}{f':Value}{aS:List AV}{as':Array Value}(hc:Kw F f aS s=some (v,s1))(hv:Cc ρ f f')(ha:Cb ρ aS as'.toList):
  Gn P ρ s w v s1 ((do let d ← Deferred.ofValue f' as';invoke d.target d.args:Sem Next).run P w):=by
 unfold Kw at hc
 split at hc<;>first | (cases hc;done) | skip
 ·cases hv with
  | func h1 h2 =>
   rename_i f x c x' c'
   have:=hF.call ρ s w f _ v s1 ((x'++as')++c') hc h hf (by simpa using h1.append (ha.append h2))
   simpa[Deferred.ofValue,invoke]using this
 ·cases hv with
  | yield h1 =>
   rename_i l rb
   have:=hF.round ρ s w l rb _ v s1 as' hc h hf h1 ha
   simpa[Deferred.ofValue,invoke]using this
theorem FN.next{sem:Sem Next}{v:AV}(h:FN P ρ s w sem v s1):Gn P ρ s w v s1 (sem.run P w):=by
 obtain⟨v',w',ρ',h1,h2,h3,h4⟩:=h
 rcases h1 with h1 | ⟨h1,e⟩
 ·rw[h1];exact .value h2 h3 h4
 ·subst e;rw[h1];exact .skip h2 h3 h4
theorem gx{F:Gm}(hF:qi P F)(h:DU P ρ s w)(hf:DB ρ s){o:Oper}{sh:Sh}{xs:List Operand}{aS:List AV}{v:AV}{ev:Operand→Value}(hev:∀f,ev (.func f)=.func (.func f) #[] #[])(hsh:De P o.op=some (sh,xs))(ha:Cb ρ aS (xs.map ev))(hr:qd F sh aS s=some (v,s1)):
    Gn P ρ s w v s1 ((execOp ev o).run P w):=by
  have plain:Ot sh aS s=some (v,s1)→Gn P ρ s w v s1 ((execOp ev o).run P w):=fun hl=>(A0l h (hf _ (A8H _)).1 hev hsh ha hl).next
  have calls:(∀f,sh≠.call f)→sh≠.callv→Gn P ρ s w v s1 ((execOp ev o).run P w):=by
    intro h1 h2
    refine plain ?_
    cases sh<;>first | exact hr | exact absurd rfl (h1 _) | exact absurd rfl h2
  have isCall:(∃f,sh=.call f)∨sh=.callv→∃c,o.op=.call c:=by
    intro hc
    cases ho:o.op<;>rw[ho]at hsh<;>first | exact⟨_,rfl⟩ | (simp[De]at hsh;done) | skip
    case binOp op t x y f =>
      simp only[De]at hsh
      split at hsh<;>(injection hsh with hsh;injection hsh with e1 e2;subst e1;rcases hc with⟨_,hc⟩ | hc<;>cases hc)
    case makeMap t r =>
      cases r with
      | some _=>cases hsh
      | none=>obtain⟨_,hsh⟩:=CM hsh;injection hsh with hsh;injection hsh with e1 e2;subst e1;rcases hc with⟨_,hc⟩ | hc<;>cases hc
    case makeFunc fn first captured =>
      cases fn with
      | func f=>injection hsh with hsh;injection hsh with e1 e2;subst e1;rcases hc with⟨_,hc⟩ | hc<;>cases hc
      | _=>cases hsh
    all_goals first | (injection hsh with hsh;injection hsh with e1 e2;subst e1;rcases hc with⟨_,hc⟩ | hc<;>cases hc;done) | (obtain⟨_,hsh⟩:=CM hsh;injection hsh with hsh;injection hsh with e1 e2;subst e1;rcases hc with⟨_,hc⟩ | hc<;>cases hc)
  by_cases hc:(∃f,sh=.call f)∨sh=.callv
  · obtain⟨⟨callee,args,argTypes⟩,ho⟩:=isCall hc
    rw[ho]at hsh
    have hx:∀g,callee=.value g→execOp ev o=(do let d ← Deferred.ofValue (ev g) (args.map ev);invoke d.target d.args):=by
      intro g hg
      subst hg
      simp only[execOp,ho,resolve]
    have notB:∀b,callee≠.builtin b:=by
      intro b e
      subst e
      simp only[De]at hsh
      split at hsh<;>first | (cases hsh;done) | skip
      all_goals first
        | (injection hsh with hsh;injection hsh with e1 e2;subst e1;rcases hc with⟨_,hc⟩ | hc<;>cases hc;done)
        | (split at hsh<;>first | (cases hsh;done) | (injection hsh with hsh;injection hsh with e1 e2;subst e1;rcases hc with⟨_,hc⟩ | hc<;>cases hc;done) | (obtain⟨_,hsh⟩:=CM hsh;injection hsh with hsh;injection hsh with e1 e2;subst e1;rcases hc with⟨_,hc⟩ | hc<;>cases hc;done))
    simp only[De]at hsh
    split at hsh
    · rename_i f
      split at hsh
      · injection hsh with hsh;injection hsh with e1 e2;subst e1;rcases hc with⟨_,hc⟩ | hc<;>cases hc
      injection hsh with hsh;injection hsh with e1 e2;subst e1;subst e2
      rw[hx _ rfl,hev]
      have:=hF.call ρ s w f aS v s1 (args.map ev) hr h hf (by simpa using ha)
      simpa[Deferred.ofValue,invoke]using this
    · rename_i x _
      injection hsh with hsh;injection hsh with e1 e2;subst e1;subst e2
      rw[hx _ rfl]
      cases ha with
      | cons h1 h2=>exact mQ hF h hf hr h1 (by simpa using h2)
    · cases hsh
    · exact absurd rfl (notB _)
  · exact calls (fun f e=>hc (.inl ⟨f,e⟩)) (fun e=>hc (.inr e))
end
section
variable{P:Program}{ρ ρ1 ρ2:DV}{s s1 s2:CO}{w w1 w2:World}{R:Eu}{a:Act}{ops:Array Oper}{rnd:Option Nat}{Q:Exit→Act→World→Prop}
theorem PG{n:Nat}{f:FuncId}{args:Array Value}{Rr:Ending→World→Prop}(h:CallsIn Fence.wide n P f args w Rr):CallsIn (NI rnd) n P f args w Rr:=h
theorem YE{n l:Nat}{f:FuncId}{tmps:Array Value}{assign body:Code}{Rr:Ending→World→Prop}(h:RoundIn Fence.wide n P l f tmps assign body w Rr):RoundIn (NI rnd) n P l f tmps assign body w Rr:=h
theorem DB.step(h:DB ρ s)(k:Fr ρ s w ρ1 s1 w1):DB ρ1 s1:=fun i hi =>
 ⟨k.fresh i (h i (A8Z k.next hi)).1 (.inr hi),(k.unborn i (h i (A8Z k.next hi)).1 (.inr hi)).trans (h i (A8Z k.next hi)).2⟩
theorem UH{o:Oper}{v:AV}{K:Act→World→Prop}{r:Result Next}(h:Gn P ρ s w v s1 r)
    (hk:∀v' w' ρ',Cc ρ' v v'→DU P ρ' s1 w'→Fr ρ s w ρ' s1 w'→K (a.put o.dst v') w'):o.uponIn (NI rnd) 0 P a K Q r:=by
  cases h with
  | value hv hi hf=>exact hk _ _ _ hv hi hf
  | skip hv hi hf=>exact hk _ _ _ hv hi hf
  | enter h =>
    refine⟨fun e=>(by cases e),PG (CallsIn.mono h ?_)⟩
    intro e w' he
    cases e with
    | returned v'=>obtain⟨ρ',h1,h2,h3⟩:=he;exact hk _ _ _ h1 h2 h3
    | panicked c=>exact he.elim
    | outgrown=>exact he.elim
  | round h =>
    refine⟨fun e=>(by cases e),YE (RoundIn.mono h ?_)⟩
    intro e w' he
    cases e with
    | returned v'=>obtain⟨ρ',h1,h2,h3⟩:=he;exact hk _ _ _ h1 h2 h3
    | panicked c=>exact he.elim
    | outgrown=>exact he.elim
theorem UJ{o:Oper}{x:Sh×List Operand}(h:De P o.op=some x):∀c,o.op≠.defer c:=by
 intro c e
 rw[e]at h
 simp[De]at h
theorem dp{F:Gm}(hF:qi P F)(h:DU P ρ s w)(hf:DB ρ s){nt i:Nat}{o:Oper}{sh:Sh}{want:Bool}{aS:List AV}{v:AV}{R1:Eu}{K:Act→World→Prop}(ho:ops[i]? = some o)
  (hs:QJ P F ops nt R s o sh want aS v R1 s1) (hr:IR ρ R a.tmps) (hnt:nt≤a.tmps.size)
  (hk:∀v' w' ρ',Cc ρ' v v'→DU P ρ' s1 w'→Fr ρ s w ρ' s1 w'→K (a.put o.dst v') w'):wpOpIn (NI rnd) 0 P ops Q i K a w:=by
 unfold wpOpIn
 rw[ho]
 simp only
 obtain⟨xs,hsh,has⟩:=hs.shape
 rw[Ui hr hs.wants]
 cases want with
 | true =>
  simp only[if_true]
  refine⟨fun _ _=>trivial,?_⟩
  rw[Oper.semAt_eq _ _ _ (UJ hsh)]
  exact UH (gx hF h hf (fun _=>rfl) hsh (On hr has) (hs.yes rfl)) hk
 | false =>
  simp only[Bool.false_eq_true,if_false]
  refine⟨fun _ _=>trivial,?_⟩
  obtain⟨rfl,rfl⟩:=hs.no rfl
  exact hk undef w ρ (Gk ρ) h (Fr.refl _ _ _)
theorem iD{F:Gm}(hF:qi P F){nt:Nat}{b:Array Nat}{draw:Bool}{R2:Eu}:
    ∀ {l:List Nat} {m:List Yv} {R:Eu} {s:CO} {ρ:DV} {a:Act} {w:World},Trace P F ops nt b draw l m R s R2 s2→DU P ρ s w→DB ρ s→IR ρ R a.tmps→nt≤a.tmps.size →
      (∀a' w' ρ',DU P ρ' s2 w'→DB ρ' s2→Fr ρ s w ρ' s2 w'→IR ρ' R2 a'.tmps→a'.tmps.size=a.tmps.size→a'.defers=a.defers→Q .normal a' w') →
      wpOpsIn (NI rnd) 0 P ops Q l a w:=by
  intro l
  induction l with
  | nil =>
    intro m R s ρ a w ht h hf hr hnt hq
    cases ht
    exact hq a w ρ h hf (Fr.refl _ _ _) hr rfl rfl
  | cons i l ih =>
    intro m R s ρ a w ht h hf hr hnt hq
    cases ht with
    | cons ho hs ag hl =>
      rename_i R1 s1 o sh want aS v
      rw[wpOpsIn_cons]
      refine dp hF h hf ho hs hr hnt ?_
      intro v' w' ρ' h1 h2 h3
      refine ih hl h2 (hf.step h3) ?_ (by rw[ED];exact hnt) ?_
      · rw[hs.put]
        exact(hr.mono h3.le).put (fun t e=>A8L (hs.lt t e) hnt) h1
      · intro a' w'' ρ'' g1 g2 g3 g4 g5 g6
        exact hq a' w'' ρ'' g1 g2 (h3.trans g3) g4 (by rw[g5,ED]) (by rw[g6,GB])
end
theorem M3(m i:Nat):M2 m i=m.testBit i:=by
 unfold M2
 rw[Nat.testBit]
 show Nat.beq ((m >>> i) &&& 1) 1=((1 &&& (m >>> i)) != 0)
 have h:(m >>> i) &&& 1=1 &&& (m >>> i):=Nat.and_comm _ _
 rw[h]
 have h2:1 &&& (m >>> i)=0∨1 &&& (m >>> i)=1:=by
  have:1 &&& (m >>> i)≤1:=Nat.and_le_left
  omega
 rcases h2 with h2 | h2<;>rw[h2]<;>rfl
theorem UB(f:Nat→Bool):∀n j,(Jg f n).testBit j=(decide (j<n) && f j)
  | 0,j=>by simp[Jg]
  | n + 1, j => by
    unfold Jg
    have ih:=UB f n j
    cases hf:f n with
    | true =>
      show(Nat.shiftLeft 1 n ||| Jg f n).testBit j=_
      rw[Nat.testBit_or,ih]
      show((1 <<< n).testBit j || _)=_
      rw[Nat.one_shiftLeft,A9R]
      by_cases h:n=j
      · subst h;simp[hf]
      · have:decide (j<n+1)=decide (j<n):=by rw[decide_eq_decide];omega
        simp[h,this]
    | false =>
      show(Jg f n).testBit j=_
      rw[ih]
      by_cases h:n=j
      · subst h;simp[hf]
      · have:decide (j<n+1)=decide (j<n):=by rw[decide_eq_decide];omega
        rw[this]
theorem Nx{a b:Nat}(h:iA a b=true)(j:Nat)(hj:a.testBit j=true):b.testBit j=true:=by
 unfold iA at h
 have h:=A8R h
 have h:a &&& b=a:=h
 rw[← h,Nat.testBit_and,A9W]at hj
 exact hj.2
theorem N2{l:List Tmp}{t:Tmp}(h:t∈l):(N0 l).testBit t=true:=by
 induction l with
 | nil=>cases h
 | cons a l ih =>
  show(A3p a ||| N0 l).testBit t=true
  rw[Nat.testBit_or,A9X]
  rcases A8I.1 h with rfl | h
  ·left
   show(1 <<< t).testBit t=true
   rw[Nat.one_shiftLeft,A9R];simp
  ·exact .inr (ih h)
theorem RD{done:Nat}:∀ {l:List Edge},VK done l=true→∀e∈l,Region.binds .any e=true→done.testBit e.on=true
  | [],_,e,he,_=>by cases he
  | a::l,h,e,he,hb=>by
    simp only[VK,A9W,A9X,A9Y]at h
    rcases A8I.1 he with rfl | he
    · rcases h.1 with h1 | h1
      · rw[hb]at h1;cases h1
      · rw[← M3];exact h1
    · exact RD h.2 e he hb
theorem p9{P:Program}{ops:Array Oper}{b:Array Nat}{before:List Nat}{done i:Nat}(hd:∀j,done.testBit j=true↔j∈before)(hlt:∀j∈before,j<ops.size)
    (h:dm P ops (b.getD i 0) (fH P ops) done i (ops.getD i default)=true):Ow P ops b before i=true:=by
  unfold dm at h
  simp only[A9W,A9Y,M3]at h
  obtain⟨h1,h2,h3,h4,h5,h6,h7,h8⟩:=h
  have hm:∀ (f:Nat→Bool) (j:Nat),j∈before→f j=true→(Nat.land done (Jg f ops.size)).testBit j=true:=fun f j hj hf=>by
    show(done &&& Jg f ops.size).testBit j=true
    rw[Nat.testBit_and,(hd j).2 hj,UB,hf]
    simp[hlt j hj]
  unfold Ow
  simp only[A9W]
  refine⟨⟨⟨⟨⟨⟨h1,?_⟩,?_⟩,?_⟩,?_⟩,?_⟩,?_⟩
  · cases hc:before.contains i with
    | false=>rfl
    | true =>
      have:=(hd i).2 (List.contains_iff_mem.1 hc)
      rw[h2]at this;cases this
  · rw[A8w]
    intro j _
    cases ha:(b.getD i 0).testBit j with
    | false=>rfl
    | true=>exact List.contains_iff_mem.2 ((hd j).1 (Nx h3 j ha))
  · rw[Array.all_eq_true_iff_forall_mem]
    intro e he
    cases hb:Region.binds .any e with
    | false=>rfl
    | true=>exact List.contains_iff_mem.2 ((hd _).1 (RD h4 e (Array.mem_toList_iff.2 he) hb))
  · rw[A8w]
    intro j hj
    cases he:RE P (ops.getD j default)with
    | false=>rfl
    | true=>exact Nx h5 j (hm (fun j=>RE P (ops.getD j default)) j hj he)
  · rw[A8w]
    intro j hj
    unfold VW at hj
    unfold nc at h6
    split at hj
    · rename_i j' w hg
      rw[hg]at h6
      simp only[A9E]at hj
      subst hj
      have h6:M2 (b.getD i 0) j=true:=h6
      rw[M3]at h6
      exact h6
    · cases hj
  · rw[A8w]
    intro j hj
    simp only[A9W]
    refine⟨?_,?_⟩
    · cases hd' : (ops.getD i default).dst with
      | none=>rfl
      | some d =>
        rw[hd']at h7
        simp only[A9W]at h7
        obtain⟨k1,k2⟩:=h7
        have k1:=A8R k1
        simp only[A9W,bne_iff_ne,ne_eq,A9X,A9Y]
        refine⟨fun e=>?_,?_⟩
        · have:=hm (fun j=>mo (ops.getD j default) d) j hj (by simp only[mo,e];exact Nat.beq_refl d)
          rw[k1]at this
          simp at this
        · cases hc:(Hb P (ops.getD j default)).contains d with
          | false=>exact .inl rfl
          | true =>
            exact .inr (Nx k2 j (hm (fun j=>(NY P (ops.getD j default)).testBit d) j hj (by exact N2 (List.contains_iff_mem.1 hc))))
    · cases hp:(ops.getD j default).dst with
      | none=>rfl
      | some d =>
        simp only[A9X,A9Y]
        cases hc:(Hb P (ops.getD i default)).contains d with
        | false=>exact .inl rfl
        | true =>
          exact .inr (Nx h8 j (hm (fun j=>mn (ops.getD j default) (NY P (ops.getD i default))) j hj (by simp only[mn,hp];rw[M3];exact N2 (List.contains_iff_mem.1 hc))))
theorem SR{P:Program}{ops:Array Oper}{b:Array Nat}:∀ (l:List Nat)(before:List Nat)(done n:Nat),n=before.length→(∀j,done.testBit j=true↔j∈before)→(∀j∈before,j<ops.size)→Li P ops b (fH P ops) n done l=true→Hr P ops b before l=true
  | [],before,done,n,hn,hd,hlt,h=>by
    subst hn;exact h
  | i::l,before,done,n,hn,hd,hlt,h=>by
    simp only[Li,A9W]at h
    have hs:=p9 hd hlt h.1
    have hi:i<ops.size:=by
      have:=h.1
      unfold dm at this
      simp only[A9W,A8Y]at this
      exact this.1
    simp only[Hr,hs,Bool.true_and]
    refine SR l (before++[i]) _ (n+1) (by simp[hn]) (fun j=>?_) (fun j hj=>?_) h.2
    · show(1 <<< i ||| done).testBit j=true↔_
      rw[Nat.testBit_or,A9X,Nat.one_shiftLeft,A9R,hd,A8q,A9E,decide_eq_true_eq]
      constructor
      · rintro (h | h)
        · exact .inr h.symm
        · exact .inl h
      · rintro (h | h)
        · exact .inr h
        · exact .inl h.symm
    · rcases A8q.1             hj with hj | hj
      · exact hlt j hj
      · rw[A9E.1 hj];exact hi
theorem aN{P:Program}{ops:Array Oper}{b:Array Nat}{l:List Nat}(h:Li P ops b (fH P ops) 0 0 l=true):Hr P ops b [] l=true:=
 SR l [] 0 0 rfl (fun j=>by simp) (fun j hj=>by cases hj) h
def Hz(acc:Array Nat)(o:Oper):Nat:=o.after.foldl (fun s e=>if Region.binds .any e then s ||| 2 ^ e.on ||| acc.getD e.on 0 else s) 0
theorem Ux(acc:Array Nat)(o:Oper)(k:Nat)(h:(Hz acc o).testBit k=true):∃e∈o.after,Region.binds .any e=true∧(k=e.on∨(acc.getD e.on 0).testBit k=true):=by
  unfold Hz at h
  rw[← Array.foldl_toList]at h
  have key:∀ (l:List Edge) (s:Nat),(l.foldl (fun s e=>if Region.binds .any e then s ||| 2 ^ e.on ||| acc.getD e.on 0 else s) s).testBit k=true →
      s.testBit k=true∨∃e∈l,Region.binds .any e=true∧(k=e.on∨(acc.getD e.on 0).testBit k=true):=by
    intro l
    induction l with
    | nil=>intro s h;exact .inl h
    | cons e l ih =>
      intro s h
      simp only[A9C]at h
      rcases ih _ h with h | ⟨e',he',h1,h2⟩
      · by_cases hb : Region.binds .any e = true
        · rw[if_pos hb]at h
          simp only[Nat.testBit_or,A9X,A9R]at h
          rcases h with(h | h) | h
          · exact .inl h
          · exact .inr ⟨e,A8M,hb,.inl (by simpa using (of_decide_eq_true h).symm)⟩
          · exact .inr ⟨e,A8M,hb,.inr h⟩
        · rw[if_neg hb]at h
          exact .inl h
      · exact .inr ⟨e',A8J _ he',h1,h2⟩
  rcases key _ _ h with h | ⟨e,he,h1,h2⟩
  · simp at h
  · exact⟨e,Array.mem_toList_iff.1 he,h1,h2⟩
theorem Wm(ops:Array Oper):∀i k,((Region.before ops).getD i 0).testBit k=true→∃o,ops[i]? = some o∧∃e∈o.after,Region.binds .any e=true∧(k=e.on∨((Region.before ops).getD e.on 0).testBit k=true):=by
  have key:∀ (l pre:List Oper) (acc:Array Nat),acc.size=pre.length →
      (∀i k,(acc.getD i 0).testBit k=true→∃o,pre[i]? = some o∧∃e∈o.after,Region.binds .any e=true∧(k=e.on∨(acc.getD e.on 0).testBit k=true)) →
      ∀i k,((l.foldl (fun acc o=>acc.push (Hz acc o)) acc).getD i 0).testBit k=true→∃o,(pre++l)[i]? = some o∧∃e∈o.after,Region.binds .any e=true∧(k=e.on∨((l.foldl (fun acc o=>acc.push (Hz acc o)) acc).getD e.on 0).testBit k=true):=by
    intro l
    induction l with
    | nil=>intro pre acc hs h;simpa using h
    | cons o l ih =>
      intro pre acc hs h
      simp only[A9C]
      have:=ih (pre++[o]) (acc.push (Hz acc o)) (by simp[hs]) ?_
      · simpa using this
      · have up:∀j k,(acc.getD j 0).testBit k=true→((acc.push (Hz acc o)).getD j 0).testBit k=true:=by
          intro j k hj
          rcases A8N j acc.size with hlt | hge
          · simpa[A9d,Array.getElem?_push,Nat.ne_of_lt hlt]using hj
          · simp[A9d,Array.getElem?_eq_none hge]at hj
        intro i k hi
        rcases A9G i acc.size with hlt | heq | hgt
        · have hi':(acc.getD i 0).testBit k=true:=by
            simpa[A9d,Array.getElem?_push,Nat.ne_of_lt hlt]using hi
          obtain⟨o',h1,e,h2,h3,h4⟩:=h i k hi'
          refine⟨o',?_,e,h2,h3,h4.imp id (up _ _)⟩
          rw[A8d (by omega)]
          exact h1
        · subst heq
          have hi':(Hz acc o).testBit k=true:=by
            simpa[A9d]using hi
          obtain⟨e,h2,h3,h4⟩:=Ux acc o k hi'
          refine⟨o,?_,e,h2,h3,h4.imp id (up _ _)⟩
          rw[hs]
          simp
        · have:(acc.push (Hz acc o))[i]? = none:=Array.getElem?_eq_none (by simp;omega)
          simp[A9d,this]at hi
  intro i k h
  have h0:Region.before ops=ops.toList.foldl (fun acc o=>acc.push (Hz acc o)) #[]:=by
    unfold Region.before
    rw[← Array.foldl_toList]
    rfl
  rw[h0]at h ⊢
  obtain⟨o,h1,h2⟩:=key ops.toList [] #[] rfl (by intro i k h;simp at h) i k h
  exact⟨o,by simpa using h1,h2⟩
theorem fz{P:Program}{o:Oper}{sh:Sh}{xs:List Operand}(h:De P o.op=some (sh,xs)){t:Tmp}(ht:Operand.tmp t∈xs):t∈Hb P o:=by
 unfold Hb
 rw[h]
 refine List.mem_append_right _ (List.mem_filterMap.2 ⟨.tmp t,ht,rfl⟩)
structure OI(P:Program)(ops:Array Oper)(b:Array Nat)(π:List Nat):Prop where
 len:π.length=ops.size
 lt:∀p i:Nat,π[p]? = some i→i<ops.size
 inj:∀p q i:Nat,π[p]? = some i→π[q]? = some i→p=q
 edge:∀ (p i:Nat) (o:Oper),π[p]? = some i→ops[i]? = some o→∀e∈o.after,Region.binds .any e=true→∃q,q<p∧π[q]? = some e.on
 eff:∀ (p q i j:Nat) (o:Oper),π[p]? = some i→π[q]? = some j→q<p→ops[j]? = some o→RE P o=true→(b.getD i 0).testBit j=true
 guard:∀ (p i:Nat) (o:Oper) (j:Nat) (w:Bool),π[p]? = some i→ops[i]? = some o→o.guard=some (j,w)→(b.getD i 0).testBit j=true
 wdst:∀ (p q i j:Nat) (o u:Oper) (d:Tmp),π[p]? = some i→π[q]? = some j→q<p→ops[i]? = some o→ops[j]? = some u→o.dst=some d→u.dst≠some d∧(d∈Hb P u→(b.getD i 0).testBit j=true)
 rdst:∀ (p q i j:Nat) (o u:Oper) (d:Tmp),π[p]? = some i→π[q]? = some j→q<p→ops[i]? = some o→ops[j]? = some u→u.dst=some d→d∈Hb P o→(b.getD i 0).testBit j=true
theorem ST{P:Program}{ops:Array Oper}{b:Array Nat}:∀ {l bef:List Nat},Hr P ops b bef l=true →
  (bef++l).length=ops.size∧∀p i:Nat,l[p]? = some i→Ow P ops b (bef++l.take p) i=true:=by
 intro l
 induction l with
 | nil=>intro bef h;exact⟨by simpa using Cv h,fun p i e=>by simp at e⟩
 | cons a l ih =>
  intro bef h
  simp only[Hr,A9W]at h
  obtain⟨h1,h2⟩:=ih h.2
  refine⟨by simpa using h1,?_⟩
  intro p i e
  cases p with
  | zero=>simp at e;subst e;simpa using h.1
  | succ p=>simpa using h2 p i (by simpa using e)
theorem HO{ops:Array Oper}{i:Nat}{o:Oper}(h:ops[i]? = some o):ops.getD i default=o:=by simp[A9d,h]
theorem Jh{l:List Nat}{p j:Nat}:j∈l.take p↔∃q,q<p∧l[q]? = some j:=by
  rw[List.mem_iff_getElem?]
  constructor
  · rintro ⟨q, hq⟩
    rw[List.getElem?_take]at hq
    split at hq
    · exact⟨q,by assumption,hq⟩
    · cases hq
  · rintro⟨q,hlt,hq⟩
    exact⟨q,by rw[List.getElem?_take,if_pos hlt];exact hq⟩
theorem Ol{P:Program}{ops:Array Oper}{b:Array Nat}{π:List Nat}(h:Hr P ops b [] π=true):OI P ops b π:=by
 obtain⟨hlen,hst⟩:=ST h
 simp only[A8i]at hlen hst
 have parts:=fun(p i:Nat) (e:π[p]? = some i)=>by
  have:=hst p i e
  unfold Ow at this
  simpa only[A9W,A9Y,Array.all_eq_true_iff_forall_mem,A8w,A9X]using this
 refine⟨hlen,?_,?_,?_,?_,?_,?_,?_⟩
 ·intro p i e
  have:=(parts p i e).1.1.1.1.1.1
  simpa[A8Y]using this
 ·have one:∀p q i:Nat,π[p]? = some i→π[q]? = some i→q<p→False:=by
   intro p q i e1 e2 hlt
   have:=(parts p i e1).1.1.1.1.1.2
   have hm:i∈π.take p:=Jh.2 ⟨q,hlt,e2⟩
   rw[List.contains_iff_mem.2 hm]at this
   cases this
  intro p q i e1 e2
  rcases A9G p q with h' | h' | h'
  ·exact(one q p i e2 e1 h').elim
  ·exact h'
  ·exact(one p q i e1 e2 h').elim
 ·intro p i o e ho ed hed hb
  have:=(parts p i e).1.1.1.2
  rw[HO ho]at this
  rcases this ed hed with h' | h'
  ·rw[hb]at h';cases h'
  ·exact Jh.1 (List.contains_iff_mem.1 h')
 ·intro p q i j o e1 e2 hlt ho he
  have:=(parts p i e1).1.1.2 j (Jh.2 ⟨q,hlt,e2⟩)
  rw[HO ho,he]at this
  exact this.resolve_left (by simp)
 ·intro p i o j w e ho hg
  have:=(parts p i e).1.2
  rw[HO ho]at this
  exact this j (by simp[VW,hg])
 ·intro p q i j o u d e1 e2 hlt ho hu hd
  have:=((parts p i e1).2 j (Jh.2 ⟨q,hlt,e2⟩)).1
  rw[HO ho,HO hu,hd]at this
  simp only[A9W,A9X,A9Y,bne_iff_ne,ne_eq]at this
  refine⟨this.1,fun hm=>?_⟩
  rcases this.2 with h' | h'
  ·rw[List.contains_iff_mem.2 hm]at h';cases h'
  ·exact h'
 ·intro p q i j o u d e1 e2 hlt ho hu hd hm
  have:=((parts p i e1).2 j (Jh.2 ⟨q,hlt,e2⟩)).2
  rw[HO ho,HO hu,hd]at this
  simp only[A9X,A9Y]at this
  rcases this with h' | h'
  ·rw[List.contains_iff_mem.2 hm]at h';cases h'
  ·exact h'
theorem Xv:∀ (m:Nat)(l:List Nat),l.Nodup→(∀x∈l,x<m)→l.length≤m:=by
  intro m
  induction m with
  | zero =>
    intro l _ h
    cases l with
    | nil=>simp
    | cons a l=>exact absurd (h a A8M) (by omega)
  | succ m ih =>
    intro l hn h
    by_cases hm:m∈l
    · have h1:=ih (l.erase m) (hn.erase m) (fun x hx=>by
        have hx:=(hn.mem_erase_iff).1 hx
        have:=h x hx.2
        have:=hx.1
        omega)
      rw[List.length_erase_of_mem hm]at h1
      omega
    · have:=ih l hn (fun x hx=>by
        have:=h x hx
        have:x≠m:=fun e=>hm (e▸hx)
        omega)
      omega
theorem OI.onto{P:Program}{ops:Array Oper}{b:Array Nat}{π:List Nat}(h:OI P ops b π){i:Nat}(hi:i<ops.size):∃p:Nat,π[p]? = some i:=by
  have hn:π.Nodup:=by
    refine List.pairwise_iff_getElem.2 ?_
    intro p q hp hq hpq e
    have:=h.inj p q (π[q]) (by rw[A8O hp,e]) (A8O hq)
    omega
  by_cases hm:i∈π
  · exact List.mem_iff_getElem?.1 hm
  · have hn' : (i :: π).Nodup := A8x.2             ⟨hm, hn⟩
    have:=Xv ops.size (i::π) hn' (fun x hx=>by
      rcases A8I.1 hx with rfl | hx
      · exact hi
      · obtain⟨p,hp⟩:=List.mem_iff_getElem?.1 hx
        exact h.lt p x hp)
    simp only[A8P,h.len]at this
    omega
structure TI where
 R:Nat→Eu
 st:Nat→CO
 o:Nat→Oper
 sh:Nat→Sh
 want:Nat→Bool
 aS:Nat→List AV
 v:Nat→AV
structure PT(P:Program)(F:Gm)(ops:Array Oper)(nt:Nat)(b:Array Nat)(π:List Nat)(D:TI):Prop where
 op:∀p i:Nat,π[p]? = some i→ops[i]? = some (D.o p)
 step:∀p,p<π.length→QJ P F ops nt (D.R p) (D.st p) (D.o p) (D.sh p) (D.want p) (D.aS p) (D.v p) (D.R (p+1)) (D.st (p+1))
 ag:∀p q i j:Nat,π[p]? = some i→π[q]? = some j→q<p→(D.sh p).isEff=true→D.want p=true→(D.sh q).isRead=true→(b.getD i 0).testBit j=false→D.want q=true →
  Ii (D.sh q) (D.aS q) (D.st (p+1))=some (D.v q)
def MJ{α:Type}(a:α)(f:Nat→α):Nat→α
 | 0=>a
 | p+1=>f p
theorem qH{P:Program}{F:Gm}{ops:Array Oper}{nt:Nat}{b:Array Nat}{l:List Nat}{m:List Yv}{R R2:Eu}{s s2:CO}(h:Trace P F ops nt b true l m R s R2 s2):
    ∃D:TI,PT P F ops nt b l D∧D.R 0=R∧D.st 0=s∧D.R l.length=R2∧D.st l.length=s2 ∧
      (∀p i:Nat,l[p]? = some i→(D.sh p).isEff=true→D.want p=true→∀r∈m,(b.getD i 0).testBit r.idx=false→r.want=true→Ii r.sh r.aS (D.st (p+1))=some r.v):=by
  induction h with
  | nil =>
    rename_i m R s
    exact⟨⟨fun _=>R,fun _=>s,fun _=>default,fun _=>.callv,fun _=>false,fun _=>[],fun _=>Cx⟩,
      ⟨by intro p i h;simp at h,by intro p h;simp at h,by intro p q i j h;simp at h⟩,rfl,rfl,rfl,rfl,by intro p i h;simp at h⟩
  | cons ho hs ag hl ih =>
    rename_i i l m R R1 R2 s s1 s2 o sh want aS v
    obtain⟨D,h1,h2,h3,h4,h5,h6⟩:=ih
    refine⟨⟨MJ R D.R,MJ s D.st,MJ o D.o,MJ sh D.sh,MJ want D.want,MJ aS D.aS,MJ v D.v⟩,⟨?_,?_,?_⟩,rfl,rfl,h4,h5,?_⟩
    · intro p j hp
      cases p with
      | zero=>simp at hp;subst hp;exact ho
      | succ p=>exact h1.op p j (by simpa using hp)
    · intro p hp
      cases p with
      | zero=>simp only[MJ,h2,h3];exact hs
      | succ p=>exact h1.step p (by simpa using hp)
    · intro p q j k hp hq hlt he hw hr ht hwq
      cases p with
      | zero=>omega
      | succ p =>
        cases q with
        | zero =>
          simp at hq
          subst hq
          simp only[MJ]at hr hwq he hw ⊢
          refine h6 p j (by simpa using hp) he hw ⟨i,sh,aS,v,want⟩ ?_ ht hwq
          rw[hr]
          exact A8M
        | succ q=>exact h1.ag p q j k (by simpa using hp) (by simpa using hq) (by omega) he hw hr ht hwq
    · intro p j hp he hw r hr ht hwr
      cases p with
      | zero =>
        simp at hp
        subst hp
        simp only[MJ,h3]at he hw ⊢
        exact ag rfl he hw r hr ht hwr
      | succ p =>
        refine h6 p j (by simpa using hp) he hw r ?_ ht hwr
        cases hb:(true && sh.isRead)with
        | true=>exact A8J _ hr
        | false=>exact hr
theorem Ph{sh:Sh}{aS:List AV}{s:CO}{v:AV}(h:Ii sh aS s=some v):Ot sh aS s=some (v,s):=by
  cases sh with
  | r1 f =>
    cases aS with
    | nil=>cases h
    | cons a l =>
      cases l with
      | nil=>have h:f s a=some v:=h;simp[Ot,h,HF]
      | cons=>cases h
  | r f=>have h:f s aS=some v:=h;simp[Ot,h,HF]
  | _=>cases h
theorem Pb{P:Program}{R:Eu}{o:Op}{sh:Sh}{xs:List Operand}{aS:List AV}{s s1:CO}{v:AV}(hsh:De P o=some (sh,xs))(he:HT R xs=some aS)(hr:sh.isRead=true)(h:Ot sh aS s=some (v,s1)):
    Ii sh aS s=some v∧s1=s:=by
  have one:∀x:Operand,xs=[x]→∃a,aS=[a]:=by
    intro x e
    subst e
    simp only[HT,A8G]at he
    obtain⟨a,_,r,hr,he⟩:=he
    injection hr with hr
    injection he with he
    subst hr
    exact⟨a,he.symm⟩
  cases sh with
  | r1 f =>
    have:∃x,xs=[x]:=by
      cases o<;>first | (simp[De]at hsh;done) | skip
      case binOp op t x y f =>
        simp only[De]at hsh
        split at hsh<;>(injection hsh with hsh;injection hsh with h1 h2;cases h1)
      case load t a=>injection hsh with hsh;injection hsh with h1 h2;exact⟨_,h2.symm⟩
      case convert src dst x=>injection hsh with hsh;injection hsh with h1 h2;exact⟨_,h2.symm⟩
      case makeMap t r=>cases r with
        | some _=>cases hsh
        | none=>obtain⟨_,hsh⟩:=CM hsh;injection hsh with hsh;injection hsh with h1 h2;cases h1
      case lookup=>obtain⟨_,hsh⟩:=CM hsh;injection hsh with hsh;injection hsh with h1 h2;cases h1
      case mapUpdate=>obtain⟨_,hsh⟩:=CM hsh;injection hsh with hsh;injection hsh with h1 h2;cases h1
      case insert=>obtain⟨_,hsh⟩:=CM hsh;injection hsh with hsh;injection hsh with h1 h2;cases h1
      case makeFunc fn first captured=>cases fn<;>first | (cases hsh;done) | (injection hsh with hsh;injection hsh with h1 h2;cases h1)
      case call c =>
        obtain⟨callee,args,argTypes⟩:=c
        simp only[De]at hsh
        split at hsh<;>first | (cases hsh;done) | (split at hsh<;>(cases hsh;done);done) | skip
        split at hsh<;>first | (cases hsh;done) | skip
        all_goals first | (split at hsh<;>cases hsh;done) | (split at hsh<;>first | (cases hsh;done) | (obtain⟨_,hsh⟩:=CM hsh;cases hsh;done))
    obtain⟨x,hx⟩:=this
    obtain⟨a,rfl⟩:=one x hx
    exact ac h
  | r f=>exact UX h
  | _=>cases hr
section
variable{P:Program}{ρ ρ1 ρ2:DV}{s s1 s2:CO}{w w1 w2:World}{R:Eu}{a:Act}{ops:Array Oper}{rnd:Option Nat}{Q:Exit→Act→World→Prop}
theorem Si{F:Gm}(h:DU P ρ s w)(hf:ρ s.next=none){nt i:Nat}{o:Oper}{sh:Sh}{want:Bool}{aS:List AV}{v:AV}{R1:Eu}{K:Act→World→Prop}(ho:ops[i]? = some o)
  (hs:QJ P F ops nt R s o sh want aS v R1 s1) (hne:sh.isEff=false) (hr:IR ρ R a.tmps) (hnt:nt≤a.tmps.size)
  (hk:∀v' w' ρ',Cc ρ' v v'→DU P ρ' s1 w'→Fr ρ s w ρ' s1 w'→K (a.put o.dst v') w'):wpOpIn (NI rnd) 0 P ops Q i K a w:=by
 unfold wpOpIn
 rw[ho]
 simp only
 obtain⟨xs,hsh,has⟩:=hs.shape
 rw[Ui hr hs.wants]
 cases want with
 | true =>
  simp only[if_true]
  refine⟨fun _ _=>trivial,?_⟩
  rw[Oper.semAt_eq _ _ _ (UJ hsh)]
  have hl:Ot sh aS s=some (v,s1):=by
   have:=hs.yes rfl
   cases sh<;>first | exact this | cases hne
  exact UH (A0l h hf (fun _=>rfl) hsh (On hr has) hl).next hk
 | false =>
  simp only[Bool.false_eq_true,if_false]
  refine⟨fun _ _=>trivial,?_⟩
  obtain⟨rfl,rfl⟩:=hs.no rfl
  exact hk undef w ρ (Gk ρ) h (Fr.refl _ _ _)
theorem tG{o:Op}{f:List AV→Option (Cg×Made)}{xs:List Operand}{aS:List AV}{ob:Cg}{m:Made}(hsh:De P o=some (.mk f,xs))(h:f aS=some (ob,m)):Hp ob=none:=by
 cases o<;>first | (simp[De]at hsh;done) | skip
 case binOp op t x y f =>
  simp only[De]at hsh
  split at hsh<;>(injection hsh with hsh;injection hsh with h1 h2;cases h1)
 case alloc e =>
  injection hsh with hsh;injection hsh with h1 h2;injection h1 with h1;subst h1
  simp only at h
  split at h<;>first | (cases h;done) | skip
  simp only[Dz,A8G]at h
  obtain⟨z,_,h⟩:=h
  injection h with h;injection h with h h';subst h;rfl
 case box e x =>
  injection hsh with hsh;injection hsh with h1 h2;injection h1 with h1;subst h1
  simp only at h
  split at h<;>first | (cases h;done) | skip
  injection h with h;injection h with h h';subst h;rfl
 case buildSlice t len ps =>
  injection hsh with hsh;injection hsh with h1 h2;injection h1 with h1;subst h1
  simp only[A8G]at h
  obtain⟨r,hr,h⟩:=h
  injection h with h;injection h with h h';subst h
  unfold Cd at hr
  split at hr<;>first | (cases hr;done) | skip
  simp only[A8G]at hr
  obtain⟨n,_,hr⟩:=hr
  obtain⟨_,hr⟩:=CM hr
  simp only[A8G]at hr
  obtain⟨z,_,hr⟩:=hr
  obtain⟨_,hr⟩:=CM hr
  simp only[A8G]at hr
  obtain⟨l,_,hr⟩:=hr
  injection hr with hr;subst hr;rfl
 case makeMap t r =>
  cases r with
  | some _=>cases hsh
  | none =>
   obtain⟨_,hsh⟩:=CM hsh
   injection hsh with hsh;injection hsh with h1 h2;injection h1 with h1;subst h1
   simp only at h
   split at h<;>first | (cases h;done) | skip
   simp only[A8G]at h
   obtain⟨kt,_,h⟩:=h
   injection h with h;injection h with h h';subst h;rfl
 case makeSlice t l c =>
  injection hsh with hsh;injection hsh with h1 h2;injection h1 with h1;subst h1
  unfold GA at h
  split at h<;>first | (cases h;done) | skip
  unfold KF at h
  split at h<;>first | (cases h;done) | skip
  simp only[A8G]at h
  obtain⟨by_,_,n,_,h⟩:=h
  obtain⟨_,h⟩:=CM h
  simp only[A8G]at h
  obtain⟨z,_,h⟩:=h
  obtain⟨_,h⟩:=CM h
  injection h with h;injection h with h h';subst h;rfl
 case makeFunc fn first captured=>cases fn<;>first | (cases hsh;done) | (injection hsh with hsh;injection hsh with h1 h2;cases h1)
 case call c =>
  obtain⟨callee,args,argTypes⟩:=c
  simp only[De]at hsh
  split at hsh<;>first | (cases hsh;done) | (split at hsh<;>(cases hsh;done);done) | skip
  split at hsh<;>first | (cases hsh;done) | (split at hsh<;>first | (cases hsh;done) | (obtain⟨_,hsh⟩:=CM hsh;cases hsh;done))
 all_goals first | (cases hsh;done) | (obtain⟨_,hsh⟩:=CM hsh;cases hsh;done)
theorem DU.same(h:DU P ρ s w)(e:∀i rb,ρ i=some rb→s1.heap.get i=s.heap.get i)(hu:∀i o g,s1.heap.get i=some o→Hp o=some g→∃rb,ρ i=some rb):DU P ρ s1 w:=
  ⟨fun i o rb hi hr=>h.obj i o rb (by rw[← e i rb hr];exact hi) hr,h.lt,
   fun i j oi oj ri rj hne hi hj hri hrj=>h.sep i j oi oj ri rj hne (by rw[← e i ri hri];exact hi) (by rw[← e j rj hrj];exact hj) hri hrj,hu⟩
theorem Hg.same{b:Nat}(e:∀i rb,ρ i=some rb→s1.heap.get i=s.heap.get i)(h:Hg ρ s1 b):Hg ρ s b:=by
 obtain⟨i,o,rb,h1,h2,h3,h4⟩:=h
 exact⟨i,o,rb,by rw[← e i rb h3];exact h1,h2,h3,h4⟩
end
def Dn(π:List Nat)(listed:Array Bool)(p:Nat):Prop:=∃i:Nat,π[p]? = some i∧listed[i]? = some true
def Sh.isMk:Sh→Bool
 | .mk _=>true
 | _=>false
theorem aO{P:Program}{ops:Array Oper}{b:Array Nat}{π:List Nat}(h:Hr P ops b [] π=true):∀p i j:Nat,π[p]? = some i→j<ops.size→(b.getD i 0).testBit j=true→∃q:Nat,q<p∧π[q]? = some j:=by
 intro p i j hp hj ht
 have:=(ST h).2 p i hp
 unfold Ow at this
 simp only[A9W,A8w,A9X,A9Y]at this
 have:=this.1.1.1.1.2 j (List.mem_range.2 hj)
 rcases this with h' | h'
 ·rw[ht]at h';cases h'
 ·simpa using Jh.1 (List.contains_iff_mem.1 h')
theorem PT.regs_at{P:Program}{F:Gm}{ops:Array Oper}{nt:Nat}{b:Array Nat}{π:List Nat}{D:TI}(ht:PT P F ops nt b π D):∀p,p≤π.length→∀t x,D.R p t=some x →
    (∃q,q<p∧(D.o q).dst=some t∧x=D.v q)∨((∀q,q<p→(D.o q).dst≠some t)∧D.R 0 t=some x):=by
  intro p
  induction p with
  | zero=>intro _ t x h;exact .inr ⟨fun q hq=>by omega,h⟩
  | succ p ih =>
    intro hp t x h
    rw[(ht.step p (by omega)).put]at h
    have old:D.R p t=some x→(D.o p).dst≠some t→(∃q,q<p+1∧(D.o q).dst=some t∧x=D.v q)∨((∀q,q<p+1→(D.o q).dst≠some t)∧D.R 0 t=some x):=by
      intro h hne
      rcases ih (by omega) t x h with⟨q,h1,h2,h3⟩ | ⟨h1,h2⟩
      · exact .inl ⟨q,by omega,h2,h3⟩
      · refine .inr ⟨fun q hq => ?_, h2⟩
        rcases A8N q p with h' | h'
        · exact h1 q h'
        · have:q=p:=by omega
          subst this;exact hne
    cases hd:(D.o p).dst with
    | none=>rw[hd]at h;exact old h (by rw[hd];simp)
    | some d =>
      rw[hd]at h
      by_cases e:t=d
      · subst e
        simp only[Eu.put,if_true,A9b]at h
        exact .inl ⟨p,by omega,hd,h.symm⟩
      · simp only[Eu.put,if_neg e]at h
        exact old h (by rw[hd];intro e';injection e' with e';exact e e'.symm)
theorem Ni{R R':Eu}:∀ {xs:List Operand},(∀t,Operand.tmp t∈xs→R' t=R t)→HT R' xs=HT R xs
 | [],_=>rfl
 | x::l,h=>by
  have h1:X8 R' x=X8 R x:=by
   cases x with
   | tmp t=>exact h t A8M
   | _=>rfl
  simp only[HT,h1,Ni fun t ht=>h t (A8J _ ht)]
structure DJ(P:Program)(ops:Array Oper)(b:Array Nat)(π:List Nat)(D:TI)(ρ0:DV)(w0:World)(a0:Act)(listed:Array Bool)(k:Nat)(ρ:DV)(a:Act)(w:World):Prop where
 lsz:listed.size=ops.size
 kle:k≤π.length
 dlt:∀p,Dn π listed p→p<k
 eff:∀p,p<k→(D.sh p).isEff=true→Dn π listed p
 anc:∀p i:Nat,π[p]? = some i→Dn π listed p→∀j:Nat,j<ops.size→(b.getD i 0).testBit j=true→listed[j]? = some true
 inv:DU P ρ (D.st k) w
 fresh:DB ρ (D.st k)
 fr:Fr ρ0 (D.st 0) w0 ρ (D.st k) w
 unb:∀p,p<k→¬ Dn π listed p→D.want p=true→∀f,D.sh p=.mk f→∃ob m,f (D.aS p)=some (ob,m)∧D.v p=m.val (D.st p).next∧ρ (D.st p).next=none ∧
  (D.st k).heap.get (D.st p).next=some ob∧(D.st 0).next≤(D.st p).next∧(D.st p).next<(D.st k).next
 dis:∀p q,p<q→q<k→¬ Dn π listed p→¬ Dn π listed q→D.want p=true→D.want q=true→(D.sh p).isMk=true→(D.sh q).isMk=true→(D.st p).next≠(D.st q).next
 rds:∀q,q<k→¬ Dn π listed q→D.want q=true→(D.sh q).isRead=true→Ii (D.sh q) (D.aS q) (D.st k)=some (D.v q)
 sz:a.tmps.size=a0.tmps.size
 dfr:a.defers=a0.defers
 rw:∀p,Dn π listed p→∀d,(D.o p).dst=some d→Cc ρ (D.v p) (a.tmps.getD d undef)
 ri:∀t,(∀p,Dn π listed p→(D.o p).dst≠some t)→∀x,D.R 0 t=some x→Cc ρ x (a.tmps.getD t undef)
section
variable{P:Program}{F:Gm}{ops:Array Oper}{nt:Nat}{b:Array Nat}{π:List Nat}{D:TI}{ρ0 ρ ρ1:DV}{w0 w w1:World}{a0 a:Act}{listed:Array Bool}{k:Nat}{rnd:Option Nat}{Q:Exit→Act→World→Prop}
theorem DJ.adv1(ht:PT P F ops nt b π D)(J:DJ P ops b π D ρ0 w0 a0 listed k ρ a w)(hk:k<π.length)(hne:(D.sh k).isEff=false):DJ P ops b π D ρ0 w0 a0 listed (k+1) ρ a w:=by
  have hs:=ht.step k hk
  obtain⟨xs,hsh,has⟩:=hs.shape
  have lt1:∀p,Dn π listed p→p<k+1:=fun p h=>A9F (J.dlt p h)
  have eff1:∀p,p<k+1→(D.sh p).isEff=true→Dn π listed p:=by
    intro p hp he
    rcases A8N p k with h' | h'
    · exact J.eff p h' he
    · have:p=k:=by omega
      subst this;rw[he]at hne;cases hne
  have key:(D.st (k+1)=D.st k∧((D.sh k).isMk=true→D.want k=false)∧((D.sh k).isRead=true→D.want k=true→Ii (D.sh k) (D.aS k) (D.st k)=some (D.v k))) ∨
      ∃f ob m,D.sh k=.mk f∧D.want k=true∧f (D.aS k)=some (ob,m)∧D.v k=m.val (D.st k).next∧D.st (k+1)=newObj (D.st k) ob:=by
    cases hw:D.want k with
    | false =>
      obtain⟨_,h2⟩:=hs.no hw
      exact .inl ⟨h2,fun _=>rfl,fun _ e=>by cases e⟩
    | true =>
      have hy:=hs.yes hw
      cases he:D.sh k with
      | p1 f =>
        rw[he]at hy
        have hy:Ot (.p1 f) (D.aS k) (D.st k)=some (D.v k,D.st (k+1)):=hy
        refine .inl ⟨?_,fun e=>(by cases e),fun e=>(by cases e)⟩
        simp only[Ot]at hy
        split at hy<;>first | (cases hy;done) | exact(FK hy).2
      | p2 f =>
        rw[he]at hy
        have hy:Ot (.p2 f) (D.aS k) (D.st k)=some (D.v k,D.st (k+1)):=hy
        refine .inl ⟨?_,fun e=>(by cases e),fun e=>(by cases e)⟩
        simp only[Ot]at hy
        split at hy<;>first | (cases hy;done) | exact(FK hy).2
      | p f=>rw[he]at hy;exact .inl ⟨(Se (show Ot (.p f) _ _=_ from hy)).2,fun e=>(by cases e),fun e=>(by cases e)⟩
      | r1 f =>
        rw[he]at hy hsh
        have:=Pb hsh has rfl (show Ot (.r1 f) _ _=_ from hy)
        exact .inl ⟨this.2,fun e=>(by cases e),fun _ _=>this.1⟩
      | r f =>
        rw[he]at hy hsh
        have:=Pb hsh has rfl (show Ot (.r f) _ _=_ from hy)
        exact .inl ⟨this.2,fun e=>(by cases e),fun _ _=>this.1⟩
      | mk f =>
        rw[he]at hy
        obtain⟨ob,m,h1,h2,h3⟩:=Ou (show Ot (.mk f) _ _=_ from hy)
        exact .inr ⟨f,ob,m,rfl,rfl,h1,h2,h3⟩
      | e f=>rw[he]at hne;cases hne
      | call f=>rw[he]at hne;cases hne
      | callv=>rw[he]at hne;cases hne
  have ndk:¬ Dn π listed k:=fun h=>absurd (J.dlt k h) (Nat.lt_irrefl k)
  have split1:∀p,p<k+1→p<k∨p=k:=fun p h=>by omega
  rcases key with⟨e,hm,hrd⟩ | ⟨f,ob,m,he,hw,h1,h2,e⟩
  · refine ⟨J.lsz, hk, lt1, eff1, J.anc, by rw [e]; exact J.inv, by rw [e]; exact J.fresh, by rw [e]; exact J.fr, ?_, ?_, ?_, J.sz, J.dfr, J.rw, J.ri⟩
    · intro p hp hd hw f hf
      rcases split1 p hp with h' | rfl
      · rw[e];exact J.unb p h' hd hw f hf
      · rw[hm (by rw[hf];rfl)]at hw;cases hw
    · intro p q hpq hq d1 d2 w1 w2 m1 m2
      rcases split1 q hq with h' | rfl
      · exact J.dis p q hpq h' d1 d2 w1 w2 m1 m2
      · rw[hm m2]at w2;cases w2
    · intro q hq hd hw hr
      rw[e]
      rcases split1 q hq with h' | rfl
      · exact J.rds q h' hd hw hr
      · exact hrd hr hw
  · have hfr := J.fresh (D.st k).next (A8H         _)
    have hg:∀i,i≠(D.st k).next→(newObj (D.st k) ob).heap.get i=(D.st k).heap.get i:=fun i hi=>by rw[DC,if_neg hi]
    have hsame:∀i rb,ρ i=some rb→(newObj (D.st k) ob).heap.get i=(D.st k).heap.get i:=fun i rb hi=>hg i (fun q=>by subst q;rw[hfr.1]at hi;cases hi)
    refine⟨J.lsz,hk,lt1,eff1,J.anc,?_,?_,?_,?_,?_,?_,J.sz,J.dfr,J.rw,J.ri⟩
    · rw [e]
      refine J.inv.same hsame fun i o g hi hgo=>?_
      by_cases ei:i=(D.st k).next
      · subst ei
        rw[DC,if_pos rfl]at hi
        injection hi with hi
        subst hi
        obtain⟨xs,hsh,_⟩:=(ht.step k hk).shape
        rw[he]at hsh
        rw[tG hsh h1]at hgo
        cases hgo
      · rw[hg i ei]at hi
        exact J.inv.glb i o g hi hgo
    · rw[e]
      intro i hi
      have hi:(D.st k).next+1≤i:=hi
      have:=J.fresh i (by omega)
      exact⟨this.1,by rw[hg i (by omega)];exact this.2⟩
    · rw [e]
      refine⟨J.fr.le,fun i hi h'=>J.fr.fresh i hi (h'.imp id fun(h'':(D.st k).next+1≤i)=>by omega),Nat.le_succ_of_le J.fr.next,J.fr.size,J.fr.os,J.fr.tape,J.fr.output,J.fr.keep,fun bb hb=>J.fr.own bb (hb.same hsame),?_,J.fr.blk,fun i oi rb hi h0=>(by
        by_cases ei:i=(D.st k).next
        · subst ei;have h1:=J.fr.le _ _ h0;rw[(J.fresh _ (A8H _)).1]at h1;cases h1
        · rw[hg i ei]at hi;exact J.fr.dom i oi rb hi h0)⟩
      intro i hi h'
      have hn:i≠(D.st k).next:=by
        have:=J.fr.next
        rcases h' with h' | h'
        · omega
        · have h':(D.st k).next+1≤i:=h'
          omega
      rw[hg i hn]
      exact J.fr.unborn i hi (h'.imp id fun(h'':(D.st k).next+1≤i)=>by omega)
    · intro p hp hd hw' f' hf
      rw[e]
      rcases split1 p hp with h' | rfl
      · obtain⟨ob',m',g1,g2,g3,g4,g5,g6⟩:=J.unb p h' hd hw' f' hf
        exact⟨ob',m',g1,g2,g3,by rw[hg _ (by omega)];exact g4,g5,A9F g6⟩
      · rw[he]at hf
        injection hf with hf
        subst hf
        exact⟨ob,m,h1,h2,hfr.1,by rw[DC,if_pos rfl],J.fr.next,A8k _⟩
    · intro p q hpq hq d1 d2 w1 w2 m1 m2
      rcases split1 q hq with h' | rfl
      · exact J.dis p q hpq h' d1 d2 w1 w2 m1 m2
      · cases hsp:D.sh p with
        | mk fp=>obtain⟨_,_,_,_,_,_,_,g6⟩:=J.unb p hpq d1 w1 fp hsp;omega
        | _=>rw[hsp]at m1;cases m1
    · intro q hq hd hw' hr
      rw[e]
      rcases split1 q hq with h' | rfl
      · obtain⟨xq,hq1,_⟩:=(ht.step q (by omega)).shape
        exact gP (CO.sub_new hfr.2 ob) hq1 (J.rds q h' hd hw' hr)
      · rw[he]at hr;cases hr
theorem DJ.adv(ht:PT P F ops nt b π D):∀ (n k:Nat),n=π.length - k→DJ P ops b π D ρ0 w0 a0 listed k ρ a w→∃k',DJ P ops b π D ρ0 w0 a0 listed k' ρ a w∧(k'=π.length∨(D.sh k').isEff=true):=by
 intro n
 induction n with
 | zero=>intro k hn J;exact⟨k,J,.inl (by have:=J.kle;omega)⟩
 | succ n ih =>
  intro k hn J
  cases he:(D.sh k).isEff with
  | true=>exact⟨k,J,.inr he⟩
  | false=>exact ih (k+1) (by omega) (J.adv1 ht (by omega) he)
theorem A2Y(hp:OI P ops b π){p i q:Nat}(hi:π[p]? = some i)(hl:listed.size=ops.size):Dn π (listed.setIfInBounds i true) q↔Dn π listed q∨q=p:=by
  have hlt:=hp.lt p i hi
  constructor
  · rintro⟨j,h1,h2⟩
    by_cases e:j=i
    · subst e;exact .inr (hp.inj q p j h1 hi)
    · rw[A9c (Ne.symm e)]at h2
      exact .inl ⟨j,h1,h2⟩
  · rintro (⟨j, h1, h2⟩ | rfl)
    · refine⟨j,h1,?_⟩
      by_cases e:j=i
      · subst e;simp[hl,hlt]
      · rw[A9c (Ne.symm e)];exact h2
    · exact⟨i,hi,by simp[hl,hlt]⟩
theorem US{a:Act}{d' d:Tmp}{v:Value}(h:d'≠d):(a.put (some d') v).tmps.getD d undef=a.tmps.getD d undef:=by
 simp[Act.put,A9d,A9c h]
theorem DJ.put(ht:PT P F ops nt b π D)(hp:OI P ops b π)(hnt:nt≤a0.tmps.size)(J:DJ P ops b π D ρ0 w0 a0 listed k ρ a w){p i k':Nat}(hi:π[p]? = some i)(hnd:¬ Dn π listed p)(hpk:p<k')(hkk:k≤k')(hk'':∀q,q<k'→q=p∨q<k)(hkn:k'≤π.length)
    (hanc:∀j:Nat,j<ops.size→(b.getD i 0).testBit j=true→listed[j]? = some true) {v':Value} (hv:Cc ρ1 (D.v p) v') (le:ρ.le ρ1)
    (inv:DU P ρ1 (D.st k') w1) (fresh:DB ρ1 (D.st k')) (fr:Fr ρ0 (D.st 0) w0 ρ1 (D.st k') w1)
    (unb:∀q,q<k→q≠p→¬ Dn π listed q→D.want q=true→∀f,D.sh q=.mk f→ρ1 (D.st q).next=none∧(D.st k').heap.get (D.st q).next=(D.st k).heap.get (D.st q).next∧(D.st q).next<(D.st k').next)
    (rds:∀q,q<k→q≠p→¬ Dn π listed q→D.want q=true→(D.sh q).isRead=true→Ii (D.sh q) (D.aS q) (D.st k')=some (D.v q)):
    DJ P ops b π D ρ0 w0 a0 (listed.setIfInBounds i true) k' ρ1 (a.put (D.o p).dst v') w1:=by
  have hlt:=hp.lt p i hi
  have hpl:p<π.length:=by omega
  have dn:=fun q=>A2Y (listed:=listed) (q:=q) hp hi J.lsz
  have up:∀j:Nat,listed[j]? = some true→(listed.setIfInBounds i true)[j]? = some true:=by
    intro j h
    by_cases e:j=i
    · subst e;simp[J.lsz,hlt]
    · rw[A9c (Ne.symm e)];exact h
  have uniq:∀q r d,q<r→r<π.length→(D.o q).dst=some d→(D.o r).dst=some d→False:=by
    intro q r d hqr hr h1 h2
    have hr':=A8O hr
    have hq':=A8O (show q<π.length by omega)
    exact(hp.wdst r q _ _ _ _ d hr' hq' hqr (ht.op r _ hr') (ht.op q _ hq') h2).1 h1
  have nd:∀q,¬ Dn π (listed.setIfInBounds i true) q→¬ Dn π listed q∧q≠p:=fun q h=>⟨fun h'=>h ((dn q).2 (.inl h')),fun h'=>h ((dn q).2 (.inr h'))⟩
  refine⟨by simp[J.lsz],hkn,?_,?_,?_,inv,fresh,fr,?_,?_,?_,by rw[ED];exact J.sz,by rw[GB];exact J.dfr,?_,?_⟩
  · intro q hq
    rcases(dn q).1 hq with h' | rfl
    · exact A8L (J.dlt q h') hkk
    · exact hpk
  · intro q hq he
    rcases hk'' q hq with rfl | h'
    · exact(dn q).2 (.inr rfl)
    · exact(dn q).2 (.inl (J.eff q h' he))
  · intro q j hj hq l hl hb
    rcases(dn q).1 hq with h' | rfl
    · exact up l (J.anc q j hj h' l hl hb)
    · rw[hi]at hj
      injection hj with hj
      subst hj
      exact up l (hanc l hl hb)
  · intro q hq hd hw f hf
    obtain⟨d1,d2⟩:=nd q hd
    have hqk:=(hk'' q hq).resolve_left d2
    obtain⟨ob,m,g1,g2,g3,g4,g5,g6⟩:=J.unb q hqk d1 hw f hf
    obtain⟨u1,u2,u3⟩:=unb q hqk d2 d1 hw f hf
    exact⟨ob,m,g1,g2,u1,by rw[u2];exact g4,g5,u3⟩
  · intro q r hqr hr d1 d2 w1 w2 m1 m2
    obtain⟨d1,e1⟩:=nd q d1
    obtain⟨d2,e2⟩:=nd r d2
    exact J.dis q r hqr ((hk'' r hr).resolve_left e2) d1 d2 w1 w2 m1 m2
  · intro q hq hd hw hr
    obtain⟨d1,d2⟩:=nd q hd
    exact rds q ((hk'' q hq).resolve_left d2) d2 d1 hw hr
  · intro q hq d hd
    rcases(dn q).1 hq with h' | rfl
    · have hqn : q < π.length := A8L                (J.dlt q h') J.kle
      have hne:(D.o p).dst≠some d:=by
        intro e
        rcases A9G q p with h'' | h'' | h''
        · exact uniq q p d h'' hpl hd e
        · subst h'';exact hnd h'
        · exact uniq p q d h'' hqn e hd
      have:=(J.rw q h' d hd).mono le
      cases hdp:(D.o p).dst with
      | none=>exact this
      | some d' =>
        rw[US fun e=>hne (by rw[hdp,e])]
        exact this
    · have hd':d<a.tmps.size:=by
        rw[J.sz];exact A8L ((ht.step q hpl).lt d hd) hnt
      rw[hd]
      simpa[Act.put,A9d,hd']using hv
  · intro t hq x hx
    have hne:(D.o p).dst≠some t:=hq p ((dn p).2 (.inr rfl))
    have:=(J.ri t (fun q h'=>hq q ((dn q).2 (.inl h'))) x hx).mono le
    cases hdp:(D.o p).dst with
    | none=>exact this
    | some d' =>
      rw[US fun e=>hne (by rw[hdp,e])]
      exact this
end
section
variable{P:Program}{F:Gm}{ops:Array Oper}{nt:Nat}{b:Array Nat}{π:List Nat}{D:TI}{ρ0 ρ ρ1:DV}{w0 w w1:World}{a0 a:Act}{listed:Array Bool}{k:Nat}{rnd:Option Nat}{Q:Exit→Act→World→Prop}
theorem DJ.ahead(hp:OI P ops (Region.before ops) π)(J:DJ P ops (Region.before ops) π D ρ0 w0 a0 listed k ρ a w){p i:Nat}(hi:π[p]? = some i){o:Oper}(ho:ops[i]? = some o)
  (hr:∀e∈o.after,Region.binds .any e=true→listed.getD e.on false=true):∀j:Nat,j<ops.size→((Region.before ops).getD i 0).testBit j=true→listed[j]? = some true:=by
 intro j hj ht
 have lst:∀x:Nat,listed.getD x false=true→listed[x]? = some true:=by
  intro x hx
  rw[A9d]at hx
  cases h:listed[x]? with
  | none=>rw[h]at hx;cases hx
  | some v=>rw[h]at hx;simp at hx;rw[hx]
 obtain⟨o',ho',e,he,hb,h'⟩:=Wm ops i j ht
 rw[ho]at ho'
 injection ho' with ho'
 subst ho'
 have hl:=lst _ (hr e he hb)
 rcases h' with rfl | h'
 ·exact hl
 ·obtain⟨q,_,hq⟩:=hp.edge p i o hi ho e he hb
  exact J.anc q e.on hq ⟨e.on,hq,hl⟩ j hj h'
def Xo(P:Program)(ops:Array Oper)(o:Oper)(t:Tmp):Prop:=t∈Hb P o∨∃ (j:Nat)(want:Bool)(u:Oper),o.guard=some (j,want)∧ops[j]? = some u∧u.dst=some t
open Classical in
def Pl (P:Program) (ops:Array Oper) (o:Oper) (R:Eu):Eu:=fun t=>if Xo P ops o t then R t else none
theorem Yt{o:Oper}{R:Eu}{t:Tmp}(h:Xo P ops o t):Pl P ops o R t=R t:=by unfold Pl;rw[if_pos h]
theorem bG{o:Oper}{R:Eu}:N6 ops (Pl P ops o R) o=N6 ops R o:=by
 unfold N6
 cases hg:o.guard with
 | none=>rfl
 | some g =>
  obtain⟨j,want⟩:=g
  simp only
  cases hj:ops[j]? with
  | none=>rfl
  | some u =>
   cases hd:u.dst with
   | none=>simp[hd]
   | some d=>simp only[Option.bind_some,hd];rw[Yt (.inr ⟨j,want,u,hg,hj,hd⟩)]
theorem DJ.view(ht:PT P F ops nt (Region.before ops) π D)(hpl:Hr P ops (Region.before ops) [] π=true)(hr0:IR ρ0 (D.R 0) a0.tmps)(hnt:nt≤a0.tmps.size)
    (J:DJ P ops (Region.before ops) π D ρ0 w0 a0 listed k ρ a w) {p i:Nat} (hi:π[p]? = some i) (hnd:¬ Dn π listed p)
    (hanc:∀j:Nat,j<ops.size→((Region.before ops).getD i 0).testBit j=true→listed[j]? = some true):IR ρ (Pl P ops (D.o p) (D.R p)) a.tmps:=by
  have hp:=Ol hpl
  have hlt:=hp.lt p i hi
  have hpn:p<π.length:=by
    rcases A8N p π.length with h' | h'
    · exact h'
    · rw[A8W h']at hi;cases hi
  have hoi:=ht.op p i hi
  have place:∀ (q:Nat) (h:q<π.length),π[q]? = some π[q]:=fun q hq=>A8O hq
  have uniq:∀q r d,q<π.length→r<π.length→(D.o q).dst=some d→(D.o r).dst=some d→q=r:=by
    have one:∀q r d,q<r→r<π.length→(D.o q).dst=some d→(D.o r).dst=some d→False:=by
      intro q r d hqr hr h1 h2
      exact(hp.wdst r q _ _ _ _ d (place r hr) (place q (by omega)) hqr (ht.op r _ (place r hr)) (ht.op q _ (place q (by omega))) h2).1 h1
    intro q r d hq hr h1 h2
    rcases A9G q r with h' | h' | h'
    · exact(one q r d h' hr h1 h2).elim
    · exact h'
    · exact(one r q d h' hq h2 h1).elim
  intro t x hx
  unfold Pl at hx
  split at hx
  · rename_i hn
    have gd:∀ (j:Nat) (want:Bool) (u:Oper),(D.o p).guard=some (j,want)→ops[j]? = some u→u.dst=some t→∃q,q<p∧Dn π listed q∧(D.o q).dst=some t:=by
      intro j want u h1 h2 h3
      have hj:j<ops.size:=by
        rcases A8N j ops.size with h' | h'
        · exact h'
        · rw[Array.getElem?_eq_none h']at h2;cases h2
      have hb:=hp.guard p i (D.o p) j want hi hoi h1
      obtain⟨q,hqp,hq⟩:=aO hpl p i j hi hj hb
      refine⟨q,hqp,⟨j,hq,hanc j hj hb⟩,?_⟩
      have:=ht.op q j hq
      rw[h2]at this
      injection this with this
      rw[← this];exact h3
    have fin:∀ {y:AV},Cc ρ y (a.tmps.getD t undef)→t<a0.tmps.size→t<a.tmps.size∧Cc ρ y (a.tmps.getD t undef):=fun h1 h2=>⟨by rw[J.sz];exact h2,h1⟩
    rcases ht.regs_at p (Nat.le_of_lt hpn) t x hx with⟨q,hq,hd,rfl⟩ | ⟨hno,h0⟩
    · have hqn : q < π.length := by omega
      have dq:Dn π listed q:=by
        rcases hn with hn | ⟨j,want,u,h1,h2,h3⟩
        · have hb:=hp.rdst p q i _ _ _ t hi (place q hqn) hq hoi (ht.op q _ (place q hqn)) hd hn
          exact⟨π[q],place q hqn,hanc _ (hp.lt q _ (place q hqn)) hb⟩
        · obtain⟨r,hr1,hr2,hr3⟩:=gd j want u h1 h2 h3
          have:=uniq q r t hqn (by omega) hd hr3
          subst this;exact hr2
      exact fin (J.rw q dq t hd) (A8L ((ht.step q hqn).lt t hd) hnt)
    · refine fin (J.ri t ?_ x h0) (hr0 t x h0).1
      intro q dq hd
      have hqn:q<π.length:=A8L (J.dlt q dq) J.kle
      have hpq:p<q:=by
        rcases A9G q p with h' | h' | h'
        · exact absurd hd (hno q h')
        · subst h';exact absurd dq hnd
        · exact h'
      rcases hn with hn | ⟨j,want,u,h1,h2,h3⟩
      · have hb:=(hp.wdst q p _ i _ _ t (place q hqn) hi hpq (ht.op q _ (place q hqn)) hoi hd).2 hn
        exact hnd ⟨i,hi,J.anc q _ (place q hqn) dq i hlt hb⟩
      · obtain⟨r,hr1,hr2,hr3⟩:=gd j want u h1 h2 h3
        exact absurd hr3 (hno r hr1)
  · cases hx
theorem VL{o:Oper}{sh:Sh}{xs:List Operand}(h:De P o.op=some (sh,xs)):RE P o=sh.isEff:=by unfold RE;rw[h]
theorem DJ.run(hF:qi P F)(ht:PT P F ops nt (Region.before ops) π D)(hpl:Hr P ops (Region.before ops) [] π=true)(hr0:IR ρ0 (D.R 0) a0.tmps)(hnt:nt≤a0.tmps.size)
    (J:DJ P ops (Region.before ops) π D ρ0 w0 a0 listed k ρ a w) (htop:k=π.length∨(D.sh k).isEff=true) {p i:Nat} (hi:π[p]? = some i) (hnd:¬ Dn π listed p)
    (hanc:∀j:Nat,j<ops.size→((Region.before ops).getD i 0).testBit j=true→listed[j]? = some true) {K:Act→World→Prop}
    (hK:∀k' ρ' a' w',DJ P ops (Region.before ops) π D ρ0 w0 a0 (listed.setIfInBounds i true) k' ρ' a' w'→K a' w'):wpOpIn (NI rnd) 0 P ops Q i K a w:=by
  have hp:=Ol hpl
  have hpn:p<π.length:=by
    rcases A8N p π.length with h' | h'
    · exact h'
    · rw[A8W h']at hi;cases hi
  have place:∀ (q:Nat) (h:q<π.length),π[q]? = some π[q]:=fun q hq=>A8O hq
  have hoi:=ht.op p i hi
  have hs:=ht.step p hpn
  obtain⟨xs,hsh,has⟩:=hs.shape
  have hv:=J.view ht hpl hr0 hnt hi hnd hanc
  have hkp:p≤k:=by
    rcases A8N k p with h' | h'
    · have hkn : k < π.length := by omega
      have he:(D.sh k).isEff=true:=htop.resolve_left (by omega)
      obtain⟨xk,hk1,_⟩:=(ht.step k hkn).shape
      have hb:=hp.eff p k i _ _ hi (place k hkn) h' (ht.op k _ (place k hkn)) (by rw[VL hk1];exact he)
      have:=J.dlt k ⟨π[k],place k hkn,hanc _ (hp.lt k _ (place k hkn)) hb⟩
      omega
    · exact h'
  have hno:p<k→(D.sh p).isEff=false:=fun h'=>by
    cases he:(D.sh p).isEff with
    | false=>rfl
    | true=>exact absurd (J.eff p h' he) hnd
  have hnt':nt≤a.tmps.size:=by rw[J.sz];exact hnt
  have has':HT (Pl P ops (D.o p) (D.R p)) xs=some (D.aS p):=by
    rw[Ni fun t htx=>Yt (.inl (fz hsh htx))];exact has
  have sok:∀ {s s1:CO},(D.want p=true→qd F (D.sh p) (D.aS p) s=some (D.v p,s1))→(D.want p=false→s1=s) →
      QJ P F ops nt (Pl P ops (D.o p) (D.R p)) s (D.o p) (D.sh p) (D.want p) (D.aS p) (D.v p) ((Pl P ops (D.o p) (D.R p)).put (D.o p).dst (D.v p)) s1:=fun h1 h2 =>
    ⟨⟨xs,hsh,has'⟩,by rw[bG];exact hs.wants,rfl,hs.lt,h1,fun hw=>⟨(hs.no hw).1,h2 hw⟩⟩
  rcases A8N p k with hlt | hge
  ·
    have hne:=hno hlt
    have same:∀ {v':Value} {w':World} {ρ':DV},Cc ρ' (D.v p) v'→DU P ρ' (D.st k) w'→Fr ρ (D.st k) w ρ' (D.st k) w'→K (a.put (D.o p).dst v') w':=by
      intro v' w' ρ' h1 h2 h3
      refine hK k ρ' _ w' (J.put ht hp hnt hi hnd hlt (A8H k) (fun q hq=>.inr hq) J.kle hanc h1 h3.le h2 (J.fresh.step h3) (J.fr.trans h3) ?_ ?_)
      · intro q hq _ hd hw f hf
        obtain⟨ob,m,g1,g2,g3,g4,g5,g6⟩:=J.unb q hq hd hw f hf
        exact⟨h3.fresh _ g3 (.inl g6),rfl,g6⟩
      · intro q hq _ hd hw hr
        exact J.rds q hq hd hw hr
    have quiet:(D.want p=true→qd F (D.sh p) (D.aS p) (D.st k)=some (D.v p,D.st k))→wpOpIn (NI rnd) 0 P ops Q i K a w:=fun hy =>
      Si J.inv (J.fresh _ (A8H _)).1 hoi (sok hy fun _=>rfl) hne hv hnt' fun v' w' ρ' h1 h2 h3=>same h1 h2 h3
    cases hw:D.want p with
    | false=>exact quiet (fun e=>by rw[hw]at e;cases e)
    | true =>
      have hy:=hs.yes hw
      cases he:D.sh p with
      | p1 f =>
        refine quiet fun _=>?_
        rw[he]at hy ⊢
        simp only[qd,Ot]at hy ⊢
        split at hy<;>first | (cases hy;done) | (rw[(FK hy).1];rfl)
      | p2 f =>
        refine quiet fun _=>?_
        rw[he]at hy ⊢
        simp only[qd,Ot]at hy ⊢
        split at hy<;>first | (cases hy;done) | (rw[(FK hy).1];rfl)
      | p f =>
        refine quiet fun _=>?_
        rw[he]at hy ⊢
        simp only[qd,Ot]at hy ⊢
        rw[(FK hy).1];rfl
      | r1 f =>
        refine quiet fun _=>?_
        have:=Ph (J.rds p hlt hnd hw (by rw[he];rfl))
        rw[he]at this ⊢
        exact this
      | r f =>
        refine quiet fun _=>?_
        have:=Ph (J.rds p hlt hnd hw (by rw[he];rfl))
        rw[he]at this ⊢
        exact this
      | mk f =>
        obtain⟨ob,m,g1,g2,g3,g4,g5,g6⟩:=J.unb p hlt hnd hw f he
        let s':CO:={ next:=(D.st p).next,heap:=(D.st k).heap }
        have hinv:DU P ρ s' w:=J.inv.same (fun _ _ _=>rfl) J.inv.glb
        have hsame:∀x,(newObj s' ob).heap.get x=(D.st k).heap.get x:=by
          intro x
          rw[DC]
          by_cases e:x=s'.next
          · rw[if_pos e,e];exact g4.symm
          · rw[if_neg e]
        refine Si hinv g3 hoi (sok (s1:=newObj s' ob) (fun _=>?_) (fun e=>by rw[hw]at e;cases e)) hne hv hnt' ?_
        · rw[he]
          simp only[qd,Ot,g1,Xl,g2]
          rfl
        · intro v' w' ρ' h1 h2 h3
          have h2':DU P ρ' (D.st k) w':=h2.same (fun x _ _=>(hsame x).symm) fun i o g hi hgo=>let ⟨r,hr⟩:=J.inv.glb i o g hi hgo;⟨r,h3.le _ _ hr⟩
          have hid:(D.st p).next+1≤(D.st k).next:=g6
          refine hK k ρ' _ w' (J.put ht hp hnt hi hnd hlt (A8H k) (fun q hq=>.inr hq) J.kle hanc h1 h3.le h2' ?_ ?_ ?_ ?_)
          · intro x hx
            have:=J.fresh x hx
            exact⟨h3.fresh x this.1 (.inr (show(D.st p).next+1≤x by omega)),this.2⟩
          · refine ⟨DV.le_trans  J.fr.le h3.le, ?_, J.fr.next, A8Z          J.fr.size h3.size, h3.os.trans J.fr.os, h3.tape.trans J.fr.tape, h3.output.trans J.fr.output, ?_, ?_, J.fr.unborn, fun x rb hx h0 => ?_, J.fr.dom⟩
            · intro x hx h'
              refine h3.fresh x (J.fr.fresh x hx h') ?_
              rcases h' with h' | h'
              · exact .inl (show x<(D.st p).next by omega)
              · exact .inr (show(D.st p).next+1≤x by omega)
            · intro bb hb ho
              have hb':bb<w.heap.size:=A8L hb J.fr.size
              refine(h3.keep bb hb' ?_).trans (J.fr.keep bb hb ho)
              intro ho'
              have ho'':Hg ρ (D.st k) bb:=ho'
              exact(J.fr.own bb ho'').elim ho (fun hge=>by omega)
            · intro bb hb
              have hb':Hg ρ' (newObj s' ob) bb:=hb.same fun x _ _=>(hsame x).symm
              rcases h3.own bb hb' with h' | h'
              · exact J.fr.own bb h'
              · exact .inr (A8Z J.fr.size h')
            · cases h1 : ρ x with
              | some rb1 =>
                have:=h3.le _ _ h1
                rw[hx]at this
                injection this with this
                subst this
                exact J.fr.blk x _ h1 h0
              | none =>
                rcases h3.blk x rb hx h1 with h2 | ⟨j,o,rj,h2,h4,h5⟩
                · exact .inl (A8Z J.fr.size h2)
                · cases h6:ρ0 j with
                  | none=>rw[← h5];exact J.fr.blk j rj h4 h6
                  | some rj0 =>
                    have:=J.fr.le _ _ h6
                    rw[h4]at this
                    injection this with this
                    subst this
                    obtain⟨o',h7⟩:=J.fr.dom j o _ h2 h6
                    exact .inr ⟨j,o',_,h7,h6,h5⟩
          · intro q hq hqp hd hwq fq hfq
            obtain⟨_,_,_,_,u3,_,_,u6⟩:=J.unb q hq hd hwq fq hfq
            have hne':(D.st q).next≠(D.st p).next:=by
              rcases A9G q p with h' | h' | h'
              · exact J.dis q p h' hlt hd hnd hwq hw (by rw[hfq];rfl) (by rw[he];rfl)
              · exact absurd h' hqp
              · exact(J.dis p q h' hq hnd hd hw hwq (by rw[he];rfl) (by rw[hfq];rfl)).symm
            refine⟨h3.fresh _ u3 ?_,rfl,u6⟩
            rcases Nat.lt_or_gt_of_ne hne' with h' | h'
            · exact .inl h'
            · exact .inr h'
          · intro q hq _ hd hwq hr
            exact J.rds q hq hd hwq hr
      | e f=>rw[he]at hne;cases hne
      | call f=>rw[he]at hne;cases hne
      | callv=>rw[he]at hne;cases hne
  ·
    have hpk:p=k:=by omega
    subst hpk
    have hkn:p<π.length:=hpn
    have he:(D.sh p).isEff=true:=htop.resolve_left (by omega)
    refine dp hF J.inv J.fresh hoi (sok (s1:=D.st (p+1)) hs.yes (fun e=>(hs.no e).2)) hv hnt' ?_
    intro v' w' ρ' h1 h2 h3
    refine hK (p+1) ρ' _ w' (J.put ht hp hnt hi hnd (A8k p) (A8s p) (fun q hq=>by omega) hkn hanc h1 h3.le h2 (J.fresh.step h3) (J.fr.trans h3) ?_ ?_)
    · intro q hq _ hd hw f hf
      obtain⟨ob,m,g1,g2,g3,g4,g5,g6⟩:=J.unb q hq hd hw f hf
      exact⟨h3.fresh _ g3 (.inl g6),h3.unborn _ g3 (.inl g6),A8L g6 h3.next⟩
    · intro q hq _ hd hw hr
      have hqn:q<π.length:=by omega
      cases hwp:D.want p with
      | false=>rw[(hs.no hwp).2];exact J.rds q hq hd hw hr
      | true =>
        refine ht.ag p q i _ hi (place q hqn) hq he hwp hr ?_ hw
        cases hb:((Region.before ops).getD i 0).testBit π[q]with
        | false=>rfl
        | true=>exact absurd ⟨π[q],place q hqn,hanc _ (hp.lt q _ (place q hqn)) hb⟩ hd
theorem DJ.any(hF:qi P F)(ht:PT P F ops nt (Region.before ops) π D)(hpl:Hr P ops (Region.before ops) [] π=true)(hr0:IR ρ0 (D.R 0) a0.tmps)(hnt:nt≤a0.tmps.size)
    (hq:∀a' w' ρ',DU P ρ' (D.st π.length) w'→DB ρ' (D.st π.length)→Fr ρ0 (D.st 0) w0 ρ' (D.st π.length) w'→IR ρ' (D.R π.length) a'.tmps→a'.tmps.size=a0.tmps.size→a'.defers=a0.defers→Q .normal a' w'):
    ∀ (fuel:Nat) (listed:Array Bool) (k:Nat) (ρ:DV) (a:Act) (w:World),DJ P ops (Region.before ops) π D ρ0 w0 a0 listed k ρ a w→(∀l:List Nat,l.Nodup→(∀i∈l,listed[i]? = some false)→l.length≤fuel) →
      wpAnyIn (NI rnd) 0 P .any ops Q fuel listed a w:=by
  have hp:=Ol hpl
  have place:∀ (q:Nat) (h:q<π.length),π[q]? = some π[q]:=fun q hq=>A8O hq
  have bool:∀ {listed:Array Bool} {i:Nat},i<listed.size→listed[i]?≠some true→listed[i]? = some false:=by
    intro listed i hi h
    rw[Array.getElem?_eq_getElem hi]at h ⊢
    cases hb:listed[i]with
    | true=>rw[hb]at h;exact absurd rfl h
    | false=>rfl
  have all:∀ {listed:Array Bool} {k:Nat} {ρ:DV} {a:Act} {w:World},DJ P ops (Region.before ops) π D ρ0 w0 a0 listed k ρ a w→Region.ready .any ops listed=[]→∀p,p<π.length→Dn π listed p:=by
    intro listed k ρ a w J hr p
    induction p using Nat.strongRecOn with
    | ind p ih =>
      intro hpn
      refine Classical.byContradiction fun hnd=>?_
      have hi:=place p hpn
      have hlt:=hp.lt p _ hi
      have hoi:=ht.op p _ hi
      have hf:listed[π[p]]? = some false:=bool (by rw[J.lsz];exact hlt) fun h=>hnd ⟨_,hi,h⟩
      have hm:π[p]∈Region.ready .any ops listed:=by
        refine mem_ready.2 ⟨by simp[A9d,hf],D.o p,hoi,?_⟩
        intro e he hb
        obtain⟨q,hqp,hq'⟩:=hp.edge p _ _ hi hoi e he hb
        obtain⟨j,hj,hl⟩:=ih q hqp (by omega)
        rw[hq']at hj
        injection hj with hj
        subst hj
        simp[A9d,hl]
      rw[hr]at hm
      cases hm
  have done:∀ {listed:Array Bool} {k:Nat} {ρ:DV} {a:Act} {w:World},DJ P ops (Region.before ops) π D ρ0 w0 a0 listed k ρ a w→Region.ready .any ops listed=[]→Q .normal a w:=by
    intro listed k ρ a w J hr
    have hall:=all J hr
    have hk:k=π.length:=by
      rcases A8N k π.length with h' | h'
      · have:=J.dlt k (hall k h');omega
      · have:=J.kle;omega
    subst hk
    refine hq a w ρ J.inv J.fresh J.fr ?_ J.sz J.dfr
    intro t x hx
    rcases ht.regs_at π.length (A8H _) t x hx with⟨q,hqn,hd,rfl⟩ | ⟨hno,h0⟩
    · exact⟨by rw[J.sz];exact A8L ((ht.step q hqn).lt t hd) hnt,J.rw q (hall q hqn) t hd⟩
    · exact⟨by rw[J.sz];exact(hr0 t x h0).1,J.ri t (fun q dq=>hno q (J.dlt q dq)) x h0⟩
  intro fuel
  induction fuel with
  | zero =>
    intro listed k ρ a w J hfu
    have hr:Region.ready .any ops listed=[]:=by
      cases hr:Region.ready .any ops listed with
      | nil=>rfl
      | cons i l =>
        have hm:i∈Region.ready .any ops listed:=by rw[hr];exact A8M
        obtain⟨h1,o,ho,_⟩:=mem_ready.1 hm
        have hlt:i<ops.size:=by
          rcases A8N i ops.size with h' | h'
          · exact h'
          · rw[Array.getElem?_eq_none h']at ho;cases ho
        have:=hfu [i] (by simp) (fun j hj=>by
          have:j=i:=by simpa using hj
          subst this
          refine bool (by rw[J.lsz];exact hlt) fun h=>?_
          simp[A9d,h]at h1)
        simp at this
    exact⟨hr,done J hr⟩
  | succ fuel ih =>
    intro listed k ρ a w J hfu
    obtain⟨k,J,htop⟩:=J.adv ht _ k rfl
    refine⟨done J,fun i hm=>?_⟩
    obtain⟨h1,o,ho,hr⟩:=mem_ready.1 hm
    have hlt:i<ops.size:=by
      rcases A8N i ops.size with h' | h'
      · exact h'
      · rw[Array.getElem?_eq_none h']at ho;cases ho
    obtain⟨p,hi⟩:=hp.onto hlt
    have hf:listed[i]?≠some true:=fun h=>by simp[A9d,h]at h1
    have hnd:¬ Dn π listed p:=fun⟨j,hj,hl⟩=>by
      rw[hi]at hj
      injection hj with hj
      subst hj
      exact hf hl
    refine J.run hF ht hpl hr0 hnt htop hi hnd (J.ahead hp hi ho hr) ?_
    intro k' ρ' a' w' J'
    refine ih _ k' ρ' a' w' J' ?_
    intro l hn hl
    have hil:i ∉ l:=fun h=>by
      have:=hl i h
      simp[J.lsz,hlt]at this
    have:=hfu (i::l) (A8x.2 ⟨hil,hn⟩) (fun j hj=>by
      rcases A8I.1 hj with rfl | hj
      · exact bool (by rw[J.lsz];exact hlt) hf
      · have:=hl j hj
        rw[A9c (fun e=>hil (by rw[e];exact hj))]at this
        exact this)
    simpa using this
theorem ml(hF:qi P F){R R2:Eu}{s s2:CO}(htr:Trace P F ops nt (Region.before ops) true π [] R s R2 s2)(hpl:Hr P ops (Region.before ops) [] π=true)
  (h:DU P ρ s w) (hf:DB ρ s) (hr:IR ρ R a.tmps) (hnt:nt≤a.tmps.size)
  (hq:∀a' w' ρ',DU P ρ' s2 w'→DB ρ' s2→Fr ρ s w ρ' s2 w'→IR ρ' R2 a'.tmps→a'.tmps.size=a.tmps.size→a'.defers=a.defers→Q .normal a' w'):
  wpAnyIn (NI rnd) 0 P .any ops Q ops.size (Array.replicate ops.size false) a w:=by
 obtain⟨D,ht,e1,e2,e3,e4,_⟩:=qH htr
 subst e1;subst e2;subst e3;subst e4
 have nodn:∀p,¬ Dn π (Array.replicate ops.size false) p:=by
  rintro p ⟨i,_,h⟩
  rw[Array.getElem?_replicate]at h
  split at h<;>cases h
 refine DJ.any hF ht hpl hr hnt hq ops.size _ 0 ρ a w ⟨by simp,A8T _,fun p h=>(nodn p h).elim,fun p h=>by omega,fun p i _ h=>(nodn p h).elim,h,hf,Fr.refl _ _ _,fun p h=>by omega,fun p q _ h=>by omega,fun p h=>by omega,rfl,rfl,fun p h=>(nodn p h).elim,?_⟩ ?_
 ·intro t _ x hx
  exact(hr t x hx).2
 ·intro l hn hl
  refine Xv ops.size l hn fun i hi=>?_
  have:=hl i hi
  rw[Array.getElem?_replicate]at this
  split at this
  ·assumption
  ·cases this
end
section
variable{P:Program}{ρ ρ1 ρ2:DV}{s s1 s2:CO}{w w1 w2:World}
theorem Yh{b:Frame}{a:Act}{k:List Item}{cs:List Frame}{c:Code}:step P (lone (b.atR a (.code (.scope c)::k)) cs w)=.next (lone (b.atR a (.code c::.inScope c::k)) cs w):=
 step_lone_go (by simp[stepG,stepG.exec,Frame.atR])
theorem TC{b:Frame}{a:Act}{k:List Item}{cs:List Frame}{c:Code}:step P (lone (b.atR a (.inScope c::k)) cs w)=.next (lone (b.atR a k) cs w):=
 step_lone_go (by simp[stepG,stepG.exec,Frame.atR])
def tM(Q:Exit→Act→World→Prop):Exit→Act→World→Prop
 | .goto _,_,_=>False
 | e,a,w=>Q e a w
theorem bH{F:Fence}{n:Nat}{Q:Exit→Act→World→Prop}{a:Act}{c:Code}(h:c.wpIn F n P (tM Q) a w):(Code.scope c).wpIn F n P Q a w:=by
 intro b k cs hro hb hr
 obtain⟨e,a₁,w₁,hq,harr⟩:=h b (.inScope c::k) cs hro hb hr
 have h1:StepsIn (Machine.fenced P F) P (lone (b.atR a (.code (.scope c)::k)) cs w) (lone (b.atR a (.code c::.inScope c::k)) cs w):=.one (fenced_calm hb hr rfl) Yh
 cases e with
 | normal=>exact⟨.normal,a₁,w₁,hq,h1.trans (StepsIn.trans harr (.one (fenced_calm hb hr rfl) TC))⟩
 | exit id=>exact⟨.exit id,a₁,w₁,hq,.of_steps h1 ⟨fun k' hk=>harr.1 k' (by simpa[exitTo]using hk),fun h2 hk=>harr.2 h2 (by simpa[exitTo]using hk)⟩⟩
 | goto l=>exact hq.elim
 | ret=>exact⟨.ret,a₁,w₁,hq,ArrivesIn.of_steps (k:=k) (e:=.ret) h1 harr⟩
 | panic ch=>exact⟨.panic ch,a₁,w₁,hq,ArrivesIn.of_steps (k:=k) (e:=.panic ch) h1 harr⟩
 | outgrown=>exact⟨.outgrown,a₁,w₁,hq,ArrivesIn.of_steps (k:=k) (e:=.outgrown) h1 harr⟩
structure DF(P:Program)(ρ:DV)(fn:Func)(var:List AV)(tmps:Array Value):Prop where
 len:var.length=(Cu P fn).length
 rel:HZ ρ (Cu P fn) var tmps
 size:fn.ntmps≤tmps.size
theorem DF.mono{fn:Func}{var:List AV}{tmps:Array Value}(h:DF P ρ fn var tmps)(le:ρ.le ρ1):DF P ρ1 fn var tmps:=⟨h.len,h.rel.mono le,h.size⟩
def Oo(vars:List Tmp)(var:List AV):Eu:=fun t=>(DM vars t).bind fun k=>var[k]?
theorem Pd{vars:List Tmp}{var:List AV}(h:var.length=vars.length):Hl vars ⟨[],0⟩ [] var (Oo vars var):=by
 refine⟨h,fun t p e=>(by cases e),fun t x e=>(by cases e),?_⟩
 intro t x hx
 unfold Hy at hx
 simp only[Ht]at hx
 simp only[A8G]at hx
 obtain⟨j,h1,h2⟩:=hx
 injection h2 with h2
 subst h2
 have hj:j<var.length:=by rw[h];exact Gf h1
 simp only[Oo,h1,Option.bind_some,FY,Fz]
 rw[A8O hj,Ok (A8O hj)]
theorem LO{fn:Func}{var:List AV}{tmps:Array Value}(h:DF P ρ fn var tmps):IR ρ (Oo (Cu P fn) var) tmps:=by
 intro t v hv
 simp only[Oo,A8G]at hv
 obtain⟨k,h1,h2⟩:=hv
 obtain⟨h3,v',h4,h5⟩:=h.rel t k h1
 rw[h2]at h4
 injection h4 with h4
 subst h4
 exact⟨h3,h5⟩
theorem iF{fn:Func}{c:qh}{loc var:List AV}{R:Eu}{tmps:Array Value}(hc:Hl (Cu P fn) c loc var R)(hr:IR ρ R tmps)(hs:fn.ntmps≤tmps.size):DF P ρ fn var tmps:=by
 refine⟨hc.vlen,?_,hs⟩
 intro t k hk
 have hl:Ht c.map t=none:=by
  cases h:Ht c.map t with
  | none=>rfl
  | some x=>have:=hc.keys t x h;rw[hk]at this;cases this
 have hx:Hy (Cu P fn) c t=some (.var k):=by unfold Hy;rw[hl,hk];rfl
 have hv:=hc.val t _ hx
 have hj:k<var.length:=by rw[hc.vlen];exact Gf hk
 obtain⟨h1,h2⟩:=hr t _ hv
 refine⟨h1,_,A8O hj,?_⟩
 have e:Hw var k=var[k]:=Ok (A8O hj)
 simp only[FY,Fz,e]at h2
 exact h2
theorem SK{fn:Func}{var:List AV}{a:Act}(h:DF P ρ fn var a.tmps){o:Operand}{x:CX}(hx:Hx (Cu P fn) ⟨[],0⟩ o=some x):Cc ρ (Fz [] var x) (a.eval o):=by
 have hc:=Pd h.len
 have:=SL hc hx
 have e:FY 0 x=x:=by
  cases x with
  | loc p=>exact absurd (SJ hc hx p rfl) (Nat.not_lt_zero _)
  | _=>rfl
 rw[e]at this
 exact X9 (LO h) this
theorem LJ:∀ (n:Nat)(l:List AV),(Ql l n).length=n
 | 0,_=>rfl
 | n+1,[]=>by simp[Ql,LJ n]
 | n+1,_::l=>by simp[Ql,LJ n]
theorem SO:∀ (n:Nat)(l:List AV)(k:Nat),k<n→(Ql l n)[k]? = some (l.getD k Cx)
 | 0,_,k,h=>by omega
 | n+1,[],k,h=>by
  cases k with
  | zero=>rfl
  | succ k=>simpa[Ql]using SO n [] k (by omega)
 | n+1,a::l,k,h=>by
  cases k with
  | zero=>rfl
  | succ k=>simpa[Ql]using SO n l k (by omega)
theorem H0(m:Nat):∀ (n k x:Nat),x∈JU m n k→k≤x∧x<k+n
 | 0,k,x,h=>by cases h
 | n+1,k,x,h=>by
  unfold JU at h
  cases hb:m.testBit k with
  | true =>
   rw[hb]at h
   simp only[cond_true]at h
   rcases A8I.1 h with rfl | h
   ·omega
   ·have:=H0 m n (k+1) x h;omega
  | false =>
   rw[hb]at h
   simp only[cond_false]at h
   have:=H0 m n (k+1) x h;omega
theorem uL{fn:Func}{aS:List AV}{as':Array Value}(ha:Cb ρ aS as'.toList)(hn:aS.length=Gb fn)(hle:Gb fn≤fn.ntmps):
    DF P ρ fn (Ql aS (Cu P fn).length) (as'++Array.replicate (fn.ntmps - as'.size) undef):=by
  have hsz:as'.size=Gb fn:=by have:=ha.length;simp at this;omega
  refine⟨LJ _ _,?_,by simp;omega⟩
  intro t k hk
  have hg:=I5 hk
  have hlt:=Gf hk
  refine⟨?_,_,SO _ _ k hlt,?_⟩
  all_goals unfold Cu at hg
  · have hm:t∈(List.range (Gb fn)++match fn.body with
        | none=>[]
        | some c=>JU (Nat.lor (H5 P c) (Mm fn.results.toList)) (fn.ntmps - Gb fn) (Gb fn)):=A8a hg
    rcases A8q.1 hm with h | h
    · have h9:(t:Nat)<Gb fn:=List.mem_range.1 h
      rw[Array.size_append,Array.size_replicate]
      exact A8L h9 (by omega)
    · cases hb:fn.body with
      | none=>rw[hb]at h;cases h
      | some c =>
        rw[hb]at h
        have h9:=(H0 _ _ _ _ h).2
        rw[Array.size_append,Array.size_replicate]
        exact A8L h9 (by omega)
  · by_cases hka : k < Gb     fn
    · rw [A8d                       (by simpa using hka)] at hg
      rw[List.getElem?_range hka]at hg
      injection hg with hg
      subst hg
      obtain⟨v',h1,h2⟩:=ha.get (k:=k) (v:=aS[k]'(by omega)) (A8O (by omega))
      have e1:aS.getD k Cx=aS[k]'(by omega):=by simp[show k<aS.length by omega]
      have e2:(as'++Array.replicate (fn.ntmps - as'.size) undef).getD k undef=v':=by
        have h1':as'[k]? = some v':=by simpa using h1
        have hk':k<as'.size:=by omega
        simp[A9d,Array.getElem?_append_left hk',h1']
      rw[e1,e2]
      exact h2
    · rw[A8g (by simpa using hka)]at hg
      have ht:Gb fn≤t:=by
        cases hb:fn.body with
        | none=>rw[hb]at hg;simp at hg
        | some c=>rw[hb]at hg;exact(H0 _ _ _ _ (A8a hg)).1
      have e1:aS.getD k Cx=Cx:=by simp[show aS.length≤k by omega]
      have e2:(as'++Array.replicate (fn.ntmps - as'.size) undef).getD t undef=undef:=by
        rw[A9d,Array.getElem?_append_right (by omega),Array.getElem?_replicate]
        split<;>rfl
      rw[e1,e2]
      exact Gk ρ
def ES(ρ:DV):List Nat→List Deferred→Prop
 | [],ds=>ds=[]
 | i::l,ds=>∃rb ds',ρ i=some rb∧ds={ target:=.collected rb.b,args:=#[] }::ds'∧ES ρ l ds'
theorem ES.mono:∀ {l:List Nat}{ds:List Deferred},ES ρ l ds→ρ.le ρ1→ES ρ1 l ds
 | [],_,h,_=>h
 | _::_,_,⟨rb,ds',h1,h2,h3⟩,le=>⟨rb,ds',le _ _ h1,h2,ES.mono h3 le⟩
theorem DU.unmark1(h:DU P ρ s w){i:Nat}{rb:RB}(hg:s.heap.get i=some .mark)(hr:ρ i=some rb):
  DU P ρ (Eo s i) (w.putObj rb.b (.deferred none))∧Fr ρ s w ρ (Eo s i) (w.putObj rb.b (.deferred none)):=by
 let o1:Cg:=.row { elem:=default,sz:=rb.sz,n:=0,c:=.leaf,spare:=true,mode:=.ro,par:=none,bytes:=false }
 have ho:Gq P ρ (w.putObj rb.b (.deferred none)) o1 rb:=
  ⟨fun k v hk=>absurd hk (Nat.not_lt_zero k),A8T _,rfl,(fun e=>by cases e),fun e=>absurd rfl e,(fun e=>by cases e),(fun g e=>by cases e),fun p e=>by cases e⟩
 obtain⟨h1,h2⟩:=h.set (w1:=w.putObj rb.b (.deferred none)) (o1:=o1) hg hr rfl (fun p e=>by cases e) rfl World.putObj_size (fun b hb=>World.putObj_heap_other hb) rfl rfl rfl ho
 obtain⟨h3,h4⟩:=h1.del hr
 have e:∀x,(Eo (setObj s i o1) i).heap.get x=(Eo s i).heap.get x:=by
  intro x
  rw[Dq,Dq,EG]
  by_cases h':x=i
  ·simp[h']
  ·simp[h']
 have h5:=h2.trans h4
 refine⟨h3.same (fun x _ _=>(e x).symm) fun j o g hj hgo=>h3.glb j o g (by rw[e j];exact hj) hgo,⟨h5.le,h5.fresh,h5.next,h5.size,h5.os,h5.tape,h5.output,h5.keep,fun b hb=>h5.own b (hb.same fun x _ _=>(e x).symm),fun x hx hy=>(e x).symm.trans (h5.unborn x hx hy),h5.blk,fun x o r hx hr=>h5.dom x o r (by rw[e x];exact hx) hr⟩⟩
theorem Vk{fn:Func}{tmps:Array Value}{R:Ending→World→Prop}:∀ {marks:List Nat}{ds:List Deferred}{s s':CO}{w:World},ES ρ marks ds→EL s marks=some s'→DU P ρ s w →
  (∀w',DU P ρ s' w'→Fr ρ s w ρ s' w'→∃v,(results fn tmps).run P w'=.ok v w'∧R (.returned v) w')→LeavesInM Fence.wide 0 P fn tmps R ds .returning w:=by
 intro marks
 induction marks with
 | nil =>
  intro ds s s' w hm hu hi hk
  have hm:ds=[]:=hm
  subst hm
  injection hu with hu
  subst hu
  exact hk w hi (Fr.refl _ _ _)
 | cons i l ih =>
  intro ds s s' w hm hu hi hk
  obtain⟨rb,ds',h1,rfl,h3⟩:=hm
  unfold EL at hu
  split at hu
  ·rename_i hg
   obtain⟨h4,h5⟩:=hi.unmark1 hg h1
   have hb:w.heap[rb.b]? = some (.deferred (some [])):=hi.obj i _ rb hg h1
   refine⟨by simp,.inl ⟨rb.b,_,rfl,run_takeDeferred hb,?_⟩⟩
   exact ih h3 hu h4 fun w' g1 g2=>hk w' g1 (h5.trans g2)
  ·cases hu
def pc(tmps:Array Value):ResultVar→Sem Value
 | .tmp t=>Pure.pure (tmps.getD t undef)
 | .cell a t=>do loadVar t (← asAddr (tmps.getD a undef))
theorem aR(fn:Func)(tmps:Array Value):results fn tmps=(do
  let vs ← fn.results.mapM (pc tmps)
  Pure.pure (if h:vs.size=1 then vs[0]else .tuple vs)):=by
 have:(fun r:ResultVar=>(match r with
   | .tmp t=>(Pure.pure (tmps.getD t undef):Sem Value)
   | .cell a t=>do loadVar t (← asAddr (tmps.getD a undef))))=pc tmps:=by funext r;cases r<;>rfl
 rw[← this]
 rfl
theorem V3{vars:List Tmp}{var:List AV}{tmps:Array Value}(hI:DU P ρ s w)(hr:HZ ρ vars var tmps):∀ {rs:List ResultVar}{cr:List (CX×Option TypeId)}{l:List AV},F6 vars rs=some cr→Dj P s var cr=some l →
    ∃l':List Value,(rs.mapM (pc tmps)).run P w=.ok l' w∧Cb ρ l l':=by
  intro rs
  induction rs with
  | nil=>intro cr l hc ha;injection hc with hc;subst hc;injection ha with ha;subst ha;exact⟨[],rfl,.nil⟩
  | cons r rs ih =>
    intro cr l hc ha
    cases r with
    | tmp t =>
      simp only[F6,A8G]at hc
      obtain⟨j,h1,cr',h2,h3⟩:=hc
      injection h3 with h3
      subst h3
      simp only[Dj,A8G]at ha
      obtain⟨l1,h4,h5⟩:=ha
      injection h5 with h5
      subst h5
      obtain⟨l',h6,h7⟩:=ih h2 h4
      obtain⟨h8,v,h9,h10⟩:=hr t j h1
      refine⟨tmps.getD t undef::l',?_,.cons ?_ h7⟩
      · rw[List.mapM_cons]
        simp[pc,h6,Result.andThen]
      · simp only[Fz];rw[Ok h9];exact h10
    | cell t ty =>
      simp only[F6,A8G]at hc
      obtain⟨j,h1,cr',h2,h3⟩:=hc
      injection h3 with h3
      subst h3
      simp only[Dj,A8G]at ha
      obtain⟨v,hv,l1,h4,h5⟩:=ha
      injection h5 with h5
      subst h5
      obtain⟨l',h6,h7⟩:=ih h2 h4
      obtain⟨h8,x,h9,h10⟩:=hr t j h1
      simp only[Fz]at hv
      rw[Ok h9]at hv
      obtain⟨v',_,g2,ad,g3,g4⟩:=R8 hI hv h10
      refine⟨v'::l',?_,.cons g2 h7⟩
      rw[List.mapM_cons]
      simp only[pc]
      rw[g3]
      simp[Sem.run_bind,h6,Result.andThen,asAddr,g4]
theorem aT{fn:Func}{vars:List Tmp}{var:List AV}{tmps:Array Value}(hI:DU P ρ s w)(hr:HZ ρ vars var tmps){cr:List (CX×Option TypeId)}{l:List AV}
    (hc:F6 vars fn.results.toList=some cr) (ha:Dj P s var cr=some l):∃v,(results fn tmps).run P w=.ok v w∧Cc ρ (DO l) v:=by
  obtain⟨l',h1,h2⟩:=V3 hI hr hc ha
  refine⟨if h:l'.toArray.size=1 then l'.toArray[0]else .tuple l'.toArray,?_,?_⟩
  · rw[aR,Array.mapM_eq_mapM_toList]
    simp[h1,Result.andThen,Sem.run_map]
  · cases h2 with
    | nil=>simp[DO];exact .tuple .nil
    | cons h hs =>
      cases hs with
      | nil=>simpa[DO]using h
      | cons h' hs' =>
        simp[DO]
        exact .tuple (.cons h (.cons h' hs'))
theorem WP{vars:List Tmp}:∀ {ts:List Tmp}{vs:List AV}{vs':List Value}{var var':List AV}{tmps:Array Value},FW vars var ts vs=some var'→HZ ρ vars var tmps→var.length=vars.length→Cb ρ vs vs' →
    HZ ρ vars var' ((ts.zip vs').foldl (fun tmps (p:Tmp×Value)=>tmps.setIfInBounds p.1 p.2) tmps)∧var'.length=vars.length∧((ts.zip vs').foldl (fun tmps (p:Tmp×Value)=>tmps.setIfInBounds p.1 p.2) tmps).size=tmps.size∧ts.length=vs'.length:=by
  intro ts
  induction ts with
  | nil =>
    intro vs vs' var var' tmps hz hr hl hv
    cases vs with
    | nil=>cases hv;injection hz with hz;subst hz;exact⟨hr,hl,rfl,rfl⟩
    | cons=>cases hz
  | cons t ts ih =>
    intro vs vs' var var' tmps hz hr hl hv
    cases vs with
    | nil=>cases hz
    | cons v vs =>
      cases hv with
      | cons h hs =>
        rename_i v' vs'
        simp only[FW,A8G]at hz
        obtain⟨j,hj,hz⟩:=hz
        have hjl:j<var.length:=by rw[hl];exact Gf hj
        obtain⟨ht,_⟩:=hr t j hj
        have key:HZ ρ vars (upd v var j) (tmps.setIfInBounds t v'):=by
          intro u k hk
          obtain⟨g1,x,g2,g3⟩:=hr u k hk
          refine⟨by simpa using g1,?_⟩
          by_cases e:u=t
          · subst e
            rw[hj]at hk
            injection hk with hk
            subst hk
            refine⟨v,by rw[Iq];simp[hjl],?_⟩
            simpa[A9d,ht]using h
          · have ejk:j≠k:=fun e'=>by subst e';exact e (LN hk hj)
            refine⟨x,by rw[Iq,List.getElem?_set_ne ejk];exact g2,?_⟩
            have:(tmps.setIfInBounds t v').getD u undef=tmps.getD u undef:=by
              simp[A9d,A9c (Ne.symm e)]
            rw[this]
            exact g3
        obtain⟨h1,h2,h3,h4⟩:=ih (tmps:=tmps.setIfInBounds t v') hz key (by rw[Iq,A9M];exact hl) hs
        exact⟨h1,h2,by simpa using h3,by simpa using h4⟩
end
def Ip:PB→Exit
 | .normal=>.normal
 | .exit id=>.exit id
 | .ret=>.ret
def QG(ρ:DV):Option Nat→Option Nat→Prop
 | none,r=>r=none
 | some l,r=>∃rb,ρ l=some rb∧r=some rb.b
theorem QG.mono{ρ ρ1:DV}{rnd r:Option Nat}(h:QG ρ rnd r)(le:ρ.le ρ1):QG ρ1 rnd r:=by
 cases rnd with
 | none=>exact h
 | some l=>obtain⟨rb,h1,h2⟩:=h;exact⟨rb,le _ _ h1,h2⟩
structure MR(P:Program)(fn:Func)(ρ:DV)(s:CO)(w:World)(r:Da)(a':Act)(w':World)(ρ':DV):Prop where
 inv:DU P ρ' r.st w'
 fresh:DB ρ' r.st
 fr:Fr ρ s w ρ' r.st w'
 vars:DF P ρ' fn r.var a'.tmps
 marks:ES ρ' r.marks a'.defers
structure MQ(P:Program)(fn:Func)(ρ:DV)(s:CO)(w:World)(var:List AV)(marks:List Nat)(rnd r:Option Nat)(a:Act):Prop where
 inv:DU P ρ s w
 fresh:DB ρ s
 vars:DF P ρ fn var a.tmps
 marks:ES ρ marks a.defers
 rnd:QG ρ rnd r
def OE(P:Program)(F:Gm):Prop:=∀ (f:FuncId)(fn:Func)(c:Code)(rnd r:Option Nat)(var:List AV)(marks:List Nat)(s:CO)(res:Da)(ρ:DV)(w:World)(a:Act)(Q:Exit→Act→World→Prop),
 P.funcs[f]? = some fn→F.code rnd (Ct P f fn.ntmps (Cu P fn) c) var marks s=some res→MQ P fn ρ s w var marks rnd r a →
 (∀a' w' ρ',MR P fn ρ s w res a' w' ρ'→Q (Ip res.exit) a' w')→c.wpIn (NI r) 0 P Q a w
def bP(P:Program)(F:Gm)(n:Nat):Prop:=∀ (f:FuncId)(fn:Func)(c:Code)(rnd r:Option Nat)(var:List AV)(marks:List Nat)(s:CO)(res:Da)(ρ:DV)(w:World)(a:Act)(Q:Exit→Act→World→Prop),
 P.funcs[f]? = some fn→F.code rnd (.loop (Ct P f fn.ntmps (Cu P fn) c)) var marks s=some res→MQ P fn ρ s w var marks rnd r a →
 (∀a' w' ρ',MR P fn ρ s w res a' w' ρ'→Q (Ip res.exit) a' w')→Code.roundsIn (NI r) 0 P c Q n a w
def Du(P:Program)(call:FuncId→List AV→CO→Option (AV×CO)):Prop:=∀ (ρ:DV)(s:CO)(w:World)(f:FuncId)(aS:List AV)(v:AV)(s1:CO)(as':Array Value),
 call f aS s=some (v,s1)→DU P ρ s w→DB ρ s→Cb ρ aS as'.toList →
 (∃fn c,P.funcs[f]? = some fn∧fn.body=some c)∧CallsIn Fence.wide 0 P f as' w (Ey P ρ s w v s1)
def Gp (P : Program) : Prop := ∀ (f : FuncId) (fn : Func), P.funcs[f]? = some fn → (fn.name == "runtime.NumGoroutine") = false
structure WV(P:Program)(F:Gm)(n:Nat):Prop where
 code:OE P F
 loop:bP P F n
 call:Du P F.call
 round:∀ (ρ:DV) (s:CO) (w:World) (l:Nat) (rb:RB) (aS:List AV) (v:AV) (s1:CO) (as':Array Value),F.round l aS s=some (v,s1)→DU P ρ s w→DB ρ s→ρ l=some rb→Cb ρ aS as'.toList →
  Gn P ρ s w v s1 ((Instr.yield rb.b as').run P w)
section
variable{P:Program}{ρ ρ1 ρ2:DV}{s s1 s2:CO}{w w1 w2:World}
theorem Kv(hng:Gp P){f:FuncId}{fn:Func}{c:Code}(hf:P.funcs[f]? = some fn)(hb:fn.body=some c)(args:Array Value)(w:World):(callFunc f args).run P w=.ok (.enter f args) w:=by
  have h1:=hng f fn hf
  have h2 : fn.name ≠ "runtime.NumGoroutine" := by simpa using h1
  simp[callFunc,hf,h2,hb]
theorem WV.fok(hng:Gp P){F:Gm}{n:Nat}(h:WV P F n):qi P F where
 call:=fun ρ s w f aS v s1 as' hc hi hf ha=>by
  obtain⟨⟨fn,c,h1,h2⟩,h3⟩:=h.call ρ s w f aS v s1 as' hc hi hf ha
  rw[Kv hng h1 h2]
  exact .enter h3
 round:=h.round
theorem MR.trans{fn:Func}{s1:CO}{r1 r2:Da}{a1 a2:Act}(h1:Fr ρ s w ρ1 s1 w1)(h2:MR P fn ρ1 s1 w1 r2 a2 w2 ρ2):MR P fn ρ s w r2 a2 w2 ρ2:=
 ⟨h2.inv,h2.fresh,h1.trans h2.fr,h2.vars,h2.marks⟩
theorem MR.begins{fn:Func}{r:Da}{a1:Act}{var:List AV}{marks:List Nat}{rnd rr:Option Nat}{a:Act}(hb:MQ P fn ρ s w var marks rnd rr a)(h:MR P fn ρ s w r a1 w1 ρ1):MQ P fn ρ1 r.st w1 r.var r.marks rnd rr a1:=
 ⟨h.inv,h.fresh,h.vars,h.marks,hb.rnd.mono h.fr.le⟩
theorem A3R(hm:P.follows .mixedOrders=true){F:Gm}(hF:qi P F){fn:Func}{f:FuncId}{id:Nat}{ops:Array Oper}{draw:Bool}{r rnd:Option Nat}{var:List AV}{marks:List Nat}{s:CO}{res:Da}{ρ:DV}{w:World}{a:Act}{Q:Exit→Act→World→Prop}
    (hc:FM F rnd (Ct P f fn.ntmps (Cu P fn) (.region id ops draw)) var marks s=some res) (hb:MQ P fn ρ s w var marks rnd r a)
    (hq:∀a' w' ρ',MR P fn ρ s w res a' w' ρ'→Q (Ip res.exit) a' w'):(Code.region id ops draw).wpIn (NI r) 0 P Q a w:=by
  have fin:∀ {items:List CK} {b:Array Nat} {l:List Nat},H4 P fn.ntmps (Cu P fn) ops b draw l ⟨[],0⟩ []=some items→FM F rnd (.ops items) var marks s=some res →
      ∃R' s',Trace P F ops fn.ntmps b draw l [] (Oo (Cu P fn) var) s R' s'∧res.exit=.normal∧res.marks=marks∧res.st=s'∧∃c' loc',Hl (Cu P fn) c' loc' res.var R':=by
    intro items b l hi hs
    simp only[FM,rK]at hs
    split at hs<;>first | (cases hs;done) | skip
    rename_i p hp
    injection hs with hs
    subst hs
    obtain⟨R',h1,h2⟩:=Zb l ⟨[],0⟩ [] items [] var s p.1 p.2 (Oo (Cu P fn) var) [] hi hp (Pd hb.vars.len) .nil
    exact⟨R',p.2,h1,rfl,rfl,rfl,h2⟩
  have back:∀ {R':Eu} {a':Act} {w':World} {ρ':DV},(∃c' loc',Hl (Cu P fn) c' loc' res.var R')→res.exit=.normal→res.marks=marks→DU P ρ' res.st w'→DB ρ' res.st→Fr ρ s w ρ' res.st w'→IR ρ' R' a'.tmps→a'.tmps.size=a.tmps.size→a'.defers=a.defers→Q .normal a' w':=by
    intro R' a' w' ρ' ⟨c',loc',hcr⟩ he hmk h1 h2 h3 h4 h5 h6
    have:=hq a' w' ρ' ⟨h1,h2,h3,iF hcr h4 (by rw[h5];exact hb.vars.size),by rw[hmk,h6];exact hb.marks.mono h3.le⟩
    rw[he]at this
    exact this
  cases draw with
  | false =>
    refine wpIn_region ?_
    simp only[Ct]at hc
    cases hi:H4 P fn.ntmps (Cu P fn) ops #[] false (List.range ops.size) ⟨[],0⟩ []with
    | none=>rw[hi]at hc;cases hc
    | some items =>
      rw[hi]at hc
      obtain⟨R',s',h1,h2,h3,h4,h5⟩:=fin hi hc
      subst h4
      exact iD hF h1 hb.inv hb.fresh (LO hb.vars) hb.vars.size fun a' w' ρ' g1 g2 g3 g4 g5 g6=>back h5 h2 h3 g1 g2 g3 g4 g5 g6
  | true =>
    refine wpIn_region_any hm ?_
    simp only[Ct]at hc
    cases hplm:Li P ops (Region.before ops) (fH P ops) 0 0 (db P ops)with
    | false=>rw[hplm]at hc;cases hc
    | true =>
      rw[hplm]at hc
      have hpl:=aN hplm
      simp only[CU,cond_true]at hc
      cases hi:H4 P fn.ntmps (Cu P fn) ops (Region.before ops) true (db P ops) ⟨[],0⟩ []with
      | none=>rw[hi]at hc;cases hc
      | some items =>
        rw[hi]at hc
        obtain⟨R',s',h1,h2,h3,h4,h5⟩:=fin hi hc
        subst h4
        have hd:=Fr.drawn' (ρ:=ρ) (s:=s) (w:=w) (w.drawn+1)
        exact ml hF h1 hpl (hb.inv.drawn (w.drawn+1)) hb.fresh (LO hb.vars) hb.vars.size fun a' w' ρ' g1 g2 g3 g4 g5 g6=>back h5 h2 h3 g1 g2 (hd.trans g3) g4 g5 g6
theorem Lt{l:Nat}{L:Loop}(h:w.heap[l]? = some (.loop L))(fn:FuncId)(tmps:Array Value)(ps:Array Tmp)(assign body:Code):
  (Instr.enterLoop fn tmps ps assign body (some l)).run P w =
   .ok (w.heap.size,[]) (w.alloc (.loop { state:=.ready,pending:=none,fn,tmps,params:=ps,assign,body,defers:=L.defers })):=by
 unfold Instr.enterLoop
 simp only[Sem.run_bind,run_getLoop h,run_newObj_alloc,Result.andThen,Sem.run_pure]
theorem Ie{l:Nat}{r:Fv}(h:Df s l=some r):s.heap.get l=some (.loop r):=by
 unfold Df at h
 split at h
 ·injection h with h;subst h;assumption
 ·cases h
theorem DB.new(h:DB ρ s)(o:Cg)(rb:RB):DB (EX ρ s.next rb) (newObj s o):=by
 intro i hi
 have hi:s.next+1≤i:=hi
 have:=h i (by omega)
 exact⟨by rw[CZ rb (by omega)];exact this.1,by rw[DC,if_neg (by omega)];exact this.2⟩
theorem R9(h:DU P ρ s w){l:Nat}{r:Fv}{rb:RB}(hg:s.heap.get l=some (.loop r))(hr:ρ l=some rb){st:LoopState}{pd:Option Code}{L:Loop}(hL:w.heap[rb.b]? = some (.loop L)):
  DU P ρ (setObj s l (.loop { r with state:=st,pending:=pd })) (w.putObj rb.b (.loop { L with state:=st,pending:=pd }))∧Fr ρ s w ρ (setObj s l (.loop { r with state:=st,pending:=pd })) (w.putObj rb.b (.loop { L with state:=st,pending:=pd })):=by
 have hlt:=h.lt l rb hr
 refine h.set hg hr rfl (fun p e=>by cases e) rfl World.putObj_size (fun b hb=>World.putObj_heap_other hb) rfl rfl rfl ?_
 obtain⟨L',h0,h1,h2,h4,h5,h6,h7,h8,h9,h10⟩:=(h.obj l _ rb hg hr:Km P ρ w r rb).ex
 rw[hL]at h0
 injection h0 with h0
 injection h0 with h0
 subst h0
 exact⟨_,World.putObj_heap_same hlt,rfl,rfl,h4,h5,h6,h7,h8,h9,h10⟩
theorem tW{r:Option Nat}{s':CO}{res:Da}{a:Act}{Q:Exit→Act→World→Prop}{var:List AV}{marks:List Nat}{pd:Option Code}
  (hp:Kt var marks s' pd=some res) (hq:res.var=var→res.marks=marks→res.st=s'→Q (Ip res.exit) a w):
  (match (generalizing:=false) pd with
   | none=>Q .normal a w
   | some c=>c.wpIn (NI r) 0 P Q a w):=by
 unfold Kt at hp
 split at hp<;>first | (cases hp;done) | skip
 ·injection hp with hp;subst hp;exact hq rfl rfl rfl
 ·injection hp with hp;subst hp;exact wpIn_ret (hq rfl rfl rfl)
 ·injection hp with hp;subst hp;exact wpIn_exit (hq rfl rfl rfl)
theorem SU(hng:Gp P){F:Gm}(hcall:Du P F.call){f:FuncId}{fn:Func}{var:List AV}{marks:List Nat}{s:CO}{res:Da}{ρ:DV}{w:World}{a:Act}{r:Option Nat}{Q:Exit→Act→World→Prop}{g:AV}{g':Value}{ps:Array Tmp}{assign body:Code}{dfr:Nat}{rd:RB}
    (hf:P.funcs[f]? = some fn) (hc:Ix F var g ps assign body f dfr marks s=some res) (hi:DU P ρ s w) (hfr:DB ρ s) (hv:DF P ρ fn var a.tmps) (hmk:ES ρ marks a.defers)
    (hg:Cc ρ g g') (hd:ρ dfr=some rd) (fn':FuncId)
    (hq:∀w' ρ',MR P fn ρ s w res a w' ρ'→Q (Ip res.exit) a w'):
    ∃ (d : Deferred) (f0 : FuncId) (args : Array Value), Deferred.ofValue g' #[.func (.yield w.heap.size) #[] #[]] = Pure.pure d ∧
      (∀w1,(invoke d.target d.args).run P w1=.ok (.enter f0 args) w1) ∧
      CallsIn (NI r) 0 P f0 args (w.alloc (.loop { state:=.ready,pending:=none,fn:=fn',tmps:=a.tmps,params:=ps,assign,body,defers:=rd.b })) (rangePost (NI r) 0 P w.heap.size Q a):=by
  let L:Loop:={ state:=.ready,pending:=none,fn:=fn',tmps:=a.tmps,params:=ps,assign,body,defers:=rd.b }
  let al:Fv:={ state:=.ready,pending:=none,fn:=f,var,params:=ps,assign,body,dfr }
  let rb:RB:=⟨w.heap.size,0,0,0⟩
  have hvi:Fu P f=Cu P fn:=by unfold Fu;rw[hf]
  have hn0:=(hfr _ (A8H s.next)).1
  have hle:=Dc (rb:=rb) hn0
  obtain⟨hi1,hfr1⟩:=hi.new (o:=.loop al) (o':=.loop L) (rb:=rb) hn0 rfl
    ⟨L,World.alloc_heap_new w _,rfl,rfl,rfl,rfl,rfl,⟨rd,hle _ _ hd,rfl⟩,by rw[hvi];exact(hv.mono hle).rel,fun fn0 h0=>by
      have h0:P.funcs[f]? = some fn0:=h0
      rw[hf]at h0;injection h0 with h0;subst h0;exact hv.size,by rw[hvi];exact hv.len⟩
  have hff:=hfr.new (.loop al) rb
  unfold Ix LV at hc
  simp only[A8G]at hc
  obtain⟨q,hcv,r2,hl2,hend⟩:=hc
  cases hbz:Zy r2.state with
  | true=>rw[hbz]at hend;cases hend
  | false =>
    rw[hbz]at hend
    simp only[cond_false]at hend
    unfold Kw at hcv
    split at hcv<;>first | (cases hcv;done) | skip
    rename_i f0 first cap
    cases hg with
    | func ha hcp =>
      rename_i x c
      obtain⟨⟨fn0,c0,k1,k2⟩,k3⟩:=hcall _ _ _ f0 _ q.1 q.2 ((x++#[.func (.yield w.heap.size) #[] #[]])++c) hcv hi1 hff (by
        simp only[Array.toList_append]
        have hy:Cc (EX ρ s.next rb) (.yield s.next) (.func (.yield w.heap.size) #[] #[]):=Cc.yield (rb:=rb) (Cf _ _)
        have:=(Cb.mono hle ha).append ((Cb.cons hy .nil).append (Cb.mono hle hcp))
        simpa using this)
      refine⟨{ target:=.fn (.func f0) c,args:=x++#[.func (.yield w.heap.size) #[] #[]] },f0,_,rfl,fun w1=>?_,PG (CallsIn.mono k3 ?_)⟩
      · simp only[invoke]
        exact Kv hng k1 k2 _ _
      · intro e w3 he
        cases e with
        | panicked c=>exact he.elim
        | outgrown=>exact he.elim
        | returned v' =>
          obtain⟨ρ',_,g2,g3⟩:=he
          have hg2:=Ie hl2
          have hr2:ρ' s.next=some rb:=g3.le _ _ (Cf _ _)
          obtain⟨L2,h0,h1,h2,_⟩:=(g2.obj _ _ _ hg2 hr2:Km P ρ' w3 r2 rb).ex
          obtain⟨g4,g5⟩:=R9 g2 hg2 hr2 (st:=.exhausted) (pd:=r2.pending) h0
          have hbz':L2.state≠.busy:=by rw[h1];intro e;rw[e]at hbz;cases hbz
          refine⟨L2.pending,_,run_endLoop h0 hbz',?_⟩
          rw[h2]
          refine tW hend fun e1 e2 e3=>hq _ ρ' ?_
          have hall:=hfr1.trans (g3.trans g5)
          have hfresh:=(hff.step g3).step g5
          rw[h2.symm]at g4 g5 hall
          refine⟨?_,?_,?_,by rw[e1];exact hv.mono hall.le,by rw[e2];exact hmk.mono hall.le⟩
          · rw[e3,← h2];exact g4
          · rw[e3];exact hfresh
          · rw[e3,← h2];exact hall
end
end
end Go.Proofs.YtoaaclpjkelofaaGreatDoor.Am
