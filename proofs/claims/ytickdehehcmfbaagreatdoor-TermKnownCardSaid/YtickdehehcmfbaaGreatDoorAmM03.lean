/- What was read stays so where only new objects come; conditions: none. -/
import Derived.Test.YtickdehehcmfbaaGreatDoorAmM02
import Derived.OrdersIn
import Derived.RangeFuncLeaves
import Derived.LoopNIn
set_option linter.unusedVariables false
set_option linter.unusedSimpArgs false
namespace Go.Proofs.YtickdehehcmfbaaGreatDoor.Am
open Go
noncomputable section
def AE.sub(s s':AE):Prop:=∀i o,s.heap.get i=some o→s'.heap.get i=some o
section
variable{P:Program}{ρ ρ1 ρ2:Aq}{s s1 s2:AE}{w w1 w2:World}
theorem AE.sub_new(h:s.heap.get s.next=none)(o:AX):s.sub (newObj s o):=fun i ob e=>by
 rw[Ak,if_neg]
 ·exact e
 ·intro q;subst q;rw[h]at e;cases e
theorem B5(h:s.sub s2){i:Nat}{r:B0}(hr:rowAt s i=some r):rowAt s2 i=some r:=by
 have:=h i _ (Aj hr)
 simp[rowAt,this]
theorem Fp(h:s.sub s2){i o n:Nat}{l:List AV}(hr:A9 s i o n=some l):A9 s2 i o n=some l:=by
 unfold A9 at hr ⊢
 simp only[ZA]at hr
 obtain⟨r,h1,h2⟩:=hr
 rw[B5 h h1]
 exact h2
theorem Ic(h:s.sub s2){i o:Nat}{l:AV}(hr:B9 s i o=some l):B9 s2 i o=some l:=by
 unfold B9 at hr ⊢
 simp only[ZA]at hr
 obtain⟨r,h1,h2⟩:=hr
 rw[B5 h h1]
 exact h2
theorem Mj         (h : s.sub s2) {t : TypeId} {a v : AV} (hr : AO    P s t a = some v) : AO    P s2 t a = some v := by
  unfold AO at hr ⊢
  split at hr<;>first | (cases hr;done) | skip
  · simp only[ZA]at hr ⊢
    obtain⟨r,h0,g,h1,h2⟩:=hr
    refine⟨r,?_,g,h1,?_⟩
    · unfold KA at h0 ⊢
      simp only[ZA]at h0 ⊢
      obtain⟨r',k1,k2⟩:=h0
      exact⟨r',B5 h k1,k2⟩
    · cases g with
      | true =>
        simp only[ZA]at h2 ⊢
        obtain⟨n,h3,l,h4,h5⟩:=h2
        exact⟨n,h3,l,Fp h h4,h5⟩
      | false=>exact Ic h h2
  simp only[ZA]at hr ⊢
  obtain⟨g,h1,h2⟩:=hr
  refine⟨g,h1,?_⟩
  cases g with
  | true =>
    simp only[ZA]at h2 ⊢
    obtain⟨n,h3,l,h4,h5⟩:=h2
    exact⟨n,h3,l,Fp h h4,h5⟩
  | false=>exact Ic h h2
theorem KN(h:s.sub s2){t:TypeId}{m k v:AV}{ok:Bool}(hr:Bp P s t m k ok=some v):Bp P s2 t m k ok=some v:=by
  unfold Bp at hr ⊢
  split at hr<;>first | (cases hr;done) | skip
  obtain⟨hk,hg⟩:=AA hr
  clear hr
  rw[hk]
  simp only[AF,cond_true]
  simp only[ZA]at hg ⊢
  obtain⟨es,h1,rest⟩:=hg
  refine⟨es,?_,rest⟩
  cases m with
  | map r =>
    cases r with
    | none=>exact h1
    | some i =>
      simp only at h1 ⊢
      unfold FZ at h1 ⊢
      split at h1<;>first | (cases h1;done) | skip
      rename_i hget
      rw[h i _ hget]
      exact h1
  | _=>cases h1
theorem MR(h:s.sub s2){src dst:TypeId}{x v:AV}(hr:Bu P s src dst x=some v):Bu P s2 src dst x=some v:=by
  unfold Bu at hr ⊢
  split at hr<;>first | (cases hr;done) | skip
  · exact hr
  · exact hr
  · split at hr <;> first | (cases hr; done) | skip
    split at hr
    · exact hr
    · simp only[ZA]at hr ⊢
      obtain⟨l,h1,rest⟩:=hr
      exact⟨l,Fp h h1,rest⟩
  all_goals
    unfold Bu.seenPtr at hr ⊢
    split at hr<;>first | (cases hr;done) | skip
    · exact hr
    · simp only[ZA]at hr ⊢
      obtain⟨r,h1,rest⟩:=hr
      exact⟨r,B5 h h1,rest⟩
theorem Lr          (h : s.sub s2) {t : TypeId} {x v : AV} {lo hi mx : Option AV} (hr : BO     P s t x lo hi mx = some v) : BO     P s2 t x lo hi mx = some v := by
  unfold BO at hr ⊢
  split at hr<;>first | (cases hr;done) | skip
  · exact hr
  · rename_i a len cap
    split at hr<;>first | (cases hr;done) | skip
    simp only[ZA]at hr ⊢
    obtain⟨n,h1,far,h2,rest⟩:=hr
    refine⟨n,h1,far,?_,rest⟩
    cases cap with
    | some c=>exact h2
    | none =>
      cases a with
      | none=>exact h2
      | some io =>
        obtain⟨i,o⟩:=io
        simp only[ZA]at h2 ⊢
        obtain⟨r,h3,h4⟩:=h2
        exact⟨r,B5 h h3,h4⟩
  · exact hr
theorem HZ(h:s.sub s2){t:TypeId}{lo hi mx:Bool}{aS:List AV}{v:AV}(hr:Ad P t lo hi mx s aS=some v):Ad P t lo hi mx s2 aS=some v:=by
 unfold Ad at hr ⊢
 split at hr<;>first | (cases hr;done) | skip
 all_goals
  split at hr<;>first | (cases hr;done) | exact Lr h hr
theorem On(h:s.sub s2){t:TypeId}{x v:AV}(hr:Ce P s t x=some v):Ce P s2 t x=some v:=by
  unfold Ce at hr ⊢
  split at hr<;>first | (cases hr;done) | skip
  · exact hr
  · exact hr
  · exact hr
  · split at hr <;> first | (cases hr; done) | skip
    split at hr<;>first | (cases hr;done) | skip
    rename_i hget
    rw[h _ _ hget]
    exact hr
theorem OW(h:s.sub s2){t:TypeId}{x v:AV}(hr:OV P s t x=some v):OV P s2 t x=some v:=by
  unfold OV at hr ⊢
  split at hr<;>first | (cases hr;done) | skip
  split at hr<;>first | (cases hr;done) | skip
  split at hr
  · exact hr
  · split at hr <;> first | (cases hr; done) | skip
    simp only[ZA]at hr ⊢
    obtain⟨n,h1,r,h2,h3⟩:=hr
    exact⟨n,h1,r,B5 h h2,h3⟩
theorem HK(h:s.sub s2){i:Nat}(hr:Fu s i=true):Fu s2 i=true:=by
  unfold Fu at hr ⊢
  split at hr
  · rename_i r hrow
    rw[B5 h hrow]
    exact hr
  · cases hr
theorem Lf(h:s.sub s2){neg:Bool}{t:TypeId}{x y v:AV}(hr:Gs P s neg t x y=some v):Gs P s2 neg t x y=some v:=by
 unfold Gs at hr ⊢
 split at hr
 ·obtain⟨hg,hv⟩:=AA hr
  rw[Bool.and_eq_true,Bool.and_eq_true]at hg
  obtain⟨⟨h1,h2⟩,h3⟩:=hg
  rw[h1,HK h h2,HK h h3]
  exact hv
 ·exact hr
theorem Lc{α:Type}{f g:AV→Option α}(hm:∀a v,f a=some v→g a=some v){aS:List AV}{v:α}(h:one f aS=some v):one g aS=some v:=by
 unfold one at h ⊢
 split at h<;>first | (cases h;done) | exact hm _ _ h
theorem Lb{α:Type}{f g:AV→AV→Option α}(hm:∀a b v,f a b=some v→g a b=some v){aS:List AV}{v:α}(h:Xs f aS=some v):Xs g aS=some v:=by
 unfold Xs at h ⊢
 split at h<;>first | (cases h;done) | exact hm _ _ _ h
theorem PD(h:s.sub s2){o:Op}{sh:Sh}{xs:List Operand}{aS:List AV}{v:AV}(hsh:Aa P o=some (sh,xs))(hr:Db sh aS s=some v):Db sh aS s2=some v:=by
 cases o<;>first | (simp[Aa]at hsh;done) | skip
 case binOp op t x y f =>
  simp only[Aa]at hsh
  split at hsh
  ·injection hsh with hsh;injection hsh with h1 h2;subst h1;exact Lb (fun _ _ _=>Lf h) hr
  ·injection hsh with hsh;injection hsh with h1 h2;subst h1;cases hr
 case load t a=>injection hsh with hsh;injection hsh with h1 h2;subst h1;exact Lc (fun _ _=>Mj h) hr
 case lookup t m k ok=>obtain⟨_,hsh⟩:=AA hsh;injection hsh with hsh;injection hsh with h1 h2;subst h1;exact Lb (fun _ _ _=>KN h) hr
 case convert src dst x=>injection hsh with hsh;injection hsh with h1 h2;subst h1;exact Lc (fun _ _=>MR h) hr
 case slice t x lo hi mx=>injection hsh with hsh;injection hsh with h1 h2;subst h1;exact HZ h hr
 case call c =>
  obtain⟨callee,args,argTypes⟩:=c
  simp only[Aa]at hsh
  split at hsh<;>first | (cases hsh;done) | (injection hsh with hsh;injection hsh with h1 h2;subst h1;cases hr;done) | (split at hsh<;>(injection hsh with hsh;injection hsh with h1 h2;subst h1;cases hr);done) | skip
  split at hsh<;>first | (cases hsh;done) | (injection hsh with hsh;injection hsh with h1 h2;subst h1;cases hr;done) | skip
  ·split at hsh<;>first | (cases hsh;done) | skip
   injection hsh with hsh;injection hsh with h1 h2;subst h1
   simp only[Db]at hr ⊢
   split at hr<;>first | (cases hr;done) | exact On h hr
  ·split at hsh<;>first | (cases hsh;done) | skip
   injection hsh with hsh;injection hsh with h1 h2;subst h1
   simp only[Db]at hr ⊢
   split at hr<;>first | (cases hr;done) | exact OW h hr
  ·split at hsh<;>first | (cases hsh;done) | skip
   obtain⟨_,hsh⟩:=AA hsh
   injection hsh with hsh;injection hsh with h1 h2;subst h1;cases hr
 case makeMap t r =>
  cases r with
  | some _=>cases hsh
  | none=>obtain⟨_,hsh⟩:=AA hsh;injection hsh with hsh;injection hsh with h1 h2;subst h1;cases hr
 case mapUpdate t m k x=>obtain⟨_,hsh⟩:=AA hsh;injection hsh with hsh;injection hsh with h1 h2;subst h1;cases hr
 case insert t m k x=>obtain⟨_,hsh⟩:=AA hsh;injection hsh with hsh;injection hsh with h1 h2;subst h1;cases hr
 case makeFunc fn first captured =>
  cases fn with
  | func f=>injection hsh with hsh;injection hsh with h1 h2;subst h1;cases hr
  | _=>cases hsh
 all_goals (injection hsh with hsh;injection hsh with h1 h2;subst h1;cases hr)
end
theorem KT(l:List AV)(i:Nat):JC l i=l.getD i A1:=by
  induction l generalizing i with
  | nil=>rfl
  | cons a l ih =>
    cases i with
    | zero=>rfl
    | succ i=>exact ih i
theorem KU{l:List AV}{i:Nat}{v:AV}(h:l[i]? = some v):JC l i=v:=by rw[KT];simp[h]
theorem G4(v:AV)(l:List AV)(i:Nat):upd v l i=l.set i v:=by
  induction l generalizing i with
  | nil=>rfl
  | cons a l ih =>
    cases i with
    | zero=>rfl
    | succ i=>exact congrArg (a::·) (ih i)
theorem KX{v:AV}{l:List AV}{i:Nat}(h:i<l.length):JC (upd v l i) i=v:=by
 rw[KT,G4];simp[h]
theorem Fc{v:AV}{l:List AV}{i j:Nat}(h:i≠j):JC (upd v l j) i=JC l i:=by
 rw[KT,KT,G4];simp[List.getElem?_set_ne (Ne.symm h)]
theorem Dh{vars:List Tmp}{t:Tmp}:∀ {j:Nat},BA vars t=some j→vars[j]? = some t:=by
 induction vars with
 | nil=>intro j h;cases h
 | cons a l ih =>
  intro j h
  unfold BA at h
  cases hb:Nat.beq a t with
  | true =>
   rw[hb]at h
   simp only[cond_true,Option.some.injEq]at h
   subst h
   rw[AS hb]
   rfl
  | false =>
   rw[hb]at h
   simp only[cond_false,ZA]at h
   obtain⟨i,h1,h2⟩:=h
   injection h2 with h2
   subst h2
   exact ih h1
theorem DZ{vars:List Tmp}{t:Tmp}{j:Nat}(h:BA vars t=some j):j<vars.length:=by
 have:=Dh h
 rcases ZO j vars.length with h' | h'
 ·exact h'
 ·rw[ZT h']at this;cases this
theorem HO{vars:List Tmp}{t u:Tmp}{j:Nat}(h:BA vars t=some j)(k:BA vars u=some j):t=u:=by
 have h1:=Dh h
 have h2:=Dh k
 rw[h1]at h2
 injection h2
mutual
theorem J7     : ∀ {a b : AV}, Hg  a b = true → a = b := by
  intro a b h
  unfold Hg at h
  split at h
  · simp at h;rw[h]
  · simp only[Bool.and_eq_true]at h;have:=Bi h.1;subst this;have h2:=h.2;rw[DS]at h2;simp at h2;rw[h2]
  · rename_i x y
    have:∀x y:List Nat,BU x y=true→x=y:=by
      intro x
      induction x with
      | nil=>intro y h;cases y with | nil=>rfl | cons=>cases h
      | cons a x ih =>
        intro y h
        cases y with
        | nil=>cases h
        | cons b y =>
          unfold BU at h
          cases hb:Nat.beq a b with
          | true=>rw[hb]at h;rw[AS hb,ih y h]
          | false=>rw[hb]at h;cases h
    rw[this _ _ h]
  · rfl
  · simp only[Bool.and_eq_true]at h;rw[AS h.1,AS h.2]
  · simp only[Bool.and_eq_true]at h;rw[AS h.1,AS h.2]
  · simp only[Bool.and_eq_true]at h;rw[AS h.1,AS h.2]
  · rw[AS h]
  · simp only[Bool.and_eq_true]at h;rw[AS h.1.1,AS h.1.2,AS h.2]
  · simp only[Bool.and_eq_true]at h;rw[AS h.1.1.1,AS h.1.1.2,AS h.1.2,AS h.2]
  · rfl
  · rw[AS h]
  · simp only[Bool.and_eq_true]at h;rw[AS h.1.1,C7 h.1.2,C7 h.2]
  · rfl
  · rfl
  · rw[AS h]
  · rw[C7 h]
  · rw[C7 h]
  · cases h
theorem C7:∀ {a b:List AV},Hg.eqAs a b=true→a=b:=by
 intro a b h
 unfold Hg.eqAs at h
 split at h
 ·rfl
 ·simp only[Bool.and_eq_true]at h;rw[J7 h.1,C7 h.2]
 ·cases h
end
abbrev BI:=Tmp→Option AV
def BI.put(R:BI)(d:Option Tmp)(v:AV):BI:=match d with
 | none=>R
 | some d=>fun t=>if t=d then some v else R t
def Li(R:BI):Operand→Option AV
 | .tmp t=>R t
 | .const v=>ofValue v
 | .global g=>some (.gptr g 0)
 | .func f=>some (.func f [] [])
def Ch(R:BI):List Operand→Option (List AV)
 | []=>some []
 | x::l=>(Li R x).bind fun a=>(Ch R l).bind fun r=>some (a::r)
def Ga(ops:Array Oper)(R:BI)(o:Oper):Option Bool:=match o.guard with
 | none=>some true
 | some (j,want)=>(ops[j]?).bind fun p=>p.dst.bind fun d=>(R d).bind fun x=>some (W3 want x)
def TL(F:CY)(sh:Sh)(aS:List AV)(s:AE):Option (AV×AE):=
 match sh with
 | .call f=>F.call f aS s
 | .callv=>(match aS with | a::l=>FT F a l s | []=>none)
 | _=>Gz sh aS s
structure L5 where
 idx:Nat
 sh:Sh
 aS:List AV
 v:AV
 want:Bool
structure Hw(P:Program)(F:CY)(ops:Array Oper)(nt:Nat)(R:BI)(s:AE)(o:Oper)(sh:Sh)(want:Bool)(aS:List AV)(v:AV)(R1:BI)(s1:AE):Prop where
 shape:∃xs,Aa P o.op=some (sh,xs)∧Ch R xs=some aS
 wants:Ga ops R o=some want
 put:R1=R.put o.dst v
 lt:∀d,o.dst=some d→d<nt
 yes:want=true→TL F sh aS s=some (v,s1)
 no:want=false→v=A1∧s1=s
inductive Trace (P:Program) (F:CY) (ops:Array Oper) (nt:Nat) (b:Array Nat) (draw:Bool):List Nat→List L5→BI→AE→BI→AE→Prop
 | nil {rs:List L5} {R:BI} {s:AE}:Trace P F ops nt b draw [] rs R s R s
 | cons {i:Nat} {l:List Nat} {rs:List L5} {R R1 R2:BI} {s s1 s2:AE} {o:Oper} {sh:Sh} {want:Bool} {aS:List AV} {v:AV}
   (ho:ops[i]? = some o) (hs:Hw P F ops nt R s o sh want aS v R1 s1)
   (ag:draw=true→sh.isEff=true→want=true→∀r∈rs,(b.getD i 0).testBit r.idx=false→r.want=true→Db r.sh r.aS s1=some r.v)
   (hl:Trace P F ops nt b draw l (bif draw && sh.isRead then ⟨i,sh,aS,v,want⟩::rs else rs) R1 s1 R2 s2):Trace P F ops nt b draw (i::l) rs R s R2 s2
structure Cp(vars:List Tmp)(c:TM)(loc var:List AV)(R:BI):Prop where
 vlen:var.length=vars.length
 bnd:∀t p,C0 c.map t=some (.loc p)→p<c.cnt
 keys:∀t x,C0 c.map t=some x→BA vars t=none
 val:∀t x,C1 vars c t=some x→R t=some (B8 loc var (BV c.cnt x))
theorem Oq:∀ {m:List (Tmp×CX)}{t:Tmp}{x:CX},C0 m t=some x→(t,x)∈m:=by
 intro m
 induction m with
 | nil=>intro t x h;cases h
 | cons p m ih =>
  obtain⟨a,y⟩:=p
  intro t x h
  unfold C0 at h
  cases hb:Nat.beq a t with
  | true =>
   rw[hb]at h
   simp only[cond_true,Option.some.injEq]at h
   rw[AS hb,h]
   exact ZU
  | false =>
   rw[hb]at h
   exact ZQ _ (ih h)
theorem LX:∀ {m:List (Tmp×CX)}{j:Nat},GN j m=true→∀t,(t,CX.var j) ∉ m:=by
 intro m
 induction m with
 | nil=>intro j h t hm;cases hm
 | cons p m ih =>
  obtain⟨a,y⟩:=p
  intro j h t hm
  simp only[GN,Bool.and_eq_true,Bool.not_eq_true']at h
  cases hm with
  | head=>simp[isVar]at h
  | tail _ hm=>exact ih h.2 t hm
theorem Cf(m:List (Tmp×CX))(d t:Tmp)(x:CX):C0 ((d,x)::m) t=if t=d then some x else C0 m t:=by
 simp only[C0]
 by_cases e:t=d
 ·subst e;simp
 ·have:Nat.beq d t=false:=by
   cases hb:Nat.beq d t with
   | true=>exact absurd (AS hb).symm e
   | false=>rfl
  rw[this,if_neg e,cond_false]
theorem DL{loc var:List AV}{v:AV}{cnt:Nat}{x:CX}(h:∀p,x=.loc p→p<cnt):B8 (v::loc) var (BV (cnt+1) x)=B8 loc var (BV cnt x):=by
 cases x with
 | loc p =>
  have:=h p rfl
  simp only[BV,B8]
  rw[show cnt+1 - 1 - p=(cnt - 1 - p)+1 from by omega]
  rfl
 | var j=>rfl
 | const v=>rfl
variable{vars:List Tmp}{c:TM}{loc var:List AV}{R:BI}
theorem Cp.push(h:Cp vars c loc var R){d:Tmp}(v:AV)(hd:BA vars d=none):Cp vars { map:=(d,.loc c.cnt)::c.map,cnt:=c.cnt+1 } (v::loc) var (R.put (some d) v):=by
  refine⟨h.vlen,?_,?_,?_⟩
  · intro t p hp
    rw[Cf]at hp
    split at hp
    · injection hp with hp;injection hp with hp;subst hp;exact Zs _
    · exact Zv (h.bnd t p hp)
  · intro t x hx
    rw[Cf]at hx
    split at hx
    · rename_i e;subst e;exact hd
    · exact h.keys t x hx
  · intro t x hx
    unfold C1 at hx
    simp only[Cf]at hx
    by_cases e:t=d
    · subst e
      simp only[if_true,Option.some.injEq]at hx
      subst hx
      simp only[BI.put,if_true,BV,B8]
      rw[show c.cnt+1 - 1 - c.cnt=0 from by omega]
      rfl
    · simp only [if_neg e] at hx
      simp only[BI.put,if_neg e]
      have hx':C1 vars c t=some x:=by unfold C1;exact hx
      rw[h.val t x hx',DL]
      intro p hp
      subst hp
      cases hl:C0 c.map t with
      | some y=>rw[hl]at hx;injection hx with hx;subst hx;exact h.bnd t p hl
      | none=>rw[hl]at hx;simp only[ZA]at hx;obtain⟨j,_,hx⟩:=hx;cases hx
theorem Iw(h:Cp vars c loc var R){t:Tmp}{x:CX}(hx:C1 vars c t=some x):∀p,x=.loc p→p<c.cnt:=by
 intro p hp
 subst hp
 unfold C1 at hx
 cases hl:C0 c.map t with
 | some y=>rw[hl]at hx;injection hx with hx;subst hx;exact h.bnd t p hl
 | none=>rw[hl]at hx;simp only[ZA]at hx;obtain⟨j,_,hx⟩:=hx;cases hx
theorem Ij(h:Cp vars c loc var R){o:Operand}{x:CX}(hx:DY vars c o=some x):∀p,x=.loc p→p<c.cnt:=by
 cases o with
 | tmp t=>exact Iw h hx
 | const v =>
  intro p hp
  subst hp
  simp only[DY,ZA]at hx
  obtain⟨a,_,hx⟩:=hx
  cases hx
 | global g=>intro p hp;subst hp;simp[DY]at hx
 | func f=>intro p hp;subst hp;simp[DY]at hx
theorem Cp.pushNone(h:Cp vars c loc var R)(v:AV):Cp vars { c with cnt:=c.cnt+1 } (v::loc) var R:=by
 refine⟨h.vlen,fun t p hp=>Zv (h.bnd t p hp),h.keys,?_⟩
 intro t x hx
 have hx':C1 vars c t=some x:=hx
 rw[h.val t x hx',DL (Iw h hx')]
theorem Cp.set   (h : Cp   vars c loc var R) {d : Tmp} {j : Nat} (v : AV) (hd : BA      vars d = some j) (hn : GN      j c.map = true) : Cp   vars c loc (upd v var j) (R.put (some d) v) := by
  refine⟨by rw[G4,List.length_set];exact h.vlen,h.bnd,h.keys,?_⟩
  intro t x hx
  have hj:j<var.length:=by rw[h.vlen];exact DZ hd
  by_cases e:t=d
  · subst e
    unfold C1 at hx
    cases hl:C0 c.map t with
    | some y=>have:=h.keys t y hl;rw[hd]at this;cases this
    | none =>
      rw[hl,hd]at hx
      injection hx with hx
      subst hx
      simp only[BI.put,if_true,BV,B8]
      rw[KX hj]
  · simp only[BI.put,if_neg e]
    rw[h.val t x hx]
    congr 1
    cases x with
    | loc p=>rfl
    | const v=>rfl
    | var i =>
      simp only[BV,B8]
      rw[Fc]
      intro q
      subst q
      unfold C1 at hx
      cases hl:C0 c.map t with
      | some y=>rw[hl]at hx;injection hx with hx;subst hx;exact LX hn t (Oq hl)
      | none =>
        rw[hl]at hx
        simp only[ZA]at hx
        obtain⟨k,hk,hx⟩:=hx
        injection hx with hx
        injection hx with hx
        subst hx
        exact e (HO hk hd)
theorem Cp.alias(h:Cp vars c loc var R){d:Tmp}{o:Operand}{x:CX}(hx:DY vars c o=some x)(hd:BA vars d=none):
    Cp vars { c with map:=(d,x)::c.map } loc var (R.put (some d) (B8 loc var (BV c.cnt x))):=by
  refine⟨h.vlen,?_,?_,?_⟩
  · intro t p hp
    rw[Cf]at hp
    split at hp
    · injection hp with hp;subst hp;exact Ij h hx p rfl
    · exact h.bnd t p hp
  · intro t y hy
    rw[Cf]at hy
    split at hy
    · rename_i e;subst e;exact hd
    · exact h.keys t y hy
  · intro t y hy
    unfold C1 at hy
    simp only[Cf]at hy
    by_cases e:t=d
    · subst e
      simp only[if_true,Option.some.injEq]at hy
      subst hy
      simp only[BI.put,if_true]
    · simp only [if_neg e] at hy
      simp only[BI.put,if_neg e]
      exact h.val t y hy
theorem Ik(h:Cp vars c loc var R){o:Operand}{x:CX}(hx:DY vars c o=some x):Li R o=some (B8 loc var (BV c.cnt x)):=by
 cases o with
 | tmp t=>exact h.val t x hx
 | const v =>
  simp only[DY,ZA]at hx
  obtain⟨a,h1,h2⟩:=hx
  injection h2 with h2
  subst h2
  exact h1
 | global g=>injection hx with hx;subst hx;rfl
 | func f=>injection hx with hx;subst hx;rfl
theorem Jb(h:Cp vars c loc var R):∀ {l:List Operand}{xs:List CX},Ft vars c l=some xs→Ch R l=some (Ca loc var (xs.map (BV c.cnt)))
 | [],xs,hx=>by injection hx with hx;subst hx;rfl
 | o::l,xs,hx=>by
  simp only[Ft,ZA]at hx
  obtain⟨a,h1,r,h2,h3⟩:=hx
  injection h3 with h3
  subst h3
  simp only[Ch,Ik h h1,Jb h h2,Option.bind_some,ZV]
  rfl
theorem T0{F:CY}{sh:Sh}{xs:List CX}{loc var:List AV}{s:AE}{p:AV×AE}(h:Wo F sh xs loc var s=some p):TL F sh (Ca loc var xs) s=some p:=by
 cases sh with
 | p1 f=>cases xs with
  | nil=>cases h
  | cons x l=>exact h
 | p2 f=>cases xs with
  | nil=>cases h
  | cons x l=>cases l with
   | nil=>cases h
   | cons y l=>exact h
 | p f=>exact h
 | r1 f=>cases xs with
  | nil=>cases h
  | cons x l=>exact h
 | r f=>exact h
 | mk f=>exact h
 | e f=>exact h
 | call f=>exact h
 | callv=>cases xs with
  | nil=>cases h
  | cons x l=>exact h
def Jz(cnt:Nat)(x:CX):Prop:=∀p,x=.loc p→p<cnt
structure F6(loc var:List AV)(cnt:Nat)(r:Nat×EX)(q:L5):Prop where
 idx:r.1=q.idx
 sh:r.2.sh=q.sh
 aS:Ca loc var (r.2.xs.map (BV cnt))=q.aS
 v:B8 loc var (BV cnt r.2.ans)=q.v
 want:Ay loc var (FP cnt r.2.guard)=q.want
 bx:∀x∈r.2.xs,Jz cnt x
 ba:∃p,r.2.ans=.loc p∧p<cnt
 bg:∀x b,r.2.guard=some (x,b)→Jz cnt x
inductive Dw (loc var:List AV) (cnt:Nat):List (Nat×EX)→List L5→Prop
 | nil:Dw loc var cnt [] []
 | cons {r:Nat×EX} {q:L5} {l:List (Nat×EX)} {m:List L5} (h:F6 loc var cnt r q) (hl:Dw loc var cnt l m):Dw loc var cnt (r::l) (q::m)
theorem Gh{loc var:List AV}{v:AV}{cnt:Nat}:∀ {xs:List CX},(∀x∈xs,Jz cnt x)→Ca (v::loc) var (xs.map (BV (cnt+1)))=Ca loc var (xs.map (BV cnt))
 | [],_=>rfl
 | x::l,h=>by
  show B8 (v::loc) var (BV (cnt+1) x)::Ca (v::loc) var (l.map (BV (cnt+1)))=B8 loc var (BV cnt x)::Ca loc var (l.map (BV cnt))
  rw[DL (h x ZU),Gh fun y hy=>h y (ZQ _ hy)]
theorem Jz.succ{cnt:Nat}{x:CX}(h:Jz cnt x):Jz (cnt+1) x:=fun p hp=>Zv (h p hp)
theorem F6.push{loc var:List AV}{cnt:Nat}{r:Nat×EX}{q:L5}(h:F6 loc var cnt r q)(v:AV):F6 (v::loc) var (cnt+1) r q:=by
  obtain⟨p,hp,hlt⟩:=h.ba
  refine⟨h.idx,h.sh,(Gh h.bx).trans h.aS,?_,?_,fun x hx=>(h.bx x hx).succ,⟨p,hp,Zv hlt⟩,fun x b e=>(h.bg x b e).succ⟩
  · rw [DL]
    · exact h.v
    · intro p' e;rw[hp]at e;injection e with e;subst e;exact hlt
  · rw[← h.want]
    cases hg:r.2.guard with
    | none=>rfl
    | some g =>
      obtain⟨x,b⟩:=g
      simp only[FP,Ay]
      rw[DL (h.bg x b hg)]
theorem Dw.push{loc var:List AV}{cnt:Nat}{rs:List (Nat×EX)}{m:List L5}(h:Dw loc var cnt rs m)(v:AV):Dw (v::loc) var (cnt+1) rs m:=by
 induction h with
 | nil=>exact .nil
 | cons h _ ih=>exact .cons (h.push v) ih
theorem NW{loc var:List AV}{v:AV}{j:Nat}{x:CX}(h:isVar j x=false):B8 loc (upd v var j) x=B8 loc var x:=by
 cases x with
 | loc p=>rfl
 | const c=>rfl
 | var i =>
  simp only[B8]
  rw[Fc]
  intro e
  subst e
  simp[isVar]at h
theorem JQ{cnt j:Nat}{x:CX}:isVar j (BV cnt x)=isVar j x:=by cases x<;>rfl
theorem K7{loc var:List AV}{v:AV}{j cnt:Nat}:∀ {xs:List CX},(xs.all fun x=>!isVar j x)=true→Ca loc (upd v var j) (xs.map (BV cnt))=Ca loc var (xs.map (BV cnt))
 | [],_=>rfl
 | x::l,h=>by
  simp only[List.all_cons,Bool.and_eq_true,Bool.not_eq_true']at h
  show B8 loc (upd v var j) (BV cnt x)::Ca loc (upd v var j) (l.map (BV cnt))=B8 loc var (BV cnt x)::Ca loc var (l.map (BV cnt))
  rw[NW (by rw[JQ];exact h.1),K7 h.2]
theorem F6.set{loc var:List AV}{cnt j:Nat}{r:Nat×EX}{q:L5}(h:F6 loc var cnt r q)(v:AV)(hf:Kc j r.2=true):F6 loc (upd v var j) cnt r q:=by
 obtain⟨p,hp,hlt⟩:=h.ba
 simp only[Kc,Bool.and_eq_true]at hf
 refine⟨h.idx,h.sh,(K7 hf.2).trans h.aS,?_,?_,h.bx,h.ba,h.bg⟩
 ·rw[← h.v,hp];rfl
 ·rw[← h.want]
  cases hg:r.2.guard with
  | none=>rfl
  | some g =>
   obtain⟨x,b⟩:=g
   have:=hf.1
   rw[hg]at this
   simp only[Bool.not_eq_true']at this
   simp only[FP,Ay]
   rw[NW (by rw[JQ];exact this)]
theorem Dw.set{loc var:List AV}{cnt j:Nat}{rs:List (Nat×EX)}{m:List L5}(h:Dw loc var cnt rs m)(v:AV)(hf:(rs.all fun r=>Kc j r.2)=true):Dw loc (upd v var j) cnt rs m:=by
 induction h with
 | nil=>exact .nil
 | cons h _ ih =>
  simp only[List.all_cons,Bool.and_eq_true]at hf
  exact .cons (h.set v hf.1) (ih hf.2)
theorem Pf       {s : AE}  {loc var : List AV} {cnt : Nat} {f : Nat × EX  → Bool} : ∀ {rs : List (Nat × EX)}  {m : List L5},  Dw    loc var cnt rs m → Cr     s loc var ((rs.filter f).map fun r => GR    cnt r.2) = true →
    ∀q∈m,(∀r:Nat×EX,r.1=q.idx→f r=true)→q.want=true→Db q.sh q.aS s=some q.v:=by
  intro rs m h
  induction h with
  | nil=>intro _ q hq;cases hq
  | cons h hl ih =>
    rename_i r q l m
    intro hag q' hq' hf hw
    simp only[List.filter_cons]at hag
    cases hq' with
    | head =>
      rw[if_pos (hf r h.idx)]at hag
      have hag:(Ea s loc var (GR cnt r.2) && Cr s loc var ((l.filter f).map fun r=>GR cnt r.2))=true:=hag
      simp only[Bool.and_eq_true]at hag
      have h1:=hag.1
      simp only[Ea,GR,h.want,hw,Bool.not_true,Bool.false_or,h.aS,h.v,h.sh]at h1
      cases hr:Db q.sh q.aS s with
      | none=>rw[hr]at h1;cases h1
      | some u =>
        rw[hr]at h1
        have:=J7 (show Hg u q.v=true from h1)
        rw[this]
    | tail _ hq' =>
      refine ih ?_ q' hq' hf hw
      by_cases hfr:f r=true
      · rw[if_pos hfr]at hag
        have hag:(Ea s loc var (GR cnt r.2) && Cr s loc var ((l.filter f).map fun r=>GR cnt r.2))=true:=hag
        simp only[Bool.and_eq_true]at hag
        exact hag.2
      · rw[if_neg hfr]at hag
        exact hag
theorem RN       {P : Program} {vars : List Tmp} {c : TM}  {loc var : List AV} {R : BI}   {ops : Array Oper} {o : Oper} {g : Option (CX × Bool)} (h : Cp   vars c loc var R)
    (hg:(match o.guard with
        | none=>some none
        | some (j,want)=>(ops[j]?).bind fun p=>p.dst.bind fun d=>(C1 vars c d).bind fun x=>some (some (x,want)))=some g):
    Ga ops R o=some (Ay loc var (FP c.cnt g))∧∀x b,g=some (x,b)→Jz c.cnt x:=by
  unfold Ga
  split at hg
  · rename_i he
    injection hg with hg
    subst hg
    try rw[he]
    exact⟨rfl,fun x b e=>by cases e⟩
  · rename_i j want he
    simp only[ZA]at hg
    obtain⟨p,h1,d,h2,x,h3,h4⟩:=hg
    injection h4 with h4
    subst h4
    try rw[he]
    refine⟨?_,fun y b e=>by injection e with e;injection e with e1 e2;subst e1;exact Iw h h3⟩
    simp only[h1,h2,Option.bind_some,h.val d x h3,FP,Ay]
theorem MQ         {P : Program} {F : CY}  {nt : Nat} {vars : List Tmp} {ops : Array Oper} {b : Array Nat} {draw : Bool} :
    ∀ (l:List Nat) (c:TM) (rs:List (Nat×EX)) (items:List AD) (loc var:List AV) (s:AE) (var':List AV) (s':AE) (R:BI) (m:List L5),
      C6 P nt vars ops b draw l c rs=some items→Cu F items loc var s=some (var',s')→Cp vars c loc var R→Dw loc var c.cnt rs m →
      ∃R',Trace P F ops nt b draw l m R s R' s'∧∃c' loc',Cp vars c' loc' var' R':=by
  intro l
  induction l with
  | nil =>
    intro c rs items loc var s var' s' R m hc hi hr hm
    injection hc with hc
    subst hc
    have hi:some (var,s)=some (var',s'):=hi
    injection hi with hi
    injection hi with h1 h2
    subst h1;subst h2
    exact⟨R,.nil,c,loc,hr⟩
  | cons i l ih =>
    intro c rs items loc var s var' s' R m hc hi hr hm
    simp only[C6,ZA]at hc
    obtain⟨o,ho,sh,hsh,xs,hxs,hc⟩:=hc
    split at hc
    ·
      rename_i x d hal hd
      obtain⟨hlt,hc⟩:=AA hc
      have hlt:d<nt:=by simpa[ZX]using hlt
      have hx1:xs=[x]∧Ha vars (l.map fun j=>(ops.getD j default).dst) o x=true:=by
        split at hal
        · rename_i y
          cases ha:Ha vars (l.map fun j=>(ops.getD j default).dst) o y with
          | true=>rw[ha]at hal;injection hal with hal;subst hal;exact⟨rfl,ha⟩
          | false=>rw[ha]at hal;cases hal
        · cases hal
      obtain⟨rfl,ha⟩:=hx1
      simp only[Ha,Bool.and_eq_true]at ha
      obtain⟨⟨⟨a1,a2⟩,a3⟩,_⟩:=ha
      split at a1<;>first | (cases a1;done) | skip
      rename_i y hop
      have hsh':sh=(.p1 some,[y]):=by rw[hop]at hsh;injection hsh with hsh;exact hsh.symm
      subst hsh'
      have hy:DY vars c y=some x:=by
        simp only[Ft,ZA]at hxs
        obtain⟨a,h1,r,h2,h3⟩:=hxs
        injection h3 with h3
        injection h3 with h3 h4
        subst h3
        exact h1
      rw[hd]at a3
      have hpd:BA vars d=none:=by simpa using a3
      have hr':=hr.alias hy hpd
      obtain⟨R',t1,t2⟩:=ih _ rs items loc var s var' s' _ m hc hi hr' hm
      refine⟨R',.cons (sh:=.p1 some) (want:=true) (aS:=[B8 loc var (BV c.cnt x)]) (v:=B8 loc var (BV c.cnt x)) (R1:=R.put (some d) (B8 loc var (BV c.cnt x))) (s1:=s) ho ?_ ?_ ?_,t2⟩
      · refine ⟨⟨[y], hsh, ?_⟩, ?_, by rw [hd], ?_, fun _ => rfl, fun e => by cases e⟩
        · simp[Ch,Ik hr hy]
        · unfold Ga
          cases hg:o.guard with
          | none=>rfl
          | some g=>rw[hg]at a2;cases a2
        · intro d' e;rw[hd]at e;injection e with e;subst e;exact hlt
      · intro _ e;cases e
      · have:(draw && Sh.isRead (.p1 some))=false:=by cases draw<;>rfl
        rw[this]
        exact t1
    ·
      simp only[ZA]at hc
      obtain⟨g,hg,q,hq,hc⟩:=hc
      obtain⟨hpush,hc⟩:=AA hc
      simp only[ZA]at hc
      obtain⟨items',hc',hc⟩:=hc
      injection hc with hc
      subst hc
      obtain⟨hw,hgb⟩:=RN (P:=P) hr hg
      have has:=Jb hr hxs
      have hi:IY F _ (Cu F items') loc var s=some (var',s'):=hi
      have step:∃v s1,(Ay loc var (FP c.cnt g)=true→TL F sh.1 (Ca loc var (xs.map (BV c.cnt))) s=some (v,s1))∧(Ay loc var (FP c.cnt g)=false→v=A1∧s1=s) ∧
          Bo (bif Ay loc var (FP c.cnt g)then ((match draw,sh.1.isEff with
            | true,true=>rs.filter fun(r:Nat×EX)=>!(b.getD i 0).testBit r.1
            | _,_=>[]).map fun(r:Nat×EX)=>GR q.2.cnt r.2)else []) q.1 (Cu F items') loc var v s1=some (var',s'):=by
        unfold IY at hi
        cases hwt:Ay loc var (FP c.cnt g)with
        | true =>
          simp only[hwt]at hi
          unfold Hj at hi
          split at hi<;>first | (cases hi;done) | skip
          rename_i p hp
          exact⟨p.1,p.2,fun _=>T0 hp,(fun e=>by cases e),hi⟩
        | false =>
          simp only[hwt]at hi
          exact⟨A1,s,(fun e=>by cases e),fun _=>⟨rfl,rfl⟩,hi⟩
      obtain⟨v,s1,st1,st2,st3⟩:=step
      have fin:∀ (loc1 var1:List AV),Cp vars q.2 loc1 var1 (R.put o.dst v)→Dw loc1 var1 q.2.cnt rs m →
          ((draw && sh.1.isRead)=true→F6 loc1 var1 q.2.cnt (i,{ guard:=g,sh:=sh.1,xs,ans:=.loc c.cnt }) ⟨i,sh.1,Ca loc var (xs.map (BV c.cnt)),v,Ay loc var (FP c.cnt g)⟩) →
          (∀d,o.dst=some d→d<nt) →
          Cr s1 loc1 var1 (bif Ay loc var (FP c.cnt g)then ((match draw,sh.1.isEff with
            | true,true=>rs.filter fun(r:Nat×EX)=>!(b.getD i 0).testBit r.1
            | _,_=>[]).map fun(r:Nat×EX)=>GR q.2.cnt r.2)else [])=true→Cu F items' loc1 var1 s1=some (var',s') →
          ∃R',Trace P F ops nt b draw (i::l) m R s R' s'∧∃c' loc',Cp vars c' loc' var' R':=by
        intro loc1 var1 f1 f2 f3 f4 f5 f6
        have hm':Dw loc1 var1 q.2.cnt (bif draw && sh.1.isRead then (i,{ guard:=g,sh:=sh.1,xs,ans:=.loc c.cnt })::rs else rs)
            (bif draw && sh.1.isRead then ⟨i,sh.1,Ca loc var (xs.map (BV c.cnt)),v,Ay loc var (FP c.cnt g)⟩::m else m):=by
          cases hrd:(draw && sh.1.isRead)with
          | true=>exact .cons (f3 hrd) f2
          | false=>exact f2
        obtain⟨R',t1,t2⟩:=ih _ _ items' loc1 var1 s1 var' s' _ _ hc' f6 f1 hm'
        refine⟨R',.cons ho ⟨⟨sh.2,hsh,has⟩,hw,rfl,f4,st1,st2⟩ ?_ t1,t2⟩
        intro hd he hwt r hr1 hr2 hr3
        rw[hwt,hd,he]at f5
        simp only[cond_true]at f5
        exact Pf f2 f5 r hr1 (fun r' e=>by rw[e,hr2];rfl) hr3
      have newRd:∀ (loc1:List AV),loc1=v::loc→q.2.cnt=c.cnt+1→F6 loc1 var q.2.cnt (i,{ guard:=g,sh:=sh.1,xs,ans:=.loc c.cnt }) ⟨i,sh.1,Ca loc var (xs.map (BV c.cnt)),v,Ay loc var (FP c.cnt g)⟩:=by
        intro loc1 e1 e2
        subst e1
        rw[e2]
        have hbx:∀x∈xs,Jz c.cnt x:=by
          have:∀ (l:List Operand) (xs:List CX),Ft vars c l=some xs→∀x∈xs,Jz c.cnt x:=by
            intro l
            induction l with
            | nil=>intro xs h;injection h with h;subst h;intro x hx;cases hx
            | cons a l ih =>
              intro xs h
              simp only[Ft,ZA]at h
              obtain⟨y,h1,r,h2,h3⟩:=h
              injection h3 with h3
              subst h3
              intro x hx
              cases hx with
              | head=>exact Ij hr h1
              | tail _ hx=>exact ih r h2 x hx
          exact this _ _ hxs
        refine⟨rfl,rfl,Gh hbx,?_,?_,fun x hx=>(hbx x hx).succ,⟨c.cnt,rfl,Zs _⟩,fun x b e=>(hgb x b e).succ⟩
        · simp only[BV,B8]
          rw[show c.cnt+1 - 1 - c.cnt=0 from by omega]
          rfl
        · cases g with
          | none=>rfl
          | some g =>
            obtain⟨x,b⟩:=g
            simp only[FP,Ay]
            rw[DL (hgb x b rfl)]
      have ifsome:∀ {α:Type} {c:Bool} {x:Option α} {y:α},(bif c then x else none)=some y→c=true∧x=some y:=by
        intro α c x y h
        cases c with
        | true=>exact⟨rfl,h⟩
        | false=>cases h
      split at hq
      · rename_i hd
        injection hq with hq
        subst hq
        simp only[Bo]at st3
        obtain⟨k1,k2⟩:=ifsome st3
        have hput:R.put o.dst v=R:=by rw[hd];rfl
        exact fin (v::loc) var (by rw[hput];exact hr.pushNone v) (hm.push v) (fun _=>newRd _ rfl rfl) (fun d e=>by rw[hd]at e;cases e) k1 k2
      · rename_i d hd
        obtain⟨hlt,hq⟩:=AA hq
        have hlt:d<nt:=by simpa[ZX]using hlt
        have hdl:∀d',o.dst=some d'→d'<nt:=fun d' e=>by rw[hd]at e;injection e with e;subst e;exact hlt
        split at hq
        · rename_i j hj
          obtain⟨hal,hq⟩:=AA hq
          injection hq with hq
          subst hq
          simp only[Bool.and_eq_true]at hal
          simp only[Bo]at st3
          obtain⟨k1,k2⟩:=ifsome st3
          refine fin loc (upd v var j) (by rw[hd];exact hr.set v hj hal.1) (hm.set v hal.2) ?_ hdl k1 k2
          intro hrd
          rw[hrd]at hpush
          cases hpush
        · rename_i hj
          injection hq with hq
          subst hq
          simp only[Bo]at st3
          obtain⟨k1,k2⟩:=ifsome st3
          exact fin (v::loc) var (by rw[hd];exact hr.push v hj) (hm.push v) (fun _=>newRd _ rfl rfl) hdl k1 k2
def LC(r:Option Nat):Fence:={ Fence.wide with round:=r }
def DO(ρ:Aq)(R:BI)(tmps:Array Value):Prop:=∀ (t:Tmp)(v:AV),R t=some v→t<tmps.size∧AJ ρ v (tmps.getD t undef)
def Cq(P:Program)(ρ:Aq)(s:AE)(w:World)(v:AV)(s1:AE):Ending→World→Prop
 | .returned v',w'=>∃ρ',AJ ρ' v v'∧Al P ρ' s1 w'∧Fr ρ s w ρ' s1 w'
 | _,_=>False
inductive CF (P:Program) (ρ:Aq) (s:AE) (w:World) (v:AV) (s1:AE):Result Next→Prop
 | value {v':Value} {w':World} {ρ':Aq} (hv:AJ ρ' v v') (hi:Al P ρ' s1 w') (hf:Fr ρ s w ρ' s1 w'):CF P ρ s w v s1 (.ok (.value v') w')
 | skip {w':World} {ρ':Aq} (hv:AJ ρ' v undef) (hi:Al P ρ' s1 w') (hf:Fr ρ s w ρ' s1 w'):CF P ρ s w v s1 (.ok .skip w')
 | enter {f:FuncId} {args:Array Value} (h:CallsIn Fence.wide 0 P f args w (Cq P ρ s w v s1)):CF P ρ s w v s1 (.ok (.enter f args) w)
 | round {l:Nat} {f:FuncId} {tmps:Array Value} {assign body:Code} (h:RoundIn Fence.wide 0 P l f tmps assign body w (Cq P ρ s w v s1)):CF P ρ s w v s1 (.ok (.round l f tmps assign body) w)
def Av(ρ:Aq)(s:AE):Prop:=∀i,s.next≤i→ρ i=none∧s.heap.get i=none
structure TN(P:Program)(F:CY):Prop where
 call:∀ (ρ:Aq) (s:AE) (w:World) (f:FuncId) (aS:List AV) (v:AV) (s1:AE) (as':Array Value),F.call f aS s=some (v,s1)→Al P ρ s w→Av ρ s→AI ρ aS as'.toList →
  CF P ρ s w v s1 ((callFunc f as').run P w)
 round:∀ (ρ:Aq) (s:AE) (w:World) (l:Nat) (rb:RB) (aS:List AV) (v:AV) (s1:AE) (as':Array Value),F.round l aS s=some (v,s1)→Al P ρ s w→Av ρ s→ρ l=some rb→AI ρ aS as'.toList →
  CF P ρ s w v s1 ((Instr.yield rb.b as').run P w)
section
variable{P:Program}{ρ ρ1 ρ2:Aq}{s s1 s2:AE}{w w1 w2:World}{R:BI}{a:Act}{ops:Array Oper}
theorem DO.mono{tmps:Array Value}(h:DO ρ R tmps)(le:ρ.le ρ1):DO ρ1 R tmps:=fun t v hv=>⟨(h t v hv).1,(h t v hv).2.mono le⟩
theorem Lj(h:DO ρ R a.tmps){o:Operand}{v:AV}(hv:Li R o=some v):AJ ρ v (a.eval o):=by
 cases o with
 | tmp t=>exact(h t v hv).2
 | const c=>exact BE ρ hv
 | global g=>injection hv with hv;subst hv;exact .gptr g 0
 | func f=>injection hv with hv;subst hv;exact .func .nil .nil
theorem Gv(h:DO ρ R a.tmps):∀ {xs:List Operand}{aS:List AV},Ch R xs=some aS→AI ρ aS (xs.map a.eval)
 | [],aS,e=>by injection e with e;subst e;exact .nil
 | x::l,aS,e=>by
  simp only[Ch,ZA]at e
  obtain⟨v,h1,r,h2,h3⟩:=e
  injection h3 with h3
  subst h3
  exact .cons (Lj h h1) (Gv h h2)
theorem Dt(a:Act)(d:Option Tmp)(v:Value):(a.put d v).tmps.size=a.tmps.size:=by cases d<;>simp[Act.put]
theorem Ir(a:Act)(d:Option Tmp)(v:Value):(a.put d v).defers=a.defers:=by cases d<;>rfl
theorem DO.put   (h : DO   ρ R a.tmps) {d : Option Tmp} {v : AV} {v' : Value} (hd : ∀ t, d = some t → t < a.tmps.size) (hv : AJ   ρ v v') : DO   ρ (R.put d v) (a.put d v').tmps := by
  cases d with
  | none=>exact h
  | some d =>
    intro t u hu
    simp only[Act.put,Array.size_setIfInBounds]
    by_cases e:t=d
    · subst e
      simp only[BI.put,if_true,Option.some.injEq]at hu
      subst hu
      have:=hd t rfl
      exact⟨this,by simpa[Array.getD_eq_getD_getElem?,this]using hv⟩
    · simp only[BI.put,if_neg e]at hu
      have:=h t u hu
      refine⟨this.1,?_⟩
      have e2:(a.tmps.setIfInBounds d v').getD t undef=a.tmps.getD t undef:=by
        simp[Array.getD_eq_getD_getElem?,Array.getElem?_setIfInBounds_ne (Ne.symm e)]
      rw[e2]
      exact this.2
theorem Jn(h:DO ρ R a.tmps){o:Oper}{want:Bool}(hw:Ga ops R o=some want):Region.wanted o (yielded ops a.tmps)=want:=by
  unfold Ga at hw
  unfold Region.wanted
  split at hw
  · rename_i hg;rw[hg];injection hw
  · rename_i j b hg
    rw[hg]
    simp only[ZA]at hw
    obtain⟨p,h1,d,h2,x,h3,h4⟩:=hw
    injection h4 with h4
    subst h4
    obtain⟨hlt,hv⟩:=h d x h3
    have hy:yielded ops a.tmps j=(match a.tmps.getD d undef with | .bool b=>some b | _=>none):=by
      unfold yielded
      rw[h1]
      simp only[Option.bind_some,h2]
      rw[Array.getElem?_eq_getElem hlt,show a.tmps.getD d undef=a.tmps[d]from by simp[Array.getD_eq_getD_getElem?,hlt]]
      cases a.tmps[d]<;>rfl
    simp only[hy]
    generalize a.tmps.getD d undef=y at hv
    cases hv<;>first | rfl | (rename_i c;cases c<;>cases b<;>rfl)
theorem QN{F:CY}(hF:TN P F)(h:Al P ρ s w)(hf:Av ρ s){f v:AV}{f':Value}{aS:List AV}{as':Array Value}(hc:FT F f aS s=some (v,s1))(hv:AJ ρ f f')(ha:AI ρ aS as'.toList):
  CF P ρ s w v s1 ((do let d ← Deferred.ofValue f' as';invoke d.target d.args:Sem Next).run P w):=by
 unfold FT at hc
 split at hc<;>first | (cases hc;done) | skip
 ·cases hv with
  | func h1 h2 =>
   rename_i f x c x' c'
   have:=hF.call ρ s w f _ v s1 ((x'++as')++c') hc h hf (by simpa using h1.append (ha.append h2))
   simpa[Deferred.ofValue,invoke]using this
 ·cases hv with
  | yield h1 =>
   rename_i l rb
   have:=hF.round ρ s w l rb _ v s1 as' hc h hf h1 ha
   simpa[Deferred.ofValue,invoke]using this
theorem BQ.next{sem:Sem Next}{v:AV}(h:BQ P ρ s w sem v s1):CF P ρ s w v s1 (sem.run P w):=by
 obtain⟨v',w',ρ',h1,h2,h3,h4⟩:=h
 rcases h1 with h1 | ⟨h1,e⟩
 ·rw[h1];exact .value h2 h3 h4
 ·subst e;rw[h1];exact .skip h2 h3 h4
theorem PV        {F : CY}  (hF : TN  P F) (h : Al  P ρ s w) (hf : Av     ρ s) {o : Oper} {sh : Sh} {xs : List Operand} {aS : List AV} {v : AV} {ev : Operand → Value} (hev : ∀ f, ev (.func f) = .func (.func f) #[] #[]) (hsh : Aa      P o.op = some (sh, xs)) (ha : AI    ρ aS (xs.map ev)) (hr : TL  F sh aS s = some (v, s1)) :
    CF P ρ s w v s1 ((execOp ev o).run P w):=by
  have plain:Gz sh aS s=some (v,s1)→CF P ρ s w v s1 ((execOp ev o).run P w):=fun hl=>(Vg h (hf _ (Y9 _)).1 hev hsh ha hl).next
  have calls:(∀f,sh≠.call f)→sh≠.callv→CF P ρ s w v s1 ((execOp ev o).run P w):=by
    intro h1 h2
    refine plain ?_
    cases sh<;>first | exact hr | exact absurd rfl (h1 _) | exact absurd rfl h2
  have isCall:(∃f,sh=.call f)∨sh=.callv→∃c,o.op=.call c:=by
    intro hc
    cases ho:o.op<;>rw[ho]at hsh<;>first | exact⟨_,rfl⟩ | (simp[Aa]at hsh;done) | skip
    case binOp op t x y f =>
      simp only[Aa]at hsh
      split at hsh<;>(injection hsh with hsh;injection hsh with e1 e2;subst e1;rcases hc with⟨_,hc⟩ | hc<;>cases hc)
    case makeMap t r =>
      cases r with
      | some _=>cases hsh
      | none=>obtain⟨_,hsh⟩:=AA hsh;injection hsh with hsh;injection hsh with e1 e2;subst e1;rcases hc with⟨_,hc⟩ | hc<;>cases hc
    case makeFunc fn first captured =>
      cases fn with
      | func f=>injection hsh with hsh;injection hsh with e1 e2;subst e1;rcases hc with⟨_,hc⟩ | hc<;>cases hc
      | _=>cases hsh
    all_goals first | (injection hsh with hsh;injection hsh with e1 e2;subst e1;rcases hc with⟨_,hc⟩ | hc<;>cases hc;done) | (obtain⟨_,hsh⟩:=AA hsh;injection hsh with hsh;injection hsh with e1 e2;subst e1;rcases hc with⟨_,hc⟩ | hc<;>cases hc)
  by_cases hc:(∃f,sh=.call f)∨sh=.callv
  · obtain⟨⟨callee,args,argTypes⟩,ho⟩:=isCall hc
    rw[ho]at hsh
    have hx:∀g,callee=.value g→execOp ev o=(do let d ← Deferred.ofValue (ev g) (args.map ev);invoke d.target d.args):=by
      intro g hg
      subst hg
      simp only[execOp,ho,resolve]
    have notB:∀b,callee≠.builtin b:=by
      intro b e
      subst e
      simp only[Aa]at hsh
      split at hsh<;>first | (cases hsh;done) | skip
      all_goals first
        | (injection hsh with hsh;injection hsh with e1 e2;subst e1;rcases hc with⟨_,hc⟩ | hc<;>cases hc;done)
        | (split at hsh<;>first | (cases hsh;done) | (injection hsh with hsh;injection hsh with e1 e2;subst e1;rcases hc with⟨_,hc⟩ | hc<;>cases hc;done) | (obtain⟨_,hsh⟩:=AA hsh;injection hsh with hsh;injection hsh with e1 e2;subst e1;rcases hc with⟨_,hc⟩ | hc<;>cases hc;done))
    simp only[Aa]at hsh
    split at hsh
    · rename_i f
      split at hsh
      · injection hsh with hsh;injection hsh with e1 e2;subst e1;rcases hc with⟨_,hc⟩ | hc<;>cases hc
      injection hsh with hsh;injection hsh with e1 e2;subst e1;subst e2
      rw[hx _ rfl,hev]
      have:=hF.call ρ s w f aS v s1 (args.map ev) hr h hf (by simpa using ha)
      simpa[Deferred.ofValue,invoke]using this
    · rename_i x _
      injection hsh with hsh;injection hsh with e1 e2;subst e1;subst e2
      rw[hx _ rfl]
      cases ha with
      | cons h1 h2=>exact QN hF h hf hr h1 (by simpa using h2)
    · cases hsh
    · exact absurd rfl (notB _)
  · exact calls (fun f e=>hc (.inl ⟨f,e⟩)) (fun e=>hc (.inr e))
end
section
variable{P:Program}{ρ ρ1 ρ2:Aq}{s s1 s2:AE}{w w1 w2:World}{R:BI}{a:Act}{ops:Array Oper}{rnd:Option Nat}{Q:Exit→Act→World→Prop}
theorem HB{n:Nat}{f:FuncId}{args:Array Value}{Rr:Ending→World→Prop}(h:CallsIn Fence.wide n P f args w Rr):CallsIn (LC rnd) n P f args w Rr:=h
theorem Ll{n l:Nat}{f:FuncId}{tmps:Array Value}{assign body:Code}{Rr:Ending→World→Prop}(h:RoundIn Fence.wide n P l f tmps assign body w Rr):RoundIn (LC rnd) n P l f tmps assign body w Rr:=h
theorem Av.step(h:Av ρ s)(k:Fr ρ s w ρ1 s1 w1):Av ρ1 s1:=fun i hi =>
 ⟨k.fresh i (h i (Za k.next hi)).1 (.inr hi),(k.unborn i (h i (Za k.next hi)).1 (.inr hi)).trans (h i (Za k.next hi)).2⟩
theorem JZ{o:Oper}{v:AV}{K:Act→World→Prop}{r:Result Next}(h:CF P ρ s w v s1 r)
    (hk:∀v' w' ρ',AJ ρ' v v'→Al P ρ' s1 w'→Fr ρ s w ρ' s1 w'→K (a.put o.dst v') w'):o.uponIn (LC rnd) 0 P a K Q r:=by
  cases h with
  | value hv hi hf=>exact hk _ _ _ hv hi hf
  | skip hv hi hf=>exact hk _ _ _ hv hi hf
  | enter h =>
    refine⟨fun e=>(by cases e),HB (CallsIn.mono h ?_)⟩
    intro e w' he
    cases e with
    | returned v'=>obtain⟨ρ',h1,h2,h3⟩:=he;exact hk _ _ _ h1 h2 h3
    | panicked c=>exact he.elim
    | outgrown=>exact he.elim
  | round h =>
    refine⟨fun e=>(by cases e),Ll (RoundIn.mono h ?_)⟩
    intro e w' he
    cases e with
    | returned v'=>obtain⟨ρ',h1,h2,h3⟩:=he;exact hk _ _ _ h1 h2 h3
    | panicked c=>exact he.elim
    | outgrown=>exact he.elim
theorem Ja{o:Oper}{x:Sh×List Operand}(h:Aa P o.op=some x):∀c,o.op≠.defer c:=by
 intro c e
 rw[e]at h
 simp[Aa]at h
theorem OE{F:CY}(hF:TN P F)(h:Al P ρ s w)(hf:Av ρ s){nt i:Nat}{o:Oper}{sh:Sh}{want:Bool}{aS:List AV}{v:AV}{R1:BI}{K:Act→World→Prop}(ho:ops[i]? = some o)
  (hs:Hw P F ops nt R s o sh want aS v R1 s1) (hr:DO ρ R a.tmps) (hnt:nt≤a.tmps.size)
  (hk:∀v' w' ρ',AJ ρ' v v'→Al P ρ' s1 w'→Fr ρ s w ρ' s1 w'→K (a.put o.dst v') w'):wpOpIn (LC rnd) 0 P ops Q i K a w:=by
 unfold wpOpIn
 rw[ho]
 simp only
 obtain⟨xs,hsh,has⟩:=hs.shape
 rw[Jn hr hs.wants]
 cases want with
 | true =>
  simp only[if_true]
  refine⟨fun _ _=>trivial,?_⟩
  rw[Oper.semAt_eq _ _ _ (Ja hsh)]
  exact JZ (PV hF h hf (fun _=>rfl) hsh (Gv hr has) (hs.yes rfl)) hk
 | false =>
  simp only[Bool.false_eq_true,if_false]
  refine⟨fun _ _=>trivial,?_⟩
  obtain⟨rfl,rfl⟩:=hs.no rfl
  exact hk undef w ρ (CD ρ) h (Fr.refl _ _ _)
theorem PZ        {F : CY}  (hF : TN  P F) {nt : Nat} {b : Array Nat} {draw : Bool} {R2 : BI}   :
    ∀ {l:List Nat} {m:List L5} {R:BI} {s:AE} {ρ:Aq} {a:Act} {w:World},Trace P F ops nt b draw l m R s R2 s2→Al P ρ s w→Av ρ s→DO ρ R a.tmps→nt≤a.tmps.size →
      (∀a' w' ρ',Al P ρ' s2 w'→Av ρ' s2→Fr ρ s w ρ' s2 w'→DO ρ' R2 a'.tmps→a'.tmps.size=a.tmps.size→a'.defers=a.defers→Q .normal a' w') →
      wpOpsIn (LC rnd) 0 P ops Q l a w:=by
  intro l
  induction l with
  | nil =>
    intro m R s ρ a w ht h hf hr hnt hq
    cases ht
    exact hq a w ρ h hf (Fr.refl _ _ _) hr rfl rfl
  | cons i l ih =>
    intro m R s ρ a w ht h hf hr hnt hq
    cases ht with
    | cons ho hs ag hl =>
      rename_i R1 s1 o sh want aS v
      rw[wpOpsIn_cons]
      refine OE hF h hf ho hs hr hnt ?_
      intro v' w' ρ' h1 h2 h3
      refine ih hl h2 (hf.step h3) ?_ (by rw[Dt];exact hnt) ?_
      · rw[hs.put]
        exact(hr.mono h3.le).put (fun t e=>ZS (hs.lt t e) hnt) h1
      · intro a' w'' ρ'' g1 g2 g3 g4 g5 g6
        exact hq a' w'' ρ'' g1 g2 (h3.trans g3) g4 (by rw[g5,Dt]) (by rw[g6,Ir])
end
def C4(acc:Array Nat)(o:Oper):Nat:=o.after.foldl (fun s e=>if Region.binds .any e then s ||| 2 ^ e.on ||| acc.getD e.on 0 else s) 0
theorem Jx           (acc : Array Nat) (o : Oper) (k : Nat) (h : (C4      acc o).testBit k = true) : ∃ e ∈ o.after, Region.binds .any e = true ∧ (k = e.on ∨ (acc.getD e.on 0).testBit k = true) := by
  unfold C4 at h
  rw[← Array.foldl_toList]at h
  have key:∀ (l:List Edge) (s:Nat),(l.foldl (fun s e=>if Region.binds .any e then s ||| 2 ^ e.on ||| acc.getD e.on 0 else s) s).testBit k=true →
      s.testBit k=true∨∃e∈l,Region.binds .any e=true∧(k=e.on∨(acc.getD e.on 0).testBit k=true):=by
    intro l
    induction l with
    | nil=>intro s h;exact .inl h
    | cons e l ih =>
      intro s h
      simp only[Zu]at h
      rcases ih _ h with h | ⟨e',he',h1,h2⟩
      · by_cases hb : Region.binds .any e = true
        · rw[if_pos hb]at h
          simp only[Nat.testBit_or,Bool.or_eq_true,Nat.testBit_two_pow]at h
          rcases h with(h | h) | h
          · exact .inl h
          · exact .inr ⟨e,ZU,hb,.inl (by simpa using (of_decide_eq_true h).symm)⟩
          · exact .inr ⟨e,ZU,hb,.inr h⟩
        · rw[if_neg hb]at h
          exact .inl h
      · exact .inr ⟨e',ZQ _ he',h1,h2⟩
  rcases key _ _ h with h | ⟨e,he,h1,h2⟩
  · simp at h
  · exact⟨e,Array.mem_toList_iff.1 he,h1,h2⟩
theorem Kw          (ops : Array Oper) : ∀ i k, ((Region.before ops).getD i 0).testBit k = true → ∃ o, ops[i]? = some o ∧ ∃ e ∈ o.after, Region.binds .any e = true ∧ (k = e.on ∨ ((Region.before ops).getD e.on 0).testBit k = true) := by
  have key:∀ (l pre:List Oper) (acc:Array Nat),acc.size=pre.length →
      (∀i k,(acc.getD i 0).testBit k=true→∃o,pre[i]? = some o∧∃e∈o.after,Region.binds .any e=true∧(k=e.on∨(acc.getD e.on 0).testBit k=true)) →
      ∀i k,((l.foldl (fun acc o=>acc.push (C4 acc o)) acc).getD i 0).testBit k=true→∃o,(pre++l)[i]? = some o∧∃e∈o.after,Region.binds .any e=true∧(k=e.on∨((l.foldl (fun acc o=>acc.push (C4 acc o)) acc).getD e.on 0).testBit k=true):=by
    intro l
    induction l with
    | nil=>intro pre acc hs h;simpa using h
    | cons o l ih =>
      intro pre acc hs h
      simp only[Zu]
      have:=ih (pre++[o]) (acc.push (C4 acc o)) (by simp[hs]) ?_
      · simpa using this
      · have up:∀j k,(acc.getD j 0).testBit k=true→((acc.push (C4 acc o)).getD j 0).testBit k=true:=by
          intro j k hj
          rcases ZO j acc.size with hlt | hge
          · simpa[Array.getD_eq_getD_getElem?,Array.getElem?_push,Nat.ne_of_lt hlt]using hj
          · simp[Array.getD_eq_getD_getElem?,Array.getElem?_eq_none hge]at hj
        intro i k hi
        rcases Zw i acc.size with hlt | heq | hgt
        · have hi':(acc.getD i 0).testBit k=true:=by
            simpa[Array.getD_eq_getD_getElem?,Array.getElem?_push,Nat.ne_of_lt hlt]using hi
          obtain⟨o',h1,e,h2,h3,h4⟩:=h i k hi'
          refine⟨o',?_,e,h2,h3,h4.imp id (up _ _)⟩
          rw[Zb (by omega)]
          exact h1
        · subst heq
          have hi':(C4 acc o).testBit k=true:=by
            simpa[Array.getD_eq_getD_getElem?]using hi
          obtain⟨e,h2,h3,h4⟩:=Jx acc o k hi'
          refine⟨o,?_,e,h2,h3,h4.imp id (up _ _)⟩
          rw[hs]
          simp
        · have:(acc.push (C4 acc o))[i]? = none:=Array.getElem?_eq_none (by simp;omega)
          simp[Array.getD_eq_getD_getElem?,this]at hi
  intro i k h
  have h0:Region.before ops=ops.toList.foldl (fun acc o=>acc.push (C4 acc o)) #[]:=by
    unfold Region.before
    rw[← Array.foldl_toList]
    rfl
  rw[h0]at h ⊢
  obtain⟨o,h1,h2⟩:=key ops.toList [] #[] rfl (by intro i k h;simp at h) i k h
  exact⟨o,by simpa using h1,h2⟩
theorem Ow{P:Program}{o:Oper}{sh:Sh}{xs:List Operand}(h:Aa P o.op=some (sh,xs)){t:Tmp}(ht:Operand.tmp t∈xs):t∈EM P o:=by
 unfold EM
 rw[h]
 refine Zt _ (List.mem_filterMap.2 ⟨.tmp t,ht,rfl⟩)
structure Ge(P:Program)(ops:Array Oper)(b:Array Nat)(π:List Nat):Prop where
 len:π.length=ops.size
 lt:∀p i:Nat,π[p]? = some i→i<ops.size
 inj:∀p q i:Nat,π[p]? = some i→π[q]? = some i→p=q
 edge:∀ (p i:Nat) (o:Oper),π[p]? = some i→ops[i]? = some o→∀e∈o.after,Region.binds .any e=true→∃q,q<p∧π[q]? = some e.on
 eff:∀ (p q i j:Nat) (o:Oper),π[p]? = some i→π[q]? = some j→q<p→ops[j]? = some o→K9 P o=true→(b.getD i 0).testBit j=true
 guard:∀ (p i:Nat) (o:Oper) (j:Nat) (w:Bool),π[p]? = some i→ops[i]? = some o→o.guard=some (j,w)→(b.getD i 0).testBit j=true
 wdst:∀ (p q i j:Nat) (o u:Oper) (d:Tmp),π[p]? = some i→π[q]? = some j→q<p→ops[i]? = some o→ops[j]? = some u→o.dst=some d→u.dst≠some d∧(d∈EM P u→(b.getD i 0).testBit j=true)
 rdst:∀ (p q i j:Nat) (o u:Oper) (d:Tmp),π[p]? = some i→π[q]? = some j→q<p→ops[i]? = some o→ops[j]? = some u→u.dst=some d→d∈EM P o→(b.getD i 0).testBit j=true
theorem Ip{P:Program}{ops:Array Oper}{b:Array Nat}:∀ {l bef:List Nat},Da P ops b bef l=true →
  (bef++l).length=ops.size∧∀p i:Nat,l[p]? = some i→Kj P ops b (bef++l.take p) i=true:=by
 intro l
 induction l with
 | nil=>intro bef h;exact⟨by simpa using AS h,fun p i e=>by simp at e⟩
 | cons a l ih =>
  intro bef h
  simp only[Da,Bool.and_eq_true]at h
  obtain⟨h1,h2⟩:=ih h.2
  refine⟨by simpa using h1,?_⟩
  intro p i e
  cases p with
  | zero=>simp at e;subst e;simpa using h.1
  | succ p=>simpa using h2 p i (by simpa using e)
theorem Cc{ops:Array Oper}{i:Nat}{o:Oper}(h:ops[i]? = some o):ops.getD i default=o:=by simp[Array.getD_eq_getD_getElem?,h]
theorem D7{l:List Nat}{p j:Nat}:j∈l.take p↔∃q,q<p∧l[q]? = some j:=by
  rw[List.mem_iff_getElem?]
  constructor
  · rintro ⟨q, hq⟩
    rw[List.getElem?_take]at hq
    split at hq
    · exact⟨q,by assumption,hq⟩
    · cases hq
  · rintro⟨q,hlt,hq⟩
    exact⟨q,by rw[List.getElem?_take,if_pos hlt];exact hq⟩
theorem Gr{P:Program}{ops:Array Oper}{b:Array Nat}{π:List Nat}(h:Da P ops b [] π=true):Ge P ops b π:=by
 obtain⟨hlen,hst⟩:=Ip h
 simp only[ZD]at hlen hst
 have parts:=fun(p i:Nat) (e:π[p]? = some i)=>by
  have:=hst p i e
  unfold Kj at this
  simpa only[Bool.and_eq_true,Bool.not_eq_true',Array.all_eq_true_iff_forall_mem,List.all_eq_true,Bool.or_eq_true]using this
 refine⟨hlen,?_,?_,?_,?_,?_,?_,?_⟩
 ·intro p i e
  have:=(parts p i e).1.1.1.1.1.1
  simpa[ZX]using this
 ·have one:∀p q i:Nat,π[p]? = some i→π[q]? = some i→q<p→False:=by
   intro p q i e1 e2 hlt
   have:=(parts p i e1).1.1.1.1.1.2
   have hm:i∈π.take p:=D7.2 ⟨q,hlt,e2⟩
   rw[List.contains_iff_mem.2 hm]at this
   cases this
  intro p q i e1 e2
  rcases Zw p q with h' | h' | h'
  ·exact(one q p i e2 e1 h').elim
  ·exact h'
  ·exact(one p q i e1 e2 h').elim
 ·intro p i o e ho ed hed hb
  have:=(parts p i e).1.1.1.2
  rw[Cc ho]at this
  rcases this ed hed with h' | h'
  ·rw[hb]at h';cases h'
  ·exact D7.1 (List.contains_iff_mem.1 h')
 ·intro p q i j o e1 e2 hlt ho he
  have:=(parts p i e1).1.1.2 j (D7.2 ⟨q,hlt,e2⟩)
  rw[Cc ho,he]at this
  exact this.resolve_left (by simp)
 ·intro p i o j w e ho hg
  have:=(parts p i e).1.2
  rw[Cc ho]at this
  exact this j (by simp[Nh,hg])
 ·intro p q i j o u d e1 e2 hlt ho hu hd
  have:=((parts p i e1).2 j (D7.2 ⟨q,hlt,e2⟩)).1
  rw[Cc ho,Cc hu,hd]at this
  simp only[Bool.and_eq_true,Bool.or_eq_true,Bool.not_eq_true',bne_iff_ne,ne_eq]at this
  refine⟨this.1,fun hm=>?_⟩
  rcases this.2 with h' | h'
  ·rw[List.contains_iff_mem.2 hm]at h';cases h'
  ·exact h'
 ·intro p q i j o u d e1 e2 hlt ho hu hd hm
  have:=((parts p i e1).2 j (D7.2 ⟨q,hlt,e2⟩)).2
  rw[Cc ho,Cc hu,hd]at this
  simp only[Bool.or_eq_true,Bool.not_eq_true']at this
  rcases this with h' | h'
  ·rw[List.contains_iff_mem.2 hm]at h';cases h'
  ·exact h'
theorem LY       : ∀ (m : Nat) (l : List Nat), l.Nodup → (∀ x ∈ l, x < m) → l.length ≤ m := by
  intro m
  induction m with
  | zero =>
    intro l _ h
    cases l with
    | nil=>simp
    | cons a l=>exact absurd (h a ZU) (by omega)
  | succ m ih =>
    intro l hn h
    by_cases hm:m∈l
    · have h1:=ih (l.erase m) (hn.erase m) (fun x hx=>by
        have hx:=(hn.mem_erase_iff).1 hx
        have:=h x hx.2
        have:=hx.1
        omega)
      rw[List.length_erase_of_mem hm]at h1
      omega
    · have:=ih l hn (fun x hx=>by
        have:=h x hx
        have:x≠m:=fun e=>hm (e▸hx)
        omega)
      omega
theorem Ge.onto     {P : Program} {ops : Array Oper} {b : Array Nat} {π : List Nat} (h : Ge     P ops b π) {i : Nat} (hi : i < ops.size) : ∃ p : Nat, π[p]? = some i := by
  have hn:π.Nodup:=by
    refine List.pairwise_iff_getElem.2 ?_
    intro p q hp hq hpq e
    have:=h.inj p q (π[q]) (by rw[ZP hp,e]) (ZP hq)
    omega
  by_cases hm:i∈π
  · exact List.mem_iff_getElem?.1 hm
  · have hn' : (i :: π).Nodup := Zn.2              ⟨hm, hn⟩
    have:=LY ops.size (i::π) hn' (fun x hx=>by
      rcases Zd.1 hx with rfl | hx
      · exact hi
      · obtain⟨p,hp⟩:=List.mem_iff_getElem?.1 hx
        exact h.lt p x hp)
    simp only[ZC,h.len]at this
    omega
structure JH where
 R:Nat→BI
 st:Nat→AE
 o:Nat→Oper
 sh:Nat→Sh
 want:Nat→Bool
 aS:Nat→List AV
 v:Nat→AV
structure PT(P:Program)(F:CY)(ops:Array Oper)(nt:Nat)(b:Array Nat)(π:List Nat)(D:JH):Prop where
 op:∀p i:Nat,π[p]? = some i→ops[i]? = some (D.o p)
 step:∀p,p<π.length→Hw P F ops nt (D.R p) (D.st p) (D.o p) (D.sh p) (D.want p) (D.aS p) (D.v p) (D.R (p+1)) (D.st (p+1))
 ag:∀p q i j:Nat,π[p]? = some i→π[q]? = some j→q<p→(D.sh p).isEff=true→D.want p=true→(D.sh q).isRead=true→(b.getD i 0).testBit j=false→D.want q=true →
  Db (D.sh q) (D.aS q) (D.st (p+1))=some (D.v q)
def Fd{α:Type}(a:α)(f:Nat→α):Nat→α
 | 0=>a
 | p+1=>f p
theorem TB       {P : Program} {F : CY}  {ops : Array Oper} {nt : Nat} {b : Array Nat} {l : List Nat} {m : List L5}  {R R2 : BI}   {s s2 : AE}  (h : Trace P F ops nt b true l m R s R2 s2) :
    ∃D:JH,PT P F ops nt b l D∧D.R 0=R∧D.st 0=s∧D.R l.length=R2∧D.st l.length=s2 ∧
      (∀p i:Nat,l[p]? = some i→(D.sh p).isEff=true→D.want p=true→∀r∈m,(b.getD i 0).testBit r.idx=false→r.want=true→Db r.sh r.aS (D.st (p+1))=some r.v):=by
  induction h with
  | nil =>
    rename_i m R s
    exact⟨⟨fun _=>R,fun _=>s,fun _=>default,fun _=>.callv,fun _=>false,fun _=>[],fun _=>A1⟩,
      ⟨by intro p i h;simp at h,by intro p h;simp at h,by intro p q i j h;simp at h⟩,rfl,rfl,rfl,rfl,by intro p i h;simp at h⟩
  | cons ho hs ag hl ih =>
    rename_i i l m R R1 R2 s s1 s2 o sh want aS v
    obtain⟨D,h1,h2,h3,h4,h5,h6⟩:=ih
    refine⟨⟨Fd R D.R,Fd s D.st,Fd o D.o,Fd sh D.sh,Fd want D.want,Fd aS D.aS,Fd v D.v⟩,⟨?_,?_,?_⟩,rfl,rfl,h4,h5,?_⟩
    · intro p j hp
      cases p with
      | zero=>simp at hp;subst hp;exact ho
      | succ p=>exact h1.op p j (by simpa using hp)
    · intro p hp
      cases p with
      | zero=>simp only[Fd,h2,h3];exact hs
      | succ p=>exact h1.step p (by simpa using hp)
    · intro p q j k hp hq hlt he hw hr ht hwq
      cases p with
      | zero=>omega
      | succ p =>
        cases q with
        | zero =>
          simp at hq
          subst hq
          simp only[Fd]at hr hwq he hw ⊢
          refine h6 p j (by simpa using hp) he hw ⟨i,sh,aS,v,want⟩ ?_ ht hwq
          rw[hr]
          exact ZU
        | succ q=>exact h1.ag p q j k (by simpa using hp) (by simpa using hq) (by omega) he hw hr ht hwq
    · intro p j hp he hw r hr ht hwr
      cases p with
      | zero =>
        simp at hp
        subst hp
        simp only[Fd,h3]at he hw ⊢
        exact ag rfl he hw r hr ht hwr
      | succ p =>
        refine h6 p j (by simpa using hp) he hw r ?_ ht hwr
        cases hb:(true && sh.isRead)with
        | true=>exact ZQ _ hr
        | false=>exact hr
theorem HT{sh:Sh}{aS:List AV}{s:AE}{v:AV}(h:Db sh aS s=some v):Gz sh aS s=some (v,s):=by
  cases sh with
  | r1 f =>
    cases aS with
    | nil=>cases h
    | cons a l =>
      cases l with
      | nil=>have h:f s a=some v:=h;simp[Gz,h,CW]
      | cons=>cases h
  | r f=>have h:f s aS=some v:=h;simp[Gz,h,CW]
  | _=>cases h
theorem HQ          {P : Program} {R : BI}   {o : Op} {sh : Sh} {xs : List Operand} {aS : List AV} {s s1 : AE}  {v : AV} (hsh : Aa      P o = some (sh, xs)) (he : Ch     R xs = some aS) (hr : sh.isRead = true) (h : Gz  sh aS s = some (v, s1)) :
    Db sh aS s=some v∧s1=s:=by
  have one:∀x:Operand,xs=[x]→∃a,aS=[a]:=by
    intro x e
    subst e
    simp only[Ch,ZA]at he
    obtain⟨a,_,r,hr,he⟩:=he
    injection hr with hr
    injection he with he
    subst hr
    exact⟨a,he.symm⟩
  cases sh with
  | r1 f =>
    have:∃x,xs=[x]:=by
      cases o<;>first | (simp[Aa]at hsh;done) | skip
      case binOp op t x y f =>
        simp only[Aa]at hsh
        split at hsh<;>(injection hsh with hsh;injection hsh with h1 h2;cases h1)
      case load t a=>injection hsh with hsh;injection hsh with h1 h2;exact⟨_,h2.symm⟩
      case convert src dst x=>injection hsh with hsh;injection hsh with h1 h2;exact⟨_,h2.symm⟩
      case makeMap t r=>cases r with
        | some _=>cases hsh
        | none=>obtain⟨_,hsh⟩:=AA hsh;injection hsh with hsh;injection hsh with h1 h2;cases h1
      case lookup=>obtain⟨_,hsh⟩:=AA hsh;injection hsh with hsh;injection hsh with h1 h2;cases h1
      case mapUpdate=>obtain⟨_,hsh⟩:=AA hsh;injection hsh with hsh;injection hsh with h1 h2;cases h1
      case insert=>obtain⟨_,hsh⟩:=AA hsh;injection hsh with hsh;injection hsh with h1 h2;cases h1
      case makeFunc fn first captured=>cases fn<;>first | (cases hsh;done) | (injection hsh with hsh;injection hsh with h1 h2;cases h1)
      case call c =>
        obtain⟨callee,args,argTypes⟩:=c
        simp only[Aa]at hsh
        split at hsh<;>first | (cases hsh;done) | (split at hsh<;>(cases hsh;done);done) | skip
        split at hsh<;>first | (cases hsh;done) | skip
        all_goals first | (split at hsh<;>cases hsh;done) | (split at hsh<;>first | (cases hsh;done) | (obtain⟨_,hsh⟩:=AA hsh;cases hsh;done))
    obtain⟨x,hx⟩:=this
    obtain⟨a,rfl⟩:=one x hx
    exact M2 h
  | r f=>exact Ji h
  | _=>cases hr
section
variable{P:Program}{ρ ρ1 ρ2:Aq}{s s1 s2:AE}{w w1 w2:World}{R:BI}{a:Act}{ops:Array Oper}{rnd:Option Nat}{Q:Exit→Act→World→Prop}
theorem Iy{F:CY}(h:Al P ρ s w)(hf:ρ s.next=none){nt i:Nat}{o:Oper}{sh:Sh}{want:Bool}{aS:List AV}{v:AV}{R1:BI}{K:Act→World→Prop}(ho:ops[i]? = some o)
  (hs:Hw P F ops nt R s o sh want aS v R1 s1) (hne:sh.isEff=false) (hr:DO ρ R a.tmps) (hnt:nt≤a.tmps.size)
  (hk:∀v' w' ρ',AJ ρ' v v'→Al P ρ' s1 w'→Fr ρ s w ρ' s1 w'→K (a.put o.dst v') w'):wpOpIn (LC rnd) 0 P ops Q i K a w:=by
 unfold wpOpIn
 rw[ho]
 simp only
 obtain⟨xs,hsh,has⟩:=hs.shape
 rw[Jn hr hs.wants]
 cases want with
 | true =>
  simp only[if_true]
  refine⟨fun _ _=>trivial,?_⟩
  rw[Oper.semAt_eq _ _ _ (Ja hsh)]
  have hl:Gz sh aS s=some (v,s1):=by
   have:=hs.yes rfl
   cases sh<;>first | exact this | cases hne
  exact JZ (Vg h hf (fun _=>rfl) hsh (Gv hr has) hl).next hk
 | false =>
  simp only[Bool.false_eq_true,if_false]
  refine⟨fun _ _=>trivial,?_⟩
  obtain⟨rfl,rfl⟩:=hs.no rfl
  exact hk undef w ρ (CD ρ) h (Fr.refl _ _ _)
theorem Ti{o:Op}{f:List AV→Option (AX×Made)}{xs:List Operand}{aS:List AV}{ob:AX}{m:Made}(hsh:Aa P o=some (.mk f,xs))(h:f aS=some (ob,m)):Fm ob=none:=by
 cases o<;>first | (simp[Aa]at hsh;done) | skip
 case binOp op t x y f =>
  simp only[Aa]at hsh
  split at hsh<;>(injection hsh with hsh;injection hsh with h1 h2;cases h1)
 case alloc e =>
  injection hsh with hsh;injection hsh with h1 h2;injection h1 with h1;subst h1
  simp only at h
  split at h<;>first | (cases h;done) | skip
  simp only[B2,ZA]at h
  obtain⟨z,_,h⟩:=h
  injection h with h;injection h with h h';subst h;rfl
 case box e x =>
  injection hsh with hsh;injection hsh with h1 h2;injection h1 with h1;subst h1
  simp only at h
  split at h<;>first | (cases h;done) | skip
  injection h with h;injection h with h h';subst h;rfl
 case buildSlice t len ps =>
  injection hsh with hsh;injection hsh with h1 h2;injection h1 with h1;subst h1
  simp only[ZA]at h
  obtain⟨r,hr,h⟩:=h
  injection h with h;injection h with h h';subst h
  unfold AW at hr
  split at hr<;>first | (cases hr;done) | skip
  simp only[ZA]at hr
  obtain⟨n,_,hr⟩:=hr
  obtain⟨_,hr⟩:=AA hr
  simp only[ZA]at hr
  obtain⟨z,_,hr⟩:=hr
  obtain⟨_,hr⟩:=AA hr
  simp only[ZA]at hr
  obtain⟨l,_,hr⟩:=hr
  injection hr with hr;subst hr;rfl
 case makeMap t r =>
  cases r with
  | some _=>cases hsh
  | none =>
   obtain⟨_,hsh⟩:=AA hsh
   injection hsh with hsh;injection hsh with h1 h2;injection h1 with h1;subst h1
   simp only at h
   split at h<;>first | (cases h;done) | skip
   simp only[ZA]at h
   obtain⟨kt,_,h⟩:=h
   injection h with h;injection h with h h';subst h;rfl
 case makeSlice t l c =>
  injection hsh with hsh;injection hsh with h1 h2;injection h1 with h1;subst h1
  unfold Xs at h
  split at h<;>first | (cases h;done) | skip
  unfold EL at h
  split at h<;>first | (cases h;done) | skip
  simp only[ZA]at h
  obtain⟨by_,_,n,_,h⟩:=h
  obtain⟨_,h⟩:=AA h
  simp only[ZA]at h
  obtain⟨z,_,h⟩:=h
  obtain⟨_,h⟩:=AA h
  injection h with h;injection h with h h';subst h;rfl
 case makeFunc fn first captured=>cases fn<;>first | (cases hsh;done) | (injection hsh with hsh;injection hsh with h1 h2;cases h1)
 case call c =>
  obtain⟨callee,args,argTypes⟩:=c
  simp only[Aa]at hsh
  split at hsh<;>first | (cases hsh;done) | (split at hsh<;>(cases hsh;done);done) | skip
  split at hsh<;>first | (cases hsh;done) | (split at hsh<;>first | (cases hsh;done) | (obtain⟨_,hsh⟩:=AA hsh;cases hsh;done))
 all_goals first | (cases hsh;done) | (obtain⟨_,hsh⟩:=AA hsh;cases hsh;done)
theorem Al.same(h:Al P ρ s w)(e:∀i rb,ρ i=some rb→s1.heap.get i=s.heap.get i)(hu:∀i o g,s1.heap.get i=some o→Fm o=some g→∃rb,ρ i=some rb):Al P ρ s1 w:=
  ⟨fun i o rb hi hr=>h.obj i o rb (by rw[← e i rb hr];exact hi) hr,h.lt,
   fun i j oi oj ri rj hne hi hj hri hrj=>h.sep i j oi oj ri rj hne (by rw[← e i ri hri];exact hi) (by rw[← e j rj hrj];exact hj) hri hrj,hu⟩
theorem EZ.same{b:Nat}(e:∀i rb,ρ i=some rb→s1.heap.get i=s.heap.get i)(h:EZ ρ s1 b):EZ ρ s b:=by
 obtain⟨i,o,rb,h1,h2,h3,h4⟩:=h
 exact⟨i,o,rb,by rw[← e i rb h3];exact h1,h2,h3,h4⟩
end
def Dn(π:List Nat)(listed:Array Bool)(p:Nat):Prop:=∃i:Nat,π[p]? = some i∧listed[i]? = some true
def Sh.isMk:Sh→Bool
 | .mk _=>true
 | _=>false
theorem Ms{P:Program}{ops:Array Oper}{b:Array Nat}{π:List Nat}(h:Da P ops b [] π=true):∀p i j:Nat,π[p]? = some i→j<ops.size→(b.getD i 0).testBit j=true→∃q:Nat,q<p∧π[q]? = some j:=by
 intro p i j hp hj ht
 have:=(Ip h).2 p i hp
 unfold Kj at this
 simp only[Bool.and_eq_true,List.all_eq_true,Bool.or_eq_true,Bool.not_eq_true']at this
 have:=this.1.1.1.1.2 j (List.mem_range.2 hj)
 rcases this with h' | h'
 ·rw[ht]at h';cases h'
 ·simpa using D7.1 (List.contains_iff_mem.1 h')
theorem PT.regs_at {P : Program} {F : CY}  {ops : Array Oper} {nt : Nat} {b : Array Nat} {π : List Nat} {D : JH}    (ht : PT P F ops nt b π D) : ∀ p, p ≤ π.length → ∀ t x, D.R p t = some x →
    (∃q,q<p∧(D.o q).dst=some t∧x=D.v q)∨((∀q,q<p→(D.o q).dst≠some t)∧D.R 0 t=some x):=by
  intro p
  induction p with
  | zero=>intro _ t x h;exact .inr ⟨fun q hq=>by omega,h⟩
  | succ p ih =>
    intro hp t x h
    rw[(ht.step p (by omega)).put]at h
    have old:D.R p t=some x→(D.o p).dst≠some t→(∃q,q<p+1∧(D.o q).dst=some t∧x=D.v q)∨((∀q,q<p+1→(D.o q).dst≠some t)∧D.R 0 t=some x):=by
      intro h hne
      rcases ih (by omega) t x h with⟨q,h1,h2,h3⟩ | ⟨h1,h2⟩
      · exact .inl ⟨q,by omega,h2,h3⟩
      · refine .inr ⟨fun q hq => ?_, h2⟩
        rcases ZO q p with h' | h'
        · exact h1 q h'
        · have:q=p:=by omega
          subst this;exact hne
    cases hd:(D.o p).dst with
    | none=>rw[hd]at h;exact old h (by rw[hd];simp)
    | some d =>
      rw[hd]at h
      by_cases e:t=d
      · subst e
        simp only[BI.put,if_true,Option.some.injEq]at h
        exact .inl ⟨p,by omega,hd,h.symm⟩
      · simp only[BI.put,if_neg e]at h
        exact old h (by rw[hd];intro e';injection e' with e';exact e e'.symm)
theorem GQ{R R':BI}:∀ {xs:List Operand},(∀t,Operand.tmp t∈xs→R' t=R t)→Ch R' xs=Ch R xs
 | [],_=>rfl
 | x::l,h=>by
  have h1:Li R' x=Li R x:=by
   cases x with
   | tmp t=>exact h t ZU
   | _=>rfl
  simp only[Ch,h1,GQ fun t ht=>h t (ZQ _ ht)]
structure DJ(P:Program)(ops:Array Oper)(b:Array Nat)(π:List Nat)(D:JH)(ρ0:Aq)(w0:World)(a0:Act)(listed:Array Bool)(k:Nat)(ρ:Aq)(a:Act)(w:World):Prop where
 lsz:listed.size=ops.size
 kle:k≤π.length
 dlt:∀p,Dn π listed p→p<k
 eff:∀p,p<k→(D.sh p).isEff=true→Dn π listed p
 anc:∀p i:Nat,π[p]? = some i→Dn π listed p→∀j:Nat,j<ops.size→(b.getD i 0).testBit j=true→listed[j]? = some true
 inv:Al P ρ (D.st k) w
 fresh:Av ρ (D.st k)
 fr:Fr ρ0 (D.st 0) w0 ρ (D.st k) w
 unb:∀p,p<k→¬ Dn π listed p→D.want p=true→∀f,D.sh p=.mk f→∃ob m,f (D.aS p)=some (ob,m)∧D.v p=m.val (D.st p).next∧ρ (D.st p).next=none ∧
  (D.st k).heap.get (D.st p).next=some ob∧(D.st 0).next≤(D.st p).next∧(D.st p).next<(D.st k).next
 dis:∀p q,p<q→q<k→¬ Dn π listed p→¬ Dn π listed q→D.want p=true→D.want q=true→(D.sh p).isMk=true→(D.sh q).isMk=true→(D.st p).next≠(D.st q).next
 rds:∀q,q<k→¬ Dn π listed q→D.want q=true→(D.sh q).isRead=true→Db (D.sh q) (D.aS q) (D.st k)=some (D.v q)
 sz:a.tmps.size=a0.tmps.size
 dfr:a.defers=a0.defers
 rw:∀p,Dn π listed p→∀d,(D.o p).dst=some d→AJ ρ (D.v p) (a.tmps.getD d undef)
 ri:∀t,(∀p,Dn π listed p→(D.o p).dst≠some t)→∀x,D.R 0 t=some x→AJ ρ x (a.tmps.getD t undef)
section
variable{P:Program}{F:CY}{ops:Array Oper}{nt:Nat}{b:Array Nat}{π:List Nat}{D:JH}{ρ0 ρ ρ1:Aq}{w0 w w1:World}{a0 a:Act}{listed:Array Bool}{k:Nat}{rnd:Option Nat}{Q:Exit→Act→World→Prop}
theorem DJ.adv1 (ht : PT P F ops nt b π D) (J : DJ P ops b π D ρ0 w0 a0 listed k ρ a w) (hk : k < π.length) (hne : (D.sh k).isEff = false) : DJ P ops b π D ρ0 w0 a0 listed (k + 1) ρ a w := by
  have hs:=ht.step k hk
  obtain⟨xs,hsh,has⟩:=hs.shape
  have lt1:∀p,Dn π listed p→p<k+1:=fun p h=>Zv (J.dlt p h)
  have eff1:∀p,p<k+1→(D.sh p).isEff=true→Dn π listed p:=by
    intro p hp he
    rcases ZO p k with h' | h'
    · exact J.eff p h' he
    · have:p=k:=by omega
      subst this;rw[he]at hne;cases hne
  have key:(D.st (k+1)=D.st k∧((D.sh k).isMk=true→D.want k=false)∧((D.sh k).isRead=true→D.want k=true→Db (D.sh k) (D.aS k) (D.st k)=some (D.v k))) ∨
      ∃f ob m,D.sh k=.mk f∧D.want k=true∧f (D.aS k)=some (ob,m)∧D.v k=m.val (D.st k).next∧D.st (k+1)=newObj (D.st k) ob:=by
    cases hw:D.want k with
    | false =>
      obtain⟨_,h2⟩:=hs.no hw
      exact .inl ⟨h2,fun _=>rfl,fun _ e=>by cases e⟩
    | true =>
      have hy:=hs.yes hw
      cases he:D.sh k with
      | p1 f =>
        rw[he]at hy
        have hy:Gz (.p1 f) (D.aS k) (D.st k)=some (D.v k,D.st (k+1)):=hy
        refine .inl ⟨?_,fun e=>(by cases e),fun e=>(by cases e)⟩
        simp only[Gz]at hy
        split at hy<;>first | (cases hy;done) | exact(BP hy).2
      | p2 f =>
        rw[he]at hy
        have hy:Gz (.p2 f) (D.aS k) (D.st k)=some (D.v k,D.st (k+1)):=hy
        refine .inl ⟨?_,fun e=>(by cases e),fun e=>(by cases e)⟩
        simp only[Gz]at hy
        split at hy<;>first | (cases hy;done) | exact(BP hy).2
      | p f=>rw[he]at hy;exact .inl ⟨(Iv (show Gz (.p f) _ _=_ from hy)).2,fun e=>(by cases e),fun e=>(by cases e)⟩
      | r1 f =>
        rw[he]at hy hsh
        have:=HQ hsh has rfl (show Gz (.r1 f) _ _=_ from hy)
        exact .inl ⟨this.2,fun e=>(by cases e),fun _ _=>this.1⟩
      | r f =>
        rw[he]at hy hsh
        have:=HQ hsh has rfl (show Gz (.r f) _ _=_ from hy)
        exact .inl ⟨this.2,fun e=>(by cases e),fun _ _=>this.1⟩
      | mk f =>
        rw[he]at hy
        obtain⟨ob,m,h1,h2,h3⟩:=G0 (show Gz (.mk f) _ _=_ from hy)
        exact .inr ⟨f,ob,m,rfl,rfl,h1,h2,h3⟩
      | e f=>rw[he]at hne;cases hne
      | call f=>rw[he]at hne;cases hne
      | callv=>rw[he]at hne;cases hne
  have ndk:¬ Dn π listed k:=fun h=>absurd (J.dlt k h) (Nat.lt_irrefl k)
  have split1:∀p,p<k+1→p<k∨p=k:=fun p h=>by omega
  rcases key with⟨e,hm,hrd⟩ | ⟨f,ob,m,he,hw,h1,h2,e⟩
  · refine ⟨J.lsz, hk, lt1, eff1, J.anc, by rw [e]; exact J.inv, by rw [e]; exact J.fresh, by rw [e]; exact J.fr, ?_, ?_, ?_, J.sz, J.dfr, J.rw, J.ri⟩
    · intro p hp hd hw f hf
      rcases split1 p hp with h' | rfl
      · rw[e];exact J.unb p h' hd hw f hf
      · rw[hm (by rw[hf];rfl)]at hw;cases hw
    · intro p q hpq hq d1 d2 w1 w2 m1 m2
      rcases split1 q hq with h' | rfl
      · exact J.dis p q hpq h' d1 d2 w1 w2 m1 m2
      · rw[hm m2]at w2;cases w2
    · intro q hq hd hw hr
      rw[e]
      rcases split1 q hq with h' | rfl
      · exact J.rds q h' hd hw hr
      · exact hrd hr hw
  · have hfr := J.fresh (D.st k).next (Y9          _)
    have hg:∀i,i≠(D.st k).next→(newObj (D.st k) ob).heap.get i=(D.st k).heap.get i:=fun i hi=>by rw[Ak,if_neg hi]
    have hsame:∀i rb,ρ i=some rb→(newObj (D.st k) ob).heap.get i=(D.st k).heap.get i:=fun i rb hi=>hg i (fun q=>by subst q;rw[hfr.1]at hi;cases hi)
    refine⟨J.lsz,hk,lt1,eff1,J.anc,?_,?_,?_,?_,?_,?_,J.sz,J.dfr,J.rw,J.ri⟩
    · rw [e]
      refine J.inv.same hsame fun i o g hi hgo=>?_
      by_cases ei:i=(D.st k).next
      · subst ei
        rw[Ak,if_pos rfl]at hi
        injection hi with hi
        subst hi
        obtain⟨xs,hsh,_⟩:=(ht.step k hk).shape
        rw[he]at hsh
        rw[Ti hsh h1]at hgo
        cases hgo
      · rw[hg i ei]at hi
        exact J.inv.glb i o g hi hgo
    · rw[e]
      intro i hi
      have hi:(D.st k).next+1≤i:=hi
      have:=J.fresh i (by omega)
      exact⟨this.1,by rw[hg i (by omega)];exact this.2⟩
    · rw [e]
      refine⟨J.fr.le,fun i hi h'=>J.fr.fresh i hi (h'.imp id fun(h'':(D.st k).next+1≤i)=>by omega),Nat.le_succ_of_le J.fr.next,J.fr.size,J.fr.os,J.fr.tape,J.fr.output,J.fr.keep,fun bb hb=>J.fr.own bb (hb.same hsame),?_⟩
      intro i hi h'
      have hn:i≠(D.st k).next:=by
        have:=J.fr.next
        rcases h' with h' | h'
        · omega
        · have h':(D.st k).next+1≤i:=h'
          omega
      rw[hg i hn]
      exact J.fr.unborn i hi (h'.imp id fun(h'':(D.st k).next+1≤i)=>by omega)
    · intro p hp hd hw' f' hf
      rw[e]
      rcases split1 p hp with h' | rfl
      · obtain⟨ob',m',g1,g2,g3,g4,g5,g6⟩:=J.unb p h' hd hw' f' hf
        exact⟨ob',m',g1,g2,g3,by rw[hg _ (by omega)];exact g4,g5,Zv g6⟩
      · rw[he]at hf
        injection hf with hf
        subst hf
        exact⟨ob,m,h1,h2,hfr.1,by rw[Ak,if_pos rfl],J.fr.next,Zs _⟩
    · intro p q hpq hq d1 d2 w1 w2 m1 m2
      rcases split1 q hq with h' | rfl
      · exact J.dis p q hpq h' d1 d2 w1 w2 m1 m2
      · cases hsp:D.sh p with
        | mk fp=>obtain⟨_,_,_,_,_,_,_,g6⟩:=J.unb p hpq d1 w1 fp hsp;omega
        | _=>rw[hsp]at m1;cases m1
    · intro q hq hd hw' hr
      rw[e]
      rcases split1 q hq with h' | rfl
      · obtain⟨xq,hq1,_⟩:=(ht.step q (by omega)).shape
        exact PD (AE.sub_new hfr.2 ob) hq1 (J.rds q h' hd hw' hr)
      · rw[he]at hr;cases hr
theorem DJ.adv(ht:PT P F ops nt b π D):∀ (n k:Nat),n=π.length - k→DJ P ops b π D ρ0 w0 a0 listed k ρ a w→∃k',DJ P ops b π D ρ0 w0 a0 listed k' ρ a w∧(k'=π.length∨(D.sh k').isEff=true):=by
 intro n
 induction n with
 | zero=>intro k hn J;exact⟨k,J,.inl (by have:=J.kle;omega)⟩
 | succ n ih =>
  intro k hn J
  cases he:(D.sh k).isEff with
  | true=>exact⟨k,J,.inr he⟩
  | false=>exact ih (k+1) (by omega) (J.adv1 ht (by omega) he)
theorem V8(hp:Ge P ops b π){p i q:Nat}(hi:π[p]? = some i)(hl:listed.size=ops.size):Dn π (listed.setIfInBounds i true) q↔Dn π listed q∨q=p:=by
  have hlt:=hp.lt p i hi
  constructor
  · rintro⟨j,h1,h2⟩
    by_cases e:j=i
    · subst e;exact .inr (hp.inj q p j h1 hi)
    · rw[Array.getElem?_setIfInBounds_ne (Ne.symm e)]at h2
      exact .inl ⟨j,h1,h2⟩
  · rintro (⟨j, h1, h2⟩ | rfl)
    · refine⟨j,h1,?_⟩
      by_cases e:j=i
      · subst e;simp[hl,hlt]
      · rw[Array.getElem?_setIfInBounds_ne (Ne.symm e)];exact h2
    · exact⟨i,hi,by simp[hl,hlt]⟩
theorem Jg{a:Act}{d' d:Tmp}{v:Value}(h:d'≠d):(a.put (some d') v).tmps.getD d undef=a.tmps.getD d undef:=by
 simp[Act.put,Array.getD_eq_getD_getElem?,Array.getElem?_setIfInBounds_ne h]
theorem DJ.put (ht : PT P F ops nt b π D) (hp : Ge     P ops b π) (hnt : nt ≤ a0.tmps.size) (J : DJ P ops b π D ρ0 w0 a0 listed k ρ a w) {p i k' : Nat} (hi : π[p]? = some i) (hnd : ¬ Dn π listed p) (hpk : p < k') (hkk : k ≤ k') (hk'' : ∀ q, q < k' → q = p ∨ q < k) (hkn : k' ≤ π.length)
    (hanc:∀j:Nat,j<ops.size→(b.getD i 0).testBit j=true→listed[j]? = some true) {v':Value} (hv:AJ ρ1 (D.v p) v') (le:ρ.le ρ1)
    (inv:Al P ρ1 (D.st k') w1) (fresh:Av ρ1 (D.st k')) (fr:Fr ρ0 (D.st 0) w0 ρ1 (D.st k') w1)
    (unb:∀q,q<k→q≠p→¬ Dn π listed q→D.want q=true→∀f,D.sh q=.mk f→ρ1 (D.st q).next=none∧(D.st k').heap.get (D.st q).next=(D.st k).heap.get (D.st q).next∧(D.st q).next<(D.st k').next)
    (rds:∀q,q<k→q≠p→¬ Dn π listed q→D.want q=true→(D.sh q).isRead=true→Db (D.sh q) (D.aS q) (D.st k')=some (D.v q)):
    DJ P ops b π D ρ0 w0 a0 (listed.setIfInBounds i true) k' ρ1 (a.put (D.o p).dst v') w1:=by
  have hlt:=hp.lt p i hi
  have hpl:p<π.length:=by omega
  have dn:=fun q=>V8 (listed:=listed) (q:=q) hp hi J.lsz
  have up:∀j:Nat,listed[j]? = some true→(listed.setIfInBounds i true)[j]? = some true:=by
    intro j h
    by_cases e:j=i
    · subst e;simp[J.lsz,hlt]
    · rw[Array.getElem?_setIfInBounds_ne (Ne.symm e)];exact h
  have uniq:∀q r d,q<r→r<π.length→(D.o q).dst=some d→(D.o r).dst=some d→False:=by
    intro q r d hqr hr h1 h2
    have hr':=ZP hr
    have hq':=ZP (show q<π.length by omega)
    exact(hp.wdst r q _ _ _ _ d hr' hq' hqr (ht.op r _ hr') (ht.op q _ hq') h2).1 h1
  have nd:∀q,¬ Dn π (listed.setIfInBounds i true) q→¬ Dn π listed q∧q≠p:=fun q h=>⟨fun h'=>h ((dn q).2 (.inl h')),fun h'=>h ((dn q).2 (.inr h'))⟩
  refine⟨by simp[J.lsz],hkn,?_,?_,?_,inv,fresh,fr,?_,?_,?_,by rw[Dt];exact J.sz,by rw[Ir];exact J.dfr,?_,?_⟩
  · intro q hq
    rcases(dn q).1 hq with h' | rfl
    · exact ZS (J.dlt q h') hkk
    · exact hpk
  · intro q hq he
    rcases hk'' q hq with rfl | h'
    · exact(dn q).2 (.inr rfl)
    · exact(dn q).2 (.inl (J.eff q h' he))
  · intro q j hj hq l hl hb
    rcases(dn q).1 hq with h' | rfl
    · exact up l (J.anc q j hj h' l hl hb)
    · rw[hi]at hj
      injection hj with hj
      subst hj
      exact up l (hanc l hl hb)
  · intro q hq hd hw f hf
    obtain⟨d1,d2⟩:=nd q hd
    have hqk:=(hk'' q hq).resolve_left d2
    obtain⟨ob,m,g1,g2,g3,g4,g5,g6⟩:=J.unb q hqk d1 hw f hf
    obtain⟨u1,u2,u3⟩:=unb q hqk d2 d1 hw f hf
    exact⟨ob,m,g1,g2,u1,by rw[u2];exact g4,g5,u3⟩
  · intro q r hqr hr d1 d2 w1 w2 m1 m2
    obtain⟨d1,e1⟩:=nd q d1
    obtain⟨d2,e2⟩:=nd r d2
    exact J.dis q r hqr ((hk'' r hr).resolve_left e2) d1 d2 w1 w2 m1 m2
  · intro q hq hd hw hr
    obtain⟨d1,d2⟩:=nd q hd
    exact rds q ((hk'' q hq).resolve_left d2) d2 d1 hw hr
  · intro q hq d hd
    rcases(dn q).1 hq with h' | rfl
    · have hqn : q < π.length := ZS                 (J.dlt q h') J.kle
      have hne:(D.o p).dst≠some d:=by
        intro e
        rcases Zw q p with h'' | h'' | h''
        · exact uniq q p d h'' hpl hd e
        · subst h'';exact hnd h'
        · exact uniq p q d h'' hqn e hd
      have:=(J.rw q h' d hd).mono le
      cases hdp:(D.o p).dst with
      | none=>exact this
      | some d' =>
        rw[Jg fun e=>hne (by rw[hdp,e])]
        exact this
    · have hd':d<a.tmps.size:=by
        rw[J.sz];exact ZS ((ht.step q hpl).lt d hd) hnt
      rw[hd]
      simpa[Act.put,Array.getD_eq_getD_getElem?,hd']using hv
  · intro t hq x hx
    have hne:(D.o p).dst≠some t:=hq p ((dn p).2 (.inr rfl))
    have:=(J.ri t (fun q h'=>hq q ((dn q).2 (.inl h'))) x hx).mono le
    cases hdp:(D.o p).dst with
    | none=>exact this
    | some d' =>
      rw[Jg fun e=>hne (by rw[hdp,e])]
      exact this
end
section
variable{P:Program}{F:CY}{ops:Array Oper}{nt:Nat}{b:Array Nat}{π:List Nat}{D:JH}{ρ0 ρ ρ1:Aq}{w0 w w1:World}{a0 a:Act}{listed:Array Bool}{k:Nat}{rnd:Option Nat}{Q:Exit→Act→World→Prop}
theorem DJ.ahead(hp:Ge P ops (Region.before ops) π)(J:DJ P ops (Region.before ops) π D ρ0 w0 a0 listed k ρ a w){p i:Nat}(hi:π[p]? = some i){o:Oper}(ho:ops[i]? = some o)
  (hr:∀e∈o.after,Region.binds .any e=true→listed.getD e.on false=true):∀j:Nat,j<ops.size→((Region.before ops).getD i 0).testBit j=true→listed[j]? = some true:=by
 intro j hj ht
 have lst:∀x:Nat,listed.getD x false=true→listed[x]? = some true:=by
  intro x hx
  rw[Array.getD_eq_getD_getElem?]at hx
  cases h:listed[x]? with
  | none=>rw[h]at hx;cases hx
  | some v=>rw[h]at hx;simp at hx;rw[hx]
 obtain⟨o',ho',e,he,hb,h'⟩:=Kw ops i j ht
 rw[ho]at ho'
 injection ho' with ho'
 subst ho'
 have hl:=lst _ (hr e he hb)
 rcases h' with rfl | h'
 ·exact hl
 ·obtain⟨q,_,hq⟩:=hp.edge p i o hi ho e he hb
  exact J.anc q e.on hq ⟨e.on,hq,hl⟩ j hj h'
def LV(P:Program)(ops:Array Oper)(o:Oper)(t:Tmp):Prop:=t∈EM P o∨∃ (j:Nat)(want:Bool)(u:Oper),o.guard=some (j,want)∧ops[j]? = some u∧u.dst=some t
open Classical in
def HU (P:Program) (ops:Array Oper) (o:Oper) (R:BI):BI:=fun t=>if LV P ops o t then R t else none
theorem Lx{o:Oper}{R:BI}{t:Tmp}(h:LV P ops o t):HU P ops o R t=R t:=by unfold HU;rw[if_pos h]
theorem M8{o:Oper}{R:BI}:Ga ops (HU P ops o R) o=Ga ops R o:=by
 unfold Ga
 cases hg:o.guard with
 | none=>rfl
 | some g =>
  obtain⟨j,want⟩:=g
  simp only
  cases hj:ops[j]? with
  | none=>rfl
  | some u =>
   cases hd:u.dst with
   | none=>simp[hd]
   | some d=>simp only[Option.bind_some,hd];rw[Lx (.inr ⟨j,want,u,hg,hj,hd⟩)]
theorem DJ.view (ht : PT P F ops nt (Region.before ops) π D) (hpl : Da     P ops (Region.before ops) [] π = true) (hr0 : DO   ρ0 (D.R 0) a0.tmps) (hnt : nt ≤ a0.tmps.size)
    (J:DJ P ops (Region.before ops) π D ρ0 w0 a0 listed k ρ a w) {p i:Nat} (hi:π[p]? = some i) (hnd:¬ Dn π listed p)
    (hanc:∀j:Nat,j<ops.size→((Region.before ops).getD i 0).testBit j=true→listed[j]? = some true):DO ρ (HU P ops (D.o p) (D.R p)) a.tmps:=by
  have hp:=Gr hpl
  have hlt:=hp.lt p i hi
  have hpn:p<π.length:=by
    rcases ZO p π.length with h' | h'
    · exact h'
    · rw[ZT h']at hi;cases hi
  have hoi:=ht.op p i hi
  have place:∀ (q:Nat) (h:q<π.length),π[q]? = some π[q]:=fun q hq=>ZP hq
  have uniq:∀q r d,q<π.length→r<π.length→(D.o q).dst=some d→(D.o r).dst=some d→q=r:=by
    have one:∀q r d,q<r→r<π.length→(D.o q).dst=some d→(D.o r).dst=some d→False:=by
      intro q r d hqr hr h1 h2
      exact(hp.wdst r q _ _ _ _ d (place r hr) (place q (by omega)) hqr (ht.op r _ (place r hr)) (ht.op q _ (place q (by omega))) h2).1 h1
    intro q r d hq hr h1 h2
    rcases Zw q r with h' | h' | h'
    · exact(one q r d h' hr h1 h2).elim
    · exact h'
    · exact(one r q d h' hq h2 h1).elim
  intro t x hx
  unfold HU at hx
  split at hx
  · rename_i hn
    have gd:∀ (j:Nat) (want:Bool) (u:Oper),(D.o p).guard=some (j,want)→ops[j]? = some u→u.dst=some t→∃q,q<p∧Dn π listed q∧(D.o q).dst=some t:=by
      intro j want u h1 h2 h3
      have hj:j<ops.size:=by
        rcases ZO j ops.size with h' | h'
        · exact h'
        · rw[Array.getElem?_eq_none h']at h2;cases h2
      have hb:=hp.guard p i (D.o p) j want hi hoi h1
      obtain⟨q,hqp,hq⟩:=Ms hpl p i j hi hj hb
      refine⟨q,hqp,⟨j,hq,hanc j hj hb⟩,?_⟩
      have:=ht.op q j hq
      rw[h2]at this
      injection this with this
      rw[← this];exact h3
    have fin:∀ {y:AV},AJ ρ y (a.tmps.getD t undef)→t<a0.tmps.size→t<a.tmps.size∧AJ ρ y (a.tmps.getD t undef):=fun h1 h2=>⟨by rw[J.sz];exact h2,h1⟩
    rcases ht.regs_at p (Nat.le_of_lt hpn) t x hx with⟨q,hq,hd,rfl⟩ | ⟨hno,h0⟩
    · have hqn : q < π.length := by omega
      have dq:Dn π listed q:=by
        rcases hn with hn | ⟨j,want,u,h1,h2,h3⟩
        · have hb:=hp.rdst p q i _ _ _ t hi (place q hqn) hq hoi (ht.op q _ (place q hqn)) hd hn
          exact⟨π[q],place q hqn,hanc _ (hp.lt q _ (place q hqn)) hb⟩
        · obtain⟨r,hr1,hr2,hr3⟩:=gd j want u h1 h2 h3
          have:=uniq q r t hqn (by omega) hd hr3
          subst this;exact hr2
      exact fin (J.rw q dq t hd) (ZS ((ht.step q hqn).lt t hd) hnt)
    · refine fin (J.ri t ?_ x h0) (hr0 t x h0).1
      intro q dq hd
      have hqn:q<π.length:=ZS (J.dlt q dq) J.kle
      have hpq:p<q:=by
        rcases Zw q p with h' | h' | h'
        · exact absurd hd (hno q h')
        · subst h';exact absurd dq hnd
        · exact h'
      rcases hn with hn | ⟨j,want,u,h1,h2,h3⟩
      · have hb:=(hp.wdst q p _ i _ _ t (place q hqn) hi hpq (ht.op q _ (place q hqn)) hoi hd).2 hn
        exact hnd ⟨i,hi,J.anc q _ (place q hqn) dq i hlt hb⟩
      · obtain⟨r,hr1,hr2,hr3⟩:=gd j want u h1 h2 h3
        exact absurd hr3 (hno r hr1)
  · cases hx
theorem J6{o:Oper}{sh:Sh}{xs:List Operand}(h:Aa P o.op=some (sh,xs)):K9 P o=sh.isEff:=by unfold K9;rw[h]
theorem DJ.run (hF : TN  P F) (ht : PT P F ops nt (Region.before ops) π D) (hpl : Da     P ops (Region.before ops) [] π = true) (hr0 : DO   ρ0 (D.R 0) a0.tmps) (hnt : nt ≤ a0.tmps.size)
    (J:DJ P ops (Region.before ops) π D ρ0 w0 a0 listed k ρ a w) (htop:k=π.length∨(D.sh k).isEff=true) {p i:Nat} (hi:π[p]? = some i) (hnd:¬ Dn π listed p)
    (hanc:∀j:Nat,j<ops.size→((Region.before ops).getD i 0).testBit j=true→listed[j]? = some true) {K:Act→World→Prop}
    (hK:∀k' ρ' a' w',DJ P ops (Region.before ops) π D ρ0 w0 a0 (listed.setIfInBounds i true) k' ρ' a' w'→K a' w'):wpOpIn (LC rnd) 0 P ops Q i K a w:=by
  have hp:=Gr hpl
  have hpn:p<π.length:=by
    rcases ZO p π.length with h' | h'
    · exact h'
    · rw[ZT h']at hi;cases hi
  have place:∀ (q:Nat) (h:q<π.length),π[q]? = some π[q]:=fun q hq=>ZP hq
  have hoi:=ht.op p i hi
  have hs:=ht.step p hpn
  obtain⟨xs,hsh,has⟩:=hs.shape
  have hv:=J.view ht hpl hr0 hnt hi hnd hanc
  have hkp:p≤k:=by
    rcases ZO k p with h' | h'
    · have hkn : k < π.length := by omega
      have he:(D.sh k).isEff=true:=htop.resolve_left (by omega)
      obtain⟨xk,hk1,_⟩:=(ht.step k hkn).shape
      have hb:=hp.eff p k i _ _ hi (place k hkn) h' (ht.op k _ (place k hkn)) (by rw[J6 hk1];exact he)
      have:=J.dlt k ⟨π[k],place k hkn,hanc _ (hp.lt k _ (place k hkn)) hb⟩
      omega
    · exact h'
  have hno:p<k→(D.sh p).isEff=false:=fun h'=>by
    cases he:(D.sh p).isEff with
    | false=>rfl
    | true=>exact absurd (J.eff p h' he) hnd
  have hnt':nt≤a.tmps.size:=by rw[J.sz];exact hnt
  have has':Ch (HU P ops (D.o p) (D.R p)) xs=some (D.aS p):=by
    rw[GQ fun t htx=>Lx (.inl (Ow hsh htx))];exact has
  have sok:∀ {s s1:AE},(D.want p=true→TL F (D.sh p) (D.aS p) s=some (D.v p,s1))→(D.want p=false→s1=s) →
      Hw P F ops nt (HU P ops (D.o p) (D.R p)) s (D.o p) (D.sh p) (D.want p) (D.aS p) (D.v p) ((HU P ops (D.o p) (D.R p)).put (D.o p).dst (D.v p)) s1:=fun h1 h2 =>
    ⟨⟨xs,hsh,has'⟩,by rw[M8];exact hs.wants,rfl,hs.lt,h1,fun hw=>⟨(hs.no hw).1,h2 hw⟩⟩
  rcases ZO p k with hlt | hge
  ·
    have hne:=hno hlt
    have same:∀ {v':Value} {w':World} {ρ':Aq},AJ ρ' (D.v p) v'→Al P ρ' (D.st k) w'→Fr ρ (D.st k) w ρ' (D.st k) w'→K (a.put (D.o p).dst v') w':=by
      intro v' w' ρ' h1 h2 h3
      refine hK k ρ' _ w' (J.put ht hp hnt hi hnd hlt (Y9 k) (fun q hq=>.inr hq) J.kle hanc h1 h3.le h2 (J.fresh.step h3) (J.fr.trans h3) ?_ ?_)
      · intro q hq _ hd hw f hf
        obtain⟨ob,m,g1,g2,g3,g4,g5,g6⟩:=J.unb q hq hd hw f hf
        exact⟨h3.fresh _ g3 (.inl g6),rfl,g6⟩
      · intro q hq _ hd hw hr
        exact J.rds q hq hd hw hr
    have quiet:(D.want p=true→TL F (D.sh p) (D.aS p) (D.st k)=some (D.v p,D.st k))→wpOpIn (LC rnd) 0 P ops Q i K a w:=fun hy =>
      Iy J.inv (J.fresh _ (Y9 _)).1 hoi (sok hy fun _=>rfl) hne hv hnt' fun v' w' ρ' h1 h2 h3=>same h1 h2 h3
    cases hw:D.want p with
    | false=>exact quiet (fun e=>by rw[hw]at e;cases e)
    | true =>
      have hy:=hs.yes hw
      cases he:D.sh p with
      | p1 f =>
        refine quiet fun _=>?_
        rw[he]at hy ⊢
        simp only[TL,Gz]at hy ⊢
        split at hy<;>first | (cases hy;done) | (rw[(BP hy).1];rfl)
      | p2 f =>
        refine quiet fun _=>?_
        rw[he]at hy ⊢
        simp only[TL,Gz]at hy ⊢
        split at hy<;>first | (cases hy;done) | (rw[(BP hy).1];rfl)
      | p f =>
        refine quiet fun _=>?_
        rw[he]at hy ⊢
        simp only[TL,Gz]at hy ⊢
        rw[(BP hy).1];rfl
      | r1 f =>
        refine quiet fun _=>?_
        have:=HT (J.rds p hlt hnd hw (by rw[he];rfl))
        rw[he]at this ⊢
        exact this
      | r f =>
        refine quiet fun _=>?_
        have:=HT (J.rds p hlt hnd hw (by rw[he];rfl))
        rw[he]at this ⊢
        exact this
      | mk f =>
        obtain⟨ob,m,g1,g2,g3,g4,g5,g6⟩:=J.unb p hlt hnd hw f he
        let s':AE:={ next:=(D.st p).next,heap:=(D.st k).heap }
        have hinv:Al P ρ s' w:=J.inv.same (fun _ _ _=>rfl) J.inv.glb
        have hsame:∀x,(newObj s' ob).heap.get x=(D.st k).heap.get x:=by
          intro x
          rw[Ak]
          by_cases e:x=s'.next
          · rw[if_pos e,e];exact g4.symm
          · rw[if_neg e]
        refine Iy hinv g3 hoi (sok (s1:=newObj s' ob) (fun _=>?_) (fun e=>by rw[hw]at e;cases e)) hne hv hnt' ?_
        · rw[he]
          simp only[TL,Gz,g1,LT,g2]
          rfl
        · intro v' w' ρ' h1 h2 h3
          have h2':Al P ρ' (D.st k) w':=h2.same (fun x _ _=>(hsame x).symm) fun i o g hi hgo=>let ⟨r,hr⟩:=J.inv.glb i o g hi hgo;⟨r,h3.le _ _ hr⟩
          have hid:(D.st p).next+1≤(D.st k).next:=g6
          refine hK k ρ' _ w' (J.put ht hp hnt hi hnd hlt (Y9 k) (fun q hq=>.inr hq) J.kle hanc h1 h3.le h2' ?_ ?_ ?_ ?_)
          · intro x hx
            have:=J.fresh x hx
            exact⟨h3.fresh x this.1 (.inr (show(D.st p).next+1≤x by omega)),this.2⟩
          · refine ⟨Aq.le_trans  J.fr.le h3.le, ?_, J.fr.next, Za           J.fr.size h3.size, h3.os.trans J.fr.os, h3.tape.trans J.fr.tape, h3.output.trans J.fr.output, ?_, ?_, J.fr.unborn⟩
            · intro x hx h'
              refine h3.fresh x (J.fr.fresh x hx h') ?_
              rcases h' with h' | h'
              · exact .inl (show x<(D.st p).next by omega)
              · exact .inr (show(D.st p).next+1≤x by omega)
            · intro bb hb ho
              have hb':bb<w.heap.size:=ZS hb J.fr.size
              refine(h3.keep bb hb' ?_).trans (J.fr.keep bb hb ho)
              intro ho'
              have ho'':EZ ρ (D.st k) bb:=ho'
              exact(J.fr.own bb ho'').elim ho (fun hge=>by omega)
            · intro bb hb
              have hb':EZ ρ' (newObj s' ob) bb:=hb.same fun x _ _=>(hsame x).symm
              rcases h3.own bb hb' with h' | h'
              · exact J.fr.own bb h'
              · exact .inr (Za J.fr.size h')
          · intro q hq hqp hd hwq fq hfq
            obtain⟨_,_,_,_,u3,_,_,u6⟩:=J.unb q hq hd hwq fq hfq
            have hne':(D.st q).next≠(D.st p).next:=by
              rcases Zw q p with h' | h' | h'
              · exact J.dis q p h' hlt hd hnd hwq hw (by rw[hfq];rfl) (by rw[he];rfl)
              · exact absurd h' hqp
              · exact(J.dis p q h' hq hnd hd hw hwq (by rw[he];rfl) (by rw[hfq];rfl)).symm
            refine⟨h3.fresh _ u3 ?_,rfl,u6⟩
            rcases Nat.lt_or_gt_of_ne hne' with h' | h'
            · exact .inl h'
            · exact .inr h'
          · intro q hq _ hd hwq hr
            exact J.rds q hq hd hwq hr
      | e f=>rw[he]at hne;cases hne
      | call f=>rw[he]at hne;cases hne
      | callv=>rw[he]at hne;cases hne
  ·
    have hpk:p=k:=by omega
    subst hpk
    have hkn:p<π.length:=hpn
    have he:(D.sh p).isEff=true:=htop.resolve_left (by omega)
    refine OE hF J.inv J.fresh hoi (sok (s1:=D.st (p+1)) hs.yes (fun e=>(hs.no e).2)) hv hnt' ?_
    intro v' w' ρ' h1 h2 h3
    refine hK (p+1) ρ' _ w' (J.put ht hp hnt hi hnd (Zs p) (Nat.le_succ p) (fun q hq=>by omega) hkn hanc h1 h3.le h2 (J.fresh.step h3) (J.fr.trans h3) ?_ ?_)
    · intro q hq _ hd hw f hf
      obtain⟨ob,m,g1,g2,g3,g4,g5,g6⟩:=J.unb q hq hd hw f hf
      exact⟨h3.fresh _ g3 (.inl g6),h3.unborn _ g3 (.inl g6),ZS g6 h3.next⟩
    · intro q hq _ hd hw hr
      have hqn:q<π.length:=by omega
      cases hwp:D.want p with
      | false=>rw[(hs.no hwp).2];exact J.rds q hq hd hw hr
      | true =>
        refine ht.ag p q i _ hi (place q hqn) hq he hwp hr ?_ hw
        cases hb:((Region.before ops).getD i 0).testBit π[q]with
        | false=>rfl
        | true=>exact absurd ⟨π[q],place q hqn,hanc _ (hp.lt q _ (place q hqn)) hb⟩ hd
theorem DJ.any (hF : TN  P F) (ht : PT P F ops nt (Region.before ops) π D) (hpl : Da     P ops (Region.before ops) [] π = true) (hr0 : DO   ρ0 (D.R 0) a0.tmps) (hnt : nt ≤ a0.tmps.size)
    (hq:∀a' w' ρ',Al P ρ' (D.st π.length) w'→Av ρ' (D.st π.length)→Fr ρ0 (D.st 0) w0 ρ' (D.st π.length) w'→DO ρ' (D.R π.length) a'.tmps→a'.tmps.size=a0.tmps.size→a'.defers=a0.defers→Q .normal a' w'):
    ∀ (fuel:Nat) (listed:Array Bool) (k:Nat) (ρ:Aq) (a:Act) (w:World),DJ P ops (Region.before ops) π D ρ0 w0 a0 listed k ρ a w→(∀l:List Nat,l.Nodup→(∀i∈l,listed[i]? = some false)→l.length≤fuel) →
      wpAnyIn (LC rnd) 0 P .any ops Q fuel listed a w:=by
  have hp:=Gr hpl
  have place:∀ (q:Nat) (h:q<π.length),π[q]? = some π[q]:=fun q hq=>ZP hq
  have bool:∀ {listed:Array Bool} {i:Nat},i<listed.size→listed[i]?≠some true→listed[i]? = some false:=by
    intro listed i hi h
    rw[Array.getElem?_eq_getElem hi]at h ⊢
    cases hb:listed[i]with
    | true=>rw[hb]at h;exact absurd rfl h
    | false=>rfl
  have all:∀ {listed:Array Bool} {k:Nat} {ρ:Aq} {a:Act} {w:World},DJ P ops (Region.before ops) π D ρ0 w0 a0 listed k ρ a w→Region.ready .any ops listed=[]→∀p,p<π.length→Dn π listed p:=by
    intro listed k ρ a w J hr p
    induction p using Nat.strongRecOn with
    | ind p ih =>
      intro hpn
      refine Classical.byContradiction fun hnd=>?_
      have hi:=place p hpn
      have hlt:=hp.lt p _ hi
      have hoi:=ht.op p _ hi
      have hf:listed[π[p]]? = some false:=bool (by rw[J.lsz];exact hlt) fun h=>hnd ⟨_,hi,h⟩
      have hm:π[p]∈Region.ready .any ops listed:=by
        refine mem_ready.2 ⟨by simp[Array.getD_eq_getD_getElem?,hf],D.o p,hoi,?_⟩
        intro e he hb
        obtain⟨q,hqp,hq'⟩:=hp.edge p _ _ hi hoi e he hb
        obtain⟨j,hj,hl⟩:=ih q hqp (by omega)
        rw[hq']at hj
        injection hj with hj
        subst hj
        simp[Array.getD_eq_getD_getElem?,hl]
      rw[hr]at hm
      cases hm
  have done:∀ {listed:Array Bool} {k:Nat} {ρ:Aq} {a:Act} {w:World},DJ P ops (Region.before ops) π D ρ0 w0 a0 listed k ρ a w→Region.ready .any ops listed=[]→Q .normal a w:=by
    intro listed k ρ a w J hr
    have hall:=all J hr
    have hk:k=π.length:=by
      rcases ZO k π.length with h' | h'
      · have:=J.dlt k (hall k h');omega
      · have:=J.kle;omega
    subst hk
    refine hq a w ρ J.inv J.fresh J.fr ?_ J.sz J.dfr
    intro t x hx
    rcases ht.regs_at π.length (Y9 _) t x hx with⟨q,hqn,hd,rfl⟩ | ⟨hno,h0⟩
    · exact⟨by rw[J.sz];exact ZS ((ht.step q hqn).lt t hd) hnt,J.rw q (hall q hqn) t hd⟩
    · exact⟨by rw[J.sz];exact(hr0 t x h0).1,J.ri t (fun q dq=>hno q (J.dlt q dq)) x h0⟩
  intro fuel
  induction fuel with
  | zero =>
    intro listed k ρ a w J hfu
    have hr:Region.ready .any ops listed=[]:=by
      cases hr:Region.ready .any ops listed with
      | nil=>rfl
      | cons i l =>
        have hm:i∈Region.ready .any ops listed:=by rw[hr];exact ZU
        obtain⟨h1,o,ho,_⟩:=mem_ready.1 hm
        have hlt:i<ops.size:=by
          rcases ZO i ops.size with h' | h'
          · exact h'
          · rw[Array.getElem?_eq_none h']at ho;cases ho
        have:=hfu [i] (by simp) (fun j hj=>by
          have:j=i:=by simpa using hj
          subst this
          refine bool (by rw[J.lsz];exact hlt) fun h=>?_
          simp[Array.getD_eq_getD_getElem?,h]at h1)
        simp at this
    exact⟨hr,done J hr⟩
  | succ fuel ih =>
    intro listed k ρ a w J hfu
    obtain⟨k,J,htop⟩:=J.adv ht _ k rfl
    refine⟨done J,fun i hm=>?_⟩
    obtain⟨h1,o,ho,hr⟩:=mem_ready.1 hm
    have hlt:i<ops.size:=by
      rcases ZO i ops.size with h' | h'
      · exact h'
      · rw[Array.getElem?_eq_none h']at ho;cases ho
    obtain⟨p,hi⟩:=hp.onto hlt
    have hf:listed[i]?≠some true:=fun h=>by simp[Array.getD_eq_getD_getElem?,h]at h1
    have hnd:¬ Dn π listed p:=fun⟨j,hj,hl⟩=>by
      rw[hi]at hj
      injection hj with hj
      subst hj
      exact hf hl
    refine J.run hF ht hpl hr0 hnt htop hi hnd (J.ahead hp hi ho hr) ?_
    intro k' ρ' a' w' J'
    refine ih _ k' ρ' a' w' J' ?_
    intro l hn hl
    have hil:i ∉ l:=fun h=>by
      have:=hl i h
      simp[J.lsz,hlt]at this
    have:=hfu (i::l) (Zn.2 ⟨hil,hn⟩) (fun j hj=>by
      rcases Zd.1 hj with rfl | hj
      · exact bool (by rw[J.lsz];exact hlt) hf
      · have:=hl j hj
        rw[Array.getElem?_setIfInBounds_ne (fun e=>hil (by rw[e];exact hj))]at this
        exact this)
    simpa using this
theorem Q6(hF:TN P F){R R2:BI}{s s2:AE}(htr:Trace P F ops nt (Region.before ops) true π [] R s R2 s2)(hpl:Da P ops (Region.before ops) [] π=true)
  (h:Al P ρ s w) (hf:Av ρ s) (hr:DO ρ R a.tmps) (hnt:nt≤a.tmps.size)
  (hq:∀a' w' ρ',Al P ρ' s2 w'→Av ρ' s2→Fr ρ s w ρ' s2 w'→DO ρ' R2 a'.tmps→a'.tmps.size=a.tmps.size→a'.defers=a.defers→Q .normal a' w'):
  wpAnyIn (LC rnd) 0 P .any ops Q ops.size (Array.replicate ops.size false) a w:=by
 obtain⟨D,ht,e1,e2,e3,e4,_⟩:=TB htr
 subst e1;subst e2;subst e3;subst e4
 have nodn:∀p,¬ Dn π (Array.replicate ops.size false) p:=by
  rintro p ⟨i,_,h⟩
  rw[Array.getElem?_replicate]at h
  split at h<;>cases h
 refine DJ.any hF ht hpl hr hnt hq ops.size _ 0 ρ a w ⟨by simp,ZW _,fun p h=>(nodn p h).elim,fun p h=>by omega,fun p i _ h=>(nodn p h).elim,h,hf,Fr.refl _ _ _,fun p h=>by omega,fun p q _ h=>by omega,fun p h=>by omega,rfl,rfl,fun p h=>(nodn p h).elim,?_⟩ ?_
 ·intro t _ x hx
  exact(hr t x hx).2
 ·intro l hn hl
  refine LY ops.size l hn fun i hi=>?_
  have:=hl i hi
  rw[Array.getElem?_replicate]at this
  split at this
  ·assumption
  ·cases this
end
section
variable{P:Program}{ρ ρ1 ρ2:Aq}{s s1 s2:AE}{w w1 w2:World}
theorem Lu{b:Frame}{a:Act}{k:List Item}{cs:List Frame}{c:Code}:step P (lone (b.atR a (.code (.scope c)::k)) cs w)=.next (lone (b.atR a (.code c::.inScope c::k)) cs w):=
 step_lone_go (by simp[stepG,stepG.exec,Frame.atR])
theorem JF{b:Frame}{a:Act}{k:List Item}{cs:List Frame}{c:Code}:step P (lone (b.atR a (.inScope c::k)) cs w)=.next (lone (b.atR a k) cs w):=
 step_lone_go (by simp[stepG,stepG.exec,Frame.atR])
def Tl(Q:Exit→Act→World→Prop):Exit→Act→World→Prop
 | .goto _,_,_=>False
 | e,a,w=>Q e a w
theorem NA{F:Fence}{n:Nat}{Q:Exit→Act→World→Prop}{a:Act}{c:Code}(h:c.wpIn F n P (Tl Q) a w):(Code.scope c).wpIn F n P Q a w:=by
 intro b k cs hro hb hr
 obtain⟨e,a₁,w₁,hq,harr⟩:=h b (.inScope c::k) cs hro hb hr
 have h1:StepsIn (Machine.fenced P F) P (lone (b.atR a (.code (.scope c)::k)) cs w) (lone (b.atR a (.code c::.inScope c::k)) cs w):=.one (fenced_calm hb hr rfl) Lu
 cases e with
 | normal=>exact⟨.normal,a₁,w₁,hq,h1.trans (StepsIn.trans harr (.one (fenced_calm hb hr rfl) JF))⟩
 | exit id=>exact⟨.exit id,a₁,w₁,hq,.of_steps h1 ⟨fun k' hk=>harr.1 k' (by simpa[exitTo]using hk),fun h2 hk=>harr.2 h2 (by simpa[exitTo]using hk)⟩⟩
 | goto l=>exact hq.elim
 | ret=>exact⟨.ret,a₁,w₁,hq,ArrivesIn.of_steps (k:=k) (e:=.ret) h1 harr⟩
 | panic ch=>exact⟨.panic ch,a₁,w₁,hq,ArrivesIn.of_steps (k:=k) (e:=.panic ch) h1 harr⟩
 | outgrown=>exact⟨.outgrown,a₁,w₁,hq,ArrivesIn.of_steps (k:=k) (e:=.outgrown) h1 harr⟩
structure Bx(P:Program)(ρ:Aq)(fn:Func)(var:List AV)(tmps:Array Value):Prop where
 len:var.length=(Ah P fn).length
 rel:Cj ρ (Ah P fn) var tmps
 size:fn.ntmps≤tmps.size
theorem Bx.mono{fn:Func}{var:List AV}{tmps:Array Value}(h:Bx P ρ fn var tmps)(le:ρ.le ρ1):Bx P ρ1 fn var tmps:=⟨h.len,h.rel.mono le,h.size⟩
def Gw(vars:List Tmp)(var:List AV):BI:=fun t=>(BA vars t).bind fun k=>var[k]?
theorem HR{vars:List Tmp}{var:List AV}(h:var.length=vars.length):Cp vars ⟨[],0⟩ [] var (Gw vars var):=by
 refine⟨h,fun t p e=>(by cases e),fun t x e=>(by cases e),?_⟩
 intro t x hx
 unfold C1 at hx
 simp only[C0]at hx
 simp only[ZA]at hx
 obtain⟨j,h1,h2⟩:=hx
 injection h2 with h2
 subst h2
 have hj:j<var.length:=by rw[h];exact DZ h1
 simp only[Gw,h1,Option.bind_some,BV,B8]
 rw[ZP hj,KU (ZP hj)]
theorem E3{fn:Func}{var:List AV}{tmps:Array Value}(h:Bx P ρ fn var tmps):DO ρ (Gw (Ah P fn) var) tmps:=by
 intro t v hv
 simp only[Gw,ZA]at hv
 obtain⟨k,h1,h2⟩:=hv
 obtain⟨h3,v',h4,h5⟩:=h.rel t k h1
 rw[h2]at h4
 injection h4 with h4
 subst h4
 exact⟨h3,h5⟩
theorem Pb{fn:Func}{c:TM}{loc var:List AV}{R:BI}{tmps:Array Value}(hc:Cp (Ah P fn) c loc var R)(hr:DO ρ R tmps)(hs:fn.ntmps≤tmps.size):Bx P ρ fn var tmps:=by
 refine⟨hc.vlen,?_,hs⟩
 intro t k hk
 have hl:C0 c.map t=none:=by
  cases h:C0 c.map t with
  | none=>rfl
  | some x=>have:=hc.keys t x h;rw[hk]at this;cases this
 have hx:C1 (Ah P fn) c t=some (.var k):=by unfold C1;rw[hl,hk];rfl
 have hv:=hc.val t _ hx
 have hj:k<var.length:=by rw[hc.vlen];exact DZ hk
 obtain⟨h1,h2⟩:=hr t _ hv
 refine⟨h1,_,ZP hj,?_⟩
 have e:JC var k=var[k]:=KU (ZP hj)
 simp only[BV,B8,e]at h2
 exact h2
theorem Ld{fn:Func}{var:List AV}{a:Act}(h:Bx P ρ fn var a.tmps){o:Operand}{x:CX}(hx:DY (Ah P fn) ⟨[],0⟩ o=some x):AJ ρ (B8 [] var x) (a.eval o):=by
 have hc:=HR h.len
 have:=Ik hc hx
 have e:BV 0 x=x:=by
  cases x with
  | loc p=>exact absurd (Ij hc hx p rfl) (Nat.not_lt_zero _)
  | _=>rfl
 rw[e]at this
 exact Lj (E3 h) this
theorem Ex:∀ (n:Nat)(l:List AV),(Ql l n).length=n
 | 0,_=>rfl
 | n+1,[]=>by simp[Ql,Ex n]
 | n+1,_::l=>by simp[Ql,Ex n]
theorem Im:∀ (n:Nat)(l:List AV)(k:Nat),k<n→(Ql l n)[k]? = some (l.getD k A1)
 | 0,_,k,h=>by omega
 | n+1,[],k,h=>by
  cases k with
  | zero=>rfl
  | succ k=>simpa[Ql]using Im n [] k (by omega)
 | n+1,a::l,k,h=>by
  cases k with
  | zero=>rfl
  | succ k=>simpa[Ql]using Im n l k (by omega)
theorem C5(m:Nat):∀ (n k x:Nat),x∈D1 m n k→k≤x∧x<k+n
 | 0,k,x,h=>by cases h
 | n+1,k,x,h=>by
  unfold D1 at h
  cases hb:m.testBit k with
  | true =>
   rw[hb]at h
   simp only[cond_true]at h
   rcases Zd.1 h with rfl | h
   ·omega
   ·have:=C5 m n (k+1) x h;omega
  | false =>
   rw[hb]at h
   simp only[cond_false]at h
   have:=C5 m n (k+1) x h;omega
theorem UD      {fn : Func} {aS : List AV} {as' : Array Value} (ha : AI    ρ aS as'.toList) (hn : aS.length = B3     fn) (hle : B3     fn ≤ fn.ntmps) :
    Bx P ρ fn (Ql aS (Ah P fn).length) (as'++Array.replicate (fn.ntmps - as'.size) undef):=by
  have hsz:as'.size=B3 fn:=by have:=ha.length;simp at this;omega
  refine⟨Ex _ _,?_,by simp;omega⟩
  intro t k hk
  have hg:=Dh hk
  have hlt:=DZ hk
  refine⟨?_,_,Im _ _ k hlt,?_⟩
  all_goals unfold Ah at hg
  · have hm:t∈(List.range (B3 fn)++match fn.body with
        | none=>[]
        | some c=>D1 (Nat.lor (C8 P c) (Fv fn.results.toList)) (fn.ntmps - B3 fn) (B3 fn)):=ZZ hg
    rcases List.mem_append.1 hm with h | h
    · have h9:(t:Nat)<B3 fn:=List.mem_range.1 h
      rw[Array.size_append,Array.size_replicate]
      exact ZS h9 (by omega)
    · cases hb:fn.body with
      | none=>rw[hb]at h;cases h
      | some c =>
        rw[hb]at h
        have h9:=(C5 _ _ _ _ h).2
        rw[Array.size_append,Array.size_replicate]
        exact ZS h9 (by omega)
  · by_cases hka : k < B3     fn
    · rw [Zb                        (by simpa using hka)] at hg
      rw[List.getElem?_range hka]at hg
      injection hg with hg
      subst hg
      obtain⟨v',h1,h2⟩:=ha.get (k:=k) (v:=aS[k]'(by omega)) (ZP (by omega))
      have e1:aS.getD k A1=aS[k]'(by omega):=by simp[show k<aS.length by omega]
      have e2:(as'++Array.replicate (fn.ntmps - as'.size) undef).getD k undef=v':=by
        have h1':as'[k]? = some v':=by simpa using h1
        have hk':k<as'.size:=by omega
        simp[Array.getD_eq_getD_getElem?,Array.getElem?_append_left hk',h1']
      rw[e1,e2]
      exact h2
    · rw[Zc (by simpa using hka)]at hg
      have ht:B3 fn≤t:=by
        cases hb:fn.body with
        | none=>rw[hb]at hg;simp at hg
        | some c=>rw[hb]at hg;exact(C5 _ _ _ _ (ZZ hg)).1
      have e1:aS.getD k A1=A1:=by simp[show aS.length≤k by omega]
      have e2:(as'++Array.replicate (fn.ntmps - as'.size) undef).getD t undef=undef:=by
        rw[Array.getD_eq_getD_getElem?,Array.getElem?_append_right (by omega),Array.getElem?_replicate]
        split<;>rfl
      rw[e1,e2]
      exact CD ρ
def CE(ρ:Aq):List Nat→List Deferred→Prop
 | [],ds=>ds=[]
 | i::l,ds=>∃rb ds',ρ i=some rb∧ds={ target:=.collected rb.b,args:=#[] }::ds'∧CE ρ l ds'
theorem CE.mono:∀ {l:List Nat}{ds:List Deferred},CE ρ l ds→ρ.le ρ1→CE ρ1 l ds
 | [],_,h,_=>h
 | _::_,_,⟨rb,ds',h1,h2,h3⟩,le=>⟨rb,ds',le _ _ h1,h2,CE.mono h3 le⟩
theorem Al.unmark1(h:Al P ρ s w){i:Nat}{rb:RB}(hg:s.heap.get i=some .mark)(hr:ρ i=some rb):
  Al P ρ (Bd s i) (w.putObj rb.b (.deferred none))∧Fr ρ s w ρ (Bd s i) (w.putObj rb.b (.deferred none)):=by
 let o1:AX:=.row { elem:=default,sz:=rb.sz,n:=0,c:=.leaf,spare:=true,mode:=.ro,par:=none,bytes:=false }
 have ho:EU P ρ (w.putObj rb.b (.deferred none)) o1 rb:=
  ⟨fun k v hk=>absurd hk (Nat.not_lt_zero k),ZW _,rfl,(fun e=>by cases e),fun e=>absurd rfl e,(fun e=>by cases e),(fun g e=>by cases e),fun p e=>by cases e⟩
 obtain⟨h1,h2⟩:=h.set (w1:=w.putObj rb.b (.deferred none)) (o1:=o1) hg hr rfl (fun p e=>by cases e) rfl World.putObj_size (fun b hb=>World.putObj_heap_other hb) rfl rfl rfl ho
 obtain⟨h3,h4⟩:=h1.del hr
 have e:∀x,(Bd (setObj s i o1) i).heap.get x=(Bd s i).heap.get x:=by
  intro x
  rw[Ar,Ar,A3]
  by_cases h':x=i
  ·simp[h']
  ·simp[h']
 have h5:=h2.trans h4
 refine⟨h3.same (fun x _ _=>(e x).symm) fun j o g hj hgo=>h3.glb j o g (by rw[e j];exact hj) hgo,⟨h5.le,h5.fresh,h5.next,h5.size,h5.os,h5.tape,h5.output,h5.keep,fun b hb=>h5.own b (hb.same fun x _ _=>(e x).symm),fun x hx hy=>(e x).symm.trans (h5.unborn x hx hy)⟩⟩
theorem KM{fn:Func}{tmps:Array Value}{R:Ending→World→Prop}:∀ {marks:List Nat}{ds:List Deferred}{s s':AE}{w:World},CE ρ marks ds→CR s marks=some s'→Al P ρ s w →
  (∀w',Al P ρ s' w'→Fr ρ s w ρ s' w'→∃v,(results fn tmps).run P w'=.ok v w'∧R (.returned v) w')→LeavesInM Fence.wide 0 P fn tmps R ds .returning w:=by
 intro marks
 induction marks with
 | nil =>
  intro ds s s' w hm hu hi hk
  have hm:ds=[]:=hm
  subst hm
  injection hu with hu
  subst hu
  exact hk w hi (Fr.refl _ _ _)
 | cons i l ih =>
  intro ds s s' w hm hu hi hk
  obtain⟨rb,ds',h1,rfl,h3⟩:=hm
  unfold CR at hu
  split at hu
  ·rename_i hg
   obtain⟨h4,h5⟩:=hi.unmark1 hg h1
   have hb:w.heap[rb.b]? = some (.deferred (some [])):=hi.obj i _ rb hg h1
   refine⟨by simp,.inl ⟨rb.b,_,rfl,run_takeDeferred hb,?_⟩⟩
   exact ih h3 hu h4 fun w' g1 g2=>hk w' g1 (h5.trans g2)
  ·cases hu
def Sg(tmps:Array Value):ResultVar→Sem Value
 | .tmp t=>Pure.pure (tmps.getD t undef)
 | .cell a t=>do loadVar t (← asAddr (tmps.getD a undef))
theorem Mt(fn:Func)(tmps:Array Value):results fn tmps=(do
  let vs ← fn.results.mapM (Sg tmps)
  Pure.pure (if h:vs.size=1 then vs[0]else .tuple vs)):=by
 have:(fun r:ResultVar=>(match r with
   | .tmp t=>(Pure.pure (tmps.getD t undef):Sem Value)
   | .cell a t=>do loadVar t (← asAddr (tmps.getD a undef))))=Sg tmps:=by funext r;cases r<;>rfl
 rw[← this]
 rfl
theorem Ke           {vars : List Tmp} {var : List AV} {tmps : Array Value} (hI : Al  P ρ s w) (hr : Cj      ρ vars var tmps) : ∀ {rs : List ResultVar} {cr : List (CX × Option TypeId)} {l : List AV}, Bf          vars rs = some cr → A6       P s var cr = some l →
    ∃l':List Value,(rs.mapM (Sg tmps)).run P w=.ok l' w∧AI ρ l l':=by
  intro rs
  induction rs with
  | nil=>intro cr l hc ha;injection hc with hc;subst hc;injection ha with ha;subst ha;exact⟨[],rfl,.nil⟩
  | cons r rs ih =>
    intro cr l hc ha
    cases r with
    | tmp t =>
      simp only[Bf,ZA]at hc
      obtain⟨j,h1,cr',h2,h3⟩:=hc
      injection h3 with h3
      subst h3
      simp only[A6,ZA]at ha
      obtain⟨l1,h4,h5⟩:=ha
      injection h5 with h5
      subst h5
      obtain⟨l',h6,h7⟩:=ih h2 h4
      obtain⟨h8,v,h9,h10⟩:=hr t j h1
      refine⟨tmps.getD t undef::l',?_,.cons ?_ h7⟩
      · rw[List.mapM_cons]
        simp[Sg,Sem.run_bind,h6,Result.andThen]
      · simp only[B8];rw[KU h9];exact h10
    | cell t ty =>
      simp only[Bf,ZA]at hc
      obtain⟨j,h1,cr',h2,h3⟩:=hc
      injection h3 with h3
      subst h3
      simp only[A6,ZA]at ha
      obtain⟨v,hv,l1,h4,h5⟩:=ha
      injection h5 with h5
      subst h5
      obtain⟨l',h6,h7⟩:=ih h2 h4
      obtain⟨h8,x,h9,h10⟩:=hr t j h1
      simp only[B8]at hv
      rw[KU h9]at hv
      obtain⟨v',_,g2,ad,g3,g4⟩:=LS hI hv h10
      refine⟨v'::l',?_,.cons g2 h7⟩
      rw[List.mapM_cons]
      simp only[Sg]
      rw[g3]
      simp[Sem.run_bind,h6,Result.andThen,asAddr,g4]
theorem Mu         {fn : Func} {vars : List Tmp} {var : List AV} {tmps : Array Value} (hI : Al  P ρ s w) (hr : Cj      ρ vars var tmps) {cr : List (CX × Option TypeId)} {l : List AV}
    (hc:Bf vars fn.results.toList=some cr) (ha:A6 P s var cr=some l):∃v,(results fn tmps).run P w=.ok v w∧AJ ρ (Aw l) v:=by
  obtain⟨l',h1,h2⟩:=Ke hI hr hc ha
  refine⟨if h:l'.toArray.size=1 then l'.toArray[0]else .tuple l'.toArray,?_,?_⟩
  · rw[Mt,Array.mapM_eq_mapM_toList]
    simp[Sem.run_bind,h1,Result.andThen,Sem.run_map]
  · cases h2 with
    | nil=>simp[Aw];exact .tuple .nil
    | cons h hs =>
      cases hs with
      | nil=>simpa[Aw]using h
      | cons h' hs' =>
        simp[Aw]
        exact .tuple (.cons h (.cons h' hs'))
theorem Ko           {vars : List Tmp} : ∀ {ts : List Tmp} {vs : List AV} {vs' : List Value} {var var' : List AV} {tmps : Array Value}, FK        vars var ts vs = some var' → Cj      ρ vars var tmps → var.length = vars.length → AI    ρ vs vs' →
    Cj ρ vars var' ((ts.zip vs').foldl (fun tmps (p:Tmp×Value)=>tmps.setIfInBounds p.1 p.2) tmps)∧var'.length=vars.length∧((ts.zip vs').foldl (fun tmps (p:Tmp×Value)=>tmps.setIfInBounds p.1 p.2) tmps).size=tmps.size∧ts.length=vs'.length:=by
  intro ts
  induction ts with
  | nil =>
    intro vs vs' var var' tmps hz hr hl hv
    cases vs with
    | nil=>cases hv;injection hz with hz;subst hz;exact⟨hr,hl,rfl,rfl⟩
    | cons=>cases hz
  | cons t ts ih =>
    intro vs vs' var var' tmps hz hr hl hv
    cases vs with
    | nil=>cases hz
    | cons v vs =>
      cases hv with
      | cons h hs =>
        rename_i v' vs'
        simp only[FK,ZA]at hz
        obtain⟨j,hj,hz⟩:=hz
        have hjl:j<var.length:=by rw[hl];exact DZ hj
        obtain⟨ht,_⟩:=hr t j hj
        have key:Cj ρ vars (upd v var j) (tmps.setIfInBounds t v'):=by
          intro u k hk
          obtain⟨g1,x,g2,g3⟩:=hr u k hk
          refine⟨by simpa using g1,?_⟩
          by_cases e:u=t
          · subst e
            rw[hj]at hk
            injection hk with hk
            subst hk
            refine⟨v,by rw[G4];simp[hjl],?_⟩
            simpa[Array.getD_eq_getD_getElem?,ht]using h
          · have ejk:j≠k:=fun e'=>by subst e';exact e (HO hk hj)
            refine⟨x,by rw[G4,List.getElem?_set_ne ejk];exact g2,?_⟩
            have:(tmps.setIfInBounds t v').getD u undef=tmps.getD u undef:=by
              simp[Array.getD_eq_getD_getElem?,Array.getElem?_setIfInBounds_ne (Ne.symm e)]
            rw[this]
            exact g3
        obtain⟨h1,h2,h3,h4⟩:=ih (tmps:=tmps.setIfInBounds t v') hz key (by rw[G4,List.length_set];exact hl) hs
        exact⟨h1,h2,by simpa using h3,by simpa using h4⟩
end
def F0:Kq→Exit
 | .normal=>.normal
 | .exit id=>.exit id
 | .ret=>.ret
def Jr(ρ:Aq):Option Nat→Option Nat→Prop
 | none,r=>r=none
 | some l,r=>∃rb,ρ l=some rb∧r=some rb.b
theorem Jr.mono{ρ ρ1:Aq}{rnd r:Option Nat}(h:Jr ρ rnd r)(le:ρ.le ρ1):Jr ρ1 rnd r:=by
 cases rnd with
 | none=>exact h
 | some l=>obtain⟨rb,h1,h2⟩:=h;exact⟨rb,le _ _ h1,h2⟩
structure F4(P:Program)(fn:Func)(ρ:Aq)(s:AE)(w:World)(r:Au)(a':Act)(w':World)(ρ':Aq):Prop where
 inv:Al P ρ' r.st w'
 fresh:Av ρ' r.st
 fr:Fr ρ s w ρ' r.st w'
 vars:Bx P ρ' fn r.var a'.tmps
 marks:CE ρ' r.marks a'.defers
structure Gb(P:Program)(fn:Func)(ρ:Aq)(s:AE)(w:World)(var:List AV)(marks:List Nat)(rnd r:Option Nat)(a:Act):Prop where
 inv:Al P ρ s w
 fresh:Av ρ s
 vars:Bx P ρ fn var a.tmps
 marks:CE ρ marks a.defers
 rnd:Jr ρ rnd r
def Jp(P:Program)(F:CY):Prop:=∀ (f:FuncId)(fn:Func)(c:Code)(rnd r:Option Nat)(var:List AV)(marks:List Nat)(s:AE)(res:Au)(ρ:Aq)(w:World)(a:Act)(Q:Exit→Act→World→Prop),
 P.funcs[f]? = some fn→F.code rnd (Ag P f fn.ntmps (Ah P fn) c) var marks s=some res→Gb P fn ρ s w var marks rnd r a →
 (∀a' w' ρ',F4 P fn ρ s w res a' w' ρ'→Q (F0 res.exit) a' w')→c.wpIn (LC r) 0 P Q a w
def ND(P:Program)(F:CY)(n:Nat):Prop:=∀ (f:FuncId)(fn:Func)(c:Code)(rnd r:Option Nat)(var:List AV)(marks:List Nat)(s:AE)(res:Au)(ρ:Aq)(w:World)(a:Act)(Q:Exit→Act→World→Prop),
 P.funcs[f]? = some fn→F.code rnd (.loop (Ag P f fn.ntmps (Ah P fn) c)) var marks s=some res→Gb P fn ρ s w var marks rnd r a →
 (∀a' w' ρ',F4 P fn ρ s w res a' w' ρ'→Q (F0 res.exit) a' w')→Code.roundsIn (LC r) 0 P c Q n a w
def DN(P:Program)(call:FuncId→List AV→AE→Option (AV×AE)):Prop:=∀ (ρ:Aq)(s:AE)(w:World)(f:FuncId)(aS:List AV)(v:AV)(s1:AE)(as':Array Value),
 call f aS s=some (v,s1)→Al P ρ s w→Av ρ s→AI ρ aS as'.toList →
 (∃fn c,P.funcs[f]? = some fn∧fn.body=some c)∧CallsIn Fence.wide 0 P f as' w (Cq P ρ s w v s1)
def C3 (P : Program) : Prop := ∀ (f : FuncId) (fn : Func), P.funcs[f]? = some fn → (fn.name == "runtime.NumGoroutine") = false
structure Kr(P:Program)(F:CY)(n:Nat):Prop where
 code:Jp P F
 loop:ND P F n
 call:DN P F.call
 round:∀ (ρ:Aq) (s:AE) (w:World) (l:Nat) (rb:RB) (aS:List AV) (v:AV) (s1:AE) (as':Array Value),F.round l aS s=some (v,s1)→Al P ρ s w→Av ρ s→ρ l=some rb→AI ρ aS as'.toList →
  CF P ρ s w v s1 ((Instr.yield rb.b as').run P w)
section
variable{P:Program}{ρ ρ1 ρ2:Aq}{s s1 s2:AE}{w w1 w2:World}
theorem Ef(hng:C3 P){f:FuncId}{fn:Func}{c:Code}(hf:P.funcs[f]? = some fn)(hb:fn.body=some c)(args:Array Value)(w:World):(callFunc f args).run P w=.ok (.enter f args) w:=by
  have h1:=hng f fn hf
  have h2 : fn.name ≠ "runtime.NumGoroutine" := by simpa using h1
  simp[callFunc,hf,h2,hb]
theorem Kr.fok(hng:C3 P){F:CY}{n:Nat}(h:Kr P F n):TN P F where
 call:=fun ρ s w f aS v s1 as' hc hi hf ha=>by
  obtain⟨⟨fn,c,h1,h2⟩,h3⟩:=h.call ρ s w f aS v s1 as' hc hi hf ha
  rw[Ef hng h1 h2]
  exact .enter h3
 round:=h.round
theorem F4.trans{fn:Func}{s1:AE}{r1 r2:Au}{a1 a2:Act}(h1:Fr ρ s w ρ1 s1 w1)(h2:F4 P fn ρ1 s1 w1 r2 a2 w2 ρ2):F4 P fn ρ s w r2 a2 w2 ρ2:=
 ⟨h2.inv,h2.fresh,h1.trans h2.fr,h2.vars,h2.marks⟩
theorem F4.begins{fn:Func}{r:Au}{a1:Act}{var:List AV}{marks:List Nat}{rnd rr:Option Nat}{a:Act}(hb:Gb P fn ρ s w var marks rnd rr a)(h:F4 P fn ρ s w r a1 w1 ρ1):Gb P fn ρ1 r.st w1 r.var r.marks rnd rr a1:=
 ⟨h.inv,h.fresh,h.vars,h.marks,hb.rnd.mono h.fr.le⟩
theorem WW     (hm : P.follows .mixedOrders = true) {F : CY}  (hF : TN  P F) {fn : Func} {f : FuncId} {id : Nat} {ops : Array Oper} {draw : Bool} {r rnd : Option Nat} {var : List AV} {marks : List Nat} {s : AE}  {res : Au}   {ρ : Aq}  {w : World} {a : Act} {Q : Exit → Act → World → Prop}
    (hc:CB F rnd (Ag P f fn.ntmps (Ah P fn) (.region id ops draw)) var marks s=some res) (hb:Gb P fn ρ s w var marks rnd r a)
    (hq:∀a' w' ρ',F4 P fn ρ s w res a' w' ρ'→Q (F0 res.exit) a' w'):(Code.region id ops draw).wpIn (LC r) 0 P Q a w:=by
  have fin:∀ {items:List AD} {b:Array Nat} {l:List Nat},C6 P fn.ntmps (Ah P fn) ops b draw l ⟨[],0⟩ []=some items→CB F rnd (.ops items) var marks s=some res →
      ∃R' s',Trace P F ops fn.ntmps b draw l [] (Gw (Ah P fn) var) s R' s'∧res.exit=.normal∧res.marks=marks∧res.st=s'∧∃c' loc',Cp (Ah P fn) c' loc' res.var R':=by
    intro items b l hi hs
    simp only[CB,TV]at hs
    split at hs<;>first | (cases hs;done) | skip
    rename_i p hp
    injection hs with hs
    subst hs
    obtain⟨R',h1,h2⟩:=MQ l ⟨[],0⟩ [] items [] var s p.1 p.2 (Gw (Ah P fn) var) [] hi hp (HR hb.vars.len) .nil
    exact⟨R',p.2,h1,rfl,rfl,rfl,h2⟩
  have back:∀ {R':BI} {a':Act} {w':World} {ρ':Aq},(∃c' loc',Cp (Ah P fn) c' loc' res.var R')→res.exit=.normal→res.marks=marks→Al P ρ' res.st w'→Av ρ' res.st→Fr ρ s w ρ' res.st w'→DO ρ' R' a'.tmps→a'.tmps.size=a.tmps.size→a'.defers=a.defers→Q .normal a' w':=by
    intro R' a' w' ρ' ⟨c',loc',hcr⟩ he hmk h1 h2 h3 h4 h5 h6
    have:=hq a' w' ρ' ⟨h1,h2,h3,Pb hcr h4 (by rw[h5];exact hb.vars.size),by rw[hmk,h6];exact hb.marks.mono h3.le⟩
    rw[he]at this
    exact this
  cases draw with
  | false =>
    refine wpIn_region ?_
    simp only[Ag]at hc
    cases hi:C6 P fn.ntmps (Ah P fn) ops #[] false (List.range ops.size) ⟨[],0⟩ []with
    | none=>rw[hi]at hc;cases hc
    | some items =>
      rw[hi]at hc
      obtain⟨R',s',h1,h2,h3,h4,h5⟩:=fin hi hc
      subst h4
      exact PZ hF h1 hb.inv hb.fresh (E3 hb.vars) hb.vars.size fun a' w' ρ' g1 g2 g3 g4 g5 g6=>back h5 h2 h3 g1 g2 g3 g4 g5 g6
  | true =>
    refine wpIn_region_any hm ?_
    simp only[Ag]at hc
    cases hpl:Da P ops (Region.before ops) [] (Tt P ops)with
    | false=>rw[hpl]at hc;cases hc
    | true =>
      rw[hpl]at hc
      simp only[AF,cond_true]at hc
      cases hi:C6 P fn.ntmps (Ah P fn) ops (Region.before ops) true (Tt P ops) ⟨[],0⟩ []with
      | none=>rw[hi]at hc;cases hc
      | some items =>
        rw[hi]at hc
        obtain⟨R',s',h1,h2,h3,h4,h5⟩:=fin hi hc
        subst h4
        have hd:=Fr.drawn' (ρ:=ρ) (s:=s) (w:=w) (w.drawn+1)
        exact Q6 hF h1 hpl (hb.inv.drawn (w.drawn+1)) hb.fresh (E3 hb.vars) hb.vars.size fun a' w' ρ' g1 g2 g3 g4 g5 g6=>back h5 h2 h3 g1 g2 (hd.trans g3) g4 g5 g6
theorem FQ{l:Nat}{L:Loop}(h:w.heap[l]? = some (.loop L))(fn:FuncId)(tmps:Array Value)(ps:Array Tmp)(assign body:Code):
  (Instr.enterLoop fn tmps ps assign body (some l)).run P w =
   .ok (w.heap.size,[]) (w.alloc (.loop { state:=.ready,pending:=none,fn,tmps,params:=ps,assign,body,defers:=L.defers })):=by
 unfold Instr.enterLoop
 simp only[Sem.run_bind,run_getLoop h,run_newObj_alloc,Result.andThen,Sem.run_pure]
theorem DW{l:Nat}{r:Hs}(h:Fq s l=some r):s.heap.get l=some (.loop r):=by
 unfold Fq at h
 split at h
 ·injection h with h;subst h;assumption
 ·cases h
theorem Av.new(h:Av ρ s)(o:AX)(rb:RB):Av (BJ ρ s.next rb) (newObj s o):=by
 intro i hi
 have hi:s.next+1≤i:=hi
 have:=h i (by omega)
 exact⟨by rw[AL rb (by omega)];exact this.1,by rw[Ak,if_neg (by omega)];exact this.2⟩
theorem Id(h:Al P ρ s w){l:Nat}{r:Hs}{rb:RB}(hg:s.heap.get l=some (.loop r))(hr:ρ l=some rb){st:LoopState}{pd:Option Code}{L:Loop}(hL:w.heap[rb.b]? = some (.loop L)):
  Al P ρ (setObj s l (.loop { r with state:=st,pending:=pd })) (w.putObj rb.b (.loop { L with state:=st,pending:=pd }))∧Fr ρ s w ρ (setObj s l (.loop { r with state:=st,pending:=pd })) (w.putObj rb.b (.loop { L with state:=st,pending:=pd })):=by
 have hlt:=h.lt l rb hr
 refine h.set hg hr rfl (fun p e=>by cases e) rfl World.putObj_size (fun b hb=>World.putObj_heap_other hb) rfl rfl rfl ?_
 obtain⟨L',h0,h1,h2,h4,h5,h6,h7,h8,h9,h10⟩:=(h.obj l _ rb hg hr:EY P ρ w r rb).ex
 rw[hL]at h0
 injection h0 with h0
 injection h0 with h0
 subst h0
 exact⟨_,World.putObj_heap_same hlt,rfl,rfl,h4,h5,h6,h7,h8,h9,h10⟩
theorem Ts{r:Option Nat}{s':AE}{res:Au}{a:Act}{Q:Exit→Act→World→Prop}{var:List AV}{marks:List Nat}{pd:Option Code}
  (hp:H7 var marks s' pd=some res) (hq:res.var=var→res.marks=marks→res.st=s'→Q (F0 res.exit) a w):
  (match (generalizing:=false) pd with
   | none=>Q .normal a w
   | some c=>c.wpIn (LC r) 0 P Q a w):=by
 unfold H7 at hp
 split at hp<;>first | (cases hp;done) | skip
 ·injection hp with hp;subst hp;exact hq rfl rfl rfl
 ·injection hp with hp;subst hp;exact wpIn_ret (hq rfl rfl rfl)
 ·injection hp with hp;subst hp;exact wpIn_exit (hq rfl rfl rfl)
theorem Is         (hng : C3      P) {F : CY}  (hcall : DN     P F.call) {f : FuncId} {fn : Func} {var : List AV} {marks : List Nat} {s : AE}  {res : Au}   {ρ : Aq}  {w : World} {a : Act} {r : Option Nat} {Q : Exit → Act → World → Prop} {g : AV} {g' : Value} {ps : Array Tmp} {assign body : Code} {dfr : Nat} {rd : RB}
    (hf:P.funcs[f]? = some fn) (hc:EF F var g ps assign body f dfr marks s=some res) (hi:Al P ρ s w) (hfr:Av ρ s) (hv:Bx P ρ fn var a.tmps) (hmk:CE ρ marks a.defers)
    (hg:AJ ρ g g') (hd:ρ dfr=some rd) (fn':FuncId)
    (hq:∀w' ρ',F4 P fn ρ s w res a w' ρ'→Q (F0 res.exit) a w'):
    ∃ (d : Deferred) (f0 : FuncId) (args : Array Value), Deferred.ofValue g' #[.func (.yield w.heap.size) #[] #[]] = Pure.pure d ∧
      (∀w1,(invoke d.target d.args).run P w1=.ok (.enter f0 args) w1) ∧
      CallsIn (LC r) 0 P f0 args (w.alloc (.loop { state:=.ready,pending:=none,fn:=fn',tmps:=a.tmps,params:=ps,assign,body,defers:=rd.b })) (rangePost (LC r) 0 P w.heap.size Q a):=by
  let L:Loop:={ state:=.ready,pending:=none,fn:=fn',tmps:=a.tmps,params:=ps,assign,body,defers:=rd.b }
  let al:Hs:={ state:=.ready,pending:=none,fn:=f,var,params:=ps,assign,body,dfr }
  let rb:RB:=⟨w.heap.size,0,0,0⟩
  have hvi:F2 P f=Ah P fn:=by unfold F2;rw[hf]
  have hn0:=(hfr _ (Y9 s.next)).1
  have hle:=BL (rb:=rb) hn0
  obtain⟨hi1,hfr1⟩:=hi.new (o:=.loop al) (o':=.loop L) (rb:=rb) hn0 rfl
    ⟨L,World.alloc_heap_new w _,rfl,rfl,rfl,rfl,rfl,⟨rd,hle _ _ hd,rfl⟩,by rw[hvi];exact(hv.mono hle).rel,fun fn0 h0=>by
      have h0:P.funcs[f]? = some fn0:=h0
      rw[hf]at h0;injection h0 with h0;subst h0;exact hv.size,by rw[hvi];exact hv.len⟩
  have hff:=hfr.new (.loop al) rb
  unfold EF Gg at hc
  simp only[ZA]at hc
  obtain⟨q,hcv,r2,hl2,hend⟩:=hc
  cases hbz:RZ r2.state with
  | true=>rw[hbz]at hend;cases hend
  | false =>
    rw[hbz]at hend
    simp only[cond_false]at hend
    unfold FT at hcv
    split at hcv<;>first | (cases hcv;done) | skip
    rename_i f0 first cap
    cases hg with
    | func ha hcp =>
      rename_i x c
      obtain⟨⟨fn0,c0,k1,k2⟩,k3⟩:=hcall _ _ _ f0 _ q.1 q.2 ((x++#[.func (.yield w.heap.size) #[] #[]])++c) hcv hi1 hff (by
        simp only[Array.toList_append]
        have hy:AJ (BJ ρ s.next rb) (.yield s.next) (.func (.yield w.heap.size) #[] #[]):=AJ.yield (rb:=rb) (AM _ _)
        have:=(AI.mono hle ha).append ((AI.cons hy .nil).append (AI.mono hle hcp))
        simpa using this)
      refine⟨{ target:=.fn (.func f0) c,args:=x++#[.func (.yield w.heap.size) #[] #[]] },f0,_,rfl,fun w1=>?_,HB (CallsIn.mono k3 ?_)⟩
      · simp only[invoke]
        exact Ef hng k1 k2 _ _
      · intro e w3 he
        cases e with
        | panicked c=>exact he.elim
        | outgrown=>exact he.elim
        | returned v' =>
          obtain⟨ρ',_,g2,g3⟩:=he
          have hg2:=DW hl2
          have hr2:ρ' s.next=some rb:=g3.le _ _ (AM _ _)
          obtain⟨L2,h0,h1,h2,_⟩:=(g2.obj _ _ _ hg2 hr2:EY P ρ' w3 r2 rb).ex
          obtain⟨g4,g5⟩:=Id g2 hg2 hr2 (st:=.exhausted) (pd:=r2.pending) h0
          have hbz':L2.state≠.busy:=by rw[h1];intro e;rw[e]at hbz;cases hbz
          refine⟨L2.pending,_,run_endLoop h0 hbz',?_⟩
          rw[h2]
          refine Ts hend fun e1 e2 e3=>hq _ ρ' ?_
          have hall:=hfr1.trans (g3.trans g5)
          have hfresh:=(hff.step g3).step g5
          rw[h2.symm]at g4 g5 hall
          refine⟨?_,?_,?_,by rw[e1];exact hv.mono hall.le,by rw[e2];exact hmk.mono hall.le⟩
          · rw[e3,← h2];exact g4
          · rw[e3];exact hfresh
          · rw[e3,← h2];exact hall
end
end
end Go.Proofs.YtickdehehcmfbaaGreatDoor.Am
