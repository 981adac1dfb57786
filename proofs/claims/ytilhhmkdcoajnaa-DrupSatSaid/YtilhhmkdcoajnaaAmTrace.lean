/- Compiled operations, and what they do slot by slot; conditions: none. -/
import Derived.Test.YtilhhmkdcoajnaaAmRead
set_option linter.unusedVariables false
set_option linter.unusedSimpArgs false
namespace Go.Proofs.Ytilhhmkdcoajnaa.Am
open Go
noncomputable section
theorem N4(l:List AV)(i:Nat):nth l i=l.getD i Au:=by
  induction l generalizing i with
  | nil=>rfl
  | cons a l ih =>
    cases i with
    | zero=>rfl
    | succ i=>exact ih i
theorem N5{l:List AV}{i:Nat}{v:AV}(h:l[i]? = some v):nth l i=v:=by rw[N4];simp[h]
theorem JZ(v:AV)(l:List AV)(i:Nat):upd v l i=l.set i v:=by
  induction l generalizing i with
  | nil=>rfl
  | cons a l ih =>
    cases i with
    | zero=>rfl
    | succ i=>exact congrArg (a::·) (ih i)
theorem N6{v:AV}{l:List AV}{i:Nat}(h:i<l.length):nth (upd v l i) i=v:=by
  rw[N4,JZ];simp[h]
theorem HU{v:AV}{l:List AV}{i j:Nat}(h:i≠j):nth (upd v l j) i=nth l i:=by
  rw[N4,N4,JZ];simp[List.getElem?_set_ne (Ne.symm h)]
theorem FO{vars:List Tmp}{t:Tmp}:∀ {j:Nat},Bu vars t=some j→vars[j]? = some t:=by
  induction vars with
  | nil=>intro j h;cases h
  | cons a l ih =>
    intro j h
    unfold Bu at h
    cases hb:Nat.beq a t with
    | true =>
      rw[hb]at h
      simp only[cond_true,Option.some.injEq]at h
      subst h
      rw[A5 hb]
      rfl
    | false =>
      rw[hb]at h
      simp only[cond_false,oE]at h
      obtain⟨i,h1,h2⟩:=h
      injection h2 with h2
      subst h2
      exact ih h1
theorem E9{vars:List Tmp}{t:Tmp}{j:Nat}(h:Bu vars t=some j):j<vars.length:=by
  have:=FO h
  rcases oI j vars.length with h' | h'
  · exact h'
  · rw[oe h']at this;cases this
theorem Jl{vars:List Tmp}{t u:Tmp}{j:Nat}(h:Bu vars t=some j)(k:Bu vars u=some j):t=u:=by
  have h1:=FO h
  have h2:=FO k
  rw[h1]at h2
  injection h2
mutual
theorem ZM     : ∀ {a b : AV}, eqA a b = true → a = b := by
  intro a b h
  unfold eqA at h
  split at h
  · simp at h;rw[h]
  · simp only[Bool.and_eq_true]at h;have:=FQ h.1;subst this;have h2:=h.2;rw[F2]at h2;simp at h2;rw[h2]
  · rename_i x y
    have:∀x y:List Nat,GI x y=true→x=y:=by
      intro x
      induction x with
      | nil=>intro y h;cases y with | nil=>rfl | cons=>cases h
      | cons a x ih =>
        intro y h
        cases y with
        | nil=>cases h
        | cons b y =>
          unfold GI at h
          cases hb:Nat.beq a b with
          | true=>rw[hb]at h;rw[A5 hb,ih y h]
          | false=>rw[hb]at h;cases h
    rw[this _ _ h]
  · rfl
  · simp only[Bool.and_eq_true]at h;rw[A5 h.1,A5 h.2]
  · simp only[Bool.and_eq_true]at h;rw[A5 h.1,A5 h.2]
  · rw[A5 h]
  · simp only[Bool.and_eq_true]at h;rw[A5 h.1.1,A5 h.1.2,A5 h.2]
  · simp only[Bool.and_eq_true]at h;rw[A5 h.1.1.1,A5 h.1.1.2,A5 h.1.2,A5 h.2]
  · rfl
  · rw[A5 h]
  · simp only[Bool.and_eq_true]at h;rw[A5 h.1.1,IJ h.1.2,IJ h.2]
  · rfl
  · rfl
  · rw[A5 h]
  · rw[IJ h]
  · rw[IJ h]
  · cases h
theorem IJ:∀ {a b:List AV},eqA.eqAs a b=true→a=b:=by
  intro a b h
  unfold eqA.eqAs at h
  split at h
  · rfl
  · simp only[Bool.and_eq_true]at h;rw[ZM h.1,IJ h.2]
  · cases h
end
abbrev CA:=Tmp→Option AV
def CA.put(R:CA)(d:Option Tmp)(v:AV):CA:=match d with
  | none=>R
  | some d=>fun t=>if t=d then some v else R t
def Pg(R:CA):Operand→Option AV
  | .tmp t=>R t
  | .const v=>ofValue v
  | .global _=>none
  | .func f=>some (.func f [] [])
def D8(R:CA):List Operand→Option (List AV)
  | []=>some []
  | x::l=>(Pg R x).bind fun a=>(D8 R l).bind fun r=>some (a::r)
def In(ops:Array Oper)(R:CA)(o:Oper):Option Bool:=match o.guard with
  | none=>some true
  | some (j,want)=>(ops[j]?).bind fun p=>p.dst.bind fun d=>(R d).bind fun x=>some (isB want x)
def shF(F:Fns)(sh:Sh)(as:List AV)(s:ASt):Option (AV×ASt):=
  match sh with
  | .call f=>F.call f as s
  | .callv=>(match as with | a::l=>GY F a l s | []=>none)
  | _=>shL sh as s
structure Rec where
  idx:Nat
  sh:Sh
  as:List AV
  v:AV
  want:Bool
structure KT(P:Program)(F:Fns)(ops:Array Oper)(nt:Nat)(R:CA)(s:ASt)(o:Oper)(sh:Sh)(want:Bool)(as:List AV)(v:AV)(R1:CA)(s1:ASt):Prop where
  shape:∃xs,BZ P o.op=some (sh,xs)∧D8 R xs=some as
  wants:In ops R o=some want
  put:R1=R.put o.dst v
  lt:∀d,o.dst=some d→d<nt
  yes:want=true→shF F sh as s=some (v,s1)
  no:want=false→v=Au∧s1=s
inductive H9 (P:Program) (F:Fns) (ops:Array Oper) (nt:Nat) (b:Array Nat) (draw:Bool):List Nat→List Rec→CA→ASt→CA→ASt→Prop
  | nil {rs:List Rec} {R:CA} {s:ASt}:H9 P F ops nt b draw [] rs R s R s
  | cons {i:Nat} {l:List Nat} {rs:List Rec} {R R1 R2:CA} {s s1 s2:ASt} {o:Oper} {sh:Sh} {want:Bool} {as:List AV} {v:AV}
      (ho:ops[i]? = some o) (hs:KT P F ops nt R s o sh want as v R1 s1)
      (ag:draw=true→sh.isEff=true→want=true→∀r∈rs,(b.getD i 0).testBit r.idx=false→r.want=true→Eb r.sh r.as s1=some r.v)
      (hl:H9 P F ops nt b draw l (bif draw && sh.isRead then ⟨i,sh,as,v,want⟩::rs else rs) R1 s1 R2 s2):H9 P F ops nt b draw (i::l) rs R s R2 s2
structure EO(vars:List Tmp)(c:CSt)(loc var:List AV)(R:CA):Prop where
  vlen:var.length=vars.length
  bnd:∀t p,EZ c.map t=some (.loc p)→p<c.cnt
  keys:∀t x,EZ c.map t=some x→Bu vars t=none
  val:∀t x,Ec vars c t=some x→R t=some (cev loc var (CY c.cnt x))
theorem Ur:∀ {m:List (Tmp×CX)}{t:Tmp}{x:CX},EZ m t=some x→(t,x)∈m:=by
  intro m
  induction m with
  | nil=>intro t x h;cases h
  | cons p m ih =>
    obtain⟨a,y⟩:=p
    intro t x h
    unfold EZ at h
    cases hb:Nat.beq a t with
    | true =>
      rw[hb]at h
      simp only[cond_true,Option.some.injEq]at h
      rw[A5 hb,h]
      exact oH
    | false =>
      rw[hb]at h
      exact oJ _ (ih h)
theorem PX:∀ {m:List (Tmp×CX)}{j:Nat},Ic j m=true→∀t,(t,CX.var j) ∉ m:=by
  intro m
  induction m with
  | nil=>intro j h t hm;cases hm
  | cons p m ih =>
    obtain⟨a,y⟩:=p
    intro j h t hm
    simp only[Ic,Bool.and_eq_true,Bool.not_eq_true']at h
    cases hm with
    | head=>simp[IV]at h
    | tail _ hm=>exact ih h.2 t hm
theorem D3(m:List (Tmp×CX))(d t:Tmp)(x:CX):EZ ((d,x)::m) t=if t=d then some x else EZ m t:=by
  simp only[EZ]
  by_cases e:t=d
  · subst e;simp
  · have:Nat.beq d t=false:=by
      cases hb:Nat.beq d t with
      | true=>exact absurd (A5 hb).symm e
      | false=>rfl
    rw[this,if_neg e,cond_false]
theorem Et{loc var:List AV}{v:AV}{cnt:Nat}{x:CX}(h:∀p,x=.loc p→p<cnt):cev (v::loc) var (CY (cnt+1) x)=cev loc var (CY cnt x):=by
  cases x with
  | loc p =>
    have:=h p rfl
    simp only[CY,cev]
    rw[show cnt+1 - 1 - p=(cnt - 1 - p)+1 from by omega]
    rfl
  | var j=>rfl
  | const v=>rfl
variable{vars:List Tmp}{c:CSt}{loc var:List AV}{R:CA}
theorem EO.push(h:EO vars c loc var R){d:Tmp}(v:AV)(hd:Bu vars d=none):EO vars { map:=(d,.loc c.cnt)::c.map,cnt:=c.cnt+1 } (v::loc) var (R.put (some d) v):=by
  refine⟨h.vlen,?_,?_,?_⟩
  · intro t p hp
    rw[D3]at hp
    split at hp
    · injection hp with hp;injection hp with hp;subst hp;exact pF _
    · exact pk (h.bnd t p hp)
  · intro t x hx
    rw[D3]at hx
    split at hx
    · rename_i e;subst e;exact hd
    · exact h.keys t x hx
  · intro t x hx
    unfold Ec at hx
    simp only[D3]at hx
    by_cases e:t=d
    · subst e
      simp only[if_true,Option.some.injEq]at hx
      subst hx
      simp only[CA.put,if_true,CY,cev]
      rw[show c.cnt+1 - 1 - c.cnt=0 from by omega]
      rfl
    · simp only [if_neg e] at hx
      simp only[CA.put,if_neg e]
      have hx':Ec vars c t=some x:=by unfold Ec;exact hx
      rw[h.val t x hx',Et]
      intro p hp
      subst hp
      cases hl:EZ c.map t with
      | some y=>rw[hl]at hx;injection hx with hx;subst hx;exact h.bnd t p hl
      | none=>rw[hl]at hx;simp only[oE]at hx;obtain⟨j,_,hx⟩:=hx;cases hx
theorem Lq(h:EO vars c loc var R){t:Tmp}{x:CX}(hx:Ec vars c t=some x):∀p,x=.loc p→p<c.cnt:=by
  intro p hp
  subst hp
  unfold Ec at hx
  cases hl:EZ c.map t with
  | some y=>rw[hl]at hx;injection hx with hx;subst hx;exact h.bnd t p hl
  | none=>rw[hl]at hx;simp only[oE]at hx;obtain⟨j,_,hx⟩:=hx;cases hx
theorem Ld(h:EO vars c loc var R){o:Operand}{x:CX}(hx:FN vars c o=some x):∀p,x=.loc p→p<c.cnt:=by
  cases o with
  | tmp t=>exact Lq h hx
  | const v =>
    intro p hp
    subst hp
    simp only[FN,oE]at hx
    obtain⟨a,_,hx⟩:=hx
    cases hx
  | global g=>cases hx
  | func f=>intro p hp;subst hp;simp[FN]at hx
theorem EO.pushNone(h:EO vars c loc var R)(v:AV):EO vars { c with cnt:=c.cnt+1 } (v::loc) var R:=by
  refine⟨h.vlen,fun t p hp=>pk (h.bnd t p hp),h.keys,?_⟩
  intro t x hx
  have hx':Ec vars c t=some x:=hx
  rw[h.val t x hx',Et (Lq h hx')]
theorem EO.set   (h : EO   vars c loc var R) {d : Tmp} {j : Nat} (v : AV) (hd : Bu      vars d = some j) (hn : Ic      j c.map = true) : EO   vars c loc (upd v var j) (R.put (some d) v) := by
  refine⟨by rw[JZ,oO];exact h.vlen,h.bnd,h.keys,?_⟩
  intro t x hx
  have hj:j<var.length:=by rw[h.vlen];exact E9 hd
  by_cases e:t=d
  · subst e
    unfold Ec at hx
    cases hl:EZ c.map t with
    | some y=>have:=h.keys t y hl;rw[hd]at this;cases this
    | none =>
      rw[hl,hd]at hx
      injection hx with hx
      subst hx
      simp only[CA.put,if_true,CY,cev]
      rw[N6 hj]
  · simp only[CA.put,if_neg e]
    rw[h.val t x hx]
    congr 1
    cases x with
    | loc p=>rfl
    | const v=>rfl
    | var i =>
      simp only[CY,cev]
      rw[HU]
      intro q
      subst q
      unfold Ec at hx
      cases hl:EZ c.map t with
      | some y=>rw[hl]at hx;injection hx with hx;subst hx;exact PX hn t (Ur hl)
      | none =>
        rw[hl]at hx
        simp only[oE]at hx
        obtain⟨k,hk,hx⟩:=hx
        injection hx with hx
        injection hx with hx
        subst hx
        exact e (Jl hk hd)
theorem EO.alias(h:EO vars c loc var R){d:Tmp}{o:Operand}{x:CX}(hx:FN vars c o=some x)(hd:Bu vars d=none):
    EO vars { c with map:=(d,x)::c.map } loc var (R.put (some d) (cev loc var (CY c.cnt x))):=by
  refine⟨h.vlen,?_,?_,?_⟩
  · intro t p hp
    rw[D3]at hp
    split at hp
    · injection hp with hp;subst hp;exact Ld h hx p rfl
    · exact h.bnd t p hp
  · intro t y hy
    rw[D3]at hy
    split at hy
    · rename_i e;subst e;exact hd
    · exact h.keys t y hy
  · intro t y hy
    unfold Ec at hy
    simp only[D3]at hy
    by_cases e:t=d
    · subst e
      simp only[if_true,Option.some.injEq]at hy
      subst hy
      simp only[CA.put,if_true]
    · simp only [if_neg e] at hy
      simp only[CA.put,if_neg e]
      exact h.val t y hy
theorem Le(h:EO vars c loc var R){o:Operand}{x:CX}(hx:FN vars c o=some x):Pg R o=some (cev loc var (CY c.cnt x)):=by
  cases o with
  | tmp t=>exact h.val t x hx
  | const v =>
    simp only[FN,oE]at hx
    obtain⟨a,h1,h2⟩:=hx
    injection h2 with h2
    subst h2
    exact h1
  | global g=>cases hx
  | func f=>injection hx with hx;subst hx;rfl
theorem Mv(h:EO vars c loc var R):∀ {l:List Operand}{xs:List CX},Ho vars c l=some xs→D8 R l=some (D0 loc var (xs.map (CY c.cnt)))
  | [],xs,hx=>by injection hx with hx;subst hx;rfl
  | o::l,xs,hx=>by
    simp only[Ho,oE]at hx
    obtain⟨a,h1,r,h2,h3⟩:=hx
    injection h3 with h3
    subst h3
    simp only[D8,Le h h1,Mv h h2,Option.bind_some,pR]
    rfl
end
end Go.Proofs.Ytilhhmkdcoajnaa.Am
