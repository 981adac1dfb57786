/- Compiled operations, and what they do slot by slot; conditions: none. -/
import Derived.Test.YtilhhmkdcoajnaaAmRead
set_option linter.unusedVariables false
set_option linter.unusedSimpArgs false
namespace Go.Proofs.Ytilhhmkdcoajnaa.Am
open Go
noncomputable section
theorem nth_eq(l:List AV)(i:Nat):nth l i=l.getD i undefA:=by
  induction l generalizing i with
  | nil=>rfl
  | cons a l ih =>
    cases i with
    | zero=>rfl
    | succ i=>exact ih i
theorem nth_of{l:List AV}{i:Nat}{v:AV}(h:l[i]? = some v):nth l i=v:=by rw[nth_eq];simp[h]
theorem upd_eq(v:AV)(l:List AV)(i:Nat):upd v l i=l.set i v:=by
  induction l generalizing i with
  | nil=>rfl
  | cons a l ih =>
    cases i with
    | zero=>rfl
    | succ i=>exact congrArg (a::·) (ih i)
theorem nth_upd_same{v:AV}{l:List AV}{i:Nat}(h:i<l.length):nth (upd v l i) i=v:=by
  rw[nth_eq,upd_eq];simp[h]
theorem nth_upd_other{v:AV}{l:List AV}{i j:Nat}(h:i≠j):nth (upd v l j) i=nth l i:=by
  rw[nth_eq,nth_eq,upd_eq];simp[List.getElem?_set_ne (Ne.symm h)]
theorem placeIn_get{vars:List Tmp}{t:Tmp}:∀ {j:Nat},placeIn vars t=some j→vars[j]? = some t:=by
  induction vars with
  | nil=>intro j h;cases h
  | cons a l ih =>
    intro j h
    unfold placeIn at h
    cases hb:Nat.beq a t with
    | true =>
      rw[hb]at h
      simp only[cond_true,Option.some.injEq]at h
      subst h
      rw[beq_nat hb]
      rfl
    | false =>
      rw[hb]at h
      simp only[cond_false,Option.bind_eq_some_iff]at h
      obtain⟨i,h1,h2⟩:=h
      injection h2 with h2
      subst h2
      exact ih h1
theorem placeIn_lt{vars:List Tmp}{t:Tmp}{j:Nat}(h:placeIn vars t=some j):j<vars.length:=by
  have:=placeIn_get h
  rcases Nat.lt_or_ge j vars.length with h' | h'
  · exact h'
  · rw[List.getElem?_eq_none h']at this;cases this
theorem placeIn_inj{vars:List Tmp}{t u:Tmp}{j:Nat}(h:placeIn vars t=some j)(k:placeIn vars u=some j):t=u:=by
  have h1:=placeIn_get h
  have h2:=placeIn_get k
  rw[h1]at h2
  injection h2
mutual
theorem eqA_eq : ∀ {a b : AV}, eqA a b = true → a = b := by
  intro a b h
  unfold eqA at h
  split at h
  · simp at h;rw[h]
  · simp only[Bool.and_eq_true]at h;have:=sameKind_eq h.1;subst this;have h2:=h.2;rw[eqI_eq]at h2;simp at h2;rw[h2]
  · rename_i x y
    have:∀x y:List Nat,strEq x y=true→x=y:=by
      intro x
      induction x with
      | nil=>intro y h;cases y with | nil=>rfl | cons=>cases h
      | cons a x ih =>
        intro y h
        cases y with
        | nil=>cases h
        | cons b y =>
          unfold strEq at h
          cases hb:Nat.beq a b with
          | true=>rw[hb]at h;rw[beq_nat hb,ih y h]
          | false=>rw[hb]at h;cases h
    rw[this _ _ h]
  · rfl
  · simp only[Bool.and_eq_true]at h;rw[beq_nat h.1,beq_nat h.2]
  · simp only[Bool.and_eq_true]at h;rw[beq_nat h.1,beq_nat h.2]
  · rw[beq_nat h]
  · simp only[Bool.and_eq_true]at h;rw[beq_nat h.1.1,beq_nat h.1.2,beq_nat h.2]
  · simp only[Bool.and_eq_true]at h;rw[beq_nat h.1.1.1,beq_nat h.1.1.2,beq_nat h.1.2,beq_nat h.2]
  · rfl
  · rw[beq_nat h]
  · simp only[Bool.and_eq_true]at h;rw[beq_nat h.1.1,eqAs_eq h.1.2,eqAs_eq h.2]
  · rfl
  · rfl
  · rw[beq_nat h]
  · rw[eqAs_eq h]
  · rw[eqAs_eq h]
  · cases h
theorem eqAs_eq:∀ {a b:List AV},eqA.eqAs a b=true→a=b:=by
  intro a b h
  unfold eqA.eqAs at h
  split at h
  · rfl
  · simp only[Bool.and_eq_true]at h;rw[eqA_eq h.1,eqAs_eq h.2]
  · cases h
end
abbrev Regs:=Tmp→Option AV
def Regs.put(R:Regs)(d:Option Tmp)(v:AV):Regs:=match d with
  | none=>R
  | some d=>fun t=>if t=d then some v else R t
def rEval(R:Regs):Operand→Option AV
  | .tmp t=>R t
  | .const v=>ofValue v
  | .global _=>none
  | .func f=>some (.func f [] [])
def rEvals(R:Regs):List Operand→Option (List AV)
  | []=>some []
  | x::l=>(rEval R x).bind fun a=>(rEvals R l).bind fun r=>some (a::r)
def wantR(ops:Array Oper)(R:Regs)(o:Oper):Option Bool:=match o.guard with
  | none=>some true
  | some (j,want)=>(ops[j]?).bind fun p=>p.dst.bind fun d=>(R d).bind fun x=>some (isB want x)
def shF(F:Fns)(sh:Sh)(as:List AV)(s:ASt):Option (AV×ASt):=
  match sh with
  | .call f=>F.call f as s
  | .callv=>(match as with | a::l=>callV F a l s | []=>none)
  | _=>shL sh as s
structure Rec where
  idx:Nat
  sh:Sh
  as:List AV
  v:AV
  want:Bool
structure StepOk(P:Program)(F:Fns)(ops:Array Oper)(nt:Nat)(R:Regs)(s:ASt)(o:Oper)(sh:Sh)(want:Bool)(as:List AV)(v:AV)(R1:Regs)(s1:ASt):Prop where
  shape:∃xs,shapeOf P o.op=some (sh,xs)∧rEvals R xs=some as
  wants:wantR ops R o=some want
  put:R1=R.put o.dst v
  lt:∀d,o.dst=some d→d<nt
  yes:want=true→shF F sh as s=some (v,s1)
  no:want=false→v=undefA∧s1=s
inductive Trace (P:Program) (F:Fns) (ops:Array Oper) (nt:Nat) (b:Array Nat) (draw:Bool):List Nat→List Rec→Regs→ASt→Regs→ASt→Prop
  | nil {rs:List Rec} {R:Regs} {s:ASt}:Trace P F ops nt b draw [] rs R s R s
  | cons {i:Nat} {l:List Nat} {rs:List Rec} {R R1 R2:Regs} {s s1 s2:ASt} {o:Oper} {sh:Sh} {want:Bool} {as:List AV} {v:AV}
      (ho:ops[i]? = some o) (hs:StepOk P F ops nt R s o sh want as v R1 s1)
      (ag:draw=true→sh.isEff=true→want=true→∀r∈rs,(b.getD i 0).testBit r.idx=false→r.want=true→readA r.sh r.as s1=some r.v)
      (hl:Trace P F ops nt b draw l (bif draw && sh.isRead then ⟨i,sh,as,v,want⟩::rs else rs) R1 s1 R2 s2):Trace P F ops nt b draw (i::l) rs R s R2 s2
structure CRel(vars:List Tmp)(c:CSt)(loc var:List AV)(R:Regs):Prop where
  vlen:var.length=vars.length
  bnd:∀t p,lookT c.map t=some (.loc p)→p<c.cnt
  keys:∀t x,lookT c.map t=some x→placeIn vars t=none
  val:∀t x,slotX vars c t=some x→R t=some (cev loc var (relX c.cnt x))
theorem lookT_mem:∀ {m:List (Tmp×CX)}{t:Tmp}{x:CX},lookT m t=some x→(t,x)∈m:=by
  intro m
  induction m with
  | nil=>intro t x h;cases h
  | cons p m ih =>
    obtain⟨a,y⟩:=p
    intro t x h
    unfold lookT at h
    cases hb:Nat.beq a t with
    | true =>
      rw[hb]at h
      simp only[cond_true,Option.some.injEq]at h
      rw[beq_nat hb,h]
      exact List.mem_cons_self
    | false =>
      rw[hb]at h
      exact List.mem_cons_of_mem _ (ih h)
theorem noAlias_mem:∀ {m:List (Tmp×CX)}{j:Nat},noAlias j m=true→∀t,(t,CX.var j) ∉ m:=by
  intro m
  induction m with
  | nil=>intro j h t hm;cases hm
  | cons p m ih =>
    obtain⟨a,y⟩:=p
    intro j h t hm
    simp only[noAlias,Bool.and_eq_true,Bool.not_eq_true']at h
    cases hm with
    | head=>simp[isVar]at h
    | tail _ hm=>exact ih h.2 t hm
theorem lookT_cons(m:List (Tmp×CX))(d t:Tmp)(x:CX):lookT ((d,x)::m) t=if t=d then some x else lookT m t:=by
  simp only[lookT]
  by_cases e:t=d
  · subst e;simp
  · have:Nat.beq d t=false:=by
      cases hb:Nat.beq d t with
      | true=>exact absurd (beq_nat hb).symm e
      | false=>rfl
    rw[this,if_neg e,cond_false]
theorem relX_push{loc var:List AV}{v:AV}{cnt:Nat}{x:CX}(h:∀p,x=.loc p→p<cnt):cev (v::loc) var (relX (cnt+1) x)=cev loc var (relX cnt x):=by
  cases x with
  | loc p =>
    have:=h p rfl
    simp only[relX,cev]
    rw[show cnt+1 - 1 - p=(cnt - 1 - p)+1 from by omega]
    rfl
  | var j=>rfl
  | const v=>rfl
variable{vars:List Tmp}{c:CSt}{loc var:List AV}{R:Regs}
theorem CRel.push(h:CRel vars c loc var R){d:Tmp}(v:AV)(hd:placeIn vars d=none):CRel vars { map:=(d,.loc c.cnt)::c.map,cnt:=c.cnt+1 } (v::loc) var (R.put (some d) v):=by
  refine⟨h.vlen,?_,?_,?_⟩
  · intro t p hp
    rw[lookT_cons]at hp
    split at hp
    · injection hp with hp;injection hp with hp;subst hp;exact Nat.lt_succ_self _
    · exact Nat.lt_succ_of_lt (h.bnd t p hp)
  · intro t x hx
    rw[lookT_cons]at hx
    split at hx
    · rename_i e;subst e;exact hd
    · exact h.keys t x hx
  · intro t x hx
    unfold slotX at hx
    simp only[lookT_cons]at hx
    by_cases e:t=d
    · subst e
      simp only[if_true,Option.some.injEq]at hx
      subst hx
      simp only[Regs.put,if_true,relX,cev]
      rw[show c.cnt+1 - 1 - c.cnt=0 from by omega]
      rfl
    · simp only [if_neg e] at hx
      simp only[Regs.put,if_neg e]
      have hx':slotX vars c t=some x:=by unfold slotX;exact hx
      rw[h.val t x hx',relX_push]
      intro p hp
      subst hp
      cases hl:lookT c.map t with
      | some y=>rw[hl]at hx;injection hx with hx;subst hx;exact h.bnd t p hl
      | none=>rw[hl]at hx;simp only[Option.bind_eq_some_iff]at hx;obtain⟨j,_,hx⟩:=hx;cases hx
theorem slot_bnd(h:CRel vars c loc var R){t:Tmp}{x:CX}(hx:slotX vars c t=some x):∀p,x=.loc p→p<c.cnt:=by
  intro p hp
  subst hp
  unfold slotX at hx
  cases hl:lookT c.map t with
  | some y=>rw[hl]at hx;injection hx with hx;subst hx;exact h.bnd t p hl
  | none=>rw[hl]at hx;simp only[Option.bind_eq_some_iff]at hx;obtain⟨j,_,hx⟩:=hx;cases hx
theorem opnd_bnd(h:CRel vars c loc var R){o:Operand}{x:CX}(hx:opndX vars c o=some x):∀p,x=.loc p→p<c.cnt:=by
  cases o with
  | tmp t=>exact slot_bnd h hx
  | const v =>
    intro p hp
    subst hp
    simp only[opndX,Option.bind_eq_some_iff]at hx
    obtain⟨a,_,hx⟩:=hx
    cases hx
  | global g=>cases hx
  | func f=>intro p hp;subst hp;simp[opndX]at hx
theorem CRel.pushNone(h:CRel vars c loc var R)(v:AV):CRel vars { c with cnt:=c.cnt+1 } (v::loc) var R:=by
  refine⟨h.vlen,fun t p hp=>Nat.lt_succ_of_lt (h.bnd t p hp),h.keys,?_⟩
  intro t x hx
  have hx':slotX vars c t=some x:=hx
  rw[h.val t x hx',relX_push (slot_bnd h hx')]
theorem CRel.set (h : CRel vars c loc var R) {d : Tmp} {j : Nat} (v : AV) (hd : placeIn vars d = some j) (hn : noAlias j c.map = true) : CRel vars c loc (upd v var j) (R.put (some d) v) := by
  refine⟨by rw[upd_eq,List.length_set];exact h.vlen,h.bnd,h.keys,?_⟩
  intro t x hx
  have hj:j<var.length:=by rw[h.vlen];exact placeIn_lt hd
  by_cases e:t=d
  · subst e
    unfold slotX at hx
    cases hl:lookT c.map t with
    | some y=>have:=h.keys t y hl;rw[hd]at this;cases this
    | none =>
      rw[hl,hd]at hx
      injection hx with hx
      subst hx
      simp only[Regs.put,if_true,relX,cev]
      rw[nth_upd_same hj]
  · simp only[Regs.put,if_neg e]
    rw[h.val t x hx]
    congr 1
    cases x with
    | loc p=>rfl
    | const v=>rfl
    | var i =>
      simp only[relX,cev]
      rw[nth_upd_other]
      intro q
      subst q
      unfold slotX at hx
      cases hl:lookT c.map t with
      | some y=>rw[hl]at hx;injection hx with hx;subst hx;exact noAlias_mem hn t (lookT_mem hl)
      | none =>
        rw[hl]at hx
        simp only[Option.bind_eq_some_iff]at hx
        obtain⟨k,hk,hx⟩:=hx
        injection hx with hx
        injection hx with hx
        subst hx
        exact e (placeIn_inj hk hd)
theorem CRel.alias(h:CRel vars c loc var R){d:Tmp}{o:Operand}{x:CX}(hx:opndX vars c o=some x)(hd:placeIn vars d=none):
    CRel vars { c with map:=(d,x)::c.map } loc var (R.put (some d) (cev loc var (relX c.cnt x))):=by
  refine⟨h.vlen,?_,?_,?_⟩
  · intro t p hp
    rw[lookT_cons]at hp
    split at hp
    · injection hp with hp;subst hp;exact opnd_bnd h hx p rfl
    · exact h.bnd t p hp
  · intro t y hy
    rw[lookT_cons]at hy
    split at hy
    · rename_i e;subst e;exact hd
    · exact h.keys t y hy
  · intro t y hy
    unfold slotX at hy
    simp only[lookT_cons]at hy
    by_cases e:t=d
    · subst e
      simp only[if_true,Option.some.injEq]at hy
      subst hy
      simp only[Regs.put,if_true]
    · simp only [if_neg e] at hy
      simp only[Regs.put,if_neg e]
      exact h.val t y hy
theorem opnd_val(h:CRel vars c loc var R){o:Operand}{x:CX}(hx:opndX vars c o=some x):rEval R o=some (cev loc var (relX c.cnt x)):=by
  cases o with
  | tmp t=>exact h.val t x hx
  | const v =>
    simp only[opndX,Option.bind_eq_some_iff]at hx
    obtain⟨a,h1,h2⟩:=hx
    injection h2 with h2
    subst h2
    exact h1
  | global g=>cases hx
  | func f=>injection hx with hx;subst hx;rfl
theorem opnds_val(h:CRel vars c loc var R):∀ {l:List Operand}{xs:List CX},opndsX vars c l=some xs→rEvals R l=some (cevs loc var (xs.map (relX c.cnt)))
  | [],xs,hx=>by injection hx with hx;subst hx;rfl
  | o::l,xs,hx=>by
    simp only[opndsX,Option.bind_eq_some_iff]at hx
    obtain⟨a,h1,r,h2,h3⟩:=hx
    injection h3 with h3
    subst h3
    simp only[rEvals,opnd_val h h1,opnds_val h h2,Option.bind_some,List.map_cons]
    rfl
end
end Go.Proofs.Ytilhhmkdcoajnaa.Am
