/- One operation of a region, in the model; conditions: none. -/
import Derived.OrdersIn
import Derived.RangeFuncLeaves
import Derived.Test.YtilhhmkdcoajnaaAmM03
import Derived.LoopNIn
import Derived.ChangeSame
import Derived.Test.YtilhhmkdcoajnaaAmM02
import Derived.KernelRfl
import Derived.ChangeArms
import Derived.DataReads
import Derived.DataElems
import Derived.Test.YtilhhmkdcoajnaaAmM01
set_option linter.unusedVariables false
set_option linter.unusedSimpArgs false
namespace Go.Proofs.Ytilhhmkdcoajnaa.Am
open Go
noncomputable section
def P7(r:Option Nat):Fence:={ Fence.wide with round:=r }
def FN(ρ:Bq)(R:CP)(tmps:Array Value):Prop:=∀ (t:Tmp)(v:AV),R t=some v→t<tmps.size∧Ad ρ v (tmps.getD t undef)
def GK(P:Program)(ρ:Bq)(s:AE)(w:World)(v:AV)(s1:AE):Ending→World→Prop
 | .returned v',w'=>∃ρ',Ad ρ' v v'∧By P ρ' s1 w'∧Fr ρ s w ρ' s1 w'
 | _,_=>False
inductive Dy (P:Program) (ρ:Bq) (s:AE) (w:World) (v:AV) (s1:AE):Result Next→Prop
 | value {v':Value} {w':World} {ρ':Bq} (hv:Ad ρ' v v') (hi:By P ρ' s1 w') (hf:Fr ρ s w ρ' s1 w'):Dy P ρ s w v s1 (.ok (.value v') w')
 | skip {w':World} {ρ':Bq} (hv:Ad ρ' v undef) (hi:By P ρ' s1 w') (hf:Fr ρ s w ρ' s1 w'):Dy P ρ s w v s1 (.ok .skip w')
 | enter {f:FuncId} {args:Array Value} (h:CallsIn Fence.wide 0 P f args w (GK P ρ s w v s1)):Dy P ρ s w v s1 (.ok (.enter f args) w)
 | round {l:Nat} {f:FuncId} {tmps:Array Value} {assign body:Code} (h:RoundIn Fence.wide 0 P l f tmps assign body w (GK P ρ s w v s1)):Dy P ρ s w v s1 (.ok (.round l f tmps assign body) w)
def Bk(ρ:Bq)(s:AE):Prop:=∀i,s.next≤i→ρ i=none∧s.heap.get i=none
structure cZ(P:Program)(F:EH):Prop where
 call:∀ (ρ:Bq) (s:AE) (w:World) (f:FuncId) (aS:List AV) (v:AV) (s1:AE) (as':Array Value),F.call f aS s=some (v,s1)→By P ρ s w→Bk ρ s→AX ρ aS as'.toList →
  Dy P ρ s w v s1 ((callFunc f as').run P w)
 round:∀ (ρ:Bq) (s:AE) (w:World) (l:Nat) (rb:RB) (aS:List AV) (v:AV) (s1:AE) (as':Array Value),F.round l aS s=some (v,s1)→By P ρ s w→Bk ρ s→ρ l=some rb→AX ρ aS as'.toList →
  Dy P ρ s w v s1 ((Instr.yield rb.b as').run P w)
section
variable{P:Program}{ρ ρ1 ρ2:Bq}{s s1 s2:AE}{w w1 w2:World}{R:CP}{a:Act}{ops:Array Oper}
theorem FN.mono{tmps:Array Value}(h:FN ρ R tmps)(le:ρ.le ρ1):FN ρ1 R tmps:=fun t v hv=>⟨(h t v hv).1,(h t v hv).2.mono le⟩
theorem Q6(h:FN ρ R a.tmps){o:Operand}{v:AV}(hv:Q5 R o=some v):Ad ρ v (a.eval o):=by
 cases o with
 | tmp t=>exact(h t v hv).2
 | const c=>exact CD ρ hv
 | global g=>cases hv
 | func f=>injection hv with hv;subst hv;exact .func .nil .nil
theorem J7(h:FN ρ R a.tmps):∀ {xs:List Operand}{aS:List AV},EQ R xs=some aS→AX ρ aS (xs.map a.eval)
 | [],aS,e=>by injection e with e;subst e;exact .nil
 | x::l,aS,e=>by
  simp only[EQ,qh]at e
  obtain⟨v,h1,r,h2,h3⟩:=e
  injection h3 with h3
  subst h3
  exact .cons (Q6 h h1) (J7 h h2)
theorem F2(a:Act)(d:Option Tmp)(v:Value):(a.put d v).tmps.size=a.tmps.size:=by cases d<;>simp[Act.put]
theorem MX(a:Act)(d:Option Tmp)(v:Value):(a.put d v).defers=a.defers:=by cases d<;>rfl
theorem FN.put   (h : FN   ρ R a.tmps) {d : Option Tmp} {v : AV} {v' : Value} (hd : ∀ t, d = some t → t < a.tmps.size) (hv : Ad   ρ v v') : FN   ρ (R.put d v) (a.put d v').tmps := by
  cases d with
  | none=>exact h
  | some d =>
    intro t u hu
    simp only[Act.put,Array.size_setIfInBounds]
    by_cases e:t=d
    · subst e
      simp only[CP.put,if_true,Option.some.injEq]at hu
      subst hu
      have:=hd t rfl
      exact⟨this,by simpa[Array.getD_eq_getD_getElem?,this]using hv⟩
    · simp only[CP.put,if_neg e]at hu
      have:=h t u hu
      refine⟨this.1,?_⟩
      have e2:(a.tmps.setIfInBounds d v').getD t undef=a.tmps.getD t undef:=by
        simp[Array.getD_eq_getD_getElem?,Array.getElem?_setIfInBounds_ne (Ne.symm e)]
      rw[e2]
      exact this.2
theorem Nx(h:FN ρ R a.tmps){o:Oper}{want:Bool}(hw:JY ops R o=some want):Region.wanted o (yielded ops a.tmps)=want:=by
  unfold JY at hw
  unfold Region.wanted
  split at hw
  · rename_i hg;rw[hg];injection hw
  · rename_i j b hg
    rw[hg]
    simp only[qh]at hw
    obtain⟨p,h1,d,h2,x,h3,h4⟩:=hw
    injection h4 with h4
    subst h4
    obtain⟨hlt,hv⟩:=h d x h3
    have hy:yielded ops a.tmps j=(match a.tmps.getD d undef with | .bool b=>some b | _=>none):=by
      unfold yielded
      rw[h1]
      simp only[Option.bind_some,h2]
      rw[Array.getElem?_eq_getElem hlt,show a.tmps.getD d undef=a.tmps[d]from by simp[Array.getD_eq_getD_getElem?,hlt]]
      cases a.tmps[d]<;>rfl
    simp only[hy]
    generalize a.tmps.getD d undef=y at hv
    cases hv<;>first | rfl | (rename_i c;cases c<;>cases b<;>rfl)
theorem aK{F:EH}(hF:cZ P F)(h:By P ρ s w)(hf:Bk ρ s){f v:AV}{f':Value}{aS:List AV}{as':Array Value}(hc:G0 F f aS s=some (v,s1))(hv:Ad ρ f f')(ha:AX ρ aS as'.toList):
  Dy P ρ s w v s1 ((do let d ← Deferred.ofValue f' as';invoke d.target d.args:Sem Next).run P w):=by
 unfold G0 at hc
 split at hc<;>first | (cases hc;done) | skip
 ·cases hv with
  | func h1 h2 =>
   rename_i f x c x' c'
   have:=hF.call ρ s w f _ v s1 ((x'++as')++c') hc h hf (by simpa using h1.append (ha.append h2))
   simpa[Deferred.ofValue,invoke]using this
 ·cases hv with
  | yield h1 =>
   rename_i l rb
   have:=hF.round ρ s w l rb _ v s1 as' hc h hf h1 ha
   simpa[Deferred.ofValue,invoke]using this
theorem Cp.next{sem:Sem Next}{v:AV}(h:Cp P ρ s w sem v s1):Dy P ρ s w v s1 (sem.run P w):=by
 obtain⟨v',w',ρ',h1,h2,h3,h4⟩:=h
 rcases h1 with h1 | ⟨h1,e⟩
 ·rw[h1];exact .value h2 h3 h4
 ·subst e;rw[h1];exact .skip h2 h3 h4
theorem Wj        {F : EH}  (hF : cZ  P F) (h : By  P ρ s w) (hf : Bk     ρ s) {o : Oper} {sh : Sh} {xs : List Operand} {aS : List AV} {v : AV} {ev : Operand → Value} (hev : ∀ f, ev (.func f) = .func (.func f) #[] #[]) (hsh : Bi      P o.op = some (sh, xs)) (ha : AX    ρ aS (xs.map ev)) (hr : cX  F sh aS s = some (v, s1)) :
    Dy P ρ s w v s1 ((execOp ev o).run P w):=by
  have plain:KB sh aS s=some (v,s1)→Dy P ρ s w v s1 ((execOp ev o).run P w):=fun hl=>(kE h (hf _ (qg _)).1 hsh ha hl).next
  have calls:(∀f,sh≠.call f)→sh≠.callv→Dy P ρ s w v s1 ((execOp ev o).run P w):=by
    intro h1 h2
    refine plain ?_
    cases sh<;>first | exact hr | exact absurd rfl (h1 _) | exact absurd rfl h2
  have isCall:(∃f,sh=.call f)∨sh=.callv→∃c,o.op=.call c:=by
    intro hc
    cases ho:o.op<;>rw[ho]at hsh<;>first | exact⟨_,rfl⟩ | (simp[Bi]at hsh;done) | skip
    case makeMap t r =>
      cases r with
      | some _=>cases hsh
      | none=>injection hsh with hsh;injection hsh with e1 e2;subst e1;rcases hc with⟨_,hc⟩ | hc<;>cases hc
    case makeFunc fn first captured =>
      cases fn with
      | func f=>injection hsh with hsh;injection hsh with e1 e2;subst e1;rcases hc with⟨_,hc⟩ | hc<;>cases hc
      | _=>cases hsh
    all_goals (injection hsh with hsh;injection hsh with e1 e2;subst e1;rcases hc with⟨_,hc⟩ | hc<;>cases hc)
  by_cases hc:(∃f,sh=.call f)∨sh=.callv
  · obtain⟨⟨callee,args,argTypes⟩,ho⟩:=isCall hc
    rw[ho]at hsh
    have hx:∀g,callee=.value g→execOp ev o=(do let d ← Deferred.ofValue (ev g) (args.map ev);invoke d.target d.args):=by
      intro g hg
      subst hg
      simp only[execOp,ho,resolve]
    have notB:∀b,callee≠.builtin b:=by
      intro b e
      subst e
      simp only[Bi]at hsh
      split at hsh<;>first | (cases hsh;done) | skip
      all_goals first
        | (injection hsh with hsh;injection hsh with e1 e2;subst e1;rcases hc with⟨_,hc⟩ | hc<;>cases hc;done)
        | (split at hsh<;>first | (cases hsh;done) | (injection hsh with hsh;injection hsh with e1 e2;subst e1;rcases hc with⟨_,hc⟩ | hc<;>cases hc;done))
    simp only[Bi]at hsh
    split at hsh
    · rename_i f
      injection hsh with hsh;injection hsh with e1 e2;subst e1;subst e2
      rw[hx _ rfl,hev]
      have:=hF.call ρ s w f aS v s1 (args.map ev) hr h hf (by simpa using ha)
      simpa[Deferred.ofValue,invoke]using this
    · rename_i x _
      injection hsh with hsh;injection hsh with e1 e2;subst e1;subst e2
      rw[hx _ rfl]
      cases ha with
      | cons h1 h2=>exact aK hF h hf hr h1 (by simpa using h2)
    · cases hsh
    · exact absurd rfl (notB _)
  · exact calls (fun f e=>hc (.inl ⟨f,e⟩)) (fun e=>hc (.inr e))
end
section
variable{P:Program}{ρ ρ1 ρ2:Bq}{s s1 s2:AE}{w w1 w2:World}{R:CP}{a:Act}{ops:Array Oper}{rnd:Option Nat}{Q:Exit→Act→World→Prop}
theorem KO{n:Nat}{f:FuncId}{args:Array Value}{Rr:Ending→World→Prop}(h:CallsIn Fence.wide n P f args w Rr):CallsIn (P7 rnd) n P f args w Rr:=h
theorem Q8{n l:Nat}{f:FuncId}{tmps:Array Value}{assign body:Code}{Rr:Ending→World→Prop}(h:RoundIn Fence.wide n P l f tmps assign body w Rr):RoundIn (P7 rnd) n P l f tmps assign body w Rr:=h
theorem Bk.step(h:Bk ρ s)(k:Fr ρ s w ρ1 s1 w1):Bk ρ1 s1:=fun i hi =>
 ⟨k.fresh i (h i (qs k.next hi)).1 (.inr hi),(k.unborn i (h i (qs k.next hi)).1 (.inr hi)).trans (h i (qs k.next hi)).2⟩
theorem Nf{o:Oper}{v:AV}{K:Act→World→Prop}{r:Result Next}(h:Dy P ρ s w v s1 r)
    (hk:∀v' w' ρ',Ad ρ' v v'→By P ρ' s1 w'→Fr ρ s w ρ' s1 w'→K (a.put o.dst v') w'):o.uponIn (P7 rnd) 0 P a K Q r:=by
  cases h with
  | value hv hi hf=>exact hk _ _ _ hv hi hf
  | skip hv hi hf=>exact hk _ _ _ hv hi hf
  | enter h =>
    refine⟨fun e=>(by cases e),KO (CallsIn.mono h ?_)⟩
    intro e w' he
    cases e with
    | returned v'=>obtain⟨ρ',h1,h2,h3⟩:=he;exact hk _ _ _ h1 h2 h3
    | panicked c=>exact he.elim
    | outgrown=>exact he.elim
  | round h =>
    refine⟨fun e=>(by cases e),Q8 (RoundIn.mono h ?_)⟩
    intro e w' he
    cases e with
    | returned v'=>obtain⟨ρ',h1,h2,h3⟩:=he;exact hk _ _ _ h1 h2 h3
    | panicked c=>exact he.elim
    | outgrown=>exact he.elim
theorem Ng{o:Oper}{x:Sh×List Operand}(h:Bi P o.op=some x):∀c,o.op≠.defer c:=by
 intro c e
 rw[e]at h
 simp[Bi]at h
theorem VF{F:EH}(hF:cZ P F)(h:By P ρ s w)(hf:Bk ρ s){nt i:Nat}{o:Oper}{sh:Sh}{want:Bool}{aS:List AV}{v:AV}{R1:CP}{K:Act→World→Prop}(ho:ops[i]? = some o)
  (hs:LD P F ops nt R s o sh want aS v R1 s1) (hr:FN ρ R a.tmps) (hnt:nt≤a.tmps.size)
  (hk:∀v' w' ρ',Ad ρ' v v'→By P ρ' s1 w'→Fr ρ s w ρ' s1 w'→K (a.put o.dst v') w'):wpOpIn (P7 rnd) 0 P ops Q i K a w:=by
 unfold wpOpIn
 rw[ho]
 simp only
 obtain⟨xs,hsh,has⟩:=hs.shape
 rw[Nx hr hs.wants]
 cases want with
 | true =>
  simp only[if_true]
  refine⟨fun _ _=>trivial,?_⟩
  rw[Oper.semAt_eq _ _ _ (Ng hsh)]
  exact Nf (Wj hF h hf (fun _=>rfl) hsh (J7 hr has) (hs.yes rfl)) hk
 | false =>
  simp only[Bool.false_eq_true,if_false]
  refine⟨fun _ _=>trivial,?_⟩
  obtain⟨rfl,rfl⟩:=hs.no rfl
  exact hk undef w ρ (Du ρ) h (Fr.refl _ _ _)
theorem Wl        {F : EH}  (hF : cZ  P F) {nt : Nat} {b : Array Nat} {draw : Bool} {R2 : CP}   :
    ∀ {l:List Nat} {m:List R0} {R:CP} {s:AE} {ρ:Bq} {a:Act} {w:World},Trace P F ops nt b draw l m R s R2 s2→By P ρ s w→Bk ρ s→FN ρ R a.tmps→nt≤a.tmps.size →
      (∀a' w' ρ',By P ρ' s2 w'→Bk ρ' s2→Fr ρ s w ρ' s2 w'→FN ρ' R2 a'.tmps→a'.tmps.size=a.tmps.size→a'.defers=a.defers→Q .normal a' w') →
      wpOpsIn (P7 rnd) 0 P ops Q l a w:=by
  intro l
  induction l with
  | nil =>
    intro m R s ρ a w ht h hf hr hnt hq
    cases ht
    exact hq a w ρ h hf (Fr.refl _ _ _) hr rfl rfl
  | cons i l ih =>
    intro m R s ρ a w ht h hf hr hnt hq
    cases ht with
    | cons ho hs ag hl =>
      rename_i R1 s1 o sh want aS v
      rw[wpOpsIn_cons]
      refine VF hF h hf ho hs hr hnt ?_
      intro v' w' ρ' h1 h2 h3
      refine ih hl h2 (hf.step h3) ?_ (by rw[F2];exact hnt) ?_
      · rw[hs.put]
        exact(hr.mono h3.le).put (fun t e=>qw (hs.lt t e) hnt) h1
      · intro a' w'' ρ'' g1 g2 g3 g4 g5 g6
        exact hq a' w'' ρ'' g1 g2 (h3.trans g3) g4 (by rw[g5,F2]) (by rw[g6,MX])
end
def E2(acc:Array Nat)(o:Oper):Nat:=o.after.foldl (fun s e=>if Region.binds .any e then s ||| 2 ^ e.on ||| acc.getD e.on 0 else s) 0
theorem OC           (acc : Array Nat) (o : Oper) (k : Nat) (h : (E2      acc o).testBit k = true) : ∃ e ∈ o.after, Region.binds .any e = true ∧ (k = e.on ∨ (acc.getD e.on 0).testBit k = true) := by
  unfold E2 at h
  rw[← Array.foldl_toList]at h
  have key:∀ (l:List Edge) (s:Nat),(l.foldl (fun s e=>if Region.binds .any e then s ||| 2 ^ e.on ||| acc.getD e.on 0 else s) s).testBit k=true →
      s.testBit k=true∨∃e∈l,Region.binds .any e=true∧(k=e.on∨(acc.getD e.on 0).testBit k=true):=by
    intro l
    induction l with
    | nil=>intro s h;exact .inl h
    | cons e l ih =>
      intro s h
      simp only[rT]at h
      rcases ih _ h with h | ⟨e',he',h1,h2⟩
      · by_cases hb : Region.binds .any e = true
        · rw[if_pos hb]at h
          simp only[Nat.testBit_or,Bool.or_eq_true,Nat.testBit_two_pow]at h
          rcases h with(h | h) | h
          · exact .inl h
          · exact .inr ⟨e,ql,hb,.inl (by simpa using (of_decide_eq_true h).symm)⟩
          · exact .inr ⟨e,ql,hb,.inr h⟩
        · rw[if_neg hb]at h
          exact .inl h
      · exact .inr ⟨e',qo _ he',h1,h2⟩
  rcases key _ _ h with h | ⟨e,he,h1,h2⟩
  · simp at h
  · exact⟨e,Array.mem_toList_iff.1 he,h1,h2⟩
theorem PX          (ops : Array Oper) : ∀ i k, ((Region.before ops).getD i 0).testBit k = true → ∃ o, ops[i]? = some o ∧ ∃ e ∈ o.after, Region.binds .any e = true ∧ (k = e.on ∨ ((Region.before ops).getD e.on 0).testBit k = true) := by
  have key:∀ (l pre:List Oper) (acc:Array Nat),acc.size=pre.length →
      (∀i k,(acc.getD i 0).testBit k=true→∃o,pre[i]? = some o∧∃e∈o.after,Region.binds .any e=true∧(k=e.on∨(acc.getD e.on 0).testBit k=true)) →
      ∀i k,((l.foldl (fun acc o=>acc.push (E2 acc o)) acc).getD i 0).testBit k=true→∃o,(pre++l)[i]? = some o∧∃e∈o.after,Region.binds .any e=true∧(k=e.on∨((l.foldl (fun acc o=>acc.push (E2 acc o)) acc).getD e.on 0).testBit k=true):=by
    intro l
    induction l with
    | nil=>intro pre acc hs h;simpa using h
    | cons o l ih =>
      intro pre acc hs h
      simp only[rT]
      have:=ih (pre++[o]) (acc.push (E2 acc o)) (by simp[hs]) ?_
      · simpa using this
      · have up:∀j k,(acc.getD j 0).testBit k=true→((acc.push (E2 acc o)).getD j 0).testBit k=true:=by
          intro j k hj
          rcases qk j acc.size with hlt | hge
          · simpa[Array.getD_eq_getD_getElem?,Array.getElem?_push,Nat.ne_of_lt hlt]using hj
          · simp[Array.getD_eq_getD_getElem?,Array.getElem?_eq_none hge]at hj
        intro i k hi
        rcases rx i acc.size with hlt | heq | hgt
        · have hi':(acc.getD i 0).testBit k=true:=by
            simpa[Array.getD_eq_getD_getElem?,Array.getElem?_push,Nat.ne_of_lt hlt]using hi
          obtain⟨o',h1,e,h2,h3,h4⟩:=h i k hi'
          refine⟨o',?_,e,h2,h3,h4.imp id (up _ _)⟩
          rw[qv (by omega)]
          exact h1
        · subst heq
          have hi':(E2 acc o).testBit k=true:=by
            simpa[Array.getD_eq_getD_getElem?]using hi
          obtain⟨e,h2,h3,h4⟩:=OC acc o k hi'
          refine⟨o,?_,e,h2,h3,h4.imp id (up _ _)⟩
          rw[hs]
          simp
        · have:(acc.push (E2 acc o))[i]? = none:=Array.getElem?_eq_none (by simp;omega)
          simp[Array.getD_eq_getD_getElem?,this]at hi
  intro i k h
  have h0:Region.before ops=ops.toList.foldl (fun acc o=>acc.push (E2 acc o)) #[]:=by
    unfold Region.before
    rw[← Array.foldl_toList]
    rfl
  rw[h0]at h ⊢
  obtain⟨o,h1,h2⟩:=key ops.toList [] #[] rfl (by intro i k h;simp at h) i k h
  exact⟨o,by simpa using h1,h2⟩
theorem V4{P:Program}{o:Oper}{sh:Sh}{xs:List Operand}(h:Bi P o.op=some (sh,xs)){t:Tmp}(ht:Operand.tmp t∈xs):t∈GT P o:=by
 unfold GT
 rw[h]
 refine rH _ (List.mem_filterMap.2 ⟨.tmp t,ht,rfl⟩)
structure Jd(P:Program)(ops:Array Oper)(b:Array Nat)(π:List Nat):Prop where
 len:π.length=ops.size
 lt:∀p i:Nat,π[p]? = some i→i<ops.size
 inj:∀p q i:Nat,π[p]? = some i→π[q]? = some i→p=q
 edge:∀ (p i:Nat) (o:Oper),π[p]? = some i→ops[i]? = some o→∀e∈o.after,Region.binds .any e=true→∃q,q<p∧π[q]? = some e.on
 eff:∀ (p q i j:Nat) (o:Oper),π[p]? = some i→π[q]? = some j→q<p→ops[j]? = some o→P4 P o=true→(b.getD i 0).testBit j=true
 guard:∀ (p i:Nat) (o:Oper) (j:Nat) (w:Bool),π[p]? = some i→ops[i]? = some o→o.guard=some (j,w)→(b.getD i 0).testBit j=true
 wdst:∀ (p q i j:Nat) (o u:Oper) (d:Tmp),π[p]? = some i→π[q]? = some j→q<p→ops[i]? = some o→ops[j]? = some u→o.dst=some d→u.dst≠some d∧(d∈GT P u→(b.getD i 0).testBit j=true)
 rdst:∀ (p q i j:Nat) (o u:Oper) (d:Tmp),π[p]? = some i→π[q]? = some j→q<p→ops[i]? = some o→ops[j]? = some u→u.dst=some d→d∈GT P o→(b.getD i 0).testBit j=true
theorem MV{P:Program}{ops:Array Oper}{b:Array Nat}:∀ {l bef:List Nat},Fa P ops b bef l=true →
  (bef++l).length=ops.size∧∀p i:Nat,l[p]? = some i→PE P ops b (bef++l.take p) i=true:=by
 intro l
 induction l with
 | nil=>intro bef h;exact⟨by simpa using BB h,fun p i e=>by simp at e⟩
 | cons a l ih =>
  intro bef h
  simp only[Fa,Bool.and_eq_true]at h
  obtain⟨h1,h2⟩:=ih h.2
  refine⟨by simpa using h1,?_⟩
  intro p i e
  cases p with
  | zero=>simp at e;subst e;simpa using h.1
  | succ p=>simpa using h2 p i (by simpa using e)
theorem EL{ops:Array Oper}{i:Nat}{o:Oper}(h:ops[i]? = some o):ops.getD i default=o:=by simp[Array.getD_eq_getD_getElem?,h]
theorem GC{l:List Nat}{p j:Nat}:j∈l.take p↔∃q,q<p∧l[q]? = some j:=by
  rw[List.mem_iff_getElem?]
  constructor
  · rintro ⟨q, hq⟩
    rw[sL]at hq
    split at hq
    · exact⟨q,by assumption,hq⟩
    · cases hq
  · rintro⟨q,hlt,hq⟩
    exact⟨q,by rw[sL,if_pos hlt];exact hq⟩
theorem J6{P:Program}{ops:Array Oper}{b:Array Nat}{π:List Nat}(h:Fa P ops b [] π=true):Jd P ops b π:=by
 obtain⟨hlen,hst⟩:=MV h
 simp only[rL]at hlen hst
 have parts:=fun(p i:Nat) (e:π[p]? = some i)=>by
  have:=hst p i e
  unfold PE at this
  simpa only[Bool.and_eq_true,Bool.not_eq_true',Array.all_eq_true_iff_forall_mem,List.all_eq_true,Bool.or_eq_true]using this
 refine⟨hlen,?_,?_,?_,?_,?_,?_,?_⟩
 ·intro p i e
  have:=(parts p i e).1.1.1.1.1.1
  simpa[rJ]using this
 ·have one:∀p q i:Nat,π[p]? = some i→π[q]? = some i→q<p→False:=by
   intro p q i e1 e2 hlt
   have:=(parts p i e1).1.1.1.1.1.2
   have hm:i∈π.take p:=GC.2 ⟨q,hlt,e2⟩
   rw[List.contains_iff_mem.2 hm]at this
   cases this
  intro p q i e1 e2
  rcases rx p q with h' | h' | h'
  ·exact(one q p i e2 e1 h').elim
  ·exact h'
  ·exact(one p q i e1 e2 h').elim
 ·intro p i o e ho ed hed hb
  have:=(parts p i e).1.1.1.2
  rw[EL ho]at this
  rcases this ed hed with h' | h'
  ·rw[hb]at h';cases h'
  ·exact GC.1 (List.contains_iff_mem.1 h')
 ·intro p q i j o e1 e2 hlt ho he
  have:=(parts p i e1).1.1.2 j (GC.2 ⟨q,hlt,e2⟩)
  rw[EL ho,he]at this
  exact this.resolve_left (by simp)
 ·intro p i o j w e ho hg
  have:=(parts p i e).1.2
  rw[EL ho]at this
  exact this j (by simp[Uz,hg])
 ·intro p q i j o u d e1 e2 hlt ho hu hd
  have:=((parts p i e1).2 j (GC.2 ⟨q,hlt,e2⟩)).1
  rw[EL ho,EL hu,hd]at this
  simp only[Bool.and_eq_true,Bool.or_eq_true,Bool.not_eq_true',bne_iff_ne,ne_eq]at this
  refine⟨this.1,fun hm=>?_⟩
  rcases this.2 with h' | h'
  ·rw[List.contains_iff_mem.2 hm]at h';cases h'
  ·exact h'
 ·intro p q i j o u d e1 e2 hlt ho hu hd hm
  have:=((parts p i e1).2 j (GC.2 ⟨q,hlt,e2⟩)).2
  rw[EL ho,EL hu,hd]at this
  simp only[Bool.or_eq_true,Bool.not_eq_true']at this
  rcases this with h' | h'
  ·rw[List.contains_iff_mem.2 hm]at h';cases h'
  ·exact h'
theorem QW       : ∀ (m : Nat) (l : List Nat), l.Nodup → (∀ x ∈ l, x < m) → l.length ≤ m := by
  intro m
  induction m with
  | zero =>
    intro l _ h
    cases l with
    | nil=>simp
    | cons a l=>exact absurd (h a ql) (by omega)
  | succ m ih =>
    intro l hn h
    by_cases hm:m∈l
    · have h1:=ih (l.erase m) (hn.erase m) (fun x hx=>by
        have hx:=(hn.mem_erase_iff).1 hx
        have:=h x hx.2
        have:=hx.1
        omega)
      rw[List.length_erase_of_mem hm]at h1
      omega
    · have:=ih l hn (fun x hx=>by
        have:=h x hx
        have:x≠m:=fun e=>hm (e▸hx)
        omega)
      omega
theorem Jd.onto     {P : Program} {ops : Array Oper} {b : Array Nat} {π : List Nat} (h : Jd     P ops b π) {i : Nat} (hi : i < ops.size) : ∃ p : Nat, π[p]? = some i := by
  have hn:π.Nodup:=by
    refine List.pairwise_iff_getElem.2 ?_
    intro p q hp hq hpq e
    have:=h.inj p q (π[q]) (by rw[qp hp,e]) (qp hq)
    omega
  by_cases hm:i∈π
  · exact List.mem_iff_getElem?.1 hm
  · have hn' : (i :: π).Nodup := sR.2              ⟨hm, hn⟩
    have:=QW ops.size (i::π) hn' (fun x hx=>by
      rcases rI.1 hx with rfl | hx
      · exact hi
      · obtain⟨p,hp⟩:=List.mem_iff_getElem?.1 hx
        exact h.lt p x hp)
    simp only[qx,h.len]at this
    omega
structure NE where
 R:Nat→CP
 st:Nat→AE
 o:Nat→Oper
 sh:Nat→Sh
 want:Nat→Bool
 aS:Nat→List AV
 v:Nat→AV
structure PT(P:Program)(F:EH)(ops:Array Oper)(nt:Nat)(b:Array Nat)(π:List Nat)(D:NE):Prop where
 op:∀p i:Nat,π[p]? = some i→ops[i]? = some (D.o p)
 step:∀p,p<π.length→LD P F ops nt (D.R p) (D.st p) (D.o p) (D.sh p) (D.want p) (D.aS p) (D.v p) (D.R (p+1)) (D.st (p+1))
 ag:∀p q i j:Nat,π[p]? = some i→π[q]? = some j→q<p→(D.sh p).isEff=true→D.want p=true→(D.sh q).isRead=true→(b.getD i 0).testBit j=false→D.want q=true →
  Eu (D.sh q) (D.aS q) (D.st (p+1))=some (D.v q)
def IC{α:Type}(a:α)(f:Nat→α):Nat→α
 | 0=>a
 | p+1=>f p
theorem cS       {P : Program} {F : EH}  {ops : Array Oper} {nt : Nat} {b : Array Nat} {l : List Nat} {m : List R0}  {R R2 : CP}   {s s2 : AE}  (h : Trace P F ops nt b true l m R s R2 s2) :
    ∃D:NE,PT P F ops nt b l D∧D.R 0=R∧D.st 0=s∧D.R l.length=R2∧D.st l.length=s2 ∧
      (∀p i:Nat,l[p]? = some i→(D.sh p).isEff=true→D.want p=true→∀r∈m,(b.getD i 0).testBit r.idx=false→r.want=true→Eu r.sh r.aS (D.st (p+1))=some r.v):=by
  induction h with
  | nil =>
    rename_i m R s
    exact⟨⟨fun _=>R,fun _=>s,fun _=>default,fun _=>.callv,fun _=>false,fun _=>[],fun _=>Ar⟩,
      ⟨by intro p i h;simp at h,by intro p h;simp at h,by intro p q i j h;simp at h⟩,rfl,rfl,rfl,rfl,by intro p i h;simp at h⟩
  | cons ho hs ag hl ih =>
    rename_i i l m R R1 R2 s s1 s2 o sh want aS v
    obtain⟨D,h1,h2,h3,h4,h5,h6⟩:=ih
    refine⟨⟨IC R D.R,IC s D.st,IC o D.o,IC sh D.sh,IC want D.want,IC aS D.aS,IC v D.v⟩,⟨?_,?_,?_⟩,rfl,rfl,h4,h5,?_⟩
    · intro p j hp
      cases p with
      | zero=>simp at hp;subst hp;exact ho
      | succ p=>exact h1.op p j (by simpa using hp)
    · intro p hp
      cases p with
      | zero=>simp only[IC,h2,h3];exact hs
      | succ p=>exact h1.step p (by simpa using hp)
    · intro p q j k hp hq hlt he hw hr ht hwq
      cases p with
      | zero=>omega
      | succ p =>
        cases q with
        | zero =>
          simp at hq
          subst hq
          simp only[IC]at hr hwq he hw ⊢
          refine h6 p j (by simpa using hp) he hw ⟨i,sh,aS,v,want⟩ ?_ ht hwq
          rw[hr]
          exact ql
        | succ q=>exact h1.ag p q j k (by simpa using hp) (by simpa using hq) (by omega) he hw hr ht hwq
    · intro p j hp he hw r hr ht hwr
      cases p with
      | zero =>
        simp at hp
        subst hp
        simp only[IC,h3]at he hw ⊢
        exact ag rfl he hw r hr ht hwr
      | succ p =>
        refine h6 p j (by simpa using hp) he hw r ?_ ht hwr
        cases hb:(true && sh.isRead)with
        | true=>exact qo _ hr
        | false=>exact hr
theorem Ka{sh:Sh}{aS:List AV}{s:AE}{v:AV}(h:Eu sh aS s=some v):KB sh aS s=some (v,s):=by
  cases sh with
  | r1 f =>
    cases aS with
    | nil=>cases h
    | cons a l =>
      cases l with
      | nil=>have h:f s a=some v:=h;simp[KB,h,EG]
      | cons=>cases h
  | r f=>have h:f s aS=some v:=h;simp[KB,h,EG]
  | _=>cases h
theorem KY          {P : Program} {R : CP}   {o : Op} {sh : Sh} {xs : List Operand} {aS : List AV} {s s1 : AE}  {v : AV} (hsh : Bi      P o = some (sh, xs)) (he : EQ     R xs = some aS) (hr : sh.isRead = true) (h : KB  sh aS s = some (v, s1)) :
    Eu sh aS s=some v∧s1=s:=by
  have one:∀x:Operand,xs=[x]→∃a,aS=[a]:=by
    intro x e
    subst e
    simp only[EQ,qh]at he
    obtain⟨a,_,r,hr,he⟩:=he
    injection hr with hr
    injection he with he
    subst hr
    exact⟨a,he.symm⟩
  cases sh with
  | r1 f =>
    have:∃x,xs=[x]:=by
      cases o<;>first | (simp[Bi]at hsh;done) | skip
      case load t a=>injection hsh with hsh;injection hsh with h1 h2;exact⟨_,h2.symm⟩
      case convert src dst x=>injection hsh with hsh;injection hsh with h1 h2;exact⟨_,h2.symm⟩
      case makeMap t r=>cases r with
        | some _=>cases hsh
        | none=>injection hsh with hsh;injection hsh with h1 h2;cases h1
      case makeFunc fn first captured=>cases fn<;>first | (cases hsh;done) | (injection hsh with hsh;injection hsh with h1 h2;cases h1)
      case call c =>
        obtain⟨callee,args,argTypes⟩:=c
        simp only[Bi]at hsh
        split at hsh<;>first | (cases hsh;done) | skip
        split at hsh<;>first | (cases hsh;done) | skip
        all_goals (split at hsh<;>cases hsh)
    obtain⟨x,hx⟩:=this
    obtain⟨a,rfl⟩:=one x hx
    exact T0 h
  | r f=>exact RF h
  | _=>cases hr
section
variable{P:Program}{ρ ρ1 ρ2:Bq}{s s1 s2:AE}{w w1 w2:World}{R:CP}{a:Act}{ops:Array Oper}{rnd:Option Nat}{Q:Exit→Act→World→Prop}
theorem Mg{F:EH}(h:By P ρ s w)(hf:ρ s.next=none){nt i:Nat}{o:Oper}{sh:Sh}{want:Bool}{aS:List AV}{v:AV}{R1:CP}{K:Act→World→Prop}(ho:ops[i]? = some o)
  (hs:LD P F ops nt R s o sh want aS v R1 s1) (hne:sh.isEff=false) (hr:FN ρ R a.tmps) (hnt:nt≤a.tmps.size)
  (hk:∀v' w' ρ',Ad ρ' v v'→By P ρ' s1 w'→Fr ρ s w ρ' s1 w'→K (a.put o.dst v') w'):wpOpIn (P7 rnd) 0 P ops Q i K a w:=by
 unfold wpOpIn
 rw[ho]
 simp only
 obtain⟨xs,hsh,has⟩:=hs.shape
 rw[Nx hr hs.wants]
 cases want with
 | true =>
  simp only[if_true]
  refine⟨fun _ _=>trivial,?_⟩
  rw[Oper.semAt_eq _ _ _ (Ng hsh)]
  have hl:KB sh aS s=some (v,s1):=by
   have:=hs.yes rfl
   cases sh<;>first | exact this | cases hne
  exact Nf (kE h hf hsh (J7 hr has) hl).next hk
 | false =>
  simp only[Bool.false_eq_true,if_false]
  refine⟨fun _ _=>trivial,?_⟩
  obtain⟨rfl,rfl⟩:=hs.no rfl
  exact hk undef w ρ (Du ρ) h (Fr.refl _ _ _)
theorem By.same(h:By P ρ s w)(e:∀i rb,ρ i=some rb→s1.heap.get i=s.heap.get i):By P ρ s1 w:=
  ⟨fun i o rb hi hr=>h.obj i o rb (by rw[← e i rb hr];exact hi) hr,h.lt,
   fun i j oi oj ri rj hne hi hj hri hrj=>h.sep i j oi oj ri rj hne (by rw[← e i ri hri];exact hi) (by rw[← e j rj hrj];exact hj) hri hrj⟩
theorem Gq.same{b:Nat}(e:∀i rb,ρ i=some rb→s1.heap.get i=s.heap.get i)(h:Gq ρ s1 b):Gq ρ s b:=by
 obtain⟨i,o,rb,h1,h2,h3,h4⟩:=h
 exact⟨i,o,rb,by rw[← e i rb h3];exact h1,h2,h3,h4⟩
end
def Dn(π:List Nat)(listed:Array Bool)(p:Nat):Prop:=∃i:Nat,π[p]? = some i∧listed[i]? = some true
def Sh.isMk:Sh→Bool
 | .mk _=>true
 | _=>false
theorem Tt{P:Program}{ops:Array Oper}{b:Array Nat}{π:List Nat}(h:Fa P ops b [] π=true):∀p i j:Nat,π[p]? = some i→j<ops.size→(b.getD i 0).testBit j=true→∃q:Nat,q<p∧π[q]? = some j:=by
 intro p i j hp hj ht
 have:=(MV h).2 p i hp
 unfold PE at this
 simp only[Bool.and_eq_true,List.all_eq_true,Bool.or_eq_true,Bool.not_eq_true']at this
 have:=this.1.1.1.1.2 j (List.mem_range.2 hj)
 rcases this with h' | h'
 ·rw[ht]at h';cases h'
 ·simpa using GC.1 (List.contains_iff_mem.1 h')
theorem PT.regs_at {P : Program} {F : EH}  {ops : Array Oper} {nt : Nat} {b : Array Nat} {π : List Nat} {D : NE}    (ht : PT P F ops nt b π D) : ∀ p, p ≤ π.length → ∀ t x, D.R p t = some x →
    (∃q,q<p∧(D.o q).dst=some t∧x=D.v q)∨((∀q,q<p→(D.o q).dst≠some t)∧D.R 0 t=some x):=by
  intro p
  induction p with
  | zero=>intro _ t x h;exact .inr ⟨fun q hq=>by omega,h⟩
  | succ p ih =>
    intro hp t x h
    rw[(ht.step p (by omega)).put]at h
    have old:D.R p t=some x→(D.o p).dst≠some t→(∃q,q<p+1∧(D.o q).dst=some t∧x=D.v q)∨((∀q,q<p+1→(D.o q).dst≠some t)∧D.R 0 t=some x):=by
      intro h hne
      rcases ih (by omega) t x h with⟨q,h1,h2,h3⟩ | ⟨h1,h2⟩
      · exact .inl ⟨q,by omega,h2,h3⟩
      · refine .inr ⟨fun q hq => ?_, h2⟩
        rcases qk q p with h' | h'
        · exact h1 q h'
        · have:q=p:=by omega
          subst this;exact hne
    cases hd:(D.o p).dst with
    | none=>rw[hd]at h;exact old h (by rw[hd];simp)
    | some d =>
      rw[hd]at h
      by_cases e:t=d
      · subst e
        simp only[CP.put,if_true,Option.some.injEq]at h
        exact .inl ⟨p,by omega,hd,h.symm⟩
      · simp only[CP.put,if_neg e]at h
        exact old h (by rw[hd];intro e';injection e' with e';exact e e'.symm)
theorem JP{R R':CP}:∀ {xs:List Operand},(∀t,Operand.tmp t∈xs→R' t=R t)→EQ R' xs=EQ R xs
 | [],_=>rfl
 | x::l,h=>by
  have h1:Q5 R' x=Q5 R x:=by
   cases x with
   | tmp t=>exact h t ql
   | _=>rfl
  simp only[EQ,h1,JP fun t ht=>h t (qo _ ht)]
structure DJ(P:Program)(ops:Array Oper)(b:Array Nat)(π:List Nat)(D:NE)(ρ0:Bq)(w0:World)(a0:Act)(listed:Array Bool)(k:Nat)(ρ:Bq)(a:Act)(w:World):Prop where
 lsz:listed.size=ops.size
 kle:k≤π.length
 dlt:∀p,Dn π listed p→p<k
 eff:∀p,p<k→(D.sh p).isEff=true→Dn π listed p
 anc:∀p i:Nat,π[p]? = some i→Dn π listed p→∀j:Nat,j<ops.size→(b.getD i 0).testBit j=true→listed[j]? = some true
 inv:By P ρ (D.st k) w
 fresh:Bk ρ (D.st k)
 fr:Fr ρ0 (D.st 0) w0 ρ (D.st k) w
 unb:∀p,p<k→¬ Dn π listed p→D.want p=true→∀f,D.sh p=.mk f→∃ob m,f (D.aS p)=some (ob,m)∧D.v p=m.val (D.st p).next∧ρ (D.st p).next=none ∧
  (D.st k).heap.get (D.st p).next=some ob∧(D.st 0).next≤(D.st p).next∧(D.st p).next<(D.st k).next
 dis:∀p q,p<q→q<k→¬ Dn π listed p→¬ Dn π listed q→D.want p=true→D.want q=true→(D.sh p).isMk=true→(D.sh q).isMk=true→(D.st p).next≠(D.st q).next
 rds:∀q,q<k→¬ Dn π listed q→D.want q=true→(D.sh q).isRead=true→Eu (D.sh q) (D.aS q) (D.st k)=some (D.v q)
 sz:a.tmps.size=a0.tmps.size
 dfr:a.defers=a0.defers
 rw:∀p,Dn π listed p→∀d,(D.o p).dst=some d→Ad ρ (D.v p) (a.tmps.getD d undef)
 ri:∀t,(∀p,Dn π listed p→(D.o p).dst≠some t)→∀x,D.R 0 t=some x→Ad ρ x (a.tmps.getD t undef)
section
variable{P:Program}{F:EH}{ops:Array Oper}{nt:Nat}{b:Array Nat}{π:List Nat}{D:NE}{ρ0 ρ ρ1:Bq}{w0 w w1:World}{a0 a:Act}{listed:Array Bool}{k:Nat}{rnd:Option Nat}{Q:Exit→Act→World→Prop}
theorem DJ.adv1 (ht : PT P F ops nt b π D) (J : DJ P ops b π D ρ0 w0 a0 listed k ρ a w) (hk : k < π.length) (hne : (D.sh k).isEff = false) : DJ P ops b π D ρ0 w0 a0 listed (k + 1) ρ a w := by
  have hs:=ht.step k hk
  obtain⟨xs,hsh,has⟩:=hs.shape
  have lt1:∀p,Dn π listed p→p<k+1:=fun p h=>sK (J.dlt p h)
  have eff1:∀p,p<k+1→(D.sh p).isEff=true→Dn π listed p:=by
    intro p hp he
    rcases qk p k with h' | h'
    · exact J.eff p h' he
    · have:p=k:=by omega
      subst this;rw[he]at hne;cases hne
  have key:(D.st (k+1)=D.st k∧((D.sh k).isMk=true→D.want k=false)∧((D.sh k).isRead=true→D.want k=true→Eu (D.sh k) (D.aS k) (D.st k)=some (D.v k))) ∨
      ∃f ob m,D.sh k=.mk f∧D.want k=true∧f (D.aS k)=some (ob,m)∧D.v k=m.val (D.st k).next∧D.st (k+1)=newObj (D.st k) ob:=by
    cases hw:D.want k with
    | false =>
      obtain⟨_,h2⟩:=hs.no hw
      exact .inl ⟨h2,fun _=>rfl,fun _ e=>by cases e⟩
    | true =>
      have hy:=hs.yes hw
      cases he:D.sh k with
      | p1 f =>
        rw[he]at hy
        have hy:KB (.p1 f) (D.aS k) (D.st k)=some (D.v k,D.st (k+1)):=hy
        refine .inl ⟨?_,fun e=>(by cases e),fun e=>(by cases e)⟩
        simp only[KB]at hy
        split at hy<;>first | (cases hy;done) | exact(Cd hy).2
      | p2 f =>
        rw[he]at hy
        have hy:KB (.p2 f) (D.aS k) (D.st k)=some (D.v k,D.st (k+1)):=hy
        refine .inl ⟨?_,fun e=>(by cases e),fun e=>(by cases e)⟩
        simp only[KB]at hy
        split at hy<;>first | (cases hy;done) | exact(Cd hy).2
      | p f=>rw[he]at hy;exact .inl ⟨(Nq (show KB (.p f) _ _=_ from hy)).2,fun e=>(by cases e),fun e=>(by cases e)⟩
      | r1 f =>
        rw[he]at hy hsh
        have:=KY hsh has rfl (show KB (.r1 f) _ _=_ from hy)
        exact .inl ⟨this.2,fun e=>(by cases e),fun _ _=>this.1⟩
      | r f =>
        rw[he]at hy hsh
        have:=KY hsh has rfl (show KB (.r f) _ _=_ from hy)
        exact .inl ⟨this.2,fun e=>(by cases e),fun _ _=>this.1⟩
      | mk f =>
        rw[he]at hy
        obtain⟨ob,m,h1,h2,h3⟩:=KC (show KB (.mk f) _ _=_ from hy)
        exact .inr ⟨f,ob,m,rfl,rfl,h1,h2,h3⟩
      | e f=>rw[he]at hne;cases hne
      | call f=>rw[he]at hne;cases hne
      | callv=>rw[he]at hne;cases hne
  have ndk:¬ Dn π listed k:=fun h=>absurd (J.dlt k h) (Nat.lt_irrefl k)
  have split1:∀p,p<k+1→p<k∨p=k:=fun p h=>by omega
  rcases key with⟨e,hm,hrd⟩ | ⟨f,ob,m,he,hw,h1,h2,e⟩
  · refine ⟨J.lsz, hk, lt1, eff1, J.anc, by rw [e]; exact J.inv, by rw [e]; exact J.fresh, by rw [e]; exact J.fr, ?_, ?_, ?_, J.sz, J.dfr, J.rw, J.ri⟩
    · intro p hp hd hw f hf
      rcases split1 p hp with h' | rfl
      · rw[e];exact J.unb p h' hd hw f hf
      · rw[hm (by rw[hf];rfl)]at hw;cases hw
    · intro p q hpq hq d1 d2 w1 w2 m1 m2
      rcases split1 q hq with h' | rfl
      · exact J.dis p q hpq h' d1 d2 w1 w2 m1 m2
      · rw[hm m2]at w2;cases w2
    · intro q hq hd hw hr
      rw[e]
      rcases split1 q hq with h' | rfl
      · exact J.rds q h' hd hw hr
      · exact hrd hr hw
  · have hfr := J.fresh (D.st k).next (qg          _)
    have hg:∀i,i≠(D.st k).next→(newObj (D.st k) ob).heap.get i=(D.st k).heap.get i:=fun i hi=>by rw[Cb,if_neg hi]
    have hsame:∀i rb,ρ i=some rb→(newObj (D.st k) ob).heap.get i=(D.st k).heap.get i:=fun i rb hi=>hg i (fun q=>by subst q;rw[hfr.1]at hi;cases hi)
    refine⟨J.lsz,hk,lt1,eff1,J.anc,?_,?_,?_,?_,?_,?_,J.sz,J.dfr,J.rw,J.ri⟩
    · rw[e];exact J.inv.same hsame
    · rw[e]
      intro i hi
      have hi:(D.st k).next+1≤i:=hi
      have:=J.fresh i (by omega)
      exact⟨this.1,by rw[hg i (by omega)];exact this.2⟩
    · rw [e]
      refine⟨J.fr.le,fun i hi h'=>J.fr.fresh i hi (h'.imp id fun(h'':(D.st k).next+1≤i)=>by omega),Nat.le_succ_of_le J.fr.next,J.fr.size,J.fr.os,J.fr.tape,J.fr.output,J.fr.keep,fun bb hb=>J.fr.own bb (hb.same hsame),?_⟩
      intro i hi h'
      have hn:i≠(D.st k).next:=by
        have:=J.fr.next
        rcases h' with h' | h'
        · omega
        · have h':(D.st k).next+1≤i:=h'
          omega
      rw[hg i hn]
      exact J.fr.unborn i hi (h'.imp id fun(h'':(D.st k).next+1≤i)=>by omega)
    · intro p hp hd hw' f' hf
      rw[e]
      rcases split1 p hp with h' | rfl
      · obtain⟨ob',m',g1,g2,g3,g4,g5,g6⟩:=J.unb p h' hd hw' f' hf
        exact⟨ob',m',g1,g2,g3,by rw[hg _ (by omega)];exact g4,g5,sK g6⟩
      · rw[he]at hf
        injection hf with hf
        subst hf
        exact⟨ob,m,h1,h2,hfr.1,by rw[Cb,if_pos rfl],J.fr.next,rP _⟩
    · intro p q hpq hq d1 d2 w1 w2 m1 m2
      rcases split1 q hq with h' | rfl
      · exact J.dis p q hpq h' d1 d2 w1 w2 m1 m2
      · cases hsp:D.sh p with
        | mk fp=>obtain⟨_,_,_,_,_,_,_,g6⟩:=J.unb p hpq d1 w1 fp hsp;omega
        | _=>rw[hsp]at m1;cases m1
    · intro q hq hd hw' hr
      rw[e]
      rcases split1 q hq with h' | rfl
      · obtain⟨xq,hq1,_⟩:=(ht.step q (by omega)).shape
        exact WX (AE.sub_new hfr.2 ob) hq1 (J.rds q h' hd hw' hr)
      · rw[he]at hr;cases hr
theorem DJ.adv(ht:PT P F ops nt b π D):∀ (n k:Nat),n=π.length - k→DJ P ops b π D ρ0 w0 a0 listed k ρ a w→∃k',DJ P ops b π D ρ0 w0 a0 listed k' ρ a w∧(k'=π.length∨(D.sh k').isEff=true):=by
 intro n
 induction n with
 | zero=>intro k hn J;exact⟨k,J,.inl (by have:=J.kle;omega)⟩
 | succ n ih =>
  intro k hn J
  cases he:(D.sh k).isEff with
  | true=>exact⟨k,J,.inr he⟩
  | false=>exact ih (k+1) (by omega) (J.adv1 ht (by omega) he)
theorem mM(hp:Jd P ops b π){p i q:Nat}(hi:π[p]? = some i)(hl:listed.size=ops.size):Dn π (listed.setIfInBounds i true) q↔Dn π listed q∨q=p:=by
  have hlt:=hp.lt p i hi
  constructor
  · rintro⟨j,h1,h2⟩
    by_cases e:j=i
    · subst e;exact .inr (hp.inj q p j h1 hi)
    · rw[Array.getElem?_setIfInBounds_ne (Ne.symm e)]at h2
      exact .inl ⟨j,h1,h2⟩
  · rintro (⟨j, h1, h2⟩ | rfl)
    · refine⟨j,h1,?_⟩
      by_cases e:j=i
      · subst e;simp[hl,hlt]
      · rw[Array.getElem?_setIfInBounds_ne (Ne.symm e)];exact h2
    · exact⟨i,hi,by simp[hl,hlt]⟩
theorem Nm{a:Act}{d' d:Tmp}{v:Value}(h:d'≠d):(a.put (some d') v).tmps.getD d undef=a.tmps.getD d undef:=by
 simp[Act.put,Array.getD_eq_getD_getElem?,Array.getElem?_setIfInBounds_ne h]
theorem DJ.put (ht : PT P F ops nt b π D) (hp : Jd     P ops b π) (hnt : nt ≤ a0.tmps.size) (J : DJ P ops b π D ρ0 w0 a0 listed k ρ a w) {p i k' : Nat} (hi : π[p]? = some i) (hnd : ¬ Dn π listed p) (hpk : p < k') (hkk : k ≤ k') (hk'' : ∀ q, q < k' → q = p ∨ q < k) (hkn : k' ≤ π.length)
    (hanc:∀j:Nat,j<ops.size→(b.getD i 0).testBit j=true→listed[j]? = some true) {v':Value} (hv:Ad ρ1 (D.v p) v') (le:ρ.le ρ1)
    (inv:By P ρ1 (D.st k') w1) (fresh:Bk ρ1 (D.st k')) (fr:Fr ρ0 (D.st 0) w0 ρ1 (D.st k') w1)
    (unb:∀q,q<k→q≠p→¬ Dn π listed q→D.want q=true→∀f,D.sh q=.mk f→ρ1 (D.st q).next=none∧(D.st k').heap.get (D.st q).next=(D.st k).heap.get (D.st q).next∧(D.st q).next<(D.st k').next)
    (rds:∀q,q<k→q≠p→¬ Dn π listed q→D.want q=true→(D.sh q).isRead=true→Eu (D.sh q) (D.aS q) (D.st k')=some (D.v q)):
    DJ P ops b π D ρ0 w0 a0 (listed.setIfInBounds i true) k' ρ1 (a.put (D.o p).dst v') w1:=by
  have hlt:=hp.lt p i hi
  have hpl:p<π.length:=by omega
  have dn:=fun q=>mM (listed:=listed) (q:=q) hp hi J.lsz
  have up:∀j:Nat,listed[j]? = some true→(listed.setIfInBounds i true)[j]? = some true:=by
    intro j h
    by_cases e:j=i
    · subst e;simp[J.lsz,hlt]
    · rw[Array.getElem?_setIfInBounds_ne (Ne.symm e)];exact h
  have uniq:∀q r d,q<r→r<π.length→(D.o q).dst=some d→(D.o r).dst=some d→False:=by
    intro q r d hqr hr h1 h2
    have hr':=qp hr
    have hq':=qp (show q<π.length by omega)
    exact(hp.wdst r q _ _ _ _ d hr' hq' hqr (ht.op r _ hr') (ht.op q _ hq') h2).1 h1
  have nd:∀q,¬ Dn π (listed.setIfInBounds i true) q→¬ Dn π listed q∧q≠p:=fun q h=>⟨fun h'=>h ((dn q).2 (.inl h')),fun h'=>h ((dn q).2 (.inr h'))⟩
  refine⟨by simp[J.lsz],hkn,?_,?_,?_,inv,fresh,fr,?_,?_,?_,by rw[F2];exact J.sz,by rw[MX];exact J.dfr,?_,?_⟩
  · intro q hq
    rcases(dn q).1 hq with h' | rfl
    · exact qw (J.dlt q h') hkk
    · exact hpk
  · intro q hq he
    rcases hk'' q hq with rfl | h'
    · exact(dn q).2 (.inr rfl)
    · exact(dn q).2 (.inl (J.eff q h' he))
  · intro q j hj hq l hl hb
    rcases(dn q).1 hq with h' | rfl
    · exact up l (J.anc q j hj h' l hl hb)
    · rw[hi]at hj
      injection hj with hj
      subst hj
      exact up l (hanc l hl hb)
  · intro q hq hd hw f hf
    obtain⟨d1,d2⟩:=nd q hd
    have hqk:=(hk'' q hq).resolve_left d2
    obtain⟨ob,m,g1,g2,g3,g4,g5,g6⟩:=J.unb q hqk d1 hw f hf
    obtain⟨u1,u2,u3⟩:=unb q hqk d2 d1 hw f hf
    exact⟨ob,m,g1,g2,u1,by rw[u2];exact g4,g5,u3⟩
  · intro q r hqr hr d1 d2 w1 w2 m1 m2
    obtain⟨d1,e1⟩:=nd q d1
    obtain⟨d2,e2⟩:=nd r d2
    exact J.dis q r hqr ((hk'' r hr).resolve_left e2) d1 d2 w1 w2 m1 m2
  · intro q hq hd hw hr
    obtain⟨d1,d2⟩:=nd q hd
    exact rds q ((hk'' q hq).resolve_left d2) d2 d1 hw hr
  · intro q hq d hd
    rcases(dn q).1 hq with h' | rfl
    · have hqn : q < π.length := qw                 (J.dlt q h') J.kle
      have hne:(D.o p).dst≠some d:=by
        intro e
        rcases rx q p with h'' | h'' | h''
        · exact uniq q p d h'' hpl hd e
        · subst h'';exact hnd h'
        · exact uniq p q d h'' hqn e hd
      have:=(J.rw q h' d hd).mono le
      cases hdp:(D.o p).dst with
      | none=>exact this
      | some d' =>
        rw[Nm fun e=>hne (by rw[hdp,e])]
        exact this
    · have hd':d<a.tmps.size:=by
        rw[J.sz];exact qw ((ht.step q hpl).lt d hd) hnt
      rw[hd]
      simpa[Act.put,Array.getD_eq_getD_getElem?,hd']using hv
  · intro t hq x hx
    have hne:(D.o p).dst≠some t:=hq p ((dn p).2 (.inr rfl))
    have:=(J.ri t (fun q h'=>hq q ((dn q).2 (.inl h'))) x hx).mono le
    cases hdp:(D.o p).dst with
    | none=>exact this
    | some d' =>
      rw[Nm fun e=>hne (by rw[hdp,e])]
      exact this
end
section
variable{P:Program}{F:EH}{ops:Array Oper}{nt:Nat}{b:Array Nat}{π:List Nat}{D:NE}{ρ0 ρ ρ1:Bq}{w0 w w1:World}{a0 a:Act}{listed:Array Bool}{k:Nat}{rnd:Option Nat}{Q:Exit→Act→World→Prop}
theorem DJ.ahead(hp:Jd P ops (Region.before ops) π)(J:DJ P ops (Region.before ops) π D ρ0 w0 a0 listed k ρ a w){p i:Nat}(hi:π[p]? = some i){o:Oper}(ho:ops[i]? = some o)
  (hr:∀e∈o.after,Region.binds .any e=true→listed.getD e.on false=true):∀j:Nat,j<ops.size→((Region.before ops).getD i 0).testBit j=true→listed[j]? = some true:=by
 intro j hj ht
 have lst:∀x:Nat,listed.getD x false=true→listed[x]? = some true:=by
  intro x hx
  rw[Array.getD_eq_getD_getElem?]at hx
  cases h:listed[x]? with
  | none=>rw[h]at hx;cases hx
  | some v=>rw[h]at hx;simp at hx;rw[hx]
 obtain⟨o',ho',e,he,hb,h'⟩:=PX ops i j ht
 rw[ho]at ho'
 injection ho' with ho'
 subst ho'
 have hl:=lst _ (hr e he hb)
 rcases h' with rfl | h'
 ·exact hl
 ·obtain⟨q,_,hq⟩:=hp.edge p i o hi ho e he hb
  exact J.anc q e.on hq ⟨e.on,hq,hl⟩ j hj h'
def QU(P:Program)(ops:Array Oper)(o:Oper)(t:Tmp):Prop:=t∈GT P o∨∃ (j:Nat)(want:Bool)(u:Oper),o.guard=some (j,want)∧ops[j]? = some u∧u.dst=some t
open Classical in
def Kg (P:Program) (ops:Array Oper) (o:Oper) (R:CP):CP:=fun t=>if QU P ops o t then R t else none
theorem RT{o:Oper}{R:CP}{t:Tmp}(h:QU P ops o t):Kg P ops o R t=R t:=by unfold Kg;rw[if_pos h]
theorem UK{o:Oper}{R:CP}:JY ops (Kg P ops o R) o=JY ops R o:=by
 unfold JY
 cases hg:o.guard with
 | none=>rfl
 | some g =>
  obtain⟨j,want⟩:=g
  simp only
  cases hj:ops[j]? with
  | none=>rfl
  | some u =>
   cases hd:u.dst with
   | none=>simp[hd]
   | some d=>simp only[Option.bind_some,hd];rw[RT (.inr ⟨j,want,u,hg,hj,hd⟩)]
theorem DJ.view (ht : PT P F ops nt (Region.before ops) π D) (hpl : Fa     P ops (Region.before ops) [] π = true) (hr0 : FN   ρ0 (D.R 0) a0.tmps) (hnt : nt ≤ a0.tmps.size)
    (J:DJ P ops (Region.before ops) π D ρ0 w0 a0 listed k ρ a w) {p i:Nat} (hi:π[p]? = some i) (hnd:¬ Dn π listed p)
    (hanc:∀j:Nat,j<ops.size→((Region.before ops).getD i 0).testBit j=true→listed[j]? = some true):FN ρ (Kg P ops (D.o p) (D.R p)) a.tmps:=by
  have hp:=J6 hpl
  have hlt:=hp.lt p i hi
  have hpn:p<π.length:=by
    rcases qk p π.length with h' | h'
    · exact h'
    · rw[rA h']at hi;cases hi
  have hoi:=ht.op p i hi
  have place:∀ (q:Nat) (h:q<π.length),π[q]? = some π[q]:=fun q hq=>qp hq
  have uniq:∀q r d,q<π.length→r<π.length→(D.o q).dst=some d→(D.o r).dst=some d→q=r:=by
    have one:∀q r d,q<r→r<π.length→(D.o q).dst=some d→(D.o r).dst=some d→False:=by
      intro q r d hqr hr h1 h2
      exact(hp.wdst r q _ _ _ _ d (place r hr) (place q (by omega)) hqr (ht.op r _ (place r hr)) (ht.op q _ (place q (by omega))) h2).1 h1
    intro q r d hq hr h1 h2
    rcases rx q r with h' | h' | h'
    · exact(one q r d h' hr h1 h2).elim
    · exact h'
    · exact(one r q d h' hq h2 h1).elim
  intro t x hx
  unfold Kg at hx
  split at hx
  · rename_i hn
    have gd:∀ (j:Nat) (want:Bool) (u:Oper),(D.o p).guard=some (j,want)→ops[j]? = some u→u.dst=some t→∃q,q<p∧Dn π listed q∧(D.o q).dst=some t:=by
      intro j want u h1 h2 h3
      have hj:j<ops.size:=by
        rcases qk j ops.size with h' | h'
        · exact h'
        · rw[Array.getElem?_eq_none h']at h2;cases h2
      have hb:=hp.guard p i (D.o p) j want hi hoi h1
      obtain⟨q,hqp,hq⟩:=Tt hpl p i j hi hj hb
      refine⟨q,hqp,⟨j,hq,hanc j hj hb⟩,?_⟩
      have:=ht.op q j hq
      rw[h2]at this
      injection this with this
      rw[← this];exact h3
    have fin:∀ {y:AV},Ad ρ y (a.tmps.getD t undef)→t<a0.tmps.size→t<a.tmps.size∧Ad ρ y (a.tmps.getD t undef):=fun h1 h2=>⟨by rw[J.sz];exact h2,h1⟩
    rcases ht.regs_at p (Nat.le_of_lt hpn) t x hx with⟨q,hq,hd,rfl⟩ | ⟨hno,h0⟩
    · have hqn : q < π.length := by omega
      have dq:Dn π listed q:=by
        rcases hn with hn | ⟨j,want,u,h1,h2,h3⟩
        · have hb:=hp.rdst p q i _ _ _ t hi (place q hqn) hq hoi (ht.op q _ (place q hqn)) hd hn
          exact⟨π[q],place q hqn,hanc _ (hp.lt q _ (place q hqn)) hb⟩
        · obtain⟨r,hr1,hr2,hr3⟩:=gd j want u h1 h2 h3
          have:=uniq q r t hqn (by omega) hd hr3
          subst this;exact hr2
      exact fin (J.rw q dq t hd) (qw ((ht.step q hqn).lt t hd) hnt)
    · refine fin (J.ri t ?_ x h0) (hr0 t x h0).1
      intro q dq hd
      have hqn:q<π.length:=qw (J.dlt q dq) J.kle
      have hpq:p<q:=by
        rcases rx q p with h' | h' | h'
        · exact absurd hd (hno q h')
        · subst h';exact absurd dq hnd
        · exact h'
      rcases hn with hn | ⟨j,want,u,h1,h2,h3⟩
      · have hb:=(hp.wdst q p _ i _ _ t (place q hqn) hi hpq (ht.op q _ (place q hqn)) hoi hd).2 hn
        exact hnd ⟨i,hi,J.anc q _ (place q hqn) dq i hlt hb⟩
      · obtain⟨r,hr1,hr2,hr3⟩:=gd j want u h1 h2 h3
        exact absurd hr3 (hno r hr1)
  · cases hx
theorem OZ{o:Oper}{sh:Sh}{xs:List Operand}(h:Bi P o.op=some (sh,xs)):P4 P o=sh.isEff:=by unfold P4;rw[h]
theorem DJ.run (hF : cZ  P F) (ht : PT P F ops nt (Region.before ops) π D) (hpl : Fa     P ops (Region.before ops) [] π = true) (hr0 : FN   ρ0 (D.R 0) a0.tmps) (hnt : nt ≤ a0.tmps.size)
    (J:DJ P ops (Region.before ops) π D ρ0 w0 a0 listed k ρ a w) (htop:k=π.length∨(D.sh k).isEff=true) {p i:Nat} (hi:π[p]? = some i) (hnd:¬ Dn π listed p)
    (hanc:∀j:Nat,j<ops.size→((Region.before ops).getD i 0).testBit j=true→listed[j]? = some true) {K:Act→World→Prop}
    (hK:∀k' ρ' a' w',DJ P ops (Region.before ops) π D ρ0 w0 a0 (listed.setIfInBounds i true) k' ρ' a' w'→K a' w'):wpOpIn (P7 rnd) 0 P ops Q i K a w:=by
  have hp:=J6 hpl
  have hpn:p<π.length:=by
    rcases qk p π.length with h' | h'
    · exact h'
    · rw[rA h']at hi;cases hi
  have place:∀ (q:Nat) (h:q<π.length),π[q]? = some π[q]:=fun q hq=>qp hq
  have hoi:=ht.op p i hi
  have hs:=ht.step p hpn
  obtain⟨xs,hsh,has⟩:=hs.shape
  have hv:=J.view ht hpl hr0 hnt hi hnd hanc
  have hkp:p≤k:=by
    rcases qk k p with h' | h'
    · have hkn : k < π.length := by omega
      have he:(D.sh k).isEff=true:=htop.resolve_left (by omega)
      obtain⟨xk,hk1,_⟩:=(ht.step k hkn).shape
      have hb:=hp.eff p k i _ _ hi (place k hkn) h' (ht.op k _ (place k hkn)) (by rw[OZ hk1];exact he)
      have:=J.dlt k ⟨π[k],place k hkn,hanc _ (hp.lt k _ (place k hkn)) hb⟩
      omega
    · exact h'
  have hno:p<k→(D.sh p).isEff=false:=fun h'=>by
    cases he:(D.sh p).isEff with
    | false=>rfl
    | true=>exact absurd (J.eff p h' he) hnd
  have hnt':nt≤a.tmps.size:=by rw[J.sz];exact hnt
  have has':EQ (Kg P ops (D.o p) (D.R p)) xs=some (D.aS p):=by
    rw[JP fun t htx=>RT (.inl (V4 hsh htx))];exact has
  have sok:∀ {s s1:AE},(D.want p=true→cX F (D.sh p) (D.aS p) s=some (D.v p,s1))→(D.want p=false→s1=s) →
      LD P F ops nt (Kg P ops (D.o p) (D.R p)) s (D.o p) (D.sh p) (D.want p) (D.aS p) (D.v p) ((Kg P ops (D.o p) (D.R p)).put (D.o p).dst (D.v p)) s1:=fun h1 h2 =>
    ⟨⟨xs,hsh,has'⟩,by rw[UK];exact hs.wants,rfl,hs.lt,h1,fun hw=>⟨(hs.no hw).1,h2 hw⟩⟩
  rcases qk p k with hlt | hge
  ·
    have hne:=hno hlt
    have same:∀ {v':Value} {w':World} {ρ':Bq},Ad ρ' (D.v p) v'→By P ρ' (D.st k) w'→Fr ρ (D.st k) w ρ' (D.st k) w'→K (a.put (D.o p).dst v') w':=by
      intro v' w' ρ' h1 h2 h3
      refine hK k ρ' _ w' (J.put ht hp hnt hi hnd hlt (qg k) (fun q hq=>.inr hq) J.kle hanc h1 h3.le h2 (J.fresh.step h3) (J.fr.trans h3) ?_ ?_)
      · intro q hq _ hd hw f hf
        obtain⟨ob,m,g1,g2,g3,g4,g5,g6⟩:=J.unb q hq hd hw f hf
        exact⟨h3.fresh _ g3 (.inl g6),rfl,g6⟩
      · intro q hq _ hd hw hr
        exact J.rds q hq hd hw hr
    have quiet:(D.want p=true→cX F (D.sh p) (D.aS p) (D.st k)=some (D.v p,D.st k))→wpOpIn (P7 rnd) 0 P ops Q i K a w:=fun hy =>
      Mg J.inv (J.fresh _ (qg _)).1 hoi (sok hy fun _=>rfl) hne hv hnt' fun v' w' ρ' h1 h2 h3=>same h1 h2 h3
    cases hw:D.want p with
    | false=>exact quiet (fun e=>by rw[hw]at e;cases e)
    | true =>
      have hy:=hs.yes hw
      cases he:D.sh p with
      | p1 f =>
        refine quiet fun _=>?_
        rw[he]at hy ⊢
        simp only[cX,KB]at hy ⊢
        split at hy<;>first | (cases hy;done) | (rw[(Cd hy).1];rfl)
      | p2 f =>
        refine quiet fun _=>?_
        rw[he]at hy ⊢
        simp only[cX,KB]at hy ⊢
        split at hy<;>first | (cases hy;done) | (rw[(Cd hy).1];rfl)
      | p f =>
        refine quiet fun _=>?_
        rw[he]at hy ⊢
        simp only[cX,KB]at hy ⊢
        rw[(Cd hy).1];rfl
      | r1 f =>
        refine quiet fun _=>?_
        have:=Ka (J.rds p hlt hnd hw (by rw[he];rfl))
        rw[he]at this ⊢
        exact this
      | r f =>
        refine quiet fun _=>?_
        have:=Ka (J.rds p hlt hnd hw (by rw[he];rfl))
        rw[he]at this ⊢
        exact this
      | mk f =>
        obtain⟨ob,m,g1,g2,g3,g4,g5,g6⟩:=J.unb p hlt hnd hw f he
        let s':AE:={ next:=(D.st p).next,heap:=(D.st k).heap }
        have hinv:By P ρ s' w:=J.inv.same fun _ _ _=>rfl
        have hsame:∀x,(newObj s' ob).heap.get x=(D.st k).heap.get x:=by
          intro x
          rw[Cb]
          by_cases e:x=s'.next
          · rw[if_pos e,e];exact g4.symm
          · rw[if_neg e]
        refine Mg hinv g3 hoi (sok (s1:=newObj s' ob) (fun _=>?_) (fun e=>by rw[hw]at e;cases e)) hne hv hnt' ?_
        · rw[he]
          simp only[cX,KB,g1,QR,g2]
          rfl
        · intro v' w' ρ' h1 h2 h3
          have h2':By P ρ' (D.st k) w':=h2.same fun x _ _=>(hsame x).symm
          have hid:(D.st p).next+1≤(D.st k).next:=g6
          refine hK k ρ' _ w' (J.put ht hp hnt hi hnd hlt (qg k) (fun q hq=>.inr hq) J.kle hanc h1 h3.le h2' ?_ ?_ ?_ ?_)
          · intro x hx
            have:=J.fresh x hx
            exact⟨h3.fresh x this.1 (.inr (show(D.st p).next+1≤x by omega)),this.2⟩
          · refine ⟨Bq.le_trans  J.fr.le h3.le, ?_, J.fr.next, qs           J.fr.size h3.size, h3.os.trans J.fr.os, h3.tape.trans J.fr.tape, h3.output.trans J.fr.output, ?_, ?_, J.fr.unborn⟩
            · intro x hx h'
              refine h3.fresh x (J.fr.fresh x hx h') ?_
              rcases h' with h' | h'
              · exact .inl (show x<(D.st p).next by omega)
              · exact .inr (show(D.st p).next+1≤x by omega)
            · intro bb hb ho
              have hb':bb<w.heap.size:=qw hb J.fr.size
              refine(h3.keep bb hb' ?_).trans (J.fr.keep bb hb ho)
              intro ho'
              have ho'':Gq ρ (D.st k) bb:=ho'
              exact(J.fr.own bb ho'').elim ho (fun hge=>by omega)
            · intro bb hb
              have hb':Gq ρ' (newObj s' ob) bb:=hb.same fun x _ _=>(hsame x).symm
              rcases h3.own bb hb' with h' | h'
              · exact J.fr.own bb h'
              · exact .inr (qs J.fr.size h')
          · intro q hq hqp hd hwq fq hfq
            obtain⟨_,_,_,_,u3,_,_,u6⟩:=J.unb q hq hd hwq fq hfq
            have hne':(D.st q).next≠(D.st p).next:=by
              rcases rx q p with h' | h' | h'
              · exact J.dis q p h' hlt hd hnd hwq hw (by rw[hfq];rfl) (by rw[he];rfl)
              · exact absurd h' hqp
              · exact(J.dis p q h' hq hnd hd hw hwq (by rw[he];rfl) (by rw[hfq];rfl)).symm
            refine⟨h3.fresh _ u3 ?_,rfl,u6⟩
            rcases Nat.lt_or_gt_of_ne hne' with h' | h'
            · exact .inl h'
            · exact .inr h'
          · intro q hq _ hd hwq hr
            exact J.rds q hq hd hwq hr
      | e f=>rw[he]at hne;cases hne
      | call f=>rw[he]at hne;cases hne
      | callv=>rw[he]at hne;cases hne
  ·
    have hpk:p=k:=by omega
    subst hpk
    have hkn:p<π.length:=hpn
    have he:(D.sh p).isEff=true:=htop.resolve_left (by omega)
    refine VF hF J.inv J.fresh hoi (sok (s1:=D.st (p+1)) hs.yes (fun e=>(hs.no e).2)) hv hnt' ?_
    intro v' w' ρ' h1 h2 h3
    refine hK (p+1) ρ' _ w' (J.put ht hp hnt hi hnd (rP p) (sB p) (fun q hq=>by omega) hkn hanc h1 h3.le h2 (J.fresh.step h3) (J.fr.trans h3) ?_ ?_)
    · intro q hq _ hd hw f hf
      obtain⟨ob,m,g1,g2,g3,g4,g5,g6⟩:=J.unb q hq hd hw f hf
      exact⟨h3.fresh _ g3 (.inl g6),h3.unborn _ g3 (.inl g6),qw g6 h3.next⟩
    · intro q hq _ hd hw hr
      have hqn:q<π.length:=by omega
      cases hwp:D.want p with
      | false=>rw[(hs.no hwp).2];exact J.rds q hq hd hw hr
      | true =>
        refine ht.ag p q i _ hi (place q hqn) hq he hwp hr ?_ hw
        cases hb:((Region.before ops).getD i 0).testBit π[q]with
        | false=>rfl
        | true=>exact absurd ⟨π[q],place q hqn,hanc _ (hp.lt q _ (place q hqn)) hb⟩ hd
theorem DJ.any (hF : cZ  P F) (ht : PT P F ops nt (Region.before ops) π D) (hpl : Fa     P ops (Region.before ops) [] π = true) (hr0 : FN   ρ0 (D.R 0) a0.tmps) (hnt : nt ≤ a0.tmps.size)
    (hq:∀a' w' ρ',By P ρ' (D.st π.length) w'→Bk ρ' (D.st π.length)→Fr ρ0 (D.st 0) w0 ρ' (D.st π.length) w'→FN ρ' (D.R π.length) a'.tmps→a'.tmps.size=a0.tmps.size→a'.defers=a0.defers→Q .normal a' w'):
    ∀ (fuel:Nat) (listed:Array Bool) (k:Nat) (ρ:Bq) (a:Act) (w:World),DJ P ops (Region.before ops) π D ρ0 w0 a0 listed k ρ a w→(∀l:List Nat,l.Nodup→(∀i∈l,listed[i]? = some false)→l.length≤fuel) →
      wpAnyIn (P7 rnd) 0 P .any ops Q fuel listed a w:=by
  have hp:=J6 hpl
  have place:∀ (q:Nat) (h:q<π.length),π[q]? = some π[q]:=fun q hq=>qp hq
  have bool:∀ {listed:Array Bool} {i:Nat},i<listed.size→listed[i]?≠some true→listed[i]? = some false:=by
    intro listed i hi h
    rw[Array.getElem?_eq_getElem hi]at h ⊢
    cases hb:listed[i]with
    | true=>rw[hb]at h;exact absurd rfl h
    | false=>rfl
  have all:∀ {listed:Array Bool} {k:Nat} {ρ:Bq} {a:Act} {w:World},DJ P ops (Region.before ops) π D ρ0 w0 a0 listed k ρ a w→Region.ready .any ops listed=[]→∀p,p<π.length→Dn π listed p:=by
    intro listed k ρ a w J hr p
    induction p using Nat.strongRecOn with
    | ind p ih =>
      intro hpn
      refine Classical.byContradiction fun hnd=>?_
      have hi:=place p hpn
      have hlt:=hp.lt p _ hi
      have hoi:=ht.op p _ hi
      have hf:listed[π[p]]? = some false:=bool (by rw[J.lsz];exact hlt) fun h=>hnd ⟨_,hi,h⟩
      have hm:π[p]∈Region.ready .any ops listed:=by
        refine mem_ready.2 ⟨by simp[Array.getD_eq_getD_getElem?,hf],D.o p,hoi,?_⟩
        intro e he hb
        obtain⟨q,hqp,hq'⟩:=hp.edge p _ _ hi hoi e he hb
        obtain⟨j,hj,hl⟩:=ih q hqp (by omega)
        rw[hq']at hj
        injection hj with hj
        subst hj
        simp[Array.getD_eq_getD_getElem?,hl]
      rw[hr]at hm
      cases hm
  have done:∀ {listed:Array Bool} {k:Nat} {ρ:Bq} {a:Act} {w:World},DJ P ops (Region.before ops) π D ρ0 w0 a0 listed k ρ a w→Region.ready .any ops listed=[]→Q .normal a w:=by
    intro listed k ρ a w J hr
    have hall:=all J hr
    have hk:k=π.length:=by
      rcases qk k π.length with h' | h'
      · have:=J.dlt k (hall k h');omega
      · have:=J.kle;omega
    subst hk
    refine hq a w ρ J.inv J.fresh J.fr ?_ J.sz J.dfr
    intro t x hx
    rcases ht.regs_at π.length (qg _) t x hx with⟨q,hqn,hd,rfl⟩ | ⟨hno,h0⟩
    · exact⟨by rw[J.sz];exact qw ((ht.step q hqn).lt t hd) hnt,J.rw q (hall q hqn) t hd⟩
    · exact⟨by rw[J.sz];exact(hr0 t x h0).1,J.ri t (fun q dq=>hno q (J.dlt q dq)) x h0⟩
  intro fuel
  induction fuel with
  | zero =>
    intro listed k ρ a w J hfu
    have hr:Region.ready .any ops listed=[]:=by
      cases hr:Region.ready .any ops listed with
      | nil=>rfl
      | cons i l =>
        have hm:i∈Region.ready .any ops listed:=by rw[hr];exact ql
        obtain⟨h1,o,ho,_⟩:=mem_ready.1 hm
        have hlt:i<ops.size:=by
          rcases qk i ops.size with h' | h'
          · exact h'
          · rw[Array.getElem?_eq_none h']at ho;cases ho
        have:=hfu [i] (by simp) (fun j hj=>by
          have:j=i:=by simpa using hj
          subst this
          refine bool (by rw[J.lsz];exact hlt) fun h=>?_
          simp[Array.getD_eq_getD_getElem?,h]at h1)
        simp at this
    exact⟨hr,done J hr⟩
  | succ fuel ih =>
    intro listed k ρ a w J hfu
    obtain⟨k,J,htop⟩:=J.adv ht _ k rfl
    refine⟨done J,fun i hm=>?_⟩
    obtain⟨h1,o,ho,hr⟩:=mem_ready.1 hm
    have hlt:i<ops.size:=by
      rcases qk i ops.size with h' | h'
      · exact h'
      · rw[Array.getElem?_eq_none h']at ho;cases ho
    obtain⟨p,hi⟩:=hp.onto hlt
    have hf:listed[i]?≠some true:=fun h=>by simp[Array.getD_eq_getD_getElem?,h]at h1
    have hnd:¬ Dn π listed p:=fun⟨j,hj,hl⟩=>by
      rw[hi]at hj
      injection hj with hj
      subst hj
      exact hf hl
    refine J.run hF ht hpl hr0 hnt htop hi hnd (J.ahead hp hi ho hr) ?_
    intro k' ρ' a' w' J'
    refine ih _ k' ρ' a' w' J' ?_
    intro l hn hl
    have hil:i ∉ l:=fun h=>by
      have:=hl i h
      simp[J.lsz,hlt]at this
    have:=hfu (i::l) (sR.2 ⟨hil,hn⟩) (fun j hj=>by
      rcases rI.1 hj with rfl | hj
      · exact bool (by rw[J.lsz];exact hlt) hf
      · have:=hl j hj
        rw[Array.getElem?_setIfInBounds_ne (fun e=>hil (by rw[e];exact hj))]at this
        exact this)
    simpa using this
theorem aW(hF:cZ P F){R R2:CP}{s s2:AE}(htr:Trace P F ops nt (Region.before ops) true π [] R s R2 s2)(hpl:Fa P ops (Region.before ops) [] π=true)
  (h:By P ρ s w) (hf:Bk ρ s) (hr:FN ρ R a.tmps) (hnt:nt≤a.tmps.size)
  (hq:∀a' w' ρ',By P ρ' s2 w'→Bk ρ' s2→Fr ρ s w ρ' s2 w'→FN ρ' R2 a'.tmps→a'.tmps.size=a.tmps.size→a'.defers=a.defers→Q .normal a' w'):
  wpAnyIn (P7 rnd) 0 P .any ops Q ops.size (Array.replicate ops.size false) a w:=by
 obtain⟨D,ht,e1,e2,e3,e4,_⟩:=cS htr
 subst e1;subst e2;subst e3;subst e4
 have nodn:∀p,¬ Dn π (Array.replicate ops.size false) p:=by
  rintro p ⟨i,_,h⟩
  rw[Array.getElem?_replicate]at h
  split at h<;>cases h
 refine DJ.any hF ht hpl hr hnt hq ops.size _ 0 ρ a w ⟨by simp,qm _,fun p h=>(nodn p h).elim,fun p h=>by omega,fun p i _ h=>(nodn p h).elim,h,hf,Fr.refl _ _ _,fun p h=>by omega,fun p q _ h=>by omega,fun p h=>by omega,rfl,rfl,fun p h=>(nodn p h).elim,?_⟩ ?_
 ·intro t _ x hx
  exact(hr t x hx).2
 ·intro l hn hl
  refine QW ops.size l hn fun i hi=>?_
  have:=hl i hi
  rw[Array.getElem?_replicate]at this
  split at this
  ·assumption
  ·cases this
end
section
variable{P:Program}{ρ ρ1 ρ2:Bq}{s s1 s2:AE}{w w1 w2:World}
theorem RN{b:Frame}{a:Act}{k:List Item}{cs:List Frame}{c:Code}:step P (lone (b.atR a (.code (.scope c)::k)) cs w)=.next (lone (b.atR a (.code c::.inScope c::k)) cs w):=
 step_lone_go (by simp[stepG,stepG.exec,Frame.atR])
theorem M9{b:Frame}{a:Act}{k:List Item}{cs:List Frame}{c:Code}:step P (lone (b.atR a (.inScope c::k)) cs w)=.next (lone (b.atR a k) cs w):=
 step_lone_go (by simp[stepG,stepG.exec,Frame.atR])
def eg(Q:Exit→Act→World→Prop):Exit→Act→World→Prop
 | .goto _,_,_=>False
 | e,a,w=>Q e a w
theorem UL{F:Fence}{n:Nat}{Q:Exit→Act→World→Prop}{a:Act}{c:Code}(h:c.wpIn F n P (eg Q) a w):(Code.scope c).wpIn F n P Q a w:=by
 intro b k cs hro hb hr
 obtain⟨e,a₁,w₁,hq,harr⟩:=h b (.inScope c::k) cs hro hb hr
 have h1:StepsIn (Machine.fenced P F) P (lone (b.atR a (.code (.scope c)::k)) cs w) (lone (b.atR a (.code c::.inScope c::k)) cs w):=.one (fenced_calm hb hr rfl) RN
 cases e with
 | normal=>exact⟨.normal,a₁,w₁,hq,h1.trans (StepsIn.trans harr (.one (fenced_calm hb hr rfl) M9))⟩
 | exit id=>exact⟨.exit id,a₁,w₁,hq,.of_steps h1 ⟨fun k' hk=>harr.1 k' (by simpa[exitTo]using hk),fun h2 hk=>harr.2 h2 (by simpa[exitTo]using hk)⟩⟩
 | goto l=>exact hq.elim
 | ret=>exact⟨.ret,a₁,w₁,hq,ArrivesIn.of_steps (k:=k) (e:=.ret) h1 harr⟩
 | panic ch=>exact⟨.panic ch,a₁,w₁,hq,ArrivesIn.of_steps (k:=k) (e:=.panic ch) h1 harr⟩
 | outgrown=>exact⟨.outgrown,a₁,w₁,hq,ArrivesIn.of_steps (k:=k) (e:=.outgrown) h1 harr⟩
structure Dc(P:Program)(ρ:Bq)(fn:Func)(var:List AV)(tmps:Array Value):Prop where
 len:var.length=(BS P fn).length
 rel:ES ρ (BS P fn) var tmps
 size:fn.ntmps≤tmps.size
theorem Dc.mono{fn:Func}{var:List AV}{tmps:Array Value}(h:Dc P ρ fn var tmps)(le:ρ.le ρ1):Dc P ρ1 fn var tmps:=⟨h.len,h.rel.mono le,h.size⟩
def J8(vars:List Tmp)(var:List AV):CP:=fun t=>(CA vars t).bind fun k=>var[k]?
theorem KZ{vars:List Tmp}{var:List AV}(h:var.length=vars.length):Ef vars ⟨[],0⟩ [] var (J8 vars var):=by
 refine⟨h,fun t p e=>(by cases e),fun t x e=>(by cases e),?_⟩
 intro t x hx
 unfold Ev at hx
 simp only[Es]at hx
 simp only[qh]at hx
 obtain⟨j,h1,h2⟩:=hx
 injection h2 with h2
 subst h2
 have hj:j<var.length:=by rw[h];exact FZ h1
 simp only[J8,h1,Option.bind_some,Cm,Dw]
 rw[qp hj,Oy (qp hj)]
theorem HO{fn:Func}{var:List AV}{tmps:Array Value}(h:Dc P ρ fn var tmps):FN ρ (J8 (BS P fn) var) tmps:=by
 intro t v hv
 simp only[J8,qh]at hv
 obtain⟨k,h1,h2⟩:=hv
 obtain⟨h3,v',h4,h5⟩:=h.rel t k h1
 rw[h2]at h4
 injection h4 with h4
 subst h4
 exact⟨h3,h5⟩
theorem Wq{fn:Func}{c:cY}{loc var:List AV}{R:CP}{tmps:Array Value}(hc:Ef (BS P fn) c loc var R)(hr:FN ρ R tmps)(hs:fn.ntmps≤tmps.size):Dc P ρ fn var tmps:=by
 refine⟨hc.vlen,?_,hs⟩
 intro t k hk
 have hl:Es c.map t=none:=by
  cases h:Es c.map t with
  | none=>rfl
  | some x=>have:=hc.keys t x h;rw[hk]at this;cases this
 have hx:Ev (BS P fn) c t=some (.var k):=by unfold Ev;rw[hl,hk];rfl
 have hv:=hc.val t _ hx
 have hj:k<var.length:=by rw[hc.vlen];exact FZ hk
 obtain⟨h1,h2⟩:=hr t _ hv
 refine⟨h1,_,qp hj,?_⟩
 have e:U7 var k=var[k]:=Oy (qp hj)
 simp only[Cm,Dw,e]at h2
 exact h2
theorem QY{fn:Func}{var:List AV}{a:Act}(h:Dc P ρ fn var a.tmps){o:Operand}{x:CX}(hx:Fn (BS P fn) ⟨[],0⟩ o=some x):Ad ρ (Dw [] var x) (a.eval o):=by
 have hc:=KZ h.len
 have:=MR hc hx
 have e:Cm 0 x=x:=by
  cases x with
  | loc p=>exact absurd (MQ hc hx p rfl) (Nat.not_lt_zero _)
  | _=>rfl
 rw[e]at this
 exact Q6 (HO h) this
theorem HL:∀ (n:Nat)(l:List AV),(Ql l n).length=n
 | 0,_=>rfl
 | n+1,[]=>by simp[Ql,HL n]
 | n+1,_::l=>by simp[Ql,HL n]
theorem MU:∀ (n:Nat)(l:List AV)(k:Nat),k<n→(Ql l n)[k]? = some (l.getD k Ar)
 | 0,_,k,h=>by omega
 | n+1,[],k,h=>by
  cases k with
  | zero=>rfl
  | succ k=>simpa[Ql]using MU n [] k (by omega)
 | n+1,a::l,k,h=>by
  cases k with
  | zero=>rfl
  | succ k=>simpa[Ql]using MU n l k (by omega)
theorem E3(m:Nat):∀ (n k x:Nat),x∈F9 m n k→k≤x∧x<k+n
 | 0,k,x,h=>by cases h
 | n+1,k,x,h=>by
  unfold F9 at h
  cases hb:m.testBit k with
  | true =>
   rw[hb]at h
   simp only[cond_true]at h
   rcases rI.1 h with rfl | h
   ·omega
   ·have:=E3 m n (k+1) x h;omega
  | false =>
   rw[hb]at h
   simp only[cond_false]at h
   have:=E3 m n (k+1) x h;omega
theorem fM      {fn : Func} {aS : List AV} {as' : Array Value} (ha : AX    ρ aS as'.toList) (hn : aS.length = Di     fn) (hle : Di     fn ≤ fn.ntmps) :
    Dc P ρ fn (Ql aS (BS P fn).length) (as'++Array.replicate (fn.ntmps - as'.size) undef):=by
  have hsz:as'.size=Di fn:=by have:=ha.length;simp at this;omega
  refine⟨HL _ _,?_,by simp;omega⟩
  intro t k hk
  have hg:=Fo hk
  have hlt:=FZ hk
  refine⟨?_,_,MU _ _ k hlt,?_⟩
  all_goals unfold BS at hg
  · have hm:t∈(List.range (Di fn)++match fn.body with
        | none=>[]
        | some c=>F9 (Nat.lor (E9 P c) (Ic fn.results.toList)) (fn.ntmps - Di fn) (Di fn)):=qj hg
    rcases sE.1 hm with h | h
    · have h9:(t:Nat)<Di fn:=List.mem_range.1 h
      rw[Array.size_append,Array.size_replicate]
      exact qw h9 (by omega)
    · cases hb:fn.body with
      | none=>rw[hb]at h;cases h
      | some c =>
        rw[hb]at h
        have h9:=(E3 _ _ _ _ h).2
        rw[Array.size_append,Array.size_replicate]
        exact qw h9 (by omega)
  · by_cases hka : k < Di     fn
    · rw [qv                        (by simpa using hka)] at hg
      rw[List.getElem?_range hka]at hg
      injection hg with hg
      subst hg
      obtain⟨v',h1,h2⟩:=ha.get (k:=k) (v:=aS[k]'(by omega)) (qp (by omega))
      have e1:aS.getD k Ar=aS[k]'(by omega):=by simp[show k<aS.length by omega]
      have e2:(as'++Array.replicate (fn.ntmps - as'.size) undef).getD k undef=v':=by
        have h1':as'[k]? = some v':=by simpa using h1
        have hk':k<as'.size:=by omega
        simp[Array.getD_eq_getD_getElem?,Array.getElem?_append_left hk',h1']
      rw[e1,e2]
      exact h2
    · rw[qy (by simpa using hka)]at hg
      have ht:Di fn≤t:=by
        cases hb:fn.body with
        | none=>rw[hb]at hg;simp at hg
        | some c=>rw[hb]at hg;exact(E3 _ _ _ _ (qj hg)).1
      have e1:aS.getD k Ar=Ar:=by simp[show aS.length≤k by omega]
      have e2:(as'++Array.replicate (fn.ntmps - as'.size) undef).getD t undef=undef:=by
        rw[Array.getD_eq_getD_getElem?,Array.getElem?_append_right (by omega),Array.getElem?_replicate]
        split<;>rfl
      rw[e1,e2]
      exact Du ρ
def Dx(ρ:Bq):List Nat→List Deferred→Prop
 | [],ds=>ds=[]
 | i::l,ds=>∃rb ds',ρ i=some rb∧ds={ target:=.collected rb.b,args:=#[] }::ds'∧Dx ρ l ds'
theorem Dx.mono:∀ {l:List Nat}{ds:List Deferred},Dx ρ l ds→ρ.le ρ1→Dx ρ1 l ds
 | [],_,h,_=>h
 | _::_,_,⟨rb,ds',h1,h2,h3⟩,le=>⟨rb,ds',le _ _ h1,h2,Dx.mono h3 le⟩
theorem By.unmark1(h:By P ρ s w){i:Nat}{rb:RB}(hg:s.heap.get i=some .mark)(hr:ρ i=some rb):
  By P ρ (Bm s i) (w.putObj rb.b (.deferred none))∧Fr ρ s w ρ (Bm s i) (w.putObj rb.b (.deferred none)):=by
 let o1:C8:=.row { elem:=default,sz:=rb.sz,n:=0,c:=.leaf,spare:=true,mode:=.ro,par:=none,bytes:=false }
 have ho:Il P ρ (w.putObj rb.b (.deferred none)) o1 rb:=
  ⟨fun k v hk=>absurd hk (Nat.not_lt_zero k),qm _,rfl,(fun e=>by cases e),fun e=>absurd rfl e,fun p e=>by cases e⟩
 obtain⟨h1,h2⟩:=h.set (w1:=w.putObj rb.b (.deferred none)) (o1:=o1) hg hr rfl (fun p e=>by cases e) rfl World.putObj_size (fun b hb=>World.putObj_heap_other hb) rfl rfl rfl ho
 obtain⟨h3,h4⟩:=h1.del hr
 have e:∀x,(Bm (setObj s i o1) i).heap.get x=(Bm s i).heap.get x:=by
  intro x
  rw[Bn,Bn,Dk]
  by_cases h':x=i
  ·simp[h']
  ·simp[h']
 have h5:=h2.trans h4
 refine⟨h3.same fun x _ _=>(e x).symm,⟨h5.le,h5.fresh,h5.next,h5.size,h5.os,h5.tape,h5.output,h5.keep,fun b hb=>h5.own b (hb.same fun x _ _=>(e x).symm),fun x hx hy=>(e x).symm.trans (h5.unborn x hx hy)⟩⟩
theorem On{fn:Func}{tmps:Array Value}{R:Ending→World→Prop}:∀ {marks:List Nat}{ds:List Deferred}{s s':AE}{w:World},Dx ρ marks ds→unmark s marks=some s'→By P ρ s w →
  (∀w',By P ρ s' w'→Fr ρ s w ρ s' w'→∃v,(results fn tmps).run P w'=.ok v w'∧R (.returned v) w')→LeavesInM Fence.wide 0 P fn tmps R ds .returning w:=by
 intro marks
 induction marks with
 | nil =>
  intro ds s s' w hm hu hi hk
  have hm:ds=[]:=hm
  subst hm
  injection hu with hu
  subst hu
  exact hk w hi (Fr.refl _ _ _)
 | cons i l ih =>
  intro ds s s' w hm hu hi hk
  obtain⟨rb,ds',h1,rfl,h3⟩:=hm
  unfold unmark at hu
  split at hu
  ·rename_i hg
   obtain⟨h4,h5⟩:=hi.unmark1 hg h1
   have hb:w.heap[rb.b]? = some (.deferred (some [])):=hi.obj i _ rb hg h1
   refine⟨by simp,.inl ⟨rb.b,_,rfl,run_takeDeferred hb,?_⟩⟩
   exact ih h3 hu h4 fun w' g1 g2=>hk w' g1 (h5.trans g2)
  ·cases hu
def bp(tmps:Array Value):ResultVar→Sem Value
 | .tmp t=>Pure.pure (tmps.getD t undef)
 | .cell a t=>do loadVar t (← asAddr (tmps.getD a undef))
theorem Tw(fn:Func)(tmps:Array Value):results fn tmps=(do
  let vs ← fn.results.mapM (bp tmps)
  Pure.pure (if h:vs.size=1 then vs[0]else .tuple vs)):=by
 have:(fun r:ResultVar=>(match r with
   | .tmp t=>(Pure.pure (tmps.getD t undef):Sem Value)
   | .cell a t=>do loadVar t (← asAddr (tmps.getD a undef))))=bp tmps:=by funext r;cases r<;>rfl
 rw[← this]
 rfl
theorem O9           {vars : List Tmp} {var : List AV} {tmps : Array Value} (hI : By  P ρ s w) (hr : ES      ρ vars var tmps) : ∀ {rs : List ResultVar} {cr : List (CX × Option TypeId)} {l : List AV}, DC          vars rs = some cr → B7       P s var cr = some l →
    ∃l':List Value,(rs.mapM (bp tmps)).run P w=.ok l' w∧AX ρ l l':=by
  intro rs
  induction rs with
  | nil=>intro cr l hc ha;injection hc with hc;subst hc;injection ha with ha;subst ha;exact⟨[],rfl,.nil⟩
  | cons r rs ih =>
    intro cr l hc ha
    cases r with
    | tmp t =>
      simp only[DC,qh]at hc
      obtain⟨j,h1,cr',h2,h3⟩:=hc
      injection h3 with h3
      subst h3
      simp only[B7,qh]at ha
      obtain⟨l1,h4,h5⟩:=ha
      injection h5 with h5
      subst h5
      obtain⟨l',h6,h7⟩:=ih h2 h4
      obtain⟨h8,v,h9,h10⟩:=hr t j h1
      refine⟨tmps.getD t undef::l',?_,.cons ?_ h7⟩
      · rw[List.mapM_cons]
        simp[bp,Sem.run_bind,h6,Result.andThen]
      · simp only[Dw];rw[Oy h9];exact h10
    | cell t ty =>
      simp only[DC,qh]at hc
      obtain⟨j,h1,cr',h2,h3⟩:=hc
      injection h3 with h3
      subst h3
      simp only[B7,qh]at ha
      obtain⟨v,hv,l1,h4,h5⟩:=ha
      injection h5 with h5
      subst h5
      obtain⟨l',h6,h7⟩:=ih h2 h4
      obtain⟨h8,x,h9,h10⟩:=hr t j h1
      simp only[Dw]at hv
      rw[Oy h9]at hv
      obtain⟨v',_,g2,ad,g3,g4⟩:=QM hI hv h10
      refine⟨v'::l',?_,.cons g2 h7⟩
      rw[List.mapM_cons]
      simp only[bp]
      rw[g3]
      simp[Sem.run_bind,h6,Result.andThen,asAddr,g4]
theorem Tx         {fn : Func} {vars : List Tmp} {var : List AV} {tmps : Array Value} (hI : By  P ρ s w) (hr : ES      ρ vars var tmps) {cr : List (CX × Option TypeId)} {l : List AV}
    (hc:DC vars fn.results.toList=some cr) (ha:B7 P s var cr=some l):∃v,(results fn tmps).run P w=.ok v w∧Ad ρ (Bp l) v:=by
  obtain⟨l',h1,h2⟩:=O9 hI hr hc ha
  refine⟨if h:l'.toArray.size=1 then l'.toArray[0]else .tuple l'.toArray,?_,?_⟩
  · rw[Tw,Array.mapM_eq_mapM_toList]
    simp[Sem.run_bind,h1,Result.andThen,Sem.run_map]
  · cases h2 with
    | nil=>simp[Bp];exact .tuple .nil
    | cons h hs =>
      cases hs with
      | nil=>simpa[Bp]using h
      | cons h' hs' =>
        simp[Bp]
        exact .tuple (.cons h (.cons h' hs'))
theorem PM           {vars : List Tmp} : ∀ {ts : List Tmp} {vs : List AV} {vs' : List Value} {var var' : List AV} {tmps : Array Value}, DN        vars var ts vs = some var' → ES      ρ vars var tmps → var.length = vars.length → AX    ρ vs vs' →
    ES ρ vars var' ((ts.zip vs').foldl (fun tmps (p:Tmp×Value)=>tmps.setIfInBounds p.1 p.2) tmps)∧var'.length=vars.length∧((ts.zip vs').foldl (fun tmps (p:Tmp×Value)=>tmps.setIfInBounds p.1 p.2) tmps).size=tmps.size∧ts.length=vs'.length:=by
  intro ts
  induction ts with
  | nil =>
    intro vs vs' var var' tmps hz hr hl hv
    cases vs with
    | nil=>cases hv;injection hz with hz;subst hz;exact⟨hr,hl,rfl,rfl⟩
    | cons=>cases hz
  | cons t ts ih =>
    intro vs vs' var var' tmps hz hr hl hv
    cases vs with
    | nil=>cases hz
    | cons v vs =>
      cases hv with
      | cons h hs =>
        rename_i v' vs'
        simp only[DN,qh]at hz
        obtain⟨j,hj,hz⟩:=hz
        have hjl:j<var.length:=by rw[hl];exact FZ hj
        obtain⟨ht,_⟩:=hr t j hj
        have key:ES ρ vars (Mq v var j) (tmps.setIfInBounds t v'):=by
          intro u k hk
          obtain⟨g1,x,g2,g3⟩:=hr u k hk
          refine⟨by simpa using g1,?_⟩
          by_cases e:u=t
          · subst e
            rw[hj]at hk
            injection hk with hk
            subst hk
            refine⟨v,by rw[KK];simp[hjl],?_⟩
            simpa[Array.getD_eq_getD_getElem?,ht]using h
          · have ejk:j≠k:=fun e'=>by subst e';exact e (KW hk hj)
            refine⟨x,by rw[KK,List.getElem?_set_ne ejk];exact g2,?_⟩
            have:(tmps.setIfInBounds t v').getD u undef=tmps.getD u undef:=by
              simp[Array.getD_eq_getD_getElem?,Array.getElem?_setIfInBounds_ne (Ne.symm e)]
            rw[this]
            exact g3
        obtain⟨h1,h2,h3,h4⟩:=ih (tmps:=tmps.setIfInBounds t v') hz key (by rw[KK,qr];exact hl) hs
        exact⟨h1,h2,by simpa using h3,by simpa using h4⟩
end
def Ig:K9→Exit
 | .normal=>.normal
 | .exit id=>.exit id
 | .ret=>.ret
def N1(ρ:Bq):Option Nat→Option Nat→Prop
 | none,r=>r=none
 | some l,r=>∃rb,ρ l=some rb∧r=some rb.b
theorem N1.mono{ρ ρ1:Bq}{rnd r:Option Nat}(h:N1 ρ rnd r)(le:ρ.le ρ1):N1 ρ1 rnd r:=by
 cases rnd with
 | none=>exact h
 | some l=>obtain⟨rb,h1,h2⟩:=h;exact⟨rb,le _ _ h1,h2⟩
structure Ih(P:Program)(fn:Func)(ρ:Bq)(s:AE)(w:World)(r:A9)(a':Act)(w':World)(ρ':Bq):Prop where
 inv:By P ρ' r.st w'
 fresh:Bk ρ' r.st
 fr:Fr ρ s w ρ' r.st w'
 vars:Dc P ρ' fn r.var a'.tmps
 marks:Dx ρ' r.marks a'.defers
structure Jb(P:Program)(fn:Func)(ρ:Bq)(s:AE)(w:World)(var:List AV)(marks:List Nat)(rnd r:Option Nat)(a:Act):Prop where
 inv:By P ρ s w
 fresh:Bk ρ s
 vars:Dc P ρ fn var a.tmps
 marks:Dx ρ marks a.defers
 rnd:N1 ρ rnd r
def Nz(P:Program)(F:EH):Prop:=∀ (f:FuncId)(fn:Func)(c:Code)(rnd r:Option Nat)(var:List AV)(marks:List Nat)(s:AE)(res:A9)(ρ:Bq)(w:World)(a:Act)(Q:Exit→Act→World→Prop),
 P.funcs[f]? = some fn→F.code rnd (BK P f fn.ntmps (BS P fn) c) var marks s=some res→Jb P fn ρ s w var marks rnd r a →
 (∀a' w' ρ',Ih P fn ρ s w res a' w' ρ'→Q (Ig res.exit) a' w')→c.wpIn (P7 r) 0 P Q a w
def UR(P:Program)(F:EH)(n:Nat):Prop:=∀ (f:FuncId)(fn:Func)(c:Code)(rnd r:Option Nat)(var:List AV)(marks:List Nat)(s:AE)(res:A9)(ρ:Bq)(w:World)(a:Act)(Q:Exit→Act→World→Prop),
 P.funcs[f]? = some fn→F.code rnd (.loop (BK P f fn.ntmps (BS P fn) c)) var marks s=some res→Jb P fn ρ s w var marks rnd r a →
 (∀a' w' ρ',Ih P fn ρ s w res a' w' ρ'→Q (Ig res.exit) a' w')→Code.roundsIn (P7 r) 0 P c Q n a w
def IH(P:Program)(call:FuncId→List AV→AE→Option (AV×AE)):Prop:=∀ (ρ:Bq)(s:AE)(w:World)(f:FuncId)(aS:List AV)(v:AV)(s1:AE)(as':Array Value),
 call f aS s=some (v,s1)→By P ρ s w→Bk ρ s→AX ρ aS as'.toList →
 (∃fn c,P.funcs[f]? = some fn∧fn.body=some c)∧CallsIn Fence.wide 0 P f as' w (GK P ρ s w v s1)
def Ey (P : Program) : Prop := ∀ (f : FuncId) (fn : Func), P.funcs[f]? = some fn → (fn.name == "runtime.NumGoroutine") = false
structure PR(P:Program)(F:EH)(n:Nat):Prop where
 code:Nz P F
 loop:UR P F n
 call:IH P F.call
 round:∀ (ρ:Bq) (s:AE) (w:World) (l:Nat) (rb:RB) (aS:List AV) (v:AV) (s1:AE) (as':Array Value),F.round l aS s=some (v,s1)→By P ρ s w→Bk ρ s→ρ l=some rb→AX ρ aS as'.toList →
  Dy P ρ s w v s1 ((Instr.yield rb.b as').run P w)
section
variable{P:Program}{ρ ρ1 ρ2:Bq}{s s1 s2:AE}{w w1 w2:World}
theorem Gz(hng:Ey P){f:FuncId}{fn:Func}{c:Code}(hf:P.funcs[f]? = some fn)(hb:fn.body=some c)(args:Array Value)(w:World):(callFunc f args).run P w=.ok (.enter f args) w:=by
  have h1:=hng f fn hf
  have h2 : fn.name ≠ "runtime.NumGoroutine" := by simpa using h1
  simp[callFunc,hf,h2,hb]
theorem PR.fok(hng:Ey P){F:EH}{n:Nat}(h:PR P F n):cZ P F where
 call:=fun ρ s w f aS v s1 as' hc hi hf ha=>by
  obtain⟨⟨fn,c,h1,h2⟩,h3⟩:=h.call ρ s w f aS v s1 as' hc hi hf ha
  rw[Gz hng h1 h2]
  exact .enter h3
 round:=h.round
theorem Ih.trans{fn:Func}{s1:AE}{r1 r2:A9}{a1 a2:Act}(h1:Fr ρ s w ρ1 s1 w1)(h2:Ih P fn ρ1 s1 w1 r2 a2 w2 ρ2):Ih P fn ρ s w r2 a2 w2 ρ2:=
 ⟨h2.inv,h2.fresh,h1.trans h2.fr,h2.vars,h2.marks⟩
theorem Ih.begins{fn:Func}{r:A9}{a1:Act}{var:List AV}{marks:List Nat}{rnd rr:Option Nat}{a:Act}(hb:Jb P fn ρ s w var marks rnd rr a)(h:Ih P fn ρ s w r a1 w1 ρ1):Jb P fn ρ1 r.st w1 r.var r.marks rnd rr a1:=
 ⟨h.inv,h.fresh,h.vars,h.marks,hb.rnd.mono h.fr.le⟩
theorem mY     (hm : P.follows .mixedOrders = true) {F : EH}  (hF : cZ  P F) {fn : Func} {f : FuncId} {id : Nat} {ops : Array Oper} {draw : Bool} {r rnd : Option Nat} {var : List AV} {marks : List Nat} {s : AE}  {res : A9}   {ρ : Bq}  {w : World} {a : Act} {Q : Exit → Act → World → Prop}
    (hc:DQ F rnd (BK P f fn.ntmps (BS P fn) (.region id ops draw)) var marks s=some res) (hb:Jb P fn ρ s w var marks rnd r a)
    (hq:∀a' w' ρ',Ih P fn ρ s w res a' w' ρ'→Q (Ig res.exit) a' w'):(Code.region id ops draw).wpIn (P7 r) 0 P Q a w:=by
  have fin:∀ {items:List AA} {b:Array Nat} {l:List Nat},E5 P fn.ntmps (BS P fn) ops b draw l ⟨[],0⟩ []=some items→DQ F rnd (.ops items) var marks s=some res →
      ∃R' s',Trace P F ops fn.ntmps b draw l [] (J8 (BS P fn) var) s R' s'∧res.exit=.normal∧res.marks=marks∧res.st=s'∧∃c' loc',Ef (BS P fn) c' loc' res.var R':=by
    intro items b l hi hs
    simp only[DQ,df]at hs
    split at hs<;>first | (cases hs;done) | skip
    rename_i p hp
    injection hs with hs
    subst hs
    obtain⟨R',h1,h2⟩:=TM l ⟨[],0⟩ [] items [] var s p.1 p.2 (J8 (BS P fn) var) [] hi hp (KZ hb.vars.len) .nil
    exact⟨R',p.2,h1,rfl,rfl,rfl,h2⟩
  have back:∀ {R':CP} {a':Act} {w':World} {ρ':Bq},(∃c' loc',Ef (BS P fn) c' loc' res.var R')→res.exit=.normal→res.marks=marks→By P ρ' res.st w'→Bk ρ' res.st→Fr ρ s w ρ' res.st w'→FN ρ' R' a'.tmps→a'.tmps.size=a.tmps.size→a'.defers=a.defers→Q .normal a' w':=by
    intro R' a' w' ρ' ⟨c',loc',hcr⟩ he hmk h1 h2 h3 h4 h5 h6
    have:=hq a' w' ρ' ⟨h1,h2,h3,Wq hcr h4 (by rw[h5];exact hb.vars.size),by rw[hmk,h6];exact hb.marks.mono h3.le⟩
    rw[he]at this
    exact this
  cases draw with
  | false =>
    refine wpIn_region ?_
    simp only[BK]at hc
    cases hi:E5 P fn.ntmps (BS P fn) ops #[] false (List.range ops.size) ⟨[],0⟩ []with
    | none=>rw[hi]at hc;cases hc
    | some items =>
      rw[hi]at hc
      obtain⟨R',s',h1,h2,h3,h4,h5⟩:=fin hi hc
      subst h4
      exact Wl hF h1 hb.inv hb.fresh (HO hb.vars) hb.vars.size fun a' w' ρ' g1 g2 g3 g4 g5 g6=>back h5 h2 h3 g1 g2 g3 g4 g5 g6
  | true =>
    refine wpIn_region_any hm ?_
    simp only[BK]at hc
    cases hpl:Fa P ops (Region.before ops) [] (eu P ops)with
    | false=>rw[hpl]at hc;cases hc
    | true =>
      rw[hpl]at hc
      simp only[AG,cond_true]at hc
      cases hi:E5 P fn.ntmps (BS P fn) ops (Region.before ops) true (eu P ops) ⟨[],0⟩ []with
      | none=>rw[hi]at hc;cases hc
      | some items =>
        rw[hi]at hc
        obtain⟨R',s',h1,h2,h3,h4,h5⟩:=fin hi hc
        subst h4
        have hd:=Fr.drawn' (ρ:=ρ) (s:=s) (w:=w) (w.drawn+1)
        exact aW hF h1 hpl (hb.inv.drawn (w.drawn+1)) hb.fresh (HO hb.vars) hb.vars.size fun a' w' ρ' g1 g2 g3 g4 g5 g6=>back h5 h2 h3 g1 g2 (hd.trans g3) g4 g5 g6
theorem Hu{l:Nat}{L:Loop}(h:w.heap[l]? = some (.loop L))(fn:FuncId)(tmps:Array Value)(ps:Array Tmp)(assign body:Code):
  (Instr.enterLoop fn tmps ps assign body (some l)).run P w =
   .ok (w.heap.size,[]) (w.alloc (.loop { state:=.ready,pending:=none,fn,tmps,params:=ps,assign,body,defers:=L.defers })):=by
 unfold Instr.enterLoop
 simp only[Sem.run_bind,run_getLoop h,run_newObj_alloc,Result.andThen,Sem.run_pure]
theorem FY{l:Nat}{r:Fg}(h:A7 s l=some r):s.heap.get l=some (.loop r):=by
 unfold A7 at h
 split at h
 ·injection h with h;subst h;assumption
 ·cases h
theorem Bk.new(h:Bk ρ s)(o:C8)(rb:RB):Bk (C3 ρ s.next rb) (newObj s o):=by
 intro i hi
 have hi:s.next+1≤i:=hi
 have:=h i (by omega)
 exact⟨by rw[A4 rb (by omega)];exact this.1,by rw[Cb,if_neg (by omega)];exact this.2⟩
theorem MM(h:By P ρ s w){l:Nat}{r:Fg}{rb:RB}(hg:s.heap.get l=some (.loop r))(hr:ρ l=some rb){st:LoopState}{pd:Option Code}{L:Loop}(hL:w.heap[rb.b]? = some (.loop L)):
  By P ρ (setObj s l (.loop { r with state:=st,pending:=pd })) (w.putObj rb.b (.loop { L with state:=st,pending:=pd }))∧Fr ρ s w ρ (setObj s l (.loop { r with state:=st,pending:=pd })) (w.putObj rb.b (.loop { L with state:=st,pending:=pd })):=by
 have hlt:=h.lt l rb hr
 refine h.set hg hr rfl (fun p e=>by cases e) rfl World.putObj_size (fun b hb=>World.putObj_heap_other hb) rfl rfl rfl ?_
 obtain⟨L',h0,h1,h2,h4,h5,h6,h7,h8,h9,h10⟩:=(h.obj l _ rb hg hr:Gp P ρ w r rb).ex
 rw[hL]at h0
 injection h0 with h0
 injection h0 with h0
 subst h0
 exact⟨_,World.putObj_heap_same hlt,rfl,rfl,h4,h5,h6,h7,h8,h9,h10⟩
theorem er{r:Option Nat}{s':AE}{res:A9}{a:Act}{Q:Exit→Act→World→Prop}{var:List AV}{marks:List Nat}{pd:Option Code}
  (hp:Gx var marks s' pd=some res) (hq:res.var=var→res.marks=marks→res.st=s'→Q (Ig res.exit) a w):
  (match (generalizing:=false) pd with
   | none=>Q .normal a w
   | some c=>c.wpIn (P7 r) 0 P Q a w):=by
 unfold Gx at hp
 split at hp<;>first | (cases hp;done) | skip
 ·injection hp with hp;subst hp;exact hq rfl rfl rfl
 ·injection hp with hp;subst hp;exact wpIn_ret (hq rfl rfl rfl)
 ·injection hp with hp;subst hp;exact wpIn_exit (hq rfl rfl rfl)
theorem MY         (hng : Ey      P) {F : EH}  (hcall : IH     P F.call) {f : FuncId} {fn : Func} {var : List AV} {marks : List Nat} {s : AE}  {res : A9}   {ρ : Bq}  {w : World} {a : Act} {r : Option Nat} {Q : Exit → Act → World → Prop} {g : AV} {g' : Value} {ps : Array Tmp} {assign body : Code} {dfr : Nat} {rd : RB}
    (hf:P.funcs[f]? = some fn) (hc:Fi F var g ps assign body f dfr marks s=some res) (hi:By P ρ s w) (hfr:Bk ρ s) (hv:Dc P ρ fn var a.tmps) (hmk:Dx ρ marks a.defers)
    (hg:Ad ρ g g') (hd:ρ dfr=some rd) (fn':FuncId)
    (hq:∀w' ρ',Ih P fn ρ s w res a w' ρ'→Q (Ig res.exit) a w'):
    ∃ (d : Deferred) (f0 : FuncId) (args : Array Value), Deferred.ofValue g' #[.func (.yield w.heap.size) #[] #[]] = Pure.pure d ∧
      (∀w1,(invoke d.target d.args).run P w1=.ok (.enter f0 args) w1) ∧
      CallsIn (P7 r) 0 P f0 args (w.alloc (.loop { state:=.ready,pending:=none,fn:=fn',tmps:=a.tmps,params:=ps,assign,body,defers:=rd.b })) (rangePost (P7 r) 0 P w.heap.size Q a):=by
  let L:Loop:={ state:=.ready,pending:=none,fn:=fn',tmps:=a.tmps,params:=ps,assign,body,defers:=rd.b }
  let al:Fg:={ state:=.ready,pending:=none,fn:=f,var,params:=ps,assign,body,dfr }
  let rb:RB:=⟨w.heap.size,0,0,0⟩
  have hvi:Dl P f=BS P fn:=by unfold Dl;rw[hf]
  have hn0:=(hfr _ (qg s.next)).1
  have hle:=C1 (rb:=rb) hn0
  obtain⟨hi1,hfr1⟩:=hi.new (o:=.loop al) (o':=.loop L) (rb:=rb) hn0 rfl
    ⟨L,World.alloc_heap_new w _,rfl,rfl,rfl,rfl,rfl,⟨rd,hle _ _ hd,rfl⟩,by rw[hvi];exact(hv.mono hle).rel,fun fn0 h0=>by
      have h0:P.funcs[f]? = some fn0:=h0
      rw[hf]at h0;injection h0 with h0;subst h0;exact hv.size,by rw[hvi];exact hv.len⟩
  have hff:=hfr.new (.loop al) rb
  unfold Fi HZ at hc
  simp only[qh]at hc
  obtain⟨q,hcv,r2,hl2,hend⟩:=hc
  cases hbz:MD r2.state with
  | true=>rw[hbz]at hend;cases hend
  | false =>
    rw[hbz]at hend
    simp only[cond_false]at hend
    unfold G0 at hcv
    split at hcv<;>first | (cases hcv;done) | skip
    rename_i f0 first cap
    cases hg with
    | func ha hcp =>
      rename_i x c
      obtain⟨⟨fn0,c0,k1,k2⟩,k3⟩:=hcall _ _ _ f0 _ q.1 q.2 ((x++#[.func (.yield w.heap.size) #[] #[]])++c) hcv hi1 hff (by
        simp only[Array.toList_append]
        have hy:Ad (C3 ρ s.next rb) (.yield s.next) (.func (.yield w.heap.size) #[] #[]):=Ad.yield (rb:=rb) (A8 _ _)
        have:=(AX.mono hle ha).append ((AX.cons hy .nil).append (AX.mono hle hcp))
        simpa using this)
      refine⟨{ target:=.fn (.func f0) c,args:=x++#[.func (.yield w.heap.size) #[] #[]] },f0,_,rfl,fun w1=>?_,KO (CallsIn.mono k3 ?_)⟩
      · simp only[invoke]
        exact Gz hng k1 k2 _ _
      · intro e w3 he
        cases e with
        | panicked c=>exact he.elim
        | outgrown=>exact he.elim
        | returned v' =>
          obtain⟨ρ',_,g2,g3⟩:=he
          have hg2:=FY hl2
          have hr2:ρ' s.next=some rb:=g3.le _ _ (A8 _ _)
          obtain⟨L2,h0,h1,h2,_⟩:=(g2.obj _ _ _ hg2 hr2:Gp P ρ' w3 r2 rb).ex
          obtain⟨g4,g5⟩:=MM g2 hg2 hr2 (st:=.exhausted) (pd:=r2.pending) h0
          have hbz':L2.state≠.busy:=by rw[h1];intro e;rw[e]at hbz;cases hbz
          refine⟨L2.pending,_,run_endLoop h0 hbz',?_⟩
          rw[h2]
          refine er hend fun e1 e2 e3=>hq _ ρ' ?_
          have hall:=hfr1.trans (g3.trans g5)
          have hfresh:=(hff.step g3).step g5
          rw[h2.symm]at g4 g5 hall
          refine⟨?_,?_,?_,by rw[e1];exact hv.mono hall.le,by rw[e2];exact hmk.mono hall.le⟩
          · rw[e3,← h2];exact g4
          · rw[e3];exact hfresh
          · rw[e3,← h2];exact hall
end
section
variable{P:Program}{ρ ρ1 ρ2:Bq}{s s1 s2:AE}{w w1 w2:World}
theorem bn(hng:Ey P){F:EH}(hcall:IH P F.call){f:FuncId}{fn:Func}{g:Operand}{x:CX}{ps:Array Tmp}{assign body:Code}{rnd r:Option Nat}{var:List AV}{marks:List Nat}{s:AE}{res:A9}{ρ:Bq}{w:World}{a:Act}{Q:Exit→Act→World→Prop}
    (hf:P.funcs[f]? = some fn) (hx:Fn (BS P fn) ⟨[],0⟩ g=some x) (hc:Lh F rnd f (Dw [] var x) ps assign body var marks s=some res) (hb:Jb P fn ρ s w var marks rnd r a)
    (hq:∀a' w' ρ',Ih P fn ρ s w res a' w' ρ'→Q (Ig res.exit) a' w'):(Code.rangeFunc g ps assign body).wpIn (P7 r) 0 P Q a w:=by
  have hgv:Ad ρ (Dw [] var x) (a.eval g):=QY hb.vars hx
  have res1:∀l:Nat,(resolve a.eval (rangeCall g l) 0:Sem Deferred)=Deferred.ofValue (a.eval g) #[.func (.yield l) #[] #[]]:=by
    intro l
    simp[resolve,rangeCall,Act.eval]
  refine wpIn_rangeFunc fun fn' _=>?_
  unfold Lh at hc
  cases rnd with
  | some l =>
    simp only[qh]at hc
    obtain⟨al,hl,hc⟩:=hc
    obtain⟨rb,h1,h2⟩:=hb.rnd
    subst h2
    have hgl:=FY hl
    obtain⟨L,h0,_,_,_,_,_,⟨rd,Mu,KP⟩,_⟩:=(hb.inv.obj _ _ _ hgl h1:Gp P ρ w al rb).ex
    have hent:=Hu (P:=P) h0 fn' a.tmps ps assign body
    rw[KP]at hent
    obtain⟨d,f0,args,k1,k2,k3⟩:=MY (r:=some rb.b) (Q:=Q) hng hcall hf hc hb.inv hb.fresh hb.vars hb.marks hgv Mu fn' fun w' ρ' h=>hq a w' ρ' h
    refine⟨_,_,_,d,_,f0,args,_,hent,?_,fun _ _=>trivial,k2 _,(fun e=>by cases e),k3⟩
    rw[res1,k1]
    rfl
  | none =>
    have hr:r=none:=hb.rnd
    subst hr
    let rb:RB:=⟨w.heap.size,0,0,0⟩
    have hn0:=(hb.fresh _ (qg s.next)).1
    have hle:=C1 (rb:=rb) hn0
    obtain⟨hi1,hfr1⟩:=hb.inv.new (o:=.mark) (o':=.deferred (some [])) (rb:=rb) hn0 rfl (World.alloc_heap_new w _)
    have hff:=hb.fresh.new .mark rb
    have Mu:C3 ρ s.next rb s.next=some rb:=A8 _ _
    obtain⟨d,f0,args,k1,k2,k3⟩:=MY (r:=none) (Q:=Q) (a:={ a with defers:=[{ target:=.collected w.heap.size,args:=#[] }]++a.defers }) hng hcall hf hc hi1 hff (hb.vars.mono hle)
      ⟨rb,a.defers,Mu,rfl,hb.marks.mono hle⟩ (hgv.mono hle) Mu fn' fun w' ρ' h=>hq _ w' ρ' (Ih.trans (r1:=res) (a1:=a) hfr1 h)
    have hsz:(w.alloc (.deferred (some []))).heap.size=w.heap.size+1:=by simp
    rw[hsz]at k1 k3
    refine⟨_,_,_,d,_,f0,args,_,run_enterLoop_outer fn' a.tmps ps assign body,?_,fun _ _=>trivial,k2 _,(fun e=>by cases e),k3⟩
    rw[res1,k1]
    rfl
theorem VV        (hm : P.follows .mixedOrders = true) (hng : Ey      P) {F : EH}  {n : Nat} (h : PR    P F n) {call : FuncId → List AV → AE  → Option (AV × AE)}  {round : Nat → List AV → AE  → Option (AV × AE)}  : Nz     P ⟨DQ    F, call, round⟩ := by
  intro f fn c
  have hF:=h.fok hng
  induction c with
  | skip =>
    intro rnd r var marks s res ρ w a Q hf hc hb hq
    injection (show some (⟨.normal,var,marks,s⟩:A9)=some res from hc)with hc
    subst hc
    exact wpIn_skip (hq a w ρ ⟨hb.inv,hb.fresh,Fr.refl _ _ _,hb.vars,hb.marks⟩)
  | label l =>
    intro rnd r var marks s res ρ w a Q hf hc hb hq
    injection (show some (⟨.normal,var,marks,s⟩:A9)=some res from hc)with hc
    subst hc
    exact wpIn_label (hq a w ρ ⟨hb.inv,hb.fresh,Fr.refl _ _ _,hb.vars,hb.marks⟩)
  | ret =>
    intro rnd r var marks s res ρ w a Q hf hc hb hq
    injection (show some (⟨.ret,var,marks,s⟩:A9)=some res from hc)with hc
    subst hc
    exact wpIn_ret (hq a w ρ ⟨hb.inv,hb.fresh,Fr.refl _ _ _,hb.vars,hb.marks⟩)
  | exit id =>
    intro rnd r var marks s res ρ w a Q hf hc hb hq
    injection (show some (⟨.exit id,var,marks,s⟩:A9)=some res from hc)with hc
    subst hc
    exact wpIn_exit (hq a w ρ ⟨hb.inv,hb.fresh,Fr.refl _ _ _,hb.vars,hb.marks⟩)
  | goto l=>intro rnd r var marks s res ρ w a Q hf hc;cases hc
  | refuse u=>intro rnd r var marks s res ρ w a Q hf hc;cases hc
  | region id ops draw =>
    intro rnd r var marks s res ρ w a Q hf hc hb hq
    exact mY hm hF hc hb hq
  | seq x y ihx ihy =>
    intro rnd r var marks s res ρ w a Q hf hc hb hq
    have hc:Iu F rnd (BK P f fn.ntmps (BS P fn) y) (F.code rnd (BK P f fn.ntmps (BS P fn) x) var marks s)=some res:=hc
    unfold Iu at hc
    split at hc<;>first | (cases hc;done) | skip
    rename_i r1 h1
    refine wpIn_seq (h.code f fn x rnd r var marks s r1 ρ w a _ hf h1 hb ?_)
    intro a' w' ρ' g
    unfold H0 at hc
    cases he:r1.exit with
    | normal =>
      rw[he]at hc
      refine h.code f fn y rnd r _ _ _ res ρ' w' a' Q hf hc (g.begins hb) ?_
      intro a2 w2 ρ2 g2
      exact hq a2 w2 ρ2 (Ih.trans (r1:=r1) (a1:=a') g.fr g2)
    | exit id =>
      rw[he]at hc
      injection hc with hc
      subst hc
      have:=hq a' w' ρ' g
      rw[he]at this
      exact this
    | ret =>
      rw[he]at hc
      injection hc with hc
      subst hc
      have:=hq a' w' ρ' g
      rw[he]at this
      exact this
  | cond o x y ihx ihy =>
    intro rnd r var marks s res ρ w a Q hf hc hb hq
    simp only[BK]at hc
    cases ho:Fn (BS P fn) ⟨[],0⟩ o with
    | none=>rw[ho]at hc;cases hc
    | some z =>
      rw[ho]at hc
      have hc:Pr F rnd (BK P f fn.ntmps (BS P fn) x) (BK P f fn.ntmps (BS P fn) y) var marks s (Dw [] var z)=some res:=hc
      have hz:=QY hb.vars ho
      unfold Pr at hc
      split at hc<;>first | (cases hc;done) | skip
      rename_i t ht
      rw[ht]at hz
      have hev:a.eval o=.bool t:=by
        generalize a.eval o=y at hz
        cases hz;rfl
      refine wpIn_cond hev ?_
      cases t with
      | true=>exact h.code f fn x rnd r var marks s res ρ w a Q hf hc hb hq
      | false=>exact h.code f fn y rnd r var marks s res ρ w a Q hf hc hb hq
  | block id c ih =>
    intro rnd r var marks s res ρ w a Q hf hc hb hq
    have hc:Lg id (F.code rnd (BK P f fn.ntmps (BS P fn) c) var marks s)=some res:=hc
    unfold Lg at hc
    split at hc<;>first | (cases hc;done) | skip
    rename_i r1 h1
    refine wpIn_block (h.code f fn c rnd r var marks s r1 ρ w a _ hf h1 hb ?_)
    intro a' w' ρ' g
    unfold Kr at hc
    split at hc
    · rename_i id' he
      rw[he]
      simp only[Ig,Exit.inBlock]
      cases hbq:Nat.beq id' id with
      | true =>
        rw[hbq]at hc
        injection hc with hc
        subst hc
        rw[if_pos (BB hbq)]
        exact hq a' w' ρ' ⟨g.inv,g.fresh,g.fr,g.vars,g.marks⟩
      | false =>
        rw[hbq]at hc
        injection hc with hc
        subst hc
        have:=hq a' w' ρ' g
        rw[he]at this
        rw[if_neg (fun e=>by subst e;simp at hbq)]
        exact this
    · rename_i hne
      injection hc with hc
      subst hc
      have:=hq a' w' ρ' g
      cases he:r1.exit with
      | normal=>rw[he]at this;exact this
      | ret=>rw[he]at this;exact this
      | exit id'=>exact absurd he (hne id')
  | loop c ih =>
    intro rnd r var marks s res ρ w a Q hf hc hb hq
    have hc:Iu F rnd (.loop (BK P f fn.ntmps (BS P fn) c)) (F.code rnd (BK P f fn.ntmps (BS P fn) c) var marks s)=some res:=hc
    refine wpIn_loop_rounds (n+1) ?_
    rw[roundsIn_succ]
    unfold Iu at hc
    split at hc<;>first | (cases hc;done) | skip
    rename_i r1 h1
    refine h.code f fn c rnd r var marks s r1 ρ w a _ hf h1 hb ?_
    intro a' w' ρ' g
    unfold H0 at hc
    cases he:r1.exit with
    | normal =>
      rw[he]at hc
      refine h.loop f fn c rnd r _ _ _ res ρ' w' a' Q hf hc (g.begins hb) ?_
      intro a2 w2 ρ2 g2
      exact hq a2 w2 ρ2 (Ih.trans (r1:=r1) (a1:=a') g.fr g2)
    | exit id =>
      rw[he]at hc
      injection hc with hc
      subst hc
      have:=hq a' w' ρ' g
      rw[he]at this
      exact this
    | ret =>
      rw[he]at hc
      injection hc with hc
      subst hc
      have:=hq a' w' ρ' g
      rw[he]at this
      exact this
  | scope c ih =>
    intro rnd r var marks s res ρ w a Q hf hc hb hq
    refine UL (ih rnd r var marks s res ρ w a _ hf hc hb ?_)
    intro a' w' ρ' g
    have:=hq a' w' ρ' g
    cases he:res.exit with
    | normal=>rw[he]at this;exact this
    | ret=>rw[he]at this;exact this
    | exit id'=>rw[he]at this;exact this
  | rangeFunc g ps x y ihx ihy =>
    intro rnd r var marks s res ρ w a Q hf hc hb hq
    simp only[BK]at hc
    cases ho:Fn (BS P fn) ⟨[],0⟩ g with
    | none=>rw[ho]at hc;cases hc
    | some z =>
      rw[ho]at hc
      exact bn hng h.call hf ho hc hb hq
theorem V3{F:EH}{n:Nat}(h:PR P F n){call:FuncId→List AV→AE→Option (AV×AE)}{round:Nat→List AV→AE→Option (AV×AE)}:UR P ⟨DQ F,call,round⟩ (n+1):=by
  intro f fn c rnd r var marks s res ρ w a Q hf hc hb hq
  have hc:Iu F rnd (.loop (BK P f fn.ntmps (BS P fn) c)) (F.code rnd (BK P f fn.ntmps (BS P fn) c) var marks s)=some res:=hc
  rw[roundsIn_succ]
  unfold Iu at hc
  split at hc<;>first | (cases hc;done) | skip
  rename_i r1 h1
  refine h.code f fn c rnd r var marks s r1 ρ w a _ hf h1 hb ?_
  intro a' w' ρ' g
  unfold H0 at hc
  cases he:r1.exit with
  | normal =>
    rw[he]at hc
    refine h.loop f fn c rnd r _ _ _ res ρ' w' a' Q hf hc (g.begins hb) ?_
    intro a2 w2 ρ2 g2
    exact hq a2 w2 ρ2 (Ih.trans (r1:=r1) (a1:=a') g.fr g2)
  | exit id =>
    rw[he]at hc
    injection hc with hc
    subst hc
    have:=hq a' w' ρ' g
    rw[he]at this
    exact this
  | ret =>
    rw[he]at hc
    injection hc with hc
    subst hc
    have:=hq a' w' ρ' g
    rw[he]at this
    exact this
theorem c5{F:EH}(hcode:Nz P F){f:FuncId}{aS:List AV}{v:AV}{as':Array Value}(hc:Gy P F aS s (AQ P f)=some (v,s1))(hi:By P ρ s w)(hfr:Bk ρ s)(ha:AX ρ aS as'.toList):
  (∃fn c,P.funcs[f]? = some fn∧fn.body=some c)∧CallsIn Fence.wide 0 P f as' w (GK P ρ s w v s1):=by
 unfold Gy at hc
 simp only[qh]at hc
 obtain⟨cf,h1,hc⟩:=hc
 unfold AQ at h1
 simp only[qh]at h1
 obtain⟨fn,h2,c,h3,h4⟩:=h1
 obtain⟨h5,h6⟩:=AI h4
 simp only[qh]at h6
 obtain⟨cr,h7,h8⟩:=h6
 injection h8 with h8
 subst h8
 simp only at hc
 cases hb:Nat.beq aS.length (Di fn)with
 | false=>rw[hb]at hc;cases hc
 | true =>
  rw[hb]at hc
  simp only[cond_true]at hc
  refine⟨⟨fn,c,h2,h3⟩,callsIn_of_wp_marks h2 h3 trivial ?_⟩
  unfold Ks at hc
  simp only[qh]at hc
  obtain⟨res,hr,hc⟩:=hc
  have hend:U0 res.exit=true∧((unmark res.st res.marks).bind fun s=>(B7 P s res.var cr).bind fun l=>some (Bp l,s))=some (v,s1):=by
   cases he:U0 res.exit with
   | true=>rw[he]at hc;exact⟨rfl,hc⟩
   | false=>rw[he]at hc;cases hc
  obtain⟨he,hc⟩:=hend
  simp only[qh]at hc
  obtain⟨s2,hu,l,hl,hv⟩:=hc
  injection hv with hv
  injection hv with hv1 hv2
  subst hv1
  subst hv2
  have hvars:Dc P ρ fn (Ql aS (BS P fn).length) (as'++Array.replicate (fn.ntmps - as'.size) undef):=fM ha (BB hb) (by simpa[qu]using h5)
  refine hcode f fn c none none _ [] s res ρ w _ _ h2 hr ⟨hi,hfr,hvars,rfl,rfl⟩ ?_
  intro a' w' ρ' g
  have hlv:LeavesInM Fence.wide 0 P fn a'.tmps (GK P ρ s w (Bp l) s2) a'.defers .returning w':=by
   refine On g.marks hu g.inv fun w2 k1 k2=>?_
   obtain⟨v',k3,k4⟩:=Tx k1 g.vars.rel h7 hl
   exact⟨v',k3,ρ',k4,k1,g.fr.trans k2⟩
  cases hx:res.exit with
  | normal=>exact hlv
  | ret=>exact hlv
  | exit id=>rw[hx]at he;cases he
theorem bu       (hng : Ey      P) {E : BI}  (hE : E.P = P) {F : EH}  (hcode : Nz     P F) {l : Nat} {rb : RB} {aS : List AV} {v : AV} {as' : Array Value} (hc : Kb    E F l aS s = some (v, s1)) (hi : By  P ρ s w) (hfr : Bk     ρ s) (hl : ρ l = some rb) (ha : AX    ρ aS as'.toList) :
    Dy P ρ s w v s1 ((Instr.yield rb.b as').run P w):=by
  unfold Kb at hc
  rw[hE]at hc
  simp only[qh]at hc
  obtain⟨al,h1,var,h2,ca,h3,cb,h4,hc⟩:=hc
  have hg:=FY h1
  obtain⟨L,h0,_,_,e1,e2,e3,_,hrel,hsz,hlen⟩:=(hi.obj _ _ _ hg hl:Gp P ρ w al rb).ex
  unfold FQ at h3 h4
  simp only[qh]at h3 h4
  obtain⟨fn,hf,h3⟩:=h3
  obtain⟨fn2,hf2,h4⟩:=h4
  rw[hf]at hf2
  injection hf2 with hf2
  subst hf2
  injection h3 with h3
  injection h4 with h4
  subst h3
  subst h4
  have hvi:Dl P al.fn=BS P fn:=by unfold Dl;rw[hf]
  rw[hvi]at hrel hlen h2
  obtain⟨z1,z2,z3,z4⟩:=PM (tmps:=L.tmps) h2 hrel hlen ha
  have hps:as'.size=L.params.size:=by rw[e1];simpa using z4.symm
  rw[run_yield h0 hps]
  refine .round (roundIn_of_wpIn trivial ?_)
  have hfold:(L.params.zip as').foldl (fun tmps (x:Tmp×Value)=>match x with | (t,a)=>tmps.setIfInBounds t a) L.tmps=(al.params.toList.zip as'.toList).foldl (fun tmps (p:Tmp×Value)=>tmps.setIfInBounds p.1 p.2) L.tmps:=by
    rw[← Array.foldl_toList,Array.toList_zip,e1]
  have hfold':(L.params.zip as').foldl (fun tmps (x:Tmp×Value)=>tmps.setIfInBounds x.1 x.2) L.tmps=(al.params.toList.zip as'.toList).foldl (fun tmps (p:Tmp×Value)=>tmps.setIfInBounds p.1 p.2) L.tmps:=hfold
  have hvars:Dc P ρ fn var ((al.params.toList.zip as'.toList).foldl (fun tmps (p:Tmp×Value)=>tmps.setIfInBounds p.1 p.2) L.tmps):=⟨z2,z1,by rw[z3];exact hsz fn hf⟩
  unfold Hn at hc
  simp only[qh]at hc
  obtain⟨q,hq1,hc⟩:=hc
  cases hn:JC q.exit with
  | false=>rw[hn]at hc;cases hc
  | true =>
    rw[hn]at hc
    simp only[cond_true,qh]at hc
    obtain⟨r2,hr2,hc⟩:=hc
    cases hrd:Kx r2.state with
    | false=>rw[hrd]at hc;cases hc
    | true =>
      rw[hrd]at hc
      simp only[cond_true]at hc
      unfold JS at hc
      simp only[qh]at hc
      obtain⟨q2,hq2,r3,hr3,hc⟩:=hc
      injection hc with hc
      injection hc with hv hs
      subst hv
      subst hs
      have hqn:q.exit=.normal:=by cases he:q.exit<;>rw[he]at hn<;>first | rfl | cases hn
      have hst:r2.state=.ready:=by
        cases he:r2.state<;>rw[he]at hrd<;>first | rfl | cases hrd
      rw[e2,e3]
      refine hcode al.fn fn al.assign (some l) (some rb.b) var [] s q ρ w _ _ hf hq1 ⟨hi,hfr,by first | exact hvars | (simp only[];rw[hfold];exact hvars),rfl,⟨rb,hl,rfl⟩⟩ ?_
      intro a1 w1 ρ1 g1
      rw[hqn]
      have hl1:ρ1 l=some rb:=g1.fr.le _ _ hl
      have hg2:=FY hr2
      obtain⟨L1,k0,k1,_⟩:=(g1.inv.obj _ _ _ hg2 hl1:Gp P ρ1 w1 r2 rb).ex
      obtain⟨i2,f2⟩:=MM g1.inv hg2 hl1 (st:=.busy) (pd:=r2.pending) k0
      refine⟨_,run_beginRound k0 (by rw[k1,hst]),?_⟩
      have hpd:L1.pending=r2.pending:=by
        obtain⟨L1',k0',_,k2',_⟩:=(g1.inv.obj _ _ _ hg2 hl1:Gp P ρ1 w1 r2 rb).ex
        rw[k0]at k0';injection k0' with k0';injection k0' with k0';subst k0';exact k2'
      have hL1:({ L1 with state:=.busy }:Loop)={ L1 with state:=.busy,pending:=r2.pending }:=by rw[← hpd]
      rw[hL1]
      have hal:({ r2 with state:=.busy }:Fg)={ r2 with state:=.busy,pending:=r2.pending }:=rfl
      refine hcode al.fn fn al.body (some l) (some rb.b) q.var q.marks _ q2 ρ1 _ a1 _ hf hq2 ⟨i2,g1.fresh.step f2,g1.vars,g1.marks,⟨rb,hl1,rfl⟩⟩ ?_
      intro a3 w3 ρ3 g3
      have hl3:ρ3 l=some rb:=g3.fr.le _ _ hl1
      have hg3:=FY hr3
      obtain⟨L3,m0,m1,_⟩:=(g3.inv.obj _ _ _ hg3 hl3:Gp P ρ3 w3 r3 rb).ex
      have tot:=g1.fr.trans (f2.trans g3.fr)
      have fin:∀jump:Option Code,DV q2.exit=jump→∃v w',(Instr.endRound rb.b jump).run P w3=.ok v w'∧GK P ρ s w (.bool (DV q2.exit).isNone) (setObj q2.st l (.loop { r3 with state:=Hp (DV q2.exit),pending:=DV q2.exit })) (.returned v) w':=by
        intro jump hj
        obtain⟨i4,f4⟩:=MM g3.inv hg3 hl3 (st:=Hp jump) (pd:=jump) m0
        refine⟨_,_,run_endRound jump m0,ρ3,?_,?_,?_⟩
        · rw[hj];exact .bool _
        · rw[hj]
          have:(if jump.isNone=true then LoopState.ready else .done)=Hp jump:=by cases jump<;>rfl
          rw[this]
          exact i4
        · rw[hj]
          have:(if jump.isNone=true then LoopState.ready else .done)=Hp jump:=by cases jump<;>rfl
          rw[this]
          exact tot.trans f4
      cases he:q2.exit with
      | normal=>have:=fin none (by rw[he];rfl);rw[he]at this;exact this
      | ret=>have:=fin (some .ret) (by rw[he];rfl);rw[he]at this;exact this
      | exit id=>have:=fin (some (.exit id)) (by rw[he];rfl);rw[he]at this;exact this
theorem pq  (hm : P.follows .mixedOrders = true) (hng : Ey      P) {E : BI}  (hE : E.P = P) (hnat : IH     P E.nat) : ∀ n, PR    P (ER   E n) n := by
  intro n
  induction n with
  | zero =>
    refine⟨?_,?_,?_,?_⟩
    · intro f fn c rnd r var marks s res ρ w a Q hf hc;cases hc
    · intro f fn c rnd r var marks s res ρ w a Q hf hc;cases hc
    · intro ρ s w f aS v s1 as' hc;cases hc
    · intro ρ s w l rb aS v s1 as' hc;cases hc
  | succ n ih =>
    refine⟨VV hm hng ih,V3 ih,?_,?_⟩
    · intro ρ s w f aS v s1 as' hc hi hfr ha
      have hc:ID E (ER E n) f aS s=some (v,s1):=hc
      unfold ID at hc
      split at hc
      · rename_i p hp
        injection hc with hc
        subst hc
        exact hnat ρ s w f aS _ _ as' hp hi hfr ha
      · rw[hE]at hc
        exact c5 ih.code hc hi hfr ha
    · intro ρ s w l rb aS v s1 as' hc hi hfr hl ha
      exact bu hng hE ih.code hc hi hfr hl ha
end
def kA:cg:=fun _ _ _=>none
theorem bR(P:Program):IH P kA:=fun _ _ _ _ _ _ _ _ hc=>by cases hc
def env(P:Program):BI:=⟨P,kA⟩
def MP (P : Program) : Bool := P.funcs.all fun fn => !(fn.name == "runtime.NumGoroutine")
theorem IZ{P:Program}(h:MP P=true):Ey P:=by
 intro f fn hf
 unfold MP at h
 rw[Array.all_eq_true_iff_forall_mem]at h
 have:=h fn (Array.mem_of_getElem? hf)
 simpa using this
def bq:Bq:=fun _=>none
def RL:AE:=⟨0,.leaf⟩
theorem oX(P:Program)(w:World):By P bq RL w:=⟨fun i o rb _ hr=>(by cases hr),fun i rb hr=>(by cases hr),fun i j oi oj ri rj _ _ _ hr=>(by cases hr)⟩
theorem aj:Bk bq RL:=fun i _=>⟨rfl,rfl⟩
structure Mw(W W':World):Prop where
 heap:∀b,b<W.heap.size→W'.heap[b]? = W.heap[b]?
 os:W'.os=W.os
 output:W'.output=W.output
 size:W.heap.size≤W'.heap.size
theorem U2{ρ ρ':Bq}{s s':AE}{w w':World}(h:Fr ρ s w ρ' s' w')(hn:∀b,¬ Gq ρ s b):Mw w w':=
 ⟨fun b hb=>h.keep b hb (hn b),h.os,h.output,h.size⟩
theorem WD(b:Nat):¬ Gq bq RL b:=fun⟨i,o,rb,hi,_⟩=>by cases hi
theorem Mw.keptBut{W W':World}(h:Mw W W')(may:MemPlace→Prop):W.keptBut W' may:=by
 refine⟨h.os,h.output,fun i hi=>?_⟩
 rw[h.heap i hi]
 have:W.heap[i]? = some W.heap[i]:=Array.getElem?_eq_getElem hi
 rw[this]
 cases W.heap[i]with
 | cells c t fr=>exact⟨rfl,rfl,rfl,fun _ _=>rfl⟩
 | map es clock=>exact .inr ⟨rfl,rfl⟩
 | _=>rfl
theorem Mw.frozen{W W':World}(h:Mw W W')(a:Addr)(ha:a.block<W.heap.size):W'.frozen? a=W.frozen? a:=by simp[World.frozen?,h.heap _ ha]
def U1:Option (AV×AE)→Bool
 | some (.bool b,_)=>b
 | _=>false
section
open Go.ChangeShapes Go.WideShapes
theorem post_of_kept{H:Type}{enc:TypeId×Value→H}{P:Program}{f:Func}{s:ChangeSpec}{apart fresh handsOn again:Bool}{W W':World}{args:Array Value}{v:Value}{ds gs:List (DataW H)}{before pa pv:List MemPlace}
  (hW:DataW.Whole enc P f.params.toList s.vars apart W args.toList ds gs before)
  (hres:∀ (b:Nat) (sp:Nat→Bool) (hd:Bool),DataW.TrodAll enc P W' b sp hd f.resultTypes.toList (v.resultList f.resultTypes.size) (s.fn H (ds++gs)).results [])
  (hargs:∀sp:Nat→Bool,(∀p∈before,sp p.block=true)→DataW.TrodAll enc P W' 0 sp true f.params.toList args.toList (s.fn H (ds++gs)).args pa)
  (hvars:∀sp:Nat→Bool,(∀p∈before,sp p.block=true)→DataW.TrodVars enc P W' sp s.vars (s.fn H (ds++gs)).vars pv)
  (hps:before=pa++pv) (hk:Mw W W')
  (hok:∀ (j:Nat) (t:TypeId) (r:Value),f.resultTypes[j]? = some t→(v.resultList f.resultTypes.size)[j]? = some r→Value.okWide P W' .any 0 t r):
  s.post enc P f apart fresh handsOn again W args v W':=by
 have hold:∀p∈before,(fun b=>decide (b<W.heap.size)) p.block=true:=fun p hp=>by simpa using hW.lt p hp
 refine⟨ds,gs,before,[],pa,pv,hW,hres _ _ _,hargs _ hold,hvars _ hold,World.keptBut_mono (fun p hp=>⟨hp,?_⟩) (hk.keptBut _),fun _=>?_⟩
 ·rw[hps,sE]at hp
  exact Or.inr hp
 ·have hlt:=hW.lt
  obtain⟨_,_,_,_,_,hz,hn⟩:=hW
  refine⟨hok,_,_,([]++pa)++pv,⟨[]++pa,pv,trodAll_append (hargs _ (fun _ _=>rfl)) (hres _ _ _),hvars _ (fun _ _=>rfl),rfl,?_,?_⟩,?_⟩
  ·intro b off hp
   have hp':MemPlace.cell b off∈before:=by rw[hps];simpa using hp
   rw[hk.frozen _ (hlt _ hp')]
   exact hz b off hp'
  ·intro ha
   have:=hn ha
   rw[hps]at this
   simpa using this
  ·intro p hp _
   rw[hps]
   simpa using hp
end
end
end Go.Proofs.Ytilhhmkdcoajnaa.Am
set_option linter.unusedVariables false
set_option linter.unusedSimpArgs false
namespace Go.Proofs.Ytilhhmkdcoajnaa.Am
open Go Go.Proofs
noncomputable section
def Oh:List AV→Option (List Int)
 | []=>some []
 | .int .i64 n::l=>AG (CC .i64 n) ((Oh l).bind fun r=>some (n::r))
 | _=>none
def HM(s:AE):AV→Option (List Int)
 | .slice none n _=>AG (Nat.beq n 0) (some [])
 | .slice (some (i,o)) n _=>AG (Nat.blt i s.next && Nat.ble n 1000) ((loadN s i o n).bind Oh)
 | _=>none
def rowsOf(s:AE):List AV→Option (List (List Int))
 | []=>some []
 | v::l=>(HM s v).bind fun L=>(rowsOf s l).bind fun r=>some (L::r)
def MZ(s:AE):AV→Option (List (List Int))
 | .slice none n _=>AG (Nat.beq n 0) (some [])
 | .slice (some (i,o)) n _=>AG (Nat.blt i s.next && Nat.ble n 1000) ((loadN s i o n).bind (rowsOf s))
 | _=>none
theorem QD{n:Int}(h:CC .i64 n=true):i64 n:=by
 cases n with
 | ofNat m =>
  simp only[CC,qu]at h
  have e:Int.ofNat m=(m:Int):=rfl
  rw[e]
  exact⟨by omega,by omega⟩
 | negSucc m=>simp only[CC,qu]at h;exact⟨by omega,by omega⟩
theorem NZ:∀ {l:List AV}{L:List Int},Oh l=some L→l=A3 L∧DF L
 | [],L,h=>by injection h with h;subst h;exact⟨rfl,(fun x hx=>by cases hx)⟩
 | v::l,L,h=>by
  unfold Oh at h
  split at h
  ·rename_i e;cases e
  ·rename_i n l' e
   injection e with e1 e2
   subst e1;subst e2
   obtain⟨h1,h2⟩:=AI h
   simp only[qh]at h2
   obtain⟨r,h3,h4⟩:=h2
   injection h4 with h4
   subst h4
   obtain⟨g1,g2⟩:=NZ h3
   refine⟨by rw[g1];rfl,fun x hx=>?_⟩
   rcases rI.1 hx with rfl | hx
   ·exact QD h1
   ·exact g2 x hx
  ·cases h
theorem Nc{s:AE}{i o n:Nat}{l:List AV}(h:loadN s i o n=some l):l.length=n∧∀k u,l[k]? = some u→load1 s i (o+k)=some u:=by
  unfold loadN at h
  simp only[qh]at h
  obtain⟨r,h1,h2⟩:=h
  obtain⟨h3,h4⟩:=AI h2
  have hl:=Ak.take_length h4
  refine⟨hl,fun k u hk=>?_⟩
  have hlt:k<n:=by
    rcases qk k n with h' | h'
    · exact h'
    · rw[rA (by omega)]at hk;cases hk
  have h3:o+n≤r.n:=by simpa[qu]using h3
  exact BX        (by unfold rowAt at h1; split at h1; · injection h1 with h1; subst h1; assumption
                      · cases h1) (by omega) ((Ak.take_get h4 k hlt).trans hk)
theorem HN{s:AE}{v:AV}{L:List Int}(h:HM s v=some L):AJ s.next s v (A3 L)∧DF L∧L.length≤1000:=by
 unfold HM at h
 split at h
 ·obtain⟨h1,h2⟩:=AI h
  injection h2 with h2
  subst h2
  have:=rW h1
  subst this
  exact⟨⟨_,_,rfl,BA.nil⟩,(fun x hx=>by cases hx),by decide⟩
 ·rename_i i o n c
  obtain⟨h1,h2⟩:=AI h
  simp only[Bool.and_eq_true]at h1
  simp only[qh]at h2
  obtain⟨l,h3,h4⟩:=h2
  obtain⟨g1,g2⟩:=NZ h4
  obtain⟨g3,g4⟩:=Nc h3
  subst g1
  have hn:L.length=n:=by rw[← g3];simp
  refine⟨⟨some (i,o),c,by rw[g3],fun k u hk=>⟨i,o,rfl,by simpa[rJ]using h1.1,g4 k u hk⟩⟩,g2,?_⟩
  rw[hn]
  simpa[qu]using h1.2
 ·cases h
theorem J9{s:AE}:∀ {l:List AV}{cs:List (List Int)},rowsOf s l=some cs→l.length=cs.length∧(∀ (k:Nat)(L:List Int),cs[k]? = some L→∃u:AV,l[k]? = some u∧HM s u=some L)
 | [],cs,h=>by injection h with h;subst h;exact⟨rfl,fun k L hk=>by simp at hk⟩
 | v::l,cs,h=>by
  simp only[rowsOf,qh]at h
  obtain⟨L,h1,r,h2,h3⟩:=h
  injection h3 with h3
  subst h3
  obtain⟨g1,g2⟩:=J9 h2
  refine⟨by simp[g1],fun k L' hk=>?_⟩
  cases k with
  | zero=>simp at hk;subst hk;exact⟨v,rfl,h1⟩
  | succ k=>simpa using g2 k L' (by simpa using hk)
theorem Vi{s:AE}{l:List AV}{cs:List (List Int)}(h:rowsOf s l=some cs)(hl:l.length≤1000):VM cs:=by
 obtain⟨g1,g2⟩:=J9 h
 refine⟨by omega,fun L hL=>?_⟩
 obtain⟨k,hk⟩:=List.mem_iff_getElem?.1 hL
 obtain⟨u,_,h2⟩:=g2 k L hk
 have:=HN h2
 exact⟨this.2.1,by have:=this.2.2;omega⟩
theorem Q7{s:AE}{v:AV}{cs:List (List Int)}(h:MZ s v=some cs):R3 s.next s v cs∧VM cs:=by
 unfold MZ at h
 split at h
 ·obtain⟨h1,h2⟩:=AI h
  injection h2 with h2
  subst h2
  have:=rW h1
  subst this
  exact⟨⟨_,_,rfl,(fun k L hk=>by simp at hk)⟩,⟨by decide,(fun L hL=>by cases hL)⟩⟩
 ·rename_i i o n c
  obtain⟨h1,h2⟩:=AI h
  simp only[Bool.and_eq_true]at h1
  simp only[qh]at h2
  obtain⟨l,h3,h4⟩:=h2
  obtain⟨g3,g4⟩:=Nc h3
  obtain⟨g1,g2⟩:=J9 h4
  refine⟨⟨some (i,o),c,by rw[← g3,g1],fun k L hk=>?_⟩,Vi h4 (by rw[g3];simpa[qu]using h1.2)⟩
  obtain⟨u,k1,k2⟩:=g2 k L hk
  exact⟨i,o,u,rfl,by simpa[rJ]using h1.1,g4 k u k1,(HN k2).1⟩
 ·cases h
theorem GK.forget     {P : Program} {ρ : Bq}  {s s1 : AE}  {w w' : World} {v : AV} {e : Ending} {m : Nat} (h : GK     P ρ s w v s1 e w') (ho : Ao  s.next s s1) (hm : s1.next ≤ m) (hf : Bk     ρ s) : GK     P ρ s w v ⟨m, s.heap⟩ e w' := by
  cases e with
  | panicked c=>exact h
  | outgrown=>exact h
  | returned v' =>
    obtain⟨ρ',h1,h2,h3⟩:=h
    have sub:∀i o,s.heap.get i=some o→s1.heap.get i=some o:=by
      intro i o hi
      have:i<s.next:=by
        rcases qk i s.next with h' | h'
        · exact h'
        · rw[(hf i h').2]at hi;cases hi
      rw[ho.2 i this];exact hi
    have hn:=ho.1
    refine⟨ρ',h1,⟨fun i o rb hi hr=>h2.obj i o rb (sub i o hi) hr,h2.lt,fun i j oi oj ri rj hne hi hj=>h2.sep i j oi oj ri rj hne (sub i oi hi) (sub j oj hj)⟩,
      ⟨h3.le,fun i hi hr=>h3.fresh i hi (hr.imp id fun(h':m≤i)=>by omega),qs hn hm,h3.size,h3.os,h3.tape,h3.output,h3.keep,?_,fun _ _ _=>rfl⟩⟩
    rintro b ⟨i,o,rb,k1,k2,k3,k4⟩
    exact h3.own b ⟨i,o,rb,sub i o k1,k2,k3,k4⟩
def mW:cg:=fun f xs s=>bif Nat.beq f 17 then (match xs with
 | [v,u]=>(MZ s v).bind fun cs=>(HM s u).bind fun c=>(D2 100 cs c).bind fun b=>some (.bool b,⟨s.next+2,s.heap⟩)
 | _=>none)else none
theorem an:Aq (env Try.prog):=⟨rfl,fun _ _ _ _=>rfl⟩
theorem eZ(hm:Try.prog.follows .mixedOrders=true)(hng:Ey Try.prog):IH Try.prog mW:=by
 intro ρ s w f xs v s1 xs' h hi hf ha
 unfold mW at h
 cases hb:Nat.beq f 17 with
 | false=>rw[hb]at h;cases h
 | true =>
  rw[hb]at h
  have:=rW hb
  subst this
  simp only[cond_true]at h
  split at h
  ·rename_i v0 u0
   simp only[qh]at h
   obtain⟨cs,h1,c,h2,b,h3,h4⟩:=h
   injection h4 with h4
   injection h4 with h4 h5
   subst h4;subst h5
   obtain⟨g1,g2⟩:=Q7 h1
   obtain⟨g3,g4,g5⟩:=HN h2
   obtain⟨n,p,k1,k2,k3⟩:=L8 an g2 g4 (by omega) g1 g3 h3
   have:=(pq hm hng rfl (bR Try.prog) n).call ρ s w 17 _ p.1 p.2 xs' k1 hi hf ha
   refine⟨this.1,CallsIn.mono this.2 fun e w' he=>?_⟩
   rw[k2]at he
   exact he.forget k3.1 (by rw[k3.2];exact qg _) hf
  ·cases h
def mN:BI:=⟨Try.prog,mW⟩
theorem MS:Try.prog.follows .mixedOrders=true:=by kernel_rfl
theorem J4:MP Try.prog=true:=by kernel_rfl
theorem Wr:U1 ((ER mN 100000).call 21 [] RL)=true:=by kernel_rfl
theorem OY           {n : Nat} {f : FuncId} (h : U1      ((ER   mN   n).call f [] RL)  = true) (w : World) :
    (∃fn c,Try.prog.funcs[f]? = some fn∧fn.body=some c)∧CallsIn Fence.wide 0 Try.prog f #[] w fun e w'=>e=.returned (.bool true)∧Mw w w'∧w'.tape=w.tape:=by
  cases hr:(ER mN n).call f [] RL with
  | none=>rw[hr]at h;cases h
  | some p =>
    obtain⟨v,s1⟩:=p
    rw[hr]at h
    cases v with
    | bool b =>
      have hb:b=true:=h
      subst hb
      have:=(pq MS (IZ J4) rfl (eZ MS (IZ J4)) n).call bq RL w f [] _ _ #[] hr (oX _ w) aj .nil
      refine⟨this.1,CallsIn.mono this.2 ?_⟩
      intro e w' he
      cases e with
      | panicked c=>exact he.elim
      | outgrown=>exact he.elim
      | returned v' =>
        obtain⟨ρ',h1,h2,h3⟩:=he
        cases h1
        exact⟨rfl,U2 h3 WD,h3.tape⟩
    | _=>cases h
def bP:cg:=fun f xs s=>bif Nat.beq f 21 then (match xs with
 | []=>some (.bool true,s)
 | _=>none)else none
theorem eb      : IH     Try.prog bP   := by
  intro ρ s w f xs v s1 xs' h hi hf ha
  unfold bP at h
  cases hb:Nat.beq f 21 with
  | false=>rw[hb]at h;cases h
  | true =>
    rw[hb]at h
    have:=rW hb
    subst this
    simp only[cond_true]at h
    split at h
    · injection h with h
      injection h with h1 h2
      subst h1;subst h2
      have hx:xs'=#[]:=by
        have hl:=ha.length
        exact Array.eq_empty_of_size_eq_zero (by simpa using hl.symm)
      subst hx
      obtain⟨g1,g2⟩:=OY Wr w
      refine⟨g1,CallsIn.mono g2 fun e w' he=>?_⟩
      obtain⟨rfl,hk,ht⟩:=he
      refine⟨ρ,.bool true,⟨fun i o rb hi' hr=>(hi.obj i o rb hi' hr).mono (Bq.le_refl ρ) (hk.heap rb.b (hi.lt i rb hr)),fun i rb hr=>qw (hi.lt i rb hr) hk.size,hi.sep⟩,
        ⟨Bq.le_refl ρ,fun _ h _=>h,qg _,hk.size,hk.os,ht,hk.output,fun b hb _=>hk.heap b hb,fun b hb=>.inl hb,fun _ _ _=>rfl⟩⟩
    · cases h
def mO:BI:=⟨Try.prog,bP⟩
theorem TU(s:AE):mO.nat 21 [] s=some (.bool true,s):=rfl
theorem Vk:Aq mO:=by
 refine⟨rfl,fun f xs s hf=>?_⟩
 show bP f xs s=none
 unfold bP
 have:Nat.beq f 21=false:=by
  cases hb:Nat.beq f 21 with
  | true=>exact absurd (rW hb) hf
  | false=>rfl
 rw[this];rfl
end
end Go.Proofs.Ytilhhmkdcoajnaa.Am
set_option linter.unusedVariables false
set_option linter.unusedSimpArgs false
namespace Go.Proofs.Ytilhhmkdcoajnaa.Am
open Go
noncomputable section
theorem QS{α β:Type}{f:α→Option β}:∀ {l:List α}{r:List β},l.mapM f=some r→r.length=l.length∧∀ (k:Nat)(a:α),l[k]? = some a→f a=r[k]?
 | [],r,h=>by
  simp at h
  subst h
  exact⟨rfl,fun k a hk=>by simp at hk⟩
 | x::l,r,h=>by
  rw[List.mapM_cons]at h
  simp only[bind,pure,qh]at h
  obtain⟨y,h1,r',h2,h3⟩:=h
  injection h3 with h3
  subst h3
  obtain⟨g1,g2⟩:=QS h2
  refine⟨by simp[g1],fun k a hk=>?_⟩
  cases k with
  | zero=>simp at hk;subst hk;simpa using h1
  | succ k=>simpa using g2 k a (by simpa using hk)
theorem Js{w:World}{a:Addr}{n:Nat}{cs:List Value}(h:w.cells? 0 a n=some cs):cs.length=n∧∀j,j<n→w.cell? (a.add j)=cs[j]? := by
 unfold World.cells? at h
 rw[if_pos (qm _)]at h
 obtain⟨g1,g2⟩:=QS h
 exact⟨by simpa using g1,fun j hj=>g2 j j (by simp[hj])⟩
theorem dh{w:World}{a:Addr}{v:Value}(h:w.cell? a=some v):a.block<w.heap.size:=by
 unfold World.cell? at h
 cases hb:w.heap[a.block]? with
 | none=>rw[hb]at h;cases h
 | some o =>
  rcases qk a.block w.heap.size with h' | h'
  ·exact h'
  ·rw[Array.getElem?_eq_none h']at hb;cases hb
theorem UV(b off n:Nat):(⟨b,off,none⟩:Addr).add n=⟨b,off+n,none⟩:=by
 unfold Addr.add
 split
 ·rename_i h;subst h;rfl
 ·rfl
section
variable{H:Type}{enc:TypeId×Value→H}{P:Program}{w:World}{held:Bool}
theorem T2         {t e : TypeId} {sz : Nat} (ht : P.underlying t = some (.slice e)) (hsz : P.cellsOf e = sz) (h0 : 0 < sz) {fuel : Nat} {cs : List Value} {x : DataW H × List MemPlace} (h : DataW.trod enc P w 0 (fun _ => true) held fuel t cs = some x) :
    cs=[.slice none 0 0]∨(∃a,cs=[.slice (some a) 0 0]) ∨
    ∃ (b off len cap n:Nat),cs=[.slice (some ⟨b,off,none⟩) len cap]∧len≤cap∧cap≤maxLen∧b<w.heap.size ∧
      ∀i,i<len→∃cs' y,DataW.trod enc P w 0 (fun _=>true) held n e cs'=some y∧cs'.length=sz∧∀j,j<sz→w.cell? ⟨b,off+i * sz+j,none⟩=cs'[j]? := by
  rcases DataW.trod_slice ht h with⟨h1,_⟩ | ⟨a,len,cap,elems,rest,n,h1,h2,h3,h4,h5,h6,h7,h8,h9,_⟩
  · exact .inl h1
  · rw[hsz]at h8 h9
    obtain⟨h9,h10⟩:=h9 rfl
    rcases rh cap with rfl | hcap
    · have:len=0:=by omega
      subst this
      exact .inr (.inl ⟨a,h2⟩)
    ·
      have first:∃v,w.cell? a=some v:=by
        rcases rh len with hl | hl
        · subst hl
          have:=h10 0 (by omega)
          have hlt:0<rest.length:=by omega
          rw[qp hlt]at this
          simp only[qh]at this
          obtain⟨cs',g1,_⟩:=this
          obtain⟨g2,g3⟩:=Js g1
          have g4:=g3 0 h0
          rw[qp (show 0<cs'.length by omega)]at g4
          exact⟨_,by simpa[Addr.add]using g4⟩
        · have:=h8 0 hl
          rw[qp (show 0<elems.length by omega)]at this
          simp only[qh]at this
          obtain⟨cs',g1,_⟩:=this
          obtain⟨g2,g3⟩:=Js g1
          have g4:=g3 0 h0
          rw[qp (show 0<cs'.length by omega)]at g4
          exact⟨_,by simpa[Addr.add]using g4⟩
      obtain⟨v,hv⟩:=first
      have hspot:=World.cell?_spot hv
      have hlt:=dh hv
      obtain⟨b,off,spot⟩:=a
      have hspot:spot=none:=hspot
      subst hspot
      refine .inr (.inr ⟨b,off,len,cap,n,h2,h5,h6,hlt,fun i hi=>?_⟩)
      have:=h8 i hi
      rw[qp (show i<elems.length by omega)]at this
      simp only[qh]at this
      obtain⟨cs',g1,g2⟩:=this
      obtain⟨g3,g4⟩:=Js g1
      refine⟨cs',_,g2,g3,fun j hj=>?_⟩
      have:=g4 j hj
      rw[UV,UV]at this
      exact this
structure GJ(P:Program)(w:World)(ρ:Bq)(s:AE):Prop where
 inv:By P ρ s w
 fresh:Bk ρ s
 ro:∀i o,s.heap.get i=some o→wr o=false
theorem oT(P:Program)(w:World):GJ P w bq RL:=⟨oX P w,aj,fun i o h=>by cases h⟩
theorem GJ.notOwned{ρ:Bq}{s:AE}(h:GJ P w ρ s)(b:Nat):¬ Gq ρ s b:=fun⟨i,o,rb,h1,h2,_⟩=>by rw[h.ro i o h1]at h2;cases h2
def kG(e:TypeId)(sz:Nat)(cs:List AV):C8:=.row { elem:=e,sz,n:=cs.length,c:=Ak.fill .leaf 0 cs,spare:=false,mode:=.ro,par:=none,bytes:=false }
theorem bs{cs:List AV}{k:Nat}{u:AV}(h:cs[k]? = some u):(Ak.fill .leaf 0 cs).get k=some u:=by
 have hlt:k<cs.length:=by
  rcases qk k cs.length with h' | h'
  ·exact h'
  ·rw[rA h']at h;cases h
 rw[Ak.get_fill,if_pos ⟨qm _,by omega⟩]
 simpa using h
theorem GJ.row{ρ:Bq}{s:AE}(h:GJ P w ρ s)(e:TypeId)(sz b off:Nat)(cs:List AV)(hb:b<w.heap.size)(hc:∀k u,cs[k]? = some u→∃v,w.cell? ⟨b,off+k,none⟩=some v∧Ad ρ u v):
    ∃ρ',GJ P w ρ' (newObj s (kG e sz cs))∧ρ.le ρ'∧ρ' s.next=some ⟨b,off,cs.length,sz⟩:=by
  have hf:=h.fresh s.next (qg _)
  have hle:=C1 (rb:=⟨b,off,cs.length,sz⟩) hf.1
  refine⟨C3 ρ s.next ⟨b,off,cs.length,sz⟩,⟨⟨?_,?_,?_⟩,?_,?_⟩,hle,A8 _ _⟩
  · intro i o rb hi hr
    rw[AK]at hi
    by_cases e':i=s.next
    · subst e'
      rw[if_pos rfl]at hi
      injection hi with hi
      subst hi
      rw[A8]at hr
      injection hr with hr
      subst hr
      refine⟨fun k v hk hv=>?_,qg _,rfl,fun _=>rfl,fun hm=>absurd rfl hm,fun p hp=>by cases hp⟩
      have hk:k<cs.length:=hk
      have hv:(Ak.fill .leaf 0 cs).get k=some v:=hv
      have hu:cs[k]? = some cs[k]:=qp hk
      rw[bs hu]at hv
      injection hv with hv
      subst hv
      obtain⟨v',h1,h2⟩:=hc k _ hu
      exact⟨v',h1,h2.mono hle⟩
    · rw [if_neg e'] at hi
      rw[A4 _ e']at hr
      exact(h.inv.obj i o rb hi hr).mono hle rfl
  · intro i rb hr
    by_cases e':i=s.next
    · subst e'
      rw[A8]at hr
      injection hr with hr
      subst hr
      exact hb
    · rw[A4 _ e']at hr
      exact h.inv.lt i rb hr
  · intro i j oi oj ri rj _ _ hj _ _ _ hw
    rw[AK]at hj
    by_cases e':j=s.next
    · rw[if_pos e']at hj
      injection hj with hj
      subst hj
      cases hw
    · rw [if_neg e'] at hj
      rw[h.ro j oj hj]at hw
      cases hw
  · intro i hi
    have hi:s.next+1≤i:=hi
    refine⟨?_,?_⟩
    · rw[A4 _ (by omega)];exact(h.fresh i (by omega)).1
    · rw[AK,if_neg (by omega)];exact(h.fresh i (by omega)).2
  · intro i o hi
    rw[AK]at hi
    by_cases e':i=s.next
    · rw[if_pos e']at hi
      injection hi with hi
      subst hi
      rfl
    · rw[if_neg e']at hi
      exact h.ro i o hi
def KL(P:Program)(w:World){α:Type}(p:AE→List AV→α→Prop)(cs:List Value)(ρ:Bq)(s:AE):Prop:=
 ∃ρ' s' us x,GJ P w ρ' s'∧ρ.le ρ'∧Ao s.next s s'∧AX ρ' us cs∧p s' us x
theorem TS         {α : Type} {p : AE  → List AV → α → Prop} (hp : ∀ s s' us x, p s us x → Ao  s.next s s' → p s' us x) {sz b off len : Nat}
    (hel:∀i,i<len→∃cs':List Value,cs'.length=sz∧(∀j,j<sz→w.cell? ⟨b,off+i * sz+j,none⟩=cs'[j]?)∧∀ρ s,GJ P w ρ s→KL P w p cs' ρ s):
    ∀ (m : Nat), m ≤ len → ∀ ρ s, GJ   P w ρ s → ∃ (ρ' : Bq)  (s' : AE)  (us : List AV) (xs : List α), GJ   P w ρ' s' ∧ ρ.le ρ' ∧ Ao  s.next s s' ∧ us.length = m * sz ∧ xs.length = m ∧
      (∀k u,us[k]? = some u→∃v,w.cell? ⟨b,off+k,none⟩=some v∧Ad ρ' u v)∧∀ (k:Nat) (x:α),xs[k]? = some x→p s' ((us.drop (k * sz)).take sz) x:=by
  intro m
  induction m with
  | zero=>intro _ ρ s h;exact⟨ρ,s,[],[],h,Bq.le_refl ρ,Ao.refl _ _,by simp,rfl,fun k u hk=>by simp at hk,fun k x hk=>by simp at hk⟩
  | succ m ih =>
    intro hm ρ s h
    obtain⟨ρ1,s1,us,xs,g1,g2,g3,g4,g5,g6,g7⟩:=ih (by omega) ρ s h
    obtain⟨cs',k1,k2,k3⟩:=hel m (by omega)
    obtain⟨ρ2,s2,vs,y,q1,q2,q3,q4,q5⟩:=k3 ρ1 s1 g1
    have hvl:vs.length=sz:=by rw[q4.length,k1]
    refine⟨ρ2,s2,us++vs,xs++[y],q1,Bq.le_trans g2 q2,g3.trans (q3.mono g3.1),by rw[qn,g4,hvl,rO,Nat.one_mul],by simp[g5],fun k u hk=>?_,fun k x hk=>?_⟩
    · rcases qk           k us.length with hlt | hge
      · rw[qv hlt]at hk
        obtain⟨v,e1,e2⟩:=g6 k u hk
        exact⟨v,e1,e2.mono q2⟩
      · rw[qy hge]at hk
        have hj:k - us.length<sz:=by
          rcases qk (k - us.length) vs.length with h' | h'
          · omega
          · rw[rA h']at hk;cases hk
        obtain⟨v,e1,e2⟩:=q4.get hk
        refine⟨v,?_,e2⟩
        have:=k2 (k - us.length) hj
        rw[e1]at this
        rw[show off+k=off+m * sz+(k - us.length) by omega]
        exact this
    · rcases qk           k m with hlt | hge
      · rw[qv (by omega)]at hk
        have:=hp s1 s2 _ _ (g7 k x hk) q3
        have hks:(k+1) * sz≤m * sz:=rq _ hlt
        rw[rO,Nat.one_mul]at hks
        rw[sm (by omega),rM (by rw[rV];omega)]
        exact this
      · rw[qy (by omega)]at hk
        have hk0:k=m:=by
          rcases qk (k - xs.length) 1 with h' | h'
          · omega
          · rw[rA (by simpa using h')]at hk;cases hk
        subst hk0
        have hxy:y=x:=by simpa[g5]using hk
        subst hxy
        rw[← g4,List.drop_left' rfl,sF (by omega)]
        exact q5
def UN(s:AE)(a:Option (Nat×Nat))(cap:Option Nat)(n sz:Nat):Prop:=(∃c,cap=some c∧n≤c∧(a=none→c=0))∨(n=0∧cap=none∧∃i r,a=some (i,0)∧i<s.next∧s.heap.get i=some (.row r)∧r.sz=sz)
theorem UN.old{s s':AE}{a:Option (Nat×Nat)}{cap:Option Nat}{n sz:Nat}(h:UN s a cap n sz)(k:Ao s.next s s'):UN s' a cap n sz:=by
 rcases h with h | ⟨h1,h2,i,r,h3,h4,h5,h6⟩
 ·exact .inl h
 ·exact .inr ⟨h1,h2,i,r,h3,qw h4 k.1,by rw[k.2 i h4];exact h5,h6⟩
def CU{α:Type}(p:AE→List AV→α→Prop)(sz:Nat)(s:AE)(us:List AV)(xs:List α):Prop:=
 ∃a cap,us=[.slice a xs.length cap]∧xs.length≤maxLen∧UN s a cap xs.length sz∧∀ (k:Nat) (x:α),xs[k]? = some x→∃i o vs,a=some (i,o)∧i<s.next∧vs.length=sz∧(∀j u,vs[j]? = some u→load1 s i (o+k * sz+j)=some u)∧p s vs x
theorem CU.old{α:Type}{p:AE→List AV→α→Prop}(hp:∀s s' us x,p s us x→Ao s.next s s'→p s' us x){sz:Nat}(s s':AE)(us:List AV)(xs:List α)(h:CU p sz s us xs)(k:Ao s.next s s'):CU p sz s' us xs:=by
 obtain⟨a,cap,h1,hl,hcap,h2⟩:=h
 refine⟨a,cap,h1,hl,hcap.old k,fun j x hj=>?_⟩
 obtain⟨i,o,vs,g1,g2,g3,g4,g5⟩:=h2 j x hj
 exact⟨i,o,vs,g1,qw g2 k.1,g3,fun j u hu=>by rw[BU (k.2 i g2)];exact g4 j u hu,hp s s' _ _ g5 k⟩
theorem G6          {α : Type} {p : AE  → List AV → α → Prop} (hp : ∀ s s' us x, p s us x → Ao  s.next s s' → p s' us x) {t e : TypeId} {sz : Nat} (ht : P.underlying t = some (.slice e)) (hsz : P.cellsOf e = sz) (h0 : 0 < sz)
    (hel:0<w.heap.size→∀ (n:Nat) (cs:List Value) (y:DataW H×List MemPlace),DataW.trod enc P w 0 (fun _=>true) held n e cs=some y→cs.length=sz→∀ρ s,GJ P w ρ s→KL P w p cs ρ s)
    {fuel:Nat} {cs:List Value} {x:DataW H×List MemPlace} (h:DataW.trod enc P w 0 (fun _=>true) held fuel t cs=some x) (hw:∀a,cs=[.slice (some a) 0 0]→0<w.heap.size) {ρ:Bq} {s:AE} (hd:GJ P w ρ s):KL P w (CU p sz) cs ρ s:=by
  rcases T2 ht hsz h0 h with rfl | ⟨a,rfl⟩ | ⟨b,off,len,cap,n,rfl,h1,h2,h3,h4⟩
  · exact⟨ρ,s,[.slice none 0 (some 0)],[],hd,Bq.le_refl ρ,Ao.refl _ _,.cons .sliceNil .nil,none,some 0,rfl,qm _,.inl ⟨0,rfl,qg _,fun _=>rfl⟩,fun k x hk=>by simp at hk⟩
  · obtain⟨ρ',g1,g2,g3⟩:=hd.row e sz 0 0 [] (hw a rfl) (fun k u hk=>by simp at hk)
    exact⟨ρ',_,[.slice (some (s.next,0)) 0 none],[],g1,g2,Ao.new s _,.cons (.sliceEnd g3 h0 (qg _) (by show 0<0+sz;omega)) .nil,_,_,rfl,qm _,.inr ⟨rfl,rfl,s.next,{ elem:=e,sz,n:=0,c:=Ak.fill .leaf 0 [],spare:=false,mode:=.ro,par:=none,bytes:=false },rfl,rP _,by rw[AK,if_pos rfl];rfl,rfl⟩,fun k x hk=>by simp at hk⟩
  · obtain⟨ρ1,s1,us,xs,g1,g2,g3,g4,g5,g6,g7⟩:=TS (w:=w) (P:=P) hp (sz:=sz) (b:=b) (off:=off) (len:=len) (fun i hi=>by
      obtain⟨cs',y,q1,q2,q3⟩:=h4 i hi
      exact⟨cs',q2,q3,fun ρ s hd=>hel (by omega) n cs' y q1 q2 ρ s hd⟩) len (qg _) ρ s hd
    obtain⟨ρ2,k1,k2,k3⟩:=g1.row e sz b off us h3 g6
    have o2:Ao s1.next s1 (newObj s1 (kG e sz us)):=Ao.new s1 _
    refine⟨ρ2,_,[.slice (some (s1.next,0)) xs.length (some cap)],xs,k1,Bq.le_trans g2 k2,g3.trans (o2.mono g3.1),?_,some (s1.next,0),some cap,rfl,by omega,.inl ⟨cap,rfl,by omega,fun h=>by cases h⟩,fun k x hk=>?_⟩
    · rw[g5]
      exact .cons (.slice k3 h1) .nil
    · have hkl:k<len:=by
        rcases qk k xs.length with h' | h'
        · omega
        · rw[rA h']at hk;cases hk
      have hks:(k+1) * sz≤len * sz:=rq _ hkl
      rw[rO,Nat.one_mul]at hks
      refine⟨s1.next,0,(us.drop (k * sz)).take sz,rfl,rP _,by rw[rK,rV];omega,fun j u hj=>?_,hp s1 _ _ _ (g7 k x hk) o2⟩
      rw[sL]at hj
      split at hj
      · rename_i hjs
        rw[rQ]at hj
        rw[qq]
        exact BX (r:={ elem:=e,sz,n:=us.length,c:=Ak.fill .leaf 0 us,spare:=false,mode:=.ro,par:=none,bytes:=false }) (by rw[AK,if_pos rfl];rfl) (by show k * sz+j<us.length;omega) (bs hj)
      · cases hj
end
def Bz(s:AE)(v:AV)(n sz:Nat)(cs:List AV)(O:List Nat):Prop:=
 (∃a,v=.slice a n (some n)∧O=[]∧cs.length=n * sz∧(a=none→n=0)∧∀i o,a=some (i,o)→i<s.next∧loadN s i o (n * sz)=some cs) ∨
 (∃i p,v=.slice (some (i,0)) n none∧Kj 0 s.next s v n sz cs i p∧O=i::p.toList)
theorem Bz.nil(s:AE)(sz:Nat):Bz s (.slice none 0 (some 0)) 0 sz [] []:=.inl ⟨none,rfl,rfl,by simp,fun _=>rfl,fun i o h=>by cases h⟩
theorem Bz.len{s:AE}{v:AV}{n sz:Nat}{cs:List AV}{O:List Nat}(h:Bz s v n sz cs O):cs.length=n * sz:=by
 rcases h with⟨a,h1,h2,h3,h4⟩ | ⟨i,p,h1,h2,h3⟩
 ·exact h3
 ·exact h2.len
theorem bK{s s':AE}{i o n:Nat}(h:s'.heap.get i=s.heap.get i):loadN s' i o n=loadN s i o n:=by unfold loadN rowAt;rw[h]
theorem Bz.lt   {s : AE}  {v : AV} {n sz : Nat} {cs : List AV} {O : List Nat} (h : Bz   s v n sz cs O) : ∀ j ∈ O, j < s.next := by
  rcases h with⟨a,h1,h2,h3,h4⟩ | ⟨i,p,h1,h2,h3⟩
  · subst h2;intro j hj;cases hj
  · subst h3
    intro j hj
    rcases h2.ex with⟨e,_⟩ | ⟨_,_,k2,k3,_⟩
    · rw[h1]at e;cases e
    · rcases rI.1            hj with rfl | hj
      · exact k2
      · cases p with
        | none=>cases hj
        | some q =>
          have:j=q:=by simpa using hj
          rw[this]
          exact(k3 q rfl).2.1
def slot:AV→Option Nat
 | .slice (some (i,_)) _ _=>some i
 | _=>none
theorem Bz.frame{s s':AE}{v:AV}{n sz:Nat}{cs:List AV}{O:List Nat}(h:Bz s v n sz cs O)(hn:s.next≤s'.next)(hf:∀j,slot v=some j→s'.heap.get j=s.heap.get j):Bz s' v n sz cs O:=by
 rcases h with⟨a,rfl,h2,h3,h4,h5⟩ | ⟨i,p,rfl,h2,h3⟩
 ·refine .inl ⟨a,rfl,h2,h3,h4,fun i o e=>?_⟩
  obtain⟨k1,k2⟩:=h5 i o e
  subst e
  exact⟨by omega,by rw[bK (hf i rfl)];exact k2⟩
 ·exact .inr ⟨i,p,rfl,(h2.mono hn).frame fun _ _=>hf i rfl,h3⟩
theorem Bz.cells   {s : AE}  {v : AV} {n sz : Nat} {cs : List AV} {O : List Nat} (h : Bz   s v n sz cs O) : ∃ a cap, v = .slice a n cap ∧ BA      s.next s a cs := by
  rcases h with⟨a,rfl,h2,h3,h4,h5⟩ | ⟨i,p,rfl,h2,h3⟩
  · refine⟨a,_,rfl,fun k u hk=>?_⟩
    have hlt:k<cs.length:=by
      rcases qk k cs.length with h | h
      · exact h
      · rw[rA h]at hk;cases hk
    cases a with
    | none=>rw[h4 rfl]at h3;simp at h3;subst h3;simp at hlt
    | some io =>
      obtain⟨i,o⟩:=io
      obtain⟨k1,k2⟩:=h5 i o rfl
      refine⟨i,o,rfl,k1,?_⟩
      unfold loadN at k2
      simp only[qh]at k2
      obtain⟨r,g1,g2⟩:=k2
      have g3:Nat.ble (o+n * sz) r.n=true∧r.c.take o (n * sz)=some cs:=by
        cases hb:Nat.ble (o+n * sz) r.n with
        | true=>rw[hb]at g2;exact⟨rfl,g2⟩
        | false=>rw[hb]at g2;cases g2
      have g4:o+n * sz≤r.n:=by simpa[qu]using g3.1
      have g5:=Ak.take_get g3.2 k (by omega)
      rw[hk]at g5
      have g6:s.heap.get i=some (.row r):=by
        unfold rowAt at g1
        split at g1
        · injection g1 with g1;subst g1;assumption
        · cases g1
      exact BX g6 (by omega) g5
  · obtain⟨a,cap,e,hc⟩:=h2.cells
    exact⟨a,cap,e,hc⟩
theorem Bz.append   {P : Program} {st xt e : TypeId} {sz by_ : Nat} (ht : P.underlying st = some (.slice e)) (hs : BD    P e = some sz) (hb : Cg     P e = some by_) (h0 : 0 < sz) (hx : BC           P xt = true) (hz : CB     P e sz = true) {s : AE}  {v : AV} {n : Nat} {cs : List AV} {O : List Nat} (h : Bz   s v n sz cs O)
    {ax:Option (Nat×Nat)} {m:Nat} {cx:Option Nat} {add:List AV} (hsrc:Bg P s e sz (.slice ax m cx)=some (m,add)) (ha:add.length=m * sz) (hc:Ae add=true) (h1:(n+m) * by_≤1099511627776) (h2:n+m≤1099511627776):
    ∃v' s' O',AY P s [st,xt] [v,.slice ax m cx]=some (v',s')∧Bz s' v' (n+m) sz (cs++add) O'∧s.next≤s'.next∧s'.next≤s.next+1∧(∀j,j<s.next→j ∉ O→s'.heap.get j=s.heap.get j)∧(∀j∈O',j∈O∨s.next≤j)∧(∀j,slot v'=some j→slot v=some j∨s.next≤j):=by
  have hlen:=h.len
  rcases rh m with rfl | hm
  ·
    have hadd:add=[]:=by simp at ha;exact ha
    subst hadd
    rw[rl,sC]
    rcases h with⟨a,rfl,rfl,h3,h4,h5⟩ | ⟨i,p,rfl,h6,h7⟩
    · refine ⟨.slice a n (some n), s, [], ?_, .inl ⟨a, rfl, rfl, h3, h4, h5⟩, qg          _, sB          _, fun _ _ _ => rfl, fun j hj => (by cases hj), fun j hj => .inl hj⟩
      rw[BT ht hs hb h0 hx hsrc hc h1 h2]
      cases a with
      | none=>rw[h4 rfl];rfl
      | some io =>
        obtain⟨i,o⟩:=io
        simp only[appTo,DB,sC,A2 (qg n),cond_true,Cc,Option.bind_some]
    · refine ⟨.slice (some (i, 0)) n none, s, O, ?_, .inr ⟨i, p, rfl, h6, h7⟩, qg          _, sB          _, fun _ _ _ => rfl, fun j hj => .inl hj, fun j hj => .inl hj⟩
      rw[BT ht hs hb h0 hx hsrc hc h1 h2]
      rcases h6.ex with⟨e',_⟩ | ⟨_,k1,k2,k3,r,k4,k5,k6,k7,k8,k9⟩
      · cases e'
      · have hrow : rowAt s i = some r := by simp [rowAt, k4]
        have hrn:r.n=n * sz:=by rw[k5.1,h6.len]
        simp only[appTo,hrow,Option.bind_some,DG,k8,Dj rfl,AG,cond_true,sC,qq]
        rw[show Nat.ble (n * sz) r.n=true from A2 (by omega)]
        simp only[cond_true,Cc,Option.bind_some]
  · rcases h with ⟨a, rfl, rfl, h3, h4, h5⟩ | ⟨i, p, rfl, h6, h7⟩
    ·
      refine⟨.slice (some (s.next,0)) (n+m) none,newObj s (CL e sz (Ak.fill .leaf 0 (cs++add)) (cs++add).length none),[s.next],?_,?_,sB _,qg _,fun j hj _=>by rw[AK,if_neg (by omega)],fun j hj=>by simp at hj;right;omega,fun j hj=>by simp[slot]at hj;right;omega⟩
      · rw[BT ht hs hb h0 hx hsrc hc h1 h2]
        cases a with
        | none =>
          have hn0:=h4 rfl
          subst hn0
          have:cs=[]:=by simp at h3;exact h3
          subst this
          simp only[appTo,D0 (show m≠0 by omega),cond_false,Bf,AG,hz,cond_true,rL,qq]
        | some io =>
          obtain⟨i,o⟩:=io
          obtain⟨k1,k2⟩:=h5 i o rfl
          simp only[appTo,DB,E4 (show n<n+m by omega),cond_false,k2,Option.bind_some,Bf,AG,hz,cond_true]
      · refine .inr ⟨s.next,none,rfl,⟨by rw[qn,h3,ha,rO],.inr ⟨rfl,qm _,rP _,fun q hq=>(by cases hq),_,by rw[AK,if_pos rfl];rfl,⟨rfl,?_⟩,rfl,rfl,rfl,rfl⟩⟩,rfl⟩
        intro k u hk
        have hlt:k<(cs++add).length:=by
          rcases qk k (cs++add).length with h' | h'
          · exact h'
          · rw[rA h']at hk;cases hk
        show(Ak.fill .leaf 0 (cs++add)).get k=some u
        rw[Ak.get_fill,if_pos ⟨qm _,by omega⟩]
        simpa using hk
    · obtain⟨a,cap,v',s',e1,e2,i',p',g1,g2,g3,g4,g5,g6,_⟩:=h6.appTo (qg _) (qm _) hz h0 ha hm
      injection e1 with e1 e3 e4
      subst e1;subst e4
      have hv':v'=.slice (some (i',0)) (n+m) none:=by
        rcases g1.ex with⟨_,e⟩ | ⟨e,_⟩
        · omega
        · exact e
      refine⟨v',s',i'::p'.toList,?_,.inr ⟨i',p',hv',g1,rfl⟩,g2.1,by omega,?_,?_,?_⟩
      · rw[BT ht hs hb h0 hx hsrc hc h1 h2]
        exact e2
      · intro j hj hO
        subst h7
        refine g2.2 j hj (fun e=>hO (by simp[e])) (fun e=>hO (by simp[e]))
      · intro j hj
        subst h7
        rcases rI.1 hj with rfl | hj
        · right;omega
        · rcases g5 with rfl | rfl
          · cases hj
          · simp at hj;left;simp[hj]
      · intro j hj
        rw[hv']at hj
        simp[slot]at hj
        right;omega
theorem EU{P:Program}{e:TypeId}{s:AE}{i:Nat}{cs:List AV}{n:Nat}{cap:Option Nat}{sz:Nat}(ty:TypeId)(z:Nat)(hg:s.heap.get i=some (AL ty z cs))(hl:cs.length=n * sz):Bg P s e sz (.slice (some (i,0)) n cap)=some (n,cs):=by
 obtain⟨r,h1,h2,_⟩:=BN ty z cs
 rw[h1]at hg
 have:=CY hg h2 0 cs (by omega) (fun j u hj=>by simpa using hj)
 rw[hl]at this
 simp[Bg,KG this]
end
end Go.Proofs.Ytilhhmkdcoajnaa.Am
set_option linter.unusedVariables false
set_option linter.unusedSimpArgs false
namespace Go.Proofs.Ytilhhmkdcoajnaa.Am
open Go Go.Proofs
noncomputable section
theorem B0{α:Type}{L l:List α}{k:Nat}{x:α}(h:L.drop k=x::l):k<L.length∧L[k]? = some x∧L.drop (k+1)=l:=by
 refine⟨?_,?_,?_⟩
 ·have:=congrArg List.length h
  simp at this;omega
 ·have:=congrArg (fun l=>l[0]?) h
  simpa using this
 ·rw[← rv,h];rfl
theorem Cw{α:Type}{L:List α}{k:Nat}(h:L.drop k=[])(hk:k≤L.length):k=L.length:=by
 have:=congrArg List.length h
 simp at this;omega
def kR(x:Int):List Int→Nat
 | []=>0
 | y::l=>if y<x then kR x l+1 else 0
def Vr(x:Int)(L:List Int):List Int:=if L[kR x L]? = some x then L else L.take (kR x L)++(x::L.drop (kR x L))
def DY(x:Int):Bool:=decide (x=0∨x=-9223372036854775808)
def Ah(out:List Int):List Int→List Int
 | []=>out
 | x::l=>Ah (if DY x then out else Vr x out) l
theorem kS(x:Int)(L:List Int):kR x L≤L.length:=by
 induction L with
 | nil=>exact qg 0
 | cons y l ih=>simp only[kR];split<;>simp;omega
theorem av(x:Int)(L:List Int):(Vr x L).length≤L.length+1:=by
 unfold Vr
 split
 ·omega
 ·have:=kS x L
  simp;omega
theorem Hc{ax:Option (Nat×Nat)}{n:Nat}{cx:Option Nat}(h:ax=none→∃c,cx=some c):E8 (.slice ax n cx) (.slice ax n cx)=true:=by
 cases ax with
 | none=>obtain⟨c,rfl⟩:=h rfl;simp[E8]
 | some io=>obtain⟨i,o⟩:=io;cases cx<;>simp[E8]
theorem HY(s:AE)(loc var:List AV)(f:AE→List AV→Option AV)(xs:List CX)(a:CX):GL s loc var ⟨none,.r f,xs,a⟩=VD (f s (Qh loc var xs)) (Dw loc var a):=by
 simp[GL,PH,Eu,Bj]
theorem Az(u v:AV):VD (some u) v=E8 u v:=rfl
theorem CO{P:Program}{t e:TypeId}(ht:P.underlying t=some (.slice e))(hs:BD P e=some 1){z v:AV}(hz:CF P e=some z)(hzc:z.cells.length=1)(hv:v.cells=[v]):
  Ab P t 1 (zipIdx [0] [v])=some (AL e 1 [v]):=by
 have hzl:(Ht z.cells 1).length=1:=by simp[Ht,hzc]
 have:∃c,Ht z.cells 1=[c]:=List.length_eq_one_iff.1 hzl
 obtain⟨c,hc⟩:=this
 simp[Ab,ht,hs,AG,hz,hzc,zipIdx,DO,hv,hc]
 rfl
theorem PZ{P:Program}{t e:TypeId}(ht:P.underlying t=some (.slice e))(hs:BD P e=some 1){z:AV}(hz:CF P e=some z)(hzc:z.cells.length=1):
  Ab P t 0 (zipIdx [] [])=some (AL e 1 []):=by
 simp[Ab,ht,hs,AG,hz,hzc,zipIdx,DO,Ht]
 rfl
theorem IE:CB Try.prog 3 1=true:=by simp[CB,RZ,AV.cells]
theorem HR(t:TypeId)(e:TypeId)(h:Try.prog.underlying t=some (.slice e)):BC Try.prog t=true:=by simp[BC,h]
theorem NM(L:List Int):Ae (A3 L)=true:=by
 induction L with
 | nil=>rfl
 | cons x l ih=>simpa[Ae,AV.isCell]using ih
theorem IR:∀ (l out:List Int),(Ah out l).length≤out.length+l.length
 | [],out=>qg _
 | x::l,out=>by
  simp only[Ah]
  have h2:=av x out
  cases h:DY x with
  | true =>
   have:=IR l out
   simp only[if_true,qx];omega
  | false =>
   have:=IR l (Vr x out)
   simp only[Bool.false_eq_true,if_false,qx];omega
theorem Bz.slot_lt{s:AE}{v:AV}{n sz:Nat}{cs:List AV}{O:List Nat}(hd:Bz s v n sz cs O):∀j,slot v=some j→j<s.next:=by
 intro j hj
 rcases hd with⟨a,rfl,h2,h3,h4,h5⟩ | ⟨i,p,rfl,h2,h3⟩
 ·cases a with
  | none=>cases hj
  | some io=>obtain⟨i,o⟩:=io;simp[slot]at hj;subst hj;exact(h5 i o rfl).1
 ·simp[slot]at hj;subst hj
  rcases h2.ex with⟨e,_⟩ | ⟨_,_,k2,_⟩
  ·cases e
  ·exact k2
theorem Bz.new{s:AE}{v:AV}{n sz:Nat}{cs:List AV}{O:List Nat}(hd:Bz s v n sz cs O)(o:C8):Bz (newObj s o) v n sz cs O:=
 hd.frame (sB _) fun j hj=>by rw[AK,if_neg (by have:=hd.slot_lt j hj;omega)]
def Ed(K:List Int)(l:List Int):List Int:=l.filter fun x=>decide (-x ∉ K)
def FV(K:List Int)(l:List Int):Bool:=l.any fun x=>decide (x∈K)
end
end Go.Proofs.Ytilhhmkdcoajnaa.Am
