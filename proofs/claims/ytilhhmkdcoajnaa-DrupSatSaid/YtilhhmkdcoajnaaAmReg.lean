/- One operation of a region, in the model; conditions: none. -/
import Derived.OrdersIn
import Derived.RangeFuncLeaves
import Derived.Test.YtilhhmkdcoajnaaAmTrace2
set_option linter.unusedVariables false
set_option linter.unusedSimpArgs false
namespace Go.Proofs.Ytilhhmkdcoajnaa.Am
open Go
noncomputable section
def fen(r:Option Nat):Fence:={ Fence.wide with round:=r }
def Ew(ρ:Rho)(R:CA)(tmps:Array Value):Prop:=∀ (t:Tmp)(v:AV),R t=some v→t<tmps.size∧Aa ρ v (tmps.getD t undef)
def Fu(P:Program)(ρ:Rho)(s:ASt)(w:World)(v:AV)(s1:ASt):Ending→World→Prop
  | .returned v',w'=>∃ρ',Aa ρ' v v'∧Inv P ρ' s1 w'∧Fr ρ s w ρ' s1 w'
  | _,_=>False
inductive Dj (P:Program) (ρ:Rho) (s:ASt) (w:World) (v:AV) (s1:ASt):Result Next→Prop
  | value {v':Value} {w':World} {ρ':Rho} (hv:Aa ρ' v v') (hi:Inv P ρ' s1 w') (hf:Fr ρ s w ρ' s1 w'):Dj P ρ s w v s1 (.ok (.value v') w')
  | skip {w':World} {ρ':Rho} (hv:Aa ρ' v undef) (hi:Inv P ρ' s1 w') (hf:Fr ρ s w ρ' s1 w'):Dj P ρ s w v s1 (.ok .skip w')
  | enter {f:FuncId} {args:Array Value} (h:CallsIn Fence.wide 0 P f args w (Fu P ρ s w v s1)):Dj P ρ s w v s1 (.ok (.enter f args) w)
  | round {l:Nat} {f:FuncId} {tmps:Array Value} {assign body:Code} (h:RoundIn Fence.wide 0 P l f tmps assign body w (Fu P ρ s w v s1)):Dj P ρ s w v s1 (.ok (.round l f tmps assign body) w)
def Bb(ρ:Rho)(s:ASt):Prop:=∀i,s.next≤i→ρ i=none∧s.heap.get i=none
structure FOk(P:Program)(F:Fns):Prop where
  call:∀ (ρ:Rho) (s:ASt) (w:World) (f:FuncId) (as:List AV) (v:AV) (s1:ASt) (as':Array Value),F.call f as s=some (v,s1)→Inv P ρ s w→Bb ρ s→AU ρ as as'.toList →
    Dj P ρ s w v s1 ((callFunc f as').run P w)
  round:∀ (ρ:Rho) (s:ASt) (w:World) (l:Nat) (rb:RB) (as:List AV) (v:AV) (s1:ASt) (as':Array Value),F.round l as s=some (v,s1)→Inv P ρ s w→Bb ρ s→ρ l=some rb→AU ρ as as'.toList →
    Dj P ρ s w v s1 ((Instr.yield rb.b as').run P w)
section
variable{P:Program}{ρ ρ1 ρ2:Rho}{s s1 s2:ASt}{w w1 w2:World}{R:CA}{a:Act}{ops:Array Oper}
theorem Ew.mono{tmps:Array Value}(h:Ew ρ R tmps)(le:ρ.le ρ1):Ew ρ1 R tmps:=fun t v hv=>⟨(h t v hv).1,(h t v hv).2.mono le⟩
theorem Ph(h:Ew ρ R a.tmps){o:Operand}{v:AV}(hv:Pg R o=some v):Aa ρ v (a.eval o):=by
  cases o with
  | tmp t=>exact(h t v hv).2
  | const c=>exact B1 ρ hv
  | global g=>cases hv
  | func f=>injection hv with hv;subst hv;exact .func .nil .nil
theorem JN(h:Ew ρ R a.tmps):∀ {xs:List Operand}{as:List AV},D8 R xs=some as→AU ρ as (xs.map a.eval)
  | [],as,e=>by injection e with e;subst e;exact .nil
  | x::l,as,e=>by
    simp only[D8,oE]at e
    obtain⟨v,h1,r,h2,h3⟩:=e
    injection h3 with h3
    subst h3
    exact .cons (Ph h h1) (JN h h2)
theorem Fb(a:Act)(d:Option Tmp)(v:Value):(a.put d v).tmps.size=a.tmps.size:=by cases d<;>simp[Act.put]
theorem Lk(a:Act)(d:Option Tmp)(v:Value):(a.put d v).defers=a.defers:=by cases d<;>rfl
theorem Ew.put   (h : Ew   ρ R a.tmps) {d : Option Tmp} {v : AV} {v' : Value} (hd : ∀ t, d = some t → t < a.tmps.size) (hv : Aa   ρ v v') : Ew   ρ (R.put d v) (a.put d v').tmps := by
  cases d with
  | none=>exact h
  | some d =>
    intro t u hu
    simp only[Act.put,Array.size_setIfInBounds]
    by_cases e:t=d
    · subst e
      simp only[CA.put,if_true,Option.some.injEq]at hu
      subst hu
      have:=hd t rfl
      exact⟨this,by simpa[Array.getD_eq_getD_getElem?,this]using hv⟩
    · simp only[CA.put,if_neg e]at hu
      have:=h t u hu
      refine⟨this.1,?_⟩
      have e2:(a.tmps.setIfInBounds d v').getD t undef=a.tmps.getD t undef:=by
        simp[Array.getD_eq_getD_getElem?,Array.getElem?_setIfInBounds_ne (Ne.symm e)]
      rw[e2]
      exact this.2
theorem NC(h:Ew ρ R a.tmps){o:Oper}{want:Bool}(hw:In ops R o=some want):Region.wanted o (yielded ops a.tmps)=want:=by
  unfold In at hw
  unfold Region.wanted
  split at hw
  · rename_i hg;rw[hg];injection hw
  · rename_i j b hg
    rw[hg]
    simp only[oE]at hw
    obtain⟨p,h1,d,h2,x,h3,h4⟩:=hw
    injection h4 with h4
    subst h4
    obtain⟨hlt,hv⟩:=h d x h3
    have hy:yielded ops a.tmps j=(match a.tmps.getD d undef with | .bool b=>some b | _=>none):=by
      unfold yielded
      rw[h1]
      simp only[Option.bind_some,h2]
      rw[Array.getElem?_eq_getElem hlt,show a.tmps.getD d undef=a.tmps[d]from by simp[Array.getD_eq_getD_getElem?,hlt]]
      cases a.tmps[d]<;>rfl
    simp only[hy]
    generalize a.tmps.getD d undef=y at hv
    cases hv<;>first | rfl | (rename_i c;cases c<;>cases b<;>rfl)
theorem ZA{F:Fns}(hF:FOk P F)(h:Inv P ρ s w)(hf:Bb ρ s){f v:AV}{f':Value}{as:List AV}{as':Array Value}(hc:GY F f as s=some (v,s1))(hv:Aa ρ f f')(ha:AU ρ as as'.toList):
    Dj P ρ s w v s1 ((do let d ← Deferred.ofValue f' as';invoke d.target d.args:Sem Next).run P w):=by
  unfold GY at hc
  split at hc<;>first | (cases hc;done) | skip
  · cases hv with
    | func h1 h2 =>
      rename_i f x c x' c'
      have:=hF.call ρ s w f _ v s1 ((x'++as')++c') hc h hf (by simpa using h1.append (ha.append h2))
      simpa[Deferred.ofValue,invoke]using this
  · cases hv with
    | yield h1 =>
      rename_i l rb
      have:=hF.round ρ s w l rb _ v s1 as' hc h hf h1 ha
      simpa[Deferred.ofValue,invoke]using this
theorem Cb.next{sem:Sem Next}{v:AV}(h:Cb P ρ s w sem v s1):Dj P ρ s w v s1 (sem.run P w):=by
  obtain⟨v',w',ρ',h1,h2,h3,h4⟩:=h
  rcases h1 with h1 | ⟨h1,e⟩
  · rw[h1];exact .value h2 h3 h4
  · subst e;rw[h1];exact .skip h2 h3 h4
theorem VV        {F : Fns} (hF : FOk P F) (h : Inv P ρ s w) (hf : Bb     ρ s) {o : Oper} {sh : Sh} {xs : List Operand} {as : List AV} {v : AV} {ev : Operand → Value} (hev : ∀ f, ev (.func f) = .func (.func f) #[] #[]) (hsh : BZ      P o.op = some (sh, xs)) (ha : AU    ρ as (xs.map ev)) (hr : shF F sh as s = some (v, s1)) :
    Dj P ρ s w v s1 ((execOp ev o).run P w):=by
  have plain:shL sh as s=some (v,s1)→Dj P ρ s w v s1 ((execOp ev o).run P w):=fun hl=>(ip h (hf _ (oD _)).1 hsh ha hl).next
  have calls:(∀f,sh≠.call f)→sh≠.callv→Dj P ρ s w v s1 ((execOp ev o).run P w):=by
    intro h1 h2
    refine plain ?_
    cases sh<;>first | exact hr | exact absurd rfl (h1 _) | exact absurd rfl h2
  have isCall:(∃f,sh=.call f)∨sh=.callv→∃c,o.op=.call c:=by
    intro hc
    cases ho:o.op<;>rw[ho]at hsh<;>first | exact⟨_,rfl⟩ | (simp[BZ]at hsh;done) | skip
    case makeMap t r =>
      cases r with
      | some _=>cases hsh
      | none=>injection hsh with hsh;injection hsh with e1 e2;subst e1;rcases hc with⟨_,hc⟩ | hc<;>cases hc
    case makeFunc fn first captured =>
      cases fn with
      | func f=>injection hsh with hsh;injection hsh with e1 e2;subst e1;rcases hc with⟨_,hc⟩ | hc<;>cases hc
      | _=>cases hsh
    all_goals (injection hsh with hsh;injection hsh with e1 e2;subst e1;rcases hc with⟨_,hc⟩ | hc<;>cases hc)
  by_cases hc:(∃f,sh=.call f)∨sh=.callv
  · obtain⟨⟨callee,args,argTypes⟩,ho⟩:=isCall hc
    rw[ho]at hsh
    have hx:∀g,callee=.value g→execOp ev o=(do let d ← Deferred.ofValue (ev g) (args.map ev);invoke d.target d.args):=by
      intro g hg
      subst hg
      simp only[execOp,ho,resolve]
    have notB:∀b,callee≠.builtin b:=by
      intro b e
      subst e
      simp only[BZ]at hsh
      split at hsh<;>first | (cases hsh;done) | skip
      all_goals first
        | (injection hsh with hsh;injection hsh with e1 e2;subst e1;rcases hc with⟨_,hc⟩ | hc<;>cases hc;done)
        | (split at hsh<;>first | (cases hsh;done) | (injection hsh with hsh;injection hsh with e1 e2;subst e1;rcases hc with⟨_,hc⟩ | hc<;>cases hc;done))
    simp only[BZ]at hsh
    split at hsh
    · rename_i f
      injection hsh with hsh;injection hsh with e1 e2;subst e1;subst e2
      rw[hx _ rfl,hev]
      have:=hF.call ρ s w f as v s1 (args.map ev) hr h hf (by simpa using ha)
      simpa[Deferred.ofValue,invoke]using this
    · rename_i x _
      injection hsh with hsh;injection hsh with e1 e2;subst e1;subst e2
      rw[hx _ rfl]
      cases ha with
      | cons h1 h2=>exact ZA hF h hf hr h1 (by simpa using h2)
    · cases hsh
    · exact absurd rfl (notB _)
  · exact calls (fun f e=>hc (.inl ⟨f,e⟩)) (fun e=>hc (.inr e))
end
end
end Go.Proofs.Ytilhhmkdcoajnaa.Am
