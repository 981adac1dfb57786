/- The operations of the model, by their shapes; conditions: none. -/
import Derived.Test.YtilhhmkdcoajnaaAmOps3
set_option linter.unusedVariables false
set_option linter.unusedSimpArgs false
namespace Go.Proofs.Ytilhhmkdcoajnaa.Am
open Go
noncomputable section
def shL(sh:Sh)(as:List AV)(s:ASt):Option (AV×ASt):=
  match sh with
  | .p1 f=>(match as with | a::_=>Dy s (f a) | []=>none)
  | .p2 f=>(match as with | a::b::_=>Dy s (f a b) | _=>none)
  | .p f=>Dy s (f as)
  | .r1 f=>(match as with | a::_=>Dy s (f s a) | []=>none)
  | .r f=>Dy s (f s as)
  | .mk f=>PR s (f as)
  | .e f=>f s as
  | .call _ | .callv=>none
section
variable{P:Program}{ρ ρ1 ρ2:Rho}{s s1 s2:ASt}{w w1 w2:World}
theorem CK{x:Option AV}{v:AV}(h:Dy s x=some (v,s1)):x=some v∧s1=s:=by
  cases x with
  | none=>cases h
  | some u=>injection h with h;injection h with h1 h2;exact⟨by rw[h1],h2.symm⟩
theorem Sc{x:Option (Cv×Bv)}{v:AV}(h:PR s x=some (v,s1)):∃o m,x=some (o,m)∧v=m.val s.next∧s1=AH s o:=by
  cases x with
  | none=>cases h
  | some u=>injection h with h;injection h with h1 h2;exact⟨u.1,u.2,rfl,h1.symm,h2.symm⟩
theorem GD{x:Option ASt}{v:AV}(h:AT x=some (v,s1)):x=some s1∧v=Au:=by
  cases x with
  | none=>cases h
  | some u=>injection h with h;injection h with h1 h2;exact⟨by rw[h2],h1.symm⟩
theorem Hr{f:AV→Option AV}{a v:AV}(h:shL (.p1 f) [a] s=some (v,s1)):f a=some v∧s1=s:=CK h
theorem Ss{f:AV→AV→Option AV}{a b v:AV}(h:shL (.p2 f) [a,b] s=some (v,s1)):f a b=some v∧s1=s:=CK h
theorem M6{f:List AV→Option AV}{as:List AV}{v:AV}(h:shL (.p f) as s=some (v,s1)):f as=some v∧s1=s:=CK h
theorem St{f:ASt→AV→Option AV}{a v:AV}(h:shL (.r1 f) [a] s=some (v,s1)):f s a=some v∧s1=s:=CK h
theorem Pp{f:ASt→List AV→Option AV}{as:List AV}{v:AV}(h:shL (.r f) as s=some (v,s1)):f s as=some v∧s1=s:=CK h
theorem JS{f:List AV→Option (Cv×Bv)}{as:List AV}{v:AV}(h:shL (.mk f) as s=some (v,s1)):∃o m,f as=some (o,m)∧v=m.val s.next∧s1=AH s o:=Sc h
theorem aN{f:ASt→List AV→Option (AV×ASt)}{as:List AV}{v:AV}(h:shL (.e f) as s=some (v,s1)):f s as=some (v,s1):=h
def Cb(P:Program)(ρ:Rho)(s:ASt)(w:World)(sem:Sem Next)(v:AV)(s':ASt):Prop:=
  ∃v' w' ρ',(sem.run P w=.ok (.value v') w'∨(sem.run P w=.ok .skip w'∧v'=undef))∧Aa ρ' v v'∧Inv P ρ' s' w'∧Fr ρ s w ρ' s' w'
theorem Cb.pure(h:Inv P ρ s w){sem:Sem Value}{v:AV}(hr:∃v',sem.run P w=.ok v' w∧Aa ρ v v'):Cb P ρ s w (do Pure.pure (Next.value (← sem))) v s:=by
  obtain⟨v',h1,h2⟩:=hr
  exact⟨v',w,ρ,.inl (by simp[h1]),h2,h,Fr.refl _ _ _⟩
theorem Cb.eff{sem:Sem Value}{v:AV}(hr:TG P ρ s w sem v s1):Cb P ρ s w (do Pure.pure (Next.value (← sem))) v s1:=by
  obtain⟨v',w',ρ',h1,h2,h3,h4⟩:=hr
  exact⟨v',w',ρ',.inl (by simp[h1]),h2,h3,h4⟩
theorem Cb.new{sem:Sem Value}{o:Cv}{m:Bv}(hr:MO P ρ s w sem o m):Cb P ρ s w (do Pure.pure (Next.value (← sem))) (m.val s.next) (AH s o):=by
  obtain⟨v',w',ρ',h1,h2,h3,h4⟩:=hr
  exact⟨v',w',ρ',.inl (by simp[h1]),h2,h3,h4⟩
theorem Cb.unit{sem:Sem Unit}(hr:∃w',sem.run P w=.ok () w'∧Inv P ρ s1 w'∧Fr ρ s w ρ s1 w'):Cb P ρ s w (do sem;Pure.pure Next.skip) Au s1:=by
  obtain⟨w',h1,h2,h3⟩:=hr
  exact⟨undef,w',ρ,.inr ⟨by simp[h1],rfl⟩,Df ρ,h2,h3⟩
theorem AU.one{a:List AV}{x':Value}(h:AU ρ a [x']):∃x,a=[x]∧Aa ρ x x':=by
  cases h with
  | cons h hs=>cases hs;exact⟨_,rfl,h⟩
theorem AU.two{a:List AV}{x' y':Value}(h:AU ρ a [x',y']):∃x y,a=[x,y]∧Aa ρ x x'∧Aa ρ y y':=by
  cases h with
  | cons h hs=>obtain⟨y,rfl,hy⟩:=hs.one;exact⟨_,y,rfl,h,hy⟩
theorem AU.three{a:List AV}{x' y' z':Value}(h:AU ρ a [x',y',z']):∃x y z,a=[x,y,z]∧Aa ρ x x'∧Aa ρ y y'∧Aa ρ z z':=by
  cases h with
  | cons h hs=>obtain⟨y,z,rfl,hy,hz⟩:=hs.two;exact⟨_,y,z,rfl,h,hy,hz⟩
theorem ND{ps:Array (Nat×Operand)}{ev:Operand→Value}{as:List AV}(h:AU ρ as ((ps.toList.map (·.2)).map ev)):
    (zipIdx (ps.toList.map (·.1)) as).map (·.1)=(ps.map fun(p:Nat×Operand)=>(p.1,ev p.2)).toList.map (·.1) ∧
      AU ρ ((zipIdx (ps.toList.map (·.1)) as).map (·.2)) ((ps.map fun(p:Nat×Operand)=>(p.1,ev p.2)).toList.map (·.2)):=by
  have hlen:=h.length
  simp only[oF]at hlen
  unfold zipIdx
  constructor
  · rw [List.map_fst_zip]
    · simp[Function.comp_def]
    · simp[hlen]
  · rw [List.map_snd_zip]
    · simpa[Function.comp_def]using h
    · simp[hlen]
theorem MK            (hI : Inv P ρ s w) {t : TypeId} {x : Operand} {lo hi mx : Option Operand} {ev : Operand → Value} {as : List AV} {v : AV}
    (h:AU ρ as (([x]++lo.toList++hi.toList++mx.toList).map ev)) (hs:AW P t lo.isSome hi.isSome mx.isSome s as=some v):
    ∃v',(Instr.sliceAt t (ev x) (lo.map ev) (hi.map ev) (mx.map ev)).run P w=.ok v' w∧Aa ρ v v':=by
  cases lo with
  | none =>
    cases hi with
    | none =>
      cases mx with
      | none=>obtain⟨x,rfl,hx⟩:=AU.one h;exact Eu hI (show Ap P s t _ none none none=some v from hs) hx .none .none .none
      | some m=>obtain⟨x,y,rfl,hx,hy⟩:=AU.two h;simp[AW]at hs
    | some hh =>
      cases mx with
      | none=>obtain⟨x,y,rfl,hx,hy⟩:=AU.two h;exact Eu hI (show Ap P s t _ none (some y) none=some v from hs) hx .none (.some hy) .none
      | some m=>obtain⟨x,y,z,rfl,hx,hy,hz⟩:=AU.three h;exact Eu hI (show Ap P s t _ none (some y) (some z)=some v from hs) hx .none (.some hy) (.some hz)
  | some l =>
    cases hi with
    | none =>
      cases mx with
      | none=>obtain⟨x,y,rfl,hx,hy⟩:=AU.two h;exact Eu hI (show Ap P s t _ (some y) none none=some v from hs) hx (.some hy) .none .none
      | some m=>obtain⟨x,y,z,rfl,hx,hy,hz⟩:=AU.three h;simp[AW]at hs
    | some hh =>
      cases mx with
      | none=>obtain⟨x,y,z,rfl,hx,hy,hz⟩:=AU.three h;exact Eu hI (show Ap P s t _ (some y) (some z) none=some v from hs) hx (.some hy) (.some hz) .none
      | some m =>
        cases h with
        | cons hx h =>
          obtain⟨y,z,u,rfl,hy,hz,hu⟩:=AU.three h
          exact Eu hI (show Ap P s t _ (some y) (some z) (some u)=some v from hs) hx (.some hy) (.some hz) (.some hu)
theorem ip    (h : Inv P ρ s w) (hf : ρ s.next = none) {o : Oper} {sh : Sh} {xs : List Operand} {ev : Operand → Value} {as : List AV} {v : AV} (hsh : BZ      P o.op = some (sh, xs)) (has : AU    ρ as (xs.map ev))
    (hr:shL sh as s=some (v,s1)):Cb P ρ s w (execOp ev o) v s1:=by
  cases ho:o.op<;>rw[ho]at hsh<;>first | (simp[BZ]at hsh;done) | skip
  case move x =>
    injection hsh with hsh;injection hsh with h1 h2;subst h1;subst h2
    obtain⟨a,rfl,ha⟩:=AU.one has
    obtain⟨hv,rfl⟩:=Hr hr
    injection hv with hv;subst hv
    exact⟨_,w,ρ,.inl (by simp[execOp,ho]),ha,h,Fr.refl _ _ _⟩
  case assign x =>
    injection hsh with hsh;injection hsh with h1 h2;subst h1;subst h2
    obtain⟨a,rfl,ha⟩:=AU.one has
    obtain⟨hv,rfl⟩:=Hr hr
    injection hv with hv;subst hv
    exact⟨_,w,ρ,.inl (by simp[execOp,ho]),ha,h,Fr.refl _ _ _⟩
  case pick c a b =>
    injection hsh with hsh;injection hsh with h1 h2;subst h1;subst h2
    obtain⟨x,y,z,rfl,hx,hy,hz⟩:=AU.three has
    obtain⟨hv,rfl⟩:=M6 hr
    simp only[Rn,Ro]at hv
    split at hv<;>first | (cases hv;done) | skip
    · injection hv with hv;subst hv
      generalize hc:ev c=c' at hx
      cases hx
      exact⟨_,w,ρ,.inl (by simp[execOp,ho,hc,asBool]),hy,h,Fr.refl _ _ _⟩
    · injection hv with hv;subst hv
      generalize hc:ev c=c' at hx
      cases hx
      exact⟨_,w,ρ,.inl (by simp[execOp,ho,hc,asBool]),hz,h,Fr.refl _ _ _⟩
  case build t ps =>
    injection hsh with hsh;injection hsh with h1 h2;subst h1;subst h2
    obtain⟨hv,rfl⟩:=M6 hr
    obtain⟨z1,z2⟩:=ND has
    simp only[execOp,ho]
    exact Cb.pure h (UL hv z1 z2 w)
  case nilCheck x =>
    injection hsh with hsh;injection hsh with h1 h2;subst h1;subst h2
    obtain⟨a,rfl,ha⟩:=AU.one has
    obtain⟨hv,rfl⟩:=Hr hr
    obtain⟨v',e1,e2⟩:=N3 (P:=P) (w:=w) hv ha ev o x ho rfl
    exact⟨v',w,ρ,.inl e1,e2,h,Fr.refl _ _ _⟩
  case binOp op t x y f =>
    injection hsh with hsh;injection hsh with h1 h2;subst h1;subst h2
    obtain⟨a,b,rfl,ha,hb⟩:=AU.two has
    obtain⟨hv,rfl⟩:=Ss hr
    simp only[execOp,ho]
    exact Cb.pure h (bA hv ha hb _ _)
  case unOp op t x =>
    injection hsh with hsh;injection hsh with h1 h2;subst h1;subst h2
    obtain⟨a,rfl,ha⟩:=AU.one has
    obtain⟨hv,rfl⟩:=Hr hr
    simp only[execOp,ho]
    exact Cb.pure h (lY hv ha)
  case makeFunc fn first captured =>
    simp only[BZ]at hsh
    split at hsh<;>first | (cases hsh;done) | skip
    rename_i f
    injection hsh with hsh;injection hsh with h1 h2;subst h1;subst h2
    obtain⟨hv,rfl⟩:=M6 hr
    injection hv with hv;subst hv
    rw[pB]at has
    refine⟨.func (.func f) (first.map ev) (captured.map ev),w,ρ,.inl (by simp[execOp,ho,Instr.makeFunc]),.func ?_ ?_,h,Fr.refl _ _ _⟩
    · have:=has.take first.size
      simpa[List.take_left']using this
    · have:=has.drop first.size
      simpa[List.drop_left']using this
  case fieldAddr t x f =>
    injection hsh with hsh;injection hsh with h1 h2;subst h1;subst h2
    obtain⟨a,rfl,ha⟩:=AU.one has
    obtain⟨hv,rfl⟩:=Hr hr
    simp only[execOp,ho]
    exact Cb.pure h (MF hv ha)
  case field t x f =>
    injection hsh with hsh;injection hsh with h1 h2;subst h1;subst h2
    obtain⟨a,rfl,ha⟩:=AU.one has
    obtain⟨hv,rfl⟩:=Hr hr
    simp only[execOp,ho]
    exact Cb.pure h (Ua hv ha)
  case indexAddr t x i =>
    injection hsh with hsh;injection hsh with h1 h2;subst h1;subst h2
    obtain⟨a,b,rfl,ha,hb⟩:=AU.two has
    obtain⟨hv,rfl⟩:=Ss hr
    simp only[execOp,ho]
    exact Cb.pure h (MH hv ha hb)
  case index t x i =>
    injection hsh with hsh;injection hsh with h1 h2;subst h1;subst h2
    obtain⟨a,b,rfl,ha,hb⟩:=AU.two has
    obtain⟨hv,rfl⟩:=Ss hr
    simp only[execOp,ho]
    exact Cb.pure h (Uj hv ha hb)
  case extract t i =>
    injection hsh with hsh;injection hsh with h1 h2;subst h1;subst h2
    obtain⟨a,rfl,ha⟩:=AU.one has
    obtain⟨hv,rfl⟩:=Hr hr
    simp only[execOp,ho]
    exact Cb.pure h (O8 hv ha)
  case load t a =>
    injection hsh with hsh;injection hsh with h1 h2;subst h1;subst h2
    obtain⟨a,rfl,ha⟩:=AU.one has
    obtain⟨hv,rfl⟩:=St hr
    simp only[execOp,ho]
    obtain⟨v',e1,e2,_⟩:=PM h hv ha
    exact Cb.pure h ⟨v',e1,e2⟩
  case lookup t m k ok =>
    injection hsh with hsh;injection hsh with h1 h2;subst h1;subst h2
    obtain⟨a,b,rfl,ha,hb⟩:=AU.two has
    obtain⟨hv,rfl⟩:=Pp hr
    simp only[execOp,ho]
    exact Cb.pure h (SZ h hv ha hb)
  case convert src dst x =>
    injection hsh with hsh;injection hsh with h1 h2;subst h1;subst h2
    obtain⟨a,rfl,ha⟩:=AU.one has
    obtain⟨hv,rfl⟩:=St hr
    simp only[execOp,ho]
    exact Cb.pure h (ZI h hv ha)
  case slice t x lo hi mx =>
    injection hsh with hsh;injection hsh with h1 h2;subst h1;subst h2
    obtain⟨hv,rfl⟩:=Pp hr
    simp only[execOp,ho]
    exact Cb.pure h (MK h has hv)
  case alloc e =>
    injection hsh with hsh;injection hsh with h1 h2;subst h1;subst h2
    cases has
    obtain⟨ob,m,hm,rfl,rfl⟩:=JS hr
    simp only[execOp,ho]
    exact Cb.new (UJ h hf hm)
  case box e x =>
    injection hsh with hsh;injection hsh with h1 h2;subst h1;subst h2
    obtain⟨a,rfl,ha⟩:=AU.one has
    obtain⟨ob,m,hm,rfl,rfl⟩:=JS hr
    simp only[execOp,ho]
    exact Cb.new (bF h hf hm ha)
  case buildSlice t len ps =>
    injection hsh with hsh;injection hsh with h1 h2;subst h1;subst h2
    obtain⟨ob,m,hm,rfl,rfl⟩:=JS hr
    simp only[oE]at hm
    obtain⟨r,hr1,hm⟩:=hm
    injection hm with hm;injection hm with h1 h2;subst h1;subst h2
    obtain⟨z1,z2⟩:=ND has
    simp only[execOp,ho]
    exact Cb.new (OG h hf hr1 z1 z2)
  case makeMap t r =>
    cases r with
    | some _=>simp[BZ]at hsh
    | none =>
      injection hsh with hsh;injection hsh with h1 h2;subst h1;subst h2
      cases has
      obtain⟨ob,m,hm,rfl,rfl⟩:=JS hr
      injection hm with hm;injection hm with h1 h2;subst h1;subst h2
      simp only[execOp,ho]
      exact Cb.new (Sd h hf t)
  case makeSlice t l c =>
    injection hsh with hsh;injection hsh with h1 h2;subst h1;subst h2
    obtain⟨a,b,rfl,ha,hb⟩:=AU.two has
    obtain⟨ob,m,hm,rfl,rfl⟩:=JS hr
    simp only[execOp,ho]
    exact Cb.new (MI h hf hm ha hb)
  case store t a x =>
    injection hsh with hsh;injection hsh with h1 h2;subst h1;subst h2
    obtain⟨a,b,rfl,ha,hb⟩:=AU.two has
    obtain⟨hv,rfl⟩:=GD (aN hr)
    simp only[execOp,ho]
    exact Cb.unit (VW h hv ha hb)
  case mapUpdate t m k x =>
    injection hsh with hsh;injection hsh with h1 h2;subst h1;subst h2
    obtain⟨a,b,c,rfl,ha,hb,hc⟩:=AU.three has
    obtain⟨hv,rfl⟩:=GD (aN hr)
    simp only[execOp,ho]
    exact Cb.unit (L6 h hv ha hb hc)
  case insert t m k x =>
    injection hsh with hsh;injection hsh with h1 h2;subst h1;subst h2
    obtain⟨a,b,c,rfl,ha,hb,hc⟩:=AU.three has
    obtain⟨hv,rfl⟩:=GD (aN hr)
    simp only[execOp,ho]
    exact Cb.unit (L6 h hv ha hb hc)
  case call c =>
    obtain⟨callee,args,argTypes⟩:=c
    have hx:∀b,callee=.builtin b→execOp ev o=builtin b argTypes o.type (args.map fun | .const _=>true | _=>false) (args.map ev):=by
      intro b hb
      subst hb
      simp only[execOp,ho,resolve]
      rfl
    simp only[BZ]at hsh
    split at hsh
    · injection hsh with hsh;injection hsh with h1 h2;subst h1;subst h2;cases hr
    · injection hsh with hsh;injection hsh with h1 h2;subst h1;subst h2;cases hr
    · cases hsh
    · rename_i b
      rw[hx b rfl]
      have hargs:∀l:List Value,args.toList.map ev=l→args.map ev=l.toArray:=by
        intro l hl
        rw[← hl,← Array.toList_map]
      split at hsh<;>first | (cases hsh;done) | skip
      · split at hsh<;>first | (cases hsh;done) | skip
        rename_i t ht
        injection hsh with hsh;injection hsh with h1 h2;subst h1;subst h2
        obtain⟨hv,rfl⟩:=Pp hr
        split at hv<;>first | (cases hv;done) | skip
        generalize hl:args.toList.map ev=l at has
        cases has with
        | cons hx1 hn =>
          cases hn
          rw[hargs _ hl]
          exact Cb.pure h (co h ht hv hx1)
      · split at hsh<;>first | (cases hsh;done) | skip
        rename_i t ht
        injection hsh with hsh;injection hsh with h1 h2;subst h1;subst h2
        obtain⟨hv,rfl⟩:=Pp hr
        split at hv<;>first | (cases hv;done) | skip
        generalize hl:args.toList.map ev=l at has
        cases has with
        | cons hx1 hn =>
          cases hn
          rw[hargs _ hl]
          exact Cb.pure h (bv h ht hv hx1)
      · injection hsh with hsh;injection hsh with h1 h2;subst h1;subst h2
        obtain⟨hv,rfl⟩:=M6 hr
        split at hv<;>first | (cases hv;done) | skip
        generalize hl:args.toList.map ev=l at has
        cases has with
        | cons hx1 hn =>
          rw[hargs _ hl]
          refine Cb.pure h ?_
          obtain⟨r',e1,e2⟩:=HA (P:=P) (w:=w) hv hx1 hn
          exact⟨r',by simpa[Builtin.min_]using e1,e2⟩
      · injection hsh with hsh;injection hsh with h1 h2;subst h1;subst h2
        obtain⟨hv,rfl⟩:=M6 hr
        split at hv<;>first | (cases hv;done) | skip
        generalize hl:args.toList.map ev=l at has
        cases has with
        | cons hx1 hn =>
          rw[hargs _ hl]
          refine Cb.pure h ?_
          obtain⟨r',e1,e2⟩:=HA (P:=P) (w:=w) hv hx1 hn
          exact⟨r',by simpa[Builtin.max_]using e1,e2⟩
      · injection hsh with hsh;injection hsh with h1 h2;subst h1;subst h2
        have hr:AY P s argTypes.toList as=some (v,s1):=hr
        have hr0:=hr
        unfold AY at hr0
        split at hr0<;>first | (cases hr0;done) | skip
        rename_i st xt a len cap x hty _
        clear hr0
        generalize hl:args.toList.map ev=l at has
        obtain⟨a',x',rfl,hx1,hx2⟩:∃a' x',l=[a',x']∧Aa ρ _ a'∧Aa ρ _ x':=by
          cases has with
          | cons h1 h2=>cases h2 with | cons h2 h3=>cases h3;exact⟨_,_,rfl,h1,h2⟩
        rw[hargs _ hl,show argTypes=#[st,xt]from Array.ext' hty]
        rw[hty]at hr
        exact Cb.eff (P8 h hf hr hx1 hx2)
      · injection hsh with hsh;injection hsh with h1 h2;subst h1;subst h2
        rw[hargs _ rfl]
        exact Cb.eff (ZK h hr (by simpa using has))
      · injection hsh with hsh;injection hsh with h1 h2;subst h1;subst h2
        rw[hargs _ rfl]
        exact Cb.eff (UQ h hr (by simpa using has))
      · split at hsh<;>first | (cases hsh;done) | skip
        rename_i t ht
        injection hsh with hsh;injection hsh with h1 h2;subst h1;subst h2
        have hr:on2 (fun m k=>AT (KA P s t m k)) as=some (v,s1):=hr
        unfold on2 at hr
        split at hr<;>first | (cases hr;done) | skip
        obtain⟨hv,rfl⟩:=GD hr
        generalize hl:args.toList.map ev=l at has
        obtain⟨a',x',rfl,hx1,hx2⟩:∃a' x',l=[a',x']∧Aa ρ _ a'∧Aa ρ _ x':=by
          cases has with
          | cons h1 h2=>cases h2 with | cons h2 h3=>cases h3;exact⟨_,_,rfl,h1,h2⟩
        rw[hargs _ hl]
        obtain⟨w1,e1,e2,e3⟩:=SD (ty:=o.type) h ht hv hx1 hx2
        exact Cb.eff ⟨undef,w1,ρ,e1,Df ρ,e2,e3⟩
end
end
end Go.Proofs.Ytilhhmkdcoajnaa.Am
