/- The operations of the model, by their shapes; conditions: none. -/
import Derived.Test.YtilhhmkdcoajnaaAmOps3
set_option linter.unusedVariables false
set_option linter.unusedSimpArgs false
namespace Go.Proofs.Ytilhhmkdcoajnaa.Am
open Go
noncomputable section
def shL(sh:Sh)(as:List AV)(s:ASt):Option (AV×ASt):=
  match sh with
  | .p1 f=>(match as with | a::_=>withS s (f a) | []=>none)
  | .p2 f=>(match as with | a::b::_=>withS s (f a b) | _=>none)
  | .p f=>withS s (f as)
  | .r1 f=>(match as with | a::_=>withS s (f s a) | []=>none)
  | .r f=>withS s (f s as)
  | .mk f=>madeA s (f as)
  | .e f=>f s as
  | .call _ | .callv=>none
section
variable{P:Program}{ρ ρ1 ρ2:Rho}{s s1 s2:ASt}{w w1 w2:World}
theorem withS_some{x:Option AV}{v:AV}(h:withS s x=some (v,s1)):x=some v∧s1=s:=by
  cases x with
  | none=>cases h
  | some u=>injection h with h;injection h with h1 h2;exact⟨by rw[h1],h2.symm⟩
theorem madeA_some{x:Option (AObj×Made)}{v:AV}(h:madeA s x=some (v,s1)):∃o m,x=some (o,m)∧v=m.val s.next∧s1=newObj s o:=by
  cases x with
  | none=>cases h
  | some u=>injection h with h;injection h with h1 h2;exact⟨u.1,u.2,rfl,h1.symm,h2.symm⟩
theorem withV_some{x:Option ASt}{v:AV}(h:withV x=some (v,s1)):x=some s1∧v=undefA:=by
  cases x with
  | none=>cases h
  | some u=>injection h with h;injection h with h1 h2;exact⟨by rw[h2],h1.symm⟩
theorem shL_p1{f:AV→Option AV}{a v:AV}(h:shL (.p1 f) [a] s=some (v,s1)):f a=some v∧s1=s:=withS_some h
theorem shL_p2{f:AV→AV→Option AV}{a b v:AV}(h:shL (.p2 f) [a,b] s=some (v,s1)):f a b=some v∧s1=s:=withS_some h
theorem shL_p{f:List AV→Option AV}{as:List AV}{v:AV}(h:shL (.p f) as s=some (v,s1)):f as=some v∧s1=s:=withS_some h
theorem shL_r1{f:ASt→AV→Option AV}{a v:AV}(h:shL (.r1 f) [a] s=some (v,s1)):f s a=some v∧s1=s:=withS_some h
theorem shL_r{f:ASt→List AV→Option AV}{as:List AV}{v:AV}(h:shL (.r f) as s=some (v,s1)):f s as=some v∧s1=s:=withS_some h
theorem shL_mk{f:List AV→Option (AObj×Made)}{as:List AV}{v:AV}(h:shL (.mk f) as s=some (v,s1)):∃o m,f as=some (o,m)∧v=m.val s.next∧s1=newObj s o:=madeA_some h
theorem shL_e{f:ASt→List AV→Option (AV×ASt)}{as:List AV}{v:AV}(h:shL (.e f) as s=some (v,s1)):f s as=some (v,s1):=h
def OpOk(P:Program)(ρ:Rho)(s:ASt)(w:World)(sem:Sem Next)(v:AV)(s':ASt):Prop:=
  ∃v' w' ρ',(sem.run P w=.ok (.value v') w'∨(sem.run P w=.ok .skip w'∧v'=undef))∧VRel ρ' v v'∧Inv P ρ' s' w'∧Fr ρ s w ρ' s' w'
theorem OpOk.pure(h:Inv P ρ s w){sem:Sem Value}{v:AV}(hr:∃v',sem.run P w=.ok v' w∧VRel ρ v v'):OpOk P ρ s w (do Pure.pure (Next.value (← sem))) v s:=by
  obtain⟨v',h1,h2⟩:=hr
  exact⟨v',w,ρ,.inl (by simp[h1]),h2,h,Fr.refl _ _ _⟩
theorem OpOk.eff{sem:Sem Value}{v:AV}(hr:EffOk P ρ s w sem v s1):OpOk P ρ s w (do Pure.pure (Next.value (← sem))) v s1:=by
  obtain⟨v',w',ρ',h1,h2,h3,h4⟩:=hr
  exact⟨v',w',ρ',.inl (by simp[h1]),h2,h3,h4⟩
theorem OpOk.new{sem:Sem Value}{o:AObj}{m:Made}(hr:NewOk P ρ s w sem o m):OpOk P ρ s w (do Pure.pure (Next.value (← sem))) (m.val s.next) (newObj s o):=by
  obtain⟨v',w',ρ',h1,h2,h3,h4⟩:=hr
  exact⟨v',w',ρ',.inl (by simp[h1]),h2,h3,h4⟩
theorem OpOk.unit{sem:Sem Unit}(hr:∃w',sem.run P w=.ok () w'∧Inv P ρ s1 w'∧Fr ρ s w ρ s1 w'):OpOk P ρ s w (do sem;Pure.pure Next.skip) undefA s1:=by
  obtain⟨w',h1,h2,h3⟩:=hr
  exact⟨undef,w',ρ,.inr ⟨by simp[h1],rfl⟩,undef_rel ρ,h2,h3⟩
theorem VRels.one{a:List AV}{x':Value}(h:VRels ρ a [x']):∃x,a=[x]∧VRel ρ x x':=by
  cases h with
  | cons h hs=>cases hs;exact⟨_,rfl,h⟩
theorem VRels.two{a:List AV}{x' y':Value}(h:VRels ρ a [x',y']):∃x y,a=[x,y]∧VRel ρ x x'∧VRel ρ y y':=by
  cases h with
  | cons h hs=>obtain⟨y,rfl,hy⟩:=hs.one;exact⟨_,y,rfl,h,hy⟩
theorem VRels.three{a:List AV}{x' y' z':Value}(h:VRels ρ a [x',y',z']):∃x y z,a=[x,y,z]∧VRel ρ x x'∧VRel ρ y y'∧VRel ρ z z':=by
  cases h with
  | cons h hs=>obtain⟨y,z,rfl,hy,hz⟩:=hs.two;exact⟨_,y,z,rfl,h,hy,hz⟩
theorem zip_parts{ps:Array (Nat×Operand)}{ev:Operand→Value}{as:List AV}(h:VRels ρ as ((ps.toList.map (·.2)).map ev)):
    (zipIdx (ps.toList.map (·.1)) as).map (·.1)=(ps.map fun(p:Nat×Operand)=>(p.1,ev p.2)).toList.map (·.1) ∧
      VRels ρ ((zipIdx (ps.toList.map (·.1)) as).map (·.2)) ((ps.map fun(p:Nat×Operand)=>(p.1,ev p.2)).toList.map (·.2)):=by
  have hlen:=h.length
  simp only[List.length_map]at hlen
  unfold zipIdx
  constructor
  · rw [List.map_fst_zip]
    · simp[Function.comp_def]
    · simp[hlen]
  · rw [List.map_snd_zip]
    · simpa[Function.comp_def]using h
    · simp[hlen]
theorem sliceOpnds_ok (hI : Inv P ρ s w) {t : TypeId} {x : Operand} {lo hi mx : Option Operand} {ev : Operand → Value} {as : List AV} {v : AV}
    (h:VRels ρ as (([x]++lo.toList++hi.toList++mx.toList).map ev)) (hs:sliceOpnds P t lo.isSome hi.isSome mx.isSome s as=some v):
    ∃v',(Instr.sliceAt t (ev x) (lo.map ev) (hi.map ev) (mx.map ev)).run P w=.ok v' w∧VRel ρ v v':=by
  cases lo with
  | none =>
    cases hi with
    | none =>
      cases mx with
      | none=>obtain⟨x,rfl,hx⟩:=VRels.one h;exact sliceA_ok hI (show sliceA P s t _ none none none=some v from hs) hx .none .none .none
      | some m=>obtain⟨x,y,rfl,hx,hy⟩:=VRels.two h;simp[sliceOpnds]at hs
    | some hh =>
      cases mx with
      | none=>obtain⟨x,y,rfl,hx,hy⟩:=VRels.two h;exact sliceA_ok hI (show sliceA P s t _ none (some y) none=some v from hs) hx .none (.some hy) .none
      | some m=>obtain⟨x,y,z,rfl,hx,hy,hz⟩:=VRels.three h;exact sliceA_ok hI (show sliceA P s t _ none (some y) (some z)=some v from hs) hx .none (.some hy) (.some hz)
  | some l =>
    cases hi with
    | none =>
      cases mx with
      | none=>obtain⟨x,y,rfl,hx,hy⟩:=VRels.two h;exact sliceA_ok hI (show sliceA P s t _ (some y) none none=some v from hs) hx (.some hy) .none .none
      | some m=>obtain⟨x,y,z,rfl,hx,hy,hz⟩:=VRels.three h;simp[sliceOpnds]at hs
    | some hh =>
      cases mx with
      | none=>obtain⟨x,y,z,rfl,hx,hy,hz⟩:=VRels.three h;exact sliceA_ok hI (show sliceA P s t _ (some y) (some z) none=some v from hs) hx (.some hy) (.some hz) .none
      | some m =>
        cases h with
        | cons hx h =>
          obtain⟨y,z,u,rfl,hy,hz,hu⟩:=VRels.three h
          exact sliceA_ok hI (show sliceA P s t _ (some y) (some z) (some u)=some v from hs) hx (.some hy) (.some hz) (.some hu)
theorem op_ok (h : Inv P ρ s w) (hf : ρ s.next = none) {o : Oper} {sh : Sh} {xs : List Operand} {ev : Operand → Value} {as : List AV} {v : AV} (hsh : shapeOf P o.op = some (sh, xs)) (has : VRels ρ as (xs.map ev))
    (hr:shL sh as s=some (v,s1)):OpOk P ρ s w (execOp ev o) v s1:=by
  cases ho:o.op<;>rw[ho]at hsh<;>first | (simp[shapeOf]at hsh;done) | skip
  case move x =>
    injection hsh with hsh;injection hsh with h1 h2;subst h1;subst h2
    obtain⟨a,rfl,ha⟩:=VRels.one has
    obtain⟨hv,rfl⟩:=shL_p1 hr
    injection hv with hv;subst hv
    exact⟨_,w,ρ,.inl (by simp[execOp,ho]),ha,h,Fr.refl _ _ _⟩
  case assign x =>
    injection hsh with hsh;injection hsh with h1 h2;subst h1;subst h2
    obtain⟨a,rfl,ha⟩:=VRels.one has
    obtain⟨hv,rfl⟩:=shL_p1 hr
    injection hv with hv;subst hv
    exact⟨_,w,ρ,.inl (by simp[execOp,ho]),ha,h,Fr.refl _ _ _⟩
  case pick c a b =>
    injection hsh with hsh;injection hsh with h1 h2;subst h1;subst h2
    obtain⟨x,y,z,rfl,hx,hy,hz⟩:=VRels.three has
    obtain⟨hv,rfl⟩:=shL_p hr
    simp only[Rn,Ro]at hv
    split at hv<;>first | (cases hv;done) | skip
    · injection hv with hv;subst hv
      generalize hc:ev c=c' at hx
      cases hx
      exact⟨_,w,ρ,.inl (by simp[execOp,ho,hc,asBool]),hy,h,Fr.refl _ _ _⟩
    · injection hv with hv;subst hv
      generalize hc:ev c=c' at hx
      cases hx
      exact⟨_,w,ρ,.inl (by simp[execOp,ho,hc,asBool]),hz,h,Fr.refl _ _ _⟩
  case build t ps =>
    injection hsh with hsh;injection hsh with h1 h2;subst h1;subst h2
    obtain⟨hv,rfl⟩:=shL_p hr
    obtain⟨z1,z2⟩:=zip_parts has
    simp only[execOp,ho]
    exact OpOk.pure h (buildA_ok hv z1 z2 w)
  case nilCheck x =>
    injection hsh with hsh;injection hsh with h1 h2;subst h1;subst h2
    obtain⟨a,rfl,ha⟩:=VRels.one has
    obtain⟨hv,rfl⟩:=shL_p1 hr
    obtain⟨v',e1,e2⟩:=nilCheckA_ok (P:=P) (w:=w) hv ha ev o x ho rfl
    exact⟨v',w,ρ,.inl e1,e2,h,Fr.refl _ _ _⟩
  case binOp op t x y f =>
    injection hsh with hsh;injection hsh with h1 h2;subst h1;subst h2
    obtain⟨a,b,rfl,ha,hb⟩:=VRels.two has
    obtain⟨hv,rfl⟩:=shL_p2 hr
    simp only[execOp,ho]
    exact OpOk.pure h (binA_ok hv ha hb _ _)
  case unOp op t x =>
    injection hsh with hsh;injection hsh with h1 h2;subst h1;subst h2
    obtain⟨a,rfl,ha⟩:=VRels.one has
    obtain⟨hv,rfl⟩:=shL_p1 hr
    simp only[execOp,ho]
    exact OpOk.pure h (unA_ok hv ha)
  case makeFunc fn first captured =>
    simp only[shapeOf]at hsh
    split at hsh<;>first | (cases hsh;done) | skip
    rename_i f
    injection hsh with hsh;injection hsh with h1 h2;subst h1;subst h2
    obtain⟨hv,rfl⟩:=shL_p hr
    injection hv with hv;subst hv
    rw[List.map_append]at has
    refine⟨.func (.func f) (first.map ev) (captured.map ev),w,ρ,.inl (by simp[execOp,ho,Instr.makeFunc]),.func ?_ ?_,h,Fr.refl _ _ _⟩
    · have:=has.take first.size
      simpa[List.take_left']using this
    · have:=has.drop first.size
      simpa[List.drop_left']using this
  case fieldAddr t x f =>
    injection hsh with hsh;injection hsh with h1 h2;subst h1;subst h2
    obtain⟨a,rfl,ha⟩:=VRels.one has
    obtain⟨hv,rfl⟩:=shL_p1 hr
    simp only[execOp,ho]
    exact OpOk.pure h (fieldAddrA_ok hv ha)
  case field t x f =>
    injection hsh with hsh;injection hsh with h1 h2;subst h1;subst h2
    obtain⟨a,rfl,ha⟩:=VRels.one has
    obtain⟨hv,rfl⟩:=shL_p1 hr
    simp only[execOp,ho]
    exact OpOk.pure h (fieldA_ok hv ha)
  case indexAddr t x i =>
    injection hsh with hsh;injection hsh with h1 h2;subst h1;subst h2
    obtain⟨a,b,rfl,ha,hb⟩:=VRels.two has
    obtain⟨hv,rfl⟩:=shL_p2 hr
    simp only[execOp,ho]
    exact OpOk.pure h (indexAddrA_ok hv ha hb)
  case index t x i =>
    injection hsh with hsh;injection hsh with h1 h2;subst h1;subst h2
    obtain⟨a,b,rfl,ha,hb⟩:=VRels.two has
    obtain⟨hv,rfl⟩:=shL_p2 hr
    simp only[execOp,ho]
    exact OpOk.pure h (indexA_ok hv ha hb)
  case extract t i =>
    injection hsh with hsh;injection hsh with h1 h2;subst h1;subst h2
    obtain⟨a,rfl,ha⟩:=VRels.one has
    obtain⟨hv,rfl⟩:=shL_p1 hr
    simp only[execOp,ho]
    exact OpOk.pure h (extractA_ok hv ha)
  case load t a =>
    injection hsh with hsh;injection hsh with h1 h2;subst h1;subst h2
    obtain⟨a,rfl,ha⟩:=VRels.one has
    obtain⟨hv,rfl⟩:=shL_r1 hr
    simp only[execOp,ho]
    obtain⟨v',e1,e2,_⟩:=loadV_ok h hv ha
    exact OpOk.pure h ⟨v',e1,e2⟩
  case lookup t m k ok =>
    injection hsh with hsh;injection hsh with h1 h2;subst h1;subst h2
    obtain⟨a,b,rfl,ha,hb⟩:=VRels.two has
    obtain⟨hv,rfl⟩:=shL_r hr
    simp only[execOp,ho]
    exact OpOk.pure h (lookupA_ok h hv ha hb)
  case convert src dst x =>
    injection hsh with hsh;injection hsh with h1 h2;subst h1;subst h2
    obtain⟨a,rfl,ha⟩:=VRels.one has
    obtain⟨hv,rfl⟩:=shL_r1 hr
    simp only[execOp,ho]
    exact OpOk.pure h (convA_ok h hv ha)
  case slice t x lo hi mx =>
    injection hsh with hsh;injection hsh with h1 h2;subst h1;subst h2
    obtain⟨hv,rfl⟩:=shL_r hr
    simp only[execOp,ho]
    exact OpOk.pure h (sliceOpnds_ok h has hv)
  case alloc e =>
    injection hsh with hsh;injection hsh with h1 h2;subst h1;subst h2
    cases has
    obtain⟨ob,m,hm,rfl,rfl⟩:=shL_mk hr
    simp only[execOp,ho]
    exact OpOk.new (allocA_ok h hf hm)
  case box e x =>
    injection hsh with hsh;injection hsh with h1 h2;subst h1;subst h2
    obtain⟨a,rfl,ha⟩:=VRels.one has
    obtain⟨ob,m,hm,rfl,rfl⟩:=shL_mk hr
    simp only[execOp,ho]
    exact OpOk.new (boxA_ok h hf hm ha)
  case buildSlice t len ps =>
    injection hsh with hsh;injection hsh with h1 h2;subst h1;subst h2
    obtain⟨ob,m,hm,rfl,rfl⟩:=shL_mk hr
    simp only[Option.bind_eq_some_iff]at hm
    obtain⟨r,hr1,hm⟩:=hm
    injection hm with hm;injection hm with h1 h2;subst h1;subst h2
    obtain⟨z1,z2⟩:=zip_parts has
    simp only[execOp,ho]
    exact OpOk.new (sliceRowA_ok h hf hr1 z1 z2)
  case makeMap t r =>
    cases r with
    | some _=>simp[shapeOf]at hsh
    | none =>
      injection hsh with hsh;injection hsh with h1 h2;subst h1;subst h2
      cases has
      obtain⟨ob,m,hm,rfl,rfl⟩:=shL_mk hr
      injection hm with hm;injection hm with h1 h2;subst h1;subst h2
      simp only[execOp,ho]
      exact OpOk.new (makeMap_ok h hf t)
  case makeSlice t l c =>
    injection hsh with hsh;injection hsh with h1 h2;subst h1;subst h2
    obtain⟨a,b,rfl,ha,hb⟩:=VRels.two has
    obtain⟨ob,m,hm,rfl,rfl⟩:=shL_mk hr
    simp only[execOp,ho]
    exact OpOk.new (makeSliceA_ok h hf hm ha hb)
  case store t a x =>
    injection hsh with hsh;injection hsh with h1 h2;subst h1;subst h2
    obtain⟨a,b,rfl,ha,hb⟩:=VRels.two has
    obtain⟨hv,rfl⟩:=withV_some (shL_e hr)
    simp only[execOp,ho]
    exact OpOk.unit (storeV_ok h hv ha hb)
  case mapUpdate t m k x =>
    injection hsh with hsh;injection hsh with h1 h2;subst h1;subst h2
    obtain⟨a,b,c,rfl,ha,hb,hc⟩:=VRels.three has
    obtain⟨hv,rfl⟩:=withV_some (shL_e hr)
    simp only[execOp,ho]
    exact OpOk.unit (updateA_ok h hv ha hb hc)
  case insert t m k x =>
    injection hsh with hsh;injection hsh with h1 h2;subst h1;subst h2
    obtain⟨a,b,c,rfl,ha,hb,hc⟩:=VRels.three has
    obtain⟨hv,rfl⟩:=withV_some (shL_e hr)
    simp only[execOp,ho]
    exact OpOk.unit (updateA_ok h hv ha hb hc)
  case call c =>
    obtain⟨callee,args,argTypes⟩:=c
    have hx:∀b,callee=.builtin b→execOp ev o=builtin b argTypes o.type (args.map fun | .const _=>true | _=>false) (args.map ev):=by
      intro b hb
      subst hb
      simp only[execOp,ho,resolve]
      rfl
    simp only[shapeOf]at hsh
    split at hsh
    · injection hsh with hsh;injection hsh with h1 h2;subst h1;subst h2;cases hr
    · injection hsh with hsh;injection hsh with h1 h2;subst h1;subst h2;cases hr
    · cases hsh
    · rename_i b
      rw[hx b rfl]
      have hargs:∀l:List Value,args.toList.map ev=l→args.map ev=l.toArray:=by
        intro l hl
        rw[← hl,← Array.toList_map]
      split at hsh<;>first | (cases hsh;done) | skip
      · split at hsh<;>first | (cases hsh;done) | skip
        rename_i t ht
        injection hsh with hsh;injection hsh with h1 h2;subst h1;subst h2
        obtain⟨hv,rfl⟩:=shL_r hr
        split at hv<;>first | (cases hv;done) | skip
        generalize hl:args.toList.map ev=l at has
        cases has with
        | cons hx1 hn =>
          cases hn
          rw[hargs _ hl]
          exact OpOk.pure h (lenA_ok h ht hv hx1)
      · split at hsh<;>first | (cases hsh;done) | skip
        rename_i t ht
        injection hsh with hsh;injection hsh with h1 h2;subst h1;subst h2
        obtain⟨hv,rfl⟩:=shL_r hr
        split at hv<;>first | (cases hv;done) | skip
        generalize hl:args.toList.map ev=l at has
        cases has with
        | cons hx1 hn =>
          cases hn
          rw[hargs _ hl]
          exact OpOk.pure h (capA_ok h ht hv hx1)
      · injection hsh with hsh;injection hsh with h1 h2;subst h1;subst h2
        obtain⟨hv,rfl⟩:=shL_p hr
        split at hv<;>first | (cases hv;done) | skip
        generalize hl:args.toList.map ev=l at has
        cases has with
        | cons hx1 hn =>
          rw[hargs _ hl]
          refine OpOk.pure h ?_
          obtain⟨r',e1,e2⟩:=minMax_ok (P:=P) (w:=w) hv hx1 hn
          exact⟨r',by simpa[Builtin.min_]using e1,e2⟩
      · injection hsh with hsh;injection hsh with h1 h2;subst h1;subst h2
        obtain⟨hv,rfl⟩:=shL_p hr
        split at hv<;>first | (cases hv;done) | skip
        generalize hl:args.toList.map ev=l at has
        cases has with
        | cons hx1 hn =>
          rw[hargs _ hl]
          refine OpOk.pure h ?_
          obtain⟨r',e1,e2⟩:=minMax_ok (P:=P) (w:=w) hv hx1 hn
          exact⟨r',by simpa[Builtin.max_]using e1,e2⟩
      · injection hsh with hsh;injection hsh with h1 h2;subst h1;subst h2
        have hr:appendA P s argTypes.toList as=some (v,s1):=hr
        have hr0:=hr
        unfold appendA at hr0
        split at hr0<;>first | (cases hr0;done) | skip
        rename_i st xt a len cap x hty _
        clear hr0
        generalize hl:args.toList.map ev=l at has
        obtain⟨a',x',rfl,hx1,hx2⟩:∃a' x',l=[a',x']∧VRel ρ _ a'∧VRel ρ _ x':=by
          cases has with
          | cons h1 h2=>cases h2 with | cons h2 h3=>cases h3;exact⟨_,_,rfl,h1,h2⟩
        rw[hargs _ hl,show argTypes=#[st,xt]from Array.ext' hty]
        rw[hty]at hr
        exact OpOk.eff (appendA_ok h hf hr hx1 hx2)
      · injection hsh with hsh;injection hsh with h1 h2;subst h1;subst h2
        rw[hargs _ rfl]
        exact OpOk.eff (copyA_ok h hr (by simpa using has))
      · injection hsh with hsh;injection hsh with h1 h2;subst h1;subst h2
        rw[hargs _ rfl]
        exact OpOk.eff (clearA_ok h hr (by simpa using has))
      · split at hsh<;>first | (cases hsh;done) | skip
        rename_i t ht
        injection hsh with hsh;injection hsh with h1 h2;subst h1;subst h2
        have hr:on2 (fun m k=>withV (deleteA P s t m k)) as=some (v,s1):=hr
        unfold on2 at hr
        split at hr<;>first | (cases hr;done) | skip
        obtain⟨hv,rfl⟩:=withV_some hr
        generalize hl:args.toList.map ev=l at has
        obtain⟨a',x',rfl,hx1,hx2⟩:∃a' x',l=[a',x']∧VRel ρ _ a'∧VRel ρ _ x':=by
          cases has with
          | cons h1 h2=>cases h2 with | cons h2 h3=>cases h3;exact⟨_,_,rfl,h1,h2⟩
        rw[hargs _ hl]
        obtain⟨w1,e1,e2,e3⟩:=deleteA_ok (ty:=o.type) h ht hv hx1 hx2
        exact OpOk.eff ⟨undef,w1,ρ,e1,undef_rel ρ,e2,e3⟩
end
end
end Go.Proofs.Ytilhhmkdcoajnaa.Am
