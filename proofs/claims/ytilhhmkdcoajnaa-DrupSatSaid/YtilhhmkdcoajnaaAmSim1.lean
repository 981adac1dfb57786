/- What a call brings and leaves: slots, marks, results; conditions: none. -/
import Derived.Test.YtilhhmkdcoajnaaAmDraw4
set_option linter.unusedVariables false
set_option linter.unusedSimpArgs false
namespace Go.Proofs.Ytilhhmkdcoajnaa.Am
open Go
noncomputable section
section
variable{P:Program}{ρ ρ1 ρ2:Rho}{s s1 s2:ASt}{w w1 w2:World}
theorem Pv{b:Frame}{a:Act}{k:List Item}{cs:List Frame}{c:Code}:step P (lone (b.atR a (.code (.scope c)::k)) cs w)=.next (lone (b.atR a (.code c::.inScope c::k)) cs w):=
  step_lone_go (by simp[stepG,stepG.exec,Frame.atR])
theorem ML{b:Frame}{a:Act}{k:List Item}{cs:List Frame}{c:Code}:step P (lone (b.atR a (.inScope c::k)) cs w)=.next (lone (b.atR a k) cs w):=
  step_lone_go (by simp[stepG,stepG.exec,Frame.atR])
def dA(Q:Exit→Act→World→Prop):Exit→Act→World→Prop
  | .goto _,_,_=>False
  | e,a,w=>Q e a w
theorem TB{F:Fence}{n:Nat}{Q:Exit→Act→World→Prop}{a:Act}{c:Code}(h:c.wpIn F n P (dA Q) a w):(Code.scope c).wpIn F n P Q a w:=by
  intro b k cs hro hb hr
  obtain⟨e,a₁,w₁,hq,harr⟩:=h b (.inScope c::k) cs hro hb hr
  have h1:StepsIn (Machine.fenced P F) P (lone (b.atR a (.code (.scope c)::k)) cs w) (lone (b.atR a (.code c::.inScope c::k)) cs w):=.one (fenced_calm hb hr rfl) Pv
  cases e with
  | normal=>exact⟨.normal,a₁,w₁,hq,h1.trans (StepsIn.trans harr (.one (fenced_calm hb hr rfl) ML))⟩
  | exit id=>exact⟨.exit id,a₁,w₁,hq,.of_steps h1 ⟨fun k' hk=>harr.1 k' (by simpa[exitTo]using hk),fun h2 hk=>harr.2 h2 (by simpa[exitTo]using hk)⟩⟩
  | goto l=>exact hq.elim
  | ret=>exact⟨.ret,a₁,w₁,hq,ArrivesIn.of_steps (k:=k) (e:=.ret) h1 harr⟩
  | panic ch=>exact⟨.panic ch,a₁,w₁,hq,ArrivesIn.of_steps (k:=k) (e:=.panic ch) h1 harr⟩
  | outgrown=>exact⟨.outgrown,a₁,w₁,hq,ArrivesIn.of_steps (k:=k) (e:=.outgrown) h1 harr⟩
structure DN(P:Program)(ρ:Rho)(fn:Func)(var:List AV)(tmps:Array Value):Prop where
  len:var.length=(BN P fn).length
  rel:EA ρ (BN P fn) var tmps
  size:fn.ntmps≤tmps.size
theorem DN.mono{fn:Func}{var:List AV}{tmps:Array Value}(h:DN P ρ fn var tmps)(le:ρ.le ρ1):DN P ρ1 fn var tmps:=⟨h.len,h.rel.mono le,h.size⟩
def JO(vars:List Tmp)(var:List AV):CA:=fun t=>(Bu vars t).bind fun k=>var[k]?
theorem Jo{vars:List Tmp}{var:List AV}(h:var.length=vars.length):EO vars ⟨[],0⟩ [] var (JO vars var):=by
  refine⟨h,fun t p e=>(by cases e),fun t x e=>(by cases e),?_⟩
  intro t x hx
  unfold Ec at hx
  simp only[EZ]at hx
  simp only[oE]at hx
  obtain⟨j,h1,h2⟩:=hx
  injection h2 with h2
  subst h2
  have hj:j<var.length:=by rw[h];exact E9 h1
  simp only[JO,h1,Option.bind_some,CY,cev]
  rw[oM hj,N5 (oM hj)]
theorem Gs{fn:Func}{var:List AV}{tmps:Array Value}(h:DN P ρ fn var tmps):Ew ρ (JO (BN P fn) var) tmps:=by
  intro t v hv
  simp only[JO,oE]at hv
  obtain⟨k,h1,h2⟩:=hv
  obtain⟨h3,v',h4,h5⟩:=h.rel t k h1
  rw[h2]at h4
  injection h4 with h4
  subst h4
  exact⟨h3,h5⟩
theorem Vc{fn:Func}{c:CSt}{loc var:List AV}{R:CA}{tmps:Array Value}(hc:EO (BN P fn) c loc var R)(hr:Ew ρ R tmps)(hs:fn.ntmps≤tmps.size):DN P ρ fn var tmps:=by
  refine⟨hc.vlen,?_,hs⟩
  intro t k hk
  have hl:EZ c.map t=none:=by
    cases h:EZ c.map t with
    | none=>rfl
    | some x=>have:=hc.keys t x h;rw[hk]at this;cases this
  have hx:Ec (BN P fn) c t=some (.var k):=by unfold Ec;rw[hl,hk];rfl
  have hv:=hc.val t _ hx
  have hj:k<var.length:=by rw[hc.vlen];exact E9 hk
  obtain⟨h1,h2⟩:=hr t _ hv
  refine⟨h1,_,oM hj,?_⟩
  have e:nth var k=var[k]:=N5 (oM hj)
  simp only[CY,cev,e]at h2
  exact h2
theorem Pa{fn:Func}{var:List AV}{a:Act}(h:DN P ρ fn var a.tmps){o:Operand}{x:CX}(hx:FN (BN P fn) ⟨[],0⟩ o=some x):Aa ρ (cev [] var x) (a.eval o):=by
  have hc:=Jo h.len
  have:=Le hc hx
  have e:CY 0 x=x:=by
    cases x with
    | loc p=>exact absurd (Ld hc hx p rfl) (Nat.not_lt_zero _)
    | _=>rfl
  rw[e]at this
  exact Ph (Gs h) this
theorem Gp:∀ (n:Nat)(l:List AV),(Ql l n).length=n
  | 0,_=>rfl
  | n+1,[]=>by simp[Ql,Gp n]
  | n+1,_::l=>by simp[Ql,Gp n]
theorem Lh:∀ (n:Nat)(l:List AV)(k:Nat),k<n→(Ql l n)[k]? = some (l.getD k Au)
  | 0,_,k,h=>by omega
  | n+1,[],k,h=>by
    cases k with
    | zero=>rfl
    | succ k=>simpa[Ql]using Lh n [] k (by omega)
  | n+1,a::l,k,h=>by
    cases k with
    | zero=>rfl
    | succ k=>simpa[Ql]using Lh n l k (by omega)
theorem Ei(m:Nat):∀ (n k x:Nat),x∈Fi m n k→k≤x∧x<k+n
  | 0,k,x,h=>by cases h
  | n+1,k,x,h=>by
    unfold Fi at h
    cases hb:m.testBit k with
    | true =>
      rw[hb]at h
      simp only[cond_true]at h
      rcases ov.1 h with rfl | h
      · omega
      · have:=Ei m n (k+1) x h;omega
    | false =>
      rw[hb]at h
      simp only[cond_false]at h
      have:=Ei m n (k+1) x h;omega
theorem dU      {fn : Func} {as : List AV} {as' : Array Value} (ha : AU    ρ as as'.toList) (hn : as.length = DS     fn) (hle : DS     fn ≤ fn.ntmps) :
    DN P ρ fn (Ql as (BN P fn).length) (as'++Array.replicate (fn.ntmps - as'.size) undef):=by
  have hsz:as'.size=DS fn:=by have:=ha.length;simp at this;omega
  refine⟨Gp _ _,?_,by simp;omega⟩
  intro t k hk
  have hg:=FO hk
  have hlt:=E9 hk
  refine⟨?_,_,Lh _ _ k hlt,?_⟩
  all_goals unfold BN at hg
  · have hm:t∈(List.range (DS fn)++match fn.body with
        | none=>[]
        | some c=>Fi (Nat.lor (Em P c) (Hq fn.results.toList)) (fn.ntmps - DS fn) (DS fn)):=oG hg
    rcases pg.1 hm with h | h
    · have h9:(t:Nat)<DS fn:=List.mem_range.1 h
      rw[Array.size_append,Array.size_replicate]
      exact oh h9 (by omega)
    · cases hb:fn.body with
      | none=>rw[hb]at h;cases h
      | some c =>
        rw[hb]at h
        have h9:=(Ei _ _ _ _ h).2
        rw[Array.size_append,Array.size_replicate]
        exact oh h9 (by omega)
  · by_cases hka : k < DS     fn
    · rw [oR                        (by simpa using hka)] at hg
      rw[List.getElem?_range hka]at hg
      injection hg with hg
      subst hg
      obtain⟨v',h1,h2⟩:=ha.get (k:=k) (v:=as[k]'(by omega)) (oM (by omega))
      have e1:as.getD k Au=as[k]'(by omega):=by simp[show k<as.length by omega]
      have e2:(as'++Array.replicate (fn.ntmps - as'.size) undef).getD k undef=v':=by
        have h1':as'[k]? = some v':=by simpa using h1
        have hk':k<as'.size:=by omega
        simp[Array.getD_eq_getD_getElem?,Array.getElem?_append_left hk',h1']
      rw[e1,e2]
      exact h2
    · rw[oT (by simpa using hka)]at hg
      have ht:DS fn≤t:=by
        cases hb:fn.body with
        | none=>rw[hb]at hg;simp at hg
        | some c=>rw[hb]at hg;exact(Ei _ _ _ _ (oG hg)).1
      have e1:as.getD k Au=Au:=by simp[show as.length≤k by omega]
      have e2:(as'++Array.replicate (fn.ntmps - as'.size) undef).getD t undef=undef:=by
        rw[Array.getD_eq_getD_getElem?,Array.getElem?_append_right (by omega),Array.getElem?_replicate]
        split<;>rfl
      rw[e1,e2]
      exact Df ρ
def Di(ρ:Rho):List Nat→List Deferred→Prop
  | [],ds=>ds=[]
  | i::l,ds=>∃rb ds',ρ i=some rb∧ds={ target:=.collected rb.b,args:=#[] }::ds'∧Di ρ l ds'
theorem Di.mono:∀ {l:List Nat}{ds:List Deferred},Di ρ l ds→ρ.le ρ1→Di ρ1 l ds
  | [],_,h,_=>h
  | _::_,_,⟨rb,ds',h1,h2,h3⟩,le=>⟨rb,ds',le _ _ h1,h2,Di.mono h3 le⟩
theorem Inv.unmark1(h:Inv P ρ s w){i:Nat}{rb:RB}(hg:s.heap.get i=some .mark)(hr:ρ i=some rb):
    Inv P ρ (Bc s i) (w.putObj rb.b (.deferred none))∧Fr ρ s w ρ (Bc s i) (w.putObj rb.b (.deferred none)):=by
  let o1:Cv:=.row { elem:=default,sz:=rb.sz,n:=0,c:=.leaf,spare:=true,mode:=.ro,par:=none,bytes:=false }
  have ho:Hz P ρ (w.putObj rb.b (.deferred none)) o1 rb:=
    ⟨fun k v hk=>absurd hk (Nat.not_lt_zero k),oK _,rfl,(fun e=>by cases e),fun e=>absurd rfl e,fun p e=>by cases e⟩
  obtain⟨h1,h2⟩:=h.set (w1:=w.putObj rb.b (.deferred none)) (o1:=o1) hg hr rfl (fun p e=>by cases e) rfl World.putObj_size (fun b hb=>World.putObj_heap_other hb) rfl rfl rfl ho
  obtain⟨h3,h4⟩:=h1.del hr
  have e:∀x,(Bc (setObj s i o1) i).heap.get x=(Bc s i).heap.get x:=by
    intro x
    rw[Be,Be,DT]
    by_cases h':x=i
    · simp[h']
    · simp[h']
  have h5:=h2.trans h4
  refine⟨h3.same fun x _ _=>(e x).symm,⟨h5.le,h5.fresh,h5.next,h5.size,h5.os,h5.tape,h5.output,h5.keep,fun b hb=>h5.own b (hb.same fun x _ _=>(e x).symm),fun x hx hy=>(e x).symm.trans (h5.unborn x hx hy)⟩⟩
theorem Ny{fn:Func}{tmps:Array Value}{R:Ending→World→Prop}:∀ {marks:List Nat}{ds:List Deferred}{s s':ASt}{w:World},Di ρ marks ds→unmark s marks=some s'→Inv P ρ s w →
    (∀w',Inv P ρ s' w'→Fr ρ s w ρ s' w'→∃v,(results fn tmps).run P w'=.ok v w'∧R (.returned v) w')→LeavesInM Fence.wide 0 P fn tmps R ds .returning w:=by
  intro marks
  induction marks with
  | nil =>
    intro ds s s' w hm hu hi hk
    have hm:ds=[]:=hm
    subst hm
    injection hu with hu
    subst hu
    exact hk w hi (Fr.refl _ _ _)
  | cons i l ih =>
    intro ds s s' w hm hu hi hk
    obtain⟨rb,ds',h1,rfl,h3⟩:=hm
    unfold unmark at hu
    split at hu
    · rename_i hg
      obtain⟨h4,h5⟩:=hi.unmark1 hg h1
      have hb:w.heap[rb.b]? = some (.deferred (some [])):=hi.obj i _ rb hg h1
      refine⟨by simp,.inl ⟨rb.b,_,rfl,run_takeDeferred hb,?_⟩⟩
      exact ih h3 hu h4 fun w' g1 g2=>hk w' g1 (h5.trans g2)
    · cases hu
def aC(tmps:Array Value):ResultVar→Sem Value
  | .tmp t=>Pure.pure (tmps.getD t undef)
  | .cell a t=>do loadVar t (← asAddr (tmps.getD a undef))
theorem Sq(fn:Func)(tmps:Array Value):results fn tmps=(do
    let vs ← fn.results.mapM (aC tmps)
    Pure.pure (if h:vs.size=1 then vs[0]else .tuple vs)):=by
  have:(fun r:ResultVar=>(match r with
      | .tmp t=>(Pure.pure (tmps.getD t undef):Sem Value)
      | .cell a t=>do loadVar t (← asAddr (tmps.getD a undef))))=aC tmps:=by funext r;cases r<;>rfl
  rw[← this]
  rfl
theorem OC           {vars : List Tmp} {var : List AV} {tmps : Array Value} (hI : Inv P ρ s w) (hr : EA      ρ vars var tmps) : ∀ {rs : List ResultVar} {cr : List (CX × Option TypeId)} {l : List AV}, Cx          vars rs = some cr → Br       P s var cr = some l →
    ∃l':List Value,(rs.mapM (aC tmps)).run P w=.ok l' w∧AU ρ l l':=by
  intro rs
  induction rs with
  | nil=>intro cr l hc ha;injection hc with hc;subst hc;injection ha with ha;subst ha;exact⟨[],rfl,.nil⟩
  | cons r rs ih =>
    intro cr l hc ha
    cases r with
    | tmp t =>
      simp only[Cx,oE]at hc
      obtain⟨j,h1,cr',h2,h3⟩:=hc
      injection h3 with h3
      subst h3
      simp only[Br,oE]at ha
      obtain⟨l1,h4,h5⟩:=ha
      injection h5 with h5
      subst h5
      obtain⟨l',h6,h7⟩:=ih h2 h4
      obtain⟨h8,v,h9,h10⟩:=hr t j h1
      refine⟨tmps.getD t undef::l',?_,.cons ?_ h7⟩
      · rw[List.mapM_cons]
        simp[aC,Sem.run_bind,h6,Result.andThen]
      · simp only[cev];rw[N5 h9];exact h10
    | cell t ty =>
      simp only[Cx,oE]at hc
      obtain⟨j,h1,cr',h2,h3⟩:=hc
      injection h3 with h3
      subst h3
      simp only[Br,oE]at ha
      obtain⟨v,hv,l1,h4,h5⟩:=ha
      injection h5 with h5
      subst h5
      obtain⟨l',h6,h7⟩:=ih h2 h4
      obtain⟨h8,x,h9,h10⟩:=hr t j h1
      simp only[cev]at hv
      rw[N5 h9]at hv
      obtain⟨v',_,g2,ad,g3,g4⟩:=PM hI hv h10
      refine⟨v'::l',?_,.cons g2 h7⟩
      rw[List.mapM_cons]
      simp only[aC]
      rw[g3]
      simp[Sem.run_bind,h6,Result.andThen,asAddr,g4]
theorem Sr         {fn : Func} {vars : List Tmp} {var : List AV} {tmps : Array Value} (hI : Inv P ρ s w) (hr : EA      ρ vars var tmps) {cr : List (CX × Option TypeId)} {l : List AV}
    (hc:Cx vars fn.results.toList=some cr) (ha:Br P s var cr=some l):∃v,(results fn tmps).run P w=.ok v w∧Aa ρ (Bf l) v:=by
  obtain⟨l',h1,h2⟩:=OC hI hr hc ha
  refine⟨if h:l'.toArray.size=1 then l'.toArray[0]else .tuple l'.toArray,?_,?_⟩
  · rw[Sq,Array.mapM_eq_mapM_toList]
    simp[Sem.run_bind,h1,Result.andThen,Sem.run_map]
  · cases h2 with
    | nil=>simp[Bf];exact .tuple .nil
    | cons h hs =>
      cases hs with
      | nil=>simpa[Bf]using h
      | cons h' hs' =>
        simp[Bf]
        exact .tuple (.cons h (.cons h' hs'))
theorem OQ           {vars : List Tmp} : ∀ {ts : List Tmp} {vs : List AV} {vs' : List Value} {var var' : List AV} {tmps : Array Value}, DA        vars var ts vs = some var' → EA      ρ vars var tmps → var.length = vars.length → AU    ρ vs vs' →
    EA ρ vars var' ((ts.zip vs').foldl (fun tmps (p:Tmp×Value)=>tmps.setIfInBounds p.1 p.2) tmps)∧var'.length=vars.length∧((ts.zip vs').foldl (fun tmps (p:Tmp×Value)=>tmps.setIfInBounds p.1 p.2) tmps).size=tmps.size∧ts.length=vs'.length:=by
  intro ts
  induction ts with
  | nil =>
    intro vs vs' var var' tmps hz hr hl hv
    cases vs with
    | nil=>cases hv;injection hz with hz;subst hz;exact⟨hr,hl,rfl,rfl⟩
    | cons=>cases hz
  | cons t ts ih =>
    intro vs vs' var var' tmps hz hr hl hv
    cases vs with
    | nil=>cases hz
    | cons v vs =>
      cases hv with
      | cons h hs =>
        rename_i v' vs'
        simp only[DA,oE]at hz
        obtain⟨j,hj,hz⟩:=hz
        have hjl:j<var.length:=by rw[hl];exact E9 hj
        obtain⟨ht,_⟩:=hr t j hj
        have key:EA ρ vars (upd v var j) (tmps.setIfInBounds t v'):=by
          intro u k hk
          obtain⟨g1,x,g2,g3⟩:=hr u k hk
          refine⟨by simpa using g1,?_⟩
          by_cases e:u=t
          · subst e
            rw[hj]at hk
            injection hk with hk
            subst hk
            refine⟨v,by rw[JZ];simp[hjl],?_⟩
            simpa[Array.getD_eq_getD_getElem?,ht]using h
          · have ejk:j≠k:=fun e'=>by subst e';exact e (Jl hk hj)
            refine⟨x,by rw[JZ,List.getElem?_set_ne ejk];exact g2,?_⟩
            have:(tmps.setIfInBounds t v').getD u undef=tmps.getD u undef:=by
              simp[Array.getD_eq_getD_getElem?,Array.getElem?_setIfInBounds_ne (Ne.symm e)]
            rw[this]
            exact g3
        obtain⟨h1,h2,h3,h4⟩:=ih (tmps:=tmps.setIfInBounds t v') hz key (by rw[JZ,oO];exact hl) hs
        exact⟨h1,h2,by simpa using h3,by simpa using h4⟩
end
end
end Go.Proofs.Ytilhhmkdcoajnaa.Am
