/- What a call brings and leaves: slots, marks, results; conditions: none. -/
import Derived.Test.YtilhhmkdcoajnaaAmDraw4
set_option linter.unusedVariables false
set_option linter.unusedSimpArgs false
namespace Go.Proofs.Ytilhhmkdcoajnaa.Am
open Go
noncomputable section
section
variable{P:Program}{ρ ρ1 ρ2:Rho}{s s1 s2:ASt}{w w1 w2:World}
theorem stepR_scope{b:Frame}{a:Act}{k:List Item}{cs:List Frame}{c:Code}:step P (lone (b.atR a (.code (.scope c)::k)) cs w)=.next (lone (b.atR a (.code c::.inScope c::k)) cs w):=
  step_lone_go (by simp[stepG,stepG.exec,Frame.atR])
theorem stepR_inScope{b:Frame}{a:Act}{k:List Item}{cs:List Frame}{c:Code}:step P (lone (b.atR a (.inScope c::k)) cs w)=.next (lone (b.atR a k) cs w):=
  step_lone_go (by simp[stepG,stepG.exec,Frame.atR])
def noGotoQ(Q:Exit→Act→World→Prop):Exit→Act→World→Prop
  | .goto _,_,_=>False
  | e,a,w=>Q e a w
theorem wpIn_scope{F:Fence}{n:Nat}{Q:Exit→Act→World→Prop}{a:Act}{c:Code}(h:c.wpIn F n P (noGotoQ Q) a w):(Code.scope c).wpIn F n P Q a w:=by
  intro b k cs hro hb hr
  obtain⟨e,a₁,w₁,hq,harr⟩:=h b (.inScope c::k) cs hro hb hr
  have h1:StepsIn (Machine.fenced P F) P (lone (b.atR a (.code (.scope c)::k)) cs w) (lone (b.atR a (.code c::.inScope c::k)) cs w):=.one (fenced_calm hb hr rfl) stepR_scope
  cases e with
  | normal=>exact⟨.normal,a₁,w₁,hq,h1.trans (StepsIn.trans harr (.one (fenced_calm hb hr rfl) stepR_inScope))⟩
  | exit id=>exact⟨.exit id,a₁,w₁,hq,.of_steps h1 ⟨fun k' hk=>harr.1 k' (by simpa[exitTo]using hk),fun h2 hk=>harr.2 h2 (by simpa[exitTo]using hk)⟩⟩
  | goto l=>exact hq.elim
  | ret=>exact⟨.ret,a₁,w₁,hq,ArrivesIn.of_steps (k:=k) (e:=.ret) h1 harr⟩
  | panic ch=>exact⟨.panic ch,a₁,w₁,hq,ArrivesIn.of_steps (k:=k) (e:=.panic ch) h1 harr⟩
  | outgrown=>exact⟨.outgrown,a₁,w₁,hq,ArrivesIn.of_steps (k:=k) (e:=.outgrown) h1 harr⟩
structure VarsRel(P:Program)(ρ:Rho)(fn:Func)(var:List AV)(tmps:Array Value):Prop where
  len:var.length=(varsOf P fn).length
  rel:RegsRel ρ (varsOf P fn) var tmps
  size:fn.ntmps≤tmps.size
theorem VarsRel.mono{fn:Func}{var:List AV}{tmps:Array Value}(h:VarsRel P ρ fn var tmps)(le:ρ.le ρ1):VarsRel P ρ1 fn var tmps:=⟨h.len,h.rel.mono le,h.size⟩
def regsOf(vars:List Tmp)(var:List AV):Regs:=fun t=>(placeIn vars t).bind fun k=>var[k]?
theorem regsOf_crel{vars:List Tmp}{var:List AV}(h:var.length=vars.length):CRel vars ⟨[],0⟩ [] var (regsOf vars var):=by
  refine⟨h,fun t p e=>(by cases e),fun t x e=>(by cases e),?_⟩
  intro t x hx
  unfold slotX at hx
  simp only[lookT]at hx
  simp only[Option.bind_eq_some_iff]at hx
  obtain⟨j,h1,h2⟩:=hx
  injection h2 with h2
  subst h2
  have hj:j<var.length:=by rw[h];exact placeIn_lt h1
  simp only[regsOf,h1,Option.bind_some,relX,cev]
  rw[List.getElem?_eq_getElem hj,nth_of (List.getElem?_eq_getElem hj)]
theorem regsOf_rrel{fn:Func}{var:List AV}{tmps:Array Value}(h:VarsRel P ρ fn var tmps):RRel ρ (regsOf (varsOf P fn) var) tmps:=by
  intro t v hv
  simp only[regsOf,Option.bind_eq_some_iff]at hv
  obtain⟨k,h1,h2⟩:=hv
  obtain⟨h3,v',h4,h5⟩:=h.rel t k h1
  rw[h2]at h4
  injection h4 with h4
  subst h4
  exact⟨h3,h5⟩
theorem vars_back{fn:Func}{c:CSt}{loc var:List AV}{R:Regs}{tmps:Array Value}(hc:CRel (varsOf P fn) c loc var R)(hr:RRel ρ R tmps)(hs:fn.ntmps≤tmps.size):VarsRel P ρ fn var tmps:=by
  refine⟨hc.vlen,?_,hs⟩
  intro t k hk
  have hl:lookT c.map t=none:=by
    cases h:lookT c.map t with
    | none=>rfl
    | some x=>have:=hc.keys t x h;rw[hk]at this;cases this
  have hx:slotX (varsOf P fn) c t=some (.var k):=by unfold slotX;rw[hl,hk];rfl
  have hv:=hc.val t _ hx
  have hj:k<var.length:=by rw[hc.vlen];exact placeIn_lt hk
  obtain⟨h1,h2⟩:=hr t _ hv
  refine⟨h1,_,List.getElem?_eq_getElem hj,?_⟩
  have e:nth var k=var[k]:=nth_of (List.getElem?_eq_getElem hj)
  simp only[relX,cev,e]at h2
  exact h2
theorem opnd_rel{fn:Func}{var:List AV}{a:Act}(h:VarsRel P ρ fn var a.tmps){o:Operand}{x:CX}(hx:opndX (varsOf P fn) ⟨[],0⟩ o=some x):VRel ρ (cev [] var x) (a.eval o):=by
  have hc:=regsOf_crel h.len
  have:=opnd_val hc hx
  have e:relX 0 x=x:=by
    cases x with
    | loc p=>exact absurd (opnd_bnd hc hx p rfl) (Nat.not_lt_zero _)
    | _=>rfl
  rw[e]at this
  exact rEval_ok (regsOf_rrel h) this
theorem padV_length:∀ (n:Nat)(l:List AV),(Ql l n).length=n
  | 0,_=>rfl
  | n+1,[]=>by simp[Ql,padV_length n]
  | n+1,_::l=>by simp[Ql,padV_length n]
theorem padV_get:∀ (n:Nat)(l:List AV)(k:Nat),k<n→(Ql l n)[k]? = some (l.getD k undefA)
  | 0,_,k,h=>by omega
  | n+1,[],k,h=>by
    cases k with
    | zero=>rfl
    | succ k=>simpa[Ql]using padV_get n [] k (by omega)
  | n+1,a::l,k,h=>by
    cases k with
    | zero=>rfl
    | succ k=>simpa[Ql]using padV_get n l k (by omega)
theorem bitsFrom_mem(m:Nat):∀ (n k x:Nat),x∈bitsFrom m n k→k≤x∧x<k+n
  | 0,k,x,h=>by cases h
  | n+1,k,x,h=>by
    unfold bitsFrom at h
    cases hb:m.testBit k with
    | true =>
      rw[hb]at h
      simp only[cond_true]at h
      rcases List.mem_cons.1 h with rfl | h
      · omega
      · have:=bitsFrom_mem m n (k+1) x h;omega
    | false =>
      rw[hb]at h
      simp only[cond_false]at h
      have:=bitsFrom_mem m n (k+1) x h;omega
theorem vars_in {fn : Func} {as : List AV} {as' : Array Value} (ha : VRels ρ as as'.toList) (hn : as.length = argsOf fn) (hle : argsOf fn ≤ fn.ntmps) :
    VarsRel P ρ fn (Ql as (varsOf P fn).length) (as'++Array.replicate (fn.ntmps - as'.size) undef):=by
  have hsz:as'.size=argsOf fn:=by have:=ha.length;simp at this;omega
  refine⟨padV_length _ _,?_,by simp;omega⟩
  intro t k hk
  have hg:=placeIn_get hk
  have hlt:=placeIn_lt hk
  refine⟨?_,_,padV_get _ _ k hlt,?_⟩
  all_goals unfold varsOf at hg
  · have hm:t∈(List.range (argsOf fn)++match fn.body with
        | none=>[]
        | some c=>bitsFrom (Nat.lor (exposed P c) (resultBits fn.results.toList)) (fn.ntmps - argsOf fn) (argsOf fn)):=List.mem_of_getElem? hg
    rcases List.mem_append.1 hm with h | h
    · have h9:(t:Nat)<argsOf fn:=List.mem_range.1 h
      rw[Array.size_append,Array.size_replicate]
      exact Nat.lt_of_lt_of_le h9 (by omega)
    · cases hb:fn.body with
      | none=>rw[hb]at h;cases h
      | some c =>
        rw[hb]at h
        have h9:=(bitsFrom_mem _ _ _ _ h).2
        rw[Array.size_append,Array.size_replicate]
        exact Nat.lt_of_lt_of_le h9 (by omega)
  · by_cases hka : k < argsOf fn
    · rw [List.getElem?_append_left (by simpa using hka)] at hg
      rw[List.getElem?_range hka]at hg
      injection hg with hg
      subst hg
      obtain⟨v',h1,h2⟩:=ha.get (k:=k) (v:=as[k]'(by omega)) (List.getElem?_eq_getElem (by omega))
      have e1:as.getD k undefA=as[k]'(by omega):=by simp[show k<as.length by omega]
      have e2:(as'++Array.replicate (fn.ntmps - as'.size) undef).getD k undef=v':=by
        have h1':as'[k]? = some v':=by simpa using h1
        have hk':k<as'.size:=by omega
        simp[Array.getD_eq_getD_getElem?,Array.getElem?_append_left hk',h1']
      rw[e1,e2]
      exact h2
    · rw[List.getElem?_append_right (by simpa using hka)]at hg
      have ht:argsOf fn≤t:=by
        cases hb:fn.body with
        | none=>rw[hb]at hg;simp at hg
        | some c=>rw[hb]at hg;exact(bitsFrom_mem _ _ _ _ (List.mem_of_getElem? hg)).1
      have e1:as.getD k undefA=undefA:=by simp[show as.length≤k by omega]
      have e2:(as'++Array.replicate (fn.ntmps - as'.size) undef).getD t undef=undef:=by
        rw[Array.getD_eq_getD_getElem?,Array.getElem?_append_right (by omega),Array.getElem?_replicate]
        split<;>rfl
      rw[e1,e2]
      exact undef_rel ρ
def MarksRel(ρ:Rho):List Nat→List Deferred→Prop
  | [],ds=>ds=[]
  | i::l,ds=>∃rb ds',ρ i=some rb∧ds={ target:=.collected rb.b,args:=#[] }::ds'∧MarksRel ρ l ds'
theorem MarksRel.mono:∀ {l:List Nat}{ds:List Deferred},MarksRel ρ l ds→ρ.le ρ1→MarksRel ρ1 l ds
  | [],_,h,_=>h
  | _::_,_,⟨rb,ds',h1,h2,h3⟩,le=>⟨rb,ds',le _ _ h1,h2,MarksRel.mono h3 le⟩
theorem Inv.unmark1(h:Inv P ρ s w){i:Nat}{rb:RB}(hg:s.heap.get i=some .mark)(hr:ρ i=some rb):
    Inv P ρ (delObj s i) (w.putObj rb.b (.deferred none))∧Fr ρ s w ρ (delObj s i) (w.putObj rb.b (.deferred none)):=by
  let o1:AObj:=.row { elem:=default,sz:=rb.sz,n:=0,c:=.leaf,spare:=true,mode:=.ro,par:=none,bytes:=false }
  have ho:ObjOk P ρ (w.putObj rb.b (.deferred none)) o1 rb:=
    ⟨fun k v hk=>absurd hk (Nat.not_lt_zero k),Nat.zero_le _,rfl,(fun e=>by cases e),fun e=>absurd rfl e,fun p e=>by cases e⟩
  obtain⟨h1,h2⟩:=h.set (w1:=w.putObj rb.b (.deferred none)) (o1:=o1) hg hr rfl (fun p e=>by cases e) rfl World.putObj_size (fun b hb=>World.putObj_heap_other hb) rfl rfl rfl ho
  obtain⟨h3,h4⟩:=h1.del hr
  have e:∀x,(delObj (setObj s i o1) i).heap.get x=(delObj s i).heap.get x:=by
    intro x
    rw[get_delObj,get_delObj,get_setObj]
    by_cases h':x=i
    · simp[h']
    · simp[h']
  have h5:=h2.trans h4
  refine⟨h3.same fun x _ _=>(e x).symm,⟨h5.le,h5.fresh,h5.next,h5.size,h5.os,h5.tape,h5.output,h5.keep,fun b hb=>h5.own b (hb.same fun x _ _=>(e x).symm),fun x hx hy=>(e x).symm.trans (h5.unborn x hx hy)⟩⟩
theorem leaves_marks{fn:Func}{tmps:Array Value}{R:Ending→World→Prop}:∀ {marks:List Nat}{ds:List Deferred}{s s':ASt}{w:World},MarksRel ρ marks ds→unmark s marks=some s'→Inv P ρ s w →
    (∀w',Inv P ρ s' w'→Fr ρ s w ρ s' w'→∃v,(results fn tmps).run P w'=.ok v w'∧R (.returned v) w')→LeavesInM Fence.wide 0 P fn tmps R ds .returning w:=by
  intro marks
  induction marks with
  | nil =>
    intro ds s s' w hm hu hi hk
    have hm:ds=[]:=hm
    subst hm
    injection hu with hu
    subst hu
    exact hk w hi (Fr.refl _ _ _)
  | cons i l ih =>
    intro ds s s' w hm hu hi hk
    obtain⟨rb,ds',h1,rfl,h3⟩:=hm
    unfold unmark at hu
    split at hu
    · rename_i hg
      obtain⟨h4,h5⟩:=hi.unmark1 hg h1
      have hb:w.heap[rb.b]? = some (.deferred (some [])):=hi.obj i _ rb hg h1
      refine⟨by simp,.inl ⟨rb.b,_,rfl,run_takeDeferred hb,?_⟩⟩
      exact ih h3 hu h4 fun w' g1 g2=>hk w' g1 (h5.trans g2)
    · cases hu
def resF(tmps:Array Value):ResultVar→Sem Value
  | .tmp t=>Pure.pure (tmps.getD t undef)
  | .cell a t=>do loadVar t (← asAddr (tmps.getD a undef))
theorem results_eq(fn:Func)(tmps:Array Value):results fn tmps=(do
    let vs ← fn.results.mapM (resF tmps)
    Pure.pure (if h:vs.size=1 then vs[0]else .tuple vs)):=by
  have:(fun r:ResultVar=>(match r with
      | .tmp t=>(Pure.pure (tmps.getD t undef):Sem Value)
      | .cell a t=>do loadVar t (← asAddr (tmps.getD a undef))))=resF tmps:=by funext r;cases r<;>rfl
  rw[← this]
  rfl
theorem results_list {vars : List Tmp} {var : List AV} {tmps : Array Value} (hI : Inv P ρ s w) (hr : RegsRel ρ vars var tmps) : ∀ {rs : List ResultVar} {cr : List (CX × Option TypeId)} {l : List AV}, compResults vars rs = some cr → resultsA P s var cr = some l →
    ∃l':List Value,(rs.mapM (resF tmps)).run P w=.ok l' w∧VRels ρ l l':=by
  intro rs
  induction rs with
  | nil=>intro cr l hc ha;injection hc with hc;subst hc;injection ha with ha;subst ha;exact⟨[],rfl,.nil⟩
  | cons r rs ih =>
    intro cr l hc ha
    cases r with
    | tmp t =>
      simp only[compResults,Option.bind_eq_some_iff]at hc
      obtain⟨j,h1,cr',h2,h3⟩:=hc
      injection h3 with h3
      subst h3
      simp only[resultsA,Option.bind_eq_some_iff]at ha
      obtain⟨l1,h4,h5⟩:=ha
      injection h5 with h5
      subst h5
      obtain⟨l',h6,h7⟩:=ih h2 h4
      obtain⟨h8,v,h9,h10⟩:=hr t j h1
      refine⟨tmps.getD t undef::l',?_,.cons ?_ h7⟩
      · rw[List.mapM_cons]
        simp[resF,Sem.run_bind,h6,Result.andThen]
      · simp only[cev];rw[nth_of h9];exact h10
    | cell t ty =>
      simp only[compResults,Option.bind_eq_some_iff]at hc
      obtain⟨j,h1,cr',h2,h3⟩:=hc
      injection h3 with h3
      subst h3
      simp only[resultsA,Option.bind_eq_some_iff]at ha
      obtain⟨v,hv,l1,h4,h5⟩:=ha
      injection h5 with h5
      subst h5
      obtain⟨l',h6,h7⟩:=ih h2 h4
      obtain⟨h8,x,h9,h10⟩:=hr t j h1
      simp only[cev]at hv
      rw[nth_of h9]at hv
      obtain⟨v',_,g2,ad,g3,g4⟩:=loadV_ok hI hv h10
      refine⟨v'::l',?_,.cons g2 h7⟩
      rw[List.mapM_cons]
      simp only[resF]
      rw[g3]
      simp[Sem.run_bind,h6,Result.andThen,asAddr,g4]
theorem results_ok {fn : Func} {vars : List Tmp} {var : List AV} {tmps : Array Value} (hI : Inv P ρ s w) (hr : RegsRel ρ vars var tmps) {cr : List (CX × Option TypeId)} {l : List AV}
    (hc:compResults vars fn.results.toList=some cr) (ha:resultsA P s var cr=some l):∃v,(results fn tmps).run P w=.ok v w∧VRel ρ (oneOrTuple l) v:=by
  obtain⟨l',h1,h2⟩:=results_list hI hr hc ha
  refine⟨if h:l'.toArray.size=1 then l'.toArray[0]else .tuple l'.toArray,?_,?_⟩
  · rw[results_eq,Array.mapM_eq_mapM_toList]
    simp[Sem.run_bind,h1,Result.andThen,Sem.run_map]
  · cases h2 with
    | nil=>simp[oneOrTuple];exact .tuple .nil
    | cons h hs =>
      cases hs with
      | nil=>simpa[oneOrTuple]using h
      | cons h' hs' =>
        simp[oneOrTuple]
        exact .tuple (.cons h (.cons h' hs'))
theorem zipParams_ok {vars : List Tmp} : ∀ {ts : List Tmp} {vs : List AV} {vs' : List Value} {var var' : List AV} {tmps : Array Value}, zipParams vars var ts vs = some var' → RegsRel ρ vars var tmps → var.length = vars.length → VRels ρ vs vs' →
    RegsRel ρ vars var' ((ts.zip vs').foldl (fun tmps (p:Tmp×Value)=>tmps.setIfInBounds p.1 p.2) tmps)∧var'.length=vars.length∧((ts.zip vs').foldl (fun tmps (p:Tmp×Value)=>tmps.setIfInBounds p.1 p.2) tmps).size=tmps.size∧ts.length=vs'.length:=by
  intro ts
  induction ts with
  | nil =>
    intro vs vs' var var' tmps hz hr hl hv
    cases vs with
    | nil=>cases hv;injection hz with hz;subst hz;exact⟨hr,hl,rfl,rfl⟩
    | cons=>cases hz
  | cons t ts ih =>
    intro vs vs' var var' tmps hz hr hl hv
    cases vs with
    | nil=>cases hz
    | cons v vs =>
      cases hv with
      | cons h hs =>
        rename_i v' vs'
        simp only[zipParams,Option.bind_eq_some_iff]at hz
        obtain⟨j,hj,hz⟩:=hz
        have hjl:j<var.length:=by rw[hl];exact placeIn_lt hj
        obtain⟨ht,_⟩:=hr t j hj
        have key:RegsRel ρ vars (upd v var j) (tmps.setIfInBounds t v'):=by
          intro u k hk
          obtain⟨g1,x,g2,g3⟩:=hr u k hk
          refine⟨by simpa using g1,?_⟩
          by_cases e:u=t
          · subst e
            rw[hj]at hk
            injection hk with hk
            subst hk
            refine⟨v,by rw[upd_eq];simp[hjl],?_⟩
            simpa[Array.getD_eq_getD_getElem?,ht]using h
          · have ejk:j≠k:=fun e'=>by subst e';exact e (placeIn_inj hk hj)
            refine⟨x,by rw[upd_eq,List.getElem?_set_ne ejk];exact g2,?_⟩
            have:(tmps.setIfInBounds t v').getD u undef=tmps.getD u undef:=by
              simp[Array.getD_eq_getD_getElem?,Array.getElem?_setIfInBounds_ne (Ne.symm e)]
            rw[this]
            exact g3
        obtain⟨h1,h2,h3,h4⟩:=ih (tmps:=tmps.setIfInBounds t v') hz key (by rw[upd_eq,List.length_set];exact hl) hs
        exact⟨h1,h2,by simpa using h3,by simpa using h4⟩
end
end
end Go.Proofs.Ytilhhmkdcoajnaa.Am
