/- What a call brings and leaves: slots, marks, results; conditions: none. -/
import Derived.Test.YtoaaclpjkelofaaGreatDoorAmM03
import Derived.LoopNIn
import Derived.Maps.RangeRun
import Derived.Test.YtoaaclpjkelofaaGreatDoorAmM02
import Derived.Test.YtoaaclpjkelofaaGreatDoorProg
import Derived.Shelf.Strings.OnBuilder
import Derived.Shelf.Strings.Trim
import Derived.Shelf.Strconv.Itoa3
set_option linter.unusedVariables false
set_option linter.unusedSimpArgs false
namespace Go.Proofs.YtoaaclpjkelofaaGreatDoor.Am
open Go
noncomputable section
section
variable{P:Program}{ρ ρ1 ρ2:A5}{s s1 s2:AD}{w w1 w2:World}
theorem Tm{b:Frame}{a:Act}{k:List Item}{cs:List Frame}{c:Code}:step P (lone (b.atR a (.code (.scope c)::k)) cs w)=.next (lone (b.atR a (.code c::.inScope c::k)) cs w):=
 step_lone_go (by simp[stepG,stepG.exec,Frame.atR])
theorem OX{b:Frame}{a:Act}{k:List Item}{cs:List Frame}{c:Code}:step P (lone (b.atR a (.inScope c::k)) cs w)=.next (lone (b.atR a k) cs w):=
 step_lone_go (by simp[stepG,stepG.exec,Frame.atR])
def kj(Q:Exit→Act→World→Prop):Exit→Act→World→Prop
 | .goto _,_,_=>False
 | e,a,w=>Q e a w
theorem Vu{F:Fence}{n:Nat}{Q:Exit→Act→World→Prop}{a:Act}{c:Code}(h:c.wpIn F n P (kj Q) a w):(Code.scope c).wpIn F n P Q a w:=by
 intro b k cs hro hb hr
 obtain⟨e,a₁,w₁,hq,harr⟩:=h b (.inScope c::k) cs hro hb hr
 have h1:StepsIn (Machine.fenced P F) P (lone (b.atR a (.code (.scope c)::k)) cs w) (lone (b.atR a (.code c::.inScope c::k)) cs w):=.one (fenced_calm hb hr rfl) Tm
 cases e with
 | normal=>exact⟨.normal,a₁,w₁,hq,h1.trans (StepsIn.trans harr (.one (fenced_calm hb hr rfl) OX))⟩
 | exit id=>exact⟨.exit id,a₁,w₁,hq,.of_steps h1 ⟨fun k' hk=>harr.1 k' (by simpa[exitTo]using hk),fun h2 hk=>harr.2 h2 (by simpa[exitTo]using hk)⟩⟩
 | goto l=>exact hq.elim
 | ret=>exact⟨.ret,a₁,w₁,hq,ArrivesIn.of_steps (k:=k) (e:=.ret) h1 harr⟩
 | panic ch=>exact⟨.panic ch,a₁,w₁,hq,ArrivesIn.of_steps (k:=k) (e:=.panic ch) h1 harr⟩
 | outgrown=>exact⟨.outgrown,a₁,w₁,hq,ArrivesIn.of_steps (k:=k) (e:=.outgrown) h1 harr⟩
structure Ao(P:Program)(ρ:A5)(fn:Func)(var:List AV)(tmps:Array Value):Prop where
 len:var.length=(Ad P fn).length
 rel:ED ρ (Ad P fn) var tmps
 size:fn.ntmps≤tmps.size
theorem Ao.mono{fn:Func}{var:List AV}{tmps:Array Value}(h:Ao P ρ fn var tmps)(le:ρ.le ρ1):Ao P ρ1 fn var tmps:=⟨h.len,h.rel.mono le,h.size⟩
def Kh(vars:List Tmp)(var:List AV):Bw:=fun t=>(Aq vars t).bind fun k=>var[k]?
theorem Lf{vars:List Tmp}{var:List AV}(h:var.length=vars.length):EQ vars ⟨[],0⟩ [] var (Kh vars var):=by
 refine⟨h,fun t p e=>(by cases e),fun t x e=>(by cases e),?_⟩
 intro t x hx
 unfold Ej at hx
 simp only[Eg]at hx
 simp only[tH]at hx
 obtain⟨j,h1,h2⟩:=hx
 injection h2 with h2
 subst h2
 have hj:j<var.length:=by rw[h];exact Cw h1
 simp only[Kh,h1,Option.bind_some,CF,Cc]
 rw[tQ hj,Kd (tQ hj)]
theorem HC{fn:Func}{var:List AV}{tmps:Array Value}(h:Ao P ρ fn var tmps):E5 ρ (Kh (Ad P fn) var) tmps:=by
 intro t v hv
 simp only[Kh,tH]at hv
 obtain⟨k,h1,h2⟩:=hv
 obtain⟨h3,v',h4,h5⟩:=h.rel t k h1
 rw[h2]at h4
 injection h4 with h4
 subst h4
 exact⟨h3,h5⟩
theorem Zg{fn:Func}{c:iz}{loc var:List AV}{R:Bw}{tmps:Array Value}(hc:EQ (Ad P fn) c loc var R)(hr:E5 ρ R tmps)(hs:fn.ntmps≤tmps.size):Ao P ρ fn var tmps:=by
 refine⟨hc.vlen,?_,hs⟩
 intro t k hk
 have hl:Eg c.map t=none:=by
  cases h:Eg c.map t with
  | none=>rfl
  | some x=>have:=hc.keys t x h;rw[hk]at this;cases this
 have hx:Ej (Ad P fn) c t=some (.var k):=by unfold Ej;rw[hl,hk];rfl
 have hv:=hc.val t _ hx
 have hj:k<var.length:=by rw[hc.vlen];exact Cw hk
 obtain⟨h1,h2⟩:=hr t _ hv
 refine⟨h1,_,tQ hj,?_⟩
 have e:LV var k=var[k]:=Kd (tQ hj)
 simp only[CF,Cc,e]at h2
 exact h2
theorem NV{fn:Func}{var:List AV}{a:Act}(h:Ao P ρ fn var a.tmps){o:Operand}{x:CX}(hx:Eh (Ad P fn) ⟨[],0⟩ o=some x):AM ρ (Cc [] var x) (a.eval o):=by
 have hc:=Lf h.len
 have:=NX hc hx
 have e:CF 0 x=x:=by
  cases x with
  | loc p=>exact absurd (NU hc hx p rfl) (Nat.not_lt_zero _)
  | _=>rfl
 rw[e]at this
 exact TS (HC h) this
theorem G8:∀ (n:Nat)(l:List AV),(Ql l n).length=n
 | 0,_=>rfl
 | n+1,[]=>by simp[Ql,G8 n]
 | n+1,_::l=>by simp[Ql,G8 n]
theorem Na:∀ (n:Nat)(l:List AV)(k:Nat),k<n→(Ql l n)[k]? = some (l.getD k Bo)
 | 0,_,k,h=>by omega
 | n+1,[],k,h=>by
  cases k with
  | zero=>rfl
  | succ k=>simpa[Ql]using Na n [] k (by omega)
 | n+1,a::l,k,h=>by
  cases k with
  | zero=>rfl
  | succ k=>simpa[Ql]using Na n l k (by omega)
theorem Em(m:Nat):∀ (n k x:Nat),x∈Fl m n k→k≤x∧x<k+n
 | 0,k,x,h=>by cases h
 | n+1,k,x,h=>by
  unfold Fl at h
  cases hb:m.testBit k with
  | true =>
   rw[hb]at h
   simp only[cond_true]at h
   rcases uT.1 h with rfl | h
   ·omega
   ·have:=Em m n (k+1) x h;omega
  | false =>
   rw[hb]at h
   simp only[cond_false]at h
   have:=Em m n (k+1) x h;omega
theorem lT      {fn : Func} {aS : List AV} {as' : Array Value} (ha : AJ    ρ aS as'.toList) (hn : aS.length = Ct     fn) (hle : Ct     fn ≤ fn.ntmps) :
    Ao P ρ fn (Ql aS (Ad P fn).length) (as'++Array.replicate (fn.ntmps - as'.size) undef):=by
  have hsz:as'.size=Ct fn:=by have:=ha.length;simp at this;omega
  refine⟨G8 _ _,?_,by simp;omega⟩
  intro t k hk
  have hg:=FW hk
  have hlt:=Cw hk
  refine⟨?_,_,Na _ _ k hlt,?_⟩
  all_goals unfold Ad at hg
  · have hm:t∈(List.range (Ct fn)++match fn.body with
        | none=>[]
        | some c=>Fl (Nat.lor (Eo P c) (Ie fn.results.toList)) (fn.ntmps - Ct fn) (Ct fn)):=tf hg
    rcases uu.1 hm with h | h
    · have h9:(t:Nat)<Ct fn:=List.mem_range.1 h
      rw[Array.size_append,Array.size_replicate]
      exact tO h9 (by omega)
    · cases hb:fn.body with
      | none=>rw[hb]at h;cases h
      | some c =>
        rw[hb]at h
        have h9:=(Em _ _ _ _ h).2
        rw[Array.size_append,Array.size_replicate]
        exact tO h9 (by omega)
  · by_cases hka : k < Ct     fn
    · rw [uB                        (by simpa using hka)] at hg
      rw[List.getElem?_range hka]at hg
      injection hg with hg
      subst hg
      obtain⟨v',h1,h2⟩:=ha.get (k:=k) (v:=aS[k]'(by omega)) (tQ (by omega))
      have e1:aS.getD k Bo=aS[k]'(by omega):=by simp[show k<aS.length by omega]
      have e2:(as'++Array.replicate (fn.ntmps - as'.size) undef).getD k undef=v':=by
        have h1':as'[k]? = some v':=by simpa using h1
        have hk':k<as'.size:=by omega
        simp[Array.getD_eq_getD_getElem?,Array.getElem?_append_left hk',h1']
      rw[e1,e2]
      exact h2
    · rw[uC (by simpa using hka)]at hg
      have ht:Ct fn≤t:=by
        cases hb:fn.body with
        | none=>rw[hb]at hg;simp at hg
        | some c=>rw[hb]at hg;exact(Em _ _ _ _ (tf hg)).1
      have e1:aS.getD k Bo=Bo:=by simp[show aS.length≤k by omega]
      have e2:(as'++Array.replicate (fn.ntmps - as'.size) undef).getD t undef=undef:=by
        rw[Array.getD_eq_getD_getElem?,Array.getElem?_append_right (by omega),Array.getElem?_replicate]
        split<;>rfl
      rw[e1,e2]
      exact DC ρ
def BV(ρ:A5):List Nat→List Deferred→Prop
 | [],ds=>ds=[]
 | i::l,ds=>∃rb ds',ρ i=some rb∧ds={ target:=.collected rb.b,args:=#[] }::ds'∧BV ρ l ds'
theorem BV.mono:∀ {l:List Nat}{ds:List Deferred},BV ρ l ds→ρ.le ρ1→BV ρ1 l ds
 | [],_,h,_=>h
 | _::_,_,⟨rb,ds',h1,h2,h3⟩,le=>⟨rb,ds',le _ _ h1,h2,BV.mono h3 le⟩
theorem As.unmark1(h:As P ρ s w){i:Nat}{rb:RB}(hg:s.heap.get i=some .mark)(hr:ρ i=some rb):
  As P ρ (Bx s i) (w.putObj rb.b (.deferred none))∧Fr ρ s w ρ (Bx s i) (w.putObj rb.b (.deferred none)):=by
 let o1:AI:=.row { elem:=default,sz:=rb.sz,n:=0,c:=.leaf,spare:=true,mode:=.ro,par:=none,bytes:=false }
 have ho:DK P ρ (w.putObj rb.b (.deferred none)) o1 rb:=
  ⟨fun k v hk=>absurd hk (Nat.not_lt_zero k),tV _,rfl,(fun e=>by cases e),fun e=>absurd rfl e,(fun e=>by cases e),(fun g e=>by cases e),fun p e=>by cases e⟩
 obtain⟨h1,h2⟩:=h.set (w1:=w.putObj rb.b (.deferred none)) (o1:=o1) hg hr rfl (fun p e=>by cases e) rfl World.putObj_size (fun b hb=>World.putObj_heap_other hb) rfl rfl rfl ho
 obtain⟨h3,h4⟩:=h1.del hr
 have e:∀x,(Bx (setObj s i o1) i).heap.get x=(Bx s i).heap.get x:=by
  intro x
  rw[BA,BA,BJ]
  by_cases h':x=i
  ·simp[h']
  ·simp[h']
 have h5:=h2.trans h4
 refine⟨h3.same (fun x _ _=>(e x).symm) fun j o g hj hgo=>h3.glb j o g (by rw[e j];exact hj) hgo,⟨h5.le,h5.fresh,h5.next,h5.size,h5.os,h5.tape,h5.output,h5.keep,fun b hb=>h5.own b (hb.same fun x _ _=>(e x).symm),fun x hx hy=>(e x).symm.trans (h5.unborn x hx hy),h5.blk,fun x o r hx hr=>h5.dom x o r (by rw[e x];exact hx) hr⟩⟩
theorem Q8{fn:Func}{tmps:Array Value}{R:Ending→World→Prop}:∀ {marks:List Nat}{ds:List Deferred}{s s':AD}{w:World},BV ρ marks ds→DS s marks=some s'→As P ρ s w →
  (∀w',As P ρ s' w'→Fr ρ s w ρ s' w'→∃v,(results fn tmps).run P w'=.ok v w'∧R (.returned v) w')→LeavesInM Fence.wide 0 P fn tmps R ds .returning w:=by
 intro marks
 induction marks with
 | nil =>
  intro ds s s' w hm hu hi hk
  have hm:ds=[]:=hm
  subst hm
  injection hu with hu
  subst hu
  exact hk w hi (Fr.refl _ _ _)
 | cons i l ih =>
  intro ds s s' w hm hu hi hk
  obtain⟨rb,ds',h1,rfl,h3⟩:=hm
  unfold DS at hu
  split at hu
  ·rename_i hg
   obtain⟨h4,h5⟩:=hi.unmark1 hg h1
   have hb:w.heap[rb.b]? = some (.deferred (some [])):=hi.obj i _ rb hg h1
   refine⟨by simp,.inl ⟨rb.b,_,rfl,run_takeDeferred hb,?_⟩⟩
   exact ih h3 hu h4 fun w' g1 g2=>hk w' g1 (h5.trans g2)
  ·cases hu
def iB(tmps:Array Value):ResultVar→Sem Value
 | .tmp t=>Pure.pure (tmps.getD t undef)
 | .cell a t=>do loadVar t (← asAddr (tmps.getD a undef))
theorem VW(fn:Func)(tmps:Array Value):results fn tmps=(do
  let vs ← fn.results.mapM (iB tmps)
  Pure.pure (if h:vs.size=1 then vs[0]else .tuple vs)):=by
 have:(fun r:ResultVar=>(match r with
   | .tmp t=>(Pure.pure (tmps.getD t undef):Sem Value)
   | .cell a t=>do loadVar t (← asAddr (tmps.getD a undef))))=iB tmps:=by funext r;cases r<;>rfl
 rw[← this]
 rfl
theorem RT           {vars : List Tmp} {var : List AV} {tmps : Array Value} (hI : As  P ρ s w) (hr : ED      ρ vars var tmps) : ∀ {rs : List ResultVar} {cr : List (CX × Option TypeId)} {l : List AV}, CV          vars rs = some cr → Bg       P s var cr = some l →
    ∃l':List Value,(rs.mapM (iB tmps)).run P w=.ok l' w∧AJ ρ l l':=by
  intro rs
  induction rs with
  | nil=>intro cr l hc ha;injection hc with hc;subst hc;injection ha with ha;subst ha;exact⟨[],rfl,.nil⟩
  | cons r rs ih =>
    intro cr l hc ha
    cases r with
    | tmp t =>
      simp only[CV,tH]at hc
      obtain⟨j,h1,cr',h2,h3⟩:=hc
      injection h3 with h3
      subst h3
      simp only[Bg,tH]at ha
      obtain⟨l1,h4,h5⟩:=ha
      injection h5 with h5
      subst h5
      obtain⟨l',h6,h7⟩:=ih h2 h4
      obtain⟨h8,v,h9,h10⟩:=hr t j h1
      refine⟨tmps.getD t undef::l',?_,.cons ?_ h7⟩
      · rw[List.mapM_cons]
        simp[iB,h6,Result.andThen]
      · simp only[Cc];rw[Kd h9];exact h10
    | cell t ty =>
      simp only[CV,tH]at hc
      obtain⟨j,h1,cr',h2,h3⟩:=hc
      injection h3 with h3
      subst h3
      simp only[Bg,tH]at ha
      obtain⟨v,hv,l1,h4,h5⟩:=ha
      injection h5 with h5
      subst h5
      obtain⟨l',h6,h7⟩:=ih h2 h4
      obtain⟨h8,x,h9,h10⟩:=hr t j h1
      simp only[Cc]at hv
      rw[Kd h9]at hv
      obtain⟨v',_,g2,ad,g3,g4⟩:=NH hI hv h10
      refine⟨v'::l',?_,.cons g2 h7⟩
      rw[List.mapM_cons]
      simp only[iB]
      rw[g3]
      simp[Sem.run_bind,h6,Result.andThen,asAddr,g4]
theorem VX         {fn : Func} {vars : List Tmp} {var : List AV} {tmps : Array Value} (hI : As  P ρ s w) (hr : ED      ρ vars var tmps) {cr : List (CX × Option TypeId)} {l : List AV}
    (hc:CV vars fn.results.toList=some cr) (ha:Bg P s var cr=some l):∃v,(results fn tmps).run P w=.ok v w∧AM ρ (BP l) v:=by
  obtain⟨l',h1,h2⟩:=RT hI hr hc ha
  refine⟨if h:l'.toArray.size=1 then l'.toArray[0]else .tuple l'.toArray,?_,?_⟩
  · rw[VW,Array.mapM_eq_mapM_toList]
    simp[h1,Result.andThen,Sem.run_map]
  · cases h2 with
    | nil=>simp[BP];exact .tuple .nil
    | cons h hs =>
      cases hs with
      | nil=>simpa[BP]using h
      | cons h' hs' =>
        simp[BP]
        exact .tuple (.cons h (.cons h' hs'))
theorem R5           {vars : List Tmp} : ∀ {ts : List Tmp} {vs : List AV} {vs' : List Value} {var var' : List AV} {tmps : Array Value}, EA        vars var ts vs = some var' → ED      ρ vars var tmps → var.length = vars.length → AJ    ρ vs vs' →
    ED ρ vars var' ((ts.zip vs').foldl (fun tmps (p:Tmp×Value)=>tmps.setIfInBounds p.1 p.2) tmps)∧var'.length=vars.length∧((ts.zip vs').foldl (fun tmps (p:Tmp×Value)=>tmps.setIfInBounds p.1 p.2) tmps).size=tmps.size∧ts.length=vs'.length:=by
  intro ts
  induction ts with
  | nil =>
    intro vs vs' var var' tmps hz hr hl hv
    cases vs with
    | nil=>cases hv;injection hz with hz;subst hz;exact⟨hr,hl,rfl,rfl⟩
    | cons=>cases hz
  | cons t ts ih =>
    intro vs vs' var var' tmps hz hr hl hv
    cases vs with
    | nil=>cases hz
    | cons v vs =>
      cases hv with
      | cons h hs =>
        rename_i v' vs'
        simp only[EA,tH]at hz
        obtain⟨j,hj,hz⟩:=hz
        have hjl:j<var.length:=by rw[hl];exact Cw hj
        obtain⟨ht,_⟩:=hr t j hj
        have key:ED ρ vars (F4 v var j) (tmps.setIfInBounds t v'):=by
          intro u k hk
          obtain⟨g1,x,g2,g3⟩:=hr u k hk
          refine⟨by simpa using g1,?_⟩
          by_cases e:u=t
          · subst e
            rw[hj]at hk
            injection hk with hk
            subst hk
            refine⟨v,by rw[Eb];simp[hjl],?_⟩
            simpa[Array.getD_eq_getD_getElem?,ht]using h
          · have ejk:j≠k:=fun e'=>by subst e';exact e (HA hk hj)
            refine⟨x,by rw[Eb,uU ejk];exact g2,?_⟩
            have:(tmps.setIfInBounds t v').getD u undef=tmps.getD u undef:=by
              simp[Array.getD_eq_getD_getElem?,Array.getElem?_setIfInBounds_ne (Ne.symm e)]
            rw[this]
            exact g3
        obtain⟨h1,h2,h3,h4⟩:=ih (tmps:=tmps.setIfInBounds t v') hz key (by rw[Eb,ub];exact hl) hs
        exact⟨h1,h2,by simpa using h3,by simpa using h4⟩
end
def FN:MH→Exit
 | .normal=>.normal
 | .exit id=>.exit id
 | .ret=>.ret
def MK(ρ:A5):Option Nat→Option Nat→Prop
 | none,r=>r=none
 | some l,r=>∃rb,ρ l=some rb∧r=some rb.b
theorem MK.mono{ρ ρ1:A5}{rnd r:Option Nat}(h:MK ρ rnd r)(le:ρ.le ρ1):MK ρ1 rnd r:=by
 cases rnd with
 | none=>exact h
 | some l=>obtain⟨rb,h1,h2⟩:=h;exact⟨rb,le _ _ h1,h2⟩
structure IR(P:Program)(fn:Func)(ρ:A5)(s:AD)(w:World)(r:Ax)(a':Act)(w':World)(ρ':A5):Prop where
 inv:As P ρ' r.st w'
 fresh:Ah ρ' r.st
 fr:Fr ρ s w ρ' r.st w'
 vars:Ao P ρ' fn r.var a'.tmps
 marks:BV ρ' r.marks a'.defers
structure IQ(P:Program)(fn:Func)(ρ:A5)(s:AD)(w:World)(var:List AV)(marks:List Nat)(rnd r:Option Nat)(a:Act):Prop where
 inv:As P ρ s w
 fresh:Ah ρ s
 vars:Ao P ρ fn var a.tmps
 marks:BV ρ marks a.defers
 rnd:MK ρ rnd r
def KB(P:Program)(F:DH):Prop:=∀ (f:FuncId)(fn:Func)(c:Code)(rnd r:Option Nat)(var:List AV)(marks:List Nat)(s:AD)(res:Ax)(ρ:A5)(w:World)(a:Act)(Q:Exit→Act→World→Prop),
 P.funcs[f]? = some fn→F.code rnd (Ab P f fn.ntmps (Ad P fn) c) var marks s=some res→IQ P fn ρ s w var marks rnd r a →
 (∀a' w' ρ',IR P fn ρ s w res a' w' ρ'→Q (FN res.exit) a' w')→c.wpIn (JY r) 0 P Q a w
def Vx(P:Program)(F:DH)(n:Nat):Prop:=∀ (f:FuncId)(fn:Func)(c:Code)(rnd r:Option Nat)(var:List AV)(marks:List Nat)(s:AD)(res:Ax)(ρ:A5)(w:World)(a:Act)(Q:Exit→Act→World→Prop),
 P.funcs[f]? = some fn→F.code rnd (.loop (Ab P f fn.ntmps (Ad P fn) c)) var marks s=some res→IQ P fn ρ s w var marks rnd r a →
 (∀a' w' ρ',IR P fn ρ s w res a' w' ρ'→Q (FN res.exit) a' w')→Code.roundsIn (JY r) 0 P c Q n a w
def Av(P:Program)(call:FuncId→List AV→AD→Option (AV×AD)):Prop:=∀ (ρ:A5)(s:AD)(w:World)(f:FuncId)(aS:List AV)(v:AV)(s1:AD)(as':Array Value),
 call f aS s=some (v,s1)→As P ρ s w→Ah ρ s→AJ ρ aS as'.toList →
 (∃fn c,P.funcs[f]? = some fn∧fn.body=some c)∧CallsIn Fence.wide 0 P f as' w (Bk P ρ s w v s1)
def EC (P : Program) : Prop := ∀ (f : FuncId) (fn : Func), P.funcs[f]? = some fn → (fn.name == "runtime.NumGoroutine") = false
structure SC(P:Program)(F:DH)(n:Nat):Prop where
 code:KB P F
 loop:Vx P F n
 call:Av P F.call
 round:∀ (ρ:A5) (s:AD) (w:World) (l:Nat) (rb:RB) (aS:List AV) (v:AV) (s1:AD) (as':Array Value),F.round l aS s=some (v,s1)→As P ρ s w→Ah ρ s→ρ l=some rb→AJ ρ aS as'.toList →
  DI P ρ s w v s1 ((Instr.yield rb.b as').run P w)
section
variable{P:Program}{ρ ρ1 ρ2:A5}{s s1 s2:AD}{w w1 w2:World}
theorem Gp(hng:EC P){f:FuncId}{fn:Func}{c:Code}(hf:P.funcs[f]? = some fn)(hb:fn.body=some c)(args:Array Value)(w:World):(callFunc f args).run P w=.ok (.enter f args) w:=by
  have h1:=hng f fn hf
  have h2 : fn.name ≠ "runtime.NumGoroutine" := by simpa using h1
  simp[callFunc,hf,h2,hb]
theorem SC.fok(hng:EC P){F:DH}{n:Nat}(h:SC P F n):i6 P F where
 call:=fun ρ s w f aS v s1 as' hc hi hf ha=>by
  obtain⟨⟨fn,c,h1,h2⟩,h3⟩:=h.call ρ s w f aS v s1 as' hc hi hf ha
  rw[Gp hng h1 h2]
  exact .enter h3
 round:=h.round
theorem IR.trans{fn:Func}{s1:AD}{r1 r2:Ax}{a1 a2:Act}(h1:Fr ρ s w ρ1 s1 w1)(h2:IR P fn ρ1 s1 w1 r2 a2 w2 ρ2):IR P fn ρ s w r2 a2 w2 ρ2:=
 ⟨h2.inv,h2.fresh,h1.trans h2.fr,h2.vars,h2.marks⟩
theorem IR.begins{fn:Func}{r:Ax}{a1:Act}{var:List AV}{marks:List Nat}{rnd rr:Option Nat}{a:Act}(hb:IQ P fn ρ s w var marks rnd rr a)(h:IR P fn ρ s w r a1 w1 ρ1):IQ P fn ρ1 r.st w1 r.var r.marks rnd rr a1:=
 ⟨h.inv,h.fresh,h.vars,h.marks,hb.rnd.mono h.fr.le⟩
theorem pY     (hm : P.follows .mixedOrders = true) {F : DH}  (hF : i6  P F) {fn : Func} {f : FuncId} {id : Nat} {ops : Array Oper} {draw : Bool} {r rnd : Option Nat} {var : List AV} {marks : List Nat} {s : AD}  {res : Ax}   {ρ : A5}  {w : World} {a : Act} {Q : Exit → Act → World → Prop}
    (hc:CR F rnd (Ab P f fn.ntmps (Ad P fn) (.region id ops draw)) var marks s=some res) (hb:IQ P fn ρ s w var marks rnd r a)
    (hq:∀a' w' ρ',IR P fn ρ s w res a' w' ρ'→Q (FN res.exit) a' w'):(Code.region id ops draw).wpIn (JY r) 0 P Q a w:=by
  have fin:∀ {items:List AB} {b:Array Nat} {l:List Nat},En P fn.ntmps (Ad P fn) ops b draw l ⟨[],0⟩ []=some items→CR F rnd (.ops items) var marks s=some res →
      ∃R' s',Trace P F ops fn.ntmps b draw l [] (Kh (Ad P fn) var) s R' s'∧res.exit=.normal∧res.marks=marks∧res.st=s'∧∃c' loc',EQ (Ad P fn) c' loc' res.var R':=by
    intro items b l hi hs
    simp only[CR,jN]at hs
    split at hs<;>first | (cases hs;done) | skip
    rename_i p hp
    injection hs with hs
    subst hs
    obtain⟨R',h1,h2⟩:=Un l ⟨[],0⟩ [] items [] var s p.1 p.2 (Kh (Ad P fn) var) [] hi hp (Lf hb.vars.len) .nil
    exact⟨R',p.2,h1,rfl,rfl,rfl,h2⟩
  have back:∀ {R':Bw} {a':Act} {w':World} {ρ':A5},(∃c' loc',EQ (Ad P fn) c' loc' res.var R')→res.exit=.normal→res.marks=marks→As P ρ' res.st w'→Ah ρ' res.st→Fr ρ s w ρ' res.st w'→E5 ρ' R' a'.tmps→a'.tmps.size=a.tmps.size→a'.defers=a.defers→Q .normal a' w':=by
    intro R' a' w' ρ' ⟨c',loc',hcr⟩ he hmk h1 h2 h3 h4 h5 h6
    have:=hq a' w' ρ' ⟨h1,h2,h3,Zg hcr h4 (by rw[h5];exact hb.vars.size),by rw[hmk,h6];exact hb.marks.mono h3.le⟩
    rw[he]at this
    exact this
  cases draw with
  | false =>
    refine wpIn_region ?_
    simp only[Ab]at hc
    cases hi:En P fn.ntmps (Ad P fn) ops #[] false (List.range ops.size) ⟨[],0⟩ []with
    | none=>rw[hi]at hc;cases hc
    | some items =>
      rw[hi]at hc
      obtain⟨R',s',h1,h2,h3,h4,h5⟩:=fin hi hc
      subst h4
      exact Zf hF h1 hb.inv hb.fresh (HC hb.vars) hb.vars.size fun a' w' ρ' g1 g2 g3 g4 g5 g6=>back h5 h2 h3 g1 g2 g3 g4 g5 g6
  | true =>
    refine wpIn_region_any hm ?_
    simp only[Ab]at hc
    cases hplm:HV P ops (Region.before ops) (Yr P ops) 0 0 (YD P ops)with
    | false=>rw[hplm]at hc;cases hc
    | true =>
      rw[hplm]at hc
      have hpl:=VT hplm
      simp only[AF,cond_true]at hc
      cases hi:En P fn.ntmps (Ad P fn) ops (Region.before ops) true (YD P ops) ⟨[],0⟩ []with
      | none=>rw[hi]at hc;cases hc
      | some items =>
        rw[hi]at hc
        obtain⟨R',s',h1,h2,h3,h4,h5⟩:=fin hi hc
        subst h4
        have hd:=Fr.drawn' (ρ:=ρ) (s:=s) (w:=w) (w.drawn+1)
        exact fR hF h1 hpl (hb.inv.drawn (w.drawn+1)) hb.fresh (HC hb.vars) hb.vars.size fun a' w' ρ' g1 g2 g3 g4 g5 g6=>back h5 h2 h3 g1 g2 (hd.trans g3) g4 g5 g6
theorem Hj{l:Nat}{L:Loop}(h:w.heap[l]? = some (.loop L))(fn:FuncId)(tmps:Array Value)(ps:Array Tmp)(assign body:Code):
  (Instr.enterLoop fn tmps ps assign body (some l)).run P w =
   .ok (w.heap.size,[]) (w.alloc (.loop { state:=.ready,pending:=none,fn,tmps,params:=ps,assign,body,defers:=L.defers })):=by
 unfold Instr.enterLoop
 simp only[Sem.run_bind,run_getLoop h,run_newObj_alloc,Result.andThen,Sem.run_pure]
theorem FI{l:Nat}{r:FO}(h:Bc s l=some r):s.heap.get l=some (.loop r):=by
 unfold Bc at h
 split at h
 ·injection h with h;subst h;assumption
 ·cases h
theorem Ah.new(h:Ah ρ s)(o:AI)(rb:RB):Ah (Bh ρ s.next rb) (newObj s o):=by
 intro i hi
 have hi:s.next+1≤i:=hi
 have:=h i (by omega)
 exact⟨by rw[AL rb (by omega)];exact this.1,by rw[Ai,if_neg (by omega)];exact this.2⟩
theorem NK(h:As P ρ s w){l:Nat}{r:FO}{rb:RB}(hg:s.heap.get l=some (.loop r))(hr:ρ l=some rb){st:LoopState}{pd:Option Code}{L:Loop}(hL:w.heap[rb.b]? = some (.loop L)):
  As P ρ (setObj s l (.loop { r with state:=st,pending:=pd })) (w.putObj rb.b (.loop { L with state:=st,pending:=pd }))∧Fr ρ s w ρ (setObj s l (.loop { r with state:=st,pending:=pd })) (w.putObj rb.b (.loop { L with state:=st,pending:=pd })):=by
 have hlt:=h.lt l rb hr
 refine h.set hg hr rfl (fun p e=>by cases e) rfl World.putObj_size (fun b hb=>World.putObj_heap_other hb) rfl rfl rfl ?_
 obtain⟨L',h0,h1,h2,h4,h5,h6,h7,h8,h9,h10⟩:=(h.obj l _ rb hg hr:Gi P ρ w r rb).ex
 rw[hL]at h0
 injection h0 with h0
 injection h0 with h0
 subst h0
 exact⟨_,World.putObj_heap_same hlt,rfl,rfl,h4,h5,h6,h7,h8,h9,h10⟩
theorem kq{r:Option Nat}{s':AD}{res:Ax}{a:Act}{Q:Exit→Act→World→Prop}{var:List AV}{marks:List Nat}{pd:Option Code}
  (hp:Gm var marks s' pd=some res) (hq:res.var=var→res.marks=marks→res.st=s'→Q (FN res.exit) a w):
  (match (generalizing:=false) pd with
   | none=>Q .normal a w
   | some c=>c.wpIn (JY r) 0 P Q a w):=by
 unfold Gm at hp
 split at hp<;>first | (cases hp;done) | skip
 ·injection hp with hp;subst hp;exact hq rfl rfl rfl
 ·injection hp with hp;subst hp;exact wpIn_ret (hq rfl rfl rfl)
 ·injection hp with hp;subst hp;exact wpIn_exit (hq rfl rfl rfl)
theorem Nk         (hng : EC      P) {F : DH}  (hcall : Av     P F.call) {f : FuncId} {fn : Func} {var : List AV} {marks : List Nat} {s : AD}  {res : Ax}   {ρ : A5}  {w : World} {a : Act} {r : Option Nat} {Q : Exit → Act → World → Prop} {g : AV} {g' : Value} {ps : Array Tmp} {assign body : Code} {dfr : Nat} {rd : RB}
    (hf:P.funcs[f]? = some fn) (hc:FQ F var g ps assign body f dfr marks s=some res) (hi:As P ρ s w) (hfr:Ah ρ s) (hv:Ao P ρ fn var a.tmps) (hmk:BV ρ marks a.defers)
    (hg:AM ρ g g') (hd:ρ dfr=some rd) (fn':FuncId)
    (hq:∀w' ρ',IR P fn ρ s w res a w' ρ'→Q (FN res.exit) a w'):
    ∃ (d : Deferred) (f0 : FuncId) (args : Array Value), Deferred.ofValue g' #[.func (.yield w.heap.size) #[] #[]] = Pure.pure d ∧
      (∀w1,(invoke d.target d.args).run P w1=.ok (.enter f0 args) w1) ∧
      CallsIn (JY r) 0 P f0 args (w.alloc (.loop { state:=.ready,pending:=none,fn:=fn',tmps:=a.tmps,params:=ps,assign,body,defers:=rd.b })) (rangePost (JY r) 0 P w.heap.size Q a):=by
  let L:Loop:={ state:=.ready,pending:=none,fn:=fn',tmps:=a.tmps,params:=ps,assign,body,defers:=rd.b }
  let al:FO:={ state:=.ready,pending:=none,fn:=f,var,params:=ps,assign,body,dfr }
  let rb:RB:=⟨w.heap.size,0,0,0⟩
  have hvi:Ec P f=Ad P fn:=by unfold Ec;rw[hf]
  have hn0:=(hfr _ (tJ s.next)).1
  have hle:=A2 (rb:=rb) hn0
  obtain⟨hi1,hfr1⟩:=hi.new (o:=.loop al) (o':=.loop L) (rb:=rb) hn0 rfl
    ⟨L,World.alloc_heap_new w _,rfl,rfl,rfl,rfl,rfl,⟨rd,hle _ _ hd,rfl⟩,by rw[hvi];exact(hv.mono hle).rel,fun fn0 h0=>by
      have h0:P.funcs[f]? = some fn0:=h0
      rw[hf]at h0;injection h0 with h0;subst h0;exact hv.size,by rw[hvi];exact hv.len⟩
  have hff:=hfr.new (.loop al) rb
  unfold FQ HM at hc
  simp only[tH]at hc
  obtain⟨q,hcv,r2,hl2,hend⟩:=hc
  cases hbz:VB r2.state with
  | true=>rw[hbz]at hend;cases hend
  | false =>
    rw[hbz]at hend
    simp only[cond_false]at hend
    unfold Gq at hcv
    split at hcv<;>first | (cases hcv;done) | skip
    rename_i f0 first cap
    cases hg with
    | func ha hcp =>
      rename_i x c
      obtain⟨⟨fn0,c0,k1,k2⟩,k3⟩:=hcall _ _ _ f0 _ q.1 q.2 ((x++#[.func (.yield w.heap.size) #[] #[]])++c) hcv hi1 hff (by
        simp only[Array.toList_append]
        have hy:AM (Bh ρ s.next rb) (.yield s.next) (.func (.yield w.heap.size) #[] #[]):=AM.yield (rb:=rb) (AO _ _)
        have:=(AJ.mono hle ha).append ((AJ.cons hy .nil).append (AJ.mono hle hcp))
        simpa using this)
      refine⟨{ target:=.fn (.func f0) c,args:=x++#[.func (.yield w.heap.size) #[] #[]] },f0,_,rfl,fun w1=>?_,Kv (CallsIn.mono k3 ?_)⟩
      · simp only[invoke]
        exact Gp hng k1 k2 _ _
      · intro e w3 he
        cases e with
        | panicked c=>exact he.elim
        | outgrown=>exact he.elim
        | returned v' =>
          obtain⟨ρ',_,g2,g3⟩:=he
          have hg2:=FI hl2
          have hr2:ρ' s.next=some rb:=g3.le _ _ (AO _ _)
          obtain⟨L2,h0,h1,h2,_⟩:=(g2.obj _ _ _ hg2 hr2:Gi P ρ' w3 r2 rb).ex
          obtain⟨g4,g5⟩:=NK g2 hg2 hr2 (st:=.exhausted) (pd:=r2.pending) h0
          have hbz':L2.state≠.busy:=by rw[h1];intro e;rw[e]at hbz;cases hbz
          refine⟨L2.pending,_,run_endLoop h0 hbz',?_⟩
          rw[h2]
          refine kq hend fun e1 e2 e3=>hq _ ρ' ?_
          have hall:=hfr1.trans (g3.trans g5)
          have hfresh:=(hff.step g3).step g5
          rw[h2.symm]at g4 g5 hall
          refine⟨?_,?_,?_,by rw[e1];exact hv.mono hall.le,by rw[e2];exact hmk.mono hall.le⟩
          · rw[e3,← h2];exact g4
          · rw[e3];exact hfresh
          · rw[e3,← h2];exact hall
end
end
end Go.Proofs.YtoaaclpjkelofaaGreatDoor.Am
set_option linter.unusedVariables false
set_option linter.unusedSimpArgs false
namespace Go.Proofs.YtoaaclpjkelofaaGreatDoor.Am
open Go
open Go.ChangeMaps (setBlock)
noncomputable section
mutual
theorem AM.back{ρ σ:A5}(le:ρ.le σ){v:AV}{v' v0:Value}(h:AM σ v v')(h0:AM ρ v v0):AM ρ v v':=by
 cases h with
 | bool b=>exact .bool b
 | int k n=>exact .int k n
 | str h=>exact .str h
 | ptrNil=>exact .ptrNil
 | ptr h=>cases h0 with
  | ptr k=>have:=le _ _ k;rw[h]at this;injection this with this;subst this;exact .ptr k
 | gptr g o=>exact .gptr g o
 | sliceNil=>exact .sliceNil
 | slice h hl=>cases h0 with
  | slice k _=>have:=le _ _ k;rw[h]at this;injection this with this;subst this;exact .slice k hl
 | sliceOpen h hs hl h1 h2=>cases h0 with
  | sliceOpen k _ _ _ _=>have:=le _ _ k;rw[h]at this;injection this with this;subst this;exact .sliceOpen k hs hl h1 h2
  | sliceEnd k _ _ _=>have:=le _ _ k;rw[h]at this;injection this with this;subst this;exact .sliceOpen k hs hl h1 h2
 | sliceEnd h hs h1 h2=>cases h0 with
  | sliceOpen k _ _ _ _=>have:=le _ _ k;rw[h]at this;injection this with this;subst this;exact .sliceEnd k hs h1 h2
  | sliceEnd k _ _ _=>have:=le _ _ k;rw[h]at this;injection this with this;subst this;exact .sliceEnd k hs h1 h2
 | mapNil=>exact .mapNil
 | map h=>cases h0 with
  | map k=>have:=le _ _ k;rw[h]at this;injection this with this;subst this;exact .map k
 | func ha hc=>cases h0 with
  | func ka kc=>exact .func (AJ.back le ha ka) (AJ.back le hc kc)
 | yield h=>cases h0 with
  | yield k=>have:=le _ _ k;rw[h]at this;injection this with this;subst this;exact .yield k
 | nilFunc=>exact .nilFunc
 | nilIface=>exact .nilIface
 | iface h=>cases h0 with
  | iface k=>exact .iface (AM.back le h k)
 | agg h=>cases h0 with
  | agg k=>exact .agg (AJ.back le h k)
 | tuple h=>cases h0 with
  | tuple k=>exact .tuple (AJ.back le h k)
 | any h=>exact .any h
theorem AJ.back{ρ σ:A5}(le:ρ.le σ){v:List AV}{v' v0:List Value}(h:AJ σ v v')(h0:AJ ρ v v0):AJ ρ v v':=by
 cases h with
 | nil=>exact .nil
 | cons h hs=>cases h0 with
  | cons k ks=>exact .cons (AM.back le h k) (AJ.back le hs ks)
end
theorem Et{σ:A5}{v:AV}{v':Value}(h:Fh v=true)(hv:AM σ v v'):v'.cells.toList=[v']:=by
 cases hv<;>first | rfl | (cases h;done) | assumption
theorem HD{a b:AV}(h:Jy a b=true):a=b:=by
 unfold Jy at h
 split at h
 ·rfl
 ·exact FA h
def OZ(X B:List AV):Prop:=X.length=B.length∧∀ (j:Nat)(x:AV),X[j]? = some x→B[j]? = some x∨Fh x=true∧B[j]? = some .junk
theorem OZ.refl(X:List AV):OZ X X:=⟨rfl,fun j x h=>.inl h⟩
theorem OZ.trans{X Y Z:List AV}(h:OZ X Y)(k:OZ Y Z):OZ X Z:=by
  refine⟨h.1.trans k.1,fun j x hx=>?_⟩
  rcases h.2 j x hx with h1 | ⟨h1,h2⟩
  · exact k.2 j x h1
  · rcases k.2 j _ h2 with h3 | ⟨_, h3⟩
    · exact .inr ⟨h1,h3⟩
    · exact .inr ⟨h1,h3⟩
theorem Mj:∀ {X B:List AV},er X B=true→OZ X B
 | [],[],_=>.refl _
 | x::l,b::m,h=>by
  simp only[er,Bool.and_eq_true]at h
  obtain⟨g1,g2⟩:=Mj h.2
  refine⟨by simp[g1],fun j y hy=>?_⟩
  cases j with
  | zero =>
   simp at hy
   subst hy
   have h1:=h.1
   simp only[rH,Bool.or_eq_true,Bool.and_eq_true]at h1
   rcases h1 with h1 | ⟨h1,h2⟩
   ·left;simp[HD h1]
   ·right;refine⟨h1,?_⟩;simp[← HD h2]
  | succ j=>simpa using g2 j y (by simpa using hy)
 | [],_::_,h=>by cases h
 | _::_,[],h=>by cases h
theorem NM         : ∀ {A X B : List AV}, RD     A X = some B → OZ  A B ∧ OZ  X B
  | [],[],B,h=>by injection h with h;subst h;exact⟨.refl _,.refl _⟩
  | a::l,x::m,B,h=>by
    unfold RD at h
    simp only[tH]at h
    obtain⟨c,h1,r,h2,h3⟩:=h
    injection h3 with h3
    subst h3
    obtain⟨⟨g1,g2⟩,g3,g4⟩:=NM h2
    have hc:(c=a∨Fh a=true∧c=.junk)∧(c=x∨Fh x=true∧c=.junk):=by
      cases he:Jy a x with
      | true=>rw[he]at h1;injection h1 with h1;exact⟨.inl h1.symm,.inl (h1.symm.trans (HD he))⟩
      | false =>
        rw[he]at h1
        obtain⟨h4,h5⟩:=AA h1
        simp only[Bool.and_eq_true]at h4
        injection h5 with h5
        exact⟨.inr ⟨h4.1,h5.symm⟩,.inr ⟨h4.2,h5.symm⟩⟩
    refine⟨⟨by simp[g1],fun j y hy=>?_⟩,⟨by simp[g3],fun j y hy=>?_⟩⟩
    · cases j with
      | zero =>
        simp at hy
        subst hy
        rcases hc.1 with h | ⟨h,h'⟩
        · left;simp[h]
        · right;simp[h,h']
      | succ j=>simpa using g2 j y (by simpa using hy)
    · cases j with
      | zero =>
        simp at hy
        subst hy
        rcases hc.2 with h | ⟨h,h'⟩
        · left;simp[h]
        · right;simp[h,h']
      | succ j=>simpa using g4 j y (by simpa using hy)
  | [],_::_,_,h=>by cases h
  | _::_,[],_,h=>by cases h
theorem Jz:∀ {a b:List Nat},Ha a b=true→a=b
 | [],[],_=>rfl
 | a::l,b::m,h=>by
  simp only[Ha,Bool.and_eq_true]at h
  rw[tM h.1,Jz h.2]
 | [],_::_,h=>by cases h
 | _::_,[],h=>by cases h
section
variable{P:Program}{ρ ρ1 ρ2:A5}{s s1 s2:AD}{w w1 w2:World}
theorem Vs{fn:Func}{A X B:List AV}{t0 t1:Array Value}(h0:Ao P ρ fn A t0)(h1:Ao P ρ1 fn X t1)(le:ρ.le ρ1)(ha:OZ A B)(hx:OZ X B):Ao P ρ fn B t1:=by
  refine⟨by rw[← ha.1];exact h0.len,fun t k hk=>?_,h1.size⟩
  obtain⟨_,a,k1,k2⟩:=h0.rel t k hk
  obtain⟨k3,x,k4,k5⟩:=h1.rel t k hk
  refine⟨k3,?_⟩
  rcases hx.2 k x k4 with e1 | ⟨e1,e2⟩
  · rcases ha.2 k a k1 with e3 | ⟨e3, e4⟩
    · rw[e1]at e3
      injection e3 with e3
      subst e3
      exact⟨_,e1,AM.back le k5 k2⟩
    · rw[e4]at e1
      injection e1 with e1
      subst e1
      cases k5 with
      | any h=>exact⟨_,e4,.any h⟩
  · exact⟨_,e2,.any (Et e1 k5)⟩
theorem PV{v:AV}{v':Value}(hp:PU v=true)(h:AM ρ1 v v'):AM ρ v v':=by
 cases h<;>first | (cases hp;done) | skip
 ·exact .bool _
 ·exact .int _ _
 ·rename_i h;exact .str h
theorem YG      : ∀ {A X C : List AV}, iD   A X = some C → X.length = C.length ∧ ∀ (j : Nat) (x : AV), X[j]? = some x → ∃ c, C[j]? = some c ∧ (c = x ∧ (PU    x = true ∨ A[j]? = some x) ∨ c = .junk ∧ Fh     x = true)
  | [],[],C,h=>by injection h with h;subst h;exact⟨rfl,fun j x hx=>by simp at hx⟩
  | a::l,x::m,C,h=>by
    unfold iD at h
    simp only[tH]at h
    obtain⟨c,h1,r,h2,h3⟩:=h
    injection h3 with h3
    subst h3
    obtain⟨g1,g2⟩:=YG h2
    refine⟨by simp[g1],fun j y hy=>?_⟩
    cases j with
    | zero =>
      simp at hy
      subst hy
      refine⟨c,rfl,?_⟩
      cases hb:(PU x || Jy a x)with
      | true =>
        rw[hb]at h1
        injection h1 with h1
        rw[Bool.or_eq_true]at hb
        exact .inl ⟨h1.symm,hb.imp id fun h=>by simp[HD h]⟩
      | false =>
        rw[hb]at h1
        obtain⟨h4,h5⟩:=AA h1
        injection h5 with h5
        exact .inr ⟨h5.symm,h4⟩
    | succ j=>simpa using g2 j y (by simpa using hy)
  | [],_::_,_,h=>by cases h
  | _::_,[],_,h=>by cases h
theorem iq{fn:Func}{A X C R:List AV}{t0 t1:Array Value}(h0:Ao P ρ fn A t0)(h1:Ao P ρ1 fn X t1)(le:ρ.le ρ1)(hc:iD A X=some C)(hr:OZ C R):Ao P ρ fn R t1:=by
 obtain⟨g1,g2⟩:=YG hc
 refine⟨by rw[← hr.1,← g1];exact h1.len,fun t k hk=>?_,h1.size⟩
 obtain⟨_,a,k1,k2⟩:=h0.rel t k hk
 obtain⟨k3,x,k4,k5⟩:=h1.rel t k hk
 refine⟨k3,?_⟩
 obtain⟨c,h2,h3⟩:=g2 k x k4
 rcases h3 with⟨rfl,h3⟩ | ⟨rfl,h3⟩
 ·have hx:AM ρ c (t1.getD t undef):=by
   rcases h3 with h3 | h3
   ·exact PV h3 k5
   ·rw[k1]at h3;injection h3 with h3;subst h3;exact AM.back le k5 k2
  rcases hr.2 k c h2 with e | ⟨e1,e2⟩
  ·exact⟨_,e,hx⟩
  ·exact⟨_,e2,.any (Et e1 k5)⟩
 ·rcases hr.2 k _ h2 with e | ⟨_,e⟩<;>exact⟨_,e,.any (Et h3 k5)⟩
theorem ip{fn:Func}{A B:List AV}{t0:Array Value}(h0:Ao P ρ fn A t0)(h:OZ A B):Ao P ρ fn B t0:=by
 refine⟨by rw[← h.1];exact h0.len,fun t k hk=>?_,h0.size⟩
 obtain⟨k3,a,k1,k2⟩:=h0.rel t k hk
 refine⟨k3,?_⟩
 rcases h.2 k a k1 with e | ⟨e1,e2⟩
 ·exact⟨_,e,k2⟩
 ·exact⟨_,e2,.any (Et e1 k2)⟩
theorem ND         : ∀ {J : List Nat} {A B : List AV}, Q4     J A = some B → OZ  A B
  | [],A,B,h=>by injection h with h;subst h;exact .refl _
  | j::l,A,B,h=>by
    unfold Q4 at h
    obtain⟨h1,h2⟩:=AA h
    refine OZ.trans ⟨by rw[Eb,ub],fun k x hx=>?_⟩ (ND h2)
    by_cases e:j=k
    · subst e
      right
      rw[Kd hx]at h1
      have hl:j<A.length:=by
        rcases tL j A.length with h | h
        · exact h
        · simp[tY h]at hx
      exact⟨h1,by rw[Eb];simp[hl]⟩
    · left;rw[Eb,uU e];exact hx
theorem R4{fn:Func}{var:List AV}{tmps:Array Value}(h:Ao P ρ fn var tmps){t:Tmp}{j:Nat}(hp:Aq (Ad P fn) t=some j){v:AV}{v':Value}(hv:AM ρ v v')(ht:t<tmps.size):Ao P ρ fn (F4 v var j) (tmps.setIfInBounds t v'):=by
 refine⟨by rw[Eb,ub];exact h.len,fun u k hk=>?_,by rw[Array.size_setIfInBounds];exact h.size⟩
 obtain⟨g1,x,g2,g3⟩:=h.rel u k hk
 refine⟨by rw[Array.size_setIfInBounds];exact g1,?_⟩
 have hjl:j<var.length:=by rw[h.len];exact Cw hp
 by_cases e:u=t
 ·subst e
  rw[hp]at hk
  injection hk with hk
  subst hk
  exact⟨v,by rw[Eb];simp[hjl],by simpa[Array.getD_eq_getD_getElem?,ht]using hv⟩
 ·have ejk:j≠k:=fun e'=>by subst e';exact e (HA hk hp)
  refine⟨x,by rw[Eb,uU ejk];exact g2,?_⟩
  have:(tmps.setIfInBounds t v').getD u undef=tmps.getD u undef:=by
   simp[Array.getD_eq_getD_getElem?,Array.getElem?_setIfInBounds_ne (Ne.symm e)]
  rw[this]
  exact g3
theorem J9{fn:Func}{var:List AV}{tmps:Array Value}(h:Ao P ρ fn var tmps){t:Tmp}(hp:Aq (Ad P fn) t=none)(v':Value):Ao P ρ fn var (tmps.setIfInBounds t v'):=by
 refine⟨h.len,fun u k hk=>?_,by rw[Array.size_setIfInBounds];exact h.size⟩
 obtain⟨g1,x,g2,g3⟩:=h.rel u k hk
 refine⟨by rw[Array.size_setIfInBounds];exact g1,x,g2,?_⟩
 have e:u≠t:=fun e=>by subst e;rw[hp]at hk;cases hk
 have:(tmps.setIfInBounds t v').getD u undef=tmps.getD u undef:=by
  simp[Array.getD_eq_getD_getElem?,Array.getElem?_setIfInBounds_ne (Ne.symm e)]
 rw[this]
 exact g3
theorem PB:∀ {l:List Nat}{ds ds':List Deferred},BV ρ l ds→BV ρ1 l ds'→ρ.le ρ1→ds'=ds
 | [],ds,ds',h,h',_=>by
  have h:ds=[]:=h
  have h':ds'=[]:=h'
  rw[h,h']
 | i::l,ds,ds',⟨rb,d1,h1,h2,h3⟩,⟨rb',d2,k1,k2,k3⟩,le=>by
  have:=le _ _ h1
  rw[k1]at this
  injection this with this
  subst this
  rw[h2,k2,PB h3 k3 le]
theorem L6{n:Nat}{h:AE AI}{i:Nat}{o:AI}(hg:(frz n h).heap.get i=some o):∃o',h.get i=some o'∧Yt o'=some o:=by
 unfold frz at hg
 simpa only[AE.get_mapO,tH]using hg
theorem FV{o o':AI}(h:Yt o'=some o):wr o=false∧EY o=EY o'∧∀ {ρ:A5}{w:World}{rb:RB},DK P ρ w o' rb→DK P ρ w o rb:=by
 cases o' with
 | row r =>
  injection h with h
  subst h
  exact⟨rfl,rfl,fun {ρ w rb} hok=>by
   have hok:BF ρ w r rb:=hok
   exact(show BF ρ w { r with mode:=.ro,par:=none } rb from⟨hok.cells,hok.le,hok.sz,hok.tight,fun e=>absurd rfl e,hok.base,hok.gl,fun p e=>by cases e⟩)⟩
 | map kt es=>injection h with h;subst h;exact⟨rfl,rfl,fun hok=>hok⟩
 | mapRo kt es=>injection h with h;subst h;exact⟨rfl,rfl,fun hok=>hok⟩
 | loop l=>cases h
 | mark=>cases h
 | iter a b=>cases h
theorem As.frz(h:As P ρ s w)(n:Nat):As P ρ (frz n s.heap) w:=by
 refine⟨fun i o rb hi hr=>?_,h.lt,fun i j oi oj ri rj hne hi hj hri hrj hb hw=>?_,fun i o g hi hg=>?_⟩
 ·obtain⟨o',h1,h2⟩:=L6 hi
  exact(FV h2).2.2 (h.obj i _ rb h1 hr)
 ·obtain⟨o',_,h2⟩:=L6 hj
  rw[(FV (P:=P) h2).1]at hw
  cases hw
 ·obtain⟨o',h1,h2⟩:=L6 hi
  rw[(FV (P:=P) h2).2.1]at hg
  exact h.glb i _ g h1 hg
theorem KX(Q0:Program)(n:Nat)(t:AE AI)(b:Nat):¬ Ee ρ (frz n t) b:=by
 rintro⟨i,o,rb,h1,h2,_⟩
 obtain⟨o',_,h3⟩:=L6 h1
 rw[(FV (P:=Q0) h3).1]at h2
 cases h2
theorem Ah.frz(h:Ah ρ s):Ah ρ (frz s.next s.heap):=fun i hi=>by
 refine⟨(h i hi).1,?_⟩
 unfold Am.frz
 simp only[AE.get_mapO]
 rw[(h i hi).2];rfl
structure Pq(W:List Nat)(h h':AE AI):Prop where
 inW:∀j∈W,h'.get j=h.get j∧∃r,h.get j=some (.row r)∧CL r=true
 out:∀j,j ∉ W→h'.get j=(h.get j).bind Yt
theorem Cf{r:CG}(h:CL r=true):B8 r.mode=true∧r.par=none∧r.glob=none:=by
 simpa[CL,Bool.and_eq_true]using h
theorem Tu       {h : AE   AI}   : ∀ {W : List Nat} {t t' : AE   AI},   lN   h W t = some t' → (∀ j ∈ W, t'.get j = h.get j ∧ ∃ r, h.get j = some (.row r) ∧ CL       r = true) ∧ ∀ j, j ∉ W → t'.get j = t.get j
  | [],t,t',e=>by injection e with e;subst e;exact⟨fun j hj=>(by cases hj),fun _ _=>rfl⟩
  | i :: l, t, t', e => by
    unfold lN at e
    split at e
    · rename_i r hr
      obtain⟨e1,e2⟩:=AA e
      obtain⟨g1,g2⟩:=Tu e2
      refine⟨fun j hj=>?_,fun j hj=>?_⟩
      · by_cases hl : j ∈ l
        · exact g1 j hl
        · rcases uT.1            hj with e | h'
          · subst e
            exact⟨by rw[g2 j hl,AE.get_set,if_pos rfl,hr],r,hr,e1⟩
          · exact absurd h' hl
      · have h1 : j ≠ i := fun e => hj (by rw [e]; exact tS                 ..)
        have h2:j ∉ l:=fun h'=>hj (tW _ h')
        rw[g2 j h2,AE.get_set,if_neg h1]
    · cases e
theorem Yu{W:List Nat}{n:Nat}{h:AE AI}{s':AD}(e:pM W n h=some s'):s'.next=n∧Pq W h s'.heap:=by
 unfold pM at e
 simp only[tH]at e
 obtain⟨t,h1,h2⟩:=e
 injection h2 with h2
 subst h2
 obtain⟨g1,g2⟩:=Tu h1
 exact⟨rfl,g1,fun j hj=>by rw[g2 j hj,AE.get_mapO]⟩
theorem Pq.wr{W:List Nat}{h h':AE AI}(hs:Pq W h h')(Q0:Program){j:Nat}{o:AI}(hj:h'.get j=some o)(hw:wr o=true):j∈W∧h.get j=some o:=by
 by_cases hm:j∈W
 ·exact⟨hm,by rw[← (hs.inW j hm).1];exact hj⟩
 ·rw[hs.out j hm,tH]at hj
  obtain⟨o',_,h3⟩:=hj
  rw[(FV (P:=Q0) h3).1]at hw
  cases hw
theorem As.semi{W:List Nat}{h':AE AI}{n:Nat}(h:As P ρ s w)(hs:Pq W s.heap h'):As P ρ ⟨n,h'⟩ w:=by
 refine⟨fun i o rb hi hr=>?_,h.lt,fun i j oi oj ri rj hne hi hj hri hrj hb hw=>?_,fun i o g hi hg=>?_⟩
 ·have hi:h'.get i=some o:=hi
  by_cases hm:i∈W
  ·exact h.obj i o rb (by rw[← (hs.inW i hm).1];exact hi) hr
  ·rw[hs.out i hm,tH]at hi
   obtain⟨o',h1,h2⟩:=hi
   exact(FV h2).2.2 (h.obj i _ rb h1 hr)
 ·have hi:h'.get i=some oi:=hi
  obtain⟨hm,hj'⟩:=hs.wr P hj hw
  obtain⟨_,r,hr,hp⟩:=hs.inW j hm
  rw[hr]at hj'
  injection hj' with hj'
  subst hj'
  by_cases hmi:i∈W
  ·exact h.sep i j oi _ ri rj hne (by rw[← (hs.inW i hmi).1];exact hi) hr hri hrj hb hw
  ·rw[hs.out i hmi,tH]at hi
   obtain⟨o',h1,h2⟩:=hi
   exact⟨(h.sep i j o' _ ri rj hne h1 hr hri hrj hb hw).1,(FV (P:=P) h2).1⟩
 ·have hi:h'.get i=some o:=hi
  by_cases hm:i∈W
  ·exact h.glb i o g (by rw[← (hs.inW i hm).1];exact hi) hg
  ·rw[hs.out i hm,tH]at hi
   obtain⟨o',h1,h2⟩:=hi
   rw[(FV (P:=P) h2).2.1]at hg
   exact h.glb i o' g h1 hg
theorem Ah.semi{W:List Nat}{h':AE AI}(h:Ah ρ s)(hs:Pq W s.heap h'):Ah ρ ⟨s.next,h'⟩:=fun i hi=>by
 refine⟨(h i hi).1,?_⟩
 have hn:=(h i hi).2
 by_cases hm:i∈W
 ·obtain⟨_,r,hr,_⟩:=hs.inW i hm
  rw[hn]at hr;cases hr
 ·show h'.get i=none
  rw[hs.out i hm,hn];rfl
structure p9(ρ:A5)(W:List Nat)(w0 w:World):Prop where
 lt:w0.heap.size<w.heap.size
 old:∀b,b<w0.heap.size→(∀j∈W,∀rb,ρ j=some rb→rb.b≠b)→w.heap[b]? = w0.heap[b]?
 os:w.os=w0.os
 tape:w.tape=w0.tape
 output:w.output=w0.output
structure Hd(ρ:A5)(s:AD)(W:List Nat)(w0 w:World)(bm clock:Nat)(seen:Array Nat):Prop extends p9 ρ W w0 w where
 wk:∀j∈W,∀r rb,s.heap.get j=some (.row r)→ρ j=some rb→BF ρ w r rb
 it:∃c0,clock≤c0∧w.heap[w0.heap.size]? = some (.mapIter (some bm) clock seen c0)
def A4(ρ:A5)(s:AD)(w0:World):A5:=Bh ρ s.next ⟨w0.heap.size,0,0,0⟩
section
variable{W:List Nat}{bm clock:Nat}{seen:Array Nat}
structure Zl(P:Program)(ρ:A5)(s:AD)(w0:World)(W:List Nat)(h':AE AI)(w1:World):Prop where
 out:∀j,j ∉ W→h'.get j=s.heap.get j
 inW:∀j∈W,∃r r',s.heap.get j=some (.row r)∧CL r=true∧h'.get j=some (.row r')∧CL r'=true∧(∃rb,ρ j=some rb)∧∀rb,ρ j=some rb→BF (A4 ρ s w0) w1 r' rb
theorem p9.invN  (hd : p9  ρ W w w1) {h' : AE   AI}   (hn : Zl   P ρ s w W h' w1) (h : As  P ρ s w) (hf : Ah     ρ s) : As  P (A4    ρ s w) ⟨s.next + 1, h'⟩ w1 := by
  have hnx:=hf s.next (tJ _)
  have hle:ρ.le (A4 ρ s w):=A2 hnx.1
  have hsome:∀i o,h'.get i=some o→∃o',s.heap.get i=some o':=fun i o hi=>by
    by_cases hm:i∈W
    · obtain⟨r,_,h1,_⟩:=hn.inW i hm;exact⟨_,h1⟩
    · exact⟨o,by rw[← hn.out i hm];exact hi⟩
  have hr:∀i o rb,h'.get i=some o→A4 ρ s w i=some rb→ρ i=some rb:=fun i o rb hi hr=>by
    have:i≠s.next:=fun e=>by
      subst e
      obtain⟨o',ho⟩:=hsome _ o hi
      rw[hnx.2]at ho;cases ho
    unfold A4 at hr
    rw[AL _ this]at hr
    exact hr
  refine⟨fun i o rb hi hri=>?_,fun i rb hri=>?_,fun i j oi oj ri rj hne hi hj hri hrj hb hw=>?_,fun i o g hi hg=>?_⟩
  · have hi : h'.get i = some o := hi
    have h1:=hr i o rb hi hri
    by_cases hm:i∈W
    · obtain⟨r,r',h2,h3,h4,h5,_,h6⟩:=hn.inW i hm
      rw[h4]at hi
      injection hi with hi
      subst hi
      exact h6 rb h1
    · have hi0:=hi
      rw[hn.out i hm]at hi0
      refine(h.obj i o rb hi0 h1).mono hle (hd.old _ (h.lt i rb h1) fun j hj rj hrj hb=>?_)
      obtain⟨r,_,h2,h3,_⟩:=hn.inW j hj
      obtain⟨h3a,h3b,_⟩:=Cf h3
      have:=(h.sep i j o _ rb rj (fun e=>hm (by rw[e];exact hj)) hi0 h2 h1 hrj hb.symm h3a).1
      simp[FJ,h3b]at this
  · unfold A4 at hri
    by_cases e:i=s.next
    · subst e
      rw[AO]at hri
      injection hri with hri
      subst hri
      exact hd.lt
    · rw[AL _ e]at hri
      have:=h.lt i rb hri
      exact Nat.lt_trans this hd.lt
  · have hi : h'.get i = some oi := hi
    have hj:h'.get j=some oj:=hj
    have h1:=hr i oi ri hi hri
    have h2:=hr j oj rj hj hrj
    by_cases hmj:j∈W
    · obtain ⟨r, r', k2, k3, k4, k5, k6⟩ := hn.inW j hmj
      obtain⟨k3a,k3b,_⟩:=Cf k3
      obtain⟨oi0,hi0⟩:=hsome i oi hi
      have:=(h.sep i j oi0 _ ri rj hne hi0 k2 h1 h2 hb k3a).1
      simp[FJ,k3b]at this
    · rw[hn.out j hmj]at hj
      by_cases hmi:i∈W
      · obtain⟨r,r',k2,k3,k4,k5,k6⟩:=hn.inW i hmi
        have:=(h.sep i j _ oj ri rj hne k2 hj h1 h2 hb hw).2
        have k3':wr (.row r)=true:=(Cf k3).1
        rw[k3']at this
        cases this
      · rw[hn.out i hmi]at hi
        exact h.sep i j oi oj ri rj hne hi hj h1 h2 hb hw
  · have hi:h'.get i=some o:=hi
    by_cases hm:i∈W
    · obtain⟨r,r',k2,k3,k4,k5,k6⟩:=hn.inW i hm
      rw[k4]at hi
      injection hi with hi
      subst hi
      simp[EY,(Cf k5).2.2]at hg
    · rw[hn.out i hm]at hi
      obtain⟨rb,h1⟩:=h.glb i o g hi hg
      exact⟨rb,hle _ _ h1⟩
theorem BF.mono{r:CG}{rb:RB}(h:BF ρ w r rb)(le:ρ.le ρ1):BF ρ1 w r rb:=(show DK (default:Program) ρ w (.row r) rb from h).mono le rfl
theorem Hd.now(hd:Hd ρ s W w w1 bm clock seen)(hW:∀j∈W,(∃rb,ρ j=some rb)∧∃r,s.heap.get j=some (.row r)∧CL r=true)(hf:Ah ρ s):Zl P ρ s w W s.heap w1:=
 ⟨fun _ _=>rfl,fun j hj=>let ⟨h0,r,h1,h2⟩:=hW j hj;⟨r,r,h1,h2,h1,h2,h0,fun rb hr=>(hd.wk j hj r rb h1 hr).mono (A2 (hf s.next (tJ _)).1)⟩⟩
theorem U4(hf:Ah ρ s){h':AE AI}(hn:Zl P ρ s w W h' w1):Ah (A4 ρ s w) ⟨s.next+1,h'⟩:=fun i hi=>by
 have hi:s.next+1≤i:=hi
 have h2:=(hf i (by omega)).2
 refine⟨?_,?_⟩
 ·unfold A4
  rw[AL _ (by omega)]
  exact(hf i (by omega)).1
 ·show h'.get i=none
  by_cases hm:i∈W
  ·obtain⟨r,_,h1,_⟩:=hn.inW i hm;rw[h2]at h1;cases h1
  ·rw[hn.out i hm];exact h2
theorem p9.frN(hd:p9 ρ W w w1){h':AE AI}(hn:Zl P ρ s w W h' w1)(hf:Ah ρ s):Fr ρ s w (A4 ρ s w) ⟨s.next+1,h'⟩ w1:=by
 have hnx:=hf s.next (tJ _)
 refine⟨A2 hnx.1,fun i hi ho=>?_,t7 _,Nat.le_of_lt hd.lt,hd.os,hd.tape,hd.output,fun b hb ho=>hd.old b hb fun j hj rb hr e=>?_,fun b hb=>?_,fun i hi ho=>?_,fun i rb hi h0=>?_,fun i o rb hi h0=>?_⟩
 ·have ho:i<s.next∨s.next+1≤i:=ho
  unfold A4
  rw[AL _ (by omega)]
  exact hi
 ·obtain⟨r,_,h1,h2,_⟩:=hn.inW j hj
  exact ho ⟨j,_,rb,h1,(Cf h2).1,hr,e⟩
 ·obtain⟨i,o,rb,h1,h2,h3,h4⟩:=hb
  have h1:h'.get i=some o:=h1
  have hne:i≠s.next:=fun e=>by
   subst e
   by_cases hm:s.next∈W
   ·obtain⟨r,_,k1,_⟩:=hn.inW _ hm;rw[hnx.2]at k1;cases k1
   ·rw[hn.out _ hm,hnx.2]at h1;cases h1
  unfold A4 at h3
  rw[AL _ hne]at h3
  by_cases hm:i∈W
  ·obtain⟨r,_,k1,k2,_⟩:=hn.inW i hm
   exact .inl ⟨i,_,rb,k1,(Cf k2).1,h3,h4⟩
  ·rw[hn.out i hm]at h1
   exact .inl ⟨i,o,rb,h1,h2,h3,h4⟩
 ·show h'.get i=s.heap.get i
  by_cases hm:i∈W
  ·obtain⟨r,r',k1,k2,k3,k4,⟨rb,k5⟩,_⟩:=hn.inW i hm
   rw[hi]at k5;cases k5
  ·exact hn.out i hm
 ·unfold A4 at hi
  by_cases e:i=s.next
  ·subst e;rw[AO]at hi;injection hi with hi;subst hi;exact .inl (tJ _)
  ·rw[AL _ e,h0]at hi;cases hi
 ·have hi:h'.get i=some o:=hi
  by_cases hm:i∈W
  ·obtain⟨r,_,k1,_⟩:=hn.inW i hm;exact⟨_,k1⟩
  ·rw[hn.out i hm]at hi;exact⟨o,hi⟩
theorem Hd.step{seen':Array Nat}(hd:Hd ρ s W w w1 bm clock seen)(hlt:∀i rb,ρ i=some rb→rb.b<w.heap.size){c1:Nat}(hc:clock≤c1)(hw:w2=w1∨w2=w1.drew):Hd ρ s W w (setBlock w2 w.heap.size (.mapIter (some bm) clock seen' c1)) bm clock seen':=by
 have e:w2.heap=w1.heap∧w2.os=w1.os∧w2.tape=w1.tape∧w2.output=w1.output:=by
  rcases hw with rfl | rfl<;>exact⟨rfl,rfl,rfl,rfl⟩
 have hk:∀b,b<w.heap.size→(setBlock w2 w.heap.size (.mapIter (some bm) clock seen' c1)).heap[b]? = w1.heap[b]? := fun b hb=>by
  show(w2.heap.setIfInBounds _ _)[b]? = _
  rw[Array.getElem?_setIfInBounds_ne (by omega),e.1]
 refine⟨⟨?_,fun b hb h=>(hk b hb).trans (hd.old b hb h),e.2.1.trans hd.os,e.2.2.1.trans hd.tape,e.2.2.2.trans hd.output⟩,fun j hj r rb hr hrb=>?_,c1,hc,?_⟩
 ·show w.heap.size<(w2.heap.setIfInBounds _ _).size
  rw[Array.size_setIfInBounds,e.1]
  exact hd.lt
 ·exact(show DK (default:Program) ρ w1 (.row r) rb from hd.wk j hj r rb hr hrb).mono (A5.le_refl _) (hk _ (hlt j rb hrb))
 ·show(w2.heap.setIfInBounds _ _)[w.heap.size]? = _
  rw[e.1]
  simp[hd.lt]
theorem TW{r r':CG}{C:List AV}(h1:r.c.take 0 r.n=some C)(h2:r'.c.take 0 r.n=some C):∀k,k<r.n→r'.c.get k=r.c.get k:=fun k hk=>by
 have e1:=AE.take_get h1 k hk
 have e2:=AE.take_get h2 k hk
 simp only[tR]at e1 e2
 rw[e1,e2]
theorem Np{r q:CG}(h:Gc r q=true):q.n=r.n∧q.elem=r.elem∧B8 q.mode=true:=by
 simp only[Gc,Bool.and_eq_true]at h
 exact⟨tM h.1,tM h.2.1,h.2.2⟩
theorem Td{q:AD}:∀ {W:List Nat},PS s q W=true→∀j∈W,∃r r',s.heap.get j=some (.row r)∧q.heap.get j=some (.row r')∧Gc r r'=true∧∀k,k<r.n→r'.c.get k=r.c.get k
 | [],_,j,hj=>by cases hj
 | i::l,h,j,hj=>by
  unfold PS at h
  simp only[Bool.and_eq_true]at h
  rcases uT.1 hj with e | hj
  ·subst e
   have h1:=h.1
   split at h1<;>first | (cases h1;done) | skip
   rename_i r r' hr hr'
   simp only[Bool.and_eq_true]at h1
   have h2:=h1.2
   split at h2<;>first | (cases h2;done) | skip
   rename_i a b ha hb
   have:=FA h2
   injection this with this
   subst this
   exact⟨r,r',Ap hr,Ap hr',h1.1,TW ha hb⟩
  ·exact Td h.2 j hj
theorem BF.again{r r':CG}{rb:RB}(h0:BF ρ w1 r rb)(hp:CL r=true)(h':BF ρ1 w2 r' rb)(le:ρ.le ρ1)(hs:Gc r r'=true)(hc:∀k,k<r.n→r'.c.get k=r.c.get k):BF ρ w2 r rb:=by
  obtain⟨e1,e2,e3⟩:=Np hs
  obtain⟨p1,p2,p3⟩:=Cf hp
  refine⟨fun k v hk hv=>?_,h0.le,h0.sz,h0.tight,fun _=>?_,h0.base,fun g e=>(by rw[p3]at e;cases e),fun p e=>by rw[p2]at e;cases e⟩
  · obtain ⟨v', k1, k2⟩ := h'.cells k v (by omega) (by rw [hc k hk]; exact hv)
    obtain⟨v0,_,k3⟩:=h0.cells k v hk hv
    exact⟨v',k1,AM.back le k2 k3⟩
  · obtain⟨cs,k1,k2⟩:=h'.own (fun e=>by rw[e]at e3;cases e3)
    exact⟨cs,by rw[← e2];exact k1,k2⟩
theorem Hd.ended(Q0:Program)(hd:Hd ρ s W w w1 bm clock seen)(hnx:ρ s.next=none∧s.heap.get s.next=none)(hlt:∀i rb,ρ i=some rb→rb.b<w.heap.size){h':AE AI}(hs:Pq W s.heap h'){n:Nat}(hfr:Fr (A4 ρ s w) ⟨n,h'⟩ w1 ρ1 s1 w2):p9 ρ W w w2∧w2.heap[w.heap.size]? = w1.heap[w.heap.size]? := by
 have hk:∀b,b<w1.heap.size→(∀j∈W,∀rb,ρ j=some rb→rb.b≠b)→w2.heap[b]? = w1.heap[b]? := fun b hb h=>hfr.keep b hb (by
  rintro⟨i,o,rb,h1,h2,h3,h4⟩
  obtain⟨hm,h5⟩:=hs.wr Q0 h1 h2
  have hne:i≠s.next:=fun e=>by subst e;rw[hnx.2]at h5;cases h5
  unfold A4 at h3
  rw[AL _ hne]at h3
  exact h i hm rb h3 h4)
 exact⟨⟨tO hd.lt hfr.size,fun b hb h=>(hk b (Nat.lt_trans hb hd.lt) h).trans (hd.old b hb h),hfr.os.trans hd.os,hfr.tape.trans hd.tape,hfr.output.trans hd.output⟩,hk _ hd.lt fun j _ rb hr e=>by have:=hlt j rb hr;omega⟩
theorem Hd.round(Q0:Program)(hd:Hd ρ s W w w1 bm clock seen)(hnx:ρ s.next=none∧s.heap.get s.next=none)(hlt:∀i rb,ρ i=some rb→rb.b<w.heap.size){h':AE AI}(hs:Pq W s.heap h'){n:Nat}(hfr:Fr (A4 ρ s w) ⟨n,h'⟩ w1 ρ1 s1 w2)(hinv:As P ρ1 s1 w2)(hW:PS ⟨n,h'⟩ s1 W=true):Hd ρ s W w w2 bm clock seen:=by
 have hle:ρ.le ρ1:=A5.le_trans (A2 hnx.1) hfr.le
 obtain⟨c0,h1,h2⟩:=hd.it
 obtain⟨hE,hI⟩:=hd.ended Q0 hnx hlt hs hfr
 refine⟨hE,fun j hj r rb hr hrb=>?_,c0,h1,hI.trans h2⟩
 obtain⟨r0,r',g1,g2,g3,g4⟩:=Td hW j hj
 obtain⟨k1,r1,k2,k3⟩:=hs.inW j hj
 have g1:h'.get j=some (.row r0):=g1
 rw[k1,hr]at g1
 injection g1 with g1
 injection g1 with g1
 subst g1
 rw[hr]at k2
 injection k2 with k2
 injection k2 with k2
 subst k2
 exact(hd.wk j hj r rb hr hrb).again k3 (hinv.obj j _ rb g2 (hle _ _ hrb)) hle g3 g4
theorem Jg:∀ {a b:List AV},Fo a b=true→a.length=b.length∧∀ (k:Nat)(x:AV),b[k]? = some x→PU x=true∨a[k]? = some x
 | [],[],_=>⟨rfl,fun k x hx=>(by simp at hx)⟩
 | a::l,b::m,h=>by
  simp only[Fo,Bool.and_eq_true,Bool.or_eq_true]at h
  obtain⟨g1,g2⟩:=Jg h.2
  refine⟨by simp[g1],fun k x hx=>?_⟩
  cases k with
  | zero=>simp at hx;subst hx;exact h.1.imp id fun h=>by simp[HD h]
  | succ k=>simpa using g2 k x (by simpa using hx)
 | [],_::_,h=>by cases h
 | _::_,[],h=>by cases h
theorem YH{q:AD}:∀ {W:List Nat}{M:List (List AV)},ZM s q W=some M→W.length=M.length∧∀ (k:Nat)(j:Nat)(C:List AV),W[k]? = some j→M[k]? = some C→∃r r' C0,s.heap.get j=some (.row r)∧q.heap.get j=some (.row r')∧Gc r r'=true∧r.c.take 0 r.n=some C0∧r'.c.take 0 r.n=some C∧Fo C0 C=true
 | [],M,h=>by injection h with h;subst h;exact⟨rfl,fun k j C hj=>(by simp at hj)⟩
 | i::l,M,h=>by
  unfold ZM at h
  simp only[tH]at h
  obtain⟨r,h1,r',h2,h3⟩:=h
  obtain⟨h4,h5⟩:=AA h3
  simp only[tH]at h5
  obtain⟨a,h6,b,h7,h8⟩:=h5
  obtain⟨h9,h10⟩:=AA h8
  simp only[tH]at h10
  obtain⟨m,h11,h12⟩:=h10
  injection h12 with h12
  subst h12
  obtain⟨g1,g2⟩:=YH h11
  refine⟨by simp[g1],fun k j C hj hC=>?_⟩
  cases k with
  | zero =>
   simp at hj hC
   subst hj hC
   exact⟨r,r',a,Ap h1,Ap h2,h4,h6,h7,h9⟩
  | succ k=>exact g2 k j C (by simpa using hj) (by simpa using hC)
theorem YI      : ∀ {W : List Nat} {M : List (List AV)} {h1 : AE   AI}   {h' : AE   AI},   iN   h1 W M = some h' →
    (∀j,j ∉ W→h'.get j=h1.get j)∧∀j∈W,∃ (r:CG) (k:Nat) (C:List AV),h1.get j=some (.row r)∧W[k]? = some j∧M[k]? = some C∧∃c,h'.get j=some (.row { r with c })∧∀i,i<C.length→c.get i=C[i]?
  | [],M,h1,h',h=>by
    cases M with
    | nil=>injection h with h;subst h;exact⟨fun _ _=>rfl,fun j hj=>(by cases hj)⟩
    | cons _ _=>cases h
  | i::l,[],h1,h',h=>by cases h
  | i::l,C::m,h1,h',h=>by
    unfold iN at h
    split at h<;>first | (cases h;done) | skip
    rename_i r hr
    obtain⟨g1,g2⟩:=YI h
    refine⟨fun j hj=>?_,fun j hj=>?_⟩
    · have e1 : j ≠ i := fun e => hj (by rw [e]; exact tS                 ..)
      have e2:j ∉ l:=fun h'=>hj (tW _ h')
      rw[g1 j e2,AE.get_set,if_neg e1]
    · by_cases hl : j ∈ l
      · obtain⟨r2,k,C2,k1,k2,k3,c,k4,k5⟩:=g2 j hl
        rw[AE.get_set]at k1
        by_cases e:j=i
        · subst e
          rw[if_pos rfl]at k1
          injection k1 with k1
          injection k1 with k1
          subst k1
          exact⟨r,k+1,C2,hr,by simpa using k2,by simpa using k3,c,k4,k5⟩
        · rw[if_neg e]at k1
          exact⟨r2,k+1,C2,k1,by simpa using k2,by simpa using k3,c,k4,k5⟩
      · rcases uT.1            hj with e | h'
        · subst e
          refine⟨r,0,C,hr,rfl,rfl,r.c.fill 0 C,by rw[g1 j hl,AE.get_set,if_pos rfl],fun i hi=>?_⟩
          rw[AE.get_fill,if_pos ⟨tV _,by omega⟩]
          simp
        · exact absurd h' hl
theorem lD(hd:Hd ρ s W w w1 bm clock seen)(hρ:∀j∈W,∃rb,ρ j=some rb)(hnx:ρ s.next=none∧s.heap.get s.next=none){h':AE AI}(hs:Pq W s.heap h'){n:Nat}(hle1:(A4 ρ s w).le ρ1)(hinv:As P ρ1 s1 w2)
    {M N:List (List AV)} (hW:ZM ⟨n,h'⟩ s1 W=some M) (hMN:M=N) {h2:AE AI} (hset:iN s.heap W N=some h2):Zl P ρ s w W h2 w2:=by
  subst hMN
  have hle:ρ.le ρ1:=A5.le_trans (A2 hnx.1) hle1
  obtain⟨e1,e2⟩:=YI hset
  obtain⟨_,f2⟩:=YH hW
  refine⟨e1,fun j hj=>?_⟩
  obtain⟨r,k,C,k1,k2,k3,c,k4,k5⟩:=e2 j hj
  obtain⟨r0,r',C0,g1,g2,g3,g4,g5,g6⟩:=f2 k j C k2 k3
  obtain⟨m1,r2,m2,m3⟩:=hs.inW j hj
  have g1:h'.get j=some (.row r0):=g1
  rw[m1,k1]at g1
  injection g1 with g1
  injection g1 with g1
  subst g1
  rw[k1]at m2
  injection m2 with m2
  injection m2 with m2
  subst m2
  refine⟨r,_,k1,m3,k4,m3,hρ j hj,fun rb hrb=>?_⟩
  obtain⟨q1,q2,q3⟩:=Np g3
  obtain⟨p1,p2,p3⟩:=Cf m3
  have h0:=hd.wk j hj r rb k1 hrb
  have hr':BF ρ1 w2 r' rb:=hinv.obj j _ rb g2 (hle _ _ hrb)
  have hlen:=AE.take_length g5
  refine⟨fun i v hi hv=>?_,h0.le,h0.sz,h0.tight,fun _=>?_,h0.base,fun g e=>(by
    have e:r.glob=some g:=e
    rw[p3]at e;cases e),fun p e=>by
    have e:r.par=some p:=e
    rw[p2]at e;cases e⟩
  · have hi : i < r.n := hi
    have hv:c.get i=some v:=hv
    rw[k5 i (by omega)]at hv
    have e5:=AE.take_get g5 i hi
    simp only[tR]at e5
    obtain⟨v',n1,n2⟩:=hr'.cells i v (by omega) (by rw[e5];exact hv)
    refine⟨v',n1,?_⟩
    rcases(Jg g6).2 i v hv with h | h
    · exact PV h n2
    · have e4:=AE.take_get g4 i hi
      simp only[tR]at e4
      obtain⟨v0,_,n3⟩:=h0.cells i v hi (by rw[e4];exact h)
      exact(AM.back hle n2 n3).mono (A2 hnx.1)
  · obtain⟨cs,k1,k2⟩:=hr'.own (fun e=>by rw[e]at q3;cases q3)
    exact⟨cs,by show _=some (Obj.cells cs r.elem (0,0));rw[← q2];exact k1,k2⟩
end
end
section
variable{P:Program}{ρ ρ1 ρ2:A5}{s s1 s2:AD}{w w1 w2:World}{a:Act}{ops:Array Oper}{rnd:Option Nat}{Q:Exit→Act→World→Prop}
theorem Ia{i:Nat}{o:Oper}{v':Value}{w':World}{K:Act→World→Prop}(ho:ops[i]? = some o)(hg:o.guard=none)(hd:∀c,o.op≠.defer c)(hr:(execOp a.eval o).run P w=.ok (.value v') w')
  (hk:K (a.put o.dst v') w'):wpOpIn (JY rnd) 0 P ops Q i K a w:=by
 unfold wpOpIn
 rw[ho]
 simp only
 rw[if_pos (by unfold Region.wanted;rw[hg])]
 refine⟨fun _ _=>trivial,?_⟩
 rw[Oper.semAt_eq _ _ _ hd,hr]
 exact hk
theorem CI{o:Oper}{x:Op×Tmp}(h:Ep o=some x):o.guard=none∧o.dst=some x.2∧o.op=x.1:=by
 unfold Ep at h
 split at h
 ·rename_i h1 h2
  injection h with h
  subst h
  exact⟨h1,h2,rfl⟩
 ·cases h
theorem SH{o:Op}{x:TypeId×Operand}(h:T7 o=some x):o=.load x.1 x.2:=by
 unfold T7 at h
 split at h
 ·injection h with h;subst h;rfl
 ·cases h
theorem Pw{o:Op}{x:TypeId×Tmp}(h:Pv o=some x):o=.range x.1 (.tmp x.2):=by
 unfold Pv at h
 split at h
 ·injection h with h;subst h;rfl
 ·cases h
theorem SI{o:Op}{x:Tmp}(h:T8 o=some x):o=.next (.tmp x) false:=by
 unfold T8 at h
 split at h
 ·injection h with h;subst h;rfl
 ·cases h
theorem Pu{o:Op}{x:Tmp}(h:Pt o=some x):o=.entry (.tmp x):=by
 unfold Pt at h
 split at h
 ·injection h with h;subst h;rfl
 ·cases h
theorem MR{o:Op}{x:Tmp}(h:V0 o=some x):o=.extract (.tmp x) 0:=by
 unfold V0 at h
 split at h
 ·injection h with h;subst h;rfl
 ·cases h
theorem T9{o:Op}{x:Tmp}(h:Zr o=some x):o=.assign (.tmp x):=by
 unfold Zr at h
 split at h
 ·injection h with h;subst h;rfl
 ·cases h
theorem Ic{l:List Oper}(h:ops.toList=l)(i:Nat):ops[i]? = l[i]? := by rw[← h];simp
theorem NY{l:List Oper}(h:ops.toList=l):ops.size=l.length:=by rw[← h];simp
structure i7(ops:Array Oper)(ty:TypeId)(ad:Operand)(tm it:Tmp):Prop where
 ex:∃o0 o1,ops.toList=[o0,o1]∧(o0.guard=none∧o0.dst=some tm∧o0.op=.load ty ad)∧(o1.guard=none∧o1.dst=some it∧o1.op=.range ty (.tmp tm))
structure Po(ops:Array Oper)(it tn ok:Tmp):Prop where
 ex:∃o0 o1,ops.toList=[o0,o1]∧(o0.guard=none∧o0.dst=some tn∧o0.op=.next (.tmp it) false)∧(o1.guard=none∧o1.dst=some ok∧o1.op=.extract (.tmp tn) 0)
structure MI(ops:Array Oper)(it te tk key:Tmp):Prop where
 ex:∃o0 o1 o2,ops.toList=[o0,o1,o2]∧(o0.guard=none∧o0.dst=some te∧o0.op=.entry (.tmp it))∧(o1.guard=none∧o1.dst=some tk∧o1.op=.extract (.tmp te) 0)∧(o2.guard=none∧o2.dst=some key∧o2.op=.assign (.tmp tk))
theorem RV{x:TypeId×Operand×Tmp×Tmp}(h:RU ops.toList=some x):i7 ops x.1 x.2.1 x.2.2.1 x.2.2.2:=by
 unfold RU at h
 split at h
 ·rename_i o0 o1 hl
  simp only[tH]at h
  obtain⟨p0,h1,p1,h2,l,h3,r,h4,h5⟩:=h
  obtain⟨h6,h7⟩:=AA h5
  simp only[Bool.and_eq_true]at h6
  injection h7 with h7
  subst h7
  obtain⟨a1,a2,a3⟩:=CI h1
  obtain⟨b1,b2,b3⟩:=CI h2
  rw[SH h3]at a3
  rw[Pw h4,← Ae h6.1,← Ae h6.2]at b3
  exact⟨o0,o1,hl,⟨a1,a2,a3⟩,b1,b2,b3⟩
 ·cases h
theorem RX{it:Tmp}{x:Tmp×Tmp}(h:RW it ops.toList=some x):Po ops it x.1 x.2:=by
 unfold RW at h
 split at h
 ·rename_i o0 o1 hl
  simp only[tH]at h
  obtain⟨p0,h1,p1,h2,l,h3,r,h4,h5⟩:=h
  obtain⟨h6,h7⟩:=AA h5
  simp only[Bool.and_eq_true]at h6
  injection h7 with h7
  subst h7
  obtain⟨a1,a2,a3⟩:=CI h1
  obtain⟨b1,b2,b3⟩:=CI h2
  rw[SI h3,Ae h6.1]at a3
  rw[MR h4,Ae h6.2]at b3
  exact⟨o0,o1,hl,⟨a1,a2,a3⟩,b1,b2,b3⟩
 ·cases h
theorem OU{it:Tmp}{x:Tmp×Tmp×Tmp}(h:Nm it ops.toList=some x):MI ops it x.1 x.2.1 x.2.2:=by
 unfold Nm at h
 split at h
 ·rename_i o0 o1 o2 hl
  simp only[tH]at h
  obtain⟨p0,h1,p1,h2,p2,h0,l,h3,r,h4,k,h8,h5⟩:=h
  obtain⟨h6,h7⟩:=AA h5
  simp only[Bool.and_eq_true]at h6
  injection h7 with h7
  subst h7
  obtain⟨a1,a2,a3⟩:=CI h1
  obtain⟨b1,b2,b3⟩:=CI h2
  obtain⟨c1,c2,c3⟩:=CI h0
  rw[Pu h3,Ae h6.1]at a3
  rw[MR h4,Ae h6.2.1]at b3
  rw[T9 h8,Ae h6.2.2]at c3
  exact⟨o0,o1,o2,hl,⟨a1,a2,a3⟩,⟨b1,b2,b3⟩,c1,c2,c3⟩
 ·cases h
theorem CN{t:Tmp}{v:Value}(h:t<a.tmps.size):(a.put (some t) v).eval (.tmp t)=v:=by
 simp[Act.put,Act.eval,Array.getD_eq_getD_getElem?,h]
theorem TE{i2:Nat}{it tn ok:Tmp}{r0:Addr}(h:Po ops it tn ok)(hit:a.eval (.tmp it)=.pointer (some r0))(htn:tn<a.tmps.size)
    (hrun:∀ty:TypeId,∃l b w',l[0]? = some b∧(Instr.next (.pointer (some r0)) false ty).run P w=.ok (.tuple l) w'∧Q .normal ((a.put (some tn) (.tuple l)).put (some ok) b) w'):
    (Code.region i2 ops false).wpIn (JY rnd) 0 P Q a w:=by
  obtain⟨o0,o1,hl,⟨a1,a2,a3⟩,b1,b2,b3⟩:=h.ex
  obtain⟨l,b,w',h1,h2,h3⟩:=hrun o0.type
  refine wpIn_region ?_
  rw[NY hl]
  show wpOpsIn (JY rnd) 0 P ops Q [0,1] a w
  rw[wpOpsIn_cons]
  refine Ia (Ic hl 0) a1 (fun c e=>by rw[a3]at e;cases e) (v':=.tuple l) (w':=w') ?_ ?_
  · simp only[execOp,a3,hit,Sem.run_bind,h2,Result.andThen,Sem.run_pure]
  · rw [wpOpsIn_cons, a2]
    refine Ia (Ic hl 1) b1 (fun c e=>by rw[b3]at e;cases e) (v':=b) (w':=w') ?_ ?_
    · simp only[execOp,b3,CN htn,Instr.extract,h1,Sem.run_bind,Result.andThen,Sem.run_pure]
    · rw[b2]
      exact h3
theorem QU           {i3 : Nat} {it te tk key : Tmp} {r0 : Addr} {l : Array Value} {b : Value} (h : MI       ops it te tk key) (hit : a.eval (.tmp it) = .pointer (some r0)) (hte : te < a.tmps.size) (htk : tk < a.tmps.size)
    (hl0:l[0]? = some b) (hrun:(Instr.entry (.pointer (some r0))).run P w=.ok (.tuple l) w) (hq:Q .normal (((a.put (some te) (.tuple l)).put (some tk) b).put (some key) b) w):
    (Code.region i3 ops false).wpIn (JY rnd) 0 P Q a w:=by
  obtain⟨o0,o1,o2,hl,⟨a1,a2,a3⟩,⟨b1,b2,b3⟩,c1,c2,c3⟩:=h.ex
  refine wpIn_region ?_
  rw[NY hl]
  show wpOpsIn (JY rnd) 0 P ops Q [0,1,2] a w
  rw[wpOpsIn_cons]
  refine Ia (Ic hl 0) a1 (fun c e=>by rw[a3]at e;cases e) (v':=.tuple l) (w':=w) ?_ ?_
  · simp only[execOp,a3,hit,Sem.run_bind,hrun,Result.andThen,Sem.run_pure]
  · rw [wpOpsIn_cons, a2]
    refine Ia (Ic hl 1) b1 (fun c e=>by rw[b3]at e;cases e) (v':=b) (w':=w) ?_ ?_
    · simp only[execOp,b3,CN hte,Instr.extract,hl0,Sem.run_bind,Result.andThen,Sem.run_pure]
    · rw [wpOpsIn_cons, b2]
      refine Ia (Ic hl 2) c1 (fun c e=>by rw[c3]at e;cases e) (v':=b) (w':=w) ?_ ?_
      · simp only[execOp,c3,CN (a:=a.put (some te) (.tuple l)) (t:=tk) (v:=b) (by rw[BH];exact htk),Sem.run_pure]
      · rw[c2]
        exact hq
structure jA(ρi:A5)(es:Array MapEntry)(f:AV→Option Pp)(S:Option (List AV×List (List AV)))(ch:MapEntry→AV×Pp):Prop where
 ex:∀e∈es.toList,AM ρi (ch e).1 e.key∧f (ch e).1=some (ch e).2∧∀X M,(ch e).2=.ret X M→∃Z,S=some (Z,M)∧OZ X Z
theorem born_inj{l:List MapEntry}(h:(l.map (·.born)).Nodup){x y:MapEntry}(hx:x∈l)(hy:y∈l)(e:x.born=y.born):x=y:=by
  induction l with
  | nil=>cases hx
  | cons a l ih =>
    simp only[ta,uS,List.mem_map]at h
    rcases uT.1 hx with hxa | hx'
    · rcases uT.1            hy with hya | hy'
      · rw[hxa,hya]
      · exact absurd ⟨y,hy',by rw[← e,hxa]⟩ h.1
    · rcases uT.1            hy with hya | hy'
      · exact absurd ⟨x,hx',by rw[e,hya]⟩ h.1
      · exact ih h.2 hx' hy'
theorem ZN{id2 idb:Nat}{K:Act→World→Prop}{Q':Exit→Act→World→Prop}(h:Q' .ret a w):Exit.inBlock id2 (Exit.then K (Exit.inBlock idb Q')) (FN .ret) a w:=h
theorem KU{id2:Nat}{e:MH}{K:Act→World→Prop}{Q':Exit→Act→World→Prop}(h:KT id2 e=true)(hk:K a w):Exit.inBlock id2 (Exit.then K Q') (FN e) a w:=by
 cases e with
 | normal=>exact hk
 | exit i =>
  have:i=id2:=Ae h
  show(if i=id2 then _ else _)
  rw[if_pos this]
  exact hk
 | ret=>cases h
variable{fn:Func}{A:List AV}{marks:List Nat}{bm clock:Nat}{es:Array MapEntry}{it tn ok te tk key:Tmp}{jt jok jk:Nat}
structure Zm(P:Program)(fn:Func)(it tn ok te tk key:Tmp)(jt jok jk:Nat):Prop where
 hjt:Aq (Ad P fn) it=some jt
 hjok:Aq (Ad P fn) ok=some jok
 hjk:Aq (Ad P fn) key=some jk
 ntn:Aq (Ad P fn) tn=none
 nte:Aq (Ad P fn) te=none
 ntk:Aq (Ad P fn) tk=none
 ltn:tn<fn.ntmps
 lte:te<fn.ntmps
 ltk:tk<fn.ntmps
 lok:ok<fn.ntmps
 lkey:key<fn.ntmps
 d1:jt≠jok
 d2:jt≠jk
 d3:jok≠jk
theorem YT{ρi:A5}{A:List AV}{tmps:Array Value}(hs:Zm P fn it tn ok te tk key jt jok jk)(hv:Ao P ρi fn A tmps)(hj:LV A jt=.ptr (some (s.next,0)))(hr:ρi s.next=some ⟨w.heap.size,0,0,0⟩):
  tmps.getD it undef=.pointer (some ⟨w.heap.size,0,none⟩):=by
 obtain⟨_,v,h1,h2⟩:=hv.rel it jt hs.hjt
 rw[Kd h1]at hj
 subst hj
 generalize tmps.getD it undef=x at h2
 cases h2 with
 | ptr h =>
  rw[hr]at h
  injection h with h
  subst h
  rfl
theorem ZO        {F : DH}  (hcode : KB     P F) {f : FuncId} {ops2 ops3 : Array Oper} {i2 i3 idb id2 : Nat} {body : Code} {r : Lp}   (hf : P.funcs[f]? = some fn) (hs : Zm    P fn it tn ok te tk key r.jt r.jok r.jk) (h2 : Po      ops2 it tn ok) (h3 : MI       ops3 it te tk key)
    (hi:As P ρ s w) (hfr:Ah ρ s) (hm:w.heap[bm]? = some (.map es clock)) (hst:MapKept.Stamped es clock) {rd:Option Nat} (hrnd:MK ρ rd rnd) (hid:id2=r.id2)
    (hA:LV A r.jt=.ptr (some (s.next,0))) {W:List Nat} {sf:AD} (hn1:sf.next=s.next+1) (hsm:Pq W s.heap sf.heap) (hWρ:∀j∈W,∃rb,ρ j=some rb) {S:Option (List AV×List (List AV))} {ch:MapEntry→AV×Pp}
    (hro:jA (A4 ρ s w) es (DP F rd r (Ab P f fn.ntmps (Ad P fn) body) A W marks sf) S ch)
    (hq:S=none→∀a' w' seen',Hd ρ s W w w' bm clock seen'→Ao P (A4 ρ s w) fn (F4 (.bool false) A r.jok) a'.tmps→BV (A4 ρ s w) marks a'.defers→Q .normal a' w')
    (hqr:∀Z M,S=some (Z,M)→∀a' w3 w' seen' ρ1 s1,Hd ρ s W w w3 bm clock seen'→Fr (A4 ρ s w) sf w3 ρ1 s1 w'→As P ρ1 s1 w'→ZM sf s1 W=some M→Ao P (A4 ρ s w) fn Z a'.tmps→BV (A4 ρ s w) marks a'.defers→Q .ret a' w'):
    ∀ (m:Nat) (a:Act) (w1:World) (seen:Array Nat),(leftOf es seen).size<m→(S=none∨∃e∈es.toList,seen.contains e.born=false∧∃X M,(ch e).2=.ret X M)→Hd ρ s W w w1 bm clock seen→Ao P (A4 ρ s w) fn A a.tmps→BV (A4 ρ s w) marks a.defers →
      Code.roundsIn (JY rnd) 0 P (.seq (.region i2 ops2 false) (.seq (.cond (.tmp ok) .skip (.exit idb)) (.block id2 (.seq (.region i3 ops3 false) body)))) (Exit.inBlock idb Q) m a w1:=by
  have hWb:∀j∈W,∀rb,ρ j=some rb→rb.b≠bm:=fun j hj rb hr e=>by
    obtain⟨_,r,k1,k2⟩:=hsm.inW j hj
    obtain⟨cs,k3,_⟩:=(show BF ρ w r rb from hi.obj j _ rb k1 hr).own (fun e=>by have:=(Cf k2).1;rw[e]at this;cases this)
    rw[e,hm]at k3
    cases k3
  have hltW:∀i rb,ρ i=some rb→rb.b<w.heap.size:=hi.lt
  have hWs:∀j∈W,(∃rb,ρ j=some rb)∧∃r,s.heap.get j=some (.row r)∧CL r=true:=fun j hj=>⟨hWρ j hj,(hsm.inW j hj).2⟩
  have hnx:=hfr s.next (tJ _)
  intro m
  induction m with
  | zero=>intro a w1 seen h;omega
  | succ m ih =>
    intro a w1 seen hlt hS hd hv hmk
    have hlt0:bm<w.heap.size:=by
      rcases tL bm w.heap.size with h | h
      · exact h
      · simp[Array.getElem?_eq_none h]at hm
    have hn:=(hfr s.next (tJ _)).1
    have hrit:A4 ρ s w s.next=some ⟨w.heap.size,0,0,0⟩:=AO _ _
    have hit:a.eval (.tmp it)=.pointer (some ⟨w.heap.size,0,none⟩):=YT hs hv hA hrit
    have hm1:w1.heap[bm]? = some (.map es clock):=by rw[hd.old bm hlt0 hWb];exact hm
    obtain⟨c0,hc0,hiter⟩:=hd.it
    have hst':=(MapKept.stamped_iff es clock).1 hst
    have hsz:fn.ntmps≤a.tmps.size:=hv.size
    rw[roundsIn_succ]
    refine wpIn_seq (TE h2 hit (tO hs.ltn hsz) fun ty=>?_)
    rcases run_next_at (P:=P) w1 ty w.heap.size bm clock c0 seen es clock hiter hm1 hst'.1 hc0 with⟨hz,hrun⟩ | ⟨e,he,w2,hw2,hrun⟩
    · refine⟨_,.bool false,w1,rfl,hrun,?_⟩
      have hSn:S=none:=by
        rcases hS with h | ⟨e,h,h',_⟩
        · exact h
        · rw[all_seen es seen hz e h]at h';cases h'
      have hv1:Ao P (A4 ρ s w) fn A (a.put (some tn) (.tuple #[.bool false])).tmps:=J9 hv hs.ntn _
      have hv2:Ao P (A4 ρ s w) fn (F4 (.bool false) A r.jok) ((a.put (some tn) (.tuple #[.bool false])).put (some ok) (.bool false)).tmps:=R4 hv1 hs.hjok (.bool false) (by rw[BH];exact tO hs.lok hsz)
      refine wpIn_seq (wpIn_cond (t:=false) ?_ ?_)
      · exact CN (by rw[BH];exact tO hs.lok hsz)
      · refine wpIn_exit ?_
        show(if idb=idb then Q .normal _ _ else _)
        rw[if_pos rfl]
        exact hq hSn _ _ _ hd hv2 (by rw[Bt,Bt];exact hmk)
    · refine⟨_,.bool true,_,rfl,hrun,?_⟩
      have U7:Hd ρ s W w (setBlock w2 w.heap.size (.mapIter (some bm) clock (seen.push e.born) clock)) bm clock (seen.push e.born):=hd.step hltW (tJ _) hw2
      have hit3:(setBlock w2 w.heap.size (.mapIter (some bm) clock (seen.push e.born) clock)).heap[w.heap.size]? = some (.mapIter (some bm) clock (seen.push e.born) clock):=by
        have e1:w2.heap=w1.heap:=by rcases hw2 with rfl | rfl<;>rfl
        have hl:=hd.lt
        show(w2.heap.setIfInBounds _ _)[w.heap.size]? = _
        rw[e1]
        simp[hl]
      generalize setBlock w2 w.heap.size (.mapIter (some bm) clock (seen.push e.born) clock)=w3 at U7 hit3
      have hm3:w3.heap[bm]? = some (.map es clock):=by rw[U7.old bm hlt0 hWb];exact hm
      obtain⟨hes,_⟩:=mem_left he
      obtain⟨hk,hround,hret⟩:=hro.ex e hes
      generalize hke:(ch e).1=k at hk hround
      have hv1:Ao P (A4 ρ s w) fn A (a.put (some tn) (.tuple #[.bool true,e.key,e.val])).tmps:=J9 hv hs.ntn _
      have hv2:Ao P (A4 ρ s w) fn (F4 (.bool true) A r.jok) ((a.put (some tn) (.tuple #[.bool true,e.key,e.val])).put (some ok) (.bool true)).tmps:=R4 hv1 hs.hjok (.bool true) (by rw[BH];exact tO hs.lok hsz)
      have hv1':Ao P (A4 ρ s w) fn A a.tmps:=hv
      have hjA2:LV (F4 (.bool true) A r.jok) r.jt=.ptr (some (s.next,0)):=by rw[Ff hs.d1];exact hA
      refine wpIn_seq (wpIn_cond (t:=true) ?_ (wpIn_skip ?_))
      · exact CN (by rw[BH];exact tO hs.lok hsz)
      show Code.wpIn (JY rnd) 0 P _ _ _ _
      have hmk2:BV (A4 ρ s w) marks ((a.put (some tn) (.tuple #[.bool true,e.key,e.val])).put (some ok) (.bool true)).defers:=by rw[Bt,Bt];exact hmk
      have hsz2:fn.ntmps≤((a.put (some tn) (.tuple #[.bool true,e.key,e.val])).put (some ok) (.bool true)).tmps.size:=hv2.size
      generalize (a.put (some tn) (.tuple #[.bool true,e.key,e.val])).put (some ok) (.bool true)=a2 at hv2 hmk2 hsz2
      refine wpIn_block (wpIn_seq (QU h3 (YT hs hv2 hjA2 hrit) (tO hs.lte hsz2) (tO hs.ltk hsz2) (l:=#[e.key,e.val]) (b:=e.key) rfl (run_entry_at w3 w.heap.size bm clock seen es clock e hit3 hm3 hes hst'.2.1) ?_))
      show Code.wpIn (JY rnd) 0 P _ _ _ _
      have hv3:Ao P (A4 ρ s w) fn (F4 k (F4 (.bool true) A r.jok) r.jk) (((a2.put (some te) (.tuple #[e.key,e.val])).put (some tk) e.key).put (some key) e.key).tmps:=by
        have g1:Ao P (A4 ρ s w) fn (F4 (.bool true) A r.jok) (a2.put (some te) (.tuple #[e.key,e.val])).tmps:=J9 hv2 hs.nte _
        have g2:Ao P (A4 ρ s w) fn (F4 (.bool true) A r.jok) ((a2.put (some te) (.tuple #[e.key,e.val])).put (some tk) e.key).tmps:=J9 g1 hs.ntk _
        exact R4 g2 hs.hjk hk (by rw[BH,BH];exact tO hs.lkey hsz2)
      have hmk3:BV (A4 ρ s w) marks (((a2.put (some te) (.tuple #[e.key,e.val])).put (some tk) e.key).put (some key) e.key).defers:=by rw[Bt,Bt,Bt];exact hmk2
      generalize ((a2.put (some te) (.tuple #[e.key,e.val])).put (some tk) e.key).put (some key) e.key=a3 at hv3 hmk3
      unfold DP at hround
      simp only[tH]at hround
      obtain⟨q,hq1,hq2⟩:=hround
      obtain⟨hq3,hq4⟩:=AA hq2
      have hmkq:=Jz hq3
      have hb1:As P (A4 ρ s w) sf w3:=by
        have:=(U7.invN (U7.now hWs hfr) hi hfr).semi (n:=sf.next) hsm
        exact this
      have hb2:Ah (A4 ρ s w) sf:=by
        have:=(U4 hfr (U7.now (P:=P) hWs hfr)).semi (W:=W) (h':=sf.heap) hsm
        have e:(⟨s.next+1,sf.heap⟩:AD)=sf:=by rw[← hn1]
        rw[← e];exact this
      refine hcode f fn body rd rnd _ marks sf q (A4 ρ s w) w3 a3 _ hf hq1 ⟨hb1,hb2,hv3,hmk3,hrnd.mono (A2 hn)⟩ ?_
      intro a4 w4 ρ4 g
      have hle4:=g.fr.le
      have hmk4:BV (A4 ρ s w) marks a4.defers:=by
        have:=g.marks
        rw[hmkq]at this
        rw[PB hmk3 this hle4]
        exact hmk3
      subst hid
      have hgo:∀e',e'=q.exit→e'≠.ret→KT r.id2 e'=true→OZ q.var A→PS sf q.st W=true→(ch e).2=.go→Exit.inBlock r.id2 (Exit.then (fun a w=>Code.roundsIn (JY rnd) 0 P (.seq (.region i2 ops2 false) (.seq (.cond (.tmp ok) .skip (.exit idb)) (.block r.id2 (.seq (.region i3 ops3 false) body)))) (Exit.inBlock idb Q) m a w) (Exit.inBlock idb Q)) (FN e') a4 w4:=by
        intro e' _ _ h1 h2' hsW h3'
        have hd4:Hd ρ s W w w4 bm clock (seen.push e.born):=U7.round P hnx hltW hsm (n:=sf.next) g.fr g.inv hsW
        have hmg:Ao P (A4 ρ s w) fn A a4.tmps:=Vs hv1' g.vars hle4 (.refl _) h2'
        refine KU h1 ?_
        refine ih a4 w4 (seen.push e.born) (by have:=left_shrinks es seen e he;omega) ?_ hd4 hmg hmk4
        rcases hS with h | ⟨e0,h4,h5,X,M,h6⟩
        · exact .inl h
        · refine .inr ⟨e0, h4, ?_, X, M, h6⟩
          rw[Array.contains_push,h5]
          simp only[Bool.false_or]
          cases hb:(e0.born == e.born)with
          | false=>first | rfl | (rw[Bool.beq_comm] ; exact hb)
          | true =>
            have:=born_inj hst'.2.1 h4 hes (by simpa using hb)
            subst this
            rw[h3']at h6
            cases h6
      cases hex:q.exit with
      | ret =>
        rw[hex]at hq4
        simp only[tH]at hq4
        obtain⟨X,h4,M,h4',h5⟩:=hq4
        injection h5 with h5
        obtain⟨Z,h6,h7⟩:=hret X M h5.symm
        refine ZN ?_
        exact hqr Z M h6 _ _ _ _ _ _ U7 g.fr g.inv h4' (iq hv1' g.vars hle4 h4 h7) hmk4
      | normal =>
        rw[hex]at hq4
        obtain⟨h4,h5⟩:=AA hq4
        simp only[Bool.and_eq_true]at h4
        injection h5 with h5
        exact hgo _ hex.symm (by simp) h4.1 (Mj h4.2.1) h4.2.2 h5.symm
      | exit i =>
        rw[hex]at hq4
        obtain⟨h4,h5⟩:=AA hq4
        simp only[Bool.and_eq_true]at h4
        injection h5 with h5
        exact hgo _ hex.symm (by simp) h4.1 (Mj h4.2.1) h4.2.2 h5.symm
theorem Nt(o:Option Lp)(x y:Aa):Ns o x y=.seq x y∨∃r c,Ns o x y=.rangeMap r c∧o=some r∧HW y=some c:=by
 unfold Ns
 cases o with
 | none=>exact .inl rfl
 | some r =>
  cases h:HW y with
  | none=>simp[h]
  | some c=>exact .inr ⟨r,c,rfl,rfl,rfl⟩
theorem fj:∀ {a b:List (List AV)},rY a b=true→a=b
 | [],[],_=>rfl
 | x::l,y::m,h=>by
  simp only[rY,Bool.and_eq_true]at h
  have:=FA h.1
  injection this with this
  rw[this,fj h.2]
 | [],_::_,h=>by cases h
 | _::_,[],h=>by cases h
theorem FY          {g : AV → Option Pp}   : ∀ {l : List (AV × AV)} {R S : Option (List AV × List (List AV))}, GY     g R l = some S →
    (∀x∈l,∃o,g x.1=some o∧∀X M,o=.ret X M→∃Z,S=some (Z,M)∧OZ X Z)∧(∀Y,R=some Y→∃Z,S=some (Z,Y.2)∧OZ Y.1 Z)∧(R=none→S=none∨∃x∈l,∃X M,g x.1=some (.ret X M))
  | [],R,S,h=>by injection h with h;subst h;exact⟨fun x hx=>(by cases hx),fun Y h=>⟨Y.1,h,.refl _⟩,fun h=>.inl h⟩
  | e::l,R,S,h=>by
    unfold GY at h
    simp only[tH]at h
    obtain⟨o,h1,h2⟩:=h
    cases o with
    | go =>
      obtain⟨g1,g2,g3⟩:=FY h2
      refine And.intro (fun x hx=>?_) (And.intro g2 fun h=>(g3 h).imp id fun⟨x,hx,h⟩=>⟨x,tW _ hx,h⟩)
      rcases uT.1 hx with rfl | hx
      · exact⟨_,h1,fun X M h=>(by cases h)⟩
      · exact g1 x hx
    | ret X M =>
      cases R with
      | none =>
        obtain⟨g1,g2,g3⟩:=FY h2
        refine And.intro (fun x hx=>?_) (And.intro (fun Y h=>(by cases h)) fun _=>.inr ⟨e,tS ..,X,M,h1⟩)
        rcases uT.1 hx with rfl | hx
        · exact⟨_,h1,fun X' M' h=>(by injection h with h h';subst h h';exact g2 _ rfl)⟩
        · exact g1 x hx
      | some Y =>
        obtain⟨hb,h2⟩:=AA h2
        simp only[tH]at h2
        obtain⟨Z,h3,h4⟩:=h2
        have hM:=fj hb
        obtain⟨m1,m2⟩:=NM h3
        obtain⟨g1,g2,g3⟩:=FY h4
        obtain⟨Z',e1,e2⟩:=g2 _ rfl
        refine And.intro (fun x hx=>?_) (And.intro (fun Y' h=>(by injection h with h;subst h;exact⟨Z',e1,m1.trans e2⟩)) fun h=>(by cases h))
        rcases uT.1 hx with rfl | hx
        · exact⟨_,h1,fun X' M' h=>(by injection h with h h';subst h h';exact⟨Z',by rw[← hM];exact e1,m2.trans e2⟩)⟩
        · exact g1 x hx
theorem HH{var:List AV}{i:Nat}:∀ {l:List CX},i∈OY var l→∃j o,CX.var j∈l∧var[j]? = some (.ptr (some (i,o)))
  | [],h=>by cases h
  | .var j::l,h=>by
    unfold OY at h
    split at h
    · rename_i i' o hj
      rcases uT.1 h with rfl | h
      · exact⟨j,o,tS ..,hj⟩
      · obtain⟨j',o',h1,h2⟩:=HH h;exact⟨j',o',tW _ h1,h2⟩
    · obtain⟨j',o',h1,h2⟩:=HH h;exact⟨j',o',tW _ h1,h2⟩
  | .loc _::l,h=>by obtain⟨j',o',h1,h2⟩:=HH (l:=l) h;exact⟨j',o',tW _ h1,h2⟩
  | .const _::l,h=>by obtain⟨j',o',h1,h2⟩:=HH (l:=l) h;exact⟨j',o',tW _ h1,h2⟩
theorem ZL{f:FuncId}{vars:List Tmp}{j:Nat}(h:CX.var j∈YF P f vars):∃t,Aq vars t=some j:=by
 unfold YF at h
 split at h
 ·obtain⟨v,_,h2⟩:=List.mem_filterMap.1 h
  split at h2
  ·rename_i t' _ _
   obtain⟨k,h3,h4⟩:=Option.map_eq_some_iff.1 h2
   injection h4 with h4
   subst h4
   exact⟨_,h3⟩
  ·cases h2
 ·cases h
theorem CT.mem'{l:List (AV×AV)}{l':List MapEntry}(h:CT ρ l l'):∀x∈l,∃e∈l',AM ρ x.1 e.key:=by
 induction h with
 | nil=>intro e he;cases he
 | cons hk hv hs ih =>
  intro e he
  rcases uT.1 he with rfl | he
  ·exact⟨_,tS ..,hk⟩
  ·obtain⟨x,h1,h2⟩:=ih e he
   exact⟨x,tW _ h1,h2⟩
theorem CT.mem{l:List (AV×AV)}{l':List MapEntry}(h:CT ρ l l'):∀e∈l',∃x∈l,AM ρ x.1 e.key:=by
 induction h with
 | nil=>intro e he;cases he
 | cons hk hv hs ih =>
  intro e he
  rcases uT.1 he with rfl | he
  ·exact⟨_,tS ..,hk⟩
  ·obtain⟨x,h1,h2⟩:=ih e he
   exact⟨x,tW _ h1,h2⟩
theorem ph     {F : DH}  (hcode : KB     P F) {f : FuncId} {c b : Code} {r : Lp}   {cb : Aa}    {rd : Option Nat} {var : List AV} {res : Ax}   (hf : P.funcs[f]? = some fn) (hr : IL    P f fn.ntmps (Ad     P fn) c b = some r)
    (hcb:HW (Ab P f fn.ntmps (Ad P fn) b)=some cb) (hc:jO F rd r cb var marks s=some res) (hb:IQ P fn ρ s w var marks rd rnd a)
    (hq:∀a' w' ρ',IR P fn ρ s w res a' w' ρ'→Q (FN res.exit) a' w'):(Code.seq c b).wpIn (JY rnd) 0 P Q a w:=by
  unfold IL at hr
  split at hr<;>first | (cases hr;done) | skip
  rename_i b i1 ops1 d1
  simp only[tH]at hr
  obtain⟨p,hp,hr⟩:=hr
  unfold iG at hp
  split at hp<;>first | (cases hp;done) | skip
  rename_i idb i2 ops2 tc ide id2 i3 ops3 body
  obtain⟨Tz,hp⟩:=AA hp
  simp only[tH]at hp
  obtain⟨h,hh,n,hn,e,he,hp⟩:=hp
  obtain⟨hg,hp⟩:=AA hp
  simp only[Bool.and_eq_true]at hg
  injection hp with hpe
  have e1:=Ae hg.1
  have e2:=Ae hg.2
  subst e1
  subst e2
  cases d1 with
  | true=>cases Tz
  | false =>
  have H1:=RV hh
  have H2:=RX hn
  have H3:=OU he
  have hcb':cb=Ab P f fn.ntmps (Ad P fn) body:=by
    simp only[Ab]at hcb
    rcases Nt (IL P f fn.ntmps (Ad P fn) (.region i2 ops2 false) (.seq (.cond (.tmp n.2) .skip (.exit ide)) (.block id2 (.seq (.region i3 ops3 false) body)))) (Ab P f fn.ntmps (Ad P fn) (.region i2 ops2 false)) (Ab P f fn.ntmps (Ad P fn) (.seq (.cond (.tmp n.2) .skip (.exit ide)) (.block id2 (.seq (.region i3 ops3 false) body))))with h1 | ⟨r',c',h1,h2,_⟩
    · simp only[Ab]at h1
      rw[h1]at hcb
      rcases Nt (IL P f fn.ntmps (Ad P fn) (.region i3 ops3 false) body) (Ab P f fn.ntmps (Ad P fn) (.region i3 ops3 false)) (Ab P f fn.ntmps (Ad P fn) body)with h2 | ⟨r',c',h2,_,_⟩
      · simp only[Ab]at h2
        rw[h2]at hcb
        simp only[IL,Ns,HW]at hcb
        injection hcb with hcb
        exact hcb.symm
      · simp only[Ab]at h2
        rw[h2]at hcb
        simp only[IL,Ns,HW]at hcb
        cases hcb
    · simp only[IL,iG]at h2
      cases h2
  subst hcb'
  clear hcb
  unfold W8 at hr
  simp only[tH]at hr
  obtain⟨ad,hx,jt,hjt,jok,hjok,jk,hjk,hr⟩:=hr
  obtain⟨g1,hr⟩:=AA hr
  obtain⟨g2,hr⟩:=AA hr
  obtain⟨g3,hr⟩:=AA hr
  injection hr with hr
  subst hpe
  simp only at hx hjt hjok hjk g1 g2 g3 hr
  simp only[Bool.and_eq_true,Option.isNone_iff_eq_none,Bool.not_eq_true']at g1 g2 g3
  have blt:∀ {x y:Nat},Nat.blt x y=true→x<y:=fun h=>uc h
  have bne:∀ {x y:Nat},Nat.beq x y=false→x≠y:=fun h e=>by subst e;simp at h
  have hs:Zm P fn h.2.2.2 n.1 n.2 e.1 e.2.1 e.2.2 r.jt r.jok r.jk:=by
    subst hr
    exact⟨hjt,hjok,hjk,g1.2.1,g1.2.2.1,g1.2.2.2,blt g2.2.1,blt g2.2.2.1,blt g2.2.2.2.1,blt g2.2.2.2.2.2.1,blt g2.2.2.2.2.2.2,bne g3.2.1,bne g3.2.2.1,bne g3.2.2.2⟩
  have hrid:id2=r.id2:=by subst hr;rfl
  have hrad:r.ad=ad:=by subst hr;rfl
  have hrres:r.res=YF P f (Ad P fn):=by subst hr;rfl
  have hrrd:∀s v,r.rd s v=AG P s h.1 v:=by subst hr;intro s v;rfl
  clear hr
  unfold jO at hc
  simp only[tH]at hc
  obtain⟨m,hm,es,hes,hAF⟩:=hc
  rw[hrrd,hrad]at hm
  have hents:∃i kt es',m=.map (some i)∧es=es'∧(s.heap.get i=some (.map kt es')∨s.heap.get i=some (.mapRo kt es')):=by
    unfold X8 at hes
    split at hes<;>first | (cases hes;done) | skip
    rename_i i
    split at hes<;>first | (cases hes;done) | skip
    · rename_i kt es' hget
      injection hes with hes
      exact⟨i,kt,es',rfl,hes.symm,.inl hget⟩
    · rename_i kt es' hget
      injection hes with hes
      exact⟨i,kt,es',rfl,hes.symm,.inr hget⟩
  obtain⟨i,kt,es',rfl,rfl,hget⟩:=hents
  clear hes
  obtain⟨v',hrun,hv',hdrop⟩:=NH hb.inv hm (NV hb.vars hx)
  clear hdrop
  cases hv' with
  | map hρ =>
  rename_i rb
  obtain⟨esM,clock,hM,hst,⟨l,hperm,herel⟩,_⟩:=(show Gj P ρ w kt es rb from hget.elim (fun h=>hb.inv.obj i _ rb h hρ) (fun h=>hb.inv.obj i _ rb h hρ)).ex
  have hmt:∃k e,P.underlying h.1=some (.map k e):=by
    have:=g3.1
    unfold Ka at this
    split at this
    · rename_i k e hu;exact⟨k,e,hu⟩
    · cases this
  obtain⟨tk,te,hmt⟩:=hmt
  have hn0:=(hb.fresh s.next (tJ _)).1
  have hle:ρ.le (A4 ρ s w):=A2 hn0
  have hrit:A4 ρ s w s.next=some ⟨w.heap.size,0,0,0⟩:=AO _ _
  obtain⟨o0,o1,hl,⟨a1,a2,a3⟩,b1,b2,b3⟩:=H1.ex
  have hsz:fn.ntmps≤a.tmps.size:=hb.vars.size
  refine wpIn_seq (wpIn_region ?_)
  rw[NY hl]
  show wpOpsIn (JY rnd) 0 P ops1 _ [0,1] a w
  rw[wpOpsIn_cons]
  refine Ia (Ic hl 0) a1 (fun c e=>by rw[a3]at e;cases e) (v':=.map (some rb.b)) (w':=w) ?_ ?_
  · simp only[execOp,a3,hrun,Sem.run_bind,Result.andThen,Sem.run_pure]
  rw[wpOpsIn_cons,a2]
  refine Ia (Ic hl 1) b1 (fun c e=>by rw[b3]at e;cases e) (v':=.pointer (some ⟨w.heap.size,0,none⟩)) (w':=w.alloc (.mapIter (some rb.b) clock #[] clock)) ?_ ?_
  · simp only[execOp,b3,CN (tO (blt g2.1) hsz),Sem.run_bind,run_range_map w h.1 tk te rb.b esM clock hmt hM,Result.andThen,Sem.run_pure]
  rw[b2]
  show Code.wpIn (JY rnd) 0 P _ _ _ _
  have hd0:∀W,(∀j∈W,∃r,s.heap.get j=some (.row r)∧CL r=true)→Hd ρ s W w (w.alloc (.mapIter (some rb.b) clock #[] clock)) rb.b clock #[]:=fun W hW =>
    ⟨⟨by simp,fun b hb _=>heap_alloc_old w _ hb,rfl,rfl,rfl⟩,fun j hj r rb' hr hrb=>(show DK (default:Program) ρ w (.row r) rb' from hb.inv.obj j _ rb' hr hrb).mono (A5.le_refl _) (heap_alloc_old w _ (hb.inv.lt j rb' hrb)),clock,tJ _,heap_alloc_new w _⟩
  have hv0:Ao P (A4 ρ s w) fn (F4 (.ptr (some (s.next,0))) var r.jt) ((a.put (some h.2.2.1) (.map (some rb.b))).put (some h.2.2.2) (.pointer (some ⟨w.heap.size,0,none⟩))).tmps:=by
    have k1:Ao P (A4 ρ s w) fn var (a.put (some h.2.2.1) (.map (some rb.b))).tmps:=J9 (hb.vars.mono hle) g1.1 _
    exact R4 k1 hs.hjt (AM.ptr (rb:=⟨w.heap.size,0,0,0⟩) (o:=0) hrit) (by rw[BH];exact tO (blt g2.2.2.2.2.1) hsz)
  have hmk0:BV (A4 ρ s w) marks ((a.put (some h.2.2.1) (.map (some rb.b))).put (some h.2.2.2) (.pointer (some ⟨w.heap.size,0,none⟩))).defers:=by
    rw[Bt,Bt];exact hb.marks.mono hle
  generalize (a.put (some h.2.2.1) (.map (some rb.b))).put (some h.2.2.2) (.pointer (some ⟨w.heap.size,0,none⟩))=a0 at hv0 hmk0
  have hA0:LV (F4 (.ptr (some (s.next,0))) var r.jt) r.jt=.ptr (some (s.next,0)):=Jn (by rw[hb.vars.len];exact Cw hs.hjt)
  generalize hA0e:F4 (.ptr (some (s.next,0))) var r.jt=A0 at hAF hv0 hA0
  unfold Nn at hAF
  simp only[tH]at hAF
  obtain⟨J,_,A',hJ,hAF⟩:=hAF
  obtain⟨hjA,hAF⟩:=AA hAF
  simp only[tH]at hAF
  obtain⟨sf,hsf,S',hS,hAF⟩:=hAF
  obtain⟨hn1,hsm⟩:=Yu hsf
  simp only[Bool.and_eq_true]at hjA
  have hjF:LV A' r.jt=.ptr (some (s.next,0)):=FA hjA.1
  have hWρ:∀j∈OY A0 r.res,∃rb,ρ j=some rb:=fun j hj=>by
    obtain⟨k,o,h1,h2⟩:=HH hj
    rw[hrres]at h1
    obtain⟨t,ht⟩:=ZL h1
    obtain⟨_,v,h3,h4⟩:=hv0.rel t k ht
    rw[h2]at h3
    injection h3 with h3
    subst h3
    obtain⟨_,r1,h5,_⟩:=hsm.inW j hj
    have hne:j≠s.next:=fun e=>by
      rw[e,(hb.fresh s.next (tJ _)).2]at h5;cases h5
    generalize a0.tmps.getD t undef=x at h4
    cases h4 with
    | ptr h =>
      unfold A4 at h
      rw[AL _ hne]at h
      exact⟨_,h⟩
  generalize OY A0 r.res=W at *
  have hWs:∀j∈W,(∃rb,ρ j=some rb)∧∃r,s.heap.get j=some (.row r)∧CL r=true:=fun j hj=>⟨hWρ j hj,(hsm.inW j hj).2⟩
  have hd0:=hd0 W fun j hj=>(hWs j hj).2
  have hvA:Ao P (A4 ρ s w) fn A' a0.tmps:=ip hv0 (ND hJ)
  obtain⟨k5,_,k7⟩:=FY hS
  have k7:=k7 rfl
  have hch:∀e:MapEntry,∃c:AV×Pp,e∈esM.toList→(AM (A4 ρ s w) c.1 e.key∧(DP F rd r (Ab P f fn.ntmps (Ad P fn) body) A' W marks sf) c.1=some c.2∧(∀X M,c.2=.ret X M→∃Z,S'=some (Z,M)∧OZ X Z)) ∧
      ((∃x∈es,AM (A4 ρ s w) x.1 e.key∧∃X M,(DP F rd r (Ab P f fn.ntmps (Ad P fn) body) A' W marks sf) x.1=some (.ret X M))→∃X M,c.2=.ret X M):=by
    intro e
    by_cases he:e∈esM.toList
    · by_cases hr : ∃ x ∈ es, AM   (A4    ρ s w) x.1 e.key ∧ ∃ X M, (DP       F rd r (Ab       P f fn.ntmps (Ad     P fn) body) A' W marks sf) x.1 = some (.ret X M)
      · obtain⟨x,hx1,hx2,X,M,hx3⟩:=hr
        refine⟨(x.1,.ret X M),fun _=>⟨⟨hx2,hx3,fun X' M' h=>?_⟩,fun _=>⟨X,M,rfl⟩⟩⟩
        obtain⟨o,ho,ho2⟩:=k5 x hx1
        rw[hx3]at ho
        injection ho with ho
        exact ho2 X' M' (ho.symm.trans h)
      · obtain ⟨x, hx1, hx2⟩ := herel.mem e (hperm.mem_iff.2 he)
        obtain⟨o,ho,ho2⟩:=k5 x hx1
        exact⟨(x.1,o),fun _=>⟨⟨hx2.mono hle,ho,ho2⟩,fun h=>absurd h hr⟩⟩
    · exact⟨(.junk,.go),fun h=>absurd h he⟩
  obtain⟨ch,hch⟩:=Classical.axiomOfChoice hch
  have hS0:S'=none∨∃e∈esM.toList,(#[]:Array Nat).contains e.born=false∧∃X M,(ch e).2=.ret X M:=by
    refine k7.imp id fun⟨x,hx,X,M,h⟩=>?_
    obtain⟨e,he,hv⟩:=herel.mem' x hx
    exact⟨e,hperm.mem_iff.1 he,by simp,(hch e (hperm.mem_iff.1 he)).2 ⟨x,hx,hv.mono hle,X,M,h⟩⟩
  refine wpIn_block (wpIn_loop_rounds ((leftOf esM #[]).size+1) ?_)
  refine ZO hcode hf hs H2 H3 hb.inv hb.fresh hM hst hb.rnd hrid hjF hn1 hsm hWρ (S:=S') (ch:=ch) ⟨fun e he=>(hch e he).1⟩ ?_ ?_ _ a0 _ #[] (t6 _) hS0 hd0 hvA hmk0
  · intro hn a' w' seen' hd' hv' hmk'
    subst hn
    injection hAF with hAF
    subst hAF
    have hnow:=hd'.now (P:=P) hWs hb.fresh
    exact hq a' w' (A4 ρ s w) ⟨hd'.invN hnow hb.inv hb.fresh,U4 hb.fresh hnow,hd'.frN hnow hb.fresh,hv',hmk'⟩
  · intro Z M hn a' w3 w' seen' ρ1 s1 hd3 hfr1 hinv1 hret hv' hmk'
    subst hn
    simp only[tH]at hAF
    obtain⟨h2,hset,hAF⟩:=hAF
    injection hAF with hAF
    subst hAF
    have hnx:=hb.fresh s.next (tJ _)
    have hnow:=lD (n:=sf.next) hd3 hWρ hnx hsm hfr1.le hinv1 hret rfl hset
    have hd':=(hd3.ended P hnx hb.inv.lt hsm (n:=sf.next) hfr1).1
    exact hq a' w' (A4 ρ s w) ⟨hd'.invN hnow hb.inv hb.fresh,U4 hb.fresh hnow,hd'.frN hnow hb.fresh,hv',hmk'⟩
end
end
end Go.Proofs.YtoaaclpjkelofaaGreatDoor.Am
set_option linter.unusedVariables false
set_option linter.unusedSimpArgs false
namespace Go.Proofs.YtoaaclpjkelofaaGreatDoor.Am
open Go
noncomputable section
section
variable{P:Program}{ρ ρ1 ρ2:A5}{s s1 s2:AD}{w w1 w2:World}
theorem iA(hng:EC P){F:DH}(hcall:Av P F.call){f:FuncId}{fn:Func}{g:Operand}{x:CX}{ps:Array Tmp}{assign body:Code}{rnd r:Option Nat}{var:List AV}{marks:List Nat}{s:AD}{res:Ax}{ρ:A5}{w:World}{a:Act}{Q:Exit→Act→World→Prop}
    (hf:P.funcs[f]? = some fn) (hx:Eh (Ad P fn) ⟨[],0⟩ g=some x) (hc:Mf F rnd f (Cc [] var x) ps assign body var marks s=some res) (hb:IQ P fn ρ s w var marks rnd r a)
    (hq:∀a' w' ρ',IR P fn ρ s w res a' w' ρ'→Q (FN res.exit) a' w'):(Code.rangeFunc g ps assign body).wpIn (JY r) 0 P Q a w:=by
  have hgv:AM ρ (Cc [] var x) (a.eval g):=NV hb.vars hx
  have res1:∀l:Nat,(resolve a.eval (rangeCall g l) 0:Sem Deferred)=Deferred.ofValue (a.eval g) #[.func (.yield l) #[] #[]]:=by
    intro l
    simp[resolve,Act.eval]
  refine wpIn_rangeFunc fun fn' _=>?_
  unfold Mf at hc
  cases rnd with
  | some l =>
    simp only[tH]at hc
    obtain⟨al,hl,hc⟩:=hc
    obtain⟨rb,h1,h2⟩:=hb.rnd
    subst h2
    have hgl:=FI hl
    obtain⟨L,h0,_,_,_,_,_,⟨rd,Tz,U7⟩,_⟩:=(hb.inv.obj _ _ _ hgl h1:Gi P ρ w al rb).ex
    have hent:=Hj (P:=P) h0 fn' a.tmps ps assign body
    rw[U7]at hent
    obtain⟨d,f0,args,k1,k2,k3⟩:=Nk (r:=some rb.b) (Q:=Q) hng hcall hf hc hb.inv hb.fresh hb.vars hb.marks hgv Tz fn' fun w' ρ' h=>hq a w' ρ' h
    refine⟨_,_,_,d,_,f0,args,_,hent,?_,fun _ _=>trivial,k2 _,(fun e=>by cases e),k3⟩
    rw[res1,k1]
    rfl
  | none =>
    have hr:r=none:=hb.rnd
    subst hr
    let rb:RB:=⟨w.heap.size,0,0,0⟩
    have hn0:=(hb.fresh _ (tJ s.next)).1
    have hle:=A2 (rb:=rb) hn0
    obtain⟨hi1,hfr1⟩:=hb.inv.new (o:=.mark) (o':=.deferred (some [])) (rb:=rb) hn0 rfl (World.alloc_heap_new w _)
    have hff:=hb.fresh.new .mark rb
    have Tz:Bh ρ s.next rb s.next=some rb:=AO _ _
    obtain⟨d,f0,args,k1,k2,k3⟩:=Nk (r:=none) (Q:=Q) (a:={ a with defers:=[{ target:=.collected w.heap.size,args:=#[] }]++a.defers }) hng hcall hf hc hi1 hff (hb.vars.mono hle)
      ⟨rb,a.defers,Tz,rfl,hb.marks.mono hle⟩ (hgv.mono hle) Tz fn' fun w' ρ' h=>hq _ w' ρ' (IR.trans (r1:=res) (a1:=a) hfr1 h)
    have hsz:(w.alloc (.deferred (some []))).heap.size=w.heap.size+1:=by simp
    rw[hsz]at k1 k3
    refine⟨_,_,_,d,_,f0,args,_,run_enterLoop_outer fn' a.tmps ps assign body,?_,fun _ _=>trivial,k2 _,(fun e=>by cases e),k3⟩
    rw[res1,k1]
    rfl
theorem Yn        (hm : P.follows .mixedOrders = true) (hng : EC      P) {F : DH}  {n : Nat} (h : SC    P F n) {call : FuncId → List AV → AD  → Option (AV × AD)}  {round : Nat → List AV → AD  → Option (AV × AD)}  : KB     P ⟨CR    F, call, round⟩ := by
  intro f fn c
  have hF:=h.fok hng
  induction c with
  | skip =>
    intro rnd r var marks s res ρ w a Q hf hc hb hq
    injection (show some (⟨.normal,var,marks,s⟩:Ax)=some res from hc)with hc
    subst hc
    exact wpIn_skip (hq a w ρ ⟨hb.inv,hb.fresh,Fr.refl _ _ _,hb.vars,hb.marks⟩)
  | label l =>
    intro rnd r var marks s res ρ w a Q hf hc hb hq
    injection (show some (⟨.normal,var,marks,s⟩:Ax)=some res from hc)with hc
    subst hc
    exact wpIn_label (hq a w ρ ⟨hb.inv,hb.fresh,Fr.refl _ _ _,hb.vars,hb.marks⟩)
  | ret =>
    intro rnd r var marks s res ρ w a Q hf hc hb hq
    injection (show some (⟨.ret,var,marks,s⟩:Ax)=some res from hc)with hc
    subst hc
    exact wpIn_ret (hq a w ρ ⟨hb.inv,hb.fresh,Fr.refl _ _ _,hb.vars,hb.marks⟩)
  | exit id =>
    intro rnd r var marks s res ρ w a Q hf hc hb hq
    injection (show some (⟨.exit id,var,marks,s⟩:Ax)=some res from hc)with hc
    subst hc
    exact wpIn_exit (hq a w ρ ⟨hb.inv,hb.fresh,Fr.refl _ _ _,hb.vars,hb.marks⟩)
  | goto l=>intro rnd r var marks s res ρ w a Q hf hc;cases hc
  | refuse u=>intro rnd r var marks s res ρ w a Q hf hc;cases hc
  | region id ops draw =>
    intro rnd r var marks s res ρ w a Q hf hc hb hq
    exact pY hm hF hc hb hq
  | seq x y ihx ihy =>
    intro rnd r var marks s res ρ w a Q hf hc hb hq
    have hc:CR F rnd (Ns (IL P f fn.ntmps (Ad P fn) x y) (Ab P f fn.ntmps (Ad P fn) x) (Ab P f fn.ntmps (Ad P fn) y)) var marks s=some res:=hc
    rcases Nt (IL P f fn.ntmps (Ad P fn) x y) (Ab P f fn.ntmps (Ad P fn) x) (Ab P f fn.ntmps (Ad P fn) y)with hs | ⟨rm,cb,hs,hr1,hr2⟩
    case inr =>
      rw[hs]at hc
      exact ph h.code hf hr1 hr2 hc hb hq
    rw[hs]at hc
    have hc:I1 F rnd (Ab P f fn.ntmps (Ad P fn) y) (F.code rnd (Ab P f fn.ntmps (Ad P fn) x) var marks s)=some res:=hc
    unfold I1 at hc
    split at hc<;>first | (cases hc;done) | skip
    rename_i r1 h1
    refine wpIn_seq (h.code f fn x rnd r var marks s r1 ρ w a _ hf h1 hb ?_)
    intro a' w' ρ' g
    unfold Hk at hc
    cases he:r1.exit with
    | normal =>
      rw[he]at hc
      refine h.code f fn y rnd r _ _ _ res ρ' w' a' Q hf hc (g.begins hb) ?_
      intro a2 w2 ρ2 g2
      exact hq a2 w2 ρ2 (IR.trans (r1:=r1) (a1:=a') g.fr g2)
    | exit id =>
      rw[he]at hc
      injection hc with hc
      subst hc
      have:=hq a' w' ρ' g
      rw[he]at this
      exact this
    | ret =>
      rw[he]at hc
      injection hc with hc
      subst hc
      have:=hq a' w' ρ' g
      rw[he]at this
      exact this
  | cond o x y ihx ihy =>
    intro rnd r var marks s res ρ w a Q hf hc hb hq
    simp only[Ab]at hc
    cases ho:Eh (Ad P fn) ⟨[],0⟩ o with
    | none=>rw[ho]at hc;cases hc
    | some z =>
      rw[ho]at hc
      have hc:SU F rnd (Ab P f fn.ntmps (Ad P fn) x) (Ab P f fn.ntmps (Ad P fn) y) var marks s (Cc [] var z)=some res:=hc
      have hz:=NV hb.vars ho
      unfold SU at hc
      split at hc<;>first | (cases hc;done) | skip
      rename_i t ht
      rw[ht]at hz
      have hev:a.eval o=.bool t:=by
        generalize a.eval o=y at hz
        cases hz;rfl
      refine wpIn_cond hev ?_
      cases t with
      | true=>exact h.code f fn x rnd r var marks s res ρ w a Q hf hc hb hq
      | false=>exact h.code f fn y rnd r var marks s res ρ w a Q hf hc hb hq
  | block id c ih =>
    intro rnd r var marks s res ρ w a Q hf hc hb hq
    have hc:Me id (F.code rnd (Ab P f fn.ntmps (Ad P fn) c) var marks s)=some res:=hc
    unfold Me at hc
    split at hc<;>first | (cases hc;done) | skip
    rename_i r1 h1
    refine wpIn_block (h.code f fn c rnd r var marks s r1 ρ w a _ hf h1 hb ?_)
    intro a' w' ρ' g
    unfold Lz at hc
    split at hc
    · rename_i id' he
      rw[he]
      simp only[FN,Exit.inBlock]
      cases hbq:Nat.beq id' id with
      | true =>
        rw[hbq]at hc
        injection hc with hc
        subst hc
        rw[if_pos (Ae hbq)]
        exact hq a' w' ρ' ⟨g.inv,g.fresh,g.fr,g.vars,g.marks⟩
      | false =>
        rw[hbq]at hc
        injection hc with hc
        subst hc
        have:=hq a' w' ρ' g
        rw[he]at this
        rw[if_neg (fun e=>by subst e;simp at hbq)]
        exact this
    · rename_i hne
      injection hc with hc
      subst hc
      have:=hq a' w' ρ' g
      cases he:r1.exit with
      | normal=>rw[he]at this;exact this
      | ret=>rw[he]at this;exact this
      | exit id'=>exact absurd he (hne id')
  | loop c ih =>
    intro rnd r var marks s res ρ w a Q hf hc hb hq
    have hc:I1 F rnd (.loop (Ab P f fn.ntmps (Ad P fn) c)) (F.code rnd (Ab P f fn.ntmps (Ad P fn) c) var marks s)=some res:=hc
    refine wpIn_loop_rounds (n+1) ?_
    rw[roundsIn_succ]
    unfold I1 at hc
    split at hc<;>first | (cases hc;done) | skip
    rename_i r1 h1
    refine h.code f fn c rnd r var marks s r1 ρ w a _ hf h1 hb ?_
    intro a' w' ρ' g
    unfold Hk at hc
    cases he:r1.exit with
    | normal =>
      rw[he]at hc
      refine h.loop f fn c rnd r _ _ _ res ρ' w' a' Q hf hc (g.begins hb) ?_
      intro a2 w2 ρ2 g2
      exact hq a2 w2 ρ2 (IR.trans (r1:=r1) (a1:=a') g.fr g2)
    | exit id =>
      rw[he]at hc
      injection hc with hc
      subst hc
      have:=hq a' w' ρ' g
      rw[he]at this
      exact this
    | ret =>
      rw[he]at hc
      injection hc with hc
      subst hc
      have:=hq a' w' ρ' g
      rw[he]at this
      exact this
  | scope c ih =>
    intro rnd r var marks s res ρ w a Q hf hc hb hq
    refine Vu (ih rnd r var marks s res ρ w a _ hf hc hb ?_)
    intro a' w' ρ' g
    have:=hq a' w' ρ' g
    cases he:res.exit with
    | normal=>rw[he]at this;exact this
    | ret=>rw[he]at this;exact this
    | exit id'=>rw[he]at this;exact this
  | rangeFunc g ps x y ihx ihy =>
    intro rnd r var marks s res ρ w a Q hf hc hb hq
    simp only[Ab]at hc
    cases ho:Eh (Ad P fn) ⟨[],0⟩ g with
    | none=>rw[ho]at hc;cases hc
    | some z =>
      rw[ho]at hc
      exact iA hng h.call hf ho hc hb hq
theorem Y7{F:DH}{n:Nat}(h:SC P F n){call:FuncId→List AV→AD→Option (AV×AD)}{round:Nat→List AV→AD→Option (AV×AD)}:Vx P ⟨CR F,call,round⟩ (n+1):=by
  intro f fn c rnd r var marks s res ρ w a Q hf hc hb hq
  have hc:I1 F rnd (.loop (Ab P f fn.ntmps (Ad P fn) c)) (F.code rnd (Ab P f fn.ntmps (Ad P fn) c) var marks s)=some res:=hc
  rw[roundsIn_succ]
  unfold I1 at hc
  split at hc<;>first | (cases hc;done) | skip
  rename_i r1 h1
  refine h.code f fn c rnd r var marks s r1 ρ w a _ hf h1 hb ?_
  intro a' w' ρ' g
  unfold Hk at hc
  cases he:r1.exit with
  | normal =>
    rw[he]at hc
    refine h.loop f fn c rnd r _ _ _ res ρ' w' a' Q hf hc (g.begins hb) ?_
    intro a2 w2 ρ2 g2
    exact hq a2 w2 ρ2 (IR.trans (r1:=r1) (a1:=a') g.fr g2)
  | exit id =>
    rw[he]at hc
    injection hc with hc
    subst hc
    have:=hq a' w' ρ' g
    rw[he]at this
    exact this
  | ret =>
    rw[he]at hc
    injection hc with hc
    subst hc
    have:=hq a' w' ρ' g
    rw[he]at this
    exact this
theorem jH{F:DH}(hcode:KB P F){f:FuncId}{aS:List AV}{v:AV}{as':Array Value}(hc:Gn P F aS s (AS P f)=some (v,s1))(hi:As P ρ s w)(hfr:Ah ρ s)(ha:AJ ρ aS as'.toList):
  (∃fn c,P.funcs[f]? = some fn∧fn.body=some c)∧CallsIn Fence.wide 0 P f as' w (Bk P ρ s w v s1):=by
 unfold Gn at hc
 simp only[tH]at hc
 obtain⟨cf,h1,hc⟩:=hc
 unfold AS at h1
 simp only[tH]at h1
 obtain⟨fn,h2,c,h3,h4⟩:=h1
 obtain⟨h5,h6⟩:=AA h4
 simp only[tH]at h6
 obtain⟨cr,h7,h8⟩:=h6
 injection h8 with h8
 subst h8
 simp only at hc
 cases hb:Nat.beq aS.length (Ct fn)with
 | false=>rw[hb]at hc;cases hc
 | true =>
  rw[hb]at hc
  simp only[cond_true]at hc
  refine⟨⟨fn,c,h2,h3⟩,callsIn_of_wp_marks h2 h3 trivial ?_⟩
  unfold L4 at hc
  simp only[tH]at hc
  obtain⟨res,hr,hc⟩:=hc
  have hend:X4 res.exit=true∧((DS res.st res.marks).bind fun s=>(Bg P s res.var cr).bind fun l=>some (BP l,s))=some (v,s1):=by
   cases he:X4 res.exit with
   | true=>rw[he]at hc;exact⟨rfl,hc⟩
   | false=>rw[he]at hc;cases hc
  obtain⟨he,hc⟩:=hend
  simp only[tH]at hc
  obtain⟨s2,hu,l,hl,hv⟩:=hc
  injection hv with hv
  injection hv with hv1 hv2
  subst hv1
  subst hv2
  have hvars:Ao P ρ fn (Ql aS (Ad P fn).length) (as'++Array.replicate (fn.ntmps - as'.size) undef):=lT ha (Ae hb) (by simpa[tK]using h5)
  refine hcode f fn c none none _ [] s res ρ w _ _ h2 hr ⟨hi,hfr,hvars,rfl,rfl⟩ ?_
  intro a' w' ρ' g
  have hlv:LeavesInM Fence.wide 0 P fn a'.tmps (Bk P ρ s w (BP l) s2) a'.defers .returning w':=by
   refine Q8 g.marks hu g.inv fun w2 k1 k2=>?_
   obtain⟨v',k3,k4⟩:=VX k1 g.vars.rel h7 hl
   exact⟨v',k3,ρ',k4,k1,g.fr.trans k2⟩
  cases hx:res.exit with
  | normal=>exact hlv
  | ret=>exact hlv
  | exit id=>rw[hx]at he;cases he
theorem iH       (hng : EC      P) {E : Ck}  (hE : E.P = P) {F : DH}  (hcode : KB     P F) {l : Nat} {rb : RB} {aS : List AV} {v : AV} {as' : Array Value} (hc : Lj    E F l aS s = some (v, s1)) (hi : As  P ρ s w) (hfr : Ah     ρ s) (hl : ρ l = some rb) (ha : AJ    ρ aS as'.toList) :
    DI P ρ s w v s1 ((Instr.yield rb.b as').run P w):=by
  unfold Lj at hc
  rw[hE]at hc
  simp only[tH]at hc
  obtain⟨al,h1,var,h2,ca,h3,cb,h4,hc⟩:=hc
  have hg:=FI h1
  obtain⟨L,h0,_,_,e1,e2,e3,_,hrel,hsz,hlen⟩:=(hi.obj _ _ _ hg hl:Gi P ρ w al rb).ex
  unfold GG at h3 h4
  simp only[tH]at h3 h4
  obtain⟨fn,hf,h3⟩:=h3
  obtain⟨fn2,hf2,h4⟩:=h4
  rw[hf]at hf2
  injection hf2 with hf2
  subst hf2
  injection h3 with h3
  injection h4 with h4
  subst h3
  subst h4
  have hvi:Ec P al.fn=Ad P fn:=by unfold Ec;rw[hf]
  rw[hvi]at hrel hlen h2
  obtain⟨z1,z2,z3,z4⟩:=R5 (tmps:=L.tmps) h2 hrel hlen ha
  have hps:as'.size=L.params.size:=by rw[e1];simpa using z4.symm
  rw[run_yield h0 hps]
  refine .round (roundIn_of_wpIn trivial ?_)
  have hfold:(L.params.zip as').foldl (fun tmps (x:Tmp×Value)=>match x with | (t,a)=>tmps.setIfInBounds t a) L.tmps=(al.params.toList.zip as'.toList).foldl (fun tmps (p:Tmp×Value)=>tmps.setIfInBounds p.1 p.2) L.tmps:=by
    rw[← Array.foldl_toList,Array.toList_zip,e1]
  have hfold':(L.params.zip as').foldl (fun tmps (x:Tmp×Value)=>tmps.setIfInBounds x.1 x.2) L.tmps=(al.params.toList.zip as'.toList).foldl (fun tmps (p:Tmp×Value)=>tmps.setIfInBounds p.1 p.2) L.tmps:=hfold
  have hvars:Ao P ρ fn var ((al.params.toList.zip as'.toList).foldl (fun tmps (p:Tmp×Value)=>tmps.setIfInBounds p.1 p.2) L.tmps):=⟨z2,z1,by rw[z3];exact hsz fn hf⟩
  unfold HX at hc
  simp only[tH]at hc
  obtain⟨q,hq1,hc⟩:=hc
  cases hn:Gy q.exit with
  | false=>rw[hn]at hc;cases hc
  | true =>
    rw[hn]at hc
    simp only[cond_true,tH]at hc
    obtain⟨r2,hr2,hc⟩:=hc
    cases hrd:L8 r2.state with
    | false=>rw[hrd]at hc;cases hc
    | true =>
      rw[hrd]at hc
      simp only[cond_true]at hc
      unfold Jw at hc
      simp only[tH]at hc
      obtain⟨q2,hq2,r3,hr3,hc⟩:=hc
      injection hc with hc
      injection hc with hv hs
      subst hv
      subst hs
      have hqn:q.exit=.normal:=by cases he:q.exit<;>rw[he]at hn<;>first | rfl | cases hn
      have hst:r2.state=.ready:=by
        cases he:r2.state<;>rw[he]at hrd<;>first | rfl | cases hrd
      rw[e2,e3]
      refine hcode al.fn fn al.assign (some l) (some rb.b) var [] s q ρ w _ _ hf hq1 ⟨hi,hfr,by first | exact hvars | (simp only[];rw[hfold];exact hvars),rfl,⟨rb,hl,rfl⟩⟩ ?_
      intro a1 w1 ρ1 g1
      rw[hqn]
      have hl1:ρ1 l=some rb:=g1.fr.le _ _ hl
      have hg2:=FI hr2
      obtain⟨L1,k0,k1,_⟩:=(g1.inv.obj _ _ _ hg2 hl1:Gi P ρ1 w1 r2 rb).ex
      obtain⟨i2,f2⟩:=NK g1.inv hg2 hl1 (st:=.busy) (pd:=r2.pending) k0
      refine⟨_,run_beginRound k0 (by rw[k1,hst]),?_⟩
      have hpd:L1.pending=r2.pending:=by
        obtain⟨L1',k0',_,k2',_⟩:=(g1.inv.obj _ _ _ hg2 hl1:Gi P ρ1 w1 r2 rb).ex
        rw[k0]at k0';injection k0' with k0';injection k0' with k0';subst k0';exact k2'
      have hL1:({ L1 with state:=.busy }:Loop)={ L1 with state:=.busy,pending:=r2.pending }:=by rw[← hpd]
      rw[hL1]
      have hal:({ r2 with state:=.busy }:FO)={ r2 with state:=.busy,pending:=r2.pending }:=rfl
      refine hcode al.fn fn al.body (some l) (some rb.b) q.var q.marks _ q2 ρ1 _ a1 _ hf hq2 ⟨i2,g1.fresh.step f2,g1.vars,g1.marks,⟨rb,hl1,rfl⟩⟩ ?_
      intro a3 w3 ρ3 g3
      have hl3:ρ3 l=some rb:=g3.fr.le _ _ hl1
      have hg3:=FI hr3
      obtain⟨L3,m0,m1,_⟩:=(g3.inv.obj _ _ _ hg3 hl3:Gi P ρ3 w3 r3 rb).ex
      have tot:=g1.fr.trans (f2.trans g3.fr)
      have fin:∀jump:Option Code,Cn q2.exit=jump→∃v w',(Instr.endRound rb.b jump).run P w3=.ok v w'∧Bk P ρ s w (.bool (Cn q2.exit).isNone) (setObj q2.st l (.loop { r3 with state:=Hc (Cn q2.exit),pending:=Cn q2.exit })) (.returned v) w':=by
        intro jump hj
        obtain⟨i4,f4⟩:=NK g3.inv hg3 hl3 (st:=Hc jump) (pd:=jump) m0
        refine⟨_,_,run_endRound jump m0,ρ3,?_,?_,?_⟩
        · rw[hj];exact .bool _
        · rw[hj]
          have:(if jump.isNone=true then LoopState.ready else .done)=Hc jump:=by cases jump<;>rfl
          rw[this]
          exact i4
        · rw[hj]
          have:(if jump.isNone=true then LoopState.ready else .done)=Hc jump:=by cases jump<;>rfl
          rw[this]
          exact tot.trans f4
      cases he:q2.exit with
      | normal=>have:=fin none (by rw[he];rfl);rw[he]at this;exact this
      | ret=>have:=fin (some .ret) (by rw[he];rfl);rw[he]at this;exact this
      | exit id=>have:=fin (some (.exit id)) (by rw[he];rfl);rw[he]at this;exact this
theorem sK  (hm : P.follows .mixedOrders = true) (hng : EC      P) {E : Ck}  (hE : E.P = P) (hnat : Av     P E.nat) : ∀ n, SC    P (DF   E n) n := by
  intro n
  induction n with
  | zero =>
    refine⟨?_,?_,?_,?_⟩
    · intro f fn c rnd r var marks s res ρ w a Q hf hc;cases hc
    · intro f fn c rnd r var marks s res ρ w a Q hf hc;cases hc
    · intro ρ s w f aS v s1 as' hc;cases hc
    · intro ρ s w l rb aS v s1 as' hc;cases hc
  | succ n ih =>
    refine⟨Yn hm hng ih,Y7 ih,?_,?_⟩
    · intro ρ s w f aS v s1 as' hc hi hfr ha
      have hc:IN E (DF E n) f aS s=some (v,s1):=hc
      unfold IN at hc
      split at hc
      · rename_i p hp
        injection hc with hc
        subst hc
        exact hnat ρ s w f aS _ _ as' hp hi hfr ha
      · rw[hE]at hc
        exact jH ih.code hc hi hfr ha
    · intro ρ s w l rb aS v s1 as' hc hi hfr hl ha
      exact iH hng hE ih.code hc hi hfr hl ha
end
section
variable{P:Program}{ρ ρ1 ρ2:A5}{s s1 s2:AD}{w w1 w2:World}
theorem As.setG  (h : As  P ρ s w) {i : Nat} {o o1 : AI}   {rb : RB} (hg : s.heap.get i = some o) (hr : ρ i = some rb) (hw : wr o = true) (hp : FJ    o = none)
    (hp1:FJ o1=none) (hgr:w.grownBy w1 (some rb.b)) (ho:DK P ρ w1 o1 rb):As P ρ (setObj s i o1) w1∧Fr ρ s w ρ (setObj s i o1) w1:=by
  have hsep:∀j oj rj,j≠i→s.heap.get j=some oj→ρ j=some rj→rj.b≠rb.b:=by
    intro j oj rj hne hj hrj e
    have:=(h.sep j i oj o rj rb hne hj hg hrj hr e hw).1
    rw[hp]at this
    cases this
  refine⟨⟨?_,?_,?_,?_⟩,?_⟩
  · intro j oj rj hj hrj
    rw[BJ]at hj
    by_cases e:j=i
    · subst e
      rw[if_pos rfl]at hj
      injection hj with hj
      subst hj
      rw[hr]at hrj
      injection hrj with hrj
      subst hrj
      exact ho
    · rw[if_neg e]at hj
      exact(h.obj j oj rj hj hrj).mono (A5.le_refl ρ) (hgr.block _ (h.lt j rj hrj) (fun q=>hsep j oj rj e hj hrj (Option.some.inj q)))
  · intro j rj hrj
    exact tO (h.lt j rj hrj) hgr.size
  · intro j k oj ok rj rk hne hj hk hrj hrk hbb hwk
    rw[BJ]at hj hk
    by_cases ej:j=i
    · subst ej
      have ek:k≠j:=fun e=>hne e.symm
      rw[if_neg ek]at hk
      rw[hr]at hrj
      injection hrj with hrj
      subst hrj
      exact absurd hbb.symm (hsep k ok rk ek hk hrk)
    · by_cases ek : k = i
      · subst ek
        rw[if_neg ej]at hj
        rw[hr]at hrk
        injection hrk with hrk
        subst hrk
        exact absurd hbb (hsep j oj rj ej hj hrj)
      · rw [if_neg ej] at hj
        rw[if_neg ek]at hk
        exact h.sep j k oj ok rj rk hne hj hk hrj hrk hbb hwk
  · intro j oj g hj hgo
    rw[BJ]at hj
    by_cases e:j=i
    · subst e;exact⟨_,hr⟩
    · rw[if_neg e]at hj
      exact h.glb j oj g hj hgo
  · refine ⟨A5.le_refl  ρ, fun _ h _ => h, tJ          _, hgr.size, hgr.os, hgr.tape, hgr.output, ?_, ?_, ?_, fun i rb => NP    i rb, fun j oj rj hj _ => ?_⟩
    · intro b hb hno
      exact hgr.block b hb (fun e=>hno ⟨i,o,rb,hg,hw,hr,(Option.some.inj e).symm⟩)
    · rintro b ⟨j, oj, rj, hj, hwj, hrj, rfl⟩
      rw[BJ]at hj
      by_cases e:j=i
      · subst e
        rw[hr]at hrj
        injection hrj with hrj
        subst hrj
        exact .inl ⟨j,o,rb,hg,hw,hr,rfl⟩
      · rw[if_neg e]at hj
        exact .inl ⟨j,oj,rj,hj,hwj,hrj,rfl⟩
    · intro j hrj _
      rw[BJ,if_neg]
      intro e
      subst e
      rw[hr]at hrj
      cases hrj
    · rw[BJ]at hj
      by_cases e:j=i
      · subst e;exact⟨o,hg⟩
      · rw[if_neg e]at hj;exact⟨oj,hj⟩
theorem As.grown(h:As P ρ s w)(hgr:w.grownBy w1 none):As P ρ s w1∧Fr ρ s w ρ s w1:=by
 refine⟨⟨fun i o rb hi hr=>(h.obj i o rb hi hr).mono (A5.le_refl ρ) (hgr.block _ (h.lt i rb hr) (fun e=>by cases e)),fun i rb hr=>tO (h.lt i rb hr) hgr.size,h.sep,h.glb⟩,
  ⟨A5.le_refl ρ,fun _ h _=>h,tJ _,hgr.size,hgr.os,hgr.tape,hgr.output,fun b hb _=>hgr.block b hb (fun e=>by cases e),fun b hb=>.inl hb,fun _ _ _=>rfl,fun i rb=>NP i rb,fun _ o _ h _=>⟨o,h⟩⟩⟩
open Go.Maps in
theorem kw{k:Lit}{d:DataW Value}{E:List (Lit×DataW Value)}(hk:WideAt.IsKeyLit k):
  ∃E',(DataW.map E).put k d=.map E'∧∀q,q∈E'↔q=(k,d)∨q∈E∧q.1≠k:=by
 refine⟨_,rfl,fun q=>?_⟩
 rw[(Go.WideShapes.insert_perm _ _).mem_iff,uT,List.mem_filter]
 have:=notKey_iff (H:=Value) (k:=k) (p:=q) hk
 unfold Go.ChangeMaps.notKey at this
 rw[this]
open Go.Maps in
theorem PD        : ∀ {Es Ed : List (Lit × DataW Value)}, (∀ p ∈ Es, WideAt.IsKeyLit p.1) → Es.Pairwise (fun p q => p.1 ≠ q.1) →
    ∃E',Es.foldl (fun D p=>DataW.put D p.1 p.2) (DataW.map Ed)=.map E'∧∀q,q∈E'↔q∈Es∨q∈Ed∧q.1 ∉ Es.map (·.1)
  | [],Ed,_,_=>⟨Ed,rfl,fun q=>by simp⟩
  | p::Es,Ed,hk,hd=>by
    obtain⟨E1,h1,h2⟩:=kw (k:=p.1) (d:=p.2) (E:=Ed) (hk p tS)
    rw[List.pairwise_cons]at hd
    obtain⟨E2,h3,h4⟩:=PD (Ed:=E1) (fun q hq=>hk q (tW _ hq)) hd.2
    refine⟨E2,by rw[List.foldl_cons,h1];exact h3,fun q=>?_⟩
    rw[h4,h2]
    simp only[uT,ta,not_or]
    constructor
    · rintro (h' | ⟨h' | ⟨h', h''⟩, h5⟩)
      · exact .inl (.inr h')
      · exact .inl (.inl h')
      · exact .inr ⟨h',h'',h5⟩
    · rintro ((h' | h') | ⟨h', h'', h5⟩)
      · refine .inr ⟨.inl h', ?_⟩
        rw[h']
        intro hc
        obtain⟨x,hx,e⟩:=List.mem_map.1 hc
        exact hd.1 x hx e.symm
      · exact .inl h'
      · exact .inr ⟨.inr ⟨h',h''⟩,h5⟩
def lY(P:Program)(f:FuncId)(kt:TypeId):Prop:=
 (∀ (bd bs nd ns:Nat) (Dd Ds:DataW Value) (w:World),w.ownsMap P kt Rv bd nd Dd→w.ownsMap P kt Rv bs ns Ds→bd≠bs→nd+Maps.size Ds≤maxLen →
  Calls P f #[.map (some bd),.map (some bs)] w fun e w'=>e=.returned (.tuple #[])∧w'.ownsMap P kt Rv bd (nd+Maps.size Ds) (Lib.mergeD Dd Ds)∧w'.ownsMap P kt Rv bs ns Ds∧w.grownBy w' (some bd)) ∧
 ∀ (pd:Option Nat) (w:World),Calls P f #[.map pd,.map none] w fun e w'=>e=.returned (.tuple #[])∧w'=w.alloc (.mapIter none 0 #[] 0)
def Up(kt:TypeId)(s:AD):List AV→Option (AV×AD)
 | [.map _,.map none]=>some (.tuple [],s)
 | [.map (some i),.map (some j)]=>AF (!Nat.beq i j) <| (IG s kt i).bind fun es=>(IG s kt j).bind fun fs =>
  AF (Nat.ble (es.length+fs.length) 1000000) ((RO fs es).bind fun es'=>some (.tuple [],setObj s i (.map kt es')))
 | _=>none
theorem Yo        {f : FuncId} {kt : TypeId} (hko : FG     P kt = true) (hc : lY    P f kt) (h : As  P ρ s w) {aS : List AV} {as' : Array Value} {v : AV} (hs : Up     kt s aS = some (v, s1)) (has : AJ    ρ aS as'.toList) :
    CallsIn Fence.wide 0 P f as' w (Bk P ρ s w v s1):=by
  have K:=G3 hko
  refine callsIn_wide.2 ?_
  unfold Up at hs
  split at hs<;>first | (cases hs;done) | skip
  · injection hs with hs
    injection hs with e1 e2
    subst e1;subst e2
    obtain⟨l⟩:=as'
    cases has with
    | cons h1 h2 =>
    cases h2 with
    | cons h2 h3 =>
    cases h3
    cases h2
    cases h1<;>(
      refine(hc.2 _ w).mono ?_
      rintro e w' ⟨rfl,rfl⟩
      obtain⟨g1,g2⟩:=h.grown (w1:=w.alloc (.mapIter none 0 #[] 0)) ⟨rfl,rfl,rfl,by simp,fun b hb _=>Fe hb⟩
      exact⟨ρ,.tuple .nil,g1,g2⟩)
  · rename_i i j
    obtain⟨hij,hs⟩:=AA hs
    simp only[tH]at hs
    obtain⟨es,hes,fs,hfs,hs⟩:=hs
    obtain⟨hlen,hs⟩:=AA hs
    simp only[tH]at hs
    obtain⟨es1,hput,hs⟩:=hs
    injection hs with hs
    injection hs with e1 e2
    subst e1;subst e2
    have hlen:es.length+fs.length≤1000000:=by simpa[tK]using hlen
    have hne:i≠j:=fun e=>by subst e;simp at hij
    obtain⟨l⟩:=as'
    cases has with
    | cons h1 h2 =>
    cases h2 with
    | cons h2 h3 =>
    cases h3
    cases h1 with
    | map hri =>
    cases h2 with
    | map hrj =>
    rename_i ri rj
    have hgi:=Ex hes
    have hgj:=Ex hfs
    obtain⟨ed,cd,d1,d2,⟨ld,d3,d4⟩,d5⟩:=(show Gj P ρ w kt es ri from h.obj i _ ri hgi hri).ex
    obtain⟨ec,cc,c1,c2,⟨lc,c3,c4⟩,c5⟩:=(show Gj P ρ w kt fs rj from h.obj j _ rj hgj hrj).ex
    have hbne:ri.b≠rj.b:=fun e=>by
      have:=(h.sep i j _ _ ri rj hne hgi hgj hri hrj e rfl).1
      cases this
    have sd:ed.size=es.length:=by have:=d4.length;have:=d3.length_eq;simp at this;omega
    have sc:ec.size=fs.length:=by have:=c4.length;have:=c3.length_eq;simp at this;omega
    have hmax:(1000000:Nat)≤maxLen:=by unfold maxLen;omega
    have od:=RM d1 d2 d5 (by omega)
    have oc:=RM c1 c2 c5 (by omega)
    have hsz:Maps.size (DataW.map ((ec.toList.map (WideElems.rg P kt Rv)).foldr DataW.insert []))=ec.size:=by
      show((ec.toList.map (WideElems.rg P kt Rv)).foldr DataW.insert []).length=_
      rw[(Go.WideShapes.sorted_perm _).length_eq]
      simp
    refine(hc.1 _ _ _ _ _ _ w od oc hbne (by rw[hsz];omega)).mono ?_
    rintro e w' ⟨rfl,o1,_,hgr⟩
    refine⟨ρ,.tuple .nil,?_⟩
    obtain⟨e2,k2,q1,q2,_,q4⟩:=o1
    have hty2:SD P kt e2:=fun x hx=>let ⟨y,hy⟩:=q2.reads x hx;⟨y.1,WideElems.rd_key hy⟩
    have hcanon:=oc.canonK K
    obtain⟨E,hE,hsorted,hkeys⟩:=hcanon
    have hE:(ec.toList.map (WideElems.rg P kt Rv)).foldr DataW.insert []=E:=by injection hE
    have hkl:∀p∈E,WideAt.IsKeyLit p.1:=fun p hp=>let ⟨v,hv⟩:=hkeys p hp;K.key hv
    obtain⟨E',m1,m2⟩:=PD (Es:=E) (Ed:=(ed.toList.map (WideElems.rg P kt Rv)).foldr DataW.insert []) hkl (Go.Maps.apart_of_rising hsorted)
    have hE2:(e2.toList.map (WideElems.rg P kt Rv)).foldr DataW.insert []=E':=by
      have:Lib.mergeD (DataW.map ((ed.toList.map (WideElems.rg P kt Rv)).foldr DataW.insert [])) (DataW.map ((ec.toList.map (WideElems.rg P kt Rv)).foldr DataW.insert []))=.map E':=by
        rw[hE];exact m1
      rw[this]at q4
      injection q4 with q4
      exact q4.symm
    have memE:∀q,q∈E↔∃e∈ec.toList,∃l,keyOf P kt e.key=some l∧q=(l,.held e.val):=fun q=>by rw[← hE];exact Kc c5 q
    have mem2:∀p:KV,p∈e2.toList.map kv↔p∈ec.toList.map kv∨p∈ed.toList.map kv∧p.1 ∉ (ec.toList.map kv).map (·.1):=by
      have look:∀ {A:Array MapEntry} (hA:SD P kt A) {k v:Value} {lk:Lit},keyOf P kt k=some lk→((∃e∈A.toList,∃l,keyOf P kt e.key=some l∧(lk,DataW.held v)=(l,DataW.held e.val))↔(k,v)∈A.toList.map kv):=by
        intro A hA k v lk hk
        constructor
        · rintro⟨e,he,l,hl,hq⟩
          injection hq with q1 q2
          injection q2 with q2
          subst q1;subst q2
          exact List.mem_map.2 ⟨e,he,by rw[K.inj hk hl];rfl⟩
        · intro hm
          obtain⟨e,he,hq⟩:=List.mem_map.1 hm
          injection hq with q1 q2
          subst q1;subst q2
          exact⟨e,he,lk,hk,rfl⟩
      have main:∀ (k v:Value) (lk:Lit),keyOf P kt k=some lk→((k,v)∈e2.toList.map kv↔(k,v)∈ec.toList.map kv∨(k,v)∈ed.toList.map kv∧k ∉ (ec.toList.map kv).map (·.1)):=by
        intro k v lk hk
        rw[← look hty2 hk,← Kc hty2,hE2,m2,memE,Kc d5,look c5 hk,look d5 hk]
        refine or_congr Iff.rfl (and_congr Iff.rfl (not_congr ?_))
        constructor
        · intro hm
          obtain⟨q,hq,hqe⟩:=List.mem_map.1 hm
          obtain⟨e,he,l,hl,rfl⟩:=(memE q).1 hq
          simp only at hqe
          subst hqe
          refine List.mem_map.2 ⟨kv e,List.mem_map_of_mem he,?_⟩
          exact(K.inj hk hl).symm
        · intro hm
          obtain⟨q,hq,hqe⟩:=List.mem_map.1 hm
          obtain⟨e,he,rfl⟩:=List.mem_map.1 hq
          refine List.mem_map.2 ⟨(lk,.held e.val),(memE _).2 ⟨e,he,lk,?_,rfl⟩,rfl⟩
          have:e.key=k:=hqe
          rw[this];exact hk
      intro p
      constructor
      · intro hm
        obtain⟨e,he,hp⟩:=List.mem_map.1 hm
        obtain⟨l,hl⟩:=hty2 e he
        subst hp
        exact(main _ _ l hl).1 hm
      · intro hm
        have:∃l,keyOf P kt p.1=some l:=by
          rcases hm with hm | ⟨hm,_⟩
          · obtain ⟨e, he, hp⟩ := List.mem_map.1 hm
            obtain⟨l,hl⟩:=c5 e he
            subst hp;exact⟨l,hl⟩
          · obtain ⟨e, he, hp⟩ := List.mem_map.1 hm
            obtain⟨l,hl⟩:=d5 e he
            subst hp;exact⟨l,hl⟩
        obtain⟨l,hl⟩:=this
        exact(main p.1 p.2 l hl).2 hm
    have nd:∀ {A:Array MapEntry} {c:Nat},MapKept.Stamped A c→((A.toList.map kv).map (·.1)).Nodup:=fun hst=>by
      rw[List.map_map];exact hst.2.2
    have ndd:((ld.map kv).map (·.1)).Nodup:=((d3.map kv).map (·.1)).nodup_iff.2 (nd d2)
    have ndc:((lc.map kv).map (·.1)).Nodup:=((c3.map kv).map (·.1)).nodup_iff.2 (nd c2)
    obtain⟨u1,u2⟩:=PF ndd ndc
    have hperm:(PE (ld.map kv) (lc.map kv)).Perm (e2.toList.map kv):=by
      refine Lb (II u1) (II (nd q2.stamped)) fun p=>?_
      rw[u2,mem2,(c3.map kv).mem_iff,(d3.map kv).mem_iff,((c3.map kv).map (·.1)).mem_iff]
    obtain⟨l2,p1,p2⟩:=PN kv hperm
    have her:CT ρ es1 l2:=CT.of_p (by rw[p2];exact TQ hput d4.p c4.p)
    exact h.setG hgi hri rfl rfl rfl hgr ⟨e2,k2,q1,q2.stamped,⟨l2,p1,her⟩,hty2⟩
end
end
end Go.Proofs.YtoaaclpjkelofaaGreatDoor.Am
set_option linter.unusedVariables false
set_option linter.unusedSimpArgs false
namespace Go.Proofs.YtoaaclpjkelofaaGreatDoor.Am
open Go Go.Proofs Go.Shelf
noncomputable section
def LU:Go.Shelf.Ren:=⟨fun | 156=>86 | 165=>120 | 166=>58 | 169=>60 | 240=>95 | 241=>154 | 276=>123 | 277=>178 | n=>n,fun | 31=>28 | 9=>9 | 3=>3 | 4=>4 | 0=>0 | 20=>20 | 72=>108 | 76=>112 | 70=>106 | 37=>22 | 75=>111 | 127=>144 | 164=>164 | 5=>5 | 80=>114 | n=>n,fun | n=>n⟩
theorem X5:Go.Proofs.Lays.n156 Tryz.prog LU:={
 mixed:=by kernel_rfl
 f156:=Tryz.func86.trans (congrArg some (by kernel_rfl))
 f165:=Tryz.func120.trans (congrArg some (by kernel_rfl))
 f166:=Tryz.func58.trans (congrArg some (by kernel_rfl))
 f169:=Tryz.func60.trans (congrArg some (by kernel_rfl))
 f240:=Tryz.func95.trans (congrArg some (by kernel_rfl))
 f241:=Tryz.func154.trans (congrArg some (by kernel_rfl))
 f276:=Tryz.func123.trans (congrArg some (by kernel_rfl))
 f277:=Tryz.func178.trans (congrArg some (by kernel_rfl))
 t0:=Tryz.underlying0
 a0:=Tryz.isAgg0
 z0:=Tryz.sizeOf0
 v0:=Tryz.zeroValue0
 t3:=Tryz.underlying3
 a3:=Tryz.isAgg3
 z3:=Tryz.sizeOf3
 v3:=Tryz.zeroValue3
 t4:=Tryz.underlying4
 a4:=Tryz.isAgg4
 z4:=Tryz.sizeOf4
 v4:=Tryz.zeroValue4
 t9:=Tryz.underlying9
 a9:=Tryz.isAgg9
 z9:=Tryz.sizeOf9
 v9:=Tryz.zeroValue9
 t20:=Tryz.underlying20
 a20:=Tryz.isAgg20
 z20:=Tryz.sizeOf20
 v20:=Tryz.zeroValue20
 t31:=Tryz.underlying28
 a31:=Tryz.isAgg28
 z31:=Tryz.sizeOf28
 v31:=Tryz.zeroValue28
 t37:=Tryz.underlying22
 a37:=Tryz.isAgg22
 z37:=Tryz.sizeOf22
 v37:=Tryz.zeroValue22
 t70:=Tryz.underlying106
 a70:=Tryz.isAgg106
 z70:=Tryz.sizeOf106
 v70:=Tryz.zeroValue106
 t72:=Tryz.underlying108
 a72:=Tryz.isAgg108
 z72:=Tryz.sizeOf108
 v72:=Tryz.zeroValue108
 t75:=Tryz.underlying111
 a75:=Tryz.isAgg111
 z75:=Tryz.sizeOf111
 v75:=Tryz.zeroValue111
 t76:=Tryz.underlying112
 a76:=Tryz.isAgg112
 z76:=Tryz.sizeOf112
 v76:=Tryz.zeroValue112
 t127:=Tryz.underlying144
 a127:=Tryz.isAgg144
 z127:=Tryz.sizeOf144
 v127:=Tryz.zeroValue144
 t164:=Tryz.underlying164
 a164:=Tryz.isAgg164
 z164:=Tryz.sizeOf164
 v164:=Tryz.zeroValue164 }
theorem NE:Builder.Extra Tryz.prog LU:={
 sizeBuilder:=by kernel_rfl
 liesBuilder:=by kernel_rfl
 t5:=Tryz.underlying5
 a5:=Tryz.isAgg5
 z5:=Tryz.sizeOf5
 v5:=Tryz.zeroValue5
 infoByte:=by kernel_rfl
 cellsByte:=by kernel_rfl
 sizeByte:=by kernel_rfl
 neB5:=by decide }
def Sw:Go.Shelf.Ren:=⟨fun | 161=>206 | 231=>220 | 227=>222 | 233=>223 | 235=>225 | 228=>238 | 197=>239 | 151=>240 | 260=>244 | 152=>245 | 137=>249 | 119=>250 | 224=>251 | 225=>252 | 217=>255 | 266=>256 | n=>n,fun | 9=>9 | 4=>4 | 3=>3 | 5=>5 | 117=>262 | 116=>261 | 0=>0 | 124=>265 | 105=>276 | 21=>21 | 119=>285 | 46=>143 | 139=>288 | 138=>287 | n=>n,fun | 3=>4 | 4=>5 | n=>n⟩
theorem kX:Go.Proofs.Lays.n161 Tryz.prog Sw:={
 mixed:=by kernel_rfl
 f119:=Tryz.func250.trans (congrArg some (by kernel_rfl))
 f137:=Tryz.func249.trans (congrArg some (by kernel_rfl))
 f151:=Tryz.func240.trans (congrArg some (by kernel_rfl))
 f152:=Tryz.func245.trans (congrArg some (by kernel_rfl))
 f161:=Tryz.func206.trans (congrArg some (by kernel_rfl))
 f197:=Tryz.func239.trans (congrArg some (by kernel_rfl))
 f217:=Tryz.func255.trans (congrArg some (by kernel_rfl))
 f224:=Tryz.func251.trans (congrArg some (by kernel_rfl))
 f225:=Tryz.func252.trans (congrArg some (by kernel_rfl))
 f227:=Tryz.func222.trans (congrArg some (by kernel_rfl))
 f228:=Tryz.func238.trans (congrArg some (by kernel_rfl))
 f231:=Tryz.func220.trans (congrArg some (by kernel_rfl))
 f233:=Tryz.func223.trans (congrArg some (by kernel_rfl))
 f235:=Tryz.func225.trans (congrArg some (by kernel_rfl))
 f260:=Tryz.func244.trans (congrArg some (by kernel_rfl))
 f266:=Tryz.func256.trans (congrArg some (by kernel_rfl))
 t0:=Tryz.underlying0
 a0:=Tryz.isAgg0
 z0:=Tryz.sizeOf0
 v0:=Tryz.zeroValue0
 t3:=Tryz.underlying3
 a3:=Tryz.isAgg3
 z3:=Tryz.sizeOf3
 v3:=Tryz.zeroValue3
 t4:=Tryz.underlying4
 a4:=Tryz.isAgg4
 z4:=Tryz.sizeOf4
 v4:=Tryz.zeroValue4
 t5:=Tryz.underlying5
 a5:=Tryz.isAgg5
 z5:=Tryz.sizeOf5
 v5:=Tryz.zeroValue5
 t9:=Tryz.underlying9
 a9:=Tryz.isAgg9
 z9:=Tryz.sizeOf9
 v9:=Tryz.zeroValue9
 t21:=Tryz.underlying21
 a21:=Tryz.isAgg21
 z21:=Tryz.sizeOf21
 v21:=Tryz.zeroValue21
 t46:=Tryz.underlying143
 a46:=Tryz.isAgg143
 z46:=Tryz.sizeOf143
 v46:=Tryz.zeroValue143
 t105:=Tryz.underlying276
 a105:=Tryz.isAgg276
 z105:=Tryz.sizeOf276
 v105:=Tryz.zeroValue276
 t116:=Tryz.underlying261
 a116:=Tryz.isAgg261
 z116:=Tryz.sizeOf261
 t117:=Tryz.underlying262
 a117:=Tryz.isAgg262
 z117:=Tryz.sizeOf262
 v117:=Tryz.zeroValue262
 t119:=Tryz.underlying285
 a119:=Tryz.isAgg285
 z119:=Tryz.sizeOf285
 t124:=Tryz.underlying265
 a124:=Tryz.isAgg265
 z124:=Tryz.sizeOf265
 v124:=Tryz.zeroValue265
 t138:=Tryz.underlying287
 a138:=Tryz.isAgg287
 z138:=Tryz.sizeOf287
 v138:=Tryz.zeroValue287
 t139:=Tryz.underlying288
 a139:=Tryz.isAgg288
 z139:=Tryz.sizeOf288
 v139:=Tryz.zeroValue288
 g3:=by kernel_rfl
 g4:=by kernel_rfl }
def Q5:Go.Shelf.Ren:=⟨fun | 171=>59 | 243=>96 | 246=>124 | 283=>157 | 284=>158 | 285=>159 | 286=>160 | 129=>143 | 317=>184 | 318=>185 | 319=>186 | 320=>187 | 337=>207 | 338=>208 | n=>n,fun | 3=>3 | 9=>9 | 2=>2 | 4=>4 | 171=>197 | 0=>0 | 53=>187 | 37=>22 | 5=>5 | 173=>199 | 212=>227 | 51=>185 | 20=>20 | 213=>228 | 46=>143 | 232=>266 | 233=>267 | n=>n,fun | 17=>1 | 18=>2 | 19=>3 | n=>n⟩
theorem gG:Go.Proofs.Lays.n171 Tryz.prog Q5:={
 mixed:=by kernel_rfl
 f129:=Tryz.func143.trans (congrArg some (by kernel_rfl))
 f171:=Tryz.func59.trans (congrArg some (by kernel_rfl))
 f243:=Tryz.func96.trans (congrArg some (by kernel_rfl))
 f246:=Tryz.func124.trans (congrArg some (by kernel_rfl))
 f283:=Tryz.func157.trans (congrArg some (by kernel_rfl))
 f284:=Tryz.func158.trans (congrArg some (by kernel_rfl))
 f285:=Tryz.func159.trans (congrArg some (by kernel_rfl))
 f286:=Tryz.func160.trans (congrArg some (by kernel_rfl))
 f317:=Tryz.func184.trans (congrArg some (by kernel_rfl))
 f318:=Tryz.func185.trans (congrArg some (by kernel_rfl))
 f319:=Tryz.func186.trans (congrArg some (by kernel_rfl))
 f320:=Tryz.func187.trans (congrArg some (by kernel_rfl))
 f337:=Tryz.func207.trans (congrArg some (by kernel_rfl))
 f338:=Tryz.func208.trans (congrArg some (by kernel_rfl))
 t0:=Tryz.underlying0
 a0:=Tryz.isAgg0
 z0:=Tryz.sizeOf0
 v0:=Tryz.zeroValue0
 t2:=Tryz.underlying2
 a2:=Tryz.isAgg2
 z2:=Tryz.sizeOf2
 v2:=Tryz.zeroValue2
 t3:=Tryz.underlying3
 a3:=Tryz.isAgg3
 z3:=Tryz.sizeOf3
 v3:=Tryz.zeroValue3
 t4:=Tryz.underlying4
 a4:=Tryz.isAgg4
 z4:=Tryz.sizeOf4
 v4:=Tryz.zeroValue4
 t5:=Tryz.underlying5
 a5:=Tryz.isAgg5
 z5:=Tryz.sizeOf5
 v5:=Tryz.zeroValue5
 t9:=Tryz.underlying9
 a9:=Tryz.isAgg9
 z9:=Tryz.sizeOf9
 v9:=Tryz.zeroValue9
 t20:=Tryz.underlying20
 a20:=Tryz.isAgg20
 z20:=Tryz.sizeOf20
 v20:=Tryz.zeroValue20
 t37:=Tryz.underlying22
 a37:=Tryz.isAgg22
 z37:=Tryz.sizeOf22
 v37:=Tryz.zeroValue22
 t46:=Tryz.underlying143
 a46:=Tryz.isAgg143
 z46:=Tryz.sizeOf143
 v46:=Tryz.zeroValue143
 t51:=Tryz.underlying185
 a51:=Tryz.isAgg185
 z51:=Tryz.sizeOf185
 v51:=Tryz.zeroValue185
 t53:=Tryz.underlying187
 a53:=Tryz.isAgg187
 z53:=Tryz.sizeOf187
 v53:=Tryz.zeroValue187
 t171:=Tryz.underlying197
 a171:=Tryz.isAgg197
 z171:=Tryz.sizeOf197
 v171:=Tryz.zeroValue197
 t173:=Tryz.underlying199
 a173:=Tryz.isAgg199
 z173:=Tryz.sizeOf199
 v173:=Tryz.zeroValue199
 t212:=Tryz.underlying227
 a212:=Tryz.isAgg227
 z212:=Tryz.sizeOf227
 v212:=Tryz.zeroValue227
 t213:=Tryz.underlying228
 a213:=Tryz.isAgg228
 z213:=Tryz.sizeOf228
 t232:=Tryz.underlying266
 a232:=Tryz.isAgg266
 z232:=Tryz.sizeOf266
 v232:=Tryz.zeroValue266
 t233:=Tryz.underlying267
 a233:=Tryz.isAgg267
 z233:=Tryz.sizeOf267
 v233:=Tryz.zeroValue267
 g17:=by kernel_rfl
 g18:=by kernel_rfl
 g19:=by kernel_rfl }
def Sv:Go.Shelf.Ren:=⟨fun | 171=>59 | 243=>96 | 246=>124 | 283=>157 | 284=>158 | 285=>159 | 286=>160 | 129=>143 | 317=>184 | 318=>185 | 319=>186 | 320=>187 | 337=>207 | 338=>208 | n=>n,fun | 3=>3 | 9=>9 | 2=>2 | 4=>4 | 171=>197 | 0=>0 | 53=>187 | 37=>22 | 5=>5 | 173=>199 | 212=>227 | 51=>185 | 20=>20 | 213=>228 | 46=>143 | 232=>266 | 233=>267 | n=>n,fun | 17=>1 | 18=>2 | 19=>3 | n=>n⟩
theorem kW:Go.Proofs.LaysM.n171 Tryz.prog Sv:={
 mixed:=by kernel_rfl
 f129:=Tryz.func143.trans (congrArg some (by kernel_rfl))
 f171:=Tryz.func59.trans (congrArg some (by kernel_rfl))
 f243:=Tryz.func96.trans (congrArg some (by kernel_rfl))
 f246:=Tryz.func124.trans (congrArg some (by kernel_rfl))
 f283:=Tryz.func157.trans (congrArg some (by kernel_rfl))
 f284:=Tryz.func158.trans (congrArg some (by kernel_rfl))
 f285:=Tryz.func159.trans (congrArg some (by kernel_rfl))
 f286:=Tryz.func160.trans (congrArg some (by kernel_rfl))
 f317:=Tryz.func184.trans (congrArg some (by kernel_rfl))
 f318:=Tryz.func185.trans (congrArg some (by kernel_rfl))
 f319:=Tryz.func186.trans (congrArg some (by kernel_rfl))
 f320:=Tryz.func187.trans (congrArg some (by kernel_rfl))
 f337:=Tryz.func207.trans (congrArg some (by kernel_rfl))
 f338:=Tryz.func208.trans (congrArg some (by kernel_rfl))
 t0:=Tryz.underlying0
 a0:=Tryz.isAgg0
 z0:=Tryz.sizeOf0
 v0:=Tryz.zeroValue0
 t2:=Tryz.underlying2
 a2:=Tryz.isAgg2
 z2:=Tryz.sizeOf2
 v2:=Tryz.zeroValue2
 t3:=Tryz.underlying3
 a3:=Tryz.isAgg3
 z3:=Tryz.sizeOf3
 v3:=Tryz.zeroValue3
 t4:=Tryz.underlying4
 a4:=Tryz.isAgg4
 z4:=Tryz.sizeOf4
 v4:=Tryz.zeroValue4
 t5:=Tryz.underlying5
 a5:=Tryz.isAgg5
 z5:=Tryz.sizeOf5
 v5:=Tryz.zeroValue5
 t9:=Tryz.underlying9
 a9:=Tryz.isAgg9
 z9:=Tryz.sizeOf9
 v9:=Tryz.zeroValue9
 t20:=Tryz.underlying20
 a20:=Tryz.isAgg20
 z20:=Tryz.sizeOf20
 v20:=Tryz.zeroValue20
 t37:=Tryz.underlying22
 a37:=Tryz.isAgg22
 z37:=Tryz.sizeOf22
 v37:=Tryz.zeroValue22
 t46:=Tryz.underlying143
 a46:=Tryz.isAgg143
 z46:=Tryz.sizeOf143
 v46:=Tryz.zeroValue143
 t51:=Tryz.underlying185
 a51:=Tryz.isAgg185
 z51:=Tryz.sizeOf185
 v51:=Tryz.zeroValue185
 t53:=Tryz.underlying187
 a53:=Tryz.isAgg187
 z53:=Tryz.sizeOf187
 v53:=Tryz.zeroValue187
 t171:=Tryz.underlying197
 a171:=Tryz.isAgg197
 z171:=Tryz.sizeOf197
 v171:=Tryz.zeroValue197
 t173:=Tryz.underlying199
 a173:=Tryz.isAgg199
 z173:=Tryz.sizeOf199
 v173:=Tryz.zeroValue199
 t212:=Tryz.underlying227
 a212:=Tryz.isAgg227
 z212:=Tryz.sizeOf227
 v212:=Tryz.zeroValue227
 t213:=Tryz.underlying228
 a213:=Tryz.isAgg228
 z213:=Tryz.sizeOf228
 t232:=Tryz.underlying266
 a232:=Tryz.isAgg266
 z232:=Tryz.sizeOf266
 v232:=Tryz.zeroValue266
 t233:=Tryz.underlying267
 a233:=Tryz.isAgg267
 z233:=Tryz.sizeOf267
 v233:=Tryz.zeroValue267
 g17:=by kernel_rfl
 g18:=by kernel_rfl
 g19:=by kernel_rfl
 i0:=by kernel_rfl
 i2:=by kernel_rfl
 i3:=by kernel_rfl
 i4:=by kernel_rfl
 i5:=by kernel_rfl
 i9:=by kernel_rfl
 i20:=by kernel_rfl
 i37:=by kernel_rfl
 i46:=by kernel_rfl
 i51:=by kernel_rfl
 i53:=by kernel_rfl
 i171:=by kernel_rfl
 i173:=by kernel_rfl
 i212:=by kernel_rfl
 i232:=by kernel_rfl
 i233:=by kernel_rfl
 m17:=by kernel_rfl
 m18:=by kernel_rfl
 m19:=by kernel_rfl }
def Lk:List AV→Option (List (List Nat))
 | []=>some []
 | .str x::l=>(Lk l).bind fun r=>some (x::r)
 | _=>none
theorem Ko:∀ {l:List AV}{r:List (List Nat)},Lk l=some r→∀v∈l,∃x,v=.str x
 | [],_,_,v,hv=>by cases hv
 | a::l,r,h,v,hv=>by
  unfold Lk at h
  split at h<;>first | (cases h;done) | skip
  ·rename_i hq;cases hq
  ·rename_i x l2 hq
   injection hq with q1 q2
   subst q1;subst q2
   simp only[tH]at h
   obtain⟨r',h1,_⟩:=h
   rcases uT.1 hv with rfl | hv
   ·exact⟨_,rfl⟩
   ·exact Ko h1 v hv
def Ev(sep:List Nat)(r:List (List Nat)):List Nat:=(r.map (sep++·)).flatten
def gF(xs:List (List Nat))(sep:List Nat):List Nat:=match xs with
 | []=>[]
 | x::r=>x++Ev sep r
def Gv{β α:Type}:List β→(List β→Option α)→Option α
 | [],k=>k []
 | x::l,k=>Gv l fun r=>k (x::r)
theorem D3{β α:Type}:∀ (l:List β)(k:List β→Option α),Gv l k=k l
 | [],_=>rfl
 | x::l,k=>D3 l _
def VF(s:AD):List AV→Option (AV×AD)
 | [.slice (some (i,o)) n c,.str sep]=>(BG s i o n).bind fun cs=>(Lk cs).bind fun xs=>Gv (gF xs sep) fun t=>AF (Nat.ble t.length 1000000 && Nat.ble n 1000000) (some (.str t,s))
 | _=>none
theorem Oe        {a b : ByteArray} (h : (a.data.toList.map fun (c : UInt8) => c.toNat) = b.data.toList.map fun (c : UInt8) => c.toNat) : a = b := by
  have key:∀ {l m:List UInt8},(l.map fun(c:UInt8)=>c.toNat)=m.map (fun(c:UInt8)=>c.toNat)→l=m:=by
    intro l
    induction l with
    | nil=>intro m h;cases m with | nil=>rfl | cons=>cases h
    | cons x l ih =>
      intro m h
      cases m with
      | nil=>cases h
      | cons y m =>
        rw[ta,ta]at h
        injection h with h1 h2
        rw[ih h2,UInt8.toNat_inj.1 h1]
  have:=key h
  exact ByteArray.ext (Array.toList_inj.1 this)
theorem AJ.backAt{ρ:A5}:∀ {l:List AV}{l':List Value},AJ ρ l l'→∀ {k:Nat}{v':Value},l'[k]? = some v'→∃u,l[k]? = some u∧AM ρ u v'
 | _,_,.nil,k,v',h=>by simp at h
 | _,_,.cons hv hs,0,v',h=>by simp at h;subst h;exact⟨_,rfl,hv⟩
 | _,_,.cons hv hs,k+1,v',h=>by simpa using hs.backAt (by simpa using h)
theorem He{ρ:A5}:∀ {l:List AV}{xs:List (List Nat)}{l':List Value},Lk l=some xs→AJ ρ l l'→∃bs:List ByteArray,l'=bs.map Value.string∧xs=bs.map fun b=>b.data.toList.map fun(c:UInt8)=>c.toNat
  | [],xs,l',h,hr=>by cases hr;injection h with h;exact⟨[],rfl,h.symm⟩
  | v::l,xs,l',h,hr=>by
    cases hr with
    | cons hv hs =>
      cases v<;>try (simp[Lk]at h;done)
      rename_i x
      simp only[Lk,tH]at h
      obtain⟨r,h1,h2⟩:=h
      injection h2 with h2
      subst h2
      obtain⟨bs,rfl,rfl⟩:=He h1 hs
      cases hv with
      | str e=>rename_i b;exact⟨b::bs,rfl,by rw[ta,e]⟩
theorem OR(sep:List UInt8)(r:List (List UInt8)):Ev (sep.map fun(c:UInt8)=>c.toNat) (r.map fun b=>b.map fun(c:UInt8)=>c.toNat)=(Go.Lib.joinTail sep r).map fun(c:UInt8)=>c.toNat:=by
 induction r with
 | nil=>rfl
 | cons x r ih =>
  have h1:Ev (sep.map fun(c:UInt8)=>c.toNat) ((x::r).map fun b=>b.map fun(c:UInt8)=>c.toNat)=(sep.map fun(c:UInt8)=>c.toNat)++x.map (fun(c:UInt8)=>c.toNat)++Ev (sep.map fun(c:UInt8)=>c.toNat) (r.map fun b=>b.map fun(c:UInt8)=>c.toNat):=by simp[Ev]
  have h2:Go.Lib.joinTail sep (x::r)=sep++x++Go.Lib.joinTail sep r:=by simp[Go.Lib.joinTail]
  rw[h1,h2,ih];simp
theorem Y1(bs:List ByteArray)(sep:ByteArray):gF (bs.map fun b=>b.data.toList.map fun(c:UInt8)=>c.toNat) (sep.data.toList.map fun(c:UInt8)=>c.toNat)=(Go.Lib.join (bs.map (·.data.toList)) sep.data.toList).map fun(c:UInt8)=>c.toNat:=by
 cases bs with
 | nil=>rfl
 | cons b bs =>
  rw[ta,ta,Go.Lib.join_cons,List.map_append]
  show _++Ev _ _=_
  have:=OR sep.data.toList (bs.map (·.data.toList))
  rw[List.map_map]at this
  rw[← this];rfl
section
variable{ρ:A5}{s s1:AD}{w:World}
theorem Y2        (h : As  Tryz.prog ρ s w) {ys : List AV} {as' : Array Value} {v : AV} (hs : VF     s ys = some (v, s1)) (has : AJ    ρ ys as'.toList) : CallsIn Fence.wide 0 Tryz.prog 86 as' w (Bk     Tryz.prog ρ s w v s1) := by
  refine callsIn_wide.2 ?_
  unfold VF at hs
  split at hs<;>first | (cases hs;done) | skip
  rename_i i o n c sep
  simp only[tH]at hs
  obtain⟨cs,hl,xs,hx,hs⟩:=hs
  rw[D3]at hs
  obtain⟨hg,hs⟩:=AA hs
  simp only[Bool.and_eq_true,tK]at hg
  injection hs with hs
  injection hs with q1 q2
  subst q1;subst q2
  obtain⟨l0⟩:=as'
  cases has with
  | cons h1 h2 =>
  cases h2 with
  | cons h2 h3 =>
  cases h3
  cases h2 with
  | str hsep =>
  rename_i sb
  have main:∀ {rb:RB} {cap:Nat},ρ i=some rb→n≤cap→Calls Tryz.prog 86 #[.slice (some ⟨rb.b,rb.off+o,none⟩) n cap,.string sb] w (Bk Tryz.prog ρ s w (.str (gF xs sep)) s):=by
    intro rb cap hr hcap
    obtain⟨l',hv,hl2,_⟩:=B2 h hr hl
    have hcell:∀k u,cs[k]? = some u→∃v',AM ρ u v'∧w.cell? ⟨rb.b,rb.off+(o+k),none⟩=some v':=fun k u hk=>by
      obtain⟨r,hrow⟩:∃r,rowAt s i=some r:=by
        unfold BG at hl
        cases hrw:rowAt s i with
        | none=>rw[hrw]at hl;cases hl
        | some r=>exact⟨r,rfl⟩
      obtain⟨g1,g2⟩:=D5 hrow hl
      have hkn:k<n:=by
        have:=AE.take_length g2
        rcases tL k n with h' | h'
        · exact h'
        · rw[tY (by omega)]at hk;cases hk
      have g3:=AE.take_get g2 k hkn
      have:B1 s i (o+k)=some u:=by
        unfold B1
        rw[hrow,Option.bind_some,g3,hk]
        have:Nat.blt (o+k) r.n=true:=by rw[tP];omega
        rw[this];rfl
      exact EO h hr this
    obtain⟨bs,rfl,rfl⟩:=He hx hv
    subst hsep
    rw[Y1]at hg ⊢
    rw[tz]at hg
    have hlen:bs.length=n:=by rw[tz]at hl2;exact hl2
    subst hlen
    have hcj:∀ (j:Nat) x,bs[j]? = some x→w.cell? ⟨rb.b,rb.off+o+j,none⟩=some (.string x):=fun j x hj=>by
      obtain⟨u,hu,hux⟩:∃u,cs[j]? = some u∧AM ρ u (.string x):=by
        obtain⟨u,hu1,hu2⟩:=hv.backAt (k:=j) (v':=.string x) (by rw[uG,hj];rfl)
        exact⟨u,hu1,hu2⟩
      obtain⟨v',k1,k2⟩:=hcell j u hu
      obtain⟨su,rfl⟩:=Ko hx u (tf hu)
      cases hux with
      | str e1 =>
        cases k1 with
        | str e2 =>
          rename_i b'
          have:b'=x:=Oe (e2.trans e1.symm)
          rw[show rb.off+o+j=rb.off+(o+j)from by omega,k2,this]
    have:=Any.strings_Join X5 NE rb.b (rb.off+o) cap bs sb w hcj (h.lt i rb hr) (by omega) hcap (by omega)
    refine Calls.mono this ?_
    rintro e w' ⟨rfl,hb⟩
    obtain⟨g1,g2⟩:=h.grown (w1:=w') ⟨hb.os,hb.tape,hb.output,hb.size,fun k hk _=>hb.block k hk⟩
    exact⟨ρ,.str rfl,g1,g2⟩
  cases h1 with
  | slice hr hle=>exact main hr hle
  | sliceOpen hr h0 hle hN1 hN2=>exact main hr hle
  | sliceEnd hr h0 hN1 hN2 =>
    rename_i rb a
    obtain⟨l',hv,hl2,_⟩:=B2 h hr hl
    obtain⟨bs,rfl,rfl⟩:=He hx hv
    have hb0:bs=[]:=uQ (by rw[tz]at hl2;exact hl2)
    subst hb0
    refine Calls.mono (Any.strings_Join_none X5 NE _ _ sb w) ?_
    rintro e w' ⟨rfl,rfl⟩
    exact⟨ρ,.str rfl,h,Fr.refl _ _ _⟩
end
end
end Go.Proofs.YtoaaclpjkelofaaGreatDoor.Am
