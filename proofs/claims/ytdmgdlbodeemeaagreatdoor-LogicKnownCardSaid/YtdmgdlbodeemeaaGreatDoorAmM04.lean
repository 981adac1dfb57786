/- The abstract machine runs as the model does; conditions: told in 'SimOk'. -/
import Derived.LoopNIn
import Derived.Test.YtdmgdlbodeemeaaGreatDoorAmM03
import Derived.Maps.RangeRun
import Derived.ChangeSame
import Derived.Test.YtdmgdlbodeemeaaGreatDoorAmM01
set_option linter.unusedVariables false
set_option linter.unusedSimpArgs false
namespace Go.Proofs.YtdmgdlbodeemeaaGreatDoor.Am
open Go
noncomputable section
def EC:JG→Exit
 | .normal=>.normal
 | .exit id=>.exit id
 | .ret=>.ret
def JK(ρ:A5):Option Nat→Option Nat→Prop
 | none,r=>r=none
 | some l,r=>∃rb,ρ l=some rb∧r=some rb.b
theorem JK.mono{ρ ρ1:A5}{rnd r:Option Nat}(h:JK ρ rnd r)(le:ρ.le ρ1):JK ρ1 rnd r:=by
 cases rnd with
 | none=>exact h
 | some l=>obtain⟨rb,h1,h2⟩:=h;exact⟨rb,le _ _ h1,h2⟩
structure FW(P:Program)(fn:Func)(ρ:A5)(s:AD)(w:World)(r:Aq)(a':Act)(w':World)(ρ':A5):Prop where
 inv:Aw P ρ' r.st w'
 fresh:Ag ρ' r.st
 fr:Fr ρ s w ρ' r.st w'
 vars:Ai P ρ' fn r.var a'.tmps
 marks:BL ρ' r.marks a'.defers
structure Eu(P:Program)(fn:Func)(ρ:A5)(s:AD)(w:World)(var:List AV)(marks:List Nat)(rnd r:Option Nat)(a:Act):Prop where
 inv:Aw P ρ s w
 fresh:Ag ρ s
 vars:Ai P ρ fn var a.tmps
 marks:BL ρ marks a.defers
 rnd:JK ρ rnd r
def EM(P:Program)(F:Cg):Prop:=∀ (f:FuncId)(fn:Func)(c:Code)(rnd r:Option Nat)(var:List AV)(marks:List Nat)(s:AD)(res:Aq)(ρ:A5)(w:World)(a:Act)(Q:Exit→Act→World→Prop),
 P.funcs[f]? = some fn→F.code rnd (AX P f fn.ntmps (AT P fn) c) var marks s=some res→Eu P fn ρ s w var marks rnd r a →
 (∀a' w' ρ',FW P fn ρ s w res a' w' ρ'→Q (EC res.exit) a' w')→c.wpIn (FU r) 0 P Q a w
def QQ(P:Program)(F:Cg)(n:Nat):Prop:=∀ (f:FuncId)(fn:Func)(c:Code)(rnd r:Option Nat)(var:List AV)(marks:List Nat)(s:AD)(res:Aq)(ρ:A5)(w:World)(a:Act)(Q:Exit→Act→World→Prop),
 P.funcs[f]? = some fn→F.code rnd (.loop (AX P f fn.ntmps (AT P fn) c)) var marks s=some res→Eu P fn ρ s w var marks rnd r a →
 (∀a' w' ρ',FW P fn ρ s w res a' w' ρ'→Q (EC res.exit) a' w')→Code.roundsIn (FU r) 0 P c Q n a w
def B0(P:Program)(call:FuncId→List AV→AD→Option (AV×AD)):Prop:=∀ (ρ:A5)(s:AD)(w:World)(f:FuncId)(aS:List AV)(v:AV)(s1:AD)(as':Array Value),
 call f aS s=some (v,s1)→Aw P ρ s w→Ag ρ s→AJ ρ aS as'.toList →
 (∃fn c,P.funcs[f]? = some fn∧fn.body=some c)∧CallsIn Fence.wide 0 P f as' w (CS P ρ s w v s1)
def Dk (P : Program) : Prop := ∀ (f : FuncId) (fn : Func), P.funcs[f]? = some fn → (fn.name == "runtime.NumGoroutine") = false
structure NE(P:Program)(F:Cg)(n:Nat):Prop where
 code:EM P F
 loop:QQ P F n
 call:B0 P F.call
 round:∀ (ρ:A5) (s:AD) (w:World) (l:Nat) (rb:RB) (aS:List AV) (v:AV) (s1:AD) (as':Array Value),F.round l aS s=some (v,s1)→Aw P ρ s w→Ag ρ s→ρ l=some rb→AJ ρ aS as'.toList →
  Cu P ρ s w v s1 ((Instr.yield rb.b as').run P w)
section
variable{P:Program}{ρ ρ1 ρ2:A5}{s s1 s2:AD}{w w1 w2:World}
theorem Fd(hng:Dk P){f:FuncId}{fn:Func}{c:Code}(hf:P.funcs[f]? = some fn)(hb:fn.body=some c)(args:Array Value)(w:World):(callFunc f args).run P w=.ok (.enter f args) w:=by
  have h1:=hng f fn hf
  have h2 : fn.name ≠ "runtime.NumGoroutine" := by simpa using h1
  simp[callFunc,hf,h2,hb]
theorem NE.fok(hng:Dk P){F:Cg}{n:Nat}(h:NE P F n):Y8 P F where
 call:=fun ρ s w f aS v s1 as' hc hi hf ha=>by
  obtain⟨⟨fn,c,h1,h2⟩,h3⟩:=h.call ρ s w f aS v s1 as' hc hi hf ha
  rw[Fd hng h1 h2]
  exact .enter h3
 round:=h.round
theorem FW.trans{fn:Func}{s1:AD}{r1 r2:Aq}{a1 a2:Act}(h1:Fr ρ s w ρ1 s1 w1)(h2:FW P fn ρ1 s1 w1 r2 a2 w2 ρ2):FW P fn ρ s w r2 a2 w2 ρ2:=
 ⟨h2.inv,h2.fresh,h1.trans h2.fr,h2.vars,h2.marks⟩
theorem FW.begins{fn:Func}{r:Aq}{a1:Act}{var:List AV}{marks:List Nat}{rnd rr:Option Nat}{a:Act}(hb:Eu P fn ρ s w var marks rnd rr a)(h:FW P fn ρ s w r a1 w1 ρ1):Eu P fn ρ1 r.st w1 r.var r.marks rnd rr a1:=
 ⟨h.inv,h.fresh,h.vars,h.marks,hb.rnd.mono h.fr.le⟩
theorem cm     (hm : P.follows .mixedOrders = true) {F : Cg}  (hF : Y8  P F) {fn : Func} {f : FuncId} {id : Nat} {ops : Array Oper} {draw : Bool} {r rnd : Option Nat} {var : List AV} {marks : List Nat} {s : AD}  {res : Aq}   {ρ : A5}  {w : World} {a : Act} {Q : Exit → Act → World → Prop}
    (hc:CF F rnd (AX P f fn.ntmps (AT P fn) (.region id ops draw)) var marks s=some res) (hb:Eu P fn ρ s w var marks rnd r a)
    (hq:∀a' w' ρ',FW P fn ρ s w res a' w' ρ'→Q (EC res.exit) a' w'):(Code.region id ops draw).wpIn (FU r) 0 P Q a w:=by
  have fin:∀ {items:List AB} {b:Array Nat} {l:List Nat},Dp P fn.ntmps (AT P fn) ops b draw l ⟨[],0⟩ []=some items→CF F rnd (.ops items) var marks s=some res →
      ∃R' s',Trace P F ops fn.ntmps b draw l [] (IG (AT P fn) var) s R' s'∧res.exit=.normal∧res.marks=marks∧res.st=s'∧∃c' loc',DV (AT P fn) c' loc' res.var R':=by
    intro items b l hi hs
    simp only[CF,ZN]at hs
    split at hs<;>first | (cases hs;done) | skip
    rename_i p hp
    injection hs with hs
    subst hs
    obtain⟨R',h1,h2⟩:=PU l ⟨[],0⟩ [] items [] var s p.1 p.2 (IG (AT P fn) var) [] hi hp (Ik hb.vars.len) .nil
    exact⟨R',p.2,h1,rfl,rfl,rfl,h2⟩
  have back:∀ {R':Bp} {a':Act} {w':World} {ρ':A5},(∃c' loc',DV (AT P fn) c' loc' res.var R')→res.exit=.normal→res.marks=marks→Aw P ρ' res.st w'→Ag ρ' res.st→Fr ρ s w ρ' res.st w'→Dz ρ' R' a'.tmps→a'.tmps.size=a.tmps.size→a'.defers=a.defers→Q .normal a' w':=by
    intro R' a' w' ρ' ⟨c',loc',hcr⟩ he hmk h1 h2 h3 h4 h5 h6
    have:=hq a' w' ρ' ⟨h1,h2,h3,Tc hcr h4 (by rw[h5];exact hb.vars.size),by rw[hmk,h6];exact hb.marks.mono h3.le⟩
    rw[he]at this
    exact this
  cases draw with
  | false =>
    refine wpIn_region ?_
    simp only[AX]at hc
    cases hi:Dp P fn.ntmps (AT P fn) ops #[] false (List.range ops.size) ⟨[],0⟩ []with
    | none=>rw[hi]at hc;cases hc
    | some items =>
      rw[hi]at hc
      obtain⟨R',s',h1,h2,h3,h4,h5⟩:=fin hi hc
      subst h4
      exact Tb hF h1 hb.inv hb.fresh (Fw hb.vars) hb.vars.size fun a' w' ρ' g1 g2 g3 g4 g5 g6=>back h5 h2 h3 g1 g2 g3 g4 g5 g6
  | true =>
    refine wpIn_region_any hm ?_
    simp only[AX]at hc
    cases hpl:D8 P ops (Region.before ops) [] (aU P ops)with
    | false=>rw[hpl]at hc;cases hc
    | true =>
      rw[hpl]at hc
      simp only[AG,cond_true]at hc
      cases hi:Dp P fn.ntmps (AT P fn) ops (Region.before ops) true (aU P ops) ⟨[],0⟩ []with
      | none=>rw[hi]at hc;cases hc
      | some items =>
        rw[hi]at hc
        obtain⟨R',s',h1,h2,h3,h4,h5⟩:=fin hi hc
        subst h4
        have hd:=Fr.drawn' (ρ:=ρ) (s:=s) (w:=w) (w.drawn+1)
        exact XL hF h1 hpl (hb.inv.drawn (w.drawn+1)) hb.fresh (Fw hb.vars) hb.vars.size fun a' w' ρ' g1 g2 g3 g4 g5 g6=>back h5 h2 h3 g1 g2 (hd.trans g3) g4 g5 g6
theorem GS{l:Nat}{L:Loop}(h:w.heap[l]? = some (.loop L))(fn:FuncId)(tmps:Array Value)(ps:Array Tmp)(assign body:Code):
  (Instr.enterLoop fn tmps ps assign body (some l)).run P w =
   .ok (w.heap.size,[]) (w.alloc (.loop { state:=.ready,pending:=none,fn,tmps,params:=ps,assign,body,defers:=L.defers })):=by
 unfold Instr.enterLoop
 simp only[Sem.run_bind,run_getLoop h,run_newObj_alloc,Result.andThen,Sem.run_pure]
theorem D7{l:Nat}{r:EE}(h:Ba s l=some r):s.heap.get l=some (.loop r):=by
 unfold Ba at h
 split at h
 ·injection h with h;subst h;assumption
 ·cases h
theorem Ag.new(h:Ag ρ s)(o:Af)(rb:RB):Ag (Bc ρ s.next rb) (newObj s o):=by
 intro i hi
 have hi:s.next+1≤i:=hi
 have:=h i (by omega)
 exact⟨by rw[AL rb (by omega)];exact this.1,by rw[An,if_neg (by omega)];exact this.2⟩
theorem J8(h:Aw P ρ s w){l:Nat}{r:EE}{rb:RB}(hg:s.heap.get l=some (.loop r))(hr:ρ l=some rb){st:LoopState}{pd:Option Code}{L:Loop}(hL:w.heap[rb.b]? = some (.loop L)):
  Aw P ρ (setObj s l (.loop { r with state:=st,pending:=pd })) (w.putObj rb.b (.loop { L with state:=st,pending:=pd }))∧Fr ρ s w ρ (setObj s l (.loop { r with state:=st,pending:=pd })) (w.putObj rb.b (.loop { L with state:=st,pending:=pd })):=by
 have hlt:=h.lt l rb hr
 refine h.set hg hr rfl (fun p e=>by cases e) rfl World.putObj_size (fun b hb=>World.putObj_heap_other hb) rfl rfl rfl ?_
 obtain⟨L',h0,h1,h2,h4,h5,h6,h7,h8,h9,h10⟩:=(h.obj l _ rb hg hr:FY P ρ w r rb).ex
 rw[hL]at h0
 injection h0 with h0
 injection h0 with h0
 subst h0
 exact⟨_,World.putObj_heap_same hlt,rfl,rfl,h4,h5,h6,h7,h8,h9,h10⟩
theorem aT{r:Option Nat}{s':AD}{res:Aq}{a:Act}{Q:Exit→Act→World→Prop}{var:List AV}{marks:List Nat}{pd:Option Code}
  (hp:Fb var marks s' pd=some res) (hq:res.var=var→res.marks=marks→res.st=s'→Q (EC res.exit) a w):
  (match (generalizing:=false) pd with
   | none=>Q .normal a w
   | some c=>c.wpIn (FU r) 0 P Q a w):=by
 unfold Fb at hp
 split at hp<;>first | (cases hp;done) | skip
 ·injection hp with hp;subst hp;exact hq rfl rfl rfl
 ·injection hp with hp;subst hp;exact wpIn_ret (hq rfl rfl rfl)
 ·injection hp with hp;subst hp;exact wpIn_exit (hq rfl rfl rfl)
theorem KS         (hng : Dk      P) {F : Cg}  (hcall : B0     P F.call) {f : FuncId} {fn : Func} {var : List AV} {marks : List Nat} {s : AD}  {res : Aq}   {ρ : A5}  {w : World} {a : Act} {r : Option Nat} {Q : Exit → Act → World → Prop} {g : AV} {g' : Value} {ps : Array Tmp} {assign body : Code} {dfr : Nat} {rd : RB}
    (hf:P.funcs[f]? = some fn) (hc:EG F var g ps assign body f dfr marks s=some res) (hi:Aw P ρ s w) (hfr:Ag ρ s) (hv:Ai P ρ fn var a.tmps) (hmk:BL ρ marks a.defers)
    (hg:AK ρ g g') (hd:ρ dfr=some rd) (fn':FuncId)
    (hq:∀w' ρ',FW P fn ρ s w res a w' ρ'→Q (EC res.exit) a w'):
    ∃ (d : Deferred) (f0 : FuncId) (args : Array Value), Deferred.ofValue g' #[.func (.yield w.heap.size) #[] #[]] = Pure.pure d ∧
      (∀w1,(invoke d.target d.args).run P w1=.ok (.enter f0 args) w1) ∧
      CallsIn (FU r) 0 P f0 args (w.alloc (.loop { state:=.ready,pending:=none,fn:=fn',tmps:=a.tmps,params:=ps,assign,body,defers:=rd.b })) (rangePost (FU r) 0 P w.heap.size Q a):=by
  let L:Loop:={ state:=.ready,pending:=none,fn:=fn',tmps:=a.tmps,params:=ps,assign,body,defers:=rd.b }
  let al:EE:={ state:=.ready,pending:=none,fn:=f,var,params:=ps,assign,body,dfr }
  let rb:RB:=⟨w.heap.size,0,0,0⟩
  have hvi:De P f=AT P fn:=by unfold De;rw[hf]
  have hn0:=(hfr _ (fR s.next)).1
  have hle:=Ay (rb:=rb) hn0
  obtain⟨hi1,hfr1⟩:=hi.new (o:=.loop al) (o':=.loop L) (rb:=rb) hn0 rfl
    ⟨L,World.alloc_heap_new w _,rfl,rfl,rfl,rfl,rfl,⟨rd,hle _ _ hd,rfl⟩,by rw[hvi];exact(hv.mono hle).rel,fun fn0 h0=>by
      have h0:P.funcs[f]? = some fn0:=h0
      rw[hf]at h0;injection h0 with h0;subst h0;exact hv.size,by rw[hvi];exact hv.len⟩
  have hff:=hfr.new (.loop al) rb
  unfold EG GA at hc
  simp only[fQ]at hc
  obtain⟨q,hcv,r2,hl2,hend⟩:=hc
  cases hbz:Pj r2.state with
  | true=>rw[hbz]at hend;cases hend
  | false =>
    rw[hbz]at hend
    simp only[cond_false]at hend
    unfold Fe at hcv
    split at hcv<;>first | (cases hcv;done) | skip
    rename_i f0 first cap
    cases hg with
    | func ha hcp =>
      rename_i x c
      obtain⟨⟨fn0,c0,k1,k2⟩,k3⟩:=hcall _ _ _ f0 _ q.1 q.2 ((x++#[.func (.yield w.heap.size) #[] #[]])++c) hcv hi1 hff (by
        simp only[Array.toList_append]
        have hy:AK (Bc ρ s.next rb) (.yield s.next) (.func (.yield w.heap.size) #[] #[]):=AK.yield (rb:=rb) (AQ _ _)
        have:=(AJ.mono hle ha).append ((AJ.cons hy .nil).append (AJ.mono hle hcp))
        simpa using this)
      refine⟨{ target:=.fn (.func f0) c,args:=x++#[.func (.yield w.heap.size) #[] #[]] },f0,_,rfl,fun w1=>?_,IT (CallsIn.mono k3 ?_)⟩
      · simp only[invoke]
        exact Fd hng k1 k2 _ _
      · intro e w3 he
        cases e with
        | panicked c=>exact he.elim
        | outgrown=>exact he.elim
        | returned v' =>
          obtain⟨ρ',_,g2,g3⟩:=he
          have hg2:=D7 hl2
          have hr2:ρ' s.next=some rb:=g3.le _ _ (AQ _ _)
          obtain⟨L2,h0,h1,h2,_⟩:=(g2.obj _ _ _ hg2 hr2:FY P ρ' w3 r2 rb).ex
          obtain⟨g4,g5⟩:=J8 g2 hg2 hr2 (st:=.exhausted) (pd:=r2.pending) h0
          have hbz':L2.state≠.busy:=by rw[h1];intro e;rw[e]at hbz;cases hbz
          refine⟨L2.pending,_,run_endLoop h0 hbz',?_⟩
          rw[h2]
          refine aT hend fun e1 e2 e3=>hq _ ρ' ?_
          have hall:=hfr1.trans (g3.trans g5)
          have hfresh:=(hff.step g3).step g5
          rw[h2.symm]at g4 g5 hall
          refine⟨?_,?_,?_,by rw[e1];exact hv.mono hall.le,by rw[e2];exact hmk.mono hall.le⟩
          · rw[e3,← h2];exact g4
          · rw[e3];exact hfresh
          · rw[e3,← h2];exact hall
end
end
end Go.Proofs.YtdmgdlbodeemeaaGreatDoor.Am
set_option linter.unusedVariables false
set_option linter.unusedSimpArgs false
namespace Go.Proofs.YtdmgdlbodeemeaaGreatDoor.Am
open Go
open Go.ChangeMaps (setBlock)
noncomputable section
mutual
theorem AK.back{ρ σ:A5}(le:ρ.le σ){v:AV}{v' v0:Value}(h:AK σ v v')(h0:AK ρ v v0):AK ρ v v':=by
 cases h with
 | bool b=>exact .bool b
 | int k n=>exact .int k n
 | str h=>exact .str h
 | ptrNil=>exact .ptrNil
 | ptr h=>cases h0 with
  | ptr k=>have:=le _ _ k;rw[h]at this;injection this with this;subst this;exact .ptr k
 | gptr g o=>exact .gptr g o
 | sliceNil=>exact .sliceNil
 | slice h hl=>cases h0 with
  | slice k _=>have:=le _ _ k;rw[h]at this;injection this with this;subst this;exact .slice k hl
 | sliceOpen h hs hl h1 h2=>cases h0 with
  | sliceOpen k _ _ _ _=>have:=le _ _ k;rw[h]at this;injection this with this;subst this;exact .sliceOpen k hs hl h1 h2
  | sliceEnd k _ _ _=>have:=le _ _ k;rw[h]at this;injection this with this;subst this;exact .sliceOpen k hs hl h1 h2
 | sliceEnd h hs h1 h2=>cases h0 with
  | sliceOpen k _ _ _ _=>have:=le _ _ k;rw[h]at this;injection this with this;subst this;exact .sliceEnd k hs h1 h2
  | sliceEnd k _ _ _=>have:=le _ _ k;rw[h]at this;injection this with this;subst this;exact .sliceEnd k hs h1 h2
 | mapNil=>exact .mapNil
 | map h=>cases h0 with
  | map k=>have:=le _ _ k;rw[h]at this;injection this with this;subst this;exact .map k
 | func ha hc=>cases h0 with
  | func ka kc=>exact .func (AJ.back le ha ka) (AJ.back le hc kc)
 | yield h=>cases h0 with
  | yield k=>have:=le _ _ k;rw[h]at this;injection this with this;subst this;exact .yield k
 | nilFunc=>exact .nilFunc
 | nilIface=>exact .nilIface
 | iface h=>cases h0 with
  | iface k=>exact .iface (AK.back le h k)
 | agg h=>cases h0 with
  | agg k=>exact .agg (AJ.back le h k)
 | tuple h=>cases h0 with
  | tuple k=>exact .tuple (AJ.back le h k)
 | any h=>exact .any h
theorem AJ.back{ρ σ:A5}(le:ρ.le σ){v:List AV}{v' v0:List Value}(h:AJ σ v v')(h0:AJ ρ v v0):AJ ρ v v':=by
 cases h with
 | nil=>exact .nil
 | cons h hs=>cases h0 with
  | cons k ks=>exact .cons (AK.back le h k) (AJ.back le hs ks)
end
theorem C5{σ:A5}{v:AV}{v':Value}(h:EU v=true)(hv:AK σ v v'):v'.cells.toList=[v']:=by
 cases hv<;>first | rfl | (cases h;done) | assumption
theorem Fx{a b:AV}(h:Hh a b=true):a=b:=by
 unfold Hh at h
 split at h
 ·rfl
 ·exact E7 h
def K4(X B:List AV):Prop:=X.length=B.length∧∀ (j:Nat)(x:AV),X[j]? = some x→B[j]? = some x∨EU x=true∧B[j]? = some .junk
theorem K4.refl(X:List AV):K4 X X:=⟨rfl,fun j x h=>.inl h⟩
theorem K4.trans{X Y Z:List AV}(h:K4 X Y)(k:K4 Y Z):K4 X Z:=by
  refine⟨h.1.trans k.1,fun j x hx=>?_⟩
  rcases h.2 j x hx with h1 | ⟨h1,h2⟩
  · exact k.2 j x h1
  · rcases k.2 j _ h2 with h3 | ⟨_, h3⟩
    · exact .inr ⟨h1,h3⟩
    · exact .inr ⟨h1,h3⟩
theorem HF:∀ {X B:List AV},XC X B=true→K4 X B
 | [],[],_=>.refl _
 | x::l,b::m,h=>by
  simp only[XC,Bool.and_eq_true]at h
  obtain⟨g1,g2⟩:=HF h.2
  refine⟨by simp[g1],fun j y hy=>?_⟩
  cases j with
  | zero =>
   simp at hy
   subst hy
   have h1:=h.1
   simp only[eQ,Bool.or_eq_true,Bool.and_eq_true]at h1
   rcases h1 with h1 | ⟨h1,h2⟩
   ·left;simp[Fx h1]
   ·right;refine⟨h1,?_⟩;simp[← Fx h2]
  | succ j=>simpa using g2 j y (by simpa using hy)
 | [],_::_,h=>by cases h
 | _::_,[],h=>by cases h
theorem KB         : ∀ {A X B : List AV}, Mh     A X = some B → K4  A B ∧ K4  X B
  | [],[],B,h=>by injection h with h;subst h;exact⟨.refl _,.refl _⟩
  | a::l,x::m,B,h=>by
    unfold Mh at h
    simp only[fQ]at h
    obtain⟨c,h1,r,h2,h3⟩:=h
    injection h3 with h3
    subst h3
    obtain⟨⟨g1,g2⟩,g3,g4⟩:=KB h2
    have hc:(c=a∨EU a=true∧c=.junk)∧(c=x∨EU x=true∧c=.junk):=by
      cases he:Hh a x with
      | true=>rw[he]at h1;injection h1 with h1;exact⟨.inl h1.symm,.inl (h1.symm.trans (Fx he))⟩
      | false =>
        rw[he]at h1
        obtain⟨h4,h5⟩:=AA h1
        simp only[Bool.and_eq_true]at h4
        injection h5 with h5
        exact⟨.inr ⟨h4.1,h5.symm⟩,.inr ⟨h4.2,h5.symm⟩⟩
    refine⟨⟨by simp[g1],fun j y hy=>?_⟩,⟨by simp[g3],fun j y hy=>?_⟩⟩
    · cases j with
      | zero =>
        simp at hy
        subst hy
        rcases hc.1 with h | ⟨h,h'⟩
        · left;simp[h]
        · right;simp[h,h']
      | succ j=>simpa using g2 j y (by simpa using hy)
    · cases j with
      | zero =>
        simp at hy
        subst hy
        rcases hc.2 with h | ⟨h,h'⟩
        · left;simp[h]
        · right;simp[h,h']
      | succ j=>simpa using g4 j y (by simpa using hy)
  | [],_::_,_,h=>by cases h
  | _::_,[],_,h=>by cases h
theorem Hi:∀ {a b:List Nat},GL a b=true→a=b
 | [],[],_=>rfl
 | a::l,b::m,h=>by
  simp only[GL,Bool.and_eq_true]at h
  rw[fW h.1,Hi h.2]
 | [],_::_,h=>by cases h
 | _::_,[],h=>by cases h
section
variable{P:Program}{ρ ρ1 ρ2:A5}{s s1 s2:AD}{w w1 w2:World}
theorem QM{fn:Func}{A X B:List AV}{t0 t1:Array Value}(h0:Ai P ρ fn A t0)(h1:Ai P ρ1 fn X t1)(le:ρ.le ρ1)(ha:K4 A B)(hx:K4 X B):Ai P ρ fn B t1:=by
  refine⟨by rw[← ha.1];exact h0.len,fun t k hk=>?_,h1.size⟩
  obtain⟨_,a,k1,k2⟩:=h0.rel t k hk
  obtain⟨k3,x,k4,k5⟩:=h1.rel t k hk
  refine⟨k3,?_⟩
  rcases hx.2 k x k4 with e1 | ⟨e1,e2⟩
  · rcases ha.2 k a k1 with e3 | ⟨e3, e4⟩
    · rw[e1]at e3
      injection e3 with e3
      subst e3
      exact⟨_,e1,AK.back le k5 k2⟩
    · rw[e4]at e1
      injection e1 with e1
      subst e1
      cases k5 with
      | any h=>exact⟨_,e4,.any h⟩
  · exact⟨_,e2,.any (C5 e1 k5)⟩
theorem Ld{v:AV}{v':Value}(hp:Lc v=true)(h:AK ρ1 v v'):AK ρ v v':=by
 cases h<;>first | (cases hp;done) | skip
 ·exact .bool _
 ·exact .int _ _
 ·rename_i h;exact .str h
theorem SQ      : ∀ {A X C : List AV}, YQ   A X = some C → X.length = C.length ∧ ∀ (j : Nat) (x : AV), X[j]? = some x → ∃ c, C[j]? = some c ∧ (c = x ∧ (Lc    x = true ∨ A[j]? = some x) ∨ c = .junk ∧ EU     x = true)
  | [],[],C,h=>by injection h with h;subst h;exact⟨rfl,fun j x hx=>by simp at hx⟩
  | a::l,x::m,C,h=>by
    unfold YQ at h
    simp only[fQ]at h
    obtain⟨c,h1,r,h2,h3⟩:=h
    injection h3 with h3
    subst h3
    obtain⟨g1,g2⟩:=SQ h2
    refine⟨by simp[g1],fun j y hy=>?_⟩
    cases j with
    | zero =>
      simp at hy
      subst hy
      refine⟨c,rfl,?_⟩
      cases hb:(Lc x || Hh a x)with
      | true =>
        rw[hb]at h1
        injection h1 with h1
        rw[Bool.or_eq_true]at hb
        exact .inl ⟨h1.symm,hb.imp id fun h=>by simp[Fx h]⟩
      | false =>
        rw[hb]at h1
        obtain⟨h4,h5⟩:=AA h1
        injection h5 with h5
        exact .inr ⟨h5.symm,h4⟩
    | succ j=>simpa using g2 j y (by simpa using hy)
  | [],_::_,_,h=>by cases h
  | _::_,[],_,h=>by cases h
theorem Y2{fn:Func}{A X C R:List AV}{t0 t1:Array Value}(h0:Ai P ρ fn A t0)(h1:Ai P ρ1 fn X t1)(le:ρ.le ρ1)(hc:YQ A X=some C)(hr:K4 C R):Ai P ρ fn R t1:=by
 obtain⟨g1,g2⟩:=SQ hc
 refine⟨by rw[← hr.1,← g1];exact h1.len,fun t k hk=>?_,h1.size⟩
 obtain⟨_,a,k1,k2⟩:=h0.rel t k hk
 obtain⟨k3,x,k4,k5⟩:=h1.rel t k hk
 refine⟨k3,?_⟩
 obtain⟨c,h2,h3⟩:=g2 k x k4
 rcases h3 with⟨rfl,h3⟩ | ⟨rfl,h3⟩
 ·have hx:AK ρ c (t1.getD t undef):=by
   rcases h3 with h3 | h3
   ·exact Ld h3 k5
   ·rw[k1]at h3;injection h3 with h3;subst h3;exact AK.back le k5 k2
  rcases hr.2 k c h2 with e | ⟨e1,e2⟩
  ·exact⟨_,e,hx⟩
  ·exact⟨_,e2,.any (C5 e1 k5)⟩
 ·rcases hr.2 k _ h2 with e | ⟨_,e⟩<;>exact⟨_,e,.any (C5 h3 k5)⟩
theorem Y1{fn:Func}{A B:List AV}{t0:Array Value}(h0:Ai P ρ fn A t0)(h:K4 A B):Ai P ρ fn B t0:=by
 refine⟨by rw[← h.1];exact h0.len,fun t k hk=>?_,h0.size⟩
 obtain⟨k3,a,k1,k2⟩:=h0.rel t k hk
 refine⟨k3,?_⟩
 rcases h.2 k a k1 with e | ⟨e1,e2⟩
 ·exact⟨_,e,k2⟩
 ·exact⟨_,e2,.any (C5 e1 k2)⟩
theorem J0         : ∀ {J : List Nat} {A B : List AV}, Ma     J A = some B → K4  A B
  | [],A,B,h=>by injection h with h;subst h;exact .refl _
  | j::l,A,B,h=>by
    unfold Ma at h
    obtain⟨h1,h2⟩:=AA h
    refine K4.trans ⟨by rw[Dc,ge],fun k x hx=>?_⟩ (J0 h2)
    by_cases e:j=k
    · subst e
      right
      rw[IC hx]at h1
      have hl:j<A.length:=by
        rcases fS j A.length with h | h
        · exact h
        · simp[ff h]at hx
      exact⟨h1,by rw[Dc];simp[hl]⟩
    · left;rw[Dc,gV e];exact hx
theorem M7{fn:Func}{var:List AV}{tmps:Array Value}(h:Ai P ρ fn var tmps){t:Tmp}{j:Nat}(hp:Ao (AT P fn) t=some j){v:AV}{v':Value}(hv:AK ρ v v')(ht:t<tmps.size):Ai P ρ fn (Et v var j) (tmps.setIfInBounds t v'):=by
 refine⟨by rw[Dc,ge];exact h.len,fun u k hk=>?_,by rw[Array.size_setIfInBounds];exact h.size⟩
 obtain⟨g1,x,g2,g3⟩:=h.rel u k hk
 refine⟨by rw[Array.size_setIfInBounds];exact g1,?_⟩
 have hjl:j<var.length:=by rw[h.len];exact Ci hp
 by_cases e:u=t
 ·subst e
  rw[hp]at hk
  injection hk with hk
  subst hk
  exact⟨v,by rw[Dc];simp[hjl],by simpa[Array.getD_eq_getD_getElem?,ht]using hv⟩
 ·have ejk:j≠k:=fun e'=>by subst e';exact e (Fu hk hp)
  refine⟨x,by rw[Dc,gV ejk];exact g2,?_⟩
  have:(tmps.setIfInBounds t v').getD u undef=tmps.getD u undef:=by
   simp[Array.getD_eq_getD_getElem?,Array.getElem?_setIfInBounds_ne (Ne.symm e)]
  rw[this]
  exact g3
theorem Hn{fn:Func}{var:List AV}{tmps:Array Value}(h:Ai P ρ fn var tmps){t:Tmp}(hp:Ao (AT P fn) t=none)(v':Value):Ai P ρ fn var (tmps.setIfInBounds t v'):=by
 refine⟨h.len,fun u k hk=>?_,by rw[Array.size_setIfInBounds];exact h.size⟩
 obtain⟨g1,x,g2,g3⟩:=h.rel u k hk
 refine⟨by rw[Array.size_setIfInBounds];exact g1,x,g2,?_⟩
 have e:u≠t:=fun e=>by subst e;rw[hp]at hk;cases hk
 have:(tmps.setIfInBounds t v').getD u undef=tmps.getD u undef:=by
  simp[Array.getD_eq_getD_getElem?,Array.getElem?_setIfInBounds_ne (Ne.symm e)]
 rw[this]
 exact g3
theorem LN:∀ {l:List Nat}{ds ds':List Deferred},BL ρ l ds→BL ρ1 l ds'→ρ.le ρ1→ds'=ds
 | [],ds,ds',h,h',_=>by
  have h:ds=[]:=h
  have h':ds'=[]:=h'
  rw[h,h']
 | i::l,ds,ds',⟨rb,d1,h1,h2,h3⟩,⟨rb',d2,k1,k2,k3⟩,le=>by
  have:=le _ _ h1
  rw[k1]at this
  injection this with this
  subst this
  rw[h2,k2,LN h3 k3 le]
theorem I6{n:Nat}{h:AH Af}{i:Nat}{o:Af}(hg:(frz n h).heap.get i=some o):∃o',h.get i=some o'∧XU o'=some o:=by
 unfold frz at hg
 simpa only[AH.get_mapO,fQ]using hg
theorem EH{o o':Af}(h:XU o'=some o):wr o=false∧Da o=Da o'∧∀ {ρ:A5}{w:World}{rb:RB},Cv P ρ w o' rb→Cv P ρ w o rb:=by
 cases o' with
 | row r =>
  injection h with h
  subst h
  exact⟨rfl,rfl,fun {ρ w rb} hok=>by
   have hok:BF ρ w r rb:=hok
   exact(show BF ρ w { r with mode:=.ro,par:=none } rb from⟨hok.cells,hok.le,hok.sz,hok.tight,fun e=>absurd rfl e,hok.base,hok.gl,fun p e=>by cases e⟩)⟩
 | map kt es=>injection h with h;subst h;exact⟨rfl,rfl,fun hok=>hok⟩
 | mapRo kt es=>injection h with h;subst h;exact⟨rfl,rfl,fun hok=>hok⟩
 | loop l=>cases h
 | mark=>cases h
 | iter a b=>cases h
theorem Aw.frz(h:Aw P ρ s w)(n:Nat):Aw P ρ (frz n s.heap) w:=by
 refine⟨fun i o rb hi hr=>?_,h.lt,fun i j oi oj ri rj hne hi hj hri hrj hb hw=>?_,fun i o g hi hg=>?_⟩
 ·obtain⟨o',h1,h2⟩:=I6 hi
  exact(EH h2).2.2 (h.obj i _ rb h1 hr)
 ·obtain⟨o',_,h2⟩:=I6 hj
  rw[(EH (P:=P) h2).1]at hw
  cases hw
 ·obtain⟨o',h1,h2⟩:=I6 hi
  rw[(EH (P:=P) h2).2.1]at hg
  exact h.glb i _ g h1 hg
theorem H5(Q0:Program)(n:Nat)(t:AH Af)(b:Nat):¬ FR ρ (frz n t) b:=by
 rintro⟨i,o,rb,h1,h2,_⟩
 obtain⟨o',_,h3⟩:=I6 h1
 rw[(EH (P:=Q0) h3).1]at h2
 cases h2
theorem Ag.frz(h:Ag ρ s):Ag ρ (frz s.next s.heap):=fun i hi=>by
 refine⟨(h i hi).1,?_⟩
 unfold Am.frz
 simp only[AH.get_mapO]
 rw[(h i hi).2];rfl
structure Lv(W:List Nat)(h h':AH Af):Prop where
 inW:∀j∈W,h'.get j=h.get j∧∃r,h.get j=some (.row r)∧CA r=true
 out:∀j,j ∉ W→h'.get j=(h.get j).bind XU
theorem CP{r:B7}(h:CA r=true):CQ r.mode=true∧r.par=none∧r.glob=none:=by
 simpa[CA,Bool.and_eq_true]using h
theorem Ob       {h : AH   Af}   : ∀ {W : List Nat} {t t' : AH   Af},   bA   h W t = some t' → (∀ j ∈ W, t'.get j = h.get j ∧ ∃ r, h.get j = some (.row r) ∧ CA       r = true) ∧ ∀ j, j ∉ W → t'.get j = t.get j
  | [],t,t',e=>by injection e with e;subst e;exact⟨fun j hj=>(by cases hj),fun _ _=>rfl⟩
  | i :: l, t, t', e => by
    unfold bA at e
    split at e
    · rename_i r hr
      obtain⟨e1,e2⟩:=AA e
      obtain⟨g1,g2⟩:=Ob e2
      refine⟨fun j hj=>?_,fun j hj=>?_⟩
      · by_cases hl : j ∈ l
        · exact g1 j hl
        · rcases gg.1            hj with e | h'
          · subst e
            exact⟨by rw[g2 j hl,AH.get_set,if_pos rfl,hr],r,hr,e1⟩
          · exact absurd h' hl
      · have h1 : j ≠ i := fun e => hj (by rw [e]; exact fc                 ..)
        have h2:j ∉ l:=fun h'=>hj (fh _ h')
        rw[g2 j h2,AH.get_set,if_neg h1]
    · cases e
theorem Sx{W:List Nat}{n:Nat}{h:AH Af}{s':AD}(e:cU W n h=some s'):s'.next=n∧Lv W h s'.heap:=by
 unfold cU at e
 simp only[fQ]at e
 obtain⟨t,h1,h2⟩:=e
 injection h2 with h2
 subst h2
 obtain⟨g1,g2⟩:=Ob h1
 exact⟨rfl,g1,fun j hj=>by rw[g2 j hj,AH.get_mapO]⟩
theorem Lv.wr{W:List Nat}{h h':AH Af}(hs:Lv W h h')(Q0:Program){j:Nat}{o:Af}(hj:h'.get j=some o)(hw:wr o=true):j∈W∧h.get j=some o:=by
 by_cases hm:j∈W
 ·exact⟨hm,by rw[← (hs.inW j hm).1];exact hj⟩
 ·rw[hs.out j hm,fQ]at hj
  obtain⟨o',_,h3⟩:=hj
  rw[(EH (P:=Q0) h3).1]at hw
  cases hw
theorem Aw.semi{W:List Nat}{h':AH Af}{n:Nat}(h:Aw P ρ s w)(hs:Lv W s.heap h'):Aw P ρ ⟨n,h'⟩ w:=by
 refine⟨fun i o rb hi hr=>?_,h.lt,fun i j oi oj ri rj hne hi hj hri hrj hb hw=>?_,fun i o g hi hg=>?_⟩
 ·have hi:h'.get i=some o:=hi
  by_cases hm:i∈W
  ·exact h.obj i o rb (by rw[← (hs.inW i hm).1];exact hi) hr
  ·rw[hs.out i hm,fQ]at hi
   obtain⟨o',h1,h2⟩:=hi
   exact(EH h2).2.2 (h.obj i _ rb h1 hr)
 ·have hi:h'.get i=some oi:=hi
  obtain⟨hm,hj'⟩:=hs.wr P hj hw
  obtain⟨_,r,hr,hp⟩:=hs.inW j hm
  rw[hr]at hj'
  injection hj' with hj'
  subst hj'
  by_cases hmi:i∈W
  ·exact h.sep i j oi _ ri rj hne (by rw[← (hs.inW i hmi).1];exact hi) hr hri hrj hb hw
  ·rw[hs.out i hmi,fQ]at hi
   obtain⟨o',h1,h2⟩:=hi
   exact⟨(h.sep i j o' _ ri rj hne h1 hr hri hrj hb hw).1,(EH (P:=P) h2).1⟩
 ·have hi:h'.get i=some o:=hi
  by_cases hm:i∈W
  ·exact h.glb i o g (by rw[← (hs.inW i hm).1];exact hi) hg
  ·rw[hs.out i hm,fQ]at hi
   obtain⟨o',h1,h2⟩:=hi
   rw[(EH (P:=P) h2).2.1]at hg
   exact h.glb i o' g h1 hg
theorem Ag.semi{W:List Nat}{h':AH Af}(h:Ag ρ s)(hs:Lv W s.heap h'):Ag ρ ⟨s.next,h'⟩:=fun i hi=>by
 refine⟨(h i hi).1,?_⟩
 have hn:=(h i hi).2
 by_cases hm:i∈W
 ·obtain⟨_,r,hr,_⟩:=hs.inW i hm
  rw[hn]at hr;cases hr
 ·show h'.get i=none
  rw[hs.out i hm,hn];rfl
structure dI(ρ:A5)(W:List Nat)(w0 w:World):Prop where
 lt:w0.heap.size<w.heap.size
 old:∀b,b<w0.heap.size→(∀j∈W,∀rb,ρ j=some rb→rb.b≠b)→w.heap[b]? = w0.heap[b]?
 os:w.os=w0.os
 tape:w.tape=w0.tape
 output:w.output=w0.output
structure Hd(ρ:A5)(s:AD)(W:List Nat)(w0 w:World)(bm clock:Nat)(seen:Array Nat):Prop extends dI ρ W w0 w where
 wk:∀j∈W,∀r rb,s.heap.get j=some (.row r)→ρ j=some rb→BF ρ w r rb
 it:∃c0,clock≤c0∧w.heap[w0.heap.size]? = some (.mapIter (some bm) clock seen c0)
def A1(ρ:A5)(s:AD)(w0:World):A5:=Bc ρ s.next ⟨w0.heap.size,0,0,0⟩
section
variable{W:List Nat}{bm clock:Nat}{seen:Array Nat}
structure Th(P:Program)(ρ:A5)(s:AD)(w0:World)(W:List Nat)(h':AH Af)(w1:World):Prop where
 out:∀j,j ∉ W→h'.get j=s.heap.get j
 inW:∀j∈W,∃r r',s.heap.get j=some (.row r)∧CA r=true∧h'.get j=some (.row r')∧CA r'=true∧(∃rb,ρ j=some rb)∧∀rb,ρ j=some rb→BF (A1 ρ s w0) w1 r' rb
theorem dI.invN  (hd : dI  ρ W w w1) {h' : AH   Af}   (hn : Th   P ρ s w W h' w1) (h : Aw  P ρ s w) (hf : Ag     ρ s) : Aw  P (A1    ρ s w) ⟨s.next + 1, h'⟩ w1 := by
  have hnx:=hf s.next (fR _)
  have hle:ρ.le (A1 ρ s w):=Ay hnx.1
  have hsome:∀i o,h'.get i=some o→∃o',s.heap.get i=some o':=fun i o hi=>by
    by_cases hm:i∈W
    · obtain⟨r,_,h1,_⟩:=hn.inW i hm;exact⟨_,h1⟩
    · exact⟨o,by rw[← hn.out i hm];exact hi⟩
  have hr:∀i o rb,h'.get i=some o→A1 ρ s w i=some rb→ρ i=some rb:=fun i o rb hi hr=>by
    have:i≠s.next:=fun e=>by
      subst e
      obtain⟨o',ho⟩:=hsome _ o hi
      rw[hnx.2]at ho;cases ho
    unfold A1 at hr
    rw[AL _ this]at hr
    exact hr
  refine⟨fun i o rb hi hri=>?_,fun i rb hri=>?_,fun i j oi oj ri rj hne hi hj hri hrj hb hw=>?_,fun i o g hi hg=>?_⟩
  · have hi : h'.get i = some o := hi
    have h1:=hr i o rb hi hri
    by_cases hm:i∈W
    · obtain⟨r,r',h2,h3,h4,h5,_,h6⟩:=hn.inW i hm
      rw[h4]at hi
      injection hi with hi
      subst hi
      exact h6 rb h1
    · have hi0:=hi
      rw[hn.out i hm]at hi0
      refine(h.obj i o rb hi0 h1).mono hle (hd.old _ (h.lt i rb h1) fun j hj rj hrj hb=>?_)
      obtain⟨r,_,h2,h3,_⟩:=hn.inW j hj
      obtain⟨h3a,h3b,_⟩:=CP h3
      have:=(h.sep i j o _ rb rj (fun e=>hm (by rw[e];exact hj)) hi0 h2 h1 hrj hb.symm h3a).1
      simp[FS,h3b]at this
  · unfold A1 at hri
    by_cases e:i=s.next
    · subst e
      rw[AQ]at hri
      injection hri with hri
      subst hri
      exact hd.lt
    · rw[AL _ e]at hri
      have:=h.lt i rb hri
      exact Nat.lt_trans this hd.lt
  · have hi : h'.get i = some oi := hi
    have hj:h'.get j=some oj:=hj
    have h1:=hr i oi ri hi hri
    have h2:=hr j oj rj hj hrj
    by_cases hmj:j∈W
    · obtain ⟨r, r', k2, k3, k4, k5, k6⟩ := hn.inW j hmj
      obtain⟨k3a,k3b,_⟩:=CP k3
      obtain⟨oi0,hi0⟩:=hsome i oi hi
      have:=(h.sep i j oi0 _ ri rj hne hi0 k2 h1 h2 hb k3a).1
      simp[FS,k3b]at this
    · rw[hn.out j hmj]at hj
      by_cases hmi:i∈W
      · obtain⟨r,r',k2,k3,k4,k5,k6⟩:=hn.inW i hmi
        have:=(h.sep i j _ oj ri rj hne k2 hj h1 h2 hb hw).2
        have k3':wr (.row r)=true:=(CP k3).1
        rw[k3']at this
        cases this
      · rw[hn.out i hmi]at hi
        exact h.sep i j oi oj ri rj hne hi hj h1 h2 hb hw
  · have hi:h'.get i=some o:=hi
    by_cases hm:i∈W
    · obtain⟨r,r',k2,k3,k4,k5,k6⟩:=hn.inW i hm
      rw[k4]at hi
      injection hi with hi
      subst hi
      simp[Da,(CP k5).2.2]at hg
    · rw[hn.out i hm]at hi
      obtain⟨rb,h1⟩:=h.glb i o g hi hg
      exact⟨rb,hle _ _ h1⟩
theorem BF.mono{r:B7}{rb:RB}(h:BF ρ w r rb)(le:ρ.le ρ1):BF ρ1 w r rb:=(show Cv (default:Program) ρ w (.row r) rb from h).mono le rfl
theorem Hd.now(hd:Hd ρ s W w w1 bm clock seen)(hW:∀j∈W,(∃rb,ρ j=some rb)∧∃r,s.heap.get j=some (.row r)∧CA r=true)(hf:Ag ρ s):Th P ρ s w W s.heap w1:=
 ⟨fun _ _=>rfl,fun j hj=>let ⟨h0,r,h1,h2⟩:=hW j hj;⟨r,r,h1,h2,h1,h2,h0,fun rb hr=>(hd.wk j hj r rb h1 hr).mono (Ay (hf s.next (fR _)).1)⟩⟩
theorem Pd(hf:Ag ρ s){h':AH Af}(hn:Th P ρ s w W h' w1):Ag (A1 ρ s w) ⟨s.next+1,h'⟩:=fun i hi=>by
 have hi:s.next+1≤i:=hi
 have h2:=(hf i (by omega)).2
 refine⟨?_,?_⟩
 ·unfold A1
  rw[AL _ (by omega)]
  exact(hf i (by omega)).1
 ·show h'.get i=none
  by_cases hm:i∈W
  ·obtain⟨r,_,h1,_⟩:=hn.inW i hm;rw[h2]at h1;cases h1
  ·rw[hn.out i hm];exact h2
theorem dI.frN(hd:dI ρ W w w1){h':AH Af}(hn:Th P ρ s w W h' w1)(hf:Ag ρ s):Fr ρ s w (A1 ρ s w) ⟨s.next+1,h'⟩ w1:=by
 have hnx:=hf s.next (fR _)
 refine⟨Ay hnx.1,fun i hi ho=>?_,gD _,Nat.le_of_lt hd.lt,hd.os,hd.tape,hd.output,fun b hb ho=>hd.old b hb fun j hj rb hr e=>?_,fun b hb=>?_,fun i hi ho=>?_⟩
 ·have ho:i<s.next∨s.next+1≤i:=ho
  unfold A1
  rw[AL _ (by omega)]
  exact hi
 ·obtain⟨r,_,h1,h2,_⟩:=hn.inW j hj
  exact ho ⟨j,_,rb,h1,(CP h2).1,hr,e⟩
 ·obtain⟨i,o,rb,h1,h2,h3,h4⟩:=hb
  have h1:h'.get i=some o:=h1
  have hne:i≠s.next:=fun e=>by
   subst e
   by_cases hm:s.next∈W
   ·obtain⟨r,_,k1,_⟩:=hn.inW _ hm;rw[hnx.2]at k1;cases k1
   ·rw[hn.out _ hm,hnx.2]at h1;cases h1
  unfold A1 at h3
  rw[AL _ hne]at h3
  by_cases hm:i∈W
  ·obtain⟨r,_,k1,k2,_⟩:=hn.inW i hm
   exact .inl ⟨i,_,rb,k1,(CP k2).1,h3,h4⟩
  ·rw[hn.out i hm]at h1
   exact .inl ⟨i,o,rb,h1,h2,h3,h4⟩
 ·show h'.get i=s.heap.get i
  by_cases hm:i∈W
  ·obtain⟨r,r',k1,k2,k3,k4,⟨rb,k5⟩,_⟩:=hn.inW i hm
   rw[hi]at k5;cases k5
  ·exact hn.out i hm
theorem Hd.step{seen':Array Nat}(hd:Hd ρ s W w w1 bm clock seen)(hlt:∀i rb,ρ i=some rb→rb.b<w.heap.size){c1:Nat}(hc:clock≤c1)(hw:w2=w1∨w2=w1.drew):Hd ρ s W w (setBlock w2 w.heap.size (.mapIter (some bm) clock seen' c1)) bm clock seen':=by
 have e:w2.heap=w1.heap∧w2.os=w1.os∧w2.tape=w1.tape∧w2.output=w1.output:=by
  rcases hw with rfl | rfl<;>exact⟨rfl,rfl,rfl,rfl⟩
 have hk:∀b,b<w.heap.size→(setBlock w2 w.heap.size (.mapIter (some bm) clock seen' c1)).heap[b]? = w1.heap[b]? := fun b hb=>by
  show(w2.heap.setIfInBounds _ _)[b]? = _
  rw[Array.getElem?_setIfInBounds_ne (by omega),e.1]
 refine⟨⟨?_,fun b hb h=>(hk b hb).trans (hd.old b hb h),e.2.1.trans hd.os,e.2.2.1.trans hd.tape,e.2.2.2.trans hd.output⟩,fun j hj r rb hr hrb=>?_,c1,hc,?_⟩
 ·show w.heap.size<(w2.heap.setIfInBounds _ _).size
  rw[Array.size_setIfInBounds,e.1]
  exact hd.lt
 ·exact(show Cv (default:Program) ρ w1 (.row r) rb from hd.wk j hj r rb hr hrb).mono (A5.le_refl _) (hk _ (hlt j rb hrb))
 ·show(w2.heap.setIfInBounds _ _)[w.heap.size]? = _
  rw[e.1]
  simp[hd.lt]
theorem OJ{r r':B7}{C:List AV}(h1:r.c.take 0 r.n=some C)(h2:r'.c.take 0 r.n=some C):∀k,k<r.n→r'.c.get k=r.c.get k:=fun k hk=>by
 have e1:=AH.take_get h1 k hk
 have e2:=AH.take_get h2 k hk
 simp only[fY]at e1 e2
 rw[e1,e2]
theorem KZ{r q:B7}(h:FP r q=true):q.n=r.n∧q.elem=r.elem∧CQ q.mode=true:=by
 simp only[FP,Bool.and_eq_true]at h
 exact⟨fW h.1,fW h.2.1,h.2.2⟩
theorem OO{q:AD}:∀ {W:List Nat},Lb s q W=true→∀j∈W,∃r r',s.heap.get j=some (.row r)∧q.heap.get j=some (.row r')∧FP r r'=true∧∀k,k<r.n→r'.c.get k=r.c.get k
 | [],_,j,hj=>by cases hj
 | i::l,h,j,hj=>by
  unfold Lb at h
  simp only[Bool.and_eq_true]at h
  rcases gg.1 hj with e | hj
  ·subst e
   have h1:=h.1
   split at h1<;>first | (cases h1;done) | skip
   rename_i r r' hr hr'
   simp only[Bool.and_eq_true]at h1
   have h2:=h1.2
   split at h2<;>first | (cases h2;done) | skip
   rename_i a b ha hb
   have:=E7 h2
   injection this with this
   subst this
   exact⟨r,r',Au hr,Au hr',h1.1,OJ ha hb⟩
  ·exact OO h.2 j hj
theorem BF.again{r r':B7}{rb:RB}(h0:BF ρ w1 r rb)(hp:CA r=true)(h':BF ρ1 w2 r' rb)(le:ρ.le ρ1)(hs:FP r r'=true)(hc:∀k,k<r.n→r'.c.get k=r.c.get k):BF ρ w2 r rb:=by
  obtain⟨e1,e2,e3⟩:=KZ hs
  obtain⟨p1,p2,p3⟩:=CP hp
  refine⟨fun k v hk hv=>?_,h0.le,h0.sz,h0.tight,fun _=>?_,h0.base,h0.gl,fun p e=>by rw[p2]at e;cases e⟩
  · obtain ⟨v', k1, k2⟩ := h'.cells k v (by omega) (by rw [hc k hk]; exact hv)
    obtain⟨v0,_,k3⟩:=h0.cells k v hk hv
    exact⟨v',k1,AK.back le k2 k3⟩
  · obtain⟨cs,k1,k2⟩:=h'.own (fun e=>by rw[e]at e3;cases e3)
    exact⟨cs,by rw[← e2];exact k1,k2⟩
theorem Hd.ended(Q0:Program)(hd:Hd ρ s W w w1 bm clock seen)(hnx:ρ s.next=none∧s.heap.get s.next=none)(hlt:∀i rb,ρ i=some rb→rb.b<w.heap.size){h':AH Af}(hs:Lv W s.heap h'){n:Nat}(hfr:Fr (A1 ρ s w) ⟨n,h'⟩ w1 ρ1 s1 w2):dI ρ W w w2∧w2.heap[w.heap.size]? = w1.heap[w.heap.size]? := by
 have hk:∀b,b<w1.heap.size→(∀j∈W,∀rb,ρ j=some rb→rb.b≠b)→w2.heap[b]? = w1.heap[b]? := fun b hb h=>hfr.keep b hb (by
  rintro⟨i,o,rb,h1,h2,h3,h4⟩
  obtain⟨hm,h5⟩:=hs.wr Q0 h1 h2
  have hne:i≠s.next:=fun e=>by subst e;rw[hnx.2]at h5;cases h5
  unfold A1 at h3
  rw[AL _ hne]at h3
  exact h i hm rb h3 h4)
 exact⟨⟨fV hd.lt hfr.size,fun b hb h=>(hk b (Nat.lt_trans hb hd.lt) h).trans (hd.old b hb h),hfr.os.trans hd.os,hfr.tape.trans hd.tape,hfr.output.trans hd.output⟩,hk _ hd.lt fun j _ rb hr e=>by have:=hlt j rb hr;omega⟩
theorem Hd.round(Q0:Program)(hd:Hd ρ s W w w1 bm clock seen)(hnx:ρ s.next=none∧s.heap.get s.next=none)(hlt:∀i rb,ρ i=some rb→rb.b<w.heap.size){h':AH Af}(hs:Lv W s.heap h'){n:Nat}(hfr:Fr (A1 ρ s w) ⟨n,h'⟩ w1 ρ1 s1 w2)(hinv:Aw P ρ1 s1 w2)(hW:Lb ⟨n,h'⟩ s1 W=true):Hd ρ s W w w2 bm clock seen:=by
 have hle:ρ.le ρ1:=A5.le_trans (Ay hnx.1) hfr.le
 obtain⟨c0,h1,h2⟩:=hd.it
 obtain⟨hE,hI⟩:=hd.ended Q0 hnx hlt hs hfr
 refine⟨hE,fun j hj r rb hr hrb=>?_,c0,h1,hI.trans h2⟩
 obtain⟨r0,r',g1,g2,g3,g4⟩:=OO hW j hj
 obtain⟨k1,r1,k2,k3⟩:=hs.inW j hj
 have g1:h'.get j=some (.row r0):=g1
 rw[k1,hr]at g1
 injection g1 with g1
 injection g1 with g1
 subst g1
 rw[hr]at k2
 injection k2 with k2
 injection k2 with k2
 subst k2
 exact(hd.wk j hj r rb hr hrb).again k3 (hinv.obj j _ rb g2 (hle _ _ hrb)) hle g3 g4
theorem HP:∀ {a b:List AV},EZ a b=true→a.length=b.length∧∀ (k:Nat)(x:AV),b[k]? = some x→Lc x=true∨a[k]? = some x
 | [],[],_=>⟨rfl,fun k x hx=>(by simp at hx)⟩
 | a::l,b::m,h=>by
  simp only[EZ,Bool.and_eq_true,Bool.or_eq_true]at h
  obtain⟨g1,g2⟩:=HP h.2
  refine⟨by simp[g1],fun k x hx=>?_⟩
  cases k with
  | zero=>simp at hx;subst hx;exact h.1.imp id fun h=>by simp[Fx h]
  | succ k=>simpa using g2 k x (by simpa using hx)
 | [],_::_,h=>by cases h
 | _::_,[],h=>by cases h
theorem SR{q:AD}:∀ {W:List Nat}{M:List (List AV)},TM s q W=some M→W.length=M.length∧∀ (k:Nat)(j:Nat)(C:List AV),W[k]? = some j→M[k]? = some C→∃r r' C0,s.heap.get j=some (.row r)∧q.heap.get j=some (.row r')∧FP r r'=true∧r.c.take 0 r.n=some C0∧r'.c.take 0 r.n=some C∧EZ C0 C=true
 | [],M,h=>by injection h with h;subst h;exact⟨rfl,fun k j C hj=>(by simp at hj)⟩
 | i::l,M,h=>by
  unfold TM at h
  simp only[fQ]at h
  obtain⟨r,h1,r',h2,h3⟩:=h
  obtain⟨h4,h5⟩:=AA h3
  simp only[fQ]at h5
  obtain⟨a,h6,b,h7,h8⟩:=h5
  obtain⟨h9,h10⟩:=AA h8
  simp only[fQ]at h10
  obtain⟨m,h11,h12⟩:=h10
  injection h12 with h12
  subst h12
  obtain⟨g1,g2⟩:=SR h11
  refine⟨by simp[g1],fun k j C hj hC=>?_⟩
  cases k with
  | zero =>
   simp at hj hC
   subst hj hC
   exact⟨r,r',a,Au h1,Au h2,h4,h6,h7,h9⟩
  | succ k=>exact g2 k j C (by simpa using hj) (by simpa using hC)
theorem ST      : ∀ {W : List Nat} {M : List (List AV)} {h1 : AH   Af}   {h' : AH   Af},   Yf   h1 W M = some h' →
    (∀j,j ∉ W→h'.get j=h1.get j)∧∀j∈W,∃ (r:B7) (k:Nat) (C:List AV),h1.get j=some (.row r)∧W[k]? = some j∧M[k]? = some C∧∃c,h'.get j=some (.row { r with c })∧∀i,i<C.length→c.get i=C[i]?
  | [],M,h1,h',h=>by
    cases M with
    | nil=>injection h with h;subst h;exact⟨fun _ _=>rfl,fun j hj=>(by cases hj)⟩
    | cons _ _=>cases h
  | i::l,[],h1,h',h=>by cases h
  | i::l,C::m,h1,h',h=>by
    unfold Yf at h
    split at h<;>first | (cases h;done) | skip
    rename_i r hr
    obtain⟨g1,g2⟩:=ST h
    refine⟨fun j hj=>?_,fun j hj=>?_⟩
    · have e1 : j ≠ i := fun e => hj (by rw [e]; exact fc                 ..)
      have e2:j ∉ l:=fun h'=>hj (fh _ h')
      rw[g1 j e2,AH.get_set,if_neg e1]
    · by_cases hl : j ∈ l
      · obtain⟨r2,k,C2,k1,k2,k3,c,k4,k5⟩:=g2 j hl
        rw[AH.get_set]at k1
        by_cases e:j=i
        · subst e
          rw[if_pos rfl]at k1
          injection k1 with k1
          injection k1 with k1
          subst k1
          exact⟨r,k+1,C2,hr,by simpa using k2,by simpa using k3,c,k4,k5⟩
        · rw[if_neg e]at k1
          exact⟨r2,k+1,C2,k1,by simpa using k2,by simpa using k3,c,k4,k5⟩
      · rcases gg.1            hj with e | h'
        · subst e
          refine⟨r,0,C,hr,rfl,rfl,r.c.fill 0 C,by rw[g1 j hl,AH.get_set,if_pos rfl],fun i hi=>?_⟩
          rw[AH.get_fill,if_pos ⟨fa _,by omega⟩]
          simp
        · exact absurd h' hl
theorem ah(hd:Hd ρ s W w w1 bm clock seen)(hρ:∀j∈W,∃rb,ρ j=some rb)(hnx:ρ s.next=none∧s.heap.get s.next=none){h':AH Af}(hs:Lv W s.heap h'){n:Nat}(hle1:(A1 ρ s w).le ρ1)(hinv:Aw P ρ1 s1 w2)
    {M N:List (List AV)} (hW:TM ⟨n,h'⟩ s1 W=some M) (hMN:M=N) {h2:AH Af} (hset:Yf s.heap W N=some h2):Th P ρ s w W h2 w2:=by
  subst hMN
  have hle:ρ.le ρ1:=A5.le_trans (Ay hnx.1) hle1
  obtain⟨e1,e2⟩:=ST hset
  obtain⟨_,f2⟩:=SR hW
  refine⟨e1,fun j hj=>?_⟩
  obtain⟨r,k,C,k1,k2,k3,c,k4,k5⟩:=e2 j hj
  obtain⟨r0,r',C0,g1,g2,g3,g4,g5,g6⟩:=f2 k j C k2 k3
  obtain⟨m1,r2,m2,m3⟩:=hs.inW j hj
  have g1:h'.get j=some (.row r0):=g1
  rw[m1,k1]at g1
  injection g1 with g1
  injection g1 with g1
  subst g1
  rw[k1]at m2
  injection m2 with m2
  injection m2 with m2
  subst m2
  refine⟨r,_,k1,m3,k4,m3,hρ j hj,fun rb hrb=>?_⟩
  obtain⟨q1,q2,q3⟩:=KZ g3
  obtain⟨p1,p2,p3⟩:=CP m3
  have h0:=hd.wk j hj r rb k1 hrb
  have hr':BF ρ1 w2 r' rb:=hinv.obj j _ rb g2 (hle _ _ hrb)
  have hlen:=AH.take_length g5
  refine⟨fun i v hi hv=>?_,h0.le,h0.sz,h0.tight,fun _=>?_,h0.base,h0.gl,fun p e=>by
    have e:r.par=some p:=e
    rw[p2]at e;cases e⟩
  · have hi : i < r.n := hi
    have hv:c.get i=some v:=hv
    rw[k5 i (by omega)]at hv
    have e5:=AH.take_get g5 i hi
    simp only[fY]at e5
    obtain⟨v',n1,n2⟩:=hr'.cells i v (by omega) (by rw[e5];exact hv)
    refine⟨v',n1,?_⟩
    rcases(HP g6).2 i v hv with h | h
    · exact Ld h n2
    · have e4:=AH.take_get g4 i hi
      simp only[fY]at e4
      obtain⟨v0,_,n3⟩:=h0.cells i v hi (by rw[e4];exact h)
      exact(AK.back hle n2 n3).mono (Ay hnx.1)
  · obtain⟨cs,k1,k2⟩:=hr'.own (fun e=>by rw[e]at q3;cases q3)
    exact⟨cs,by show _=some (Obj.cells cs r.elem (0,0));rw[← q2];exact k1,k2⟩
end
end
section
variable{P:Program}{ρ ρ1 ρ2:A5}{s s1 s2:AD}{w w1 w2:World}{a:Act}{ops:Array Oper}{rnd:Option Nat}{Q:Exit→Act→World→Prop}
theorem Gq{i:Nat}{o:Oper}{v':Value}{w':World}{K:Act→World→Prop}(ho:ops[i]? = some o)(hg:o.guard=none)(hd:∀c,o.op≠.defer c)(hr:(execOp a.eval o).run P w=.ok (.value v') w')
  (hk:K (a.put o.dst v') w'):wpOpIn (FU rnd) 0 P ops Q i K a w:=by
 unfold wpOpIn
 rw[ho]
 simp only
 rw[if_pos (by unfold Region.wanted;rw[hg])]
 refine⟨fun _ _=>trivial,?_⟩
 rw[Oper.semAt_eq _ _ _ hd,hr]
 exact hk
theorem B6{o:Oper}{x:Op×Tmp}(h:Dr o=some x):o.guard=none∧o.dst=some x.2∧o.op=x.1:=by
 unfold Dr at h
 split at h
 ·rename_i h1 h2
  injection h with h
  subst h
  exact⟨h1,h2,rfl⟩
 ·cases h
theorem NJ{o:Op}{x:TypeId×Operand}(h:Ol o=some x):o=.load x.1 x.2:=by
 unfold Ol at h
 split at h
 ·injection h with h;subst h;rfl
 ·cases h
theorem L0{o:Op}{x:TypeId×Tmp}(h:Lz o=some x):o=.range x.1 (.tmp x.2):=by
 unfold Lz at h
 split at h
 ·injection h with h;subst h;rfl
 ·cases h
theorem NK{o:Op}{x:Tmp}(h:Om o=some x):o=.next (.tmp x) false:=by
 unfold Om at h
 split at h
 ·injection h with h;subst h;rfl
 ·cases h
theorem Ly{o:Op}{x:Tmp}(h:Lx o=some x):o=.entry (.tmp x):=by
 unfold Lx at h
 split at h
 ·injection h with h;subst h;rfl
 ·cases h
theorem JQ{o:Op}{x:Tmp}(h:QU o=some x):o=.extract (.tmp x) 0:=by
 unfold QU at h
 split at h
 ·injection h with h;subst h;rfl
 ·cases h
theorem On{o:Op}{x:Tmp}(h:Tl o=some x):o=.assign (.tmp x):=by
 unfold Tl at h
 split at h
 ·injection h with h;subst h;rfl
 ·cases h
theorem Gs{l:List Oper}(h:ops.toList=l)(i:Nat):ops[i]? = l[i]? := by rw[← h];simp
theorem KH{l:List Oper}(h:ops.toList=l):ops.size=l.length:=by rw[← h];simp
structure Y9(ops:Array Oper)(ty:TypeId)(ad:Operand)(tm it:Tmp):Prop where
 ex:∃o0 o1,ops.toList=[o0,o1]∧(o0.guard=none∧o0.dst=some tm∧o0.op=.load ty ad)∧(o1.guard=none∧o1.dst=some it∧o1.op=.range ty (.tmp tm))
structure Lt(ops:Array Oper)(it tn ok:Tmp):Prop where
 ex:∃o0 o1,ops.toList=[o0,o1]∧(o0.guard=none∧o0.dst=some tn∧o0.op=.next (.tmp it) false)∧(o1.guard=none∧o1.dst=some ok∧o1.op=.extract (.tmp tn) 0)
structure JH(ops:Array Oper)(it te tk key:Tmp):Prop where
 ex:∃o0 o1 o2,ops.toList=[o0,o1,o2]∧(o0.guard=none∧o0.dst=some te∧o0.op=.entry (.tmp it))∧(o1.guard=none∧o1.dst=some tk∧o1.op=.extract (.tmp te) 0)∧(o2.guard=none∧o2.dst=some key∧o2.op=.assign (.tmp tk))
theorem Mx{x:TypeId×Operand×Tmp×Tmp}(h:Mw ops.toList=some x):Y9 ops x.1 x.2.1 x.2.2.1 x.2.2.2:=by
 unfold Mw at h
 split at h
 ·rename_i o0 o1 hl
  simp only[fQ]at h
  obtain⟨p0,h1,p1,h2,l,h3,r,h4,h5⟩:=h
  obtain⟨h6,h7⟩:=AA h5
  simp only[Bool.and_eq_true]at h6
  injection h7 with h7
  subst h7
  obtain⟨a1,a2,a3⟩:=B6 h1
  obtain⟨b1,b2,b3⟩:=B6 h2
  rw[NJ h3]at a3
  rw[L0 h4,← Ac h6.1,← Ac h6.2]at b3
  exact⟨o0,o1,hl,⟨a1,a2,a3⟩,b1,b2,b3⟩
 ·cases h
theorem Mz{it:Tmp}{x:Tmp×Tmp}(h:My it ops.toList=some x):Lt ops it x.1 x.2:=by
 unfold My at h
 split at h
 ·rename_i o0 o1 hl
  simp only[fQ]at h
  obtain⟨p0,h1,p1,h2,l,h3,r,h4,h5⟩:=h
  obtain⟨h6,h7⟩:=AA h5
  simp only[Bool.and_eq_true]at h6
  injection h7 with h7
  subst h7
  obtain⟨a1,a2,a3⟩:=B6 h1
  obtain⟨b1,b2,b3⟩:=B6 h2
  rw[NK h3,Ac h6.1]at a3
  rw[JQ h4,Ac h6.2]at b3
  exact⟨o0,o1,hl,⟨a1,a2,a3⟩,b1,b2,b3⟩
 ·cases h
theorem Kx{it:Tmp}{x:Tmp×Tmp×Tmp}(h:KW it ops.toList=some x):JH ops it x.1 x.2.1 x.2.2:=by
 unfold KW at h
 split at h
 ·rename_i o0 o1 o2 hl
  simp only[fQ]at h
  obtain⟨p0,h1,p1,h2,p2,h0,l,h3,r,h4,k,h8,h5⟩:=h
  obtain⟨h6,h7⟩:=AA h5
  simp only[Bool.and_eq_true]at h6
  injection h7 with h7
  subst h7
  obtain⟨a1,a2,a3⟩:=B6 h1
  obtain⟨b1,b2,b3⟩:=B6 h2
  obtain⟨c1,c2,c3⟩:=B6 h0
  rw[Ly h3,Ac h6.1]at a3
  rw[JQ h4,Ac h6.2.1]at b3
  rw[On h8,Ac h6.2.2]at c3
  exact⟨o0,o1,o2,hl,⟨a1,a2,a3⟩,⟨b1,b2,b3⟩,c1,c2,c3⟩
 ·cases h
theorem CC{t:Tmp}{v:Value}(h:t<a.tmps.size):(a.put (some t) v).eval (.tmp t)=v:=by
 simp[Act.put,Act.eval,Array.getD_eq_getD_getElem?,h]
theorem N1{i2:Nat}{it tn ok:Tmp}{r0:Addr}(h:Lt ops it tn ok)(hit:a.eval (.tmp it)=.pointer (some r0))(htn:tn<a.tmps.size)
    (hrun:∀ty:TypeId,∃l b w',l[0]? = some b∧(Instr.next (.pointer (some r0)) false ty).run P w=.ok (.tuple l) w'∧Q .normal ((a.put (some tn) (.tuple l)).put (some ok) b) w'):
    (Code.region i2 ops false).wpIn (FU rnd) 0 P Q a w:=by
  obtain⟨o0,o1,hl,⟨a1,a2,a3⟩,b1,b2,b3⟩:=h.ex
  obtain⟨l,b,w',h1,h2,h3⟩:=hrun o0.type
  refine wpIn_region ?_
  rw[KH hl]
  show wpOpsIn (FU rnd) 0 P ops Q [0,1] a w
  rw[wpOpsIn_cons]
  refine Gq (Gs hl 0) a1 (fun c e=>by rw[a3]at e;cases e) (v':=.tuple l) (w':=w') ?_ ?_
  · simp only[execOp,a3,hit,Sem.run_bind,h2,Result.andThen,Sem.run_pure]
  · rw [wpOpsIn_cons, a2]
    refine Gq (Gs hl 1) b1 (fun c e=>by rw[b3]at e;cases e) (v':=b) (w':=w') ?_ ?_
    · simp only[execOp,b3,CC htn,Instr.extract,h1,Sem.run_bind,Result.andThen,Sem.run_pure]
    · rw[b2]
      exact h3
theorem MS           {i3 : Nat} {it te tk key : Tmp} {r0 : Addr} {l : Array Value} {b : Value} (h : JH       ops it te tk key) (hit : a.eval (.tmp it) = .pointer (some r0)) (hte : te < a.tmps.size) (htk : tk < a.tmps.size)
    (hl0:l[0]? = some b) (hrun:(Instr.entry (.pointer (some r0))).run P w=.ok (.tuple l) w) (hq:Q .normal (((a.put (some te) (.tuple l)).put (some tk) b).put (some key) b) w):
    (Code.region i3 ops false).wpIn (FU rnd) 0 P Q a w:=by
  obtain⟨o0,o1,o2,hl,⟨a1,a2,a3⟩,⟨b1,b2,b3⟩,c1,c2,c3⟩:=h.ex
  refine wpIn_region ?_
  rw[KH hl]
  show wpOpsIn (FU rnd) 0 P ops Q [0,1,2] a w
  rw[wpOpsIn_cons]
  refine Gq (Gs hl 0) a1 (fun c e=>by rw[a3]at e;cases e) (v':=.tuple l) (w':=w) ?_ ?_
  · simp only[execOp,a3,hit,Sem.run_bind,hrun,Result.andThen,Sem.run_pure]
  · rw [wpOpsIn_cons, a2]
    refine Gq (Gs hl 1) b1 (fun c e=>by rw[b3]at e;cases e) (v':=b) (w':=w) ?_ ?_
    · simp only[execOp,b3,CC hte,Instr.extract,hl0,Sem.run_bind,Result.andThen,Sem.run_pure]
    · rw [wpOpsIn_cons, b2]
      refine Gq (Gs hl 2) c1 (fun c e=>by rw[c3]at e;cases e) (v':=b) (w':=w) ?_ ?_
      · simp only[execOp,c3,CC (a:=a.put (some te) (.tuple l)) (t:=tk) (v:=b) (by rw[BD];exact htk),Sem.run_pure]
      · rw[c2]
        exact hq
structure ZA(ρi:A5)(es:Array MapEntry)(f:AV→Option Lu)(S:Option (List AV×List (List AV)))(ch:MapEntry→AV×Lu):Prop where
 ex:∀e∈es.toList,AK ρi (ch e).1 e.key∧f (ch e).1=some (ch e).2∧∀X M,(ch e).2=.ret X M→∃Z,S=some (Z,M)∧K4 X Z
theorem born_inj{l:List MapEntry}(h:(l.map (·.born)).Nodup){x y:MapEntry}(hx:x∈l)(hy:y∈l)(e:x.born=y.born):x=y:=by
  induction l with
  | nil=>cases hx
  | cons a l ih =>
    simp only[fm,gU,List.mem_map]at h
    rcases gg.1 hx with hxa | hx'
    · rcases gg.1            hy with hya | hy'
      · rw[hxa,hya]
      · exact absurd ⟨y,hy',by rw[← e,hxa]⟩ h.1
    · rcases gg.1            hy with hya | hy'
      · exact absurd ⟨x,hx',by rw[e,hya]⟩ h.1
      · exact ih h.2 hx' hy'
theorem TO{id2 idb:Nat}{K:Act→World→Prop}{Q':Exit→Act→World→Prop}(h:Q' .ret a w):Exit.inBlock id2 (Exit.then K (Exit.inBlock idb Q')) (EC .ret) a w:=h
theorem H0{id2:Nat}{e:JG}{K:Act→World→Prop}{Q':Exit→Act→World→Prop}(h:Hz id2 e=true)(hk:K a w):Exit.inBlock id2 (Exit.then K Q') (EC e) a w:=by
 cases e with
 | normal=>exact hk
 | exit i =>
  have:i=id2:=Ac h
  show(if i=id2 then _ else _)
  rw[if_pos this]
  exact hk
 | ret=>cases h
variable{fn:Func}{A:List AV}{marks:List Nat}{bm clock:Nat}{es:Array MapEntry}{it tn ok te tk key:Tmp}{jt jok jk:Nat}
structure Ti(P:Program)(fn:Func)(it tn ok te tk key:Tmp)(jt jok jk:Nat):Prop where
 hjt:Ao (AT P fn) it=some jt
 hjok:Ao (AT P fn) ok=some jok
 hjk:Ao (AT P fn) key=some jk
 ntn:Ao (AT P fn) tn=none
 nte:Ao (AT P fn) te=none
 ntk:Ao (AT P fn) tk=none
 ltn:tn<fn.ntmps
 lte:te<fn.ntmps
 ltk:tk<fn.ntmps
 lok:ok<fn.ntmps
 lkey:key<fn.ntmps
 d1:jt≠jok
 d2:jt≠jk
 d3:jok≠jk
theorem Se{ρi:A5}{A:List AV}{tmps:Array Value}(hs:Ti P fn it tn ok te tk key jt jok jk)(hv:Ai P ρi fn A tmps)(hj:Ic A jt=.ptr (some (s.next,0)))(hr:ρi s.next=some ⟨w.heap.size,0,0,0⟩):
  tmps.getD it undef=.pointer (some ⟨w.heap.size,0,none⟩):=by
 obtain⟨_,v,h1,h2⟩:=hv.rel it jt hs.hjt
 rw[IC h1]at hj
 subst hj
 generalize tmps.getD it undef=x at h2
 cases h2 with
 | ptr h =>
  rw[hr]at h
  injection h with h
  subst h
  rfl
theorem TP        {F : Cg}  (hcode : EM     P F) {f : FuncId} {ops2 ops3 : Array Oper} {i2 i3 idb id2 : Nat} {body : Code} {r : Is}   (hf : P.funcs[f]? = some fn) (hs : Ti    P fn it tn ok te tk key r.jt r.jok r.jk) (h2 : Lt      ops2 it tn ok) (h3 : JH       ops3 it te tk key)
    (hi:Aw P ρ s w) (hfr:Ag ρ s) (hm:w.heap[bm]? = some (.map es clock)) (hst:MapKept.Stamped es clock) {rd:Option Nat} (hrnd:JK ρ rd rnd) (hid:id2=r.id2)
    (hA:Ic A r.jt=.ptr (some (s.next,0))) {W:List Nat} {sf:AD} (hn1:sf.next=s.next+1) (hsm:Lv W s.heap sf.heap) (hWρ:∀j∈W,∃rb,ρ j=some rb) {S:Option (List AV×List (List AV))} {ch:MapEntry→AV×Lu}
    (hro:ZA (A1 ρ s w) es (C3 F rd r (AX P f fn.ntmps (AT P fn) body) A W marks sf) S ch)
    (hq:S=none→∀a' w' seen',Hd ρ s W w w' bm clock seen'→Ai P (A1 ρ s w) fn (Et (.bool false) A r.jok) a'.tmps→BL (A1 ρ s w) marks a'.defers→Q .normal a' w')
    (hqr:∀Z M,S=some (Z,M)→∀a' w3 w' seen' ρ1 s1,Hd ρ s W w w3 bm clock seen'→Fr (A1 ρ s w) sf w3 ρ1 s1 w'→Aw P ρ1 s1 w'→TM sf s1 W=some M→Ai P (A1 ρ s w) fn Z a'.tmps→BL (A1 ρ s w) marks a'.defers→Q .ret a' w'):
    ∀ (m:Nat) (a:Act) (w1:World) (seen:Array Nat),(leftOf es seen).size<m→(S=none∨∃e∈es.toList,seen.contains e.born=false∧∃X M,(ch e).2=.ret X M)→Hd ρ s W w w1 bm clock seen→Ai P (A1 ρ s w) fn A a.tmps→BL (A1 ρ s w) marks a.defers →
      Code.roundsIn (FU rnd) 0 P (.seq (.region i2 ops2 false) (.seq (.cond (.tmp ok) .skip (.exit idb)) (.block id2 (.seq (.region i3 ops3 false) body)))) (Exit.inBlock idb Q) m a w1:=by
  have hWb:∀j∈W,∀rb,ρ j=some rb→rb.b≠bm:=fun j hj rb hr e=>by
    obtain⟨_,r,k1,k2⟩:=hsm.inW j hj
    obtain⟨cs,k3,_⟩:=(show BF ρ w r rb from hi.obj j _ rb k1 hr).own (fun e=>by have:=(CP k2).1;rw[e]at this;cases this)
    rw[e,hm]at k3
    cases k3
  have hltW:∀i rb,ρ i=some rb→rb.b<w.heap.size:=hi.lt
  have hWs:∀j∈W,(∃rb,ρ j=some rb)∧∃r,s.heap.get j=some (.row r)∧CA r=true:=fun j hj=>⟨hWρ j hj,(hsm.inW j hj).2⟩
  have hnx:=hfr s.next (fR _)
  intro m
  induction m with
  | zero=>intro a w1 seen h;omega
  | succ m ih =>
    intro a w1 seen hlt hS hd hv hmk
    have hlt0:bm<w.heap.size:=by
      rcases fS bm w.heap.size with h | h
      · exact h
      · simp[Array.getElem?_eq_none h]at hm
    have hn:=(hfr s.next (fR _)).1
    have hrit:A1 ρ s w s.next=some ⟨w.heap.size,0,0,0⟩:=AQ _ _
    have hit:a.eval (.tmp it)=.pointer (some ⟨w.heap.size,0,none⟩):=Se hs hv hA hrit
    have hm1:w1.heap[bm]? = some (.map es clock):=by rw[hd.old bm hlt0 hWb];exact hm
    obtain⟨c0,hc0,hiter⟩:=hd.it
    have hst':=(MapKept.stamped_iff es clock).1 hst
    have hsz:fn.ntmps≤a.tmps.size:=hv.size
    rw[roundsIn_succ]
    refine wpIn_seq (N1 h2 hit (fV hs.ltn hsz) fun ty=>?_)
    rcases run_next_at (P:=P) w1 ty w.heap.size bm clock c0 seen es clock hiter hm1 hst'.1 hc0 with⟨hz,hrun⟩ | ⟨e,he,w2,hw2,hrun⟩
    · refine⟨_,.bool false,w1,rfl,hrun,?_⟩
      have hSn:S=none:=by
        rcases hS with h | ⟨e,h,h',_⟩
        · exact h
        · rw[all_seen es seen hz e h]at h';cases h'
      have hv1:Ai P (A1 ρ s w) fn A (a.put (some tn) (.tuple #[.bool false])).tmps:=Hn hv hs.ntn _
      have hv2:Ai P (A1 ρ s w) fn (Et (.bool false) A r.jok) ((a.put (some tn) (.tuple #[.bool false])).put (some ok) (.bool false)).tmps:=M7 hv1 hs.hjok (.bool false) (by rw[BD];exact fV hs.lok hsz)
      refine wpIn_seq (wpIn_cond (t:=false) ?_ ?_)
      · exact CC (by rw[BD];exact fV hs.lok hsz)
      · refine wpIn_exit ?_
        show(if idb=idb then Q .normal _ _ else _)
        rw[if_pos rfl]
        exact hq hSn _ _ _ hd hv2 (by rw[Bl,Bl];exact hmk)
    · refine⟨_,.bool true,_,rfl,hrun,?_⟩
      have Pg:Hd ρ s W w (setBlock w2 w.heap.size (.mapIter (some bm) clock (seen.push e.born) clock)) bm clock (seen.push e.born):=hd.step hltW (fR _) hw2
      have hit3:(setBlock w2 w.heap.size (.mapIter (some bm) clock (seen.push e.born) clock)).heap[w.heap.size]? = some (.mapIter (some bm) clock (seen.push e.born) clock):=by
        have e1:w2.heap=w1.heap:=by rcases hw2 with rfl | rfl<;>rfl
        have hl:=hd.lt
        show(w2.heap.setIfInBounds _ _)[w.heap.size]? = _
        rw[e1]
        simp[hl]
      generalize setBlock w2 w.heap.size (.mapIter (some bm) clock (seen.push e.born) clock)=w3 at Pg hit3
      have hm3:w3.heap[bm]? = some (.map es clock):=by rw[Pg.old bm hlt0 hWb];exact hm
      obtain⟨hes,_⟩:=mem_left he
      obtain⟨hk,hround,hret⟩:=hro.ex e hes
      generalize hke:(ch e).1=k at hk hround
      have hv1:Ai P (A1 ρ s w) fn A (a.put (some tn) (.tuple #[.bool true,e.key,e.val])).tmps:=Hn hv hs.ntn _
      have hv2:Ai P (A1 ρ s w) fn (Et (.bool true) A r.jok) ((a.put (some tn) (.tuple #[.bool true,e.key,e.val])).put (some ok) (.bool true)).tmps:=M7 hv1 hs.hjok (.bool true) (by rw[BD];exact fV hs.lok hsz)
      have hv1':Ai P (A1 ρ s w) fn A a.tmps:=hv
      have hjA2:Ic (Et (.bool true) A r.jok) r.jt=.ptr (some (s.next,0)):=by rw[ER hs.d1];exact hA
      refine wpIn_seq (wpIn_cond (t:=true) ?_ (wpIn_skip ?_))
      · exact CC (by rw[BD];exact fV hs.lok hsz)
      show Code.wpIn (FU rnd) 0 P _ _ _ _
      have hmk2:BL (A1 ρ s w) marks ((a.put (some tn) (.tuple #[.bool true,e.key,e.val])).put (some ok) (.bool true)).defers:=by rw[Bl,Bl];exact hmk
      have hsz2:fn.ntmps≤((a.put (some tn) (.tuple #[.bool true,e.key,e.val])).put (some ok) (.bool true)).tmps.size:=hv2.size
      generalize (a.put (some tn) (.tuple #[.bool true,e.key,e.val])).put (some ok) (.bool true)=a2 at hv2 hmk2 hsz2
      refine wpIn_block (wpIn_seq (MS h3 (Se hs hv2 hjA2 hrit) (fV hs.lte hsz2) (fV hs.ltk hsz2) (l:=#[e.key,e.val]) (b:=e.key) rfl (run_entry_at w3 w.heap.size bm clock seen es clock e hit3 hm3 hes hst'.2.1) ?_))
      show Code.wpIn (FU rnd) 0 P _ _ _ _
      have hv3:Ai P (A1 ρ s w) fn (Et k (Et (.bool true) A r.jok) r.jk) (((a2.put (some te) (.tuple #[e.key,e.val])).put (some tk) e.key).put (some key) e.key).tmps:=by
        have g1:Ai P (A1 ρ s w) fn (Et (.bool true) A r.jok) (a2.put (some te) (.tuple #[e.key,e.val])).tmps:=Hn hv2 hs.nte _
        have g2:Ai P (A1 ρ s w) fn (Et (.bool true) A r.jok) ((a2.put (some te) (.tuple #[e.key,e.val])).put (some tk) e.key).tmps:=Hn g1 hs.ntk _
        exact M7 g2 hs.hjk hk (by rw[BD,BD];exact fV hs.lkey hsz2)
      have hmk3:BL (A1 ρ s w) marks (((a2.put (some te) (.tuple #[e.key,e.val])).put (some tk) e.key).put (some key) e.key).defers:=by rw[Bl,Bl,Bl];exact hmk2
      generalize ((a2.put (some te) (.tuple #[e.key,e.val])).put (some tk) e.key).put (some key) e.key=a3 at hv3 hmk3
      unfold C3 at hround
      simp only[fQ]at hround
      obtain⟨q,hq1,hq2⟩:=hround
      obtain⟨hq3,hq4⟩:=AA hq2
      have hmkq:=Hi hq3
      have hb1:Aw P (A1 ρ s w) sf w3:=by
        have:=(Pg.invN (Pg.now hWs hfr) hi hfr).semi (n:=sf.next) hsm
        exact this
      have hb2:Ag (A1 ρ s w) sf:=by
        have:=(Pd hfr (Pg.now (P:=P) hWs hfr)).semi (W:=W) (h':=sf.heap) hsm
        have e:(⟨s.next+1,sf.heap⟩:AD)=sf:=by rw[← hn1]
        rw[← e];exact this
      refine hcode f fn body rd rnd _ marks sf q (A1 ρ s w) w3 a3 _ hf hq1 ⟨hb1,hb2,hv3,hmk3,hrnd.mono (Ay hn)⟩ ?_
      intro a4 w4 ρ4 g
      have hle4:=g.fr.le
      have hmk4:BL (A1 ρ s w) marks a4.defers:=by
        have:=g.marks
        rw[hmkq]at this
        rw[LN hmk3 this hle4]
        exact hmk3
      subst hid
      have hgo:∀e',e'=q.exit→e'≠.ret→Hz r.id2 e'=true→K4 q.var A→Lb sf q.st W=true→(ch e).2=.go→Exit.inBlock r.id2 (Exit.then (fun a w=>Code.roundsIn (FU rnd) 0 P (.seq (.region i2 ops2 false) (.seq (.cond (.tmp ok) .skip (.exit idb)) (.block r.id2 (.seq (.region i3 ops3 false) body)))) (Exit.inBlock idb Q) m a w) (Exit.inBlock idb Q)) (EC e') a4 w4:=by
        intro e' _ _ h1 h2' hsW h3'
        have hd4:Hd ρ s W w w4 bm clock (seen.push e.born):=Pg.round P hnx hltW hsm (n:=sf.next) g.fr g.inv hsW
        have hmg:Ai P (A1 ρ s w) fn A a4.tmps:=QM hv1' g.vars hle4 (.refl _) h2'
        refine H0 h1 ?_
        refine ih a4 w4 (seen.push e.born) (by have:=left_shrinks es seen e he;omega) ?_ hd4 hmg hmk4
        rcases hS with h | ⟨e0,h4,h5,X,M,h6⟩
        · exact .inl h
        · refine .inr ⟨e0, h4, ?_, X, M, h6⟩
          rw[Array.contains_push,h5]
          simp only[Bool.false_or]
          cases hb:(e0.born == e.born)with
          | false=>first | rfl | (rw[Bool.beq_comm] ; exact hb)
          | true =>
            have:=born_inj hst'.2.1 h4 hes (by simpa using hb)
            subst this
            rw[h3']at h6
            cases h6
      cases hex:q.exit with
      | ret =>
        rw[hex]at hq4
        simp only[fQ]at hq4
        obtain⟨X,h4,M,h4',h5⟩:=hq4
        injection h5 with h5
        obtain⟨Z,h6,h7⟩:=hret X M h5.symm
        refine TO ?_
        exact hqr Z M h6 _ _ _ _ _ _ Pg g.fr g.inv h4' (Y2 hv1' g.vars hle4 h4 h7) hmk4
      | normal =>
        rw[hex]at hq4
        obtain⟨h4,h5⟩:=AA hq4
        simp only[Bool.and_eq_true]at h4
        injection h5 with h5
        exact hgo _ hex.symm (by simp) h4.1 (HF h4.2.1) h4.2.2 h5.symm
      | exit i =>
        rw[hex]at hq4
        obtain⟨h4,h5⟩:=AA hq4
        simp only[Bool.and_eq_true]at h4
        injection h5 with h5
        exact hgo _ hex.symm (by simp) h4.1 (HF h4.2.1) h4.2.2 h5.symm
theorem Kd(o:Option Is)(x y:Ab):Kc o x y=.seq x y∨∃r c,Kc o x y=.rangeMap r c∧o=some r∧GI y=some c:=by
 unfold Kc
 cases o with
 | none=>exact .inl rfl
 | some r =>
  cases h:GI y with
  | none=>simp[h]
  | some c=>exact .inr ⟨r,c,rfl,rfl,rfl⟩
theorem XO:∀ {a b:List (List AV)},eT a b=true→a=b
 | [],[],_=>rfl
 | x::l,y::m,h=>by
  simp only[eT,Bool.and_eq_true]at h
  have:=E7 h.1
  injection this with this
  rw[this,XO h.2]
 | [],_::_,h=>by cases h
 | _::_,[],h=>by cases h
theorem EK          {g : AV → Option Lu}   : ∀ {l : List (AV × AV)} {R S : Option (List AV × List (List AV))}, FL     g R l = some S →
    (∀x∈l,∃o,g x.1=some o∧∀X M,o=.ret X M→∃Z,S=some (Z,M)∧K4 X Z)∧(∀Y,R=some Y→∃Z,S=some (Z,Y.2)∧K4 Y.1 Z)∧(R=none→S=none∨∃x∈l,∃X M,g x.1=some (.ret X M))
  | [],R,S,h=>by injection h with h;subst h;exact⟨fun x hx=>(by cases hx),fun Y h=>⟨Y.1,h,.refl _⟩,fun h=>.inl h⟩
  | e::l,R,S,h=>by
    unfold FL at h
    simp only[fQ]at h
    obtain⟨o,h1,h2⟩:=h
    cases o with
    | go =>
      obtain⟨g1,g2,g3⟩:=EK h2
      refine And.intro (fun x hx=>?_) (And.intro g2 fun h=>(g3 h).imp id fun⟨x,hx,h⟩=>⟨x,fh _ hx,h⟩)
      rcases gg.1 hx with rfl | hx
      · exact⟨_,h1,fun X M h=>(by cases h)⟩
      · exact g1 x hx
    | ret X M =>
      cases R with
      | none =>
        obtain⟨g1,g2,g3⟩:=EK h2
        refine And.intro (fun x hx=>?_) (And.intro (fun Y h=>(by cases h)) fun _=>.inr ⟨e,fc ..,X,M,h1⟩)
        rcases gg.1 hx with rfl | hx
        · exact⟨_,h1,fun X' M' h=>(by injection h with h h';subst h h';exact g2 _ rfl)⟩
        · exact g1 x hx
      | some Y =>
        obtain⟨hb,h2⟩:=AA h2
        simp only[fQ]at h2
        obtain⟨Z,h3,h4⟩:=h2
        have hM:=XO hb
        obtain⟨m1,m2⟩:=KB h3
        obtain⟨g1,g2,g3⟩:=EK h4
        obtain⟨Z',e1,e2⟩:=g2 _ rfl
        refine And.intro (fun x hx=>?_) (And.intro (fun Y' h=>(by injection h with h;subst h;exact⟨Z',e1,m1.trans e2⟩)) fun h=>(by cases h))
        rcases gg.1 hx with rfl | hx
        · exact⟨_,h1,fun X' M' h=>(by injection h with h h';subst h h';exact⟨Z',by rw[← hM];exact e1,m2.trans e2⟩)⟩
        · exact g1 x hx
theorem F5{var:List AV}{i:Nat}:∀ {l:List CX},i∈K1 var l→∃j o,CX.var j∈l∧var[j]? = some (.ptr (some (i,o)))
  | [],h=>by cases h
  | .var j::l,h=>by
    unfold K1 at h
    split at h
    · rename_i i' o hj
      rcases gg.1 h with rfl | h
      · exact⟨j,o,fc ..,hj⟩
      · obtain⟨j',o',h1,h2⟩:=F5 h;exact⟨j',o',fh _ h1,h2⟩
    · obtain⟨j',o',h1,h2⟩:=F5 h;exact⟨j',o',fh _ h1,h2⟩
  | .loc _::l,h=>by obtain⟨j',o',h1,h2⟩:=F5 (l:=l) h;exact⟨j',o',fh _ h1,h2⟩
  | .const _::l,h=>by obtain⟨j',o',h1,h2⟩:=F5 (l:=l) h;exact⟨j',o',fh _ h1,h2⟩
theorem TL{f:FuncId}{vars:List Tmp}{j:Nat}(h:CX.var j∈SP P f vars):∃t,Ao vars t=some j:=by
 unfold SP at h
 split at h
 ·obtain⟨v,_,h2⟩:=List.mem_filterMap.1 h
  split at h2
  ·rename_i t' _ _
   obtain⟨k,h3,h4⟩:=Option.map_eq_some_iff.1 h2
   injection h4 with h4
   subst h4
   exact⟨_,h3⟩
  ·cases h2
 ·cases h
theorem CH.mem'{l:List (AV×AV)}{l':List MapEntry}(h:CH ρ l l'):∀x∈l,∃e∈l',AK ρ x.1 e.key:=by
 induction h with
 | nil=>intro e he;cases he
 | cons hk hv hs ih =>
  intro e he
  rcases gg.1 he with rfl | he
  ·exact⟨_,fc ..,hk⟩
  ·obtain⟨x,h1,h2⟩:=ih e he
   exact⟨x,fh _ h1,h2⟩
theorem CH.mem{l:List (AV×AV)}{l':List MapEntry}(h:CH ρ l l'):∀e∈l',∃x∈l,AK ρ x.1 e.key:=by
 induction h with
 | nil=>intro e he;cases he
 | cons hk hv hs ih =>
  intro e he
  rcases gg.1 he with rfl | he
  ·exact⟨_,fc ..,hk⟩
  ·obtain⟨x,h1,h2⟩:=ih e he
   exact⟨x,fh _ h1,h2⟩
theorem ct     {F : Cg}  (hcode : EM     P F) {f : FuncId} {c b : Code} {r : Is}   {cb : Ab}    {rd : Option Nat} {var : List AV} {res : Aq}   (hf : P.funcs[f]? = some fn) (hr : Gd    P f fn.ntmps (AT     P fn) c b = some r)
    (hcb:GI (AX P f fn.ntmps (AT P fn) b)=some cb) (hc:ZO F rd r cb var marks s=some res) (hb:Eu P fn ρ s w var marks rd rnd a)
    (hq:∀a' w' ρ',FW P fn ρ s w res a' w' ρ'→Q (EC res.exit) a' w'):(Code.seq c b).wpIn (FU rnd) 0 P Q a w:=by
  unfold Gd at hr
  split at hr<;>first | (cases hr;done) | skip
  rename_i b i1 ops1 d1
  simp only[fQ]at hr
  obtain⟨p,hp,hr⟩:=hr
  unfold YT at hp
  split at hp<;>first | (cases hp;done) | skip
  rename_i idb i2 ops2 tc ide id2 i3 ops3 body
  obtain⟨Og,hp⟩:=AA hp
  simp only[fQ]at hp
  obtain⟨h,hh,n,hn,e,he,hp⟩:=hp
  obtain⟨hg,hp⟩:=AA hp
  simp only[Bool.and_eq_true]at hg
  injection hp with hpe
  have e1:=Ac hg.1
  have e2:=Ac hg.2
  subst e1
  subst e2
  cases d1 with
  | true=>cases Og
  | false =>
  have H1:=Mx hh
  have H2:=Mz hn
  have H3:=Kx he
  have hcb':cb=AX P f fn.ntmps (AT P fn) body:=by
    simp only[AX]at hcb
    rcases Kd (Gd P f fn.ntmps (AT P fn) (.region i2 ops2 false) (.seq (.cond (.tmp n.2) .skip (.exit ide)) (.block id2 (.seq (.region i3 ops3 false) body)))) (AX P f fn.ntmps (AT P fn) (.region i2 ops2 false)) (AX P f fn.ntmps (AT P fn) (.seq (.cond (.tmp n.2) .skip (.exit ide)) (.block id2 (.seq (.region i3 ops3 false) body))))with h1 | ⟨r',c',h1,h2,_⟩
    · simp only[AX]at h1
      rw[h1]at hcb
      rcases Kd (Gd P f fn.ntmps (AT P fn) (.region i3 ops3 false) body) (AX P f fn.ntmps (AT P fn) (.region i3 ops3 false)) (AX P f fn.ntmps (AT P fn) body)with h2 | ⟨r',c',h2,_,_⟩
      · simp only[AX]at h2
        rw[h2]at hcb
        simp only[Gd,Kc,GI]at hcb
        injection hcb with hcb
        exact hcb.symm
      · simp only[AX]at h2
        rw[h2]at hcb
        simp only[Gd,Kc,GI]at hcb
        cases hcb
    · simp only[Gd,YT]at h2
      cases h2
  subst hcb'
  clear hcb
  unfold R0 at hr
  simp only[fQ]at hr
  obtain⟨ad,hx,jt,hjt,jok,hjok,jk,hjk,hr⟩:=hr
  obtain⟨g1,hr⟩:=AA hr
  obtain⟨g2,hr⟩:=AA hr
  obtain⟨g3,hr⟩:=AA hr
  injection hr with hr
  subst hpe
  simp only at hx hjt hjok hjk g1 g2 g3 hr
  simp only[Bool.and_eq_true,Option.isNone_iff_eq_none,Bool.not_eq_true']at g1 g2 g3
  have blt:∀ {x y:Nat},Nat.blt x y=true→x<y:=fun h=>Nat.le_of_ble_eq_true h
  have bne:∀ {x y:Nat},Nat.beq x y=false→x≠y:=fun h e=>by subst e;simp at h
  have hs:Ti P fn h.2.2.2 n.1 n.2 e.1 e.2.1 e.2.2 r.jt r.jok r.jk:=by
    subst hr
    exact⟨hjt,hjok,hjk,g1.2.1,g1.2.2.1,g1.2.2.2,blt g2.2.1,blt g2.2.2.1,blt g2.2.2.2.1,blt g2.2.2.2.2.2.1,blt g2.2.2.2.2.2.2,bne g3.2.1,bne g3.2.2.1,bne g3.2.2.2⟩
  have hrid:id2=r.id2:=by subst hr;rfl
  have hrad:r.ad=ad:=by subst hr;rfl
  have hrres:r.res=SP P f (AT P fn):=by subst hr;rfl
  have hrrd:∀s v,r.rd s v=AE P s h.1 v:=by subst hr;intro s v;rfl
  clear hr
  unfold ZO at hc
  simp only[fQ]at hc
  obtain⟨m,hm,es,hes,hAF⟩:=hc
  rw[hrrd,hrad]at hm
  have hents:∃i kt es',m=.map (some i)∧es=es'∧(s.heap.get i=some (.map kt es')∨s.heap.get i=some (.mapRo kt es')):=by
    unfold SH at hes
    split at hes<;>first | (cases hes;done) | skip
    rename_i i
    split at hes<;>first | (cases hes;done) | skip
    · rename_i kt es' hget
      injection hes with hes
      exact⟨i,kt,es',rfl,hes.symm,.inl hget⟩
    · rename_i kt es' hget
      injection hes with hes
      exact⟨i,kt,es',rfl,hes.symm,.inr hget⟩
  obtain⟨i,kt,es',rfl,rfl,hget⟩:=hents
  clear hes
  obtain⟨v',hrun,hv',hdrop⟩:=J5 hb.inv hm (KF hb.vars hx)
  clear hdrop
  cases hv' with
  | map hρ =>
  rename_i rb
  obtain⟨esM,clock,hM,hst,⟨l,hperm,herel⟩,_⟩:=(show GT P ρ w kt es rb from hget.elim (fun h=>hb.inv.obj i _ rb h hρ) (fun h=>hb.inv.obj i _ rb h hρ)).ex
  have hmt:∃k e,P.underlying h.1=some (.map k e):=by
    have:=g3.1
    unfold H7 at this
    split at this
    · rename_i k e hu;exact⟨k,e,hu⟩
    · cases this
  obtain⟨tk,te,hmt⟩:=hmt
  have hn0:=(hb.fresh s.next (fR _)).1
  have hle:ρ.le (A1 ρ s w):=Ay hn0
  have hrit:A1 ρ s w s.next=some ⟨w.heap.size,0,0,0⟩:=AQ _ _
  obtain⟨o0,o1,hl,⟨a1,a2,a3⟩,b1,b2,b3⟩:=H1.ex
  have hsz:fn.ntmps≤a.tmps.size:=hb.vars.size
  refine wpIn_seq (wpIn_region ?_)
  rw[KH hl]
  show wpOpsIn (FU rnd) 0 P ops1 _ [0,1] a w
  rw[wpOpsIn_cons]
  refine Gq (Gs hl 0) a1 (fun c e=>by rw[a3]at e;cases e) (v':=.map (some rb.b)) (w':=w) ?_ ?_
  · simp only[execOp,a3,hrun,Sem.run_bind,Result.andThen,Sem.run_pure]
  rw[wpOpsIn_cons,a2]
  refine Gq (Gs hl 1) b1 (fun c e=>by rw[b3]at e;cases e) (v':=.pointer (some ⟨w.heap.size,0,none⟩)) (w':=w.alloc (.mapIter (some rb.b) clock #[] clock)) ?_ ?_
  · simp only[execOp,b3,CC (fV (blt g2.1) hsz),Sem.run_bind,run_range_map w h.1 tk te rb.b esM clock hmt hM,Result.andThen,Sem.run_pure]
  rw[b2]
  show Code.wpIn (FU rnd) 0 P _ _ _ _
  have hd0:∀W,(∀j∈W,∃r,s.heap.get j=some (.row r)∧CA r=true)→Hd ρ s W w (w.alloc (.mapIter (some rb.b) clock #[] clock)) rb.b clock #[]:=fun W hW =>
    ⟨⟨by simp,fun b hb _=>heap_alloc_old w _ hb,rfl,rfl,rfl⟩,fun j hj r rb' hr hrb=>(show Cv (default:Program) ρ w (.row r) rb' from hb.inv.obj j _ rb' hr hrb).mono (A5.le_refl _) (heap_alloc_old w _ (hb.inv.lt j rb' hrb)),clock,fR _,heap_alloc_new w _⟩
  have hv0:Ai P (A1 ρ s w) fn (Et (.ptr (some (s.next,0))) var r.jt) ((a.put (some h.2.2.1) (.map (some rb.b))).put (some h.2.2.2) (.pointer (some ⟨w.heap.size,0,none⟩))).tmps:=by
    have k1:Ai P (A1 ρ s w) fn var (a.put (some h.2.2.1) (.map (some rb.b))).tmps:=Hn (hb.vars.mono hle) g1.1 _
    exact M7 k1 hs.hjt (AK.ptr (rb:=⟨w.heap.size,0,0,0⟩) (o:=0) hrit) (by rw[BD];exact fV (blt g2.2.2.2.2.1) hsz)
  have hmk0:BL (A1 ρ s w) marks ((a.put (some h.2.2.1) (.map (some rb.b))).put (some h.2.2.2) (.pointer (some ⟨w.heap.size,0,none⟩))).defers:=by
    rw[Bl,Bl];exact hb.marks.mono hle
  generalize (a.put (some h.2.2.1) (.map (some rb.b))).put (some h.2.2.2) (.pointer (some ⟨w.heap.size,0,none⟩))=a0 at hv0 hmk0
  have hA0:Ic (Et (.ptr (some (s.next,0))) var r.jt) r.jt=.ptr (some (s.next,0)):=HV (by rw[hb.vars.len];exact Ci hs.hjt)
  generalize hA0e:Et (.ptr (some (s.next,0))) var r.jt=A0 at hAF hv0 hA0
  unfold KX at hAF
  simp only[fQ]at hAF
  obtain⟨J,_,A',hJ,hAF⟩:=hAF
  obtain⟨hjA,hAF⟩:=AA hAF
  simp only[fQ]at hAF
  obtain⟨sf,hsf,S',hS,hAF⟩:=hAF
  obtain⟨hn1,hsm⟩:=Sx hsf
  simp only[Bool.and_eq_true]at hjA
  have hjF:Ic A' r.jt=.ptr (some (s.next,0)):=E7 hjA.1
  have hWρ:∀j∈K1 A0 r.res,∃rb,ρ j=some rb:=fun j hj=>by
    obtain⟨k,o,h1,h2⟩:=F5 hj
    rw[hrres]at h1
    obtain⟨t,ht⟩:=TL h1
    obtain⟨_,v,h3,h4⟩:=hv0.rel t k ht
    rw[h2]at h3
    injection h3 with h3
    subst h3
    obtain⟨_,r1,h5,_⟩:=hsm.inW j hj
    have hne:j≠s.next:=fun e=>by
      rw[e,(hb.fresh s.next (fR _)).2]at h5;cases h5
    generalize a0.tmps.getD t undef=x at h4
    cases h4 with
    | ptr h =>
      unfold A1 at h
      rw[AL _ hne]at h
      exact⟨_,h⟩
  generalize K1 A0 r.res=W at *
  have hWs:∀j∈W,(∃rb,ρ j=some rb)∧∃r,s.heap.get j=some (.row r)∧CA r=true:=fun j hj=>⟨hWρ j hj,(hsm.inW j hj).2⟩
  have hd0:=hd0 W fun j hj=>(hWs j hj).2
  have hvA:Ai P (A1 ρ s w) fn A' a0.tmps:=Y1 hv0 (J0 hJ)
  obtain⟨k5,_,k7⟩:=EK hS
  have k7:=k7 rfl
  have hch:∀e:MapEntry,∃c:AV×Lu,e∈esM.toList→(AK (A1 ρ s w) c.1 e.key∧(C3 F rd r (AX P f fn.ntmps (AT P fn) body) A' W marks sf) c.1=some c.2∧(∀X M,c.2=.ret X M→∃Z,S'=some (Z,M)∧K4 X Z)) ∧
      ((∃x∈es,AK (A1 ρ s w) x.1 e.key∧∃X M,(C3 F rd r (AX P f fn.ntmps (AT P fn) body) A' W marks sf) x.1=some (.ret X M))→∃X M,c.2=.ret X M):=by
    intro e
    by_cases he:e∈esM.toList
    · by_cases hr : ∃ x ∈ es, AK   (A1    ρ s w) x.1 e.key ∧ ∃ X M, (C3       F rd r (AX       P f fn.ntmps (AT     P fn) body) A' W marks sf) x.1 = some (.ret X M)
      · obtain⟨x,hx1,hx2,X,M,hx3⟩:=hr
        refine⟨(x.1,.ret X M),fun _=>⟨⟨hx2,hx3,fun X' M' h=>?_⟩,fun _=>⟨X,M,rfl⟩⟩⟩
        obtain⟨o,ho,ho2⟩:=k5 x hx1
        rw[hx3]at ho
        injection ho with ho
        exact ho2 X' M' (ho.symm.trans h)
      · obtain ⟨x, hx1, hx2⟩ := herel.mem e (hperm.mem_iff.2 he)
        obtain⟨o,ho,ho2⟩:=k5 x hx1
        exact⟨(x.1,o),fun _=>⟨⟨hx2.mono hle,ho,ho2⟩,fun h=>absurd h hr⟩⟩
    · exact⟨(.junk,.go),fun h=>absurd h he⟩
  obtain⟨ch,hch⟩:=Classical.axiomOfChoice hch
  have hS0:S'=none∨∃e∈esM.toList,(#[]:Array Nat).contains e.born=false∧∃X M,(ch e).2=.ret X M:=by
    refine k7.imp id fun⟨x,hx,X,M,h⟩=>?_
    obtain⟨e,he,hv⟩:=herel.mem' x hx
    exact⟨e,hperm.mem_iff.1 he,by simp,(hch e (hperm.mem_iff.1 he)).2 ⟨x,hx,hv.mono hle,X,M,h⟩⟩
  refine wpIn_block (wpIn_loop_rounds ((leftOf esM #[]).size+1) ?_)
  refine TP hcode hf hs H2 H3 hb.inv hb.fresh hM hst hb.rnd hrid hjF hn1 hsm hWρ (S:=S') (ch:=ch) ⟨fun e he=>(hch e he).1⟩ ?_ ?_ _ a0 _ #[] (gC _) hS0 hd0 hvA hmk0
  · intro hn a' w' seen' hd' hv' hmk'
    subst hn
    injection hAF with hAF
    subst hAF
    have hnow:=hd'.now (P:=P) hWs hb.fresh
    exact hq a' w' (A1 ρ s w) ⟨hd'.invN hnow hb.inv hb.fresh,Pd hb.fresh hnow,hd'.frN hnow hb.fresh,hv',hmk'⟩
  · intro Z M hn a' w3 w' seen' ρ1 s1 hd3 hfr1 hinv1 hret hv' hmk'
    subst hn
    simp only[fQ]at hAF
    obtain⟨h2,hset,hAF⟩:=hAF
    injection hAF with hAF
    subst hAF
    have hnx:=hb.fresh s.next (fR _)
    have hnow:=ah (n:=sf.next) hd3 hWρ hnx hsm hfr1.le hinv1 hret rfl hset
    have hd':=(hd3.ended P hnx hb.inv.lt hsm (n:=sf.next) hfr1).1
    exact hq a' w' (A1 ρ s w) ⟨hd'.invN hnow hb.inv hb.fresh,Pd hb.fresh hnow,hd'.frN hnow hb.fresh,hv',hmk'⟩
end
end
end Go.Proofs.YtdmgdlbodeemeaaGreatDoor.Am
set_option linter.unusedVariables false
set_option linter.unusedSimpArgs false
namespace Go.Proofs.YtdmgdlbodeemeaaGreatDoor.Am
open Go
noncomputable section
section
variable{P:Program}{ρ ρ1 ρ2:A5}{s s1 s2:AD}{w w1 w2:World}
theorem YO(hng:Dk P){F:Cg}(hcall:B0 P F.call){f:FuncId}{fn:Func}{g:Operand}{x:CX}{ps:Array Tmp}{assign body:Code}{rnd r:Option Nat}{var:List AV}{marks:List Nat}{s:AD}{res:Aq}{ρ:A5}{w:World}{a:Act}{Q:Exit→Act→World→Prop}
    (hf:P.funcs[f]? = some fn) (hx:Dh (AT P fn) ⟨[],0⟩ g=some x) (hc:Je F rnd f (CM [] var x) ps assign body var marks s=some res) (hb:Eu P fn ρ s w var marks rnd r a)
    (hq:∀a' w' ρ',FW P fn ρ s w res a' w' ρ'→Q (EC res.exit) a' w'):(Code.rangeFunc g ps assign body).wpIn (FU r) 0 P Q a w:=by
  have hgv:AK ρ (CM [] var x) (a.eval g):=KF hb.vars hx
  have res1:∀l:Nat,(resolve a.eval (rangeCall g l) 0:Sem Deferred)=Deferred.ofValue (a.eval g) #[.func (.yield l) #[] #[]]:=by
    intro l
    simp[resolve,rangeCall,Act.eval]
  refine wpIn_rangeFunc fun fn' _=>?_
  unfold Je at hc
  cases rnd with
  | some l =>
    simp only[fQ]at hc
    obtain⟨al,hl,hc⟩:=hc
    obtain⟨rb,h1,h2⟩:=hb.rnd
    subst h2
    have hgl:=D7 hl
    obtain⟨L,h0,_,_,_,_,_,⟨rd,Og,Pg⟩,_⟩:=(hb.inv.obj _ _ _ hgl h1:FY P ρ w al rb).ex
    have hent:=GS (P:=P) h0 fn' a.tmps ps assign body
    rw[Pg]at hent
    obtain⟨d,f0,args,k1,k2,k3⟩:=KS (r:=some rb.b) (Q:=Q) hng hcall hf hc hb.inv hb.fresh hb.vars hb.marks hgv Og fn' fun w' ρ' h=>hq a w' ρ' h
    refine⟨_,_,_,d,_,f0,args,_,hent,?_,fun _ _=>trivial,k2 _,(fun e=>by cases e),k3⟩
    rw[res1,k1]
    rfl
  | none =>
    have hr:r=none:=hb.rnd
    subst hr
    let rb:RB:=⟨w.heap.size,0,0,0⟩
    have hn0:=(hb.fresh _ (fR s.next)).1
    have hle:=Ay (rb:=rb) hn0
    obtain⟨hi1,hfr1⟩:=hb.inv.new (o:=.mark) (o':=.deferred (some [])) (rb:=rb) hn0 rfl (World.alloc_heap_new w _)
    have hff:=hb.fresh.new .mark rb
    have Og:Bc ρ s.next rb s.next=some rb:=AQ _ _
    obtain⟨d,f0,args,k1,k2,k3⟩:=KS (r:=none) (Q:=Q) (a:={ a with defers:=[{ target:=.collected w.heap.size,args:=#[] }]++a.defers }) hng hcall hf hc hi1 hff (hb.vars.mono hle)
      ⟨rb,a.defers,Og,rfl,hb.marks.mono hle⟩ (hgv.mono hle) Og fn' fun w' ρ' h=>hq _ w' ρ' (FW.trans (r1:=res) (a1:=a) hfr1 h)
    have hsz:(w.alloc (.deferred (some []))).heap.size=w.heap.size+1:=by simp
    rw[hsz]at k1 k3
    refine⟨_,_,_,d,_,f0,args,_,run_enterLoop_outer fn' a.tmps ps assign body,?_,fun _ _=>trivial,k2 _,(fun e=>by cases e),k3⟩
    rw[res1,k1]
    rfl
theorem Su        (hm : P.follows .mixedOrders = true) (hng : Dk      P) {F : Cg}  {n : Nat} (h : NE    P F n) {call : FuncId → List AV → AD  → Option (AV × AD)}  {round : Nat → List AV → AD  → Option (AV × AD)}  : EM     P ⟨CF    F, call, round⟩ := by
  intro f fn c
  have hF:=h.fok hng
  induction c with
  | skip =>
    intro rnd r var marks s res ρ w a Q hf hc hb hq
    injection (show some (⟨.normal,var,marks,s⟩:Aq)=some res from hc)with hc
    subst hc
    exact wpIn_skip (hq a w ρ ⟨hb.inv,hb.fresh,Fr.refl _ _ _,hb.vars,hb.marks⟩)
  | label l =>
    intro rnd r var marks s res ρ w a Q hf hc hb hq
    injection (show some (⟨.normal,var,marks,s⟩:Aq)=some res from hc)with hc
    subst hc
    exact wpIn_label (hq a w ρ ⟨hb.inv,hb.fresh,Fr.refl _ _ _,hb.vars,hb.marks⟩)
  | ret =>
    intro rnd r var marks s res ρ w a Q hf hc hb hq
    injection (show some (⟨.ret,var,marks,s⟩:Aq)=some res from hc)with hc
    subst hc
    exact wpIn_ret (hq a w ρ ⟨hb.inv,hb.fresh,Fr.refl _ _ _,hb.vars,hb.marks⟩)
  | exit id =>
    intro rnd r var marks s res ρ w a Q hf hc hb hq
    injection (show some (⟨.exit id,var,marks,s⟩:Aq)=some res from hc)with hc
    subst hc
    exact wpIn_exit (hq a w ρ ⟨hb.inv,hb.fresh,Fr.refl _ _ _,hb.vars,hb.marks⟩)
  | goto l=>intro rnd r var marks s res ρ w a Q hf hc;cases hc
  | refuse u=>intro rnd r var marks s res ρ w a Q hf hc;cases hc
  | region id ops draw =>
    intro rnd r var marks s res ρ w a Q hf hc hb hq
    exact cm hm hF hc hb hq
  | seq x y ihx ihy =>
    intro rnd r var marks s res ρ w a Q hf hc hb hq
    have hc:CF F rnd (Kc (Gd P f fn.ntmps (AT P fn) x y) (AX P f fn.ntmps (AT P fn) x) (AX P f fn.ntmps (AT P fn) y)) var marks s=some res:=hc
    rcases Kd (Gd P f fn.ntmps (AT P fn) x y) (AX P f fn.ntmps (AT P fn) x) (AX P f fn.ntmps (AT P fn) y)with hs | ⟨rm,cb,hs,hr1,hr2⟩
    case inr =>
      rw[hs]at hc
      exact ct h.code hf hr1 hr2 hc hb hq
    rw[hs]at hc
    have hc:HC F rnd (AX P f fn.ntmps (AT P fn) y) (F.code rnd (AX P f fn.ntmps (AT P fn) x) var marks s)=some res:=hc
    unfold HC at hc
    split at hc<;>first | (cases hc;done) | skip
    rename_i r1 h1
    refine wpIn_seq (h.code f fn x rnd r var marks s r1 ρ w a _ hf h1 hb ?_)
    intro a' w' ρ' g
    unfold GU at hc
    cases he:r1.exit with
    | normal =>
      rw[he]at hc
      refine h.code f fn y rnd r _ _ _ res ρ' w' a' Q hf hc (g.begins hb) ?_
      intro a2 w2 ρ2 g2
      exact hq a2 w2 ρ2 (FW.trans (r1:=r1) (a1:=a') g.fr g2)
    | exit id =>
      rw[he]at hc
      injection hc with hc
      subst hc
      have:=hq a' w' ρ' g
      rw[he]at this
      exact this
    | ret =>
      rw[he]at hc
      injection hc with hc
      subst hc
      have:=hq a' w' ρ' g
      rw[he]at this
      exact this
  | cond o x y ihx ihy =>
    intro rnd r var marks s res ρ w a Q hf hc hb hq
    simp only[AX]at hc
    cases ho:Dh (AT P fn) ⟨[],0⟩ o with
    | none=>rw[ho]at hc;cases hc
    | some z =>
      rw[ho]at hc
      have hc:NX F rnd (AX P f fn.ntmps (AT P fn) x) (AX P f fn.ntmps (AT P fn) y) var marks s (CM [] var z)=some res:=hc
      have hz:=KF hb.vars ho
      unfold NX at hc
      split at hc<;>first | (cases hc;done) | skip
      rename_i t ht
      rw[ht]at hz
      have hev:a.eval o=.bool t:=by
        generalize a.eval o=y at hz
        cases hz;rfl
      refine wpIn_cond hev ?_
      cases t with
      | true=>exact h.code f fn x rnd r var marks s res ρ w a Q hf hc hb hq
      | false=>exact h.code f fn y rnd r var marks s res ρ w a Q hf hc hb hq
  | block id c ih =>
    intro rnd r var marks s res ρ w a Q hf hc hb hq
    have hc:Jd id (F.code rnd (AX P f fn.ntmps (AT P fn) c) var marks s)=some res:=hc
    unfold Jd at hc
    split at hc<;>first | (cases hc;done) | skip
    rename_i r1 h1
    refine wpIn_block (h.code f fn c rnd r var marks s r1 ρ w a _ hf h1 hb ?_)
    intro a' w' ρ' g
    unfold I3 at hc
    split at hc
    · rename_i id' he
      rw[he]
      simp only[EC,Exit.inBlock]
      cases hbq:Nat.beq id' id with
      | true =>
        rw[hbq]at hc
        injection hc with hc
        subst hc
        rw[if_pos (Ac hbq)]
        exact hq a' w' ρ' ⟨g.inv,g.fresh,g.fr,g.vars,g.marks⟩
      | false =>
        rw[hbq]at hc
        injection hc with hc
        subst hc
        have:=hq a' w' ρ' g
        rw[he]at this
        rw[if_neg (fun e=>by subst e;simp at hbq)]
        exact this
    · rename_i hne
      injection hc with hc
      subst hc
      have:=hq a' w' ρ' g
      cases he:r1.exit with
      | normal=>rw[he]at this;exact this
      | ret=>rw[he]at this;exact this
      | exit id'=>exact absurd he (hne id')
  | loop c ih =>
    intro rnd r var marks s res ρ w a Q hf hc hb hq
    have hc:HC F rnd (.loop (AX P f fn.ntmps (AT P fn) c)) (F.code rnd (AX P f fn.ntmps (AT P fn) c) var marks s)=some res:=hc
    refine wpIn_loop_rounds (n+1) ?_
    rw[roundsIn_succ]
    unfold HC at hc
    split at hc<;>first | (cases hc;done) | skip
    rename_i r1 h1
    refine h.code f fn c rnd r var marks s r1 ρ w a _ hf h1 hb ?_
    intro a' w' ρ' g
    unfold GU at hc
    cases he:r1.exit with
    | normal =>
      rw[he]at hc
      refine h.loop f fn c rnd r _ _ _ res ρ' w' a' Q hf hc (g.begins hb) ?_
      intro a2 w2 ρ2 g2
      exact hq a2 w2 ρ2 (FW.trans (r1:=r1) (a1:=a') g.fr g2)
    | exit id =>
      rw[he]at hc
      injection hc with hc
      subst hc
      have:=hq a' w' ρ' g
      rw[he]at this
      exact this
    | ret =>
      rw[he]at hc
      injection hc with hc
      subst hc
      have:=hq a' w' ρ' g
      rw[he]at this
      exact this
  | scope c ih =>
    intro rnd r var marks s res ρ w a Q hf hc hb hq
    refine QO (ih rnd r var marks s res ρ w a _ hf hc hb ?_)
    intro a' w' ρ' g
    have:=hq a' w' ρ' g
    cases he:res.exit with
    | normal=>rw[he]at this;exact this
    | ret=>rw[he]at this;exact this
    | exit id'=>rw[he]at this;exact this
  | rangeFunc g ps x y ihx ihy =>
    intro rnd r var marks s res ρ w a Q hf hc hb hq
    simp only[AX]at hc
    cases ho:Dh (AT P fn) ⟨[],0⟩ g with
    | none=>rw[ho]at hc;cases hc
    | some z =>
      rw[ho]at hc
      exact YO hng h.call hf ho hc hb hq
theorem TA{F:Cg}{n:Nat}(h:NE P F n){call:FuncId→List AV→AD→Option (AV×AD)}{round:Nat→List AV→AD→Option (AV×AD)}:QQ P ⟨CF F,call,round⟩ (n+1):=by
  intro f fn c rnd r var marks s res ρ w a Q hf hc hb hq
  have hc:HC F rnd (.loop (AX P f fn.ntmps (AT P fn) c)) (F.code rnd (AX P f fn.ntmps (AT P fn) c) var marks s)=some res:=hc
  rw[roundsIn_succ]
  unfold HC at hc
  split at hc<;>first | (cases hc;done) | skip
  rename_i r1 h1
  refine h.code f fn c rnd r var marks s r1 ρ w a _ hf h1 hb ?_
  intro a' w' ρ' g
  unfold GU at hc
  cases he:r1.exit with
  | normal =>
    rw[he]at hc
    refine h.loop f fn c rnd r _ _ _ res ρ' w' a' Q hf hc (g.begins hb) ?_
    intro a2 w2 ρ2 g2
    exact hq a2 w2 ρ2 (FW.trans (r1:=r1) (a1:=a') g.fr g2)
  | exit id =>
    rw[he]at hc
    injection hc with hc
    subst hc
    have:=hq a' w' ρ' g
    rw[he]at this
    exact this
  | ret =>
    rw[he]at hc
    injection hc with hc
    subst hc
    have:=hq a' w' ρ' g
    rw[he]at this
    exact this
theorem ZG{F:Cg}(hcode:EM P F){f:FuncId}{aS:List AV}{v:AV}{as':Array Value}(hc:Fc P F aS s (AS P f)=some (v,s1))(hi:Aw P ρ s w)(hfr:Ag ρ s)(ha:AJ ρ aS as'.toList):
  (∃fn c,P.funcs[f]? = some fn∧fn.body=some c)∧CallsIn Fence.wide 0 P f as' w (CS P ρ s w v s1):=by
 unfold Fc at hc
 simp only[fQ]at hc
 obtain⟨cf,h1,hc⟩:=hc
 unfold AS at h1
 simp only[fQ]at h1
 obtain⟨fn,h2,c,h3,h4⟩:=h1
 obtain⟨h5,h6⟩:=AA h4
 simp only[fQ]at h6
 obtain⟨cr,h7,h8⟩:=h6
 injection h8 with h8
 subst h8
 simp only at hc
 cases hb:Nat.beq aS.length (CT fn)with
 | false=>rw[hb]at hc;cases hc
 | true =>
  rw[hb]at hc
  simp only[cond_true]at hc
  refine⟨⟨fn,c,h2,h3⟩,callsIn_of_wp_marks h2 h3 trivial ?_⟩
  unfold I4 at hc
  simp only[fQ]at hc
  obtain⟨res,hr,hc⟩:=hc
  have hend:Nl res.exit=true∧((C8 res.st res.marks).bind fun s=>(BS P s res.var cr).bind fun l=>some (BN l,s))=some (v,s1):=by
   cases he:Nl res.exit with
   | true=>rw[he]at hc;exact⟨rfl,hc⟩
   | false=>rw[he]at hc;cases hc
  obtain⟨he,hc⟩:=hend
  simp only[fQ]at hc
  obtain⟨s2,hu,l,hl,hv⟩:=hc
  injection hv with hv
  injection hv with hv1 hv2
  subst hv1
  subst hv2
  have hvars:Ai P ρ fn (Ql aS (AT P fn).length) (as'++Array.replicate (fn.ntmps - as'.size) undef):=Sd ha (Ac hb) (by simpa[fT]using h5)
  refine hcode f fn c none none _ [] s res ρ w _ _ h2 hr ⟨hi,hfr,hvars,rfl,rfl⟩ ?_
  intro a' w' ρ' g
  have hlv:LeavesInM Fence.wide 0 P fn a'.tmps (CS P ρ s w (BN l) s2) a'.defers .returning w':=by
   refine HR g.marks hu g.inv fun w2 k1 k2=>?_
   obtain⟨v',k3,k4⟩:=KU k1 g.vars.rel h7 hl
   exact⟨v',k3,ρ',k4,k1,g.fr.trans k2⟩
  cases hx:res.exit with
  | normal=>exact hlv
  | ret=>exact hlv
  | exit id=>rw[hx]at he;cases he
theorem YU       (hng : Dk      P) {E : Cf}  (hE : E.P = P) {F : Cg}  (hcode : EM     P F) {l : Nat} {rb : RB} {aS : List AV} {v : AV} {as' : Array Value} (hc : In    E F l aS s = some (v, s1)) (hi : Aw  P ρ s w) (hfr : Ag     ρ s) (hl : ρ l = some rb) (ha : AJ    ρ aS as'.toList) :
    Cu P ρ s w v s1 ((Instr.yield rb.b as').run P w):=by
  unfold In at hc
  rw[hE]at hc
  simp only[fQ]at hc
  obtain⟨al,h1,var,h2,ca,h3,cb,h4,hc⟩:=hc
  have hg:=D7 h1
  obtain⟨L,h0,_,_,e1,e2,e3,_,hrel,hsz,hlen⟩:=(hi.obj _ _ _ hg hl:FY P ρ w al rb).ex
  unfold E6 at h3 h4
  simp only[fQ]at h3 h4
  obtain⟨fn,hf,h3⟩:=h3
  obtain⟨fn2,hf2,h4⟩:=h4
  rw[hf]at hf2
  injection hf2 with hf2
  subst hf2
  injection h3 with h3
  injection h4 with h4
  subst h3
  subst h4
  have hvi:De P al.fn=AT P fn:=by unfold De;rw[hf]
  rw[hvi]at hrel hlen h2
  obtain⟨z1,z2,z3,z4⟩:=M8 (tmps:=L.tmps) h2 hrel hlen ha
  have hps:as'.size=L.params.size:=by rw[e1];simpa using z4.symm
  rw[run_yield h0 hps]
  refine .round (roundIn_of_wpIn trivial ?_)
  have hfold:(L.params.zip as').foldl (fun tmps (x:Tmp×Value)=>match x with | (t,a)=>tmps.setIfInBounds t a) L.tmps=(al.params.toList.zip as'.toList).foldl (fun tmps (p:Tmp×Value)=>tmps.setIfInBounds p.1 p.2) L.tmps:=by
    rw[← Array.foldl_toList,Array.toList_zip,e1]
  have hfold':(L.params.zip as').foldl (fun tmps (x:Tmp×Value)=>tmps.setIfInBounds x.1 x.2) L.tmps=(al.params.toList.zip as'.toList).foldl (fun tmps (p:Tmp×Value)=>tmps.setIfInBounds p.1 p.2) L.tmps:=hfold
  have hvars:Ai P ρ fn var ((al.params.toList.zip as'.toList).foldl (fun tmps (p:Tmp×Value)=>tmps.setIfInBounds p.1 p.2) L.tmps):=⟨z2,z1,by rw[z3];exact hsz fn hf⟩
  unfold GJ at hc
  simp only[fQ]at hc
  obtain⟨q,hq1,hc⟩:=hc
  cases hn:D5 q.exit with
  | false=>rw[hn]at hc;cases hc
  | true =>
    rw[hn]at hc
    simp only[cond_true,fQ]at hc
    obtain⟨r2,hr2,hc⟩:=hc
    cases hrd:I8 r2.state with
    | false=>rw[hrd]at hc;cases hc
    | true =>
      rw[hrd]at hc
      simp only[cond_true]at hc
      unfold Hf at hc
      simp only[fQ]at hc
      obtain⟨q2,hq2,r3,hr3,hc⟩:=hc
      injection hc with hc
      injection hc with hv hs
      subst hv
      subst hs
      have hqn:q.exit=.normal:=by cases he:q.exit<;>rw[he]at hn<;>first | rfl | cases hn
      have hst:r2.state=.ready:=by
        cases he:r2.state<;>rw[he]at hrd<;>first | rfl | cases hrd
      rw[e2,e3]
      refine hcode al.fn fn al.assign (some l) (some rb.b) var [] s q ρ w _ _ hf hq1 ⟨hi,hfr,by first | exact hvars | (simp only[];rw[hfold];exact hvars),rfl,⟨rb,hl,rfl⟩⟩ ?_
      intro a1 w1 ρ1 g1
      rw[hqn]
      have hl1:ρ1 l=some rb:=g1.fr.le _ _ hl
      have hg2:=D7 hr2
      obtain⟨L1,k0,k1,_⟩:=(g1.inv.obj _ _ _ hg2 hl1:FY P ρ1 w1 r2 rb).ex
      obtain⟨i2,f2⟩:=J8 g1.inv hg2 hl1 (st:=.busy) (pd:=r2.pending) k0
      refine⟨_,run_beginRound k0 (by rw[k1,hst]),?_⟩
      have hpd:L1.pending=r2.pending:=by
        obtain⟨L1',k0',_,k2',_⟩:=(g1.inv.obj _ _ _ hg2 hl1:FY P ρ1 w1 r2 rb).ex
        rw[k0]at k0';injection k0' with k0';injection k0' with k0';subst k0';exact k2'
      have hL1:({ L1 with state:=.busy }:Loop)={ L1 with state:=.busy,pending:=r2.pending }:=by rw[← hpd]
      rw[hL1]
      have hal:({ r2 with state:=.busy }:EE)={ r2 with state:=.busy,pending:=r2.pending }:=rfl
      refine hcode al.fn fn al.body (some l) (some rb.b) q.var q.marks _ q2 ρ1 _ a1 _ hf hq2 ⟨i2,g1.fresh.step f2,g1.vars,g1.marks,⟨rb,hl1,rfl⟩⟩ ?_
      intro a3 w3 ρ3 g3
      have hl3:ρ3 l=some rb:=g3.fr.le _ _ hl1
      have hg3:=D7 hr3
      obtain⟨L3,m0,m1,_⟩:=(g3.inv.obj _ _ _ hg3 hl3:FY P ρ3 w3 r3 rb).ex
      have tot:=g1.fr.trans (f2.trans g3.fr)
      have fin:∀jump:Option Code,CY q2.exit=jump→∃v w',(Instr.endRound rb.b jump).run P w3=.ok v w'∧CS P ρ s w (.bool (CY q2.exit).isNone) (setObj q2.st l (.loop { r3 with state:=GM (CY q2.exit),pending:=CY q2.exit })) (.returned v) w':=by
        intro jump hj
        obtain⟨i4,f4⟩:=J8 g3.inv hg3 hl3 (st:=GM jump) (pd:=jump) m0
        refine⟨_,_,run_endRound jump m0,ρ3,?_,?_,?_⟩
        · rw[hj];exact .bool _
        · rw[hj]
          have:(if jump.isNone=true then LoopState.ready else .done)=GM jump:=by cases jump<;>rfl
          rw[this]
          exact i4
        · rw[hj]
          have:(if jump.isNone=true then LoopState.ready else .done)=GM jump:=by cases jump<;>rfl
          rw[this]
          exact tot.trans f4
      cases he:q2.exit with
      | normal=>have:=fin none (by rw[he];rfl);rw[he]at this;exact this
      | ret=>have:=fin (some .ret) (by rw[he];rfl);rw[he]at this;exact this
      | exit id=>have:=fin (some (.exit id)) (by rw[he];rfl);rw[he]at this;exact this
theorem ep  (hm : P.follows .mixedOrders = true) (hng : Dk      P) {E : Cf}  (hE : E.P = P) (hnat : B0     P E.nat) : ∀ n, NE    P (Ck   E n) n := by
  intro n
  induction n with
  | zero =>
    refine⟨?_,?_,?_,?_⟩
    · intro f fn c rnd r var marks s res ρ w a Q hf hc;cases hc
    · intro f fn c rnd r var marks s res ρ w a Q hf hc;cases hc
    · intro ρ s w f aS v s1 as' hc;cases hc
    · intro ρ s w l rb aS v s1 as' hc;cases hc
  | succ n ih =>
    refine⟨Su hm hng ih,TA ih,?_,?_⟩
    · intro ρ s w f aS v s1 as' hc hi hfr ha
      have hc:Gf E (Ck E n) f aS s=some (v,s1):=hc
      unfold Gf at hc
      split at hc
      · rename_i p hp
        injection hc with hc
        subst hc
        exact hnat ρ s w f aS _ _ as' hp hi hfr ha
      · rw[hE]at hc
        exact ZG ih.code hc hi hfr ha
    · intro ρ s w l rb aS v s1 as' hc hi hfr hl ha
      exact YU hng hE ih.code hc hi hfr hl ha
end
def bY:Gh:=fun _ _ _=>none
theorem X9(P:Program):B0 P bY:=fun _ _ _ _ _ _ _ _ hc=>by cases hc
def eR(P:Program):Cf:=⟨P,bY⟩
def KD (P : Program) : Bool := P.funcs.all fun fn => !(fn.name == "runtime.NumGoroutine")
theorem FI{P:Program}(h:KD P=true):Dk P:=by
 intro f fn hf
 unfold KD at h
 rw[Array.all_eq_true_iff_forall_mem]at h
 have:=h fn (Array.mem_of_getElem? hf)
 simpa using this
def TN:A5:=fun _=>none
def dK:AD:=⟨0,.leaf⟩
theorem fB(P:Program)(w:World):Aw P TN dK w:=⟨fun i o rb _ hr=>(by cases hr),fun i rb hr=>(by cases hr),fun i j oi oj ri rj _ _ _ hr=>(by cases hr),fun i o g hi=>(by cases hi)⟩
theorem cT:Ag TN dK:=fun i _=>⟨rfl,rfl⟩
structure Kp(W W':World):Prop where
 heap:∀b,b<W.heap.size→W'.heap[b]? = W.heap[b]?
 os:W'.os=W.os
 output:W'.output=W.output
 size:W.heap.size≤W'.heap.size
theorem aG{ρ ρ':A5}{s s':AD}{w w':World}(h:Fr ρ s w ρ' s' w')(hn:∀b,¬ FR ρ s b):Kp w w':=
 ⟨fun b hb=>h.keep b hb (hn b),h.os,h.output,h.size⟩
theorem TG(b:Nat):¬ FR TN dK b:=fun⟨i,o,rb,hi,_⟩=>by cases hi
theorem Kp.keptBut{W W':World}(h:Kp W W')(may:MemPlace→Prop):W.keptBut W' may:=by
 refine⟨h.os,h.output,fun i hi=>?_⟩
 rw[h.heap i hi]
 have:W.heap[i]? = some W.heap[i]:=Array.getElem?_eq_getElem hi
 rw[this]
 cases W.heap[i]with
 | cells c t fr=>exact⟨rfl,rfl,rfl,fun _ _=>rfl⟩
 | map es clock=>exact .inr ⟨rfl,rfl⟩
 | _=>rfl
theorem Kp.frozen{W W':World}(h:Kp W W')(a:Addr)(ha:a.block<W.heap.size):W'.frozen? a=W.frozen? a:=by simp[World.frozen?,h.heap _ ha]
section
open Go.ChangeShapes Go.WideShapes
theorem post_of_kept{H:Type}{enc:TypeId×Value→H}{P:Program}{f:Func}{s:ChangeSpec}{apart fresh handsOn again:Bool}{W W':World}{args:Array Value}{v:Value}{ds gs:List (DataW H)}{before pa pv:List MemPlace}
  (hW:DataW.Whole enc P f.params.toList s.vars apart W args.toList ds gs before)
  (hres:∀ (b:Nat) (sp:Nat→Bool) (hd:Bool),DataW.TrodAll enc P W' b sp hd f.resultTypes.toList (v.resultList f.resultTypes.size) (s.fn H (ds++gs)).results [])
  (hargs:∀sp:Nat→Bool,(∀p∈before,sp p.block=true)→DataW.TrodAll enc P W' 0 sp true f.params.toList args.toList (s.fn H (ds++gs)).args pa)
  (hvars:∀sp:Nat→Bool,(∀p∈before,sp p.block=true)→DataW.TrodVars enc P W' sp s.vars (s.fn H (ds++gs)).vars pv)
  (hps:before=pa++pv) (hk:Kp W W')
  (hok:∀ (j:Nat) (t:TypeId) (r:Value),f.resultTypes[j]? = some t→(v.resultList f.resultTypes.size)[j]? = some r→Value.okWide P W' .any 0 t r):
  s.post enc P f apart fresh handsOn again W args v W':=by
 have hold:∀p∈before,(fun b=>decide (b<W.heap.size)) p.block=true:=fun p hp=>by simpa using hW.lt p hp
 refine⟨ds,gs,before,[],pa,pv,hW,hres _ _ _,hargs _ hold,hvars _ hold,World.keptBut_mono (fun p hp=>⟨hp,?_⟩) (hk.keptBut _),fun _=>?_⟩
 ·rw[hps,List.mem_append]at hp
  exact Or.inr hp
 ·have hlt:=hW.lt
  obtain⟨_,_,_,_,_,hz,hn⟩:=hW
  refine⟨hok,_,_,([]++pa)++pv,⟨[]++pa,pv,trodAll_append (hargs _ (fun _ _=>rfl)) (hres _ _ _),hvars _ (fun _ _=>rfl),rfl,?_,?_⟩,?_⟩
  ·intro b off hp
   have hp':MemPlace.cell b off∈before:=by rw[hps];simpa using hp
   rw[hk.frozen _ (hlt _ hp')]
   exact hz b off hp'
  ·intro ha
   have:=hn ha
   rw[hps]at this
   simpa using this
  ·intro p hp _
   rw[hps]
   simpa using hp
end
structure Cg.le(F G:Cg):Prop where
 code:∀ {rnd:Option Nat} {c:Ab} {var:List AV} {marks:List Nat} {s:AD} {r:Aq},F.code rnd c var marks s=some r→G.code rnd c var marks s=some r
 call:∀ {f:FuncId} {aS:List AV} {s:AD} {p:AV×AD},F.call f aS s=some p→G.call f aS s=some p
 round:∀ {l:Nat} {aS:List AV} {s:AD} {p:AV×AD},F.round l aS s=some p→G.round l aS s=some p
section
variable{F G:Cg}
theorem Jg(h:F.le G){f:AV}{aS:List AV}{s:AD}{p:AV×AD}(hc:Fe F f aS s=some p):Fe G f aS s=some p:=by
 unfold Fe at hc ⊢
 split at hc
 ·exact h.call hc
 ·exact h.round hc
 ·cases hc
theorem OR(h:F.le G){sh:Sh}{xs:List CX}{loc var:List AV}{s:AD}{p:AV×AD}(hc:dA F sh xs loc var s=some p):dA G sh xs loc var s=some p:=by
 cases sh<;>first | exact hc | exact h.call hc | skip
 cases xs with
 | nil=>cases hc
 | cons x xs=>exact Jg h hc
theorem Fl(it:AB)(l:List AB)(loc var:List AV)(s:AD):Db F (it::l) loc var s=Ia F it (Db F l) loc var s:=rfl
theorem HO{k k':Tg}(hk:∀loc var s p,k loc var s=some p→k' loc var s=some p){ag:List FV}{d:Ir}{loc var:List AV}{v:AV}{s:AD}{p:List AV×AD}(h:CO ag d k loc var v s=some p):CO ag d k' loc var v s=some p:=by
  cases d with
  | push =>
    simp only[CO]at h ⊢
    cases hb:DX s (v::loc) var ag with
    | true=>rw[hb]at h;exact hk _ _ _ _ h
    | false=>rw[hb]at h;cases h
  | set j =>
    simp only[CO]at h ⊢
    cases hb:DX s loc (Et v var j) ag with
    | true=>rw[hb]at h;exact hk _ _ _ _ h
    | false=>rw[hb]at h;cases h
theorem Fm(h:F.le G):∀ (l:List AB)(loc var:List AV)(s:AD)(p:List AV×AD),Db F l loc var s=some p→Db G l loc var s=some p:=by
 intro l
 induction l with
 | nil=>intro loc var s p hp;exact hp
 | cons it l ih =>
  intro loc var s p hp
  rw[Fl]at hp ⊢
  unfold Ia at hp ⊢
  cases hj:Tf loc var it.guard with
  | true=>rw[hj]at hp;cases hp
  | false =>
  rw[hj]at hp
  simp only at hp ⊢
  cases hw:BK loc var it.guard with
  | true =>
   rw[hw]at hp
   simp only at hp ⊢
   unfold I9 at hp ⊢
   cases hs:dA F it.sh it.xs loc var s with
   | none=>rw[hs]at hp;cases hp
   | some q=>rw[hs]at hp;rw[OR h hs];exact HO ih hp
  | false =>
   rw[hw]at hp
   exact HO ih hp
theorem Jf(h:F.le G){rnd:Option Nat}{b:Ab}{r res:Aq}(hc:GU F rnd b r=some res):GU G rnd b r=some res:=by
 unfold GU at hc ⊢
 split at hc
 ·exact h.code hc
 ·exact hc
theorem HB(h:F.le G){var:List AV}{f:AV}{params:Array Tmp}{assign body:Code}{fn:FuncId}{dfr:Nat}{marks:List Nat}{s:AD}{res:Aq}
  (hc:EG F var f params assign body fn dfr marks s=some res):EG G var f params assign body fn dfr marks s=some res:=by
 unfold EG GA at hc ⊢
 simp only[fQ]at hc ⊢
 obtain⟨q,h1,rest⟩:=hc
 have h':Cg.le { F with round:=fun _ _ _=>none } { G with round:=fun _ _ _=>none }:=⟨h.code,h.call,fun h=>by cases h⟩
 exact⟨q,Jg h' h1,rest⟩
theorem Ky(h:F.le G){rnd:Option Nat}{r:Is}{body:Ab}{A:List AV}{W marks:List Nat}{s:AD}{k:AV}{B:Lu}(hc:C3 F rnd r body A W marks s k=some B):C3 G rnd r body A W marks s k=some B:=by
 unfold C3 at hc ⊢
 simp only[fQ]at hc ⊢
 obtain⟨q,h1,h2⟩:=hc
 exact⟨q,h.code h1,h2⟩
theorem EJ          {f g : AV → Option Lu}   (hf : ∀ k B, f k = some B → g k = some B) : ∀ {l : List (AV × AV)} {R C : Option (List AV × List (List AV))}, FL     f R l = some C → FL     g R l = some C
  | [],_,_,h=>h
  | e::l,R,C,h=>by
    unfold FL at h ⊢
    simp only[fQ]at h ⊢
    obtain⟨X,h1,h2⟩:=h
    refine⟨X,hf _ _ h1,?_⟩
    cases X with
    | go=>exact EJ hf h2
    | ret X M =>
      cases R with
      | none=>exact EJ hf h2
      | some Y =>
        simp only at h2 ⊢
        cases hb:eT Y.2 M with
        | false=>rw[hb]at h2;cases h2
        | true =>
          rw[hb]at h2
          simp only[AG,cond_true,fQ]at h2 ⊢
          obtain⟨Z,h3,h4⟩:=h2
          exact⟨Z,h3,EJ hf h4⟩
theorem OH(h:F.le G){rnd:Option Nat}{r:Is}{body:Ab}{it:AV}{marks:List Nat}{n:Nat}{t:AH Af}{A0:List AV}{l:List (AV×AV)}{C:Aq}(hc:KX F rnd r body it marks n t A0 l=some C):KX G rnd r body it marks n t A0 l=some C:=by
 unfold KX at hc ⊢
 simp only[fQ]at hc ⊢
 obtain⟨J,h1,A,h2,h3⟩:=hc
 refine⟨J,h1,A,h2,?_⟩
 cases hb:(Ep (Ic A r.jt) it && Ep (Ic A0 r.jt) it)with
 | false=>rw[hb]at h3;cases h3
 | true =>
  rw[hb]at h3
  simp only[AG,cond_true,fQ]at h3 ⊢
  obtain⟨s,h4,R,h6,h7⟩:=h3
  exact⟨s,h4,R,EJ (fun k B=>Ky h) h6,h7⟩
theorem QG(h:F.le G){rnd:Option Nat}{c:Ab}{var:List AV}{marks:List Nat}{s:AD}{res:Aq}(hc:CF F rnd c var marks s=some res):CF G rnd c var marks s=some res:=by
  cases c with
  | skip=>exact hc
  | ret=>exact hc
  | exit id=>exact hc
  | never=>exact hc
  | ops l =>
    simp only[CF,ZN]at hc ⊢
    cases hi:Db F l [] var s with
    | none=>rw[hi]at hc;cases hc
    | some p=>rw[hi]at hc;rw[Fm h _ _ _ _ _ hi];exact hc
  | seq a b =>
    simp only[CF]at hc ⊢
    unfold HC at hc ⊢
    cases ha:F.code rnd a var marks s with
    | none=>rw[ha]at hc;cases hc
    | some r=>rw[ha]at hc;rw[h.code ha];exact Jf h hc
  | cond x a b =>
    simp only[CF]at hc ⊢
    unfold NX at hc ⊢
    split at hc
    · split at hc
      · exact h.code hc
      · exact h.code hc
    · cases hc
  | block id c =>
    simp only[CF]at hc ⊢
    unfold Jd at hc ⊢
    cases ha:F.code rnd c var marks s with
    | none=>rw[ha]at hc;cases hc
    | some r=>rw[ha]at hc;rw[h.code ha];exact hc
  | loop c =>
    simp only[CF]at hc ⊢
    unfold HC at hc ⊢
    cases ha:F.code rnd c var marks s with
    | none=>rw[ha]at hc;cases hc
    | some r=>rw[ha]at hc;rw[h.code ha];exact Jf h hc
  | rangeFunc fn f params assign body =>
    simp only[CF]at hc ⊢
    unfold Je at hc ⊢
    cases rnd with
    | none=>exact HB h hc
    | some l =>
      simp only[fQ]at hc ⊢
      obtain⟨r,h1,h2⟩:=hc
      exact⟨r,h1,HB h h2⟩
  | rangeMap r body =>
    simp only[CF]at hc ⊢
    unfold ZO at hc ⊢
    simp only[fQ]at hc ⊢
    obtain⟨m,h1,es,h2,h3⟩:=hc
    exact⟨m,h1,es,h2,OH h h3⟩
theorem QJ(h:F.le G){E:Cf}{f:FuncId}{aS:List AV}{s:AD}{p:AV×AD}(hc:Gf E F f aS s=some p):Gf E G f aS s=some p:=by
 unfold Gf at hc ⊢
 cases hn:E.nat f aS s with
 | some q=>rw[hn]at hc;exact hc
 | none =>
  rw[hn]at hc
  simp only at hc ⊢
  unfold Fc at hc ⊢
  simp only[fQ]at hc ⊢
  obtain⟨cf,h1,h2⟩:=hc
  refine⟨cf,h1,?_⟩
  cases hb:Nat.beq aS.length cf.na with
  | false=>rw[hb]at h2;cases h2
  | true =>
   rw[hb]at h2
   simp only[cond_true]at h2 ⊢
   unfold I4 at h2 ⊢
   simp only[fQ]at h2 ⊢
   obtain⟨r,h3,h4⟩:=h2
   exact⟨r,h.code h3,h4⟩
theorem QK(h:F.le G){E:Cf}{l:Nat}{aS:List AV}{s:AD}{p:AV×AD}(hc:In E F l aS s=some p):In E G l aS s=some p:=by
 unfold In at hc ⊢
 simp only[fQ]at hc ⊢
 obtain⟨r,h1,var,h2,ca,h3,cb,h4,hc⟩:=hc
 refine⟨r,h1,var,h2,ca,h3,cb,h4,?_⟩
 unfold GJ at hc ⊢
 simp only[fQ]at hc ⊢
 obtain⟨q,h5,hc⟩:=hc
 refine⟨q,h.code h5,?_⟩
 cases hn:D5 q.exit with
 | false=>rw[hn]at hc;cases hc
 | true =>
  rw[hn]at hc
  simp only[cond_true,fQ]at hc ⊢
  obtain⟨r2,h6,hc⟩:=hc
  refine⟨r2,h6,?_⟩
  cases hr:I8 r2.state with
  | false=>rw[hr]at hc;cases hc
  | true =>
   rw[hr]at hc
   simp only[cond_true]at hc ⊢
   unfold Hf at hc ⊢
   simp only[fQ]at hc ⊢
   obtain⟨q2,h7,rest⟩:=hc
   exact⟨q2,h.code h7,rest⟩
end
theorem M1(E:Cf):∀n,(Ck E n).le (Ck E (n+1)):=by
 intro n
 induction n with
 | zero=>exact⟨fun h=>(by cases h),fun h=>(by cases h),fun h=>(by cases h)⟩
 | succ n ih=>exact⟨fun h=>QG ih h,fun h=>QJ ih h,fun h=>QK ih h⟩
theorem Cg.le.refl(F:Cg):F.le F:=⟨id,id,id⟩
theorem Cg.le.trans{F G H:Cg}(h:F.le G)(k:G.le H):F.le H:=⟨fun x=>k.code (h.code x),fun x=>k.call (h.call x),fun x=>k.round (h.round x)⟩
theorem FN(E:Cf){n m:Nat}(h:n≤m):(Ck E n).le (Ck E m):=by
 induction h with
 | refl=>exact Cg.le.refl _
 | step _ ih=>exact ih.trans (M1 E _)
section
variable(E:Cf)
def WC(rnd:Option Nat)(c:Ab)(Q:Aq→Prop)(var:List AV)(marks:List Nat)(s:AD):Prop:=∃n r,(Ck E n).code rnd c var marks s=some r∧Q r
def WI(l:List AB)(K:List AV→AD→Prop)(loc var:List AV)(s:AD):Prop:=∃n p,Db (Ck E n) l loc var s=some p∧K p.1 p.2
def WF(f:FuncId)(aS:List AV)(K:AV→AD→Prop)(s:AD):Prop:=∃n p,(Ck E n).call f aS s=some p∧K p.1 p.2
def WR(l:Nat)(aS:List AV)(K:AV→AD→Prop)(s:AD):Prop:=∃n p,(Ck E n).round l aS s=some p∧K p.1 p.2
end
section
variable{E:Cf}{rnd:Option Nat}{Q Q':Aq→Prop}{var loc:List AV}{marks:List Nat}{s:AD}{K K':AV→AD→Prop}{KI:List AV→AD→Prop}
theorem WC.mono{c:Ab}(h:WC E rnd c Q var marks s)(hq:∀r,Q r→Q' r):WC E rnd c Q' var marks s:=let ⟨n,r,h1,h2⟩:=h;⟨n,r,h1,hq r h2⟩
theorem WF.mono{f:FuncId}{aS:List AV}(h:WF E f aS K s)(hq:∀v s',K v s'→K' v s'):WF E f aS K' s:=let ⟨n,r,h1,h2⟩:=h;⟨n,r,h1,hq _ _ h2⟩
theorem WC.skip(h:Q ⟨.normal,var,marks,s⟩):WC E rnd .skip Q var marks s:=⟨1,_,rfl,h⟩
theorem WC.ret(h:Q ⟨.ret,var,marks,s⟩):WC E rnd .ret Q var marks s:=⟨1,_,rfl,h⟩
theorem WC.exit{id:Nat}(h:Q ⟨.exit id,var,marks,s⟩):WC E rnd (.exit id) Q var marks s:=⟨1,_,rfl,h⟩
def Sj(E:Cf)(rnd:Option Nat)(b:Ab)(Q:Aq→Prop)(r:Aq):Prop:=match r.exit with
 | .normal=>WC E rnd b Q r.var r.marks r.st
 | _=>Q r
theorem OQ{a b:Ab}{n:Nat}{r:Aq}(h1:(Ck E n).code rnd a var marks s=some r)(h2:Sj E rnd b Q r):∃m res,HC (Ck E m) rnd b ((Ck E m).code rnd a var marks s)=some res∧Q res:=by
 unfold Sj at h2
 cases he:r.exit with
 | normal =>
  rw[he]at h2
  obtain⟨m,res,h3,h4⟩:=h2
  refine⟨max n m,res,?_,h4⟩
  rw[(FN E (Nat.le_max_left n m)).code h1]
  simp only[HC,GU,he]
  exact(FN E (Nat.le_max_right n m)).code h3
 | exit id=>rw[he]at h2;exact⟨n,r,by rw[h1];simp only[HC,GU,he],h2⟩
 | ret=>rw[he]at h2;exact⟨n,r,by rw[h1];simp only[HC,GU,he],h2⟩
theorem WC.seq{a b:Ab}(h:WC E rnd a (Sj E rnd b Q) var marks s):WC E rnd (.seq a b) Q var marks s:=by
 obtain⟨n,r,h1,h2⟩:=h
 obtain⟨m,res,h3,h4⟩:=OQ h1 h2
 exact⟨m+1,res,h3,h4⟩
theorem WC.loop{c:Ab}(h:WC E rnd c (Sj E rnd (.loop c) Q) var marks s):WC E rnd (.loop c) Q var marks s:=by
 obtain⟨n,r,h1,h2⟩:=h
 obtain⟨m,res,h3,h4⟩:=OQ h1 h2
 exact⟨m+1,res,h3,h4⟩
theorem WC.cond{x:CX}{a b:Ab}{t:Bool}(hx:CM [] var x=.bool t)(h:WC E rnd (bif t then a else b) Q var marks s):WC E rnd (.cond x a b) Q var marks s:=by
 obtain⟨n,r,h1,h2⟩:=h
 refine⟨n+1,r,?_,h2⟩
 show CF (Ck E n) rnd (.cond x a b) var marks s=some r
 simp only[CF,NX,hx]
 cases t<;>exact h1
def Ev(id:Nat)(Q:Aq→Prop)(r:Aq):Prop:=match r.exit with
 | .exit id'=>bif Nat.beq id' id then Q ⟨.normal,r.var,r.marks,r.st⟩else Q r
 | _=>Q r
theorem WC.block{id:Nat}{c:Ab}(h:WC E rnd c (Ev id Q) var marks s):WC E rnd (.block id c) Q var marks s:=by
 obtain⟨n,r,h1,h2⟩:=h
 unfold Ev at h2
 have:∃res,I3 id r=some res∧Q res:=by
  unfold I3
  split at h2
  ·rename_i id' he
   try simp only[he]
   cases hb:Nat.beq id' id with
   | true=>rw[hb]at h2;exact⟨_,rfl,h2⟩
   | false=>rw[hb]at h2;exact⟨_,rfl,h2⟩
  ·rename_i hne
   cases he:r.exit with
   | normal=>exact⟨r,rfl,h2⟩
   | ret=>exact⟨r,rfl,h2⟩
   | exit id'=>exact absurd he (hne id')
 obtain⟨res,h3,h4⟩:=this
 refine⟨n+1,res,?_,h4⟩
 show CF (Ck E n) rnd (.block id c) var marks s=some res
 simp only[CF,Jd,h1,h3]
theorem WC.ops{l:List AB}(h:WI E l (fun v s'=>Q ⟨.normal,v,marks,s'⟩) [] var s):WC E rnd (.ops l) Q var marks s:=by
 obtain⟨n,p,h1,h2⟩:=h
 refine⟨n+1,⟨.normal,p.1,marks,p.2⟩,?_,h2⟩
 show CF (Ck E n) rnd (.ops l) var marks s=_
 simp only[CF,ZN,h1]
theorem WI.nil(h:KI var s):WI E [] KI loc var s:=⟨0,_,rfl,h⟩
def dM(E:Cf)(ag:List FV)(d:Ir)(l:List AB)(KI:List AV→AD→Prop)(loc var:List AV)(v:AV)(s:AD):Prop:=match d with
 | .push=>DX s (v::loc) var ag=true∧WI E l KI (v::loc) var s
 | .set j=>DX s loc (Et v var j) ag=true∧WI E l KI loc (Et v var j) s
theorem R6{ag:List FV}{d:Ir}{l:List AB}{v:AV}(h:dM E ag d l KI loc var v s):∃n p,(∀m,n≤m→CO ag d (Db (Ck E m) l) loc var v s=some p)∧KI p.1 p.2:=by
 cases d with
 | push =>
  obtain⟨h1,n,p,h2,h3⟩:=h
  exact⟨n,p,fun m hm=>by simp only[CO,h1,cond_true];exact Fm (FN E hm) _ _ _ _ _ h2,h3⟩
 | set j =>
  obtain⟨h1,n,p,h2,h3⟩:=h
  exact⟨n,p,fun m hm=>by simp only[CO,h1,cond_true];exact Fm (FN E hm) _ _ _ _ _ h2,h3⟩
theorem WI.item{it:AB}{l:List AB}{n:Nat}{p:AV×AD}(hj:Tf loc var it.guard=false)(hw:BK loc var it.guard=true)(hs:dA (Ck E n) it.sh it.xs loc var s=some p)(h:dM E it.again it.dst l KI loc var p.1 p.2):WI E (it::l) KI loc var s:=by
 obtain⟨m,q,h1,h2⟩:=R6 h
 refine⟨max n m,q,?_,h2⟩
 rw[Fl]
 unfold Ia
 rw[hj,hw]
 simp only[I9,OR (FN E (Nat.le_max_left n m)) hs]
 exact h1 _ (Nat.le_max_right n m)
theorem WI.off{it:AB}{l:List AB}(hj:Tf loc var it.guard=false)(hw:BK loc var it.guard=false)(h:dM E [] it.dst l KI loc var BV s):WI E (it::l) KI loc var s:=by
 obtain⟨m,q,h1,h2⟩:=R6 h
 refine⟨m,q,?_,h2⟩
 rw[Fl]
 unfold Ia
 rw[hj,hw]
 exact h1 _ (fR m)
def Ends(P:Program)(rs:List (CX×Option TypeId))(K:AV→AD→Prop)(r:Aq):Prop:=Nl r.exit=true∧∃s',C8 r.st r.marks=some s'∧∃l,BS P s' r.var rs=some l∧K (BN l) s'
theorem WF.body{f:FuncId}{aS:List AV}{cf:Az}(hn:E.nat f aS s=none)(hf:AS E.P f=some cf)(ha:aS.length=cf.na)(h:WC E none cf.body (Ends E.P cf.results K) (Ql aS cf.nv) [] s):WF E f aS K s:=by
 obtain⟨n,r,h1,h2,s',h3,l,h4,h5⟩:=h
 refine⟨n+1,(BN l,s'),?_,h5⟩
 show Gf E (Ck E n) f aS s=_
 simp[Gf,hn,Fc,hf,ha,I4,h1,h2,h3,h4]
theorem WF.nat{f:FuncId}{aS:List AV}{p:AV×AD}(hn:E.nat f aS s=some p)(h:K p.1 p.2):WF E f aS K s:=⟨1,p,by show Gf E (Ck E 0) f aS s=_;simp[Gf,hn],h⟩
end
def P0{α:Type}(x:Option α)(K:α→Prop):Prop:=match x with
 | some v=>K v
 | none=>False
theorem Qm{α:Type}(v:α)(K:α→Prop):P0 (some v) K=K v:=Eq.trans rfl rfl
section
variable(E:Cf)
def Qe(f:AV)(aS:List AV)(K:AV→AD→Prop)(s:AD):Prop:=match f with
 | .func f first cap=>WF E f (first++(aS++cap)) K s
 | .yield l=>WR E l aS K s
 | _=>False
def Qc(sh:Sh)(xs:List AV)(K:AV→AD→Prop)(s:AD):Prop:=match sh with
 | .p1 f=>match xs with
  | a::_=>P0 (f a) (fun v=>K v s)
  | []=>False
 | .p2 f=>match xs with
  | a::b::_=>P0 (f a b) (fun v=>K v s)
  | _=>False
 | .p f=>P0 (f xs) (fun v=>K v s)
 | .r1 f=>match xs with
  | a::_=>P0 (f s a) (fun v=>K v s)
  | []=>False
 | .r f=>P0 (f s xs) (fun v=>K v s)
 | .mk f=>P0 (f xs) (fun p=>K (p.2.val s.next) (newObj s p.1))
 | .e f=>P0 (f s xs) (fun p=>K p.1 p.2)
 | .call f=>WF E f xs K s
 | .callv=>match xs with
  | f::aS=>Qe E f aS K s
  | []=>False
def Qh (loc var:List AV):List CX→List AV
 | []=>[]
 | x::l=>CM loc var x::Qh loc var l
def Qn(s:AD)(loc var:List AV):List FV→Prop
 | []=>True
 | r::l=>Ez s loc var r=true∧Qn s loc var l
def Qd(ag:List FV)(d:Ir)(loc var:List AV)(k:List AV→List AV→AD→Prop)(v:AV)(s:AD):Prop:=match d with
 | .push=>Qn s (v::loc) var ag∧k (v::loc) var s
 | .set j=>Qn s loc (Et v var j) ag∧k loc (Et v var j) s
def NZ(v:AV)(x y:List AV→List Nat→AD→Prop)(var:List AV)(marks:List Nat)(s:AD):Prop:=match v with
 | .bool true=>x var marks s
 | .bool false=>y var marks s
 | _=>False
def Kb(k:List AV→List Nat→AD→Prop)(Q:Aq→Prop)(r:Aq):Prop:=match r.exit with
 | .normal=>k r.var r.marks r.st
 | _=>Q r
def fJ(j b:Bool)(sh:Sh)(xs:List AV)(ag:List FV)(d:Ir)(loc var:List AV)(k:List AV→List AV→AD→Prop)(s:AD):Prop:=match j,b with
 | true,_=>False
 | false,true=>Qc E sh xs (Qd ag d loc var k) s
 | false,false=>Qd [] d loc var k BV s
def Qb:List AB→(List AV→AD→Prop)→List AV→List AV→AD→Prop
 | [],K,_,var,s=>K var s
 | it::l,K,loc,var,s=>fJ E (Tf loc var it.guard) (BK loc var it.guard) it.sh (Qh loc var it.xs) it.again it.dst loc var (Qb l K) s
def Qa(rnd:Option Nat):Ab→(Aq→Prop)→List AV→List Nat→AD→Prop
 | .skip,Q,var,marks,s=>Q ⟨.normal,var,marks,s⟩
 | .ret,Q,var,marks,s=>Q ⟨.ret,var,marks,s⟩
 | .exit id,Q,var,marks,s=>Q ⟨.exit id,var,marks,s⟩
 | .never,_,_,_,_=>False
 | .ops l,Q,var,marks,s=>Qb E l (fun v s'=>Q ⟨.normal,v,marks,s'⟩) [] var s
 | .seq a b,Q,var,marks,s=>Qa rnd a (Kb (Qa rnd b Q) Q) var marks s
 | .cond x a b,Q,var,marks,s=>NZ (CM [] var x) (Qa rnd a Q) (Qa rnd b Q) var marks s
 | .block id c,Q,var,marks,s=>Qa rnd c (Ev id Q) var marks s
 | .loop c,Q,var,marks,s=>WC E rnd (.loop c) Q var marks s
 | .rangeFunc fn f ps a b,Q,var,marks,s=>WC E rnd (.rangeFunc fn f ps a b) Q var marks s
 | .rangeMap r b,Q,var,marks,s=>WC E rnd (.rangeMap r b) Q var marks s
end
section
variable{E:Cf}{rnd:Option Nat}{Q Q':Aq→Prop}{var loc:List AV}{marks:List Nat}{s:AD}{K K':AV→AD→Prop}{KI:List AV→AD→Prop}
theorem Sc:∀ (l:List CX),Qh loc var l=Cs loc var l
 | []=>rfl
 | x::l=>by show CM loc var x::Qh loc var l=CM loc var x::Cs loc var l;rw[Sc l]
theorem JP:∀ {l:List FV},Qn s loc var l→DX s loc var l=true
 | [],_=>rfl
 | r::l,h=>by show(Ez s loc var r && DX s loc var l)=true;rw[h.1,JP h.2];rfl
theorem FJ{α:Type}{x:Option α}{K:α→Prop}(h:P0 x K):∃v,x=some v∧K v:=by
 cases x with
 | none=>exact h.elim
 | some v=>exact⟨v,rfl,h⟩
theorem bH{f:AV}{aS:List AV}(h:Qe E f aS K s):∃n p,Fe (Ck E n) f aS s=some p∧K p.1 p.2:=by
 cases f with
 | func f first cap=>obtain⟨n,p,h1,h2⟩:=h;exact⟨n,p,h1,h2⟩
 | yield l=>obtain⟨n,p,h1,h2⟩:=h;exact⟨n,p,h1,h2⟩
 | _=>exact h.elim
theorem bG      {sh : Sh} {xs : List CX} (h : Qc E sh (Qh loc var xs) K s) : ∃ n p, dA  (Ck   E n) sh xs loc var s = some p ∧ K p.1 p.2 := by
  rw[Sc]at h
  cases sh with
  | p1 f =>
    cases xs with
    | nil=>exact h.elim
    | cons x l =>
      obtain⟨v,h1,h2⟩:=FJ h
      exact⟨0,(v,s),by show DA s (f (CM loc var x))=_;rw[h1];rfl,h2⟩
  | p2 f =>
    cases xs with
    | nil=>exact h.elim
    | cons x l =>
      cases l with
      | nil=>exact h.elim
      | cons y l =>
        obtain⟨v,h1,h2⟩:=FJ h
        exact⟨0,(v,s),by show DA s (f (CM loc var x) (CM loc var y))=_;rw[h1];rfl,h2⟩
  | p f =>
    obtain⟨v,h1,h2⟩:=FJ h
    exact⟨0,(v,s),by show DA s (f (Cs loc var xs))=_;rw[h1];rfl,h2⟩
  | r1 f =>
    cases xs with
    | nil=>exact h.elim
    | cons x l =>
      obtain⟨v,h1,h2⟩:=FJ h
      exact⟨0,(v,s),by show DA s (f s (CM loc var x))=_;rw[h1];rfl,h2⟩
  | r f =>
    obtain⟨v,h1,h2⟩:=FJ h
    exact⟨0,(v,s),by show DA s (f s (Cs loc var xs))=_;rw[h1];rfl,h2⟩
  | mk f =>
    obtain⟨v,h1,h2⟩:=FJ h
    exact⟨0,(v.2.val s.next,newObj s v.1),by show Nv s (f (Cs loc var xs))=_;rw[h1];rfl,h2⟩
  | e f =>
    obtain⟨v,h1,h2⟩:=FJ h
    exact⟨0,v,h1,h2⟩
  | call f=>obtain⟨n,p,h1,h2⟩:=h;exact⟨n,p,h1,h2⟩
  | callv =>
    cases xs with
    | nil=>exact h.elim
    | cons x l=>exact bH h
theorem bF:∀ {l:List AB}{loc var:List AV}{s:AD},Qb E l KI loc var s→WI E l KI loc var s:=by
 intro l
 induction l with
 | nil=>intro loc var s h;exact WI.nil h
 | cons it l ih =>
  intro loc var s h
  have dst:∀ {ag:List FV} {v:AV} {s:AD},Qd ag it.dst loc var (Qb E l KI) v s→dM E ag it.dst l KI loc var v s:=by
   intro ag v s h
   unfold Qd at h
   unfold dM
   cases hd:it.dst with
   | push=>rw[hd]at h;exact⟨JP h.1,ih h.2⟩
   | set j=>rw[hd]at h;exact⟨JP h.1,ih h.2⟩
  unfold Qb at h
  cases hj:Tf loc var it.guard with
  | true=>rw[hj]at h;exact h.elim
  | false =>
  rw[hj]at h
  cases hw:BK loc var it.guard with
  | true =>
   rw[hw]at h
   have h:Qc E it.sh (Qh loc var it.xs) (Qd it.again it.dst loc var (Qb E l KI)) s:=h
   obtain⟨n,p,h1,h2⟩:=bG h
   exact WI.item hj hw h1 (dst h2)
  | false =>
   rw[hw]at h
   have h:Qd [] it.dst loc var (Qb E l KI) BV s:=h
   exact WI.off hj hw (dst h)
theorem GP:∀ {c:Ab}{Q:Aq→Prop}{var:List AV}{marks:List Nat}{s:AD},Qa E rnd c Q var marks s→WC E rnd c Q var marks s:=by
 intro c
 induction c with
 | skip=>intro Q var marks s h;exact WC.skip h
 | ret=>intro Q var marks s h;exact WC.ret h
 | exit id=>intro Q var marks s h;exact WC.exit h
 | never=>intro Q var marks s h;exact h.elim
 | ops l=>intro Q var marks s h;exact WC.ops (bF h)
 | seq a b iha ihb =>
  intro Q var marks s h
  refine WC.seq ((iha h).mono ?_)
  intro r hr
  unfold Kb at hr
  unfold Sj
  cases he:r.exit with
  | normal=>rw[he]at hr;exact ihb hr
  | exit id=>rw[he]at hr;exact hr
  | ret=>rw[he]at hr;exact hr
 | cond x a b iha ihb =>
  intro Q var marks s h
  unfold Qa NZ at h
  split at h<;>first | exact h.elim | skip
  ·rename_i ht;exact WC.cond ht (iha h)
  ·rename_i ht;exact WC.cond ht (ihb h)
 | block id c ih=>intro Q var marks s h;exact WC.block (ih h)
 | loop c _=>intro Q var marks s h;exact h
 | rangeFunc fn f ps a b=>intro Q var marks s h;exact h
 | rangeMap r b _=>intro Q var marks s h;exact h
theorem WC.loop'{c:Ab}(h:Qa E rnd c (Kb (WC E rnd (.loop c) Q) Q) var marks s):WC E rnd (.loop c) Q var marks s:=by
 refine WC.loop ((GP h).mono ?_)
 intro r hr
 unfold Kb at hr
 unfold Sj
 cases he:r.exit with
 | normal=>rw[he]at hr;exact hr
 | exit id=>rw[he]at hr;exact hr
 | ret=>rw[he]at hr;exact hr
theorem WF.body'{f:FuncId}{aS:List AV}{cf:Az}(hn:E.nat f aS s=none)(hf:AS E.P f=some cf)(ha:aS.length=cf.na)(h:Qa E none cf.body (Ends E.P cf.results K) (Ql aS cf.nv) [] s):WF E f aS K s:=WF.body hn hf ha (GP h)
end
theorem Qq(a:AV)(l:List AV):Ic (a::l) 0=a:=rfl
theorem Qr(a:AV)(l:List AV)(n:Nat):Ic (a::l) (n+1)=Ic l n:=rfl
theorem Qo(v a:AV)(l:List AV):Et v (a::l) 0=v::l:=rfl
theorem Qp(v a:AV)(l:List AV)(n:Nat):Et v (a::l) (n+1)=a::Et v l n:=rfl
theorem Qk(loc var:List AV)(i:Nat):CM loc var (.loc i)=Ic loc i:=rfl
theorem Qj(loc var:List AV)(i:Nat):CM loc var (.var i)=Ic var i:=rfl
theorem Qi(loc var:List AV)(v:AV):CM loc var (.const v)=v:=rfl
theorem Qf(loc var:List AV):BK loc var none=true:=rfl
theorem Qg(loc var:List AV)(x:CX)(b:Bool):BK loc var (some (x,b))=dJ b (CM loc var x):=rfl
theorem Qs(E:Cf)(sh:Sh)(xs:List AV)(ag:List FV)(d:Ir)(loc var:List AV)(k:List AV→List AV→AD→Prop)(s:AD):fJ E false true sh xs ag d loc var k s=Qc E sh xs (Qd ag d loc var k) s:=rfl
theorem Qt(E:Cf)(sh:Sh)(xs:List AV)(ag:List FV)(d:Ir)(loc var:List AV)(k:List AV→List AV→AD→Prop)(s:AD):fJ E false false sh xs ag d loc var k s=Qd [] d loc var k BV s:=rfl
theorem Qy(x y:List AV→List Nat→AD→Prop)(var:List AV)(m:List Nat)(s:AD):NZ (.bool true) x y var m s=x var m s:=rfl
theorem Qz(x y:List AV→List Nat→AD→Prop)(var:List AV)(m:List Nat)(s:AD):NZ (.bool false) x y var m s=y var m s:=rfl
theorem Ra(k:List AV→List Nat→AD→Prop)(Q:Aq→Prop)(v:List AV)(m:List Nat)(s:AD):Kb k Q ⟨.normal,v,m,s⟩=k v m s:=rfl
theorem Rb(k:List AV→List Nat→AD→Prop)(Q:Aq→Prop)(v:List AV)(m:List Nat)(s:AD):Kb k Q ⟨.ret,v,m,s⟩=Q ⟨.ret,v,m,s⟩:=rfl
theorem Rc(k:List AV→List Nat→AD→Prop)(Q:Aq→Prop)(id:Nat)(v:List AV)(m:List Nat)(s:AD):Kb k Q ⟨.exit id,v,m,s⟩=Q ⟨.exit id,v,m,s⟩:=rfl
theorem Rd(id:Nat)(Q:Aq→Prop)(v:List AV)(m:List Nat)(s:AD):Ev id Q ⟨.normal,v,m,s⟩=Q ⟨.normal,v,m,s⟩:=rfl
theorem Re(id:Nat)(Q:Aq→Prop)(v:List AV)(m:List Nat)(s:AD):Ev id Q ⟨.ret,v,m,s⟩=Q ⟨.ret,v,m,s⟩:=rfl
theorem Rf(id id':Nat)(Q:Aq→Prop)(v:List AV)(m:List Nat)(s:AD):Ev id Q ⟨.exit id',v,m,s⟩=if id'=id then Q ⟨.normal,v,m,s⟩else Q ⟨.exit id',v,m,s⟩:=by
 unfold Ev
 by_cases h:id'=id
 ·subst h;simp
 ·have:Nat.beq id' id=false:=by
   cases hb:Nat.beq id' id with
   | true=>exact absurd (fW hb) h
   | false=>rfl
  simp[h,this]
theorem Rg(P:Program)(rs:List (CX×Option TypeId))(K:AV→AD→Prop)(v:List AV)(m:List Nat)(s:AD):Ends P rs K ⟨.ret,v,m,s⟩=P0 (C8 s m) (fun s'=>P0 (BS P s' v rs) (fun l=>K (BN l) s')):=by
 unfold Ends
 apply propext
 constructor
 ·rintro⟨_,s',h1,l,h2,h3⟩
  have h1:C8 s m=some s':=h1
  have h2:BS P s' v rs=some l:=h2
  rw[h1,Qm,h2,Qm];exact h3
 ·intro h
  obtain⟨s',h1,h⟩:=FJ h
  obtain⟨l,h2,h3⟩:=FJ h
  exact⟨rfl,s',h1,l,h2,h3⟩
theorem Rh(P:Program)(rs:List (CX×Option TypeId))(K:AV→AD→Prop)(v:List AV)(m:List Nat)(s:AD):Ends P rs K ⟨.normal,v,m,s⟩=P0 (C8 s m) (fun s'=>P0 (BS P s' v rs) (fun l=>K (BN l) s')):=by
 rw[← Rg];rfl
theorem Ri(s:AD):C8 s []=some s:=rfl
theorem Rj(P:Program)(s:AD)(v:List AV):BS P s v []=some []:=rfl
theorem Rk(P:Program)(s:AD)(v:List AV)(x:CX)(l:List (CX×Option TypeId)):BS P s v ((x,none)::l)=(BS P s v l).bind fun r=>some (CM [] v x::r):=rfl
theorem Rm(v:AV):BN [v]=v:=rfl
theorem Rn:BN []=.tuple []:=rfl
theorem Ro(v w:AV)(l:List AV):BN (v::w::l)=.tuple (v::w::l):=rfl
theorem Qu(loc var:List AV):Tf loc var none=false:=rfl
theorem Qv(loc var:List AV)(x:CX)(b:Bool):Tf loc var (some (x,b))=cX (CM loc var x):=rfl
theorem Qw(b:Bool):cX (.bool b)=false:=rfl
theorem Qx:cX BV=false:=rfl
theorem Rp(w:Bool):dJ w BV=false:=rfl
theorem Rq(b:Bool):dJ true (.bool b)=b:=by cases b<;>rfl
theorem Rs(b:Bool):dJ false (.bool b)=!b:=by cases b<;>rfl
theorem Ya:(!true)=false:=rfl
theorem Yb:(!false)=true:=rfl
theorem Yc{α β:Type _}(a:α)(f:α→Option β):(some a).bind f=f a:=rfl
theorem Yd{α:Type _}(a:α)(l:List α):(a::l)[0]? = some a:=rfl
theorem Ye{α:Type _}(a:α)(l:List α)(i:Nat):(a::l)[i+1]? = l[i]? := rfl
abbrev iv(n:Int):AV:=.int .i64 n
def i64(n:Int):Prop:=-9223372036854775808≤n∧n<9223372036854775808
theorem Kn{k:IntKind}{n:Int}(h:BZ k n=true):CL k n=n:=by unfold CL;rw[h];rfl
theorem Nj{n:Int}(h:i64 n):BZ .i64 n=true:=by
 obtain⟨h1,h2⟩:=h
 cases n with
 | ofNat m=>simp only[BZ,fT];simp at h2;omega
 | negSucc m=>simp only[BZ,fT];omega
theorem Oe{n:Int}(h:i64 n):CL .i64 n=n:=Kn (Nj h)
section
variable(P:Program)(t:TypeId)(a b:Int)
theorem Rx:AM P .lss t (iv a) (iv b)=some (.bool (decide (a<b))):=by
 show some (AV.bool (Ku a b))=_
 rw[CU]
theorem Ry:AM P .gtr t (iv a) (iv b)=some (.bool (decide (b<a))):=by
 show some (AV.bool (Ku b a))=_
 rw[CU]
theorem Rz:AM P .leq t (iv a) (iv b)=some (.bool (decide (a≤b))):=by
 show some (AV.bool (!Ku b a))=_
 rw[CU,← decide_not]
 congr 3
 exact propext Int.not_lt
theorem Wa:AM P .geq t (iv a) (iv b)=some (.bool (decide (b≤a))):=by
 show some (AV.bool (!Ku a b))=_
 rw[CU,← decide_not]
 congr 3
 exact propext Int.not_lt
theorem Wb:AM P .eql t (iv a) (iv b)=some (.bool (decide (a=b))):=by
 show some (AV.bool (MT a b))=_
 rw[EN];rfl
theorem Wc:AM P .neq t (iv a) (iv b)=some (.bool (decide (a≠b))):=by
 show some (AV.bool (!MT a b))=_
 rw[EN,decide_not];rfl
theorem By(h:i64 (a+b)):AM P .add t (iv a) (iv b)=some (iv (a+b)):=by
 show some (AV.int .i64 (CL .i64 (a+b)))=_
 rw[Oe h]
theorem Br(h:i64 (a - b)):AM P .sub t (iv a) (iv b)=some (iv (a - b)):=by
 show some (AV.int .i64 (CL .i64 (a - b)))=_
 rw[Oe h]
theorem Wd(c:Bool):dF P .not (.bool c)=some (.bool (!c)):=rfl
end
def A9(b:Nat)(s s':AD):Prop:=s.next≤s'.next∧∀i,i<b→s'.heap.get i=s.heap.get i
theorem A9.refl(b:Nat)(s:AD):A9 b s s:=⟨fR _,fun _ _=>rfl⟩
theorem A9.trans{b:Nat}{s s1 s2:AD}(h:A9 b s s1)(k:A9 b s1 s2):A9 b s s2:=⟨fU h.1 k.1,fun i hi=>(k.2 i hi).trans (h.2 i hi)⟩
theorem A9.mono{b b':Nat}{s s1:AD}(h:A9 b s s1)(k:b'≤b):A9 b' s s1:=⟨h.1,fun i hi=>h.2 i (fV hi k)⟩
theorem AN(s:AD)(o:Af)(j:Nat):(newObj s o).heap.get j=if j=s.next then some o else s.heap.get j:=AH.get_set _ _ _ _
theorem Jw(s:AD)(i:Nat)(o:Af)(j:Nat):(setObj s i o).heap.get j=if j=i then some o else s.heap.get j:=AH.get_set _ _ _ _
theorem HK(s:AD)(i j:Nat):(Bu s i).heap.get j=if j=i then none else s.heap.get j:=AH.get_del _ _ _
theorem A9.new(s:AD)(o:Af):A9 s.next s (newObj s o):=⟨gD _,fun i hi=>by rw[AN,if_neg (by omega)]⟩
theorem DT{s s':AD}{i o:Nat}(h:s'.heap.get i=s.heap.get i):Cb s' i o=Cb s i o:=by unfold Cb rowAt;rw[h]
theorem GC{s:AD}{i o:Nat}{r:B7}{u:AV}(h:s.heap.get i=some (.row r))(ho:o<r.n)(hc:r.c.get o=some u):Cb s i o=some u:=by
 have hb:Nat.blt o r.n=true:=by simpa[fb]using ho
 simp[Cb,rowAt,h,AG,hb,hc]
def Ah(b:Nat)(s:AD)(a:Option (Nat×Nat))(cs:List AV):Prop:=∀k u,cs[k]? = some u→∃i o,a=some (i,o)∧i<b∧Cb s i (o+k)=some u
theorem Ah.old{b b':Nat}{s s':AD}{a:Option (Nat×Nat)}{cs:List AV}(h:Ah b s a cs)(k:A9 b' s s')(hb:b≤b'):Ah b s' a cs:=fun j u hj=>by
 obtain⟨i,o,h1,h2,h3⟩:=h j u hj
 exact⟨i,o,h1,h2,by rw[DT (k.2 i (fV h2 hb))];exact h3⟩
theorem Ah.mono{b b':Nat}{s:AD}{a:Option (Nat×Nat)}{cs:List AV}(h:Ah b s a cs)(hb:b≤b'):Ah b' s a cs:=fun j u hj=>by
 obtain⟨i,o,h1,h2,h3⟩:=h j u hj
 exact⟨i,o,h1,fV h2 hb,h3⟩
theorem Ah.nil{b:Nat}{s:AD}{a:Option (Nat×Nat)}:Ah b s a []:=fun k u h=>by simp at h
theorem Eh(k:Nat):SJ (k:Int)=some k:=rfl
theorem Ax{P:Program}{t e:TypeId}{n:Nat}(ht:P.underlying t=some (.slice e))(hs:A3 P e=some n){i o len k:Nat}{cap:Option Nat}(hk:k<len):
  AP P t (.slice (some (i,o)) len cap) (iv (k:Int))=some (.ptr (some (i,o+k * n))):=by
 have hb:Nat.blt k len=true:=by simpa[fb]using hk
 simp[AP,GW,Eh,ht,hs,AG,hb]
theorem B9{P:Program}{t:TypeId}(h:ED P t=some false){s:AD}{i o:Nat}{u:AV}(hl:Cb s i o=some u):AE P s t (.ptr (some (i,o)))=some u:=by
 simp[AE,h,hl]
theorem AY{P:Program}{t e:TypeId}(ht:P.underlying t=some (.slice e)){s:AD}{a:Option (Nat×Nat)}{n:Nat}{cap:Option Nat}:Bk P s t (.slice a n cap)=some (iv (n:Int)):=by
 simp[Bk,ht]
theorem Cw{a b:Nat}(h:a≤b):Nat.ble a b=true:=by simpa[fT]using h
theorem cE{a b:Nat}(h:a<b):Nat.blt a b=true:=by simpa[fb]using h
theorem Gi{a b:Nat}(h:a=b):Nat.beq a b=true:=by subst h;simp
theorem Dm{a b:Nat}(h:a≠b):Nat.beq a b=false:=by
 cases hb:Nat.beq a b with
 | true=>exact absurd (fW hb) h
 | false=>rfl
theorem L5{a b:Nat}(h:b<a):Nat.ble a b=false:=by
 cases hb:Nat.ble a b with
 | true=>rw[fT]at hb;omega
 | false=>rfl
theorem ay{t:AH AV}:∀ (cs:List AV)(k:Nat),(∀j u,cs[j]? = some u→t.get (k+j)=some u)→t.take k cs.length=some cs:=by
 intro cs
 induction cs with
 | nil=>intro k _;rfl
 | cons c cs ih =>
  intro k h
  have h0:=h 0 c rfl
  simp only[gH,AH.take]
  rw[show k+0=k from rfl]at h0
  rw[h0]
  simp only
  rw[ih (k+1) (fun j u hj=>by rw[show k+1+j=k+(j+1)from by omega];exact h (j+1) u (by simpa using hj))]
def JI(r:B7)(cs:List AV):Prop:=r.n=cs.length∧∀k u,cs[k]? = some u→r.c.get k=some u
theorem JI.take{r:B7}{cs:List AV}(h:JI r cs)(o:Nat)(l:List AV)(hl:∀j u,l[j]? = some u→cs[o+j]? = some u):r.c.take o l.length=some l:=
 ay l o fun j u hj=>h.2 _ u (hl j u hj)
theorem Fo{s:AD}{i:Nat}{r:B7}{cs:List AV}(hg:s.heap.get i=some (.row r))(h:JI r cs)(o:Nat)(l:List AV)(hle:o+l.length≤cs.length)(hl:∀j u,l[j]? = some u→cs[o+j]? = some u):
  Be s i o l.length=some l:=by
 simp[Be,rowAt,hg,AG,h.1,Cw hle,h.take o l hl]
theorem Ni(e:TypeId)(sz:Nat)(cs:List AV):∃r,Fq e sz cs=.row r∧JI r cs∧r.sz=sz∧r.spare=false∧r.mode=.own∧r.par=none:=by
 refine⟨_,rfl,⟨rfl,?_⟩,rfl,rfl,rfl,rfl⟩
 intro k u hk
 have hlt:k<cs.length:=by
  rcases fS k cs.length with h | h
  ·exact h
  ·rw[ff h]at hk;cases hk
 show(AH.fill .leaf 0 cs).get k=some u
 rw[AH.get_fill,if_pos ⟨fa _,by omega⟩]
 simpa using hk
structure FX(e:TypeId)(lo hi:Nat)(s:AD)(v:AV)(n sz:Nat)(cs:List AV)(i:Nat)(p:Option Nat):Prop where
 len:cs.length=n * sz
 ex:(v=.slice none 0 (some 0)∧n=0)∨(v=.slice (some (i,0)) n none∧lo≤i∧i<hi∧(∀q,p=some q→lo≤q∧q<hi∧q≠i) ∧
  ∃r,s.heap.get i=some (.row r)∧JI r cs∧r.spare=true∧r.mode=.own∧r.sz=sz∧r.par=p∧r.elem=e)
theorem FX.zero(e:TypeId)(lo hi:Nat)(s:AD)(sz:Nat)(i:Nat)(p:Option Nat):FX e lo hi s (.slice none 0 (some 0)) 0 sz [] i p:=⟨by simp,.inl ⟨rfl,rfl⟩⟩
theorem FX.frame{e:TypeId}{lo hi:Nat}{s s':AD}{v:AV}{n sz:Nat}{cs:List AV}{i:Nat}{p:Option Nat}(h:FX e lo hi s v n sz cs i p)(k:lo≤i→i<hi→s'.heap.get i=s.heap.get i):FX e lo hi s' v n sz cs i p:=by
 refine⟨h.len,?_⟩
 rcases h.ex with h1 | ⟨h1,h2,h3,h4,r,h5,h6⟩
 ·exact .inl h1
 ·exact .inr ⟨h1,h2,h3,h4,r,by rw[k h2 h3];exact h5,h6⟩
theorem FX.mono{e:TypeId}{lo hi hi':Nat}{s:AD}{v:AV}{n sz:Nat}{cs:List AV}{i:Nat}{p:Option Nat}(h:FX e lo hi s v n sz cs i p)(k:hi≤hi'):FX e lo hi' s v n sz cs i p:=by
 refine⟨h.len,?_⟩
 rcases h.ex with h1 | ⟨h1,h2,h3,h4,rest⟩
 ·exact .inl h1
 ·exact .inr ⟨h1,h2,by omega,fun q hq=>⟨(h4 q hq).1,by have:=(h4 q hq).2.1;omega,(h4 q hq).2.2⟩,rest⟩
theorem FX.cells{e:TypeId}{lo hi:Nat}{s:AD}{v:AV}{n sz:Nat}{cs:List AV}{i:Nat}{p:Option Nat}(h:FX e lo hi s v n sz cs i p):∃a cap,v=.slice a n cap∧Ah hi s a cs:=by
 rcases h.ex with⟨rfl,rfl⟩ | ⟨rfl,h2,h3,h4,r,h5,h6,_⟩
 ·refine⟨none,some 0,rfl,?_⟩
  have:cs=[]:=by have:=h.len;simp at this;exact this
  subst this
  exact Ah.nil
 ·refine⟨_,_,rfl,fun k u hk=>⟨i,0,rfl,h3,?_⟩⟩
  have hlt:k<cs.length:=by
   rcases fS k cs.length with h' | h'
   ·exact h'
   ·rw[ff h']at hk;cases hk
  rw[fY]
  exact GC h5 (by rw[h6.1];exact hlt) (h6.2 k u hk)
def dL(s s':AD)(i:Nat)(p:Option Nat):Prop:=s.next≤s'.next∧∀j,j<s.next→j≠i→p≠some j→s'.heap.get j=s.heap.get j
theorem FX.appTo   {P : Program} {e : TypeId} {lo hi : Nat} {s : AD}  {v : AV} {n sz : Nat} {cs : List AV} {i : Nat} {p : Option Nat} (h : FX   e lo hi s v n sz cs i p) (hhi : hi ≤ s.next) (hlo : lo ≤ s.next) (hz : Cm     P e sz = true) (hsz : 0 < sz) {m : Nat} {add : List AV} (ha : add.length = m * sz) (hm : 0 < m) :
    ∃a cap v' s',v=.slice a n cap∧appTo P s e sz a n cap (m,add)=some (v',s')∧∃i' p',FX e lo s'.next s' v' (n+m) sz (cs++add) i' p'∧dL s s' i p∧lo≤s'.next∧(i'=s.next)∧(p'=none∨p'=some i)∧s'.next=s.next+1 ∧
      (∀cell,cell<cs.length→Cb s' i cell=Cb s i cell∨n=0):=by
  have hlen:(cs++add).length=(n+m) * sz:=by rw[fg,h.len,ha,fu]
  rcases h.ex with⟨rfl,rfl⟩ | ⟨rfl,h2,h3,h4,r,h5,h6,h7,h8,h9,h10,h11⟩
  · have hcs:cs=[]:=by have:=h.len;simp at this;exact this
    subst hcs
    refine⟨none,some 0,.slice (some (s.next,0)) m none,newObj s (CZ e sz (AH.fill .leaf 0 add) add.length none true),rfl,?_,s.next,none,⟨by simpa using hlen,.inr ⟨by simp,hlo,gC _,(fun q hq=>by cases hq),_,(by rw[AN,if_pos rfl];rfl),⟨rfl,?_⟩,rfl,rfl,rfl,rfl,rfl⟩⟩,
      ⟨gD _,fun j hj _ _=>by rw[AN,if_neg (by omega)]⟩,Nat.le_succ_of_le hlo,rfl,.inl rfl,rfl,fun _ _=>.inr rfl⟩
    · simp[Am.appTo,B8,Dm (show m≠0 by omega),AG,hz]
    · intro k u hk
      show(AH.fill .leaf 0 add).get k=some u
      have hk':add[k]? = some u:=by simpa using hk
      have hlt:k<add.length:=by
        rcases fS k add.length with h' | h'
        · exact h'
        · rw[ff h']at hk';cases hk'
      rw[AH.get_fill,if_pos ⟨fa _,by omega⟩]
      simpa using hk'
  · have hrow : rowAt s i = some r := by simp [rowAt, h5]
    have hrn:r.n=n * sz:=by rw[h6.1,h.len]
    have hload:Be s i 0 (n * sz)=some cs:=by
      have:=Fo h5 h6 0 cs (by omega) (fun j u hj=>by simpa using hj)
      rw[h.len]at this
      exact this
    have hgt:¬ (0+(n+m) * sz≤r.n):=by
      rw[hrn,fu]
      have:0<m * sz:=Nat.mul_pos hm hsz
      omega
    let s2:=setObj (BC s i r) i (.row { r with mode:=.sealed,par:=none })
    let s':=newObj s2 (CZ e sz (r.c.fill (n * sz) add) (cs++add).length (some i) (r.bytes && Nat.beq 0 0))
    have hun:∀j,j≠i→p≠some j→(BC s i r).heap.get j=s.heap.get j:=by
      intro j hj hp
      unfold BC
      rw[h10]
      cases p with
      | none=>rfl
      | some q =>
        simp only
        rw[Dm (h4 q rfl).2.2,cond_false,HK,if_neg (fun e=>hp (by rw[e]))]
    have hnext:(BC s i r).next=s.next:=by
      unfold BC
      split
      · rfl
      · cases Nat.beq _ _<;>rfl
    have hs2n:s2.next=s.next:=hnext
    refine⟨_,_,.slice (some (s.next,0)) (n+m) none,s',rfl,?_,s.next,some i,⟨hlen,.inr ⟨rfl,hlo,by show s.next<s2.next+1;omega,?_,_,by rw[AN,if_pos hs2n.symm];rfl,⟨rfl,?_⟩,rfl,rfl,rfl,rfl,rfl⟩⟩,⟨by show s.next≤s2.next+1;omega,?_⟩,by show lo≤s2.next+1;omega,rfl,.inr rfl,by show s2.next+1=_;omega,?_⟩
    · simp only[Am.appTo]
      rw[hrow,Option.bind_some]
      unfold Iy
      rw[h9,Gi rfl]
      simp only[AG,cond_true]
      rw[show Nat.ble (0+(n+m) * sz) r.n=false from L5 (by omega),cond_false,hload,Option.bind_some,h7,cond_true]
      unfold D2
      rw[h8,hz,Gi h11,show Nat.beq (0+n * sz) r.n=true from Gi (by omega)]
      simp only[CQ,Bool.and_self,AG,cond_true,Ch,Gi rfl]
      show some (AV.slice (some (s.next,0)) (n+m) none,newObj s2 _)=_
      rfl
    · intro q hq
      injection hq with hq
      subst hq
      refine⟨h2,?_,?_⟩
      · show i<s2.next+1
        omega
      · omega
    · intro k u hk
      show(r.c.fill (n * sz) add).get k=some u
      rw[AH.get_fill]
      by_cases hlt:k<cs.length
      · rw [if_neg (by rw [← h.len]; omega)]
        rw[gI hlt]at hk
        exact h6.2 k u hk
      · rw[gJ (by omega)]at hk
        have hk2:k - cs.length<add.length:=by
          rcases fS (k - cs.length) add.length with h' | h'
          · exact h'
          · rw[ff h']at hk;cases hk
        rw[if_pos ⟨by rw[← h.len];omega,by rw[← h.len];omega⟩,← h.len]
        exact hk
    · intro j hj hji hp
      show s'.heap.get j=_
      rw[AN,if_neg (by omega),Jw,if_neg hji]
      exact hun j hji hp
    · intro cell hc
      left
      have e1:s'.heap.get i=some (.row { r with mode:=.sealed,par:=none }):=by
        rw[AN,if_neg (by omega),Jw,if_pos rfl]
      simp only[Cb,rowAt,e1,h5,Option.bind_some]
theorem TT{s:AD}{i o n size:Nat}{l:List AV}(h:Be s i o (n * size)=some l):QF s i o n size=some l:=by
 unfold QF
 cases hn0:Nat.beq n 0 with
 | false=>exact h
 | true =>
  have:=fW hn0
  subst this
  rw[Nat.zero_mul]at h
  unfold Be at h
  simp only[fQ]at h
  obtain⟨r,_,h⟩:=h
  cases hb:Nat.ble (o+0) r.n with
  | true=>rw[hb]at h;exact h
  | false=>rw[hb]at h;cases h
theorem DC{P:Program}{st xt e:TypeId}{size by_:Nat}(ht:P.underlying st=some (.slice e))(hs:A3 P e=some size)(hb:Cx P e=some by_)(h0:0<size)(hx:Bs P xt=true){s:AD}{a ax:Option (Nat×Nat)}{n m:Nat}{cap cx:Option Nat}{add:List AV}
  (hsrc:B1 P s e size (.slice ax m cx)=some (m,add)) (hc:Ar add=true) (h1:(n+m) * by_≤1099511627776) (h2:n+m≤1099511627776):
  A8 P s [st,xt] [.slice a n cap,.slice ax m cx]=appTo P s e size a n cap (m,add):=by
 simp[A8,ht,hs,hb,AG,Dm (show size≠0 by omega),hx,hsrc,hc,Cw h1,Cw h2]
end
end Go.Proofs.YtdmgdlbodeemeaaGreatDoor.Am
