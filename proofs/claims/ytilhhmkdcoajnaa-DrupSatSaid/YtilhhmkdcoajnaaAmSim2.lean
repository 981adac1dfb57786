/- The abstract machine runs as the model does; conditions: told in 'SimOk'. -/
import Derived.LoopNIn
import Derived.Test.YtilhhmkdcoajnaaAmSim1
set_option linter.unusedVariables false
set_option linter.unusedSimpArgs false
namespace Go.Proofs.Ytilhhmkdcoajnaa.Am
open Go
noncomputable section
def Hv:Ja→Exit
  | .normal=>.normal
  | .exit id=>.exit id
  | .ret=>.ret
def NF(ρ:Rho):Option Nat→Option Nat→Prop
  | none,r=>r=none
  | some l,r=>∃rb,ρ l=some rb∧r=some rb.b
theorem NF.mono{ρ ρ1:Rho}{rnd r:Option Nat}(h:NF ρ rnd r)(le:ρ.le ρ1):NF ρ1 rnd r:=by
  cases rnd with
  | none=>exact h
  | some l=>obtain⟨rb,h1,h2⟩:=h;exact⟨rb,le _ _ h1,h2⟩
structure Hw(P:Program)(fn:Func)(ρ:Rho)(s:ASt)(w:World)(r:A6)(a':Act)(w':World)(ρ':Rho):Prop where
  inv:Inv P ρ' r.st w'
  fresh:Bb ρ' r.st
  fr:Fr ρ s w ρ' r.st w'
  vars:DN P ρ' fn r.var a'.tmps
  marks:Di ρ' r.marks a'.defers
structure Iq(P:Program)(fn:Func)(ρ:Rho)(s:ASt)(w:World)(var:List AV)(marks:List Nat)(rnd r:Option Nat)(a:Act):Prop where
  inv:Inv P ρ s w
  fresh:Bb ρ s
  vars:DN P ρ fn var a.tmps
  marks:Di ρ marks a.defers
  rnd:NF ρ rnd r
def NE(P:Program)(F:Fns):Prop:=∀ (f:FuncId)(fn:Func)(c:Code)(rnd r:Option Nat)(var:List AV)(marks:List Nat)(s:ASt)(res:A6)(ρ:Rho)(w:World)(a:Act)(Q:Exit→Act→World→Prop),
  P.funcs[f]? = some fn→F.code rnd (BG P f fn.ntmps (BN P fn) c) var marks s=some res→Iq P fn ρ s w var marks rnd r a →
  (∀a' w' ρ',Hw P fn ρ s w res a' w' ρ'→Q (Hv res.exit) a' w')→c.wpIn (fen r) 0 P Q a w
def TI(P:Program)(F:Fns)(n:Nat):Prop:=∀ (f:FuncId)(fn:Func)(c:Code)(rnd r:Option Nat)(var:List AV)(marks:List Nat)(s:ASt)(res:A6)(ρ:Rho)(w:World)(a:Act)(Q:Exit→Act→World→Prop),
  P.funcs[f]? = some fn→F.code rnd (.loop (BG P f fn.ntmps (BN P fn) c)) var marks s=some res→Iq P fn ρ s w var marks rnd r a →
  (∀a' w' ρ',Hw P fn ρ s w res a' w' ρ'→Q (Hv res.exit) a' w')→Code.roundsIn (fen r) 0 P c Q n a w
def HY(P:Program)(call:FuncId→List AV→ASt→Option (AV×ASt)):Prop:=∀ (ρ:Rho)(s:ASt)(w:World)(f:FuncId)(as:List AV)(v:AV)(s1:ASt)(as':Array Value),
  call f as s=some (v,s1)→Inv P ρ s w→Bb ρ s→AU ρ as as'.toList →
  (∃fn c,P.funcs[f]? = some fn∧fn.body=some c)∧CallsIn Fence.wide 0 P f as' w (Fu P ρ s w v s1)
def Ef (P : Program) : Prop := ∀ (f : FuncId) (fn : Func), P.funcs[f]? = some fn → (fn.name == "runtime.NumGoroutine") = false
structure OS(P:Program)(F:Fns)(n:Nat):Prop where
  code:NE P F
  loop:TI P F n
  call:HY P F.call
  round:∀ (ρ:Rho) (s:ASt) (w:World) (l:Nat) (rb:RB) (as:List AV) (v:AV) (s1:ASt) (as':Array Value),F.round l as s=some (v,s1)→Inv P ρ s w→Bb ρ s→ρ l=some rb→AU ρ as as'.toList →
    Dj P ρ s w v s1 ((Instr.yield rb.b as').run P w)
section
variable{P:Program}{ρ ρ1 ρ2:Rho}{s s1 s2:ASt}{w w1 w2:World}
theorem GX(hng:Ef P){f:FuncId}{fn:Func}{c:Code}(hf:P.funcs[f]? = some fn)(hb:fn.body=some c)(args:Array Value)(w:World):(callFunc f args).run P w=.ok (.enter f args) w:=by
  have h1:=hng f fn hf
  have h2 : fn.name ≠ "runtime.NumGoroutine" := by simpa using h1
  simp[callFunc,hf,h2,hb]
theorem OS.fok(hng:Ef P){F:Fns}{n:Nat}(h:OS P F n):FOk P F where
  call:=fun ρ s w f as v s1 as' hc hi hf ha=>by
    obtain⟨⟨fn,c,h1,h2⟩,h3⟩:=h.call ρ s w f as v s1 as' hc hi hf ha
    rw[GX hng h1 h2]
    exact .enter h3
  round:=h.round
theorem Hw.trans{fn:Func}{s1:ASt}{r1 r2:A6}{a1 a2:Act}(h1:Fr ρ s w ρ1 s1 w1)(h2:Hw P fn ρ1 s1 w1 r2 a2 w2 ρ2):Hw P fn ρ s w r2 a2 w2 ρ2:=
  ⟨h2.inv,h2.fresh,h1.trans h2.fr,h2.vars,h2.marks⟩
theorem Hw.begins{fn:Func}{r:A6}{a1:Act}{var:List AV}{marks:List Nat}{rnd rr:Option Nat}{a:Act}(hb:Iq P fn ρ s w var marks rnd rr a)(h:Hw P fn ρ s w r a1 w1 ρ1):Iq P fn ρ1 r.st w1 r.var r.marks rnd rr a1:=
  ⟨h.inv,h.fresh,h.vars,h.marks,hb.rnd.mono h.fr.le⟩
theorem lT     (hm : P.follows .mixedOrders = true) {F : Fns} (hF : FOk P F) {fn : Func} {f : FuncId} {id : Nat} {ops : Array Oper} {draw : Bool} {r rnd : Option Nat} {var : List AV} {marks : List Nat} {s : ASt} {res : A6}   {ρ : Rho} {w : World} {a : Act} {Q : Exit → Act → World → Prop}
    (hc:DC F rnd (BG P f fn.ntmps (BN P fn) (.region id ops draw)) var marks s=some res) (hb:Iq P fn ρ s w var marks rnd r a)
    (hq:∀a' w' ρ',Hw P fn ρ s w res a' w' ρ'→Q (Hv res.exit) a' w'):(Code.region id ops draw).wpIn (fen r) 0 P Q a w:=by
  have fin:∀ {items:List AA} {b:Array Nat} {l:List Nat},Ek P fn.ntmps (BN P fn) ops b draw l ⟨[],0⟩ []=some items→DC F rnd (.ops items) var marks s=some res →
      ∃R' s',H9 P F ops fn.ntmps b draw l [] (JO (BN P fn) var) s R' s'∧res.exit=.normal∧res.marks=marks∧res.st=s'∧∃c' loc',EO (BN P fn) c' loc' res.var R':=by
    intro items b l hi hs
    simp only[DC,bu]at hs
    split at hs<;>first | (cases hs;done) | skip
    rename_i p hp
    injection hs with hs
    subst hs
    obtain⟨R',h1,h2⟩:=SA l ⟨[],0⟩ [] items [] var s p.1 p.2 (JO (BN P fn) var) [] hi hp (Jo hb.vars.len) .nil
    exact⟨R',p.2,h1,rfl,rfl,rfl,h2⟩
  have back:∀ {R':CA} {a':Act} {w':World} {ρ':Rho},(∃c' loc',EO (BN P fn) c' loc' res.var R')→res.exit=.normal→res.marks=marks→Inv P ρ' res.st w'→Bb ρ' res.st→Fr ρ s w ρ' res.st w'→Ew ρ' R' a'.tmps→a'.tmps.size=a.tmps.size→a'.defers=a.defers→Q .normal a' w':=by
    intro R' a' w' ρ' ⟨c',loc',hcr⟩ he hmk h1 h2 h3 h4 h5 h6
    have:=hq a' w' ρ' ⟨h1,h2,h3,Vc hcr h4 (by rw[h5];exact hb.vars.size),by rw[hmk,h6];exact hb.marks.mono h3.le⟩
    rw[he]at this
    exact this
  cases draw with
  | false =>
    refine wpIn_region ?_
    simp only[BG]at hc
    cases hi:Ek P fn.ntmps (BN P fn) ops #[] false (List.range ops.size) ⟨[],0⟩ []with
    | none=>rw[hi]at hc;cases hc
    | some items =>
      rw[hi]at hc
      obtain⟨R',s',h1,h2,h3,h4,h5⟩:=fin hi hc
      subst h4
      exact VY hF h1 hb.inv hb.fresh (Gs hb.vars) hb.vars.size fun a' w' ρ' g1 g2 g3 g4 g5 g6=>back h5 h2 h3 g1 g2 g3 g4 g5 g6
  | true =>
    refine wpIn_region_any hm ?_
    simp only[BG]at hc
    cases hpl:FA P ops (Region.before ops) [] (dF P ops)with
    | false=>rw[hpl]at hc;cases hc
    | true =>
      rw[hpl]at hc
      simp only[AF,cond_true]at hc
      cases hi:Ek P fn.ntmps (BN P fn) ops (Region.before ops) true (dF P ops) ⟨[],0⟩ []with
      | none=>rw[hi]at hc;cases hc
      | some items =>
        rw[hi]at hc
        obtain⟨R',s',h1,h2,h3,h4,h5⟩:=fin hi hc
        subst h4
        have hd:=Fr.drawn' (ρ:=ρ) (s:=s) (w:=w) (w.drawn+1)
        exact ZL hF h1 hpl (hb.inv.drawn (w.drawn+1)) hb.fresh (Gs hb.vars) hb.vars.size fun a' w' ρ' g1 g2 g3 g4 g5 g6=>back h5 h2 h3 g1 g2 (hd.trans g3) g4 g5 g6
theorem HL{l:Nat}{L:Loop}(h:w.heap[l]? = some (.loop L))(fn:FuncId)(tmps:Array Value)(ps:Array Tmp)(assign body:Code):
    (Instr.enterLoop fn tmps ps assign body (some l)).run P w =
      .ok (w.heap.size,[]) (w.alloc (.loop { state:=.ready,pending:=none,fn,tmps,params:=ps,assign,body,defers:=L.defers })):=by
  unfold Instr.enterLoop
  simp only[Sem.run_bind,run_getLoop h,run_newObj_alloc,Result.andThen,Sem.run_pure]
theorem E8{l:Nat}{r:FE}(h:A3 s l=some r):s.heap.get l=some (.loop r):=by
  unfold A3 at h
  split at h
  · injection h with h;subst h;assumption
  · cases h
theorem Bb.new(h:Bb ρ s)(o:Cv)(rb:RB):Bb (Cr ρ s.next rb) (AH s o):=by
  intro i hi
  have hi:s.next+1≤i:=hi
  have:=h i (by omega)
  exact⟨by rw[Ay rb (by omega)];exact this.1,by rw[CH,if_neg (by omega)];exact this.2⟩
theorem LZ(h:Inv P ρ s w){l:Nat}{r:FE}{rb:RB}(hg:s.heap.get l=some (.loop r))(hr:ρ l=some rb){st:LoopState}{pd:Option Code}{L:Loop}(hL:w.heap[rb.b]? = some (.loop L)):
    Inv P ρ (setObj s l (.loop { r with state:=st,pending:=pd })) (w.putObj rb.b (.loop { L with state:=st,pending:=pd }))∧Fr ρ s w ρ (setObj s l (.loop { r with state:=st,pending:=pd })) (w.putObj rb.b (.loop { L with state:=st,pending:=pd })):=by
  have hlt:=h.lt l rb hr
  refine h.set hg hr rfl (fun p e=>by cases e) rfl World.putObj_size (fun b hb=>World.putObj_heap_other hb) rfl rfl rfl ?_
  obtain⟨L',h0,h1,h2,h4,h5,h6,h7,h8,h9,h10⟩:=(h.obj l _ rb hg hr:GP P ρ w r rb).ex
  rw[hL]at h0
  injection h0 with h0
  injection h0 with h0
  subst h0
  exact⟨_,World.putObj_heap_same hlt,rfl,rfl,h4,h5,h6,h7,h8,h9,h10⟩
theorem dE{r:Option Nat}{s':ASt}{res:A6}{a:Act}{Q:Exit→Act→World→Prop}{var:List AV}{marks:List Nat}{pd:Option Code}
    (hp:GV var marks s' pd=some res) (hq:res.var=var→res.marks=marks→res.st=s'→Q (Hv res.exit) a w):
    (match (generalizing:=false) pd with
      | none=>Q .normal a w
      | some c=>c.wpIn (fen r) 0 P Q a w):=by
  unfold GV at hp
  split at hp<;>first | (cases hp;done) | skip
  · injection hp with hp;subst hp;exact hq rfl rfl rfl
  · injection hp with hp;subst hp;exact wpIn_ret (hq rfl rfl rfl)
  · injection hp with hp;subst hp;exact wpIn_exit (hq rfl rfl rfl)
theorem Ll         (hng : Ef      P) {F : Fns} (hcall : HY     P F.call) {f : FuncId} {fn : Func} {var : List AV} {marks : List Nat} {s : ASt} {res : A6}   {ρ : Rho} {w : World} {a : Act} {r : Option Nat} {Q : Exit → Act → World → Prop} {g : AV} {g' : Value} {ps : Array Tmp} {assign body : Code} {dfr : Nat} {rd : RB}
    (hf:P.funcs[f]? = some fn) (hc:FI F var g ps assign body f dfr marks s=some res) (hi:Inv P ρ s w) (hfr:Bb ρ s) (hv:DN P ρ fn var a.tmps) (hmk:Di ρ marks a.defers)
    (hg:Aa ρ g g') (hd:ρ dfr=some rd) (fn':FuncId)
    (hq:∀w' ρ',Hw P fn ρ s w res a w' ρ'→Q (Hv res.exit) a w'):
    ∃ (d : Deferred) (f0 : FuncId) (args : Array Value), Deferred.ofValue g' #[.func (.yield w.heap.size) #[] #[]] = Pure.pure d ∧
      (∀w1,(invoke d.target d.args).run P w1=.ok (.enter f0 args) w1) ∧
      CallsIn (fen r) 0 P f0 args (w.alloc (.loop { state:=.ready,pending:=none,fn:=fn',tmps:=a.tmps,params:=ps,assign,body,defers:=rd.b })) (rangePost (fen r) 0 P w.heap.size Q a):=by
  let L:Loop:={ state:=.ready,pending:=none,fn:=fn',tmps:=a.tmps,params:=ps,assign,body,defers:=rd.b }
  let al:FE:={ state:=.ready,pending:=none,fn:=f,var,params:=ps,assign,body,dfr }
  let rb:RB:=⟨w.heap.size,0,0,0⟩
  have hvi:DV P f=BN P fn:=by unfold DV;rw[hf]
  have hn0:=(hfr _ (oD s.next)).1
  have hle:=Co (rb:=rb) hn0
  obtain⟨hi1,hfr1⟩:=hi.new (o:=.loop al) (o':=.loop L) (rb:=rb) hn0 rfl
    ⟨L,World.alloc_heap_new w _,rfl,rfl,rfl,rfl,rfl,⟨rd,hle _ _ hd,rfl⟩,by rw[hvi];exact(hv.mono hle).rel,fun fn0 h0=>by
      have h0:P.funcs[f]? = some fn0:=h0
      rw[hf]at h0;injection h0 with h0;subst h0;exact hv.size,by rw[hvi];exact hv.len⟩
  have hff:=hfr.new (.loop al) rb
  unfold FI G0 at hc
  simp only[oE]at hc
  obtain⟨q,hcv,r2,hl2,hend⟩:=hc
  cases hbz:LP r2.state with
  | true=>rw[hbz]at hend;cases hend
  | false =>
    rw[hbz]at hend
    simp only[cond_false]at hend
    unfold GY at hcv
    split at hcv<;>first | (cases hcv;done) | skip
    rename_i f0 first cap
    cases hg with
    | func ha hcp =>
      rename_i x c
      obtain⟨⟨fn0,c0,k1,k2⟩,k3⟩:=hcall _ _ _ f0 _ q.1 q.2 ((x++#[.func (.yield w.heap.size) #[] #[]])++c) hcv hi1 hff (by
        simp only[Array.toList_append]
        have hy:Aa (Cr ρ s.next rb) (.yield s.next) (.func (.yield w.heap.size) #[] #[]):=Aa.yield (rb:=rb) (A4 _ _)
        have:=(AU.mono hle ha).append ((AU.cons hy .nil).append (AU.mono hle hcp))
        simpa using this)
      refine⟨{ target:=.fn (.func f0) c,args:=x++#[.func (.yield w.heap.size) #[] #[]] },f0,_,rfl,fun w1=>?_,Jd (CallsIn.mono k3 ?_)⟩
      · simp only[invoke]
        exact GX hng k1 k2 _ _
      · intro e w3 he
        cases e with
        | panicked c=>exact he.elim
        | outgrown=>exact he.elim
        | returned v' =>
          obtain⟨ρ',_,g2,g3⟩:=he
          have hg2:=E8 hl2
          have hr2:ρ' s.next=some rb:=g3.le _ _ (A4 _ _)
          obtain⟨L2,h0,h1,h2,_⟩:=(g2.obj _ _ _ hg2 hr2:GP P ρ' w3 r2 rb).ex
          obtain⟨g4,g5⟩:=LZ g2 hg2 hr2 (st:=.exhausted) (pd:=r2.pending) h0
          have hbz':L2.state≠.busy:=by rw[h1];intro e;rw[e]at hbz;cases hbz
          refine⟨L2.pending,_,run_endLoop h0 hbz',?_⟩
          rw[h2]
          refine dE hend fun e1 e2 e3=>hq _ ρ' ?_
          have hall:=hfr1.trans (g3.trans g5)
          have hfresh:=(hff.step g3).step g5
          rw[h2.symm]at g4 g5 hall
          refine⟨?_,?_,?_,by rw[e1];exact hv.mono hall.le,by rw[e2];exact hmk.mono hall.le⟩
          · rw[e3,← h2];exact g4
          · rw[e3];exact hfresh
          · rw[e3,← h2];exact hall
end
end
end Go.Proofs.Ytilhhmkdcoajnaa.Am
