/- The abstract machine runs as the model does; conditions: told in 'SimOk'. -/
import Derived.LoopNIn
import Derived.Test.YtjnkfbpadpmakaaGreatDoorAmM03
import Derived.Maps.RangeRun
import Derived.ChangeSame
import Derived.Test.YtjnkfbpadpmakaaGreatDoorAmM01
import Derived.Maps.Own
import Derived.Lib.SlMapMerge
import Derived.Test.YtjnkfbpadpmakaaGreatDoorAmM02
import Derived.ChangeArms
import Derived.DataReads
import Derived.DataElems
import Derived.Test.YtjnkfbpadpmakaaGreatDoorProg
import Derived.Shelf.SlIterI.Nil
import Derived.Shelf.SlIterI.Sorted
import Derived.Shelf.SortM.Plain
import Derived.Shelf.SortM.SortNone
import Derived.Ground.GgzProg
import Derived.Ground.SlgmProg
set_option linter.unusedVariables false
set_option linter.unusedSimpArgs false
namespace Go.Proofs.YtjnkfbpadpmakaaGreatDoor.Am
open Go
noncomputable section
def Ge:LN→Exit
 | .normal=>.normal
 | .exit id=>.exit id
 | .ret=>.ret
def LT(ρ:BU):Option Nat→Option Nat→Prop
 | none,r=>r=none
 | some l,r=>∃rb,ρ l=some rb∧r=some rb.b
theorem LT.mono{ρ ρ1:BU}{rnd r:Option Nat}(h:LT ρ rnd r)(le:ρ.le ρ1):LT ρ1 rnd r:=by
 cases rnd with
 | none=>exact h
 | some l=>obtain⟨rb,h1,h2⟩:=h;exact⟨rb,le _ _ h1,h2⟩
structure IH(P:Program)(fn:Func)(ρ:BU)(s:AE)(w:World)(r:Ay)(a':Act)(w':World)(ρ':BU):Prop where
 inv:Ba P ρ' r.st w'
 fresh:BA ρ' r.st
 fr:Fr ρ s w ρ' r.st w'
 vars:BK P ρ' fn r.var a'.tmps
 marks:CD ρ' r.marks a'.defers
structure IG(P:Program)(fn:Func)(ρ:BU)(s:AE)(w:World)(var:List AV)(marks:List Nat)(rnd r:Option Nat)(a:Act):Prop where
 inv:Ba P ρ s w
 fresh:BA ρ s
 vars:BK P ρ fn var a.tmps
 marks:CD ρ marks a.defers
 rnd:LT ρ rnd r
def Jf(P:Program)(F:D4):Prop:=∀ (f:FuncId)(fn:Func)(c:Code)(rnd r:Option Nat)(var:List AV)(marks:List Nat)(s:AE)(res:Ay)(ρ:BU)(w:World)(a:Act)(Q:Exit→Act→World→Prop),
 P.funcs[f]? = some fn→F.code rnd (Al P f fn.ntmps (Ao P fn) c) var marks s=some res→IG P fn ρ s w var marks rnd r a →
 (∀a' w' ρ',IH P fn ρ s w res a' w' ρ'→Q (Ge res.exit) a' w')→c.wpIn (Jd r) 0 P Q a w
def U4(P:Program)(F:D4)(n:Nat):Prop:=∀ (f:FuncId)(fn:Func)(c:Code)(rnd r:Option Nat)(var:List AV)(marks:List Nat)(s:AE)(res:Ay)(ρ:BU)(w:World)(a:Act)(Q:Exit→Act→World→Prop),
 P.funcs[f]? = some fn→F.code rnd (.loop (Al P f fn.ntmps (Ao P fn) c)) var marks s=some res→IG P fn ρ s w var marks rnd r a →
 (∀a' w' ρ',IH P fn ρ s w res a' w' ρ'→Q (Ge res.exit) a' w')→Code.roundsIn (Jd r) 0 P c Q n a w
def Ei(P:Program)(call:FuncId→List AV→AE→Option (AV×AE)):Prop:=∀ (ρ:BU)(s:AE)(w:World)(f:FuncId)(aS:List AV)(v:AV)(s1:AE)(as':Array Value),
 call f aS s=some (v,s1)→Ba P ρ s w→BA ρ s→AX ρ aS as'.toList →
 (∃fn c,P.funcs[f]? = some fn∧fn.body=some c)∧CallsIn Fence.wide 0 P f as' w (FZ P ρ s w v s1)
def Ev (P : Program) : Prop := ∀ (f : FuncId) (fn : Func), P.funcs[f]? = some fn → (fn.name == "runtime.NumGoroutine") = false
structure QD(P:Program)(F:D4)(n:Nat):Prop where
 code:Jf P F
 loop:U4 P F n
 call:Ei P F.call
 round:∀ (ρ:BU) (s:AE) (w:World) (l:Nat) (rb:RB) (aS:List AV) (v:AV) (s1:AE) (as':Array Value),F.round l aS s=some (v,s1)→Ba P ρ s w→BA ρ s→ρ l=some rb→AX ρ aS as'.toList →
  D5 P ρ s w v s1 ((Instr.yield rb.b as').run P w)
section
variable{P:Program}{ρ ρ1 ρ2:BU}{s s1 s2:AE}{w w1 w2:World}
theorem G2(hng:Ev P){f:FuncId}{fn:Func}{c:Code}(hf:P.funcs[f]? = some fn)(hb:fn.body=some c)(args:Array Value)(w:World):(callFunc f args).run P w=.ok (.enter f args) w:=by
  have h1:=hng f fn hf
  have h2 : fn.name ≠ "runtime.NumGoroutine" := by simpa using h1
  simp[callFunc,hf,h2,hb]
theorem QD.fok(hng:Ev P){F:D4}{n:Nat}(h:QD P F n):iE P F where
 call:=fun ρ s w f aS v s1 as' hc hi hf ha=>by
  obtain⟨⟨fn,c,h1,h2⟩,h3⟩:=h.call ρ s w f aS v s1 as' hc hi hf ha
  rw[G2 hng h1 h2]
  exact .enter h3
 round:=h.round
theorem IH.trans{fn:Func}{s1:AE}{r1 r2:Ay}{a1 a2:Act}(h1:Fr ρ s w ρ1 s1 w1)(h2:IH P fn ρ1 s1 w1 r2 a2 w2 ρ2):IH P fn ρ s w r2 a2 w2 ρ2:=
 ⟨h2.inv,h2.fresh,h1.trans h2.fr,h2.vars,h2.marks⟩
theorem IH.begins{fn:Func}{r:Ay}{a1:Act}{var:List AV}{marks:List Nat}{rnd rr:Option Nat}{a:Act}(hb:IG P fn ρ s w var marks rnd rr a)(h:IH P fn ρ s w r a1 w1 ρ1):IG P fn ρ1 r.st w1 r.var r.marks rnd rr a1:=
 ⟨h.inv,h.fresh,h.vars,h.marks,hb.rnd.mono h.fr.le⟩
theorem tR     (hm : P.follows .mixedOrders = true) {F : D4}  (hF : iE  P F) {fn : Func} {f : FuncId} {id : Nat} {ops : Array Oper} {draw : Bool} {r rnd : Option Nat} {var : List AV} {marks : List Nat} {s : AE}  {res : Ay}   {ρ : BU}  {w : World} {a : Act} {Q : Exit → Act → World → Prop}
    (hc:DG F rnd (Al P f fn.ntmps (Ao P fn) (.region id ops draw)) var marks s=some res) (hb:IG P fn ρ s w var marks rnd r a)
    (hq:∀a' w' ρ',IH P fn ρ s w res a' w' ρ'→Q (Ge res.exit) a' w'):(Code.region id ops draw).wpIn (Jd r) 0 P Q a w:=by
  have fin:∀ {items:List AA} {b:Array Nat} {l:List Nat},Ey P fn.ntmps (Ao P fn) ops b draw l ⟨[],0⟩ []=some items→DG F rnd (.ops items) var marks s=some res →
      ∃R' s',Trace P F ops fn.ntmps b draw l [] (KA (Ao P fn) var) s R' s'∧res.exit=.normal∧res.marks=marks∧res.st=s'∧∃c' loc',Eh (Ao P fn) c' loc' res.var R':=by
    intro items b l hi hs
    simp only[DG,iY]at hs
    split at hs<;>first | (cases hs;done) | skip
    rename_i p hp
    injection hs with hs
    subst hs
    obtain⟨R',h1,h2⟩:=T5 l ⟨[],0⟩ [] items [] var s p.1 p.2 (KA (Ao P fn) var) [] hi hp (Ki hb.vars.len) .nil
    exact⟨R',p.2,h1,rfl,rfl,rfl,h2⟩
  have back:∀ {R':Ca} {a':Act} {w':World} {ρ':BU},(∃c' loc',Eh (Ao P fn) c' loc' res.var R')→res.exit=.normal→res.marks=marks→Ba P ρ' res.st w'→BA ρ' res.st→Fr ρ s w ρ' res.st w'→FG ρ' R' a'.tmps→a'.tmps.size=a.tmps.size→a'.defers=a.defers→Q .normal a' w':=by
    intro R' a' w' ρ' ⟨c',loc',hcr⟩ he hmk h1 h2 h3 h4 h5 h6
    have:=hq a' w' ρ' ⟨h1,h2,h3,X9 hcr h4 (by rw[h5];exact hb.vars.size),by rw[hmk,h6];exact hb.marks.mono h3.le⟩
    rw[he]at this
    exact this
  cases draw with
  | false =>
    refine wpIn_region ?_
    simp only[Al]at hc
    cases hi:Ey P fn.ntmps (Ao P fn) ops #[] false (List.range ops.size) ⟨[],0⟩ []with
    | none=>rw[hi]at hc;cases hc
    | some items =>
      rw[hi]at hc
      obtain⟨R',s',h1,h2,h3,h4,h5⟩:=fin hi hc
      subst h4
      exact X8 hF h1 hb.inv hb.fresh (HQ hb.vars) hb.vars.size fun a' w' ρ' g1 g2 g3 g4 g5 g6=>back h5 h2 h3 g1 g2 g3 g4 g5 g6
  | true =>
    refine wpIn_region_any hm ?_
    simp only[Al]at hc
    cases hpl:FN P ops (Region.before ops) [] (jy P ops)with
    | false=>rw[hpl]at hc;cases hc
    | true =>
      rw[hpl]at hc
      simp only[AP,cond_true]at hc
      cases hi:Ey P fn.ntmps (Ao P fn) ops (Region.before ops) true (jy P ops) ⟨[],0⟩ []with
      | none=>rw[hi]at hc;cases hc
      | some items =>
        rw[hi]at hc
        obtain⟨R',s',h1,h2,h3,h4,h5⟩:=fin hi hc
        subst h4
        have hd:=Fr.drawn' (ρ:=ρ) (s:=s) (w:=w) (w.drawn+1)
        exact fB hF h1 hpl (hb.inv.drawn (w.drawn+1)) hb.fresh (HQ hb.vars) hb.vars.size fun a' w' ρ' g1 g2 g3 g4 g5 g6=>back h5 h2 h3 g1 g2 (hd.trans g3) g4 g5 g6
theorem Hy{l:Nat}{L:Loop}(h:w.heap[l]? = some (.loop L))(fn:FuncId)(tmps:Array Value)(ps:Array Tmp)(assign body:Code):
  (Instr.enterLoop fn tmps ps assign body (some l)).run P w =
   .ok (w.heap.size,[]) (w.alloc (.loop { state:=.ready,pending:=none,fn,tmps,params:=ps,assign,body,defers:=L.defers })):=by
 unfold Instr.enterLoop
 simp only[Sem.run_bind,run_getLoop h,run_newObj_alloc,Result.andThen,Sem.run_pure]
theorem Dt{l:Nat}{r:Df}(h:Bb s l=some r):s.heap.get l=some (.loop r):=by
 unfold Bb at h
 split at h
 ·injection h with h;subst h;assumption
 ·cases h
theorem BA.new(h:BA ρ s)(o:BD)(rb:RB):BA (B9 ρ s.next rb) (newObj s o):=by
 intro i hi
 have hi:s.next+1≤i:=hi
 have:=h i (by omega)
 exact⟨by rw[AY rb (by omega)];exact this.1,by rw[A7,if_neg (by omega)];exact this.2⟩
theorem MQ(h:Ba P ρ s w){l:Nat}{r:Df}{rb:RB}(hg:s.heap.get l=some (.loop r))(hr:ρ l=some rb){st:LoopState}{pd:Option Code}{L:Loop}(hL:w.heap[rb.b]? = some (.loop L)):
  Ba P ρ (setObj s l (.loop { r with state:=st,pending:=pd })) (w.putObj rb.b (.loop { L with state:=st,pending:=pd }))∧Fr ρ s w ρ (setObj s l (.loop { r with state:=st,pending:=pd })) (w.putObj rb.b (.loop { L with state:=st,pending:=pd })):=by
 have hlt:=h.lt l rb hr
 refine h.set hg hr rfl (fun p e=>by cases e) rfl World.putObj_size (fun b hb=>World.putObj_heap_other hb) rfl rfl rfl ?_
 obtain⟨L',h0,h1,h2,h4,h5,h6,h7,h8,h9,h10⟩:=(h.obj l _ rb hg hr:Gu P ρ w r rb).ex
 rw[hL]at h0
 injection h0 with h0
 injection h0 with h0
 subst h0
 exact⟨_,World.putObj_heap_same hlt,rfl,rfl,h4,h5,h6,h7,h8,h9,h10⟩
theorem jx{r:Option Nat}{s':AE}{res:Ay}{a:Act}{Q:Exit→Act→World→Prop}{var:List AV}{marks:List Nat}{pd:Option Code}
  (hp:G0 var marks s' pd=some res) (hq:res.var=var→res.marks=marks→res.st=s'→Q (Ge res.exit) a w):
  (match (generalizing:=false) pd with
   | none=>Q .normal a w
   | some c=>c.wpIn (Jd r) 0 P Q a w):=by
 unfold G0 at hp
 split at hp<;>first | (cases hp;done) | skip
 ·injection hp with hp;subst hp;exact hq rfl rfl rfl
 ·injection hp with hp;subst hp;exact wpIn_ret (hq rfl rfl rfl)
 ·injection hp with hp;subst hp;exact wpIn_exit (hq rfl rfl rfl)
theorem Mp         (hng : Ev      P) {F : D4}  (hcall : Ei     P F.call) {f : FuncId} {fn : Func} {var : List AV} {marks : List Nat} {s : AE}  {res : Ay}   {ρ : BU}  {w : World} {a : Act} {r : Option Nat} {Q : Exit → Act → World → Prop} {g : AV} {g' : Value} {ps : Array Tmp} {assign body : Code} {dfr : Nat} {rd : RB}
    (hf:P.funcs[f]? = some fn) (hc:FT F var g ps assign body f dfr marks s=some res) (hi:Ba P ρ s w) (hfr:BA ρ s) (hv:BK P ρ fn var a.tmps) (hmk:CD ρ marks a.defers)
    (hg:Ab ρ g g') (hd:ρ dfr=some rd) (fn':FuncId)
    (hq:∀w' ρ',IH P fn ρ s w res a w' ρ'→Q (Ge res.exit) a w'):
    ∃ (d : Deferred) (f0 : FuncId) (args : Array Value), Deferred.ofValue g' #[.func (.yield w.heap.size) #[] #[]] = Pure.pure d ∧
      (∀w1,(invoke d.target d.args).run P w1=.ok (.enter f0 args) w1) ∧
      CallsIn (Jd r) 0 P f0 args (w.alloc (.loop { state:=.ready,pending:=none,fn:=fn',tmps:=a.tmps,params:=ps,assign,body,defers:=rd.b })) (rangePost (Jd r) 0 P w.heap.size Q a):=by
  let L:Loop:={ state:=.ready,pending:=none,fn:=fn',tmps:=a.tmps,params:=ps,assign,body,defers:=rd.b }
  let al:Df:={ state:=.ready,pending:=none,fn:=f,var,params:=ps,assign,body,dfr }
  let rb:RB:=⟨w.heap.size,0,0,0⟩
  have hvi:De P f=Ao P fn:=by unfold De;rw[hf]
  have hn0:=(hfr _ (xZ s.next)).1
  have hle:=Bh (rb:=rb) hn0
  obtain⟨hi1,hfr1⟩:=hi.new (o:=.loop al) (o':=.loop L) (rb:=rb) hn0 rfl
    ⟨L,World.alloc_heap_new w _,rfl,rfl,rfl,rfl,rfl,⟨rd,hle _ _ hd,rfl⟩,by rw[hvi];exact(hv.mono hle).rel,fun fn0 h0=>by
      have h0:P.funcs[f]? = some fn0:=h0
      rw[hf]at h0;injection h0 with h0;subst h0;exact hv.size,by rw[hvi];exact hv.len⟩
  have hff:=hfr.new (.loop al) rb
  unfold FT Ha at hc
  simp only[xY]at hc
  obtain⟨q,hcv,r2,hl2,hend⟩:=hc
  cases hbz:UM r2.state with
  | true=>rw[hbz]at hend;cases hend
  | false =>
    rw[hbz]at hend
    simp only[cond_false]at hend
    unfold G3 at hcv
    split at hcv<;>first | (cases hcv;done) | skip
    rename_i f0 first cap
    cases hg with
    | func ha hcp =>
      rename_i x c
      obtain⟨⟨fn0,c0,k1,k2⟩,k3⟩:=hcall _ _ _ f0 _ q.1 q.2 ((x++#[.func (.yield w.heap.size) #[] #[]])++c) hcv hi1 hff (by
        simp only[Array.toList_append]
        have hy:Ab (B9 ρ s.next rb) (.yield s.next) (.func (.yield w.heap.size) #[] #[]):=Ab.yield (rb:=rb) (Ac _ _)
        have:=(AX.mono hle ha).append ((AX.cons hy .nil).append (AX.mono hle hcp))
        simpa using this)
      refine⟨{ target:=.fn (.func f0) c,args:=x++#[.func (.yield w.heap.size) #[] #[]] },f0,_,rfl,fun w1=>?_,KS (CallsIn.mono k3 ?_)⟩
      · simp only[invoke]
        exact G2 hng k1 k2 _ _
      · intro e w3 he
        cases e with
        | panicked c=>exact he.elim
        | outgrown=>exact he.elim
        | returned v' =>
          obtain⟨ρ',_,g2,g3⟩:=he
          have hg2:=Dt hl2
          have hr2:ρ' s.next=some rb:=g3.le _ _ (Ac _ _)
          obtain⟨L2,h0,h1,h2,_⟩:=(g2.obj _ _ _ hg2 hr2:Gu P ρ' w3 r2 rb).ex
          obtain⟨g4,g5⟩:=MQ g2 hg2 hr2 (st:=.exhausted) (pd:=r2.pending) h0
          have hbz':L2.state≠.busy:=by rw[h1];intro e;rw[e]at hbz;cases hbz
          refine⟨L2.pending,_,run_endLoop h0 hbz',?_⟩
          rw[h2]
          refine jx hend fun e1 e2 e3=>hq _ ρ' ?_
          have hall:=hfr1.trans (g3.trans g5)
          have hfresh:=(hff.step g3).step g5
          rw[h2.symm]at g4 g5 hall
          refine⟨?_,?_,?_,by rw[e1];exact hv.mono hall.le,by rw[e2];exact hmk.mono hall.le⟩
          · rw[e3,← h2];exact g4
          · rw[e3];exact hfresh
          · rw[e3,← h2];exact hall
end
end
end Go.Proofs.YtjnkfbpadpmakaaGreatDoor.Am
set_option linter.unusedVariables false
set_option linter.unusedSimpArgs false
namespace Go.Proofs.YtjnkfbpadpmakaaGreatDoor.Am
open Go
open Go.ChangeMaps (setBlock)
noncomputable section
mutual
theorem Ab.back{ρ σ:BU}(le:ρ.le σ){v:AV}{v' v0:Value}(h:Ab σ v v')(h0:Ab ρ v v0):Ab ρ v v':=by
 cases h with
 | bool b=>exact .bool b
 | int k n=>exact .int k n
 | str h=>exact .str h
 | ptrNil=>exact .ptrNil
 | ptr h=>cases h0 with
  | ptr k=>have:=le _ _ k;rw[h]at this;injection this with this;subst this;exact .ptr k
 | gptr g o=>exact .gptr g o
 | sliceNil=>exact .sliceNil
 | slice h hl=>cases h0 with
  | slice k _=>have:=le _ _ k;rw[h]at this;injection this with this;subst this;exact .slice k hl
 | sliceOpen h hs hl h1 h2=>cases h0 with
  | sliceOpen k _ _ _ _=>have:=le _ _ k;rw[h]at this;injection this with this;subst this;exact .sliceOpen k hs hl h1 h2
  | sliceEnd k _ _ _=>have:=le _ _ k;rw[h]at this;injection this with this;subst this;exact .sliceOpen k hs hl h1 h2
 | sliceEnd h hs h1 h2=>cases h0 with
  | sliceOpen k _ _ _ _=>have:=le _ _ k;rw[h]at this;injection this with this;subst this;exact .sliceEnd k hs h1 h2
  | sliceEnd k _ _ _=>have:=le _ _ k;rw[h]at this;injection this with this;subst this;exact .sliceEnd k hs h1 h2
 | mapNil=>exact .mapNil
 | map h=>cases h0 with
  | map k=>have:=le _ _ k;rw[h]at this;injection this with this;subst this;exact .map k
 | func ha hc=>cases h0 with
  | func ka kc=>exact .func (AX.back le ha ka) (AX.back le hc kc)
 | yield h=>cases h0 with
  | yield k=>have:=le _ _ k;rw[h]at this;injection this with this;subst this;exact .yield k
 | nilFunc=>exact .nilFunc
 | nilIface=>exact .nilIface
 | iface h=>cases h0 with
  | iface k=>exact .iface (Ab.back le h k)
 | agg h=>cases h0 with
  | agg k=>exact .agg (AX.back le h k)
 | tuple h=>cases h0 with
  | tuple k=>exact .tuple (AX.back le h k)
 | any h=>exact .any h
theorem AX.back{ρ σ:BU}(le:ρ.le σ){v:List AV}{v' v0:List Value}(h:AX σ v v')(h0:AX ρ v v0):AX ρ v v':=by
 cases h with
 | nil=>exact .nil
 | cons h hs=>cases h0 with
  | cons k ks=>exact .cons (Ab.back le h k) (AX.back le hs ks)
end
theorem Px{σ:BU}{v:AV}{v':Value}(h:Ih v=true)(hv:Ab σ v v'):v'.cells.toList=[v']:=by
 cases hv<;>first | rfl | (cases h;done) | assumption
theorem Mw{a b:AV}(h:OC a b=true):a=b:=by
 unfold OC at h
 split at h
 ·rfl
 ·exact L4 h
def OV(X B:List AV):Prop:=X.length=B.length∧∀ (j:Nat)(x:AV),X[j]? = some x→B[j]? = some x∨Ih x=true∧B[j]? = some .junk
theorem OV.refl(X:List AV):OV X X:=⟨rfl,fun j x h=>.inl h⟩
theorem OV.trans{X Y Z:List AV}(h:OV X Y)(k:OV Y Z):OV X Z:=by
  refine⟨h.1.trans k.1,fun j x hx=>?_⟩
  rcases h.2 j x hx with h1 | ⟨h1,h2⟩
  · exact k.2 j x h1
  · rcases k.2 j _ h2 with h3 | ⟨_, h3⟩
    · exact .inr ⟨h1,h3⟩
    · exact .inr ⟨h1,h3⟩
theorem RJ:∀ {X B:List AV},T7 X B=true→OV X B
 | [],[],_=>.refl _
 | x::l,b::m,h=>by
  simp only[T7,Bool.and_eq_true]at h
  obtain⟨g1,g2⟩:=RJ h.2
  refine⟨by simp[g1],fun j y hy=>?_⟩
  cases j with
  | zero =>
   simp at hy
   subst hy
   have h1:=h.1
   simp only[vE,Bool.or_eq_true,Bool.and_eq_true]at h1
   rcases h1 with h1 | ⟨h1,h2⟩
   ·left;simp[Mw h1]
   ·right;refine⟨h1,?_⟩;simp[← Mw h2]
  | succ j=>simpa using g2 j y (by simpa using hy)
 | [],_::_,h=>by cases h
 | _::_,[],h=>by cases h
theorem MT         : ∀ {A X B : List AV}, PY     A X = some B → OV  A B ∧ OV  X B
  | [],[],B,h=>by injection h with h;subst h;exact⟨.refl _,.refl _⟩
  | a::l,x::m,B,h=>by
    unfold PY at h
    simp only[xY]at h
    obtain⟨c,h1,r,h2,h3⟩:=h
    injection h3 with h3
    subst h3
    obtain⟨⟨g1,g2⟩,g3,g4⟩:=MT h2
    have hc:(c=a∨Ih a=true∧c=.junk)∧(c=x∨Ih x=true∧c=.junk):=by
      cases he:OC a x with
      | true=>rw[he]at h1;injection h1 with h1;exact⟨.inl h1.symm,.inl (h1.symm.trans (Mw he))⟩
      | false =>
        rw[he]at h1
        obtain⟨h4,h5⟩:=AD h1
        simp only[Bool.and_eq_true]at h4
        injection h5 with h5
        exact⟨.inr ⟨h4.1,h5.symm⟩,.inr ⟨h4.2,h5.symm⟩⟩
    refine⟨⟨by simp[g1],fun j y hy=>?_⟩,⟨by simp[g3],fun j y hy=>?_⟩⟩
    · cases j with
      | zero =>
        simp at hy
        subst hy
        rcases hc.1 with h | ⟨h,h'⟩
        · left;simp[h]
        · right;simp[h,h']
      | succ j=>simpa using g2 j y (by simpa using hy)
    · cases j with
      | zero =>
        simp at hy
        subst hy
        rcases hc.2 with h | ⟨h,h'⟩
        · left;simp[h]
        · right;simp[h,h']
      | succ j=>simpa using g4 j y (by simpa using hy)
  | [],_::_,_,h=>by cases h
  | _::_,[],_,h=>by cases h
theorem JU:∀ {a b:List Nat},Hp a b=true→a=b
 | [],[],_=>rfl
 | a::l,b::m,h=>by
  simp only[Hp,Bool.and_eq_true]at h
  rw[yD h.1,JU h.2]
 | [],_::_,h=>by cases h
 | _::_,[],h=>by cases h
section
variable{P:Program}{ρ ρ1 ρ2:BU}{s s1 s2:AE}{w w1 w2:World}
theorem Ux{fn:Func}{A X B:List AV}{t0 t1:Array Value}(h0:BK P ρ fn A t0)(h1:BK P ρ1 fn X t1)(le:ρ.le ρ1)(ha:OV A B)(hx:OV X B):BK P ρ fn B t1:=by
  refine⟨by rw[← ha.1];exact h0.len,fun t k hk=>?_,h1.size⟩
  obtain⟨_,a,k1,k2⟩:=h0.rel t k hk
  obtain⟨k3,x,k4,k5⟩:=h1.rel t k hk
  refine⟨k3,?_⟩
  rcases hx.2 k x k4 with e1 | ⟨e1,e2⟩
  · rcases ha.2 k a k1 with e3 | ⟨e3, e4⟩
    · rw[e1]at e3
      injection e3 with e3
      subst e3
      exact⟨_,e1,Ab.back le k5 k2⟩
    · rw[e4]at e1
      injection e1 with e1
      subst e1
      cases k5 with
      | any h=>exact⟨_,e4,.any h⟩
  · exact⟨_,e2,.any (Px e1 k5)⟩
theorem P2{fn:Func}{var:List AV}{tmps:Array Value}(h:BK P ρ fn var tmps){t:Tmp}{j:Nat}(hp:BE (Ao P fn) t=some j){v:AV}{v':Value}(hv:Ab ρ v v')(ht:t<tmps.size):BK P ρ fn (Gf v var j) (tmps.setIfInBounds t v'):=by
 refine⟨by rw[Gg,yz];exact h.len,fun u k hk=>?_,by rw[Array.size_setIfInBounds];exact h.size⟩
 obtain⟨g1,x,g2,g3⟩:=h.rel u k hk
 refine⟨by rw[Array.size_setIfInBounds];exact g1,?_⟩
 have hjl:j<var.length:=by rw[h.len];exact Du hp
 by_cases e:u=t
 ·subst e
  rw[hp]at hk
  injection hk with hk
  subst hk
  exact⟨v,by rw[Gg];simp[hjl],by simpa[Array.getD_eq_getD_getElem?,ht]using hv⟩
 ·have ejk:j≠k:=fun e'=>by subst e';exact e (HL hk hp)
  refine⟨x,by rw[Gg,zR ejk];exact g2,?_⟩
  have:(tmps.setIfInBounds t v').getD u undef=tmps.getD u undef:=by
   simp[Array.getD_eq_getD_getElem?,Array.getElem?_setIfInBounds_ne (Ne.symm e)]
  rw[this]
  exact g3
theorem Ja{fn:Func}{var:List AV}{tmps:Array Value}(h:BK P ρ fn var tmps){t:Tmp}(hp:BE (Ao P fn) t=none)(v':Value):BK P ρ fn var (tmps.setIfInBounds t v'):=by
 refine⟨h.len,fun u k hk=>?_,by rw[Array.size_setIfInBounds];exact h.size⟩
 obtain⟨g1,x,g2,g3⟩:=h.rel u k hk
 refine⟨by rw[Array.size_setIfInBounds];exact g1,x,g2,?_⟩
 have e:u≠t:=fun e=>by subst e;rw[hp]at hk;cases hk
 have:(tmps.setIfInBounds t v').getD u undef=tmps.getD u undef:=by
  simp[Array.getD_eq_getD_getElem?,Array.getElem?_setIfInBounds_ne (Ne.symm e)]
 rw[this]
 exact g3
theorem Nx:∀ {l:List Nat}{ds ds':List Deferred},CD ρ l ds→CD ρ1 l ds'→ρ.le ρ1→ds'=ds
 | [],ds,ds',h,h',_=>by
  have h:ds=[]:=h
  have h':ds'=[]:=h'
  rw[h,h']
 | i::l,ds,ds',⟨rb,d1,h1,h2,h3⟩,⟨rb',d2,k1,k2,k3⟩,le=>by
  have:=le _ _ h1
  rw[k1]at this
  injection this with this
  subst this
  rw[h2,k2,Nx h3 k3 le]
theorem K8{n:Nat}{h:AZ BD}{i:Nat}{o:BD}(hg:(frz n h).heap.get i=some o):∃o',h.get i=some o'∧tJ o'=some o:=by
 unfold frz at hg
 simpa only[AZ.get_mapO,xY]using hg
theorem K7{o o':BD}(h:tJ o'=some o):wr o=false∧GR o=GR o'∧∀ {ρ:BU}{w:World}{rb:RB},Fm P ρ w o' rb→Fm P ρ w o rb:=by
 cases o' with
 | row r =>
  injection h with h
  subst h
  exact⟨rfl,rfl,fun {ρ w rb} hok=>by
   have hok:Cn ρ w r rb:=hok
   exact(show Cn ρ w { r with mode:=.ro,par:=none } rb from⟨hok.cells,hok.le,hok.sz,hok.tight,fun e=>absurd rfl e,hok.base,hok.gl,fun p e=>by cases e⟩)⟩
 | map kt es=>injection h with h;subst h;exact⟨rfl,rfl,fun hok=>hok⟩
 | mapRo kt es=>injection h with h;subst h;exact⟨rfl,rfl,fun hok=>hok⟩
 | loop l=>cases h
 | mark=>cases h
 | iter a b=>cases h
theorem Ba.frz(h:Ba P ρ s w)(n:Nat):Ba P ρ (frz n s.heap) w:=by
 refine⟨fun i o rb hi hr=>?_,h.lt,fun i j oi oj ri rj hne hi hj hri hrj hb hw=>?_,fun i o g hi hg=>?_⟩
 ·obtain⟨o',h1,h2⟩:=K8 hi
  exact(K7 h2).2.2 (h.obj i _ rb h1 hr)
 ·obtain⟨o',_,h2⟩:=K8 hj
  rw[(K7 (P:=P) h2).1]at hw
  cases hw
 ·obtain⟨o',h1,h2⟩:=K8 hi
  rw[(K7 (P:=P) h2).2.1]at hg
  exact h.glb i _ g h1 hg
theorem Jx(Q0:Program)(n:Nat)(t:AZ BD)(b:Nat):¬ Gi ρ (frz n t) b:=by
 rintro⟨i,o,rb,h1,h2,_⟩
 obtain⟨o',_,h3⟩:=K8 h1
 rw[(K7 (P:=Q0) h3).1]at h2
 cases h2
theorem BA.frz(h:BA ρ s):BA ρ (frz s.next s.heap):=fun i hi=>by
 refine⟨(h i hi).1,?_⟩
 unfold Am.frz
 simp only[AZ.get_mapO]
 rw[(h i hi).2];rfl
structure Hd(w0 w:World)(bm clock:Nat)(seen:Array Nat):Prop where
 lt:w0.heap.size<w.heap.size
 old:∀b,b<w0.heap.size→w.heap[b]? = w0.heap[b]?
 os:w.os=w0.os
 tape:w.tape=w0.tape
 output:w.output=w0.output
 it:∃c0,clock≤c0∧w.heap[w0.heap.size]? = some (.mapIter (some bm) clock seen c0)
def CH(ρ:BU)(s:AE)(w0:World):BU:=B9 ρ s.next ⟨w0.heap.size,0,0,0⟩
theorem Hd.inv{bm clock:Nat}{seen:Array Nat}(hd:Hd w w1 bm clock seen)(h:Ba P ρ s w)(hf:BA ρ s):Ba P (CH ρ s w) ⟨s.next+1,s.heap⟩ w1:=by
  have hn:=hf s.next (xZ _)
  have hle:ρ.le (CH ρ s w):=Bh hn.1
  have hr:∀i o rb,s.heap.get i=some o→CH ρ s w i=some rb→ρ i=some rb:=fun i o rb hi hr=>by
    have:i≠s.next:=fun e=>by subst e;rw[hn.2]at hi;cases hi
    unfold CH at hr
    rw[AY _ this]at hr
    exact hr
  refine⟨fun i o rb hi hri=>?_,fun i rb hri=>?_,fun i j oi oj ri rj hne hi hj hri hrj=>h.sep i j oi oj ri rj hne hi hj (hr i oi ri hi hri) (hr j oj rj hj hrj),fun i o g hi hg=>?_⟩
  · have hi : s.heap.get i = some o := hi
    have h1:=hr i o rb hi hri
    exact(h.obj i o rb hi h1).mono hle (hd.old _ (h.lt i rb h1))
  · unfold CH at hri
    by_cases e:i=s.next
    · subst e
      rw[Ac]at hri
      injection hri with hri
      subst hri
      exact hd.lt
    · rw[AY _ e]at hri
      have:=h.lt i rb hri
      exact zr this hd.lt
  · obtain⟨rb,h1⟩:=h.glb i o g hi hg
    exact⟨rb,hle _ _ h1⟩
theorem RW(hf:BA ρ s):BA (CH ρ s w) ⟨s.next+1,s.heap⟩:=fun i hi=>by
 have hi:s.next+1≤i:=hi
 refine⟨?_,(hf i (by omega)).2⟩
 unfold CH
 rw[AY _ (by omega)]
 exact(hf i (by omega)).1
theorem Hd.fr{bm clock:Nat}{seen:Array Nat}(hd:Hd w w1 bm clock seen)(hf:BA ρ s):Fr ρ s w (CH ρ s w) ⟨s.next+1,s.heap⟩ w1:=by
 have hn:=hf s.next (xZ _)
 refine⟨Bh hn.1,fun i hi ho=>?_,yp _,Nat.le_of_lt hd.lt,hd.os,hd.tape,hd.output,fun b hb _=>hd.old b hb,fun b hb=>?_,fun _ _ _=>rfl⟩
 ·have ho:i<s.next∨s.next+1≤i:=ho
  unfold CH
  rw[AY _ (by omega)]
  exact hi
 ·obtain⟨i,o,rb,h1,h2,h3,h4⟩:=hb
  have h1:s.heap.get i=some o:=h1
  have:i≠s.next:=fun e=>by subst e;rw[hn.2]at h1;cases h1
  unfold CH at h3
  rw[AY _ this]at h3
  exact .inl ⟨i,o,rb,h1,h2,h3,h4⟩
theorem Hd.step{bm clock:Nat}{seen seen':Array Nat}(hd:Hd w w1 bm clock seen){c1:Nat}(hc:clock≤c1)(hw:w2=w1∨w2=w1.drew):Hd w (setBlock w2 w.heap.size (.mapIter (some bm) clock seen' c1)) bm clock seen':=by
 have e:w2.heap=w1.heap∧w2.os=w1.os∧w2.tape=w1.tape∧w2.output=w1.output:=by
  rcases hw with rfl | rfl<;>exact⟨rfl,rfl,rfl,rfl⟩
 refine⟨?_,fun b hb=>?_,e.2.1.trans hd.os,e.2.2.1.trans hd.tape,e.2.2.2.trans hd.output,c1,hc,?_⟩
 ·show w.heap.size<(w2.heap.setIfInBounds _ _).size
  rw[Array.size_setIfInBounds,e.1]
  exact hd.lt
 ·show(w2.heap.setIfInBounds _ _)[b]? = _
  rw[Array.getElem?_setIfInBounds_ne (by omega),e.1]
  exact hd.old b hb
 ·show(w2.heap.setIfInBounds _ _)[w.heap.size]? = _
  rw[e.1]
  simp[hd.lt]
theorem Hd.round(Q0:Program){bm clock:Nat}{seen:Array Nat}(hd:Hd w w1 bm clock seen){n:Nat}{t:AZ BD}(hfr:Fr ρ (frz n t) w1 ρ1 s1 w2):Hd w w2 bm clock seen:=by
 have hk:∀b,b<w1.heap.size→w2.heap[b]? = w1.heap[b]? := fun b hb=>hfr.keep b hb (Jx Q0 n t b)
 obtain⟨c0,h1,h2⟩:=hd.it
 exact⟨xi hd.lt hfr.size,fun b hb=>(hk b (zr hb hd.lt)).trans (hd.old b hb),hfr.os.trans hd.os,hfr.tape.trans hd.tape,hfr.output.trans hd.output,c0,h1,(hk _ hd.lt).trans h2⟩
end
section
variable{P:Program}{ρ ρ1 ρ2:BU}{s s1 s2:AE}{w w1 w2:World}{a:Act}{ops:Array Oper}{rnd:Option Nat}{Q:Exit→Act→World→Prop}
theorem IX{i:Nat}{o:Oper}{v':Value}{w':World}{K:Act→World→Prop}(ho:ops[i]? = some o)(hg:o.guard=none)(hd:∀c,o.op≠.defer c)(hr:(execOp a.eval o).run P w=.ok (.value v') w')
  (hk:K (a.put o.dst v') w'):wpOpIn (Jd rnd) 0 P ops Q i K a w:=by
 unfold wpOpIn
 rw[ho]
 simp only
 rw[if_pos (by unfold Region.wanted;rw[hg])]
 refine⟨fun _ _=>trivial,?_⟩
 rw[Oper.semAt_eq _ _ _ hd,hr]
 exact hk
theorem C3{o:Oper}{x:Op×Tmp}(h:E3 o=some x):o.guard=none∧o.dst=some x.2∧o.op=x.1:=by
 unfold E3 at h
 split at h
 ·rename_i h1 h2
  injection h with h
  subst h
  exact⟨h1,h2,rfl⟩
 ·cases h
theorem QJ{o:Op}{x:TypeId×Operand}(h:TG o=some x):o=.load x.1 x.2:=by
 unfold TG at h
 split at h
 ·injection h with h;subst h;rfl
 ·cases h
theorem Od{o:Op}{x:TypeId×Tmp}(h:Oc o=some x):o=.range x.1 (.tmp x.2):=by
 unfold Oc at h
 split at h
 ·injection h with h;subst h;rfl
 ·cases h
theorem QK{o:Op}{x:Tmp}(h:TH o=some x):o=.next (.tmp x) false:=by
 unfold TH at h
 split at h
 ·injection h with h;subst h;rfl
 ·cases h
theorem Ob{o:Op}{x:Tmp}(h:Oa o=some x):o=.entry (.tmp x):=by
 unfold Oa at h
 split at h
 ·injection h with h;subst h;rfl
 ·cases h
theorem LZ{o:Op}{x:Tmp}(h:VD o=some x):o=.extract (.tmp x) 0:=by
 unfold VD at h
 split at h
 ·injection h with h;subst h;rfl
 ·cases h
theorem TI{o:Op}{x:Tmp}(h:YR o=some x):o=.assign (.tmp x):=by
 unfold YR at h
 split at h
 ·injection h with h;subst h;rfl
 ·cases h
theorem IZ{l:List Oper}(h:ops.toList=l)(i:Nat):ops[i]? = l[i]? := by rw[← h];simp
theorem Mf{l:List Oper}(h:ops.toList=l):ops.size=l.length:=by rw[← h];simp
structure iF(ops:Array Oper)(ty:TypeId)(ad:Operand)(tm it:Tmp):Prop where
 ex:∃o0 o1,ops.toList=[o0,o1]∧(o0.guard=none∧o0.dst=some tm∧o0.op=.load ty ad)∧(o1.guard=none∧o1.dst=some it∧o1.op=.range ty (.tmp tm))
structure OY(ops:Array Oper)(it tn ok:Tmp):Prop where
 ex:∃o0 o1,ops.toList=[o0,o1]∧(o0.guard=none∧o0.dst=some tn∧o0.op=.next (.tmp it) false)∧(o1.guard=none∧o1.dst=some ok∧o1.op=.extract (.tmp tn) 0)
structure LO(ops:Array Oper)(it te tk key:Tmp):Prop where
 ex:∃o0 o1 o2,ops.toList=[o0,o1,o2]∧(o0.guard=none∧o0.dst=some te∧o0.op=.entry (.tmp it))∧(o1.guard=none∧o1.dst=some tk∧o1.op=.extract (.tmp te) 0)∧(o2.guard=none∧o2.dst=some key∧o2.op=.assign (.tmp tk))
theorem Pr{x:TypeId×Operand×Tmp×Tmp}(h:Pq ops.toList=some x):iF ops x.1 x.2.1 x.2.2.1 x.2.2.2:=by
 unfold Pq at h
 split at h
 ·rename_i o0 o1 hl
  simp only[xY]at h
  obtain⟨p0,h1,p1,h2,l,h3,r,h4,h5⟩:=h
  obtain⟨h6,h7⟩:=AD h5
  simp only[Bool.and_eq_true]at h6
  injection h7 with h7
  subst h7
  obtain⟨a1,a2,a3⟩:=C3 h1
  obtain⟨b1,b2,b3⟩:=C3 h2
  rw[QJ h3]at a3
  rw[Od h4,← Ap h6.1,← Ap h6.2]at b3
  exact⟨o0,o1,hl,⟨a1,a2,a3⟩,b1,b2,b3⟩
 ·cases h
theorem Pt{it:Tmp}{x:Tmp×Tmp}(h:Ps it ops.toList=some x):OY ops it x.1 x.2:=by
 unfold Ps at h
 split at h
 ·rename_i o0 o1 hl
  simp only[xY]at h
  obtain⟨p0,h1,p1,h2,l,h3,r,h4,h5⟩:=h
  obtain⟨h6,h7⟩:=AD h5
  simp only[Bool.and_eq_true]at h6
  injection h7 with h7
  subst h7
  obtain⟨a1,a2,a3⟩:=C3 h1
  obtain⟨b1,b2,b3⟩:=C3 h2
  rw[QK h3,Ap h6.1]at a3
  rw[LZ h4,Ap h6.2]at b3
  exact⟨o0,o1,hl,⟨a1,a2,a3⟩,b1,b2,b3⟩
 ·cases h
theorem NM{it:Tmp}{x:Tmp×Tmp×Tmp}(h:Mt it ops.toList=some x):LO ops it x.1 x.2.1 x.2.2:=by
 unfold Mt at h
 split at h
 ·rename_i o0 o1 o2 hl
  simp only[xY]at h
  obtain⟨p0,h1,p1,h2,p2,h0,l,h3,r,h4,k,h8,h5⟩:=h
  obtain⟨h6,h7⟩:=AD h5
  simp only[Bool.and_eq_true]at h6
  injection h7 with h7
  subst h7
  obtain⟨a1,a2,a3⟩:=C3 h1
  obtain⟨b1,b2,b3⟩:=C3 h2
  obtain⟨c1,c2,c3⟩:=C3 h0
  rw[Ob h3,Ap h6.1]at a3
  rw[LZ h4,Ap h6.2.1]at b3
  rw[TI h8,Ap h6.2.2]at c3
  exact⟨o0,o1,o2,hl,⟨a1,a2,a3⟩,⟨b1,b2,b3⟩,c1,c2,c3⟩
 ·cases h
theorem DC{t:Tmp}{v:Value}(h:t<a.tmps.size):(a.put (some t) v).eval (.tmp t)=v:=by
 simp[Act.put,Act.eval,Array.getD_eq_getD_getElem?,h]
theorem SI{i2:Nat}{it tn ok:Tmp}{r0:Addr}(h:OY ops it tn ok)(hit:a.eval (.tmp it)=.pointer (some r0))(htn:tn<a.tmps.size)
    (hrun:∀ty:TypeId,∃l b w',l[0]? = some b∧(Instr.next (.pointer (some r0)) false ty).run P w=.ok (.tuple l) w'∧Q .normal ((a.put (some tn) (.tuple l)).put (some ok) b) w'):
    (Code.region i2 ops false).wpIn (Jd rnd) 0 P Q a w:=by
  obtain⟨o0,o1,hl,⟨a1,a2,a3⟩,b1,b2,b3⟩:=h.ex
  obtain⟨l,b,w',h1,h2,h3⟩:=hrun o0.type
  refine wpIn_region ?_
  rw[Mf hl]
  show wpOpsIn (Jd rnd) 0 P ops Q [0,1] a w
  rw[wpOpsIn_cons]
  refine IX (IZ hl 0) a1 (fun c e=>by rw[a3]at e;cases e) (v':=.tuple l) (w':=w') ?_ ?_
  · simp only[execOp,a3,hit,Sem.run_bind,h2,Result.andThen,Sem.run_pure]
  · rw [wpOpsIn_cons, a2]
    refine IX (IZ hl 1) b1 (fun c e=>by rw[b3]at e;cases e) (v':=b) (w':=w') ?_ ?_
    · simp only[execOp,b3,DC htn,Instr.extract,h1,Sem.run_bind,Result.andThen,Sem.run_pure]
    · rw[b2]
      exact h3
theorem PG           {i3 : Nat} {it te tk key : Tmp} {r0 : Addr} {l : Array Value} {b : Value} (h : LO       ops it te tk key) (hit : a.eval (.tmp it) = .pointer (some r0)) (hte : te < a.tmps.size) (htk : tk < a.tmps.size)
    (hl0:l[0]? = some b) (hrun:(Instr.entry (.pointer (some r0))).run P w=.ok (.tuple l) w) (hq:Q .normal (((a.put (some te) (.tuple l)).put (some tk) b).put (some key) b) w):
    (Code.region i3 ops false).wpIn (Jd rnd) 0 P Q a w:=by
  obtain⟨o0,o1,o2,hl,⟨a1,a2,a3⟩,⟨b1,b2,b3⟩,c1,c2,c3⟩:=h.ex
  refine wpIn_region ?_
  rw[Mf hl]
  show wpOpsIn (Jd rnd) 0 P ops Q [0,1,2] a w
  rw[wpOpsIn_cons]
  refine IX (IZ hl 0) a1 (fun c e=>by rw[a3]at e;cases e) (v':=.tuple l) (w':=w) ?_ ?_
  · simp only[execOp,a3,hit,Sem.run_bind,hrun,Result.andThen,Sem.run_pure]
  · rw [wpOpsIn_cons, a2]
    refine IX (IZ hl 1) b1 (fun c e=>by rw[b3]at e;cases e) (v':=b) (w':=w) ?_ ?_
    · simp only[execOp,b3,DC hte,Instr.extract,hl0,Sem.run_bind,Result.andThen,Sem.run_pure]
    · rw [wpOpsIn_cons, b2]
      refine IX (IZ hl 2) c1 (fun c e=>by rw[c3]at e;cases e) (v':=b) (w':=w) ?_ ?_
      · simp only[execOp,c3,DC (a:=a.put (some te) (.tuple l)) (t:=tk) (v:=b) (by rw[Bl];exact htk),Sem.run_pure]
      · rw[c2]
        exact hq
structure U5(ρi:BU)(es:Array MapEntry)(f0 f1:AV→Option (List AV))(AF:List AV):Prop where
 ex:∀e∈es.toList,∃k,Ab ρi k e.key∧(∃X,f0 k=some X∧OV X AF)∧(∃X,f1 k=some X∧OV X AF)
theorem Jv{id2:Nat}{e:LN}{K:Act→World→Prop}{Q':Exit→Act→World→Prop}(h:Ni id2 e=true)(hk:K a w):Exit.inBlock id2 (Exit.then K Q') (Ge e) a w:=by
 cases e with
 | normal=>exact hk
 | exit i =>
  have:i=id2:=Ap h
  show(if i=id2 then _ else _)
  rw[if_pos this]
  exact hk
 | ret=>cases h
variable{fn:Func}{A0 AF:List AV}{marks:List Nat}{bm clock:Nat}{es:Array MapEntry}{it tn ok te tk key:Tmp}{jt jok jk:Nat}
structure YI(P:Program)(fn:Func)(it tn ok te tk key:Tmp)(jt jok jk:Nat):Prop where
 hjt:BE (Ao P fn) it=some jt
 hjok:BE (Ao P fn) ok=some jok
 hjk:BE (Ao P fn) key=some jk
 ntn:BE (Ao P fn) tn=none
 nte:BE (Ao P fn) te=none
 ntk:BE (Ao P fn) tk=none
 ltn:tn<fn.ntmps
 lte:te<fn.ntmps
 ltk:tk<fn.ntmps
 lok:ok<fn.ntmps
 lkey:key<fn.ntmps
 d1:jt≠jok
 d2:jt≠jk
 d3:jok≠jk
theorem Wj{ρi:BU}{A:List AV}{tmps:Array Value}(hs:YI P fn it tn ok te tk key jt jok jk)(hv:BK P ρi fn A tmps)(hj:Ma A jt=.ptr (some (s.next,0)))(hr:ρi s.next=some ⟨w.heap.size,0,0,0⟩):
  tmps.getD it undef=.pointer (some ⟨w.heap.size,0,none⟩):=by
 obtain⟨_,v,h1,h2⟩:=hv.rel it jt hs.hjt
 rw[Mb h1]at hj
 subst hj
 generalize tmps.getD it undef=x at h2
 cases h2 with
 | ptr h =>
  rw[hr]at h
  injection h with h
  subst h
  rfl
theorem Xt        {F : D4}  (hcode : Jf     P F) {f : FuncId} {ops2 ops3 : Array Oper} {i2 i3 idb id2 : Nat} {body : Code} {r : Je}   (hf : P.funcs[f]? = some fn) (hs : YI    P fn it tn ok te tk key r.jt r.jok r.jk) (h2 : OY      ops2 it tn ok) (h3 : LO       ops3 it te tk key)
    (hi:Ba P ρ s w) (hfr:BA ρ s) (hm:w.heap[bm]? = some (.map es clock)) (hst:MapKept.Stamped es clock) {rd:Option Nat} (hrnd:LT ρ rd rnd) (hid:id2=r.id2)
    (hcov:OV A0 AF) (hA0:Ma A0 r.jt=.ptr (some (s.next,0))) (hAF:Ma AF r.jt=.ptr (some (s.next,0)))
    (hro:U5 (CH ρ s w) es (Cu F rd r (Al P f fn.ntmps (Ao P fn) body) A0 marks (frz (s.next+1) s.heap)) (Cu F rd r (Al P f fn.ntmps (Ao P fn) body) AF marks (frz (s.next+1) s.heap)) AF)
    (hq:∀a' w' seen',Hd w w' bm clock seen'→BK P (CH ρ s w) fn (Gf (.bool false) AF r.jok) a'.tmps→CD (CH ρ s w) marks a'.defers→Q .normal a' w'):
    ∀ (m:Nat) (A:List AV) (a:Act) (w1:World) (seen:Array Nat),(leftOf es seen).size<m→(A=AF∨A=A0∧0<(leftOf es seen).size)→Hd w w1 bm clock seen→BK P (CH ρ s w) fn A a.tmps→CD (CH ρ s w) marks a.defers →
      Code.roundsIn (Jd rnd) 0 P (.seq (.region i2 ops2 false) (.seq (.cond (.tmp ok) .skip (.exit idb)) (.block id2 (.seq (.region i3 ops3 false) body)))) (Exit.inBlock idb Q) m a w1:=by
  intro m
  induction m with
  | zero=>intro A a w1 seen h;omega
  | succ m ih =>
    intro A a w1 seen hlt hA hd hv hmk
    have hlt0:bm<w.heap.size:=by
      rcases xf bm w.heap.size with h | h
      · exact h
      · simp[Array.getElem?_eq_none h]at hm
    have hn:=(hfr s.next (xZ _)).1
    have hrit:CH ρ s w s.next=some ⟨w.heap.size,0,0,0⟩:=Ac _ _
    have hjA:Ma A r.jt=.ptr (some (s.next,0)):=by rcases hA with rfl | ⟨rfl,_⟩<;>assumption
    have hit:a.eval (.tmp it)=.pointer (some ⟨w.heap.size,0,none⟩):=Wj hs hv hjA hrit
    have hm1:w1.heap[bm]? = some (.map es clock):=by rw[hd.old bm hlt0];exact hm
    obtain⟨c0,hc0,hiter⟩:=hd.it
    have hst':=(MapKept.stamped_iff es clock).1 hst
    have hsz:fn.ntmps≤a.tmps.size:=hv.size
    rw[roundsIn_succ]
    refine wpIn_seq (SI h2 hit (xi hs.ltn hsz) fun ty=>?_)
    rcases run_next_at (P:=P) w1 ty w.heap.size bm clock c0 seen es clock hiter hm1 hst'.1 hc0 with⟨hz,hrun⟩ | ⟨e,he,w2,hw2,hrun⟩
    · refine⟨_,.bool false,w1,rfl,hrun,?_⟩
      have hAF':A=AF:=by
        rcases hA with h | ⟨_,h⟩
        · exact h
        · omega
      subst hAF'
      have hv1:BK P (CH ρ s w) fn A (a.put (some tn) (.tuple #[.bool false])).tmps:=Ja hv hs.ntn _
      have hv2:BK P (CH ρ s w) fn (Gf (.bool false) A r.jok) ((a.put (some tn) (.tuple #[.bool false])).put (some ok) (.bool false)).tmps:=P2 hv1 hs.hjok (.bool false) (by rw[Bl];exact xi hs.lok hsz)
      refine wpIn_seq (wpIn_cond (t:=false) ?_ ?_)
      · exact DC (by rw[Bl];exact xi hs.lok hsz)
      · refine wpIn_exit ?_
        show(if idb=idb then Q .normal _ _ else _)
        rw[if_pos rfl]
        exact hq _ _ _ hd hv2 (by rw[CV,CV];exact hmk)
    · refine⟨_,.bool true,_,rfl,hrun,?_⟩
      have LD:Hd w (setBlock w2 w.heap.size (.mapIter (some bm) clock (seen.push e.born) clock)) bm clock (seen.push e.born):=hd.step (xZ _) hw2
      have hit3:(setBlock w2 w.heap.size (.mapIter (some bm) clock (seen.push e.born) clock)).heap[w.heap.size]? = some (.mapIter (some bm) clock (seen.push e.born) clock):=by
        have e1:w2.heap=w1.heap:=by rcases hw2 with rfl | rfl<;>rfl
        have hl:=hd.lt
        show(w2.heap.setIfInBounds _ _)[w.heap.size]? = _
        rw[e1]
        simp[hl]
      generalize setBlock w2 w.heap.size (.mapIter (some bm) clock (seen.push e.born) clock)=w3 at LD hit3
      have hm3:w3.heap[bm]? = some (.map es clock):=by rw[LD.old bm hlt0];exact hm
      obtain⟨hes,_⟩:=mem_left he
      obtain⟨k,hk,hk0,hk1⟩:=hro.ex e hes
      have hround:∃X,Cu F rd r (Al P f fn.ntmps (Ao P fn) body) A marks (frz (s.next+1) s.heap) k=some X∧OV X AF:=by
        rcases hA with rfl | ⟨rfl,_⟩<;>assumption
      have hcA:OV A AF:=by
        rcases hA with rfl | ⟨rfl,_⟩
        · exact .refl _
        · exact hcov
      obtain⟨X,hround,hcX⟩:=hround
      have hv1:BK P (CH ρ s w) fn A (a.put (some tn) (.tuple #[.bool true,e.key,e.val])).tmps:=Ja hv hs.ntn _
      have hv2:BK P (CH ρ s w) fn (Gf (.bool true) A r.jok) ((a.put (some tn) (.tuple #[.bool true,e.key,e.val])).put (some ok) (.bool true)).tmps:=P2 hv1 hs.hjok (.bool true) (by rw[Bl];exact xi hs.lok hsz)
      have hjA2:Ma (Gf (.bool true) A r.jok) r.jt=.ptr (some (s.next,0)):=by rw[Fg hs.d1];exact hjA
      refine wpIn_seq (wpIn_cond (t:=true) ?_ (wpIn_skip ?_))
      · exact DC (by rw[Bl];exact xi hs.lok hsz)
      show Code.wpIn (Jd rnd) 0 P _ _ _ _
      have hmk2:CD (CH ρ s w) marks ((a.put (some tn) (.tuple #[.bool true,e.key,e.val])).put (some ok) (.bool true)).defers:=by rw[CV,CV];exact hmk
      have hsz2:fn.ntmps≤((a.put (some tn) (.tuple #[.bool true,e.key,e.val])).put (some ok) (.bool true)).tmps.size:=hv2.size
      generalize (a.put (some tn) (.tuple #[.bool true,e.key,e.val])).put (some ok) (.bool true)=a2 at hv2 hmk2 hsz2
      refine wpIn_block (wpIn_seq (PG h3 (Wj hs hv2 hjA2 hrit) (xi hs.lte hsz2) (xi hs.ltk hsz2) (l:=#[e.key,e.val]) (b:=e.key) rfl (run_entry_at w3 w.heap.size bm clock seen es clock e hit3 hm3 hes hst'.2.1) ?_))
      show Code.wpIn (Jd rnd) 0 P _ _ _ _
      have hv3:BK P (CH ρ s w) fn (Gf k (Gf (.bool true) A r.jok) r.jk) (((a2.put (some te) (.tuple #[e.key,e.val])).put (some tk) e.key).put (some key) e.key).tmps:=by
        have g1:BK P (CH ρ s w) fn (Gf (.bool true) A r.jok) (a2.put (some te) (.tuple #[e.key,e.val])).tmps:=Ja hv2 hs.nte _
        have g2:BK P (CH ρ s w) fn (Gf (.bool true) A r.jok) ((a2.put (some te) (.tuple #[e.key,e.val])).put (some tk) e.key).tmps:=Ja g1 hs.ntk _
        exact P2 g2 hs.hjk hk (by rw[Bl,Bl];exact xi hs.lkey hsz2)
      have hmk3:CD (CH ρ s w) marks (((a2.put (some te) (.tuple #[e.key,e.val])).put (some tk) e.key).put (some key) e.key).defers:=by rw[CV,CV,CV];exact hmk2
      generalize ((a2.put (some te) (.tuple #[e.key,e.val])).put (some tk) e.key).put (some key) e.key=a3 at hv3 hmk3
      unfold Cu at hround
      simp only[xY]at hround
      obtain⟨q,hq1,hq2⟩:=hround
      obtain⟨hq3,hq4⟩:=AD hq2
      injection hq4 with hq4
      subst hq4
      simp only[Bool.and_eq_true]at hq3
      have hmkq:=JU hq3.2
      refine hcode f fn body rd rnd _ marks (frz (s.next+1) s.heap) q (CH ρ s w) w3 a3 _ hf hq1 ⟨(LD.inv hi hfr).frz (s.next+1),(RW hfr).frz,hv3,hmk3,hrnd.mono (Bh hn)⟩ ?_
      intro a4 w4 ρ4 g
      have hle4:=g.fr.le
      have hd4:Hd w w4 bm clock (seen.push e.born):=LD.round P (t:=s.heap) (n:=s.next+1) g.fr
      have hmg:BK P (CH ρ s w) fn AF a4.tmps:=Ux hv g.vars hle4 hcA hcX
      have hmk4:CD (CH ρ s w) marks a4.defers:=by
        have:=g.marks
        rw[hmkq]at this
        rw[Nx hmk3 this hle4]
        exact hmk3
      subst hid
      refine Jv hq3.1 ?_
      exact ih AF a4 w4 (seen.push e.born) (by have:=left_shrinks es seen e he;omega) (.inl rfl) hd4 hmg hmk4
theorem M0(o:Option Je)(x y:Aa):Mz o x y=.seq x y∨∃r c,Mz o x y=.rangeMap r c∧o=some r∧Hm y=some c:=by
 unfold Mz
 cases o with
 | none=>exact .inl rfl
 | some r =>
  cases h:Hm y with
  | none=>simp[h]
  | some c=>exact .inr ⟨r,c,rfl,rfl,rfl⟩
theorem JQ{g:AV→Option (List AV)}{B:List AV}:∀ {l:List (AV×AV)},E4 g B l=true→∀x∈l,∃X,g x.1=some X∧OV X B
 | [],h,x,hx=>by cases hx
 | e::l,h,x,hx=>by
  unfold E4 at h
  simp only[Bool.and_eq_true]at h
  rcases List.mem_cons.1 hx with rfl | hx
  ·have h1:=h.1
   cases he:g x.1 with
   | none=>rw[he]at h1;cases h1
   | some X=>rw[he]at h1;exact⟨X,rfl,RJ h1⟩
  ·exact JQ h.2 x hx
theorem Kk{g:AV→Option (List AV)}:∀ {l:List (AV×AV)}{B C:List AV},Id g B l=some C→OV B C∧∀x∈l,∃X,g x.1=some X∧OV X C
 | [],B,C,h=>by injection h with h;subst h;exact⟨.refl _,fun x hx=>by cases hx⟩
 | e::l,B,C,h=>by
  unfold Id at h
  simp only[xY]at h
  obtain⟨X,h1,B',h2,h3⟩:=h
  obtain⟨g1,g2⟩:=MT h2
  obtain⟨g3,g4⟩:=Kk h3
  refine⟨g1.trans g3,fun x hx=>?_⟩
  rcases List.mem_cons.1 hx with rfl | hx
  ·exact⟨X,h1,g2.trans g3⟩
  ·exact g4 x hx
theorem EZ.mem{l:List (AV×AV)}{l':List MapEntry}(h:EZ ρ l l'):∀e∈l',∃x∈l,Ab ρ x.1 e.key:=by
 induction h with
 | nil=>intro e he;cases he
 | cons hk hv hs ih =>
  intro e he
  rcases List.mem_cons.1 he with rfl | he
  ·exact⟨_,yC ..,hk⟩
  ·obtain⟨x,h1,h2⟩:=ih e he
   exact⟨x,yK _ h1,h2⟩
theorem ta     {F : D4}  (hcode : Jf     P F) {f : FuncId} {c b : Code} {r : Je}   {cb : Aa}    {rd : Option Nat} {var : List AV} {res : Ay}   (hf : P.funcs[f]? = some fn) (hr : IA    P fn.ntmps (Ao     P fn) c b = some r)
    (hcb:Hm (Al P f fn.ntmps (Ao P fn) b)=some cb) (hc:iZ F rd r cb var marks s=some res) (hb:IG P fn ρ s w var marks rd rnd a)
    (hq:∀a' w' ρ',IH P fn ρ s w res a' w' ρ'→Q (Ge res.exit) a' w'):(Code.seq c b).wpIn (Jd rnd) 0 P Q a w:=by
  unfold IA at hr
  split at hr<;>first | (cases hr;done) | skip
  rename_i b i1 ops1 d1
  simp only[xY]at hr
  obtain⟨p,hp,hr⟩:=hr
  unfold gL at hp
  split at hp<;>first | (cases hp;done) | skip
  rename_i idb i2 ops2 tc ide id2 i3 ops3 body
  obtain⟨H4,hp⟩:=AD hp
  simp only[xY]at hp
  obtain⟨h,hh,n,hn,e,he,hp⟩:=hp
  obtain⟨hg,hp⟩:=AD hp
  simp only[Bool.and_eq_true]at hg
  injection hp with hpe
  have e1:=Ap hg.1
  have e2:=Ap hg.2
  subst e1
  subst e2
  cases d1 with
  | true=>cases H4
  | false =>
  have H1:=Pr hh
  have H2:=Pt hn
  have H3:=NM he
  have hcb':cb=Al P f fn.ntmps (Ao P fn) body:=by
    simp only[Al]at hcb
    rcases M0 (IA P fn.ntmps (Ao P fn) (.region i2 ops2 false) (.seq (.cond (.tmp n.2) .skip (.exit ide)) (.block id2 (.seq (.region i3 ops3 false) body)))) (Al P f fn.ntmps (Ao P fn) (.region i2 ops2 false)) (Al P f fn.ntmps (Ao P fn) (.seq (.cond (.tmp n.2) .skip (.exit ide)) (.block id2 (.seq (.region i3 ops3 false) body))))with h1 | ⟨r',c',h1,h2,_⟩
    · simp only[Al]at h1
      rw[h1]at hcb
      rcases M0 (IA P fn.ntmps (Ao P fn) (.region i3 ops3 false) body) (Al P f fn.ntmps (Ao P fn) (.region i3 ops3 false)) (Al P f fn.ntmps (Ao P fn) body)with h2 | ⟨r',c',h2,_,_⟩
      · simp only[Al]at h2
        rw[h2]at hcb
        simp only[IA,Mz,Hm]at hcb
        injection hcb with hcb
        exact hcb.symm
      · simp only[Al]at h2
        rw[h2]at hcb
        simp only[IA,Mz,Hm]at hcb
        cases hcb
    · simp only[IA,gL]at h2
      cases h2
  subst hcb'
  clear hcb
  unfold Vq at hr
  simp only[xY]at hr
  obtain⟨ad,hx,jt,hjt,jok,hjok,jk,hjk,hr⟩:=hr
  obtain⟨g1,hr⟩:=AD hr
  obtain⟨g2,hr⟩:=AD hr
  obtain⟨g3,hr⟩:=AD hr
  injection hr with hr
  subst hpe
  simp only at hx hjt hjok hjk g1 g2 g3 hr
  simp only[Bool.and_eq_true,Option.isNone_iff_eq_none,Bool.not_eq_true']at g1 g2 g3
  have blt:∀ {x y:Nat},Nat.blt x y=true→x<y:=fun h=>Nat.le_of_ble_eq_true h
  have bne:∀ {x y:Nat},Nat.beq x y=false→x≠y:=fun h e=>by subst e;simp at h
  have hs:YI P fn h.2.2.2 n.1 n.2 e.1 e.2.1 e.2.2 r.jt r.jok r.jk:=by
    subst hr
    exact⟨hjt,hjok,hjk,g1.2.1,g1.2.2.1,g1.2.2.2,blt g2.2.1,blt g2.2.2.1,blt g2.2.2.2.1,blt g2.2.2.2.2.2.1,blt g2.2.2.2.2.2.2,bne g3.2.1,bne g3.2.2.1,bne g3.2.2.2⟩
  have hrid:id2=r.id2:=by subst hr;rfl
  have hrad:r.ad=ad:=by subst hr;rfl
  have hrrd:∀s v,r.rd s v=AC P s h.1 v:=by subst hr;intro s v;rfl
  clear hr
  unfold iZ at hc
  simp only[xY]at hc
  obtain⟨m,hm,es,hes,hc⟩:=hc
  rw[hrrd,hrad]at hm
  unfold PC at hc
  simp only[xY]at hc
  obtain⟨AF,hAF,hc⟩:=hc
  injection hc with hc
  subst hc
  have hents:∃i kt es',m=.map (some i)∧es=es'∧(s.heap.get i=some (.map kt es')∨s.heap.get i=some (.mapRo kt es')):=by
    unfold WA at hes
    split at hes<;>first | (cases hes;done) | skip
    rename_i i
    split at hes<;>first | (cases hes;done) | skip
    · rename_i kt es' hget
      injection hes with hes
      exact⟨i,kt,es',rfl,hes.symm,.inl hget⟩
    · rename_i kt es' hget
      injection hes with hes
      exact⟨i,kt,es',rfl,hes.symm,.inr hget⟩
  obtain⟨i,kt,es',rfl,rfl,hget⟩:=hents
  clear hes
  obtain⟨v',hrun,hv',hdrop⟩:=MM hb.inv hm (Md hb.vars hx)
  clear hdrop
  cases hv' with
  | map hρ =>
  rename_i rb
  obtain⟨esM,clock,hM,hst,⟨l,hperm,herel⟩,_⟩:=(show KN P ρ w kt es rb from hget.elim (fun h=>hb.inv.obj i _ rb h hρ) (fun h=>hb.inv.obj i _ rb h hρ)).ex
  have hmt:∃k e,P.underlying h.1=some (.map k e):=by
    have:=g3.1
    unfold Jz at this
    split at this
    · rename_i k e hu;exact⟨k,e,hu⟩
    · cases this
  obtain⟨tk,te,hmt⟩:=hmt
  have hn0:=(hb.fresh s.next (xZ _)).1
  have hle:ρ.le (CH ρ s w):=Bh hn0
  have hrit:CH ρ s w s.next=some ⟨w.heap.size,0,0,0⟩:=Ac _ _
  obtain⟨o0,o1,hl,⟨a1,a2,a3⟩,b1,b2,b3⟩:=H1.ex
  have hsz:fn.ntmps≤a.tmps.size:=hb.vars.size
  refine wpIn_seq (wpIn_region ?_)
  rw[Mf hl]
  show wpOpsIn (Jd rnd) 0 P ops1 _ [0,1] a w
  rw[wpOpsIn_cons]
  refine IX (IZ hl 0) a1 (fun c e=>by rw[a3]at e;cases e) (v':=.map (some rb.b)) (w':=w) ?_ ?_
  · simp only[execOp,a3,hrun,Sem.run_bind,Result.andThen,Sem.run_pure]
  rw[wpOpsIn_cons,a2]
  refine IX (IZ hl 1) b1 (fun c e=>by rw[b3]at e;cases e) (v':=.pointer (some ⟨w.heap.size,0,none⟩)) (w':=w.alloc (.mapIter (some rb.b) clock #[] clock)) ?_ ?_
  · simp only[execOp,b3,DC (xi (blt g2.1) hsz),Sem.run_bind,run_range_map w h.1 tk te rb.b esM clock hmt hM,Result.andThen,Sem.run_pure]
  rw[b2]
  show Code.wpIn (Jd rnd) 0 P _ _ _ _
  have hd0:Hd w (w.alloc (.mapIter (some rb.b) clock #[] clock)) rb.b clock #[]:=
    ⟨by simp,fun b hb=>heap_alloc_old w _ hb,rfl,rfl,rfl,clock,xZ _,heap_alloc_new w _⟩
  have hv0:BK P (CH ρ s w) fn (Gf (.ptr (some (s.next,0))) var r.jt) ((a.put (some h.2.2.1) (.map (some rb.b))).put (some h.2.2.2) (.pointer (some ⟨w.heap.size,0,none⟩))).tmps:=by
    have k1:BK P (CH ρ s w) fn var (a.put (some h.2.2.1) (.map (some rb.b))).tmps:=Ja (hb.vars.mono hle) g1.1 _
    exact P2 k1 hs.hjt (Ab.ptr (rb:=⟨w.heap.size,0,0,0⟩) (o:=0) hrit) (by rw[Bl];exact xi (blt g2.2.2.2.2.1) hsz)
  have hmk0:CD (CH ρ s w) marks ((a.put (some h.2.2.1) (.map (some rb.b))).put (some h.2.2.2) (.pointer (some ⟨w.heap.size,0,none⟩))).defers:=by
    rw[CV,CV];exact hb.marks.mono hle
  generalize (a.put (some h.2.2.1) (.map (some rb.b))).put (some h.2.2.2) (.pointer (some ⟨w.heap.size,0,none⟩))=a0 at hv0 hmk0
  have hA0:Ma (Gf (.ptr (some (s.next,0))) var r.jt) r.jt=.ptr (some (s.next,0)):=JG (by rw[hb.vars.len];exact Du hs.hjt)
  generalize hA0e:Gf (.ptr (some (s.next,0))) var r.jt=A0 at hAF hv0 hA0
  have hleft:(leftOf esM #[]).size=es.length:=by
    have:leftOf esM #[]=esM:=by unfold leftOf;simp
    rw[this,herel.length,hperm.length_eq]
    simp
  unfold Mu at hAF
  simp only[xY]at hAF
  obtain⟨A1,k1,k2⟩:=hAF
  obtain⟨k3,k4⟩:=AD k2
  injection k4 with k4
  subst k4
  simp only[Bool.and_eq_true]at k3
  have hjF:Ma A1 r.jt=.ptr (some (s.next,0)):=L4 k3.2.1
  obtain⟨k5,k6⟩:=Kk k1
  have k7:=JQ k3.1
  have hro:U5 (CH ρ s w) esM (Cu F rd r (Al P f fn.ntmps (Ao P fn) body) A0 marks (frz (s.next+1) s.heap)) (Cu F rd r (Al P f fn.ntmps (Ao P fn) body) A1 marks (frz (s.next+1) s.heap)) A1:=by
    refine⟨fun e he=>?_⟩
    obtain⟨x,hx1,hx2⟩:=herel.mem e (hperm.mem_iff.2 he)
    exact⟨x.1,hx2.mono hle,k6 x hx1,k7 x hx1⟩
  have hA:A0=A1∨A0=A0∧0<(leftOf esM #[]).size:=by
    rw[hleft]
    cases es with
    | nil=>injection k1 with k1;exact .inl k1
    | cons x l=>exact .inr ⟨rfl,by simp⟩
  refine wpIn_block (wpIn_loop_rounds ((leftOf esM #[]).size+1) ?_)
  refine Xt hcode hf hs H2 H3 hb.inv hb.fresh hM hst hb.rnd hrid k5 hA0 hjF hro ?_ _ A0 a0 _ #[] (yg _) hA hd0 hv0 hmk0
  intro a' w' seen' hd' hv' hmk'
  exact hq a' w' (CH ρ s w) ⟨hd'.inv hb.inv hb.fresh,RW hb.fresh,hd'.fr hb.fresh,hv',hmk'⟩
end
end
end Go.Proofs.YtjnkfbpadpmakaaGreatDoor.Am
set_option linter.unusedVariables false
set_option linter.unusedSimpArgs false
namespace Go.Proofs.YtjnkfbpadpmakaaGreatDoor.Am
open Go
noncomputable section
section
variable{P:Program}{ρ ρ1 ρ2:BU}{s s1 s2:AE}{w w1 w2:World}
theorem gH(hng:Ev P){F:D4}(hcall:Ei P F.call){f:FuncId}{fn:Func}{g:Operand}{x:CX}{ps:Array Tmp}{assign body:Code}{rnd r:Option Nat}{var:List AV}{marks:List Nat}{s:AE}{res:Ay}{ρ:BU}{w:World}{a:Act}{Q:Exit→Act→World→Prop}
    (hf:P.funcs[f]? = some fn) (hx:Er (Ao P fn) ⟨[],0⟩ g=some x) (hc:Ls F rnd f (DK [] var x) ps assign body var marks s=some res) (hb:IG P fn ρ s w var marks rnd r a)
    (hq:∀a' w' ρ',IH P fn ρ s w res a' w' ρ'→Q (Ge res.exit) a' w'):(Code.rangeFunc g ps assign body).wpIn (Jd r) 0 P Q a w:=by
  have hgv:Ab ρ (DK [] var x) (a.eval g):=Md hb.vars hx
  have res1:∀l:Nat,(resolve a.eval (rangeCall g l) 0:Sem Deferred)=Deferred.ofValue (a.eval g) #[.func (.yield l) #[] #[]]:=by
    intro l
    simp[resolve,Act.eval]
  refine wpIn_rangeFunc fun fn' _=>?_
  unfold Ls at hc
  cases rnd with
  | some l =>
    simp only[xY]at hc
    obtain⟨al,hl,hc⟩:=hc
    obtain⟨rb,h1,h2⟩:=hb.rnd
    subst h2
    have hgl:=Dt hl
    obtain⟨L,h0,_,_,_,_,_,⟨rd,H4,LD⟩,_⟩:=(hb.inv.obj _ _ _ hgl h1:Gu P ρ w al rb).ex
    have hent:=Hy (P:=P) h0 fn' a.tmps ps assign body
    rw[LD]at hent
    obtain⟨d,f0,args,k1,k2,k3⟩:=Mp (r:=some rb.b) (Q:=Q) hng hcall hf hc hb.inv hb.fresh hb.vars hb.marks hgv H4 fn' fun w' ρ' h=>hq a w' ρ' h
    refine⟨_,_,_,d,_,f0,args,_,hent,?_,fun _ _=>trivial,k2 _,(fun e=>by cases e),k3⟩
    rw[res1,k1]
    rfl
  | none =>
    have hr:r=none:=hb.rnd
    subst hr
    let rb:RB:=⟨w.heap.size,0,0,0⟩
    have hn0:=(hb.fresh _ (xZ s.next)).1
    have hle:=Bh (rb:=rb) hn0
    obtain⟨hi1,hfr1⟩:=hb.inv.new (o:=.mark) (o':=.deferred (some [])) (rb:=rb) hn0 rfl (World.alloc_heap_new w _)
    have hff:=hb.fresh.new .mark rb
    have H4:B9 ρ s.next rb s.next=some rb:=Ac _ _
    obtain⟨d,f0,args,k1,k2,k3⟩:=Mp (r:=none) (Q:=Q) (a:={ a with defers:=[{ target:=.collected w.heap.size,args:=#[] }]++a.defers }) hng hcall hf hc hi1 hff (hb.vars.mono hle)
      ⟨rb,a.defers,H4,rfl,hb.marks.mono hle⟩ (hgv.mono hle) H4 fn' fun w' ρ' h=>hq _ w' ρ' (IH.trans (r1:=res) (a1:=a) hfr1 h)
    have hsz:(w.alloc (.deferred (some []))).heap.size=w.heap.size+1:=by simp
    rw[hsz]at k1 k3
    refine⟨_,_,_,d,_,f0,args,_,run_enterLoop_outer fn' a.tmps ps assign body,?_,fun _ _=>trivial,k2 _,(fun e=>by cases e),k3⟩
    rw[res1,k1]
    rfl
theorem XB        (hm : P.follows .mixedOrders = true) (hng : Ev      P) {F : D4}  {n : Nat} (h : QD    P F n) {call : FuncId → List AV → AE  → Option (AV × AE)}  {round : Nat → List AV → AE  → Option (AV × AE)}  : Jf     P ⟨DG    F, call, round⟩ := by
  intro f fn c
  have hF:=h.fok hng
  induction c with
  | skip =>
    intro rnd r var marks s res ρ w a Q hf hc hb hq
    injection (show some (⟨.normal,var,marks,s⟩:Ay)=some res from hc)with hc
    subst hc
    exact wpIn_skip (hq a w ρ ⟨hb.inv,hb.fresh,Fr.refl _ _ _,hb.vars,hb.marks⟩)
  | label l =>
    intro rnd r var marks s res ρ w a Q hf hc hb hq
    injection (show some (⟨.normal,var,marks,s⟩:Ay)=some res from hc)with hc
    subst hc
    exact wpIn_label (hq a w ρ ⟨hb.inv,hb.fresh,Fr.refl _ _ _,hb.vars,hb.marks⟩)
  | ret =>
    intro rnd r var marks s res ρ w a Q hf hc hb hq
    injection (show some (⟨.ret,var,marks,s⟩:Ay)=some res from hc)with hc
    subst hc
    exact wpIn_ret (hq a w ρ ⟨hb.inv,hb.fresh,Fr.refl _ _ _,hb.vars,hb.marks⟩)
  | exit id =>
    intro rnd r var marks s res ρ w a Q hf hc hb hq
    injection (show some (⟨.exit id,var,marks,s⟩:Ay)=some res from hc)with hc
    subst hc
    exact wpIn_exit (hq a w ρ ⟨hb.inv,hb.fresh,Fr.refl _ _ _,hb.vars,hb.marks⟩)
  | goto l=>intro rnd r var marks s res ρ w a Q hf hc;cases hc
  | refuse u=>intro rnd r var marks s res ρ w a Q hf hc;cases hc
  | region id ops draw =>
    intro rnd r var marks s res ρ w a Q hf hc hb hq
    exact tR hm hF hc hb hq
  | seq x y ihx ihy =>
    intro rnd r var marks s res ρ w a Q hf hc hb hq
    have hc:DG F rnd (Mz (IA P fn.ntmps (Ao P fn) x y) (Al P f fn.ntmps (Ao P fn) x) (Al P f fn.ntmps (Ao P fn) y)) var marks s=some res:=hc
    rcases M0 (IA P fn.ntmps (Ao P fn) x y) (Al P f fn.ntmps (Ao P fn) x) (Al P f fn.ntmps (Ao P fn) y)with hs | ⟨rm,cb,hs,hr1,hr2⟩
    case inr =>
      rw[hs]at hc
      exact ta h.code hf hr1 hr2 hc hb hq
    rw[hs]at hc
    have hc:Iz F rnd (Al P f fn.ntmps (Ao P fn) y) (F.code rnd (Al P f fn.ntmps (Ao P fn) x) var marks s)=some res:=hc
    unfold Iz at hc
    split at hc<;>first | (cases hc;done) | skip
    rename_i r1 h1
    refine wpIn_seq (h.code f fn x rnd r var marks s r1 ρ w a _ hf h1 hb ?_)
    intro a' w' ρ' g
    unfold Hz at hc
    cases he:r1.exit with
    | normal =>
      rw[he]at hc
      refine h.code f fn y rnd r _ _ _ res ρ' w' a' Q hf hc (g.begins hb) ?_
      intro a2 w2 ρ2 g2
      exact hq a2 w2 ρ2 (IH.trans (r1:=r1) (a1:=a') g.fr g2)
    | exit id =>
      rw[he]at hc
      injection hc with hc
      subst hc
      have:=hq a' w' ρ' g
      rw[he]at this
      exact this
    | ret =>
      rw[he]at hc
      injection hc with hc
      subst hc
      have:=hq a' w' ρ' g
      rw[he]at this
      exact this
  | cond o x y ihx ihy =>
    intro rnd r var marks s res ρ w a Q hf hc hb hq
    simp only[Al]at hc
    cases ho:Er (Ao P fn) ⟨[],0⟩ o with
    | none=>rw[ho]at hc;cases hc
    | some z =>
      rw[ho]at hc
      have hc:RE F rnd (Al P f fn.ntmps (Ao P fn) x) (Al P f fn.ntmps (Ao P fn) y) var marks s (DK [] var z)=some res:=hc
      have hz:=Md hb.vars ho
      unfold RE at hc
      split at hc<;>first | (cases hc;done) | skip
      rename_i t ht
      rw[ht]at hz
      have hev:a.eval o=.bool t:=by
        generalize a.eval o=y at hz
        cases hz;rfl
      refine wpIn_cond hev ?_
      cases t with
      | true=>exact h.code f fn x rnd r var marks s res ρ w a Q hf hc hb hq
      | false=>exact h.code f fn y rnd r var marks s res ρ w a Q hf hc hb hq
  | block id c ih =>
    intro rnd r var marks s res ρ w a Q hf hc hb hq
    have hc:Lr id (F.code rnd (Al P f fn.ntmps (Ao P fn) c) var marks s)=some res:=hc
    unfold Lr at hc
    split at hc<;>first | (cases hc;done) | skip
    rename_i r1 h1
    refine wpIn_block (h.code f fn c rnd r var marks s r1 ρ w a _ hf h1 hb ?_)
    intro a' w' ρ' g
    unfold K1 at hc
    split at hc
    · rename_i id' he
      rw[he]
      simp only[Ge,Exit.inBlock]
      cases hbq:Nat.beq id' id with
      | true =>
        rw[hbq]at hc
        injection hc with hc
        subst hc
        rw[if_pos (Ap hbq)]
        exact hq a' w' ρ' ⟨g.inv,g.fresh,g.fr,g.vars,g.marks⟩
      | false =>
        rw[hbq]at hc
        injection hc with hc
        subst hc
        have:=hq a' w' ρ' g
        rw[he]at this
        rw[if_neg (fun e=>by subst e;simp at hbq)]
        exact this
    · rename_i hne
      injection hc with hc
      subst hc
      have:=hq a' w' ρ' g
      cases he:r1.exit with
      | normal=>rw[he]at this;exact this
      | ret=>rw[he]at this;exact this
      | exit id'=>exact absurd he (hne id')
  | loop c ih =>
    intro rnd r var marks s res ρ w a Q hf hc hb hq
    have hc:Iz F rnd (.loop (Al P f fn.ntmps (Ao P fn) c)) (F.code rnd (Al P f fn.ntmps (Ao P fn) c) var marks s)=some res:=hc
    refine wpIn_loop_rounds (n+1) ?_
    rw[roundsIn_succ]
    unfold Iz at hc
    split at hc<;>first | (cases hc;done) | skip
    rename_i r1 h1
    refine h.code f fn c rnd r var marks s r1 ρ w a _ hf h1 hb ?_
    intro a' w' ρ' g
    unfold Hz at hc
    cases he:r1.exit with
    | normal =>
      rw[he]at hc
      refine h.loop f fn c rnd r _ _ _ res ρ' w' a' Q hf hc (g.begins hb) ?_
      intro a2 w2 ρ2 g2
      exact hq a2 w2 ρ2 (IH.trans (r1:=r1) (a1:=a') g.fr g2)
    | exit id =>
      rw[he]at hc
      injection hc with hc
      subst hc
      have:=hq a' w' ρ' g
      rw[he]at this
      exact this
    | ret =>
      rw[he]at hc
      injection hc with hc
      subst hc
      have:=hq a' w' ρ' g
      rw[he]at this
      exact this
  | scope c ih =>
    intro rnd r var marks s res ρ w a Q hf hc hb hq
    refine U1 (ih rnd r var marks s res ρ w a _ hf hc hb ?_)
    intro a' w' ρ' g
    have:=hq a' w' ρ' g
    cases he:res.exit with
    | normal=>rw[he]at this;exact this
    | ret=>rw[he]at this;exact this
    | exit id'=>rw[he]at this;exact this
  | rangeFunc g ps x y ihx ihy =>
    intro rnd r var marks s res ρ w a Q hf hc hb hq
    simp only[Al]at hc
    cases ho:Er (Ao P fn) ⟨[],0⟩ g with
    | none=>rw[ho]at hc;cases hc
    | some z =>
      rw[ho]at hc
      exact gH hng h.call hf ho hc hb hq
theorem XT{F:D4}{n:Nat}(h:QD P F n){call:FuncId→List AV→AE→Option (AV×AE)}{round:Nat→List AV→AE→Option (AV×AE)}:U4 P ⟨DG F,call,round⟩ (n+1):=by
  intro f fn c rnd r var marks s res ρ w a Q hf hc hb hq
  have hc:Iz F rnd (.loop (Al P f fn.ntmps (Ao P fn) c)) (F.code rnd (Al P f fn.ntmps (Ao P fn) c) var marks s)=some res:=hc
  rw[roundsIn_succ]
  unfold Iz at hc
  split at hc<;>first | (cases hc;done) | skip
  rename_i r1 h1
  refine h.code f fn c rnd r var marks s r1 ρ w a _ hf h1 hb ?_
  intro a' w' ρ' g
  unfold Hz at hc
  cases he:r1.exit with
  | normal =>
    rw[he]at hc
    refine h.loop f fn c rnd r _ _ _ res ρ' w' a' Q hf hc (g.begins hb) ?_
    intro a2 w2 ρ2 g2
    exact hq a2 w2 ρ2 (IH.trans (r1:=r1) (a1:=a') g.fr g2)
  | exit id =>
    rw[he]at hc
    injection hc with hc
    subst hc
    have:=hq a' w' ρ' g
    rw[he]at this
    exact this
  | ret =>
    rw[he]at hc
    injection hc with hc
    subst hc
    have:=hq a' w' ρ' g
    rw[he]at this
    exact this
theorem iO{F:D4}(hcode:Jf P F){f:FuncId}{aS:List AV}{v:AV}{as':Array Value}(hc:G1 P F aS s (AO P f)=some (v,s1))(hi:Ba P ρ s w)(hfr:BA ρ s)(ha:AX ρ aS as'.toList):
  (∃fn c,P.funcs[f]? = some fn∧fn.body=some c)∧CallsIn Fence.wide 0 P f as' w (FZ P ρ s w v s1):=by
 unfold G1 at hc
 simp only[xY]at hc
 obtain⟨cf,h1,hc⟩:=hc
 unfold AO at h1
 simp only[xY]at h1
 obtain⟨fn,h2,c,h3,h4⟩:=h1
 obtain⟨h5,h6⟩:=AD h4
 simp only[xY]at h6
 obtain⟨cr,h7,h8⟩:=h6
 injection h8 with h8
 subst h8
 simp only at hc
 cases hb:Nat.beq aS.length (Dq fn)with
 | false=>rw[hb]at hc;cases hc
 | true =>
  rw[hb]at hc
  simp only[cond_true]at hc
  refine⟨⟨fn,c,h2,h3⟩,callsIn_of_wp_marks h2 h3 trivial ?_⟩
  unfold K4 at hc
  simp only[xY]at hc
  obtain⟨res,hr,hc⟩:=hc
  have hend:V5 res.exit=true∧((EV res.st res.marks).bind fun s=>(CK P s res.var cr).bind fun l=>some (Bw l,s))=some (v,s1):=by
   cases he:V5 res.exit with
   | true=>rw[he]at hc;exact⟨rfl,hc⟩
   | false=>rw[he]at hc;cases hc
  obtain⟨he,hc⟩:=hend
  simp only[xY]at hc
  obtain⟨s2,hu,l,hl,hv⟩:=hc
  injection hv with hv
  injection hv with hv1 hv2
  subst hv1
  subst hv2
  have hvars:BK P ρ fn (Ql aS (Ao P fn).length) (as'++Array.replicate (fn.ntmps - as'.size) undef):=kQ ha (Ap hb) (by simpa[xo]using h5)
  refine hcode f fn c none none _ [] s res ρ w _ _ h2 hr ⟨hi,hfr,hvars,rfl,rfl⟩ ?_
  intro a' w' ρ' g
  have hlv:LeavesInM Fence.wide 0 P fn a'.tmps (FZ P ρ s w (Bw l) s2) a'.defers .returning w':=by
   refine PS g.marks hu g.inv fun w2 k1 k2=>?_
   obtain⟨v',k3,k4⟩:=Ui k1 g.vars.rel h7 hl
   exact⟨v',k3,ρ',k4,k1,g.fr.trans k2⟩
  cases hx:res.exit with
  | normal=>exact hlv
  | ret=>exact hlv
  | exit id=>rw[hx]at he;cases he
theorem gN       (hng : Ev      P) {E : CU}  (hE : E.P = P) {F : D4}  (hcode : Jf     P F) {l : Nat} {rb : RB} {aS : List AV} {v : AV} {as' : Array Value} (hc : Km    E F l aS s = some (v, s1)) (hi : Ba  P ρ s w) (hfr : BA     ρ s) (hl : ρ l = some rb) (ha : AX    ρ aS as'.toList) :
    D5 P ρ s w v s1 ((Instr.yield rb.b as').run P w):=by
  unfold Km at hc
  rw[hE]at hc
  simp only[xY]at hc
  obtain⟨al,h1,var,h2,ca,h3,cb,h4,hc⟩:=hc
  have hg:=Dt h1
  obtain⟨L,h0,_,_,e1,e2,e3,_,hrel,hsz,hlen⟩:=(hi.obj _ _ _ hg hl:Gu P ρ w al rb).ex
  unfold EI at h3 h4
  simp only[xY]at h3 h4
  obtain⟨fn,hf,h3⟩:=h3
  obtain⟨fn2,hf2,h4⟩:=h4
  rw[hf]at hf2
  injection hf2 with hf2
  subst hf2
  injection h3 with h3
  injection h4 with h4
  subst h3
  subst h4
  have hvi:De P al.fn=Ao P fn:=by unfold De;rw[hf]
  rw[hvi]at hrel hlen h2
  obtain⟨z1,z2,z3,z4⟩:=P5 (tmps:=L.tmps) h2 hrel hlen ha
  have hps:as'.size=L.params.size:=by rw[e1];simpa using z4.symm
  rw[run_yield h0 hps]
  refine .round (roundIn_of_wpIn trivial ?_)
  have hfold:(L.params.zip as').foldl (fun tmps (x:Tmp×Value)=>match x with | (t,a)=>tmps.setIfInBounds t a) L.tmps=(al.params.toList.zip as'.toList).foldl (fun tmps (p:Tmp×Value)=>tmps.setIfInBounds p.1 p.2) L.tmps:=by
    rw[← Array.foldl_toList,Array.toList_zip,e1]
  have hfold':(L.params.zip as').foldl (fun tmps (x:Tmp×Value)=>tmps.setIfInBounds x.1 x.2) L.tmps=(al.params.toList.zip as'.toList).foldl (fun tmps (p:Tmp×Value)=>tmps.setIfInBounds p.1 p.2) L.tmps:=hfold
  have hvars:BK P ρ fn var ((al.params.toList.zip as'.toList).foldl (fun tmps (p:Tmp×Value)=>tmps.setIfInBounds p.1 p.2) L.tmps):=⟨z2,z1,by rw[z3];exact hsz fn hf⟩
  unfold Hn at hc
  simp only[xY]at hc
  obtain⟨q,hq1,hc⟩:=hc
  cases hn:I6 q.exit with
  | false=>rw[hn]at hc;cases hc
  | true =>
    rw[hn]at hc
    simp only[cond_true,xY]at hc
    obtain⟨r2,hr2,hc⟩:=hc
    cases hrd:LE r2.state with
    | false=>rw[hrd]at hc;cases hc
    | true =>
      rw[hrd]at hc
      simp only[cond_true]at hc
      unfold JR at hc
      simp only[xY]at hc
      obtain⟨q2,hq2,r3,hr3,hc⟩:=hc
      injection hc with hc
      injection hc with hv hs
      subst hv
      subst hs
      have hqn:q.exit=.normal:=by cases he:q.exit<;>rw[he]at hn<;>first | rfl | cases hn
      have hst:r2.state=.ready:=by
        cases he:r2.state<;>rw[he]at hrd<;>first | rfl | cases hrd
      rw[e2,e3]
      refine hcode al.fn fn al.assign (some l) (some rb.b) var [] s q ρ w _ _ hf hq1 ⟨hi,hfr,by first | exact hvars | (simp only[];rw[hfold];exact hvars),rfl,⟨rb,hl,rfl⟩⟩ ?_
      intro a1 w1 ρ1 g1
      rw[hqn]
      have hl1:ρ1 l=some rb:=g1.fr.le _ _ hl
      have hg2:=Dt hr2
      obtain⟨L1,k0,k1,_⟩:=(g1.inv.obj _ _ _ hg2 hl1:Gu P ρ1 w1 r2 rb).ex
      obtain⟨i2,f2⟩:=MQ g1.inv hg2 hl1 (st:=.busy) (pd:=r2.pending) k0
      refine⟨_,run_beginRound k0 (by rw[k1,hst]),?_⟩
      have hpd:L1.pending=r2.pending:=by
        obtain⟨L1',k0',_,k2',_⟩:=(g1.inv.obj _ _ _ hg2 hl1:Gu P ρ1 w1 r2 rb).ex
        rw[k0]at k0';injection k0' with k0';injection k0' with k0';subst k0';exact k2'
      have hL1:({ L1 with state:=.busy }:Loop)={ L1 with state:=.busy,pending:=r2.pending }:=by rw[← hpd]
      rw[hL1]
      have hal:({ r2 with state:=.busy }:Df)={ r2 with state:=.busy,pending:=r2.pending }:=rfl
      refine hcode al.fn fn al.body (some l) (some rb.b) q.var q.marks _ q2 ρ1 _ a1 _ hf hq2 ⟨i2,g1.fresh.step f2,g1.vars,g1.marks,⟨rb,hl1,rfl⟩⟩ ?_
      intro a3 w3 ρ3 g3
      have hl3:ρ3 l=some rb:=g3.fr.le _ _ hl1
      have hg3:=Dt hr3
      obtain⟨L3,m0,m1,_⟩:=(g3.inv.obj _ _ _ hg3 hl3:Gu P ρ3 w3 r3 rb).ex
      have tot:=g1.fr.trans (f2.trans g3.fr)
      have fin:∀jump:Option Code,Dh q2.exit=jump→∃v w',(Instr.endRound rb.b jump).run P w3=.ok v w'∧FZ P ρ s w (.bool (Dh q2.exit).isNone) (setObj q2.st l (.loop { r3 with state:=Hr (Dh q2.exit),pending:=Dh q2.exit })) (.returned v) w':=by
        intro jump hj
        obtain⟨i4,f4⟩:=MQ g3.inv hg3 hl3 (st:=Hr jump) (pd:=jump) m0
        refine⟨_,_,run_endRound jump m0,ρ3,?_,?_,?_⟩
        · rw[hj];exact .bool _
        · rw[hj]
          have:(if jump.isNone=true then LoopState.ready else .done)=Hr jump:=by cases jump<;>rfl
          rw[this]
          exact i4
        · rw[hj]
          have:(if jump.isNone=true then LoopState.ready else .done)=Hr jump:=by cases jump<;>rfl
          rw[this]
          exact tot.trans f4
      cases he:q2.exit with
      | normal=>have:=fin none (by rw[he];rfl);rw[he]at this;exact this
      | ret=>have:=fin (some .ret) (by rw[he];rfl);rw[he]at this;exact this
      | exit id=>have:=fin (some (.exit id)) (by rw[he];rfl);rw[he]at this;exact this
theorem wI  (hm : P.follows .mixedOrders = true) (hng : Ev      P) {E : CU}  (hE : E.P = P) (hnat : Ei     P E.nat) : ∀ n, QD    P (ER   E n) n := by
  intro n
  induction n with
  | zero =>
    refine⟨?_,?_,?_,?_⟩
    · intro f fn c rnd r var marks s res ρ w a Q hf hc;cases hc
    · intro f fn c rnd r var marks s res ρ w a Q hf hc;cases hc
    · intro ρ s w f aS v s1 as' hc;cases hc
    · intro ρ s w l rb aS v s1 as' hc;cases hc
  | succ n ih =>
    refine⟨XB hm hng ih,XT ih,?_,?_⟩
    · intro ρ s w f aS v s1 as' hc hi hfr ha
      have hc:ID E (ER E n) f aS s=some (v,s1):=hc
      unfold ID at hc
      split at hc
      · rename_i p hp
        injection hc with hc
        subst hc
        exact hnat ρ s w f aS _ _ as' hp hi hfr ha
      · rw[hE]at hc
        exact iO ih.code hc hi hfr ha
    · intro ρ s w l rb aS v s1 as' hc hi hfr hl ha
      exact gN hng hE ih.code hc hi hfr hl ha
end
def qm:P9:=fun _ _ _=>none
theorem fu(P:Program):Ei P qm:=fun _ _ _ _ _ _ _ _ hc=>by cases hc
def vS(P:Program):CU:=⟨P,qm⟩
def MY (P : Program) : Bool := P.funcs.all fun fn => !(fn.name == "runtime.NumGoroutine")
theorem IW{P:Program}(h:MY P=true):Ev P:=by
 intro f fn hf
 unfold MY at h
 rw[Array.all_eq_true_iff_forall_mem]at h
 have:=h fn (Array.mem_of_getElem? hf)
 simpa using this
def tZ:BU:=fun _=>none
def vT:AE:=⟨0,.leaf⟩
theorem wE(P:Program)(w:World):Ba P tZ vT w:=⟨fun i o rb _ hr=>(by cases hr),fun i rb hr=>(by cases hr),fun i j oi oj ri rj _ _ _ hr=>(by cases hr),fun i o g hi=>(by cases hi)⟩
theorem tH:BA tZ vT:=fun i _=>⟨rfl,rfl⟩
structure OW(W W':World):Prop where
 heap:∀b,b<W.heap.size→W'.heap[b]? = W.heap[b]?
 os:W'.os=W.os
 output:W'.output=W.output
 size:W.heap.size≤W'.heap.size
theorem jj{ρ ρ':BU}{s s':AE}{w w':World}(h:Fr ρ s w ρ' s' w')(hn:∀b,¬ Gi ρ s b):OW w w':=
 ⟨fun b hb=>h.keep b hb (hn b),h.os,h.output,h.size⟩
theorem OW.keptBut{W W':World}(h:OW W W')(may:MemPlace→Prop):W.keptBut W' may:=by
 refine⟨h.os,h.output,fun i hi=>?_⟩
 rw[h.heap i hi]
 have:W.heap[i]? = some W.heap[i]:=Array.getElem?_eq_getElem hi
 rw[this]
 cases W.heap[i]with
 | cells c t fr=>exact⟨rfl,rfl,rfl,fun _ _=>rfl⟩
 | map es clock=>exact .inr ⟨rfl,rfl⟩
 | _=>rfl
theorem OW.frozen{W W':World}(h:OW W W')(a:Addr)(ha:a.block<W.heap.size):W'.frozen? a=W.frozen? a:=by simp[World.frozen?,h.heap _ ha]
section
open Go.ChangeShapes Go.WideShapes
theorem post_of_kept{H:Type}{enc:TypeId×Value→H}{P:Program}{f:Func}{s:ChangeSpec}{apart fresh handsOn again:Bool}{W W':World}{args:Array Value}{v:Value}{ds gs:List (DataW H)}{before pa pv:List MemPlace}
  (hW:DataW.Whole enc P f.params.toList s.vars apart W args.toList ds gs before)
  (hres:∀ (b:Nat) (sp:Nat→Bool) (hd:Bool),DataW.TrodAll enc P W' b sp hd f.resultTypes.toList (v.resultList f.resultTypes.size) (s.fn H (ds++gs)).results [])
  (hargs:∀sp:Nat→Bool,(∀p∈before,sp p.block=true)→DataW.TrodAll enc P W' 0 sp true f.params.toList args.toList (s.fn H (ds++gs)).args pa)
  (hvars:∀sp:Nat→Bool,(∀p∈before,sp p.block=true)→DataW.TrodVars enc P W' sp s.vars (s.fn H (ds++gs)).vars pv)
  (hps:before=pa++pv) (hk:OW W W')
  (hok:∀ (j:Nat) (t:TypeId) (r:Value),f.resultTypes[j]? = some t→(v.resultList f.resultTypes.size)[j]? = some r→Value.okWide P W' .any 0 t r):
  s.post enc P f apart fresh handsOn again W args v W':=by
 have hold:∀p∈before,(fun b=>decide (b<W.heap.size)) p.block=true:=fun p hp=>by simpa using hW.lt p hp
 refine⟨ds,gs,before,[],pa,pv,hW,hres _ _ _,hargs _ hold,hvars _ hold,World.keptBut_mono (fun p hp=>⟨hp,?_⟩) (hk.keptBut _),fun _=>?_⟩
 ·rw[hps,zx]at hp
  exact Or.inr hp
 ·have hlt:=hW.lt
  obtain⟨_,_,_,_,_,hz,hn⟩:=hW
  refine⟨hok,_,_,([]++pa)++pv,⟨[]++pa,pv,trodAll_append (hargs _ (fun _ _=>rfl)) (hres _ _ _),hvars _ (fun _ _=>rfl),rfl,?_,?_⟩,?_⟩
  ·intro b off hp
   have hp':MemPlace.cell b off∈before:=by rw[hps];simpa using hp
   rw[hk.frozen _ (hlt _ hp')]
   exact hz b off hp'
  ·intro ha
   have:=hn ha
   rw[hps]at this
   simpa using this
  ·intro p hp _
   rw[hps]
   simpa using hp
end
structure D4.le(F G:D4):Prop where
 code:∀ {rnd:Option Nat} {c:Aa} {var:List AV} {marks:List Nat} {s:AE} {r:Ay},F.code rnd c var marks s=some r→G.code rnd c var marks s=some r
 call:∀ {f:FuncId} {aS:List AV} {s:AE} {p:AV×AE},F.call f aS s=some p→G.call f aS s=some p
 round:∀ {l:Nat} {aS:List AV} {s:AE} {p:AV×AE},F.round l aS s=some p→G.round l aS s=some p
section
variable{F G:D4}
theorem Lu(h:F.le G){f:AV}{aS:List AV}{s:AE}{p:AV×AE}(hc:G3 F f aS s=some p):G3 G f aS s=some p:=by
 unfold G3 at hc ⊢
 split at hc
 ·exact h.call hc
 ·exact h.round hc
 ·cases hc
theorem Sl(h:F.le G){sh:Sh}{xs:List CX}{loc var:List AV}{s:AE}{p:AV×AE}(hc:tf F sh xs loc var s=some p):tf G sh xs loc var s=some p:=by
 cases sh<;>first | exact hc | exact h.call hc | skip
 cases xs with
 | nil=>cases hc
 | cons x xs=>exact Lu h hc
theorem HC(it:AA)(l:List AA)(loc var:List AV)(s:AE):En F (it::l) loc var s=KZ F it (En F l) loc var s:=rfl
theorem I8{k k':YG}(hk:∀loc var s p,k loc var s=some p→k' loc var s=some p){ag:List Gr}{d:Kq}{loc var:List AV}{v:AV}{s:AE}{p:List AV×AE}(h:DW ag d k loc var v s=some p):DW ag d k' loc var v s=some p:=by
  cases d with
  | push =>
    simp only[DW]at h ⊢
    cases hb:Ek s (v::loc) var ag with
    | true=>rw[hb]at h;exact hk _ _ _ _ h
    | false=>rw[hb]at h;cases h
  | set j =>
    simp only[DW]at h ⊢
    cases hb:Ek s loc (Gf v var j) ag with
    | true=>rw[hb]at h;exact hk _ _ _ _ h
    | false=>rw[hb]at h;cases h
theorem HD(h:F.le G):∀ (l:List AA)(loc var:List AV)(s:AE)(p:List AV×AE),En F l loc var s=some p→En G l loc var s=some p:=by
 intro l
 induction l with
 | nil=>intro loc var s p hp;exact hp
 | cons it l ih =>
  intro loc var s p hp
  rw[HC]at hp ⊢
  unfold KZ at hp ⊢
  cases hj:YF loc var it.guard with
  | true=>rw[hj]at hp;cases hp
  | false =>
  rw[hj]at hp
  simp only at hp ⊢
  cases hw:Bs loc var it.guard with
  | true =>
   rw[hw]at hp
   simp only at hp ⊢
   unfold LF at hp ⊢
   cases hs:tf F it.sh it.xs loc var s with
   | none=>rw[hs]at hp;cases hp
   | some q=>rw[hs]at hp;rw[Sl h hs];exact I8 ih hp
  | false =>
   rw[hw]at hp
   exact I8 ih hp
theorem Lt(h:F.le G){rnd:Option Nat}{b:Aa}{r res:Ay}(hc:Hz F rnd b r=some res):Hz G rnd b r=some res:=by
 unfold Hz at hc ⊢
 split at hc
 ·exact h.code hc
 ·exact hc
theorem Iy(h:F.le G){var:List AV}{f:AV}{params:Array Tmp}{assign body:Code}{fn:FuncId}{dfr:Nat}{marks:List Nat}{s:AE}{res:Ay}
  (hc:FT F var f params assign body fn dfr marks s=some res):FT G var f params assign body fn dfr marks s=some res:=by
 unfold FT Ha at hc ⊢
 simp only[xY]at hc ⊢
 obtain⟨q,h1,rest⟩:=hc
 have h':D4.le { F with round:=fun _ _ _=>none } { G with round:=fun _ _ _=>none }:=⟨h.code,h.call,fun h=>by cases h⟩
 exact⟨q,Lu h' h1,rest⟩
theorem IB(h:F.le G){rnd:Option Nat}{r:Je}{body:Aa}{A:List AV}{marks:List Nat}{s:AE}{k:AV}{B:List AV}(hc:Cu F rnd r body A marks s k=some B):Cu G rnd r body A marks s k=some B:=by
 unfold Cu at hc ⊢
 simp only[xY]at hc ⊢
 obtain⟨q,h1,h2⟩:=hc
 exact⟨q,h.code h1,h2⟩
theorem JP{f g:AV→Option (List AV)}(hf:∀k B,f k=some B→g k=some B){B:List AV}:∀ {l:List (AV×AV)},E4 f B l=true→E4 g B l=true
 | [],h=>h
 | e::l,h=>by
  unfold E4 at h ⊢
  simp only[Bool.and_eq_true]at h ⊢
  refine⟨?_,JP hf h.2⟩
  have h1:=h.1
  cases he:f e.1 with
  | none=>rw[he]at h1;cases h1
  | some X=>rw[he]at h1;rw[hf _ _ he];exact h1
theorem Kj{f g:AV→Option (List AV)}(hf:∀k B,f k=some B→g k=some B):∀ {l:List (AV×AV)}{B C:List AV},Id f B l=some C→Id g B l=some C
 | [],_,_,h=>h
 | e::l,B,C,h=>by
  unfold Id at h ⊢
  simp only[xY]at h ⊢
  obtain⟨X,h1,B',h2,h3⟩:=h
  exact⟨X,hf _ _ h1,B',h2,Kj hf h3⟩
theorem Sc(h:F.le G){rnd:Option Nat}{r:Je}{body:Aa}{it:AV}{marks:List Nat}{s:AE}{A0:List AV}{l:List (AV×AV)}{C:List AV}(hc:Mu F rnd r body it marks s A0 l=some C):Mu G rnd r body it marks s A0 l=some C:=by
 unfold Mu at hc ⊢
 simp only[xY]at hc ⊢
 obtain⟨A1,h1,h2⟩:=hc
 obtain⟨h3,h4⟩:(E4 (Cu F rnd r body A1 marks s) A1 l && (Fl (Ma A1 r.jt) it && T7 A0 A1))=true∧some A1=some C:=by
  cases hb:(E4 (Cu F rnd r body A1 marks s) A1 l && (Fl (Ma A1 r.jt) it && T7 A0 A1))with
  | true=>rw[hb]at h2;exact⟨rfl,h2⟩
  | false=>rw[hb]at h2;cases h2
 simp only[Bool.and_eq_true]at h3
 refine⟨A1,Kj (fun k B=>IB h) h1,?_⟩
 have:=JP (fun k B=>IB h (A:=A1) (k:=k) (B:=B)) h3.1
 rw[this,h3.2.1,h3.2.2]
 exact h4
theorem Ut(h:F.le G){rnd:Option Nat}{c:Aa}{var:List AV}{marks:List Nat}{s:AE}{res:Ay}(hc:DG F rnd c var marks s=some res):DG G rnd c var marks s=some res:=by
  cases c with
  | skip=>exact hc
  | ret=>exact hc
  | exit id=>exact hc
  | never=>exact hc
  | ops l =>
    simp only[DG,iY]at hc ⊢
    cases hi:En F l [] var s with
    | none=>rw[hi]at hc;cases hc
    | some p=>rw[hi]at hc;rw[HD h _ _ _ _ _ hi];exact hc
  | seq a b =>
    simp only[DG]at hc ⊢
    unfold Iz at hc ⊢
    cases ha:F.code rnd a var marks s with
    | none=>rw[ha]at hc;cases hc
    | some r=>rw[ha]at hc;rw[h.code ha];exact Lt h hc
  | cond x a b =>
    simp only[DG]at hc ⊢
    unfold RE at hc ⊢
    split at hc
    · split at hc
      · exact h.code hc
      · exact h.code hc
    · cases hc
  | block id c =>
    simp only[DG]at hc ⊢
    unfold Lr at hc ⊢
    cases ha:F.code rnd c var marks s with
    | none=>rw[ha]at hc;cases hc
    | some r=>rw[ha]at hc;rw[h.code ha];exact hc
  | loop c =>
    simp only[DG]at hc ⊢
    unfold Iz at hc ⊢
    cases ha:F.code rnd c var marks s with
    | none=>rw[ha]at hc;cases hc
    | some r=>rw[ha]at hc;rw[h.code ha];exact Lt h hc
  | rangeFunc fn f params assign body =>
    simp only[DG]at hc ⊢
    unfold Ls at hc ⊢
    cases rnd with
    | none=>exact Iy h hc
    | some l =>
      simp only[xY]at hc ⊢
      obtain⟨r,h1,h2⟩:=hc
      exact⟨r,h1,Iy h h2⟩
  | rangeMap r body =>
    simp only[DG]at hc ⊢
    unfold iZ PC at hc ⊢
    simp only[xY]at hc ⊢
    obtain⟨m,h1,es,h2,A,h3,h4⟩:=hc
    exact⟨m,h1,es,h2,A,Sc h h3,h4⟩
theorem Uu(h:F.le G){E:CU}{f:FuncId}{aS:List AV}{s:AE}{p:AV×AE}(hc:ID E F f aS s=some p):ID E G f aS s=some p:=by
 unfold ID at hc ⊢
 cases hn:E.nat f aS s with
 | some q=>rw[hn]at hc;exact hc
 | none =>
  rw[hn]at hc
  simp only at hc ⊢
  unfold G1 at hc ⊢
  simp only[xY]at hc ⊢
  obtain⟨cf,h1,h2⟩:=hc
  refine⟨cf,h1,?_⟩
  cases hb:Nat.beq aS.length cf.na with
  | false=>rw[hb]at h2;cases h2
  | true =>
   rw[hb]at h2
   simp only[cond_true]at h2 ⊢
   unfold K4 at h2 ⊢
   simp only[xY]at h2 ⊢
   obtain⟨r,h3,h4⟩:=h2
   exact⟨r,h.code h3,h4⟩
theorem Uv(h:F.le G){E:CU}{l:Nat}{aS:List AV}{s:AE}{p:AV×AE}(hc:Km E F l aS s=some p):Km E G l aS s=some p:=by
 unfold Km at hc ⊢
 simp only[xY]at hc ⊢
 obtain⟨r,h1,var,h2,ca,h3,cb,h4,hc⟩:=hc
 refine⟨r,h1,var,h2,ca,h3,cb,h4,?_⟩
 unfold Hn at hc ⊢
 simp only[xY]at hc ⊢
 obtain⟨q,h5,hc⟩:=hc
 refine⟨q,h.code h5,?_⟩
 cases hn:I6 q.exit with
 | false=>rw[hn]at hc;cases hc
 | true =>
  rw[hn]at hc
  simp only[cond_true,xY]at hc ⊢
  obtain⟨r2,h6,hc⟩:=hc
  refine⟨r2,h6,?_⟩
  cases hr:LE r2.state with
  | false=>rw[hr]at hc;cases hc
  | true =>
   rw[hr]at hc
   simp only[cond_true]at hc ⊢
   unfold JR at hc ⊢
   simp only[xY]at hc ⊢
   obtain⟨q2,h7,rest⟩:=hc
   exact⟨q2,h.code h7,rest⟩
end
theorem Pw(E:CU):∀n,(ER E n).le (ER E (n+1)):=by
 intro n
 induction n with
 | zero=>exact⟨fun h=>(by cases h),fun h=>(by cases h),fun h=>(by cases h)⟩
 | succ n ih=>exact⟨fun h=>Ut ih h,fun h=>Uu ih h,fun h=>Uv ih h⟩
theorem D4.le.refl(F:D4):F.le F:=⟨id,id,id⟩
theorem D4.le.trans{F G H:D4}(h:F.le G)(k:G.le H):F.le H:=⟨fun x=>k.code (h.code x),fun x=>k.call (h.call x),fun x=>k.round (h.round x)⟩
theorem Ga(E:CU){n m:Nat}(h:n≤m):(ER E n).le (ER E m):=by
 induction h with
 | refl=>exact D4.le.refl _
 | step _ ih=>exact ih.trans (Pw E _)
section
variable(E:CU)
def WC(rnd:Option Nat)(c:Aa)(Q:Ay→Prop)(var:List AV)(marks:List Nat)(s:AE):Prop:=∃n r,(ER E n).code rnd c var marks s=some r∧Q r
def WI(l:List AA)(K:List AV→AE→Prop)(loc var:List AV)(s:AE):Prop:=∃n p,En (ER E n) l loc var s=some p∧K p.1 p.2
def WF(f:FuncId)(aS:List AV)(K:AV→AE→Prop)(s:AE):Prop:=∃n p,(ER E n).call f aS s=some p∧K p.1 p.2
def WR(l:Nat)(aS:List AV)(K:AV→AE→Prop)(s:AE):Prop:=∃n p,(ER E n).round l aS s=some p∧K p.1 p.2
end
section
variable{E:CU}{rnd:Option Nat}{Q Q':Ay→Prop}{var loc:List AV}{marks:List Nat}{s:AE}{K K':AV→AE→Prop}{KI:List AV→AE→Prop}
theorem WC.mono{c:Aa}(h:WC E rnd c Q var marks s)(hq:∀r,Q r→Q' r):WC E rnd c Q' var marks s:=let ⟨n,r,h1,h2⟩:=h;⟨n,r,h1,hq r h2⟩
theorem WF.mono{f:FuncId}{aS:List AV}(h:WF E f aS K s)(hq:∀v s',K v s'→K' v s'):WF E f aS K' s:=let ⟨n,r,h1,h2⟩:=h;⟨n,r,h1,hq _ _ h2⟩
theorem WC.skip(h:Q ⟨.normal,var,marks,s⟩):WC E rnd .skip Q var marks s:=⟨1,_,rfl,h⟩
theorem WC.ret(h:Q ⟨.ret,var,marks,s⟩):WC E rnd .ret Q var marks s:=⟨1,_,rfl,h⟩
theorem WC.exit{id:Nat}(h:Q ⟨.exit id,var,marks,s⟩):WC E rnd (.exit id) Q var marks s:=⟨1,_,rfl,h⟩
def Wt(E:CU)(rnd:Option Nat)(b:Aa)(Q:Ay→Prop)(r:Ay):Prop:=match r.exit with
 | .normal=>WC E rnd b Q r.var r.marks r.st
 | _=>Q r
theorem Sk{a b:Aa}{n:Nat}{r:Ay}(h1:(ER E n).code rnd a var marks s=some r)(h2:Wt E rnd b Q r):∃m res,Iz (ER E m) rnd b ((ER E m).code rnd a var marks s)=some res∧Q res:=by
 unfold Wt at h2
 cases he:r.exit with
 | normal =>
  rw[he]at h2
  obtain⟨m,res,h3,h4⟩:=h2
  refine⟨max n m,res,?_,h4⟩
  rw[(Ga E (Nat.le_max_left n m)).code h1]
  simp only[Iz,Hz,he]
  exact(Ga E (Nat.le_max_right n m)).code h3
 | exit id=>rw[he]at h2;exact⟨n,r,by rw[h1];simp only[Iz,Hz,he],h2⟩
 | ret=>rw[he]at h2;exact⟨n,r,by rw[h1];simp only[Iz,Hz,he],h2⟩
theorem WC.seq{a b:Aa}(h:WC E rnd a (Wt E rnd b Q) var marks s):WC E rnd (.seq a b) Q var marks s:=by
 obtain⟨n,r,h1,h2⟩:=h
 obtain⟨m,res,h3,h4⟩:=Sk h1 h2
 exact⟨m+1,res,h3,h4⟩
theorem WC.loop{c:Aa}(h:WC E rnd c (Wt E rnd (.loop c) Q) var marks s):WC E rnd (.loop c) Q var marks s:=by
 obtain⟨n,r,h1,h2⟩:=h
 obtain⟨m,res,h3,h4⟩:=Sk h1 h2
 exact⟨m+1,res,h3,h4⟩
theorem WC.cond{x:CX}{a b:Aa}{t:Bool}(hx:DK [] var x=.bool t)(h:WC E rnd (bif t then a else b) Q var marks s):WC E rnd (.cond x a b) Q var marks s:=by
 obtain⟨n,r,h1,h2⟩:=h
 refine⟨n+1,r,?_,h2⟩
 show DG (ER E n) rnd (.cond x a b) var marks s=some r
 simp only[DG,RE,hx]
 cases t<;>exact h1
def Eu(id:Nat)(Q:Ay→Prop)(r:Ay):Prop:=match r.exit with
 | .exit id'=>bif Nat.beq id' id then Q ⟨.normal,r.var,r.marks,r.st⟩else Q r
 | _=>Q r
theorem WC.block{id:Nat}{c:Aa}(h:WC E rnd c (Eu id Q) var marks s):WC E rnd (.block id c) Q var marks s:=by
 obtain⟨n,r,h1,h2⟩:=h
 unfold Eu at h2
 have:∃res,K1 id r=some res∧Q res:=by
  unfold K1
  split at h2
  ·rename_i id' he
   try simp only[he]
   cases hb:Nat.beq id' id with
   | true=>rw[hb]at h2;exact⟨_,rfl,h2⟩
   | false=>rw[hb]at h2;exact⟨_,rfl,h2⟩
  ·rename_i hne
   cases he:r.exit with
   | normal=>exact⟨r,rfl,h2⟩
   | ret=>exact⟨r,rfl,h2⟩
   | exit id'=>exact absurd he (hne id')
 obtain⟨res,h3,h4⟩:=this
 refine⟨n+1,res,?_,h4⟩
 show DG (ER E n) rnd (.block id c) var marks s=some res
 simp only[DG,Lr,h1,h3]
theorem WC.ops{l:List AA}(h:WI E l (fun v s'=>Q ⟨.normal,v,marks,s'⟩) [] var s):WC E rnd (.ops l) Q var marks s:=by
 obtain⟨n,p,h1,h2⟩:=h
 refine⟨n+1,⟨.normal,p.1,marks,p.2⟩,?_,h2⟩
 show DG (ER E n) rnd (.ops l) var marks s=_
 simp only[DG,iY,h1]
theorem WI.nil(h:KI var s):WI E [] KI loc var s:=⟨0,_,rfl,h⟩
def tw(E:CU)(ag:List Gr)(d:Kq)(l:List AA)(KI:List AV→AE→Prop)(loc var:List AV)(v:AV)(s:AE):Prop:=match d with
 | .push=>Ek s (v::loc) var ag=true∧WI E l KI (v::loc) var s
 | .set j=>Ek s loc (Gf v var j) ag=true∧WI E l KI loc (Gf v var j) s
theorem Vw{ag:List Gr}{d:Kq}{l:List AA}{v:AV}(h:tw E ag d l KI loc var v s):∃n p,(∀m,n≤m→DW ag d (En (ER E m) l) loc var v s=some p)∧KI p.1 p.2:=by
 cases d with
 | push =>
  obtain⟨h1,n,p,h2,h3⟩:=h
  exact⟨n,p,fun m hm=>by simp only[DW,h1,cond_true];exact HD (Ga E hm) _ _ _ _ _ h2,h3⟩
 | set j =>
  obtain⟨h1,n,p,h2,h3⟩:=h
  exact⟨n,p,fun m hm=>by simp only[DW,h1,cond_true];exact HD (Ga E hm) _ _ _ _ _ h2,h3⟩
theorem WI.item{it:AA}{l:List AA}{n:Nat}{p:AV×AE}(hj:YF loc var it.guard=false)(hw:Bs loc var it.guard=true)(hs:tf (ER E n) it.sh it.xs loc var s=some p)(h:tw E it.again it.dst l KI loc var p.1 p.2):WI E (it::l) KI loc var s:=by
 obtain⟨m,q,h1,h2⟩:=Vw h
 refine⟨max n m,q,?_,h2⟩
 rw[HC]
 unfold KZ
 rw[hj,hw]
 simp only[LF,Sl (Ga E (Nat.le_max_left n m)) hs]
 exact h1 _ (Nat.le_max_right n m)
theorem WI.off{it:AA}{l:List AA}(hj:YF loc var it.guard=false)(hw:Bs loc var it.guard=false)(h:tw E [] it.dst l KI loc var BZ s):WI E (it::l) KI loc var s:=by
 obtain⟨m,q,h1,h2⟩:=Vw h
 refine⟨m,q,?_,h2⟩
 rw[HC]
 unfold KZ
 rw[hj,hw]
 exact h1 _ (xZ m)
def Ends(P:Program)(rs:List (CX×Option TypeId))(K:AV→AE→Prop)(r:Ay):Prop:=V5 r.exit=true∧∃s',EV r.st r.marks=some s'∧∃l,CK P s' r.var rs=some l∧K (Bw l) s'
theorem WF.body{f:FuncId}{aS:List AV}{cf:Ah}(hn:E.nat f aS s=none)(hf:AO E.P f=some cf)(ha:aS.length=cf.na)(h:WC E none cf.body (Ends E.P cf.results K) (Ql aS cf.nv) [] s):WF E f aS K s:=by
 obtain⟨n,r,h1,h2,s',h3,l,h4,h5⟩:=h
 refine⟨n+1,(Bw l,s'),?_,h5⟩
 show ID E (ER E n) f aS s=_
 simp[ID,hn,G1,hf,ha,K4,h1,h2,h3,h4]
theorem WF.nat{f:FuncId}{aS:List AV}{p:AV×AE}(hn:E.nat f aS s=some p)(h:K p.1 p.2):WF E f aS K s:=⟨1,p,by show ID E (ER E 0) f aS s=_;simp[ID,hn],h⟩
end
def WE{α:Type}(x:Option α)(K:α→Prop):Prop:=match x with
 | some v=>K v
 | none=>False
theorem Qm{α:Type}(v:α)(K:α→Prop):WE (some v) K=K v:=Eq.trans rfl rfl
section
variable(E:CU)
def Qe(f:AV)(aS:List AV)(K:AV→AE→Prop)(s:AE):Prop:=match f with
 | .func f first cap=>WF E f (first++(aS++cap)) K s
 | .yield l=>WR E l aS K s
 | _=>False
def Qc(sh:Sh)(xs:List AV)(K:AV→AE→Prop)(s:AE):Prop:=match sh with
 | .p1 f=>match xs with
  | a::_=>WE (f a) (fun v=>K v s)
  | []=>False
 | .p2 f=>match xs with
  | a::b::_=>WE (f a b) (fun v=>K v s)
  | _=>False
 | .p f=>WE (f xs) (fun v=>K v s)
 | .r1 f=>match xs with
  | a::_=>WE (f s a) (fun v=>K v s)
  | []=>False
 | .r f=>WE (f s xs) (fun v=>K v s)
 | .mk f=>WE (f xs) (fun p=>K (p.2.val s.next) (newObj s p.1))
 | .e f=>WE (f s xs) (fun p=>K p.1 p.2)
 | .call f=>WF E f xs K s
 | .callv=>match xs with
  | f::aS=>Qe E f aS K s
  | []=>False
def Qh (loc var:List AV):List CX→List AV
 | []=>[]
 | x::l=>DK loc var x::Qh loc var l
def Qo(s:AE)(loc var:List AV):List Gr→Prop
 | []=>True
 | r::l=>Fd s loc var r=true∧Qo s loc var l
def Qd(ag:List Gr)(d:Kq)(loc var:List AV)(k:List AV→List AV→AE→Prop)(v:AV)(s:AE):Prop:=match d with
 | .push=>Qo s (v::loc) var ag∧k (v::loc) var s
 | .set j=>Qo s loc (Gf v var j) ag∧k loc (Gf v var j) s
def Vr(v:AV)(x y:List AV→List Nat→AE→Prop)(var:List AV)(marks:List Nat)(s:AE):Prop:=match v with
 | .bool true=>x var marks s
 | .bool false=>y var marks s
 | _=>False
def If(k:List AV→List Nat→AE→Prop)(Q:Ay→Prop)(r:Ay):Prop:=match r.exit with
 | .normal=>k r.var r.marks r.st
 | _=>Q r
def wK(j b:Bool)(sh:Sh)(xs:List AV)(ag:List Gr)(d:Kq)(loc var:List AV)(k:List AV→List AV→AE→Prop)(s:AE):Prop:=match j,b with
 | true,_=>False
 | false,true=>Qc E sh xs (Qd ag d loc var k) s
 | false,false=>Qd [] d loc var k BZ s
def Qb:List AA→(List AV→AE→Prop)→List AV→List AV→AE→Prop
 | [],K,_,var,s=>K var s
 | it::l,K,loc,var,s=>wK E (YF loc var it.guard) (Bs loc var it.guard) it.sh (Qh loc var it.xs) it.again it.dst loc var (Qb l K) s
def Qa(rnd:Option Nat):Aa→(Ay→Prop)→List AV→List Nat→AE→Prop
 | .skip,Q,var,marks,s=>Q ⟨.normal,var,marks,s⟩
 | .ret,Q,var,marks,s=>Q ⟨.ret,var,marks,s⟩
 | .exit id,Q,var,marks,s=>Q ⟨.exit id,var,marks,s⟩
 | .never,_,_,_,_=>False
 | .ops l,Q,var,marks,s=>Qb E l (fun v s'=>Q ⟨.normal,v,marks,s'⟩) [] var s
 | .seq a b,Q,var,marks,s=>Qa rnd a (If (Qa rnd b Q) Q) var marks s
 | .cond x a b,Q,var,marks,s=>Vr (DK [] var x) (Qa rnd a Q) (Qa rnd b Q) var marks s
 | .block id c,Q,var,marks,s=>Qa rnd c (Eu id Q) var marks s
 | .loop c,Q,var,marks,s=>WC E rnd (.loop c) Q var marks s
 | .rangeFunc fn f ps a b,Q,var,marks,s=>WC E rnd (.rangeFunc fn f ps a b) Q var marks s
 | .rangeMap r b,Q,var,marks,s=>WC E rnd (.rangeMap r b) Q var marks s
end
section
variable{E:CU}{rnd:Option Nat}{Q Q':Ay→Prop}{var loc:List AV}{marks:List Nat}{s:AE}{K K':AV→AE→Prop}{KI:List AV→AE→Prop}
theorem Wi:∀ (l:List CX),Qh loc var l=D3 loc var l
 | []=>rfl
 | x::l=>by show DK loc var x::Qh loc var l=DK loc var x::D3 loc var l;rw[Wi l]
theorem LY:∀ {l:List Gr},Qo s loc var l→Ek s loc var l=true
 | [],_=>rfl
 | r::l,h=>by show(Fd s loc var r && Ek s loc var l)=true;rw[h.1,LY h.2];rfl
theorem GY{α:Type}{x:Option α}{K:α→Prop}(h:WE x K):∃v,x=some v∧K v:=by
 cases x with
 | none=>exact h.elim
 | some v=>exact⟨v,rfl,h⟩
theorem kT{f:AV}{aS:List AV}(h:Qe E f aS K s):∃n p,G3 (ER E n) f aS s=some p∧K p.1 p.2:=by
 cases f with
 | func f first cap=>obtain⟨n,p,h1,h2⟩:=h;exact⟨n,p,h1,h2⟩
 | yield l=>obtain⟨n,p,h1,h2⟩:=h;exact⟨n,p,h1,h2⟩
 | _=>exact h.elim
theorem kS      {sh : Sh} {xs : List CX} (h : Qc E sh (Qh loc var xs) K s) : ∃ n p, tf  (ER   E n) sh xs loc var s = some p ∧ K p.1 p.2 := by
  rw[Wi]at h
  cases sh with
  | p1 f =>
    cases xs with
    | nil=>exact h.elim
    | cons x l =>
      obtain⟨v,h1,h2⟩:=GY h
      exact⟨0,(v,s),by show ED s (f (DK loc var x))=_;rw[h1];rfl,h2⟩
  | p2 f =>
    cases xs with
    | nil=>exact h.elim
    | cons x l =>
      cases l with
      | nil=>exact h.elim
      | cons y l =>
        obtain⟨v,h1,h2⟩:=GY h
        exact⟨0,(v,s),by show ED s (f (DK loc var x) (DK loc var y))=_;rw[h1];rfl,h2⟩
  | p f =>
    obtain⟨v,h1,h2⟩:=GY h
    exact⟨0,(v,s),by show ED s (f (D3 loc var xs))=_;rw[h1];rfl,h2⟩
  | r1 f =>
    cases xs with
    | nil=>exact h.elim
    | cons x l =>
      obtain⟨v,h1,h2⟩:=GY h
      exact⟨0,(v,s),by show ED s (f s (DK loc var x))=_;rw[h1];rfl,h2⟩
  | r f =>
    obtain⟨v,h1,h2⟩:=GY h
    exact⟨0,(v,s),by show ED s (f s (D3 loc var xs))=_;rw[h1];rfl,h2⟩
  | mk f =>
    obtain⟨v,h1,h2⟩:=GY h
    exact⟨0,(v.2.val s.next,newObj s v.1),by show SC s (f (D3 loc var xs))=_;rw[h1];rfl,h2⟩
  | e f =>
    obtain⟨v,h1,h2⟩:=GY h
    exact⟨0,v,h1,h2⟩
  | call f=>obtain⟨n,p,h1,h2⟩:=h;exact⟨n,p,h1,h2⟩
  | callv =>
    cases xs with
    | nil=>exact h.elim
    | cons x l=>exact kT h
theorem kR:∀ {l:List AA}{loc var:List AV}{s:AE},Qb E l KI loc var s→WI E l KI loc var s:=by
 intro l
 induction l with
 | nil=>intro loc var s h;exact WI.nil h
 | cons it l ih =>
  intro loc var s h
  have dst:∀ {ag:List Gr} {v:AV} {s:AE},Qd ag it.dst loc var (Qb E l KI) v s→tw E ag it.dst l KI loc var v s:=by
   intro ag v s h
   unfold Qd at h
   unfold tw
   cases hd:it.dst with
   | push=>rw[hd]at h;exact⟨LY h.1,ih h.2⟩
   | set j=>rw[hd]at h;exact⟨LY h.1,ih h.2⟩
  unfold Qb at h
  cases hj:YF loc var it.guard with
  | true=>rw[hj]at h;exact h.elim
  | false =>
  rw[hj]at h
  cases hw:Bs loc var it.guard with
  | true =>
   rw[hw]at h
   have h:Qc E it.sh (Qh loc var it.xs) (Qd it.again it.dst loc var (Qb E l KI)) s:=h
   obtain⟨n,p,h1,h2⟩:=kS h
   exact WI.item hj hw h1 (dst h2)
  | false =>
   rw[hw]at h
   have h:Qd [] it.dst loc var (Qb E l KI) BZ s:=h
   exact WI.off hj hw (dst h)
theorem EY:∀ {c:Aa}{Q:Ay→Prop}{var:List AV}{marks:List Nat}{s:AE},Qa E rnd c Q var marks s→WC E rnd c Q var marks s:=by
 intro c
 induction c with
 | skip=>intro Q var marks s h;exact WC.skip h
 | ret=>intro Q var marks s h;exact WC.ret h
 | exit id=>intro Q var marks s h;exact WC.exit h
 | never=>intro Q var marks s h;exact h.elim
 | ops l=>intro Q var marks s h;exact WC.ops (kR h)
 | seq a b iha ihb =>
  intro Q var marks s h
  refine WC.seq ((iha h).mono ?_)
  intro r hr
  unfold If at hr
  unfold Wt
  cases he:r.exit with
  | normal=>rw[he]at hr;exact ihb hr
  | exit id=>rw[he]at hr;exact hr
  | ret=>rw[he]at hr;exact hr
 | cond x a b iha ihb =>
  intro Q var marks s h
  unfold Qa Vr at h
  split at h<;>first | exact h.elim | skip
  ·rename_i ht;exact WC.cond ht (iha h)
  ·rename_i ht;exact WC.cond ht (ihb h)
 | block id c ih=>intro Q var marks s h;exact WC.block (ih h)
 | loop c _=>intro Q var marks s h;exact h
 | rangeFunc fn f ps a b=>intro Q var marks s h;exact h
 | rangeMap r b _=>intro Q var marks s h;exact h
theorem WC.loop'{c:Aa}(h:Qa E rnd c (If (WC E rnd (.loop c) Q) Q) var marks s):WC E rnd (.loop c) Q var marks s:=by
 refine WC.loop ((EY h).mono ?_)
 intro r hr
 unfold If at hr
 unfold Wt
 cases he:r.exit with
 | normal=>rw[he]at hr;exact hr
 | exit id=>rw[he]at hr;exact hr
 | ret=>rw[he]at hr;exact hr
theorem WF.body'{f:FuncId}{aS:List AV}{cf:Ah}(hn:E.nat f aS s=none)(hf:AO E.P f=some cf)(ha:aS.length=cf.na)(h:Qa E none cf.body (Ends E.P cf.results K) (Ql aS cf.nv) [] s):WF E f aS K s:=WF.body hn hf ha (EY h)
end
theorem Qr(a:AV)(l:List AV):Ma (a::l) 0=a:=rfl
theorem Qs(a:AV)(l:List AV)(n:Nat):Ma (a::l) (n+1)=Ma l n:=rfl
theorem Qp(v a:AV)(l:List AV):Gf v (a::l) 0=v::l:=rfl
theorem Qq(v a:AV)(l:List AV)(n:Nat):Gf v (a::l) (n+1)=a::Gf v l n:=rfl
theorem Qk(loc var:List AV)(i:Nat):DK loc var (.loc i)=Ma loc i:=rfl
theorem Qj(loc var:List AV)(i:Nat):DK loc var (.var i)=Ma var i:=rfl
theorem Qi(loc var:List AV)(v:AV):DK loc var (.const v)=v:=rfl
theorem Qf(loc var:List AV):Bs loc var none=true:=rfl
theorem Qg(loc var:List AV)(x:CX)(b:Bool):Bs loc var (some (x,b))=tr b (DK loc var x):=rfl
theorem Qt(E:CU)(sh:Sh)(xs:List AV)(ag:List Gr)(d:Kq)(loc var:List AV)(k:List AV→List AV→AE→Prop)(s:AE):wK E false true sh xs ag d loc var k s=Qc E sh xs (Qd ag d loc var k) s:=rfl
theorem Qu(E:CU)(sh:Sh)(xs:List AV)(ag:List Gr)(d:Kq)(loc var:List AV)(k:List AV→List AV→AE→Prop)(s:AE):wK E false false sh xs ag d loc var k s=Qd [] d loc var k BZ s:=rfl
theorem Qz(x y:List AV→List Nat→AE→Prop)(var:List AV)(m:List Nat)(s:AE):Vr (.bool true) x y var m s=x var m s:=rfl
theorem Ra(x y:List AV→List Nat→AE→Prop)(var:List AV)(m:List Nat)(s:AE):Vr (.bool false) x y var m s=y var m s:=rfl
theorem Rb(k:List AV→List Nat→AE→Prop)(Q:Ay→Prop)(v:List AV)(m:List Nat)(s:AE):If k Q ⟨.normal,v,m,s⟩=k v m s:=rfl
theorem Rc(k:List AV→List Nat→AE→Prop)(Q:Ay→Prop)(v:List AV)(m:List Nat)(s:AE):If k Q ⟨.ret,v,m,s⟩=Q ⟨.ret,v,m,s⟩:=rfl
theorem Rd(k:List AV→List Nat→AE→Prop)(Q:Ay→Prop)(id:Nat)(v:List AV)(m:List Nat)(s:AE):If k Q ⟨.exit id,v,m,s⟩=Q ⟨.exit id,v,m,s⟩:=rfl
theorem Re(id:Nat)(Q:Ay→Prop)(v:List AV)(m:List Nat)(s:AE):Eu id Q ⟨.normal,v,m,s⟩=Q ⟨.normal,v,m,s⟩:=rfl
theorem Rf(id:Nat)(Q:Ay→Prop)(v:List AV)(m:List Nat)(s:AE):Eu id Q ⟨.ret,v,m,s⟩=Q ⟨.ret,v,m,s⟩:=rfl
theorem Rg(id id':Nat)(Q:Ay→Prop)(v:List AV)(m:List Nat)(s:AE):Eu id Q ⟨.exit id',v,m,s⟩=if id'=id then Q ⟨.normal,v,m,s⟩else Q ⟨.exit id',v,m,s⟩:=by
 unfold Eu
 by_cases h:id'=id
 ·subst h;simp
 ·have:Nat.beq id' id=false:=by
   cases hb:Nat.beq id' id with
   | true=>exact absurd (yD hb) h
   | false=>rfl
  simp[h,this]
theorem Rh(P:Program)(rs:List (CX×Option TypeId))(K:AV→AE→Prop)(v:List AV)(m:List Nat)(s:AE):Ends P rs K ⟨.ret,v,m,s⟩=WE (EV s m) (fun s'=>WE (CK P s' v rs) (fun l=>K (Bw l) s')):=by
 unfold Ends
 apply propext
 constructor
 ·rintro⟨_,s',h1,l,h2,h3⟩
  have h1:EV s m=some s':=h1
  have h2:CK P s' v rs=some l:=h2
  rw[h1,Qm,h2,Qm];exact h3
 ·intro h
  obtain⟨s',h1,h⟩:=GY h
  obtain⟨l,h2,h3⟩:=GY h
  exact⟨rfl,s',h1,l,h2,h3⟩
theorem Ri(P:Program)(rs:List (CX×Option TypeId))(K:AV→AE→Prop)(v:List AV)(m:List Nat)(s:AE):Ends P rs K ⟨.normal,v,m,s⟩=WE (EV s m) (fun s'=>WE (CK P s' v rs) (fun l=>K (Bw l) s')):=by
 rw[← Rh];rfl
theorem Rj(s:AE):EV s []=some s:=rfl
theorem Rk(P:Program)(s:AE)(v:List AV):CK P s v []=some []:=rfl
theorem Rm(P:Program)(s:AE)(v:List AV)(x:CX)(l:List (CX×Option TypeId)):CK P s v ((x,none)::l)=(CK P s v l).bind fun r=>some (DK [] v x::r):=rfl
theorem Rn(v:AV):Bw [v]=v:=rfl
theorem Ro:Bw []=.tuple []:=rfl
theorem Rp(v w:AV)(l:List AV):Bw (v::w::l)=.tuple (v::w::l):=rfl
theorem Qv(loc var:List AV):YF loc var none=false:=rfl
theorem Qw(loc var:List AV)(x:CX)(b:Bool):YF loc var (some (x,b))=tK (DK loc var x):=rfl
theorem Qx(b:Bool):tK (.bool b)=false:=rfl
theorem Qy:tK BZ=false:=rfl
theorem Rq(w:Bool):tr w BZ=false:=rfl
theorem Rs(b:Bool):tr true (.bool b)=b:=by cases b<;>rfl
theorem Rt(b:Bool):tr false (.bool b)=!b:=by cases b<;>rfl
theorem Ya:(!true)=false:=rfl
theorem Yb:(!false)=true:=rfl
theorem Yc{α β:Type _}(a:α)(f:α→Option β):(some a).bind f=f a:=rfl
theorem Yd{α:Type _}(a:α)(l:List α):(a::l)[0]? = some a:=rfl
theorem Ye{α:Type _}(a:α)(l:List α)(i:Nat):(a::l)[i+1]? = l[i]? := rfl
abbrev iv(n:Int):AV:=.int .i64 n
def i64(n:Int):Prop:=-9223372036854775808≤n∧n<9223372036854775808
theorem S8{k:IntKind}{n:Int}(h:CB k n=true):DT k n=n:=by unfold DT;rw[h];rfl
theorem FU{n:Int}(h:i64 n):CB .i64 n=true:=by
 obtain⟨h1,h2⟩:=h
 cases n with
 | ofNat m=>simp only[CB,xo];simp at h2;omega
 | negSucc m=>simp only[CB,xo];omega
theorem HU{n:Int}(h:i64 n):DT .i64 n=n:=S8 (FU h)
section
variable(P:Program)(t:TypeId)(a b:Int)
theorem Ry:AL P .lss t (iv a) (iv b)=some (.bool (decide (a<b))):=by
 show some (AV.bool (NE a b))=_
 rw[DD]
theorem Rz:AL P .gtr t (iv a) (iv b)=some (.bool (decide (b<a))):=by
 show some (AV.bool (NE b a))=_
 rw[DD]
theorem Wa:AL P .leq t (iv a) (iv b)=some (.bool (decide (a≤b))):=by
 show some (AV.bool (!NE b a))=_
 rw[DD,← decide_not]
 congr 3
 exact propext Int.not_lt
theorem Wb:AL P .geq t (iv a) (iv b)=some (.bool (decide (b≤a))):=by
 show some (AV.bool (!NE a b))=_
 rw[DD,← decide_not]
 congr 3
 exact propext Int.not_lt
theorem Wc:AL P .eql t (iv a) (iv b)=some (.bool (decide (a=b))):=by
 show some (AV.bool (NF a b))=_
 rw[Em];rfl
theorem Wd:AL P .neq t (iv a) (iv b)=some (.bool (decide (a≠b))):=by
 show some (AV.bool (!NF a b))=_
 rw[Em,decide_not];rfl
theorem Az(h:i64 (a+b)):AL P .add t (iv a) (iv b)=some (iv (a+b)):=by
 show some (AV.int .i64 (DT .i64 (a+b)))=_
 rw[HU h]
theorem CP(h:i64 (a - b)):AL P .sub t (iv a) (iv b)=some (iv (a - b)):=by
 show some (AV.int .i64 (DT .i64 (a - b)))=_
 rw[HU h]
theorem Of(h:i64 (a * b)):AL P .mul t (iv a) (iv b)=some (iv (a * b)):=by
 show some (AV.int .i64 (DT .i64 (a * b)))=_
 rw[HU h]
theorem We(c:Bool):WT P .not (.bool c)=some (.bool (!c)):=rfl
end
def Af(b:Nat)(s s':AE):Prop:=s.next≤s'.next∧∀i,i<b→s'.heap.get i=s.heap.get i
theorem Af.refl(b:Nat)(s:AE):Af b s s:=⟨xZ _,fun _ _=>rfl⟩
theorem Af.trans{b:Nat}{s s1 s2:AE}(h:Af b s s1)(k:Af b s1 s2):Af b s s2:=⟨xh h.1 k.1,fun i hi=>(k.2 i hi).trans (h.2 i hi)⟩
theorem Af.mono{b b':Nat}{s s1:AE}(h:Af b s s1)(k:b'≤b):Af b' s s1:=⟨h.1,fun i hi=>h.2 i (xi hi k)⟩
theorem AW(s:AE)(o:BD)(j:Nat):(newObj s o).heap.get j=if j=s.next then some o else s.heap.get j:=AZ.get_set _ _ _ _
theorem MC(s:AE)(i:Nat)(o:BD)(j:Nat):(setObj s i o).heap.get j=if j=i then some o else s.heap.get j:=AZ.get_set _ _ _ _
theorem G8(s:AE)(i j:Nat):(Cc s i).heap.get j=if j=i then none else s.heap.get j:=AZ.get_del _ _ _
theorem Af.new(s:AE)(o:BD):Af s.next s (newObj s o):=⟨yp _,fun i hi=>by rw[AW,if_neg (by omega)]⟩
theorem B6{s s':AE}{i o:Nat}(h:s'.heap.get i=s.heap.get i):DA s' i o=DA s i o:=by unfold DA rowAt;rw[h]
theorem Fz{s:AE}{i o:Nat}{r:D2}{u:AV}(h:s.heap.get i=some (.row r))(ho:o<r.n)(hc:r.c.get o=some u):DA s i o=some u:=by
 have hb:Nat.blt o r.n=true:=by simpa[yI]using ho
 simp[DA,rowAt,h,AP,hb,hc]
def AU(b:Nat)(s:AE)(a:Option (Nat×Nat))(cs:List AV):Prop:=∀k u,cs[k]? = some u→∃i o,a=some (i,o)∧i<b∧DA s i (o+k)=some u
theorem AU.old{b b':Nat}{s s':AE}{a:Option (Nat×Nat)}{cs:List AV}(h:AU b s a cs)(k:Af b' s s')(hb:b≤b'):AU b s' a cs:=fun j u hj=>by
 obtain⟨i,o,h1,h2,h3⟩:=h j u hj
 exact⟨i,o,h1,h2,by rw[B6 (k.2 i (xi h2 hb))];exact h3⟩
theorem AU.mono{b b':Nat}{s:AE}{a:Option (Nat×Nat)}{cs:List AV}(h:AU b s a cs)(hb:b≤b'):AU b' s a cs:=fun j u hj=>by
 obtain⟨i,o,h1,h2,h3⟩:=h j u hj
 exact⟨i,o,h1,xi h2 hb,h3⟩
theorem AU.nil{b:Nat}{s:AE}{a:Option (Nat×Nat)}:AU b s a []:=fun k u h=>by simp at h
theorem Dz(k:Nat):WB (k:Int)=some k:=rfl
theorem Ae{P:Program}{t e:TypeId}{n:Nat}(ht:P.underlying t=some (.slice e))(hs:BG P e=some n){i o len k:Nat}{cap:Option Nat}(hk:k<len):
  AM P t (.slice (some (i,o)) len cap) (iv (k:Int))=some (.ptr (some (i,o+k * n))):=by
 have hb:Nat.blt k len=true:=by simpa[yI]using hk
 simp[AM,Ft,Dz,ht,hs,AP,hb]
theorem Bd{P:Program}{t:TypeId}(h:EF P t=some false){s:AE}{i o:Nat}{u:AV}(hl:DA s i o=some u):AC P s t (.ptr (some (i,o)))=some u:=by
 simp[AC,h,hl]
theorem AH{P:Program}{t e:TypeId}(ht:P.underlying t=some (.slice e)){s:AE}{a:Option (Nat×Nat)}{n:Nat}{cap:Option Nat}:A6 P s t (.slice a n cap)=some (iv (n:Int)):=by
 simp[A6,ht]
theorem CQ{a b:Nat}(h:a≤b):Nat.ble a b=true:=by simpa[xo]using h
theorem Fe{a b:Nat}(h:a=b):Nat.beq a b=true:=by subst h;simp
theorem Dl{a b:Nat}(h:a≠b):Nat.beq a b=false:=by
 cases hb:Nat.beq a b with
 | true=>exact absurd (yD hb) h
 | false=>rfl
theorem Oh{a b:Nat}(h:b<a):Nat.ble a b=false:=by
 cases hb:Nat.ble a b with
 | true=>rw[xo]at hb;omega
 | false=>rfl
theorem kJ{t:AZ AV}:∀ (cs:List AV)(k:Nat),(∀j u,cs[j]? = some u→t.get (k+j)=some u)→t.take k cs.length=some cs:=by
 intro cs
 induction cs with
 | nil=>intro k _;rfl
 | cons c cs ih =>
  intro k h
  have h0:=h 0 c rfl
  simp only[yU,AZ.take]
  rw[show k+0=k from rfl]at h0
  rw[h0]
  simp only
  rw[ih (k+1) (fun j u hj=>by rw[show k+1+j=k+(j+1)from by omega];exact h (j+1) u (by simpa using hj))]
def LQ(r:D2)(cs:List AV):Prop:=r.n=cs.length∧∀k u,cs[k]? = some u→r.c.get k=some u
theorem LQ.take{r:D2}{cs:List AV}(h:LQ r cs)(o:Nat)(l:List AV)(hl:∀j u,l[j]? = some u→cs[o+j]? = some u):r.c.take o l.length=some l:=
 kJ l o fun j u hj=>h.2 _ u (hl j u hj)
theorem Kb{s:AE}{i:Nat}{r:D2}{cs:List AV}(hg:s.heap.get i=some (.row r))(h:LQ r cs)(o:Nat)(l:List AV)(hle:o+l.length≤cs.length)(hl:∀j u,l[j]? = some u→cs[o+j]? = some u):
  CI s i o l.length=some l:=by
 simp[CI,rowAt,hg,AP,h.1,CQ hle,h.take o l hl]
theorem RX(e:TypeId)(sz:Nat)(cs:List AV):∃r,F2 e sz cs=.row r∧LQ r cs∧r.sz=sz∧r.spare=false∧r.mode=.own∧r.par=none:=by
 refine⟨_,rfl,⟨rfl,?_⟩,rfl,rfl,rfl,rfl⟩
 intro k u hk
 have hlt:k<cs.length:=by
  rcases xf k cs.length with h | h
  ·exact h
  ·rw[xr h]at hk;cases hk
 show(AZ.fill .leaf 0 cs).get k=some u
 rw[AZ.get_fill,if_pos ⟨xg _,by omega⟩]
 simpa using hk
structure Gt(e:TypeId)(lo hi:Nat)(s:AE)(v:AV)(n sz:Nat)(cs:List AV)(i:Nat)(p:Option Nat):Prop where
 len:cs.length=n * sz
 ex:(v=.slice none 0 (some 0)∧n=0)∨(v=.slice (some (i,0)) n none∧lo≤i∧i<hi∧(∀q,p=some q→lo≤q∧q<hi∧q≠i) ∧
  ∃r,s.heap.get i=some (.row r)∧LQ r cs∧r.spare=true∧r.mode=.own∧r.sz=sz∧r.par=p∧r.elem=e)
theorem Gt.zero(e:TypeId)(lo hi:Nat)(s:AE)(sz:Nat)(i:Nat)(p:Option Nat):Gt e lo hi s (.slice none 0 (some 0)) 0 sz [] i p:=⟨by simp,.inl ⟨rfl,rfl⟩⟩
theorem Gt.frame{e:TypeId}{lo hi:Nat}{s s':AE}{v:AV}{n sz:Nat}{cs:List AV}{i:Nat}{p:Option Nat}(h:Gt e lo hi s v n sz cs i p)(k:lo≤i→i<hi→s'.heap.get i=s.heap.get i):Gt e lo hi s' v n sz cs i p:=by
 refine⟨h.len,?_⟩
 rcases h.ex with h1 | ⟨h1,h2,h3,h4,r,h5,h6⟩
 ·exact .inl h1
 ·exact .inr ⟨h1,h2,h3,h4,r,by rw[k h2 h3];exact h5,h6⟩
theorem Gt.mono{e:TypeId}{lo hi hi':Nat}{s:AE}{v:AV}{n sz:Nat}{cs:List AV}{i:Nat}{p:Option Nat}(h:Gt e lo hi s v n sz cs i p)(k:hi≤hi'):Gt e lo hi' s v n sz cs i p:=by
 refine⟨h.len,?_⟩
 rcases h.ex with h1 | ⟨h1,h2,h3,h4,rest⟩
 ·exact .inl h1
 ·exact .inr ⟨h1,h2,by omega,fun q hq=>⟨(h4 q hq).1,by have:=(h4 q hq).2.1;omega,(h4 q hq).2.2⟩,rest⟩
theorem Gt.cells{e:TypeId}{lo hi:Nat}{s:AE}{v:AV}{n sz:Nat}{cs:List AV}{i:Nat}{p:Option Nat}(h:Gt e lo hi s v n sz cs i p):∃a cap,v=.slice a n cap∧AU hi s a cs:=by
 rcases h.ex with⟨rfl,rfl⟩ | ⟨rfl,h2,h3,h4,r,h5,h6,_⟩
 ·refine⟨none,some 0,rfl,?_⟩
  have:cs=[]:=by have:=h.len;simp at this;exact this
  subst this
  exact AU.nil
 ·refine⟨_,_,rfl,fun k u hk=>⟨i,0,rfl,h3,?_⟩⟩
  have hlt:k<cs.length:=by
   rcases xf k cs.length with h' | h'
   ·exact h'
   ·rw[xr h']at hk;cases hk
  rw[xu]
  exact Fz h5 (by rw[h6.1];exact hlt) (h6.2 k u hk)
def tv(s s':AE)(i:Nat)(p:Option Nat):Prop:=s.next≤s'.next∧∀j,j<s.next→j≠i→p≠some j→s'.heap.get j=s.heap.get j
theorem Gt.appTo   {P : Program} {e : TypeId} {lo hi : Nat} {s : AE}  {v : AV} {n sz : Nat} {cs : List AV} {i : Nat} {p : Option Nat} (h : Gt   e lo hi s v n sz cs i p) (hhi : hi ≤ s.next) (hlo : lo ≤ s.next) (hz : DF     P e sz = true) (hsz : 0 < sz) {m : Nat} {add : List AV} (ha : add.length = m * sz) (hm : 0 < m) :
    ∃a cap v' s',v=.slice a n cap∧appTo P s e sz a n cap (m,add)=some (v',s')∧∃i' p',Gt e lo s'.next s' v' (n+m) sz (cs++add) i' p'∧tv s s' i p∧lo≤s'.next∧(i'=s.next)∧(p'=none∨p'=some i)∧s'.next=s.next+1 ∧
      (∀cell,cell<cs.length→DA s' i cell=DA s i cell∨n=0):=by
  have hlen:(cs++add).length=(n+m) * sz:=by rw[xp,h.len,ha,yH]
  rcases h.ex with⟨rfl,rfl⟩ | ⟨rfl,h2,h3,h4,r,h5,h6,h7,h8,h9,h10,h11⟩
  · have hcs:cs=[]:=by have:=h.len;simp at this;exact this
    subst hcs
    refine⟨none,some 0,.slice (some (s.next,0)) m none,newObj s (Cs e sz (AZ.fill .leaf 0 add) add.length none true),rfl,?_,s.next,none,⟨by simpa using hlen,.inr ⟨by simp,hlo,yg _,(fun q hq=>by cases hq),_,(by rw[AW,if_pos rfl];rfl),⟨rfl,?_⟩,rfl,rfl,rfl,rfl,rfl⟩⟩,
      ⟨yp _,fun j hj _ _=>by rw[AW,if_neg (by omega)]⟩,Nat.le_succ_of_le hlo,rfl,.inl rfl,rfl,fun _ _=>.inr rfl⟩
    · simp[Am.appTo,C8,Dl (show m≠0 by omega),AP,hz]
    · intro k u hk
      show(AZ.fill .leaf 0 add).get k=some u
      have hk':add[k]? = some u:=by simpa using hk
      have hlt:k<add.length:=by
        rcases xf k add.length with h' | h'
        · exact h'
        · rw[xr h']at hk';cases hk'
      rw[AZ.get_fill,if_pos ⟨xg _,by omega⟩]
      simpa using hk'
  · have hrow : rowAt s i = some r := by simp [rowAt, h5]
    have hrn:r.n=n * sz:=by rw[h6.1,h.len]
    have hload:CI s i 0 (n * sz)=some cs:=by
      have:=Kb h5 h6 0 cs (by omega) (fun j u hj=>by simpa using hj)
      rw[h.len]at this
      exact this
    have hgt:¬ (0+(n+m) * sz≤r.n):=by
      rw[hrn,yH]
      have:0<m * sz:=zA hm hsz
      omega
    let s2:=setObj (BS s i r) i (.row { r with mode:=.sealed,par:=none })
    let s':=newObj s2 (Cs e sz (r.c.fill (n * sz) add) (cs++add).length (some i) (r.bytes && Nat.beq 0 0))
    have hun:∀j,j≠i→p≠some j→(BS s i r).heap.get j=s.heap.get j:=by
      intro j hj hp
      unfold BS
      rw[h10]
      cases p with
      | none=>rfl
      | some q =>
        simp only
        rw[Dl (h4 q rfl).2.2,cond_false,G8,if_neg (fun e=>hp (by rw[e]))]
    have hnext:(BS s i r).next=s.next:=by
      unfold BS
      split
      · rfl
      · cases Nat.beq _ _<;>rfl
    have hs2n:s2.next=s.next:=hnext
    refine⟨_,_,.slice (some (s.next,0)) (n+m) none,s',rfl,?_,s.next,some i,⟨hlen,.inr ⟨rfl,hlo,by show s.next<s2.next+1;omega,?_,_,by rw[AW,if_pos hs2n.symm];rfl,⟨rfl,?_⟩,rfl,rfl,rfl,rfl,rfl⟩⟩,⟨by show s.next≤s2.next+1;omega,?_⟩,by show lo≤s2.next+1;omega,rfl,.inr rfl,by show s2.next+1=_;omega,?_⟩
    · simp only[Am.appTo]
      rw[hrow,Option.bind_some]
      unfold Kw
      rw[h9,Fe rfl]
      simp only[AP,cond_true]
      rw[show Nat.ble (0+(n+m) * sz) r.n=false from Oh (by omega),cond_false,hload,Option.bind_some,h7,cond_true]
      unfold FH
      rw[h8,hz,Fe h11,show Nat.beq (0+n * sz) r.n=true from Fe (by omega)]
      simp only[D8,Bool.and_self,AP,cond_true,Dp,Fe rfl]
      show some (AV.slice (some (s.next,0)) (n+m) none,newObj s2 _)=_
      rfl
    · intro q hq
      injection hq with hq
      subst hq
      refine⟨h2,?_,?_⟩
      · show i<s2.next+1
        omega
      · omega
    · intro k u hk
      show(r.c.fill (n * sz) add).get k=some u
      rw[AZ.get_fill]
      by_cases hlt:k<cs.length
      · rw [if_neg (by rw [← h.len]; omega)]
        rw[yf hlt]at hk
        exact h6.2 k u hk
      · rw[yi (by omega)]at hk
        have hk2:k - cs.length<add.length:=by
          rcases xf (k - cs.length) add.length with h' | h'
          · exact h'
          · rw[xr h']at hk;cases hk
        rw[if_pos ⟨by rw[← h.len];omega,by rw[← h.len];omega⟩,← h.len]
        exact hk
    · intro j hj hji hp
      show s'.heap.get j=_
      rw[AW,if_neg (by omega),MC,if_neg hji]
      exact hun j hji hp
    · intro cell hc
      left
      have e1:s'.heap.get i=some (.row { r with mode:=.sealed,par:=none }):=by
        rw[AW,if_neg (by omega),MC,if_pos rfl]
      simp only[DA,rowAt,e1,h5,Option.bind_some]
theorem X1{s:AE}{i o n size:Nat}{l:List AV}(h:CI s i o (n * size)=some l):NO s i o n size=some l:=by
 unfold NO
 cases hn0:Nat.beq n 0 with
 | false=>exact h
 | true =>
  have:=yD hn0
  subst this
  rw[yo]at h
  unfold CI at h
  simp only[xY]at h
  obtain⟨r,_,h⟩:=h
  cases hb:Nat.ble (o+0) r.n with
  | true=>rw[hb]at h;exact h
  | false=>rw[hb]at h;cases h
theorem EG{P:Program}{st xt e:TypeId}{size by_:Nat}(ht:P.underlying st=some (.slice e))(hs:BG P e=some size)(hb:DL P e=some by_)(h0:0<size)(hx:Bv P xt=true){s:AE}{a ax:Option (Nat×Nat)}{n m:Nat}{cap cx:Option Nat}{add:List AV}
  (hsrc:Ck P s e size (.slice ax m cx)=some (m,add)) (hc:An add=true) (h1:(n+m) * by_≤1099511627776) (h2:n+m≤1099511627776):
  Ar P s [st,xt] [.slice a n cap,.slice ax m cx]=appTo P s e size a n cap (m,add):=by
 simp[Ar,ht,hs,hb,AP,Dl (show size≠0 by omega),hx,hsrc,hc,CQ h1,CQ h2]
section
variable{P:Program}{ρ ρ1 ρ2:BU}{s s1 s2:AE}{w w1 w2:World}
abbrev KV:=Value×Value
def kv(e:MapEntry):KV:=(e.key,e.val)
open Classical in
def Rv(v:Value):Option (DataW Value×List MemPlace):=some (.held v,[])
def kW(P:Program)(kt:TypeId)(es:Array MapEntry):Prop:=∀e∈es.toList,∃l,keyOf P kt e.key=some l
theorem tG{kt:TypeId}{es:Array MapEntry}{clock:Nat}(hst:MapKept.Stamped es clock)(hty:kW P kt es)(hsz:es.size≤maxLen):WideElems.Fit P kt Rv es clock:=
 ⟨hsz,hst,fun x hx=>let ⟨l,hl⟩:=hty x hx;⟨(l,.held x.val),by simp[WideElems.rd,hl,Rv]⟩⟩
theorem jw{kt:TypeId}{es:Array MapEntry}{clock b:Nat}(hb:w.heap[b]? = some (.map es clock))(hst:MapKept.Stamped es clock)(hty:kW P kt es)(hsz:es.size≤maxLen):
  w.ownsMap P kt Rv b es.size (DataW.map ((es.toList.map (WideElems.rg P kt Rv)).foldr DataW.insert [])):=⟨es,clock,hb,tG hst hty hsz,xZ _,rfl⟩
theorem vK{kt:TypeId}{e:MapEntry}{l:Lit}(h:keyOf P kt e.key=some l):WideElems.rg P kt Rv e=(l,.held e.val):=by simp[WideElems.rg,WideElems.rd,h,Rv]
end
section
variable{P:Program}{ρ ρ1 ρ2:BU}{s s1 s2:AE}{w w1 w2:World}
theorem Ba.grown(h:Ba P ρ s w)(hgr:w.grownBy w1 none):Ba P ρ s w1∧Fr ρ s w ρ s w1:=by
 refine⟨⟨fun i o rb hi hr=>(h.obj i o rb hi hr).mono (BU.le_refl ρ) (hgr.block _ (h.lt i rb hr) (fun e=>by cases e)),fun i rb hr=>xi (h.lt i rb hr) hgr.size,h.sep,h.glb⟩,
  ⟨BU.le_refl ρ,fun _ h _=>h,xZ _,hgr.size,hgr.os,hgr.tape,hgr.output,fun b hb _=>hgr.block b hb (fun e=>by cases e),fun b hb=>.inl hb,fun _ _ _=>rfl⟩⟩
open Go.Maps in
open Go.Maps in
end
def Nl:AV→Bool
 | .bool _ | .int _ _ | .str _=>true
 | .ptr none | .map none | .nilFunc | .nilIface=>true
 | .slice none n c=>Nat.beq n 0 && (match c with | some 0=>true | _=>false)
 | _=>false
def Jw:List AV→Bool
 | []=>true
 | .agg cs::l=>cs.all Nl && Jw l
 | v::l=>Nl v && Jw l
theorem E8{ρ σ:BU}{v:AV}{v':Value}(h:Nl v=true)(hr:Ab ρ v v'):Ab σ v v':=by
 cases hr with
 | bool b=>exact .bool b
 | int k n=>exact .int k n
 | str hs=>exact .str hs
 | ptrNil=>exact .ptrNil
 | sliceNil=>exact .sliceNil
 | mapNil=>exact .mapNil
 | nilFunc=>exact .nilFunc
 | nilIface=>exact .nilIface
 | _=>cases h
theorem Ml{ρ σ:BU}:∀ {l:List AV}{l':List Value},l.all Nl=true→AX ρ l l'→AX σ l l'
 | [],_,_,h=>by cases h;exact .nil
 | v::l,_,hp,h=>by
  cases h with
  | cons h1 h2 =>
   simp only[List.all_cons,Bool.and_eq_true]at hp
   exact .cons (E8 hp.1 h1) (Ml hp.2 h2)
theorem IQ         {ρ σ : BU}  : ∀ {l : List AV} {l' : List Value}, Jw     l = true → AX    ρ l l' → AX    σ l l'
  | [],_,_,h=>by cases h;exact .nil
  | v::l,_,hp,h=>by
    cases h with
    | cons h1 h2 =>
      cases v with
      | agg cs =>
        simp only[Jw,Bool.and_eq_true]at hp
        cases h1 with
        | agg h1=>exact .cons (.agg (Ml hp.1 h1)) (IQ hp.2 h2)
      | _ =>
        simp only[Jw,Bool.and_eq_true]at hp
        exact .cons (E8 hp.1 h1) (IQ hp.2 h2)
structure Row where
 f:FuncId
 args:List AV
 res:AV
def Vz:List Row→FuncId→List AV→Option AV
 | [],_,_=>none
 | r::l,f,xs=>bif Nat.beq r.f f && Fl.eqAs r.args xs then some r.res else Vz l f xs
def qw(v:AV):Option (AV×AE)→Bool
 | some (u,_)=>Fl v u
 | none=>false
theorem L9:∀ {T:List Row}{f:FuncId}{xs:List AV}{v:AV},Vz T f xs=some v→∃r∈T,r.f=f∧r.args=xs∧r.res=v
 | [],_,_,_,h=>by cases h
 | r::T,f,xs,v,h=>by
  unfold Vz at h
  cases hb:Nat.beq r.f f && Fl.eqAs r.args xs with
  | true =>
   rw[hb]at h
   injection h with h
   simp only[Bool.and_eq_true]at hb
   exact⟨r,yC,yD hb.1,He hb.2,h⟩
  | false =>
   rw[hb]at h
   obtain⟨q,h1,h2⟩:=L9 h
   exact⟨q,yK _ h1,h2⟩
section
variable{P:Program}{ρ ρ1 ρ2:BU}{s s1 s2:AE}{w w1 w2:World}
end
theorem SD{α β:Type}{f:α→Option β}:∀ {l:List α}{r:List β},l.mapM f=some r→r.length=l.length∧∀ (k:Nat)(a:α),l[k]? = some a→f a=r[k]?
 | [],r,h=>by
  simp at h
  subst h
  exact⟨rfl,fun k a hk=>by simp at hk⟩
 | x::l,r,h=>by
  rw[zw]at h
  simp only[bind,pure,xY]at h
  obtain⟨y,h1,r',h2,h3⟩:=h
  injection h3 with h3
  subst h3
  obtain⟨g1,g2⟩:=SD h2
  refine⟨by simp[g1],fun k a hk=>?_⟩
  cases k with
  | zero=>simp at hk;subst hk;simpa using h1
  | succ k=>simpa using g2 k a (by simpa using hk)
theorem Jr{w:World}{a:Addr}{n:Nat}{cs:List Value}(h:w.cells? 0 a n=some cs):cs.length=n∧∀j,j<n→w.cell? (a.add j)=cs[j]? := by
 unfold World.cells? at h
 rw[if_pos (xg _)]at h
 obtain⟨g1,g2⟩:=SD h
 exact⟨by simpa using g1,fun j hj=>g2 j j (by simp[hj])⟩
theorem ik{w:World}{a:Addr}{v:Value}(h:w.cell? a=some v):a.block<w.heap.size:=by
 unfold World.cell? at h
 cases hb:w.heap[a.block]? with
 | none=>rw[hb]at h;cases h
 | some o =>
  rcases xf a.block w.heap.size with h' | h'
  ·exact h'
  ·rw[Array.getElem?_eq_none h']at hb;cases hb
theorem VB(b off n:Nat):(⟨b,off,none⟩:Addr).add n=⟨b,off+n,none⟩:=by
 unfold Addr.add
 split
 ·rename_i h;subst h;rfl
 ·rfl
section
variable{H:Type}{enc:TypeId×Value→H}{P:Program}{w:World}{held:Bool}
theorem Ur         {t e : TypeId} {sz : Nat} (ht : P.underlying t = some (.slice e)) (hsz : P.cellsOf e = sz) (h0 : 0 < sz) {fuel : Nat} {cs : List Value} {x : DataW H × List MemPlace} (h : DataW.trod enc P w 0 (fun _ => true) held fuel t cs = some x) :
    cs=[.slice none 0 0]∨(∃a,cs=[.slice (some a) 0 0]) ∨
    ∃ (b off len cap n:Nat),cs=[.slice (some ⟨b,off,none⟩) len cap]∧len≤cap∧cap≤maxLen∧b<w.heap.size ∧
      ∀i,i<len→∃cs' y,DataW.trod enc P w 0 (fun _=>true) held n e cs'=some y∧cs'.length=sz∧∀j,j<sz→w.cell? ⟨b,off+i * sz+j,none⟩=cs'[j]? := by
  rcases DataW.trod_slice ht h with⟨h1,_⟩ | ⟨a,len,cap,elems,rest,n,h1,h2,h3,h4,h5,h6,h7,h8,h9,_⟩
  · exact .inl h1
  · rw[hsz]at h8 h9
    obtain⟨h9,h10⟩:=h9 rfl
    rcases yX cap with rfl | hcap
    · have:len=0:=by omega
      subst this
      exact .inr (.inl ⟨a,h2⟩)
    ·
      have first:∃v,w.cell? a=some v:=by
        rcases yX len with hl | hl
        · subst hl
          have:=h10 0 (by omega)
          have hlt:0<rest.length:=by omega
          rw[xe hlt]at this
          simp only[xY]at this
          obtain⟨cs',g1,_⟩:=this
          obtain⟨g2,g3⟩:=Jr g1
          have g4:=g3 0 h0
          rw[xe (show 0<cs'.length by omega)]at g4
          exact⟨_,by simpa[Addr.add]using g4⟩
        · have:=h8 0 hl
          rw[xe (show 0<elems.length by omega)]at this
          simp only[xY]at this
          obtain⟨cs',g1,_⟩:=this
          obtain⟨g2,g3⟩:=Jr g1
          have g4:=g3 0 h0
          rw[xe (show 0<cs'.length by omega)]at g4
          exact⟨_,by simpa[Addr.add]using g4⟩
      obtain⟨v,hv⟩:=first
      have hspot:=World.cell?_spot hv
      have hlt:=ik hv
      obtain⟨b,off,spot⟩:=a
      have hspot:spot=none:=hspot
      subst hspot
      refine .inr (.inr ⟨b,off,len,cap,n,h2,h5,h6,hlt,fun i hi=>?_⟩)
      have:=h8 i hi
      rw[xe (show i<elems.length by omega)]at this
      simp only[xY]at this
      obtain⟨cs',g1,g2⟩:=this
      obtain⟨g3,g4⟩:=Jr g1
      refine⟨cs',_,g2,g3,fun j hj=>?_⟩
      have:=g4 j hj
      rw[VB,VB]at this
      exact this
structure Gl(P:Program)(w:World)(ρ:BU)(s:AE):Prop where
 inv:Ba P ρ s w
 fresh:BA ρ s
 ro:∀i o,s.heap.get i=some o→wr o=false
theorem vF(P:Program)(w:World):Gl P w tZ vT:=⟨wE P w,tH,fun i o h=>by cases h⟩
theorem Gl.notOwned{ρ:BU}{s:AE}(h:Gl P w ρ s)(b:Nat):¬ Gi ρ s b:=fun⟨i,o,rb,h1,h2,_⟩=>by rw[h.ro i o h1]at h2;cases h2
def qy(e:TypeId)(sz:Nat)(cs:List AV):BD:=.row { elem:=e,sz,n:=cs.length,c:=AZ.fill .leaf 0 cs,spare:=false,mode:=.ro,par:=none,bytes:=false }
theorem gM{cs:List AV}{k:Nat}{u:AV}(h:cs[k]? = some u):(AZ.fill .leaf 0 cs).get k=some u:=by
 have hlt:k<cs.length:=by
  rcases xf k cs.length with h' | h'
  ·exact h'
  ·rw[xr h']at h;cases h
 rw[AZ.get_fill,if_pos ⟨xg _,by omega⟩]
 simpa using h
theorem Gl.row{ρ:BU}{s:AE}(h:Gl P w ρ s)(e:TypeId)(sz b off:Nat)(cs:List AV)(hb:b<w.heap.size)(hc:∀k u,cs[k]? = some u→∃v,w.cell? ⟨b,off+k,none⟩=some v∧Ab ρ u v):
    ∃ρ',Gl P w ρ' (newObj s (qy e sz cs))∧ρ.le ρ'∧ρ' s.next=some ⟨b,off,cs.length,sz⟩:=by
  have hf:=h.fresh s.next (xZ _)
  have hle:=Bh (rb:=⟨b,off,cs.length,sz⟩) hf.1
  refine⟨B9 ρ s.next ⟨b,off,cs.length,sz⟩,⟨⟨?_,?_,?_,?_⟩,?_,?_⟩,hle,Ac _ _⟩
  · intro i o rb hi hr
    rw[AW]at hi
    by_cases e':i=s.next
    · subst e'
      rw[if_pos rfl]at hi
      injection hi with hi
      subst hi
      rw[Ac]at hr
      injection hr with hr
      subst hr
      refine⟨fun k v hk hv=>?_,xZ _,rfl,fun _=>rfl,fun hm=>absurd rfl hm,(fun hh=>by cases hh),(fun g hg=>by cases hg),fun p hp=>by cases hp⟩
      have hk:k<cs.length:=hk
      have hv:(AZ.fill .leaf 0 cs).get k=some v:=hv
      have hu:cs[k]? = some cs[k]:=xe hk
      rw[gM hu]at hv
      injection hv with hv
      subst hv
      obtain⟨v',h1,h2⟩:=hc k _ hu
      exact⟨v',h1,h2.mono hle⟩
    · rw [if_neg e'] at hi
      rw[AY _ e']at hr
      exact(h.inv.obj i o rb hi hr).mono hle rfl
  · intro i rb hr
    by_cases e':i=s.next
    · subst e'
      rw[Ac]at hr
      injection hr with hr
      subst hr
      exact hb
    · rw[AY _ e']at hr
      exact h.inv.lt i rb hr
  · intro i j oi oj ri rj _ _ hj _ _ _ hw
    rw[AW]at hj
    by_cases e':j=s.next
    · rw[if_pos e']at hj
      injection hj with hj
      subst hj
      cases hw
    · rw [if_neg e'] at hj
      rw[h.ro j oj hj]at hw
      cases hw
  · intro i o g hi hg
    rw[AW]at hi
    by_cases e':i=s.next
    · rw[if_pos e']at hi
      injection hi with hi
      subst hi
      cases hg
    · rw[if_neg e']at hi
      obtain⟨rb,hr⟩:=h.inv.glb i o g hi hg
      exact⟨rb,by rw[AY _ e'];exact hr⟩
  · intro i hi
    have hi:s.next+1≤i:=hi
    refine⟨?_,?_⟩
    · rw[AY _ (by omega)];exact(h.fresh i (by omega)).1
    · rw[AW,if_neg (by omega)];exact(h.fresh i (by omega)).2
  · intro i o hi
    rw[AW]at hi
    by_cases e':i=s.next
    · rw[if_pos e']at hi
      injection hi with hi
      subst hi
      rfl
    · rw[if_neg e']at hi
      exact h.ro i o hi
def KL(P:Program)(w:World){α:Type}(p:AE→List AV→α→Prop)(cs:List Value)(ρ:BU)(s:AE):Prop:=
 ∃ρ' s' us x,Gl P w ρ' s'∧ρ.le ρ'∧Af s.next s s'∧AX ρ' us cs∧p s' us x
theorem UC         {α : Type} {p : AE  → List AV → α → Prop} (hp : ∀ s s' us x, p s us x → Af  s.next s s' → p s' us x) {sz b off len : Nat}
    (hel:∀i,i<len→∃cs':List Value,cs'.length=sz∧(∀j,j<sz→w.cell? ⟨b,off+i * sz+j,none⟩=cs'[j]?)∧∀ρ s,Gl P w ρ s→KL P w p cs' ρ s):
    ∀ (m : Nat), m ≤ len → ∀ ρ s, Gl   P w ρ s → ∃ (ρ' : BU)  (s' : AE)  (us : List AV) (xs : List α), Gl   P w ρ' s' ∧ ρ.le ρ' ∧ Af  s.next s s' ∧ us.length = m * sz ∧ xs.length = m ∧
      (∀k u,us[k]? = some u→∃v,w.cell? ⟨b,off+k,none⟩=some v∧Ab ρ' u v)∧∀ (k:Nat) (x:α),xs[k]? = some x→p s' ((us.drop (k * sz)).take sz) x:=by
  intro m
  induction m with
  | zero=>intro _ ρ s h;exact⟨ρ,s,[],[],h,BU.le_refl ρ,Af.refl _ _,by simp,rfl,fun k u hk=>by simp at hk,fun k x hk=>by simp at hk⟩
  | succ m ih =>
    intro hm ρ s h
    obtain⟨ρ1,s1,us,xs,g1,g2,g3,g4,g5,g6,g7⟩:=ih (by omega) ρ s h
    obtain⟨cs',k1,k2,k3⟩:=hel m (by omega)
    obtain⟨ρ2,s2,vs,y,q1,q2,q3,q4,q5⟩:=k3 ρ1 s1 g1
    have hvl:vs.length=sz:=by rw[q4.length,k1]
    refine⟨ρ2,s2,us++vs,xs++[y],q1,BU.le_trans g2 q2,g3.trans (q3.mono g3.1),by rw[xp,g4,hvl,yH,ye],by simp[g5],fun k u hk=>?_,fun k x hk=>?_⟩
    · rcases xf           k us.length with hlt | hge
      · rw[yf hlt]at hk
        obtain⟨v,e1,e2⟩:=g6 k u hk
        exact⟨v,e1,e2.mono q2⟩
      · rw[yi hge]at hk
        have hj:k - us.length<sz:=by
          rcases xf (k - us.length) vs.length with h' | h'
          · omega
          · rw[xr h']at hk;cases hk
        obtain⟨v,e1,e2⟩:=q4.get hk
        refine⟨v,?_,e2⟩
        have:=k2 (k - us.length) hj
        rw[e1]at this
        rw[show off+k=off+m * sz+(k - us.length) by omega]
        exact this
    · rcases xf           k m with hlt | hge
      · rw[yf (by omega)]at hk
        have:=hp s1 s2 _ _ (g7 k x hk) q3
        have hks:(k+1) * sz≤m * sz:=yA _ hlt
        rw[yH,ye]at hks
        rw[A0I (by omega),A0N (by rw[yL];omega)]
        exact this
      · rw[yi (by omega)]at hk
        have hk0:k=m:=by
          rcases xf (k - xs.length) 1 with h' | h'
          · omega
          · rw[xr (by simpa using h')]at hk;cases hk
        subst hk0
        have hxy:y=x:=by simpa[g5]using hk
        subst hxy
        rw[← g4,zy rfl,yq (by omega)]
        exact q5
def kU(s:AE)(a:Option (Nat×Nat))(cap:Option Nat)(n sz:Nat):Prop:=(∃c,cap=some c∧n≤c∧(a=none→c=0))∨(n=0∧cap=none∧∃i r,a=some (i,0)∧i<s.next∧s.heap.get i=some (.row r)∧r.sz=sz)
def GG{α:Type}(p:AE→List AV→α→Prop)(sz:Nat)(s:AE)(us:List AV)(xs:List α):Prop:=
 ∃a cap,us=[.slice a xs.length cap]∧xs.length≤maxLen∧kU s a cap xs.length sz∧∀ (k:Nat) (x:α),xs[k]? = some x→∃i o vs,a=some (i,o)∧i<s.next∧vs.length=sz∧(∀j u,vs[j]? = some u→DA s i (o+k * sz+j)=some u)∧p s vs x
theorem G4          {α : Type} {p : AE  → List AV → α → Prop} (hp : ∀ s s' us x, p s us x → Af  s.next s s' → p s' us x) {t e : TypeId} {sz : Nat} (ht : P.underlying t = some (.slice e)) (hsz : P.cellsOf e = sz) (h0 : 0 < sz)
    (hel:0<w.heap.size→∀ (n:Nat) (cs:List Value) (y:DataW H×List MemPlace),DataW.trod enc P w 0 (fun _=>true) held n e cs=some y→cs.length=sz→∀ρ s,Gl P w ρ s→KL P w p cs ρ s)
    {fuel:Nat} {cs:List Value} {x:DataW H×List MemPlace} (h:DataW.trod enc P w 0 (fun _=>true) held fuel t cs=some x) (hw:∀a,cs=[.slice (some a) 0 0]→0<w.heap.size) {ρ:BU} {s:AE} (hd:Gl P w ρ s):KL P w (GG p sz) cs ρ s:=by
  rcases Ur ht hsz h0 h with rfl | ⟨a,rfl⟩ | ⟨b,off,len,cap,n,rfl,h1,h2,h3,h4⟩
  · exact⟨ρ,s,[.slice none 0 (some 0)],[],hd,BU.le_refl ρ,Af.refl _ _,.cons .sliceNil .nil,none,some 0,rfl,xg _,.inl ⟨0,rfl,xZ _,fun _=>rfl⟩,fun k x hk=>by simp at hk⟩
  · obtain⟨ρ',g1,g2,g3⟩:=hd.row e sz 0 0 [] (hw a rfl) (fun k u hk=>by simp at hk)
    exact⟨ρ',_,[.slice (some (s.next,0)) 0 none],[],g1,g2,Af.new s _,.cons (.sliceEnd g3 h0 (xZ _) (by show 0<0+sz;omega)) .nil,_,_,rfl,xg _,.inr ⟨rfl,rfl,s.next,{ elem:=e,sz,n:=0,c:=AZ.fill .leaf 0 [],spare:=false,mode:=.ro,par:=none,bytes:=false },rfl,yg _,by rw[AW,if_pos rfl];rfl,rfl⟩,fun k x hk=>by simp at hk⟩
  · obtain⟨ρ1,s1,us,xs,g1,g2,g3,g4,g5,g6,g7⟩:=UC (w:=w) (P:=P) hp (sz:=sz) (b:=b) (off:=off) (len:=len) (fun i hi=>by
      obtain⟨cs',y,q1,q2,q3⟩:=h4 i hi
      exact⟨cs',q2,q3,fun ρ s hd=>hel (by omega) n cs' y q1 q2 ρ s hd⟩) len (xZ _) ρ s hd
    obtain⟨ρ2,k1,k2,k3⟩:=g1.row e sz b off us h3 g6
    have o2:Af s1.next s1 (newObj s1 (qy e sz us)):=Af.new s1 _
    refine⟨ρ2,_,[.slice (some (s1.next,0)) xs.length (some cap)],xs,k1,BU.le_trans g2 k2,g3.trans (o2.mono g3.1),?_,some (s1.next,0),some cap,rfl,by omega,.inl ⟨cap,rfl,by omega,fun h=>by cases h⟩,fun k x hk=>?_⟩
    · rw[g5]
      exact .cons (.slice k3 h1) .nil
    · have hkl:k<len:=by
        rcases xf k xs.length with h' | h'
        · omega
        · rw[xr h']at hk;cases hk
      have hks:(k+1) * sz≤len * sz:=yA _ hkl
      rw[yH,ye]at hks
      refine⟨s1.next,0,(us.drop (k * sz)).take sz,rfl,yg _,by rw[xz,yL];omega,fun j u hj=>?_,hp s1 _ _ _ (g7 k x hk) o2⟩
      rw[zp]at hj
      split at hj
      · rename_i hjs
        rw[yn]at hj
        rw[xu]
        exact Fz (r:={ elem:=e,sz,n:=us.length,c:=AZ.fill .leaf 0 us,spare:=false,mode:=.ro,par:=none,bytes:=false }) (by rw[AW,if_pos rfl];rfl) (by show k * sz+j<us.length;omega) (gM hj)
      · cases hj
end
end
end Go.Proofs.YtjnkfbpadpmakaaGreatDoor.Am
namespace Go.Proofs.YtjnkfbpadpmakaaGreatDoor.Am
open Go Go.Proofs Go.Shelf
noncomputable section
def GV:Go.Shelf.Ren:=⟨fun | 7=>79 | 10=>121 | n=>n,fun | 23=>54 | 26=>3 | 3=>26 | 28=>93 | 0=>0 | 27=>92 | 33=>137 | 4=>4 | n=>n,fun | n=>n⟩
theorem R3:Go.Proofs.SlLaysZI.n7 Tryz.prog GV:={
 mixed:=by kernel_rfl
 f7:=⟨Tryz.f79.name,by decide,Tryz.func79.trans (congrArg some (by kernel_rfl))⟩
 f10:=⟨Tryz.f121.name,by decide,Tryz.func121.trans (congrArg some (by kernel_rfl))⟩
 t0:=Tryz.underlying0
 a0:=Tryz.isAgg0
 z0:=Tryz.sizeOf0
 v0:=Tryz.zeroValue0
 t4:=Tryz.underlying4
 a4:=Tryz.isAgg4
 z4:=Tryz.sizeOf4
 v4:=Tryz.zeroValue4
 t23:=Tryz.underlying54
 a23:=Tryz.isAgg54
 z23:=Tryz.sizeOf54
 v23:=Tryz.zeroValue54
 t26:=Tryz.underlying3
 a26:=Tryz.isAgg3
 z26:=Tryz.sizeOf3
 v26:=Tryz.zeroValue3
 t27:=Tryz.underlying92
 a27:=Tryz.isAgg92
 z27:=Tryz.sizeOf92
 v27:=Tryz.zeroValue92
 t28:=Tryz.underlying93
 a28:=Tryz.isAgg93
 z28:=Tryz.sizeOf93
 v28:=Tryz.zeroValue93
 t33:=Tryz.underlying137
 a33:=Tryz.isAgg137
 z33:=Tryz.sizeOf137
 v33:=Tryz.zeroValue137 }
def HF:Go.Shelf.Ren:=⟨fun | 6=>78 | 8=>119 | 9=>120 | 11=>142 | 13=>144 | 12=>143 | 23=>164 | 24=>165 | 14=>155 | 15=>156 | 16=>157 | 17=>158 | 18=>159 | 19=>160 | 20=>161 | 21=>162 | 22=>163 | 25=>175 | 26=>176 | 27=>177 | 28=>178 | 29=>179 | 30=>180 | 31=>189 | n=>n,fun | 26=>3 | 28=>93 | 24=>27 | 0=>0 | 3=>3 | 37=>113 | 48=>76 | 50=>69 | 4=>4 | 40=>164 | 39=>163 | 45=>169 | 5=>5 | 9=>9 | 51=>185 | 55=>189 | 57=>199 | 58=>200 | 33=>137 | n=>n,fun | n=>n⟩
theorem MG:Go.Proofs.SlLaysZI.n6 Tryz.prog HF:={
 mixed:=by kernel_rfl
 f6:=⟨Tryz.f78.name,by decide,Tryz.func78.trans (congrArg some (by kernel_rfl))⟩
 f8:=⟨Tryz.f119.name,by decide,Tryz.func119.trans (congrArg some (by kernel_rfl))⟩
 f11:=⟨Tryz.f142.name,by decide,Tryz.func142.trans (congrArg some (by kernel_rfl))⟩
 t0:=Tryz.underlying0
 a0:=Tryz.isAgg0
 z0:=Tryz.sizeOf0
 v0:=Tryz.zeroValue0
 t24:=Tryz.underlying27
 a24:=Tryz.isAgg27
 z24:=Tryz.sizeOf27
 v24:=Tryz.zeroValue27
 t26:=Tryz.underlying3
 a26:=Tryz.isAgg3
 z26:=Tryz.sizeOf3
 v26:=Tryz.zeroValue3
 t28:=Tryz.underlying93
 a28:=Tryz.isAgg93
 z28:=Tryz.sizeOf93
 v28:=Tryz.zeroValue93
 i26:=by kernel_rfl }
def PR:Go.Shelf.Ren:=⟨fun | 5=>120 | 8=>144 | 7=>143 | 19=>164 | 20=>165 | 10=>155 | 11=>156 | 12=>157 | 13=>158 | 14=>159 | 15=>160 | 16=>161 | 17=>162 | 18=>163 | 30=>175 | 31=>176 | 32=>177 | 33=>178 | 34=>179 | 35=>180 | 40=>189 | n=>n,fun | 23=>27 | 25=>3 | 3=>3 | 32=>113 | 22=>27 | 0=>0 | 44=>76 | 46=>69 | 4=>4 | 36=>164 | 35=>163 | 41=>169 | 5=>5 | 9=>9 | 53=>185 | 57=>189 | 63=>199 | 64=>200 | n=>n,fun | n=>n⟩
theorem R4:Go.Proofs.SlLaysM.n5 Tryz.prog PR:={
 mixed:=by kernel_rfl
 f5:=⟨Tryz.f120.name,by decide,Tryz.func120.trans (congrArg some (by kernel_rfl))⟩
 f7:=⟨Tryz.f143.name,by decide,Tryz.func143.trans (congrArg some (by kernel_rfl))⟩
 f8:=Tryz.func144.trans (congrArg some (by kernel_rfl))
 f10:=⟨Tryz.f155.name,by decide,Tryz.func155.trans (congrArg some (by kernel_rfl))⟩
 f11:=⟨Tryz.f156.name,by decide,Tryz.func156.trans (congrArg some (by kernel_rfl))⟩
 f12:=⟨Tryz.f157.name,by decide,Tryz.func157.trans (congrArg some (by kernel_rfl))⟩
 f13:=⟨Tryz.f158.name,by decide,Tryz.func158.trans (congrArg some (by kernel_rfl))⟩
 f14:=⟨Tryz.f159.name,by decide,Tryz.func159.trans (congrArg some (by kernel_rfl))⟩
 f15:=⟨Tryz.f160.name,by decide,Tryz.func160.trans (congrArg some (by kernel_rfl))⟩
 f16:=⟨Tryz.f161.name,by decide,Tryz.func161.trans (congrArg some (by kernel_rfl))⟩
 f17:=⟨Tryz.f162.name,by decide,Tryz.func162.trans (congrArg some (by kernel_rfl))⟩
 f18:=⟨Tryz.f163.name,by decide,Tryz.func163.trans (congrArg some (by kernel_rfl))⟩
 f19:=Tryz.func164.trans (congrArg some (by kernel_rfl))
 f20:=Tryz.func165.trans (congrArg some (by kernel_rfl))
 f30:=⟨Tryz.f175.name,by decide,Tryz.func175.trans (congrArg some (by kernel_rfl))⟩
 f31:=Tryz.func176.trans (congrArg some (by kernel_rfl))
 f32:=Tryz.func177.trans (congrArg some (by kernel_rfl))
 f33:=⟨Tryz.f178.name,by decide,Tryz.func178.trans (congrArg some (by kernel_rfl))⟩
 f34:=⟨Tryz.f179.name,by decide,Tryz.func179.trans (congrArg some (by kernel_rfl))⟩
 f35:=⟨Tryz.f180.name,by decide,Tryz.func180.trans (congrArg some (by kernel_rfl))⟩
 f40:=⟨Tryz.f189.name,by decide,Tryz.func189.trans (congrArg some (by kernel_rfl))⟩
 t0:=Tryz.underlying0
 a0:=Tryz.isAgg0
 z0:=Tryz.sizeOf0
 v0:=Tryz.zeroValue0
 t3:=Tryz.underlying3
 a3:=Tryz.isAgg3
 z3:=Tryz.sizeOf3
 v3:=Tryz.zeroValue3
 t4:=Tryz.underlying4
 a4:=Tryz.isAgg4
 z4:=Tryz.sizeOf4
 v4:=Tryz.zeroValue4
 t5:=Tryz.underlying5
 a5:=Tryz.isAgg5
 z5:=Tryz.sizeOf5
 v5:=Tryz.zeroValue5
 t9:=Tryz.underlying9
 a9:=Tryz.isAgg9
 z9:=Tryz.sizeOf9
 v9:=Tryz.zeroValue9
 t22:=Tryz.underlying27
 a22:=Tryz.isAgg27
 z22:=Tryz.sizeOf27
 v22:=Tryz.zeroValue27
 t23:=Tryz.underlying27
 a23:=Tryz.isAgg27
 z23:=Tryz.sizeOf27
 v23:=Tryz.zeroValue27
 t25:=Tryz.underlying3
 a25:=Tryz.isAgg3
 z25:=Tryz.sizeOf3
 v25:=Tryz.zeroValue3
 t32:=Tryz.underlying113
 a32:=Tryz.isAgg113
 z32:=Tryz.sizeOf113
 v32:=Tryz.zeroValue113
 t35:=Tryz.underlying163
 a35:=Tryz.isAgg163
 z35:=Tryz.sizeOf163
 v35:=Tryz.zeroValue163
 t36:=Tryz.underlying164
 a36:=Tryz.isAgg164
 z36:=Tryz.sizeOf164
 v36:=Tryz.zeroValue164
 t41:=Tryz.underlying169
 a41:=Tryz.isAgg169
 z41:=Tryz.sizeOf169
 v41:=Tryz.zeroValue169
 t44:=Tryz.underlying76
 a44:=Tryz.isAgg76
 z44:=Tryz.sizeOf76
 v44:=Tryz.zeroValue76
 t46:=Tryz.underlying69
 a46:=Tryz.isAgg69
 z46:=Tryz.sizeOf69
 v46:=Tryz.zeroValue69
 t53:=Tryz.underlying185
 a53:=Tryz.isAgg185
 z53:=Tryz.sizeOf185
 v53:=Tryz.zeroValue185
 t57:=Tryz.underlying189
 a57:=Tryz.isAgg189
 z57:=Tryz.sizeOf189
 v57:=Tryz.zeroValue189
 t63:=Tryz.underlying199
 a63:=Tryz.isAgg199
 z63:=Tryz.sizeOf199
 v63:=Tryz.zeroValue199
 t64:=Tryz.underlying200
 a64:=Tryz.isAgg200
 z64:=Tryz.sizeOf200
 v64:=Tryz.zeroValue200 }
end
end Go.Proofs.YtjnkfbpadpmakaaGreatDoor.Am
