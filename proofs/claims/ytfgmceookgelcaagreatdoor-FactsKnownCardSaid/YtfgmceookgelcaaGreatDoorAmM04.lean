/- The abstract machine runs as the model does; conditions: told in 'SimOk'. -/
import Derived.LoopNIn
import Derived.Test.YtfgmceookgelcaaGreatDoorAmM03
import Derived.Maps.RangeRun
import Derived.Test.YtfgmceookgelcaaGreatDoorAmM02
import Derived.Test.YtfgmceookgelcaaGreatDoorProg
import Derived.Shelf.Strings.OnBuilder
import Derived.Shelf.Strings.Trim
import Derived.Shelf.Strconv.Itoa3
import Derived.Shelf.SlIterI.Nil
import Derived.Shelf.SlIterI.Sorted
import Derived.Shelf.SortM.Plain
import Derived.Shelf.SortM.SortNone
import Derived.Ground.GgzProg
import Derived.Ground.SlgmProg
import Derived.Shelf.SlMaps.Copy
import Derived.Ground.SlmpProg
import Derived.ChangeSame
import Derived.Test.YtfgmceookgelcaaGreatDoorAmM01
set_option linter.unusedVariables false
set_option linter.unusedSimpArgs false
namespace Go.Proofs.YtfgmceookgelcaaGreatDoor.Am
open Go
noncomputable section
def EL:JK→Exit
 | .normal=>.normal
 | .exit id=>.exit id
 | .ret=>.ret
def JO(ρ:A4):Option Nat→Option Nat→Prop
 | none,r=>r=none
 | some l,r=>∃rb,ρ l=some rb∧r=some rb.b
theorem JO.mono{ρ ρ1:A4}{rnd r:Option Nat}(h:JO ρ rnd r)(le:ρ.le ρ1):JO ρ1 rnd r:=by
 cases rnd with
 | none=>exact h
 | some l=>obtain⟨rb,h1,h2⟩:=h;exact⟨rb,le _ _ h1,h2⟩
structure Gk(P:Program)(fn:Func)(ρ:A4)(s:AE)(w:World)(r:Au)(a':Act)(w':World)(ρ':A4):Prop where
 inv:Av P ρ' r.st w'
 fresh:Ag ρ' r.st
 fr:Fr ρ s w ρ' r.st w'
 vars:Al P ρ' fn r.var a'.tmps
 marks:BS ρ' r.marks a'.defers
structure Gj(P:Program)(fn:Func)(ρ:A4)(s:AE)(w:World)(var:List AV)(marks:List Nat)(rnd r:Option Nat)(a:Act):Prop where
 inv:Av P ρ s w
 fresh:Ag ρ s
 vars:Al P ρ fn var a.tmps
 marks:BS ρ marks a.defers
 rnd:JO ρ rnd r
def Hs(P:Program)(F:Cv):Prop:=∀ (f:FuncId)(fn:Func)(c:Code)(rnd r:Option Nat)(var:List AV)(marks:List Nat)(s:AE)(res:Au)(ρ:A4)(w:World)(a:Act)(Q:Exit→Act→World→Prop),
 P.funcs[f]? = some fn→F.code rnd (Aa P f fn.ntmps (Ac P fn) c) var marks s=some res→Gj P fn ρ s w var marks rnd r a →
 (∀a' w' ρ',Gk P fn ρ s w res a' w' ρ'→Q (EL res.exit) a' w')→c.wpIn (HN r) 0 P Q a w
def Q5(P:Program)(F:Cv)(n:Nat):Prop:=∀ (f:FuncId)(fn:Func)(c:Code)(rnd r:Option Nat)(var:List AV)(marks:List Nat)(s:AE)(res:Au)(ρ:A4)(w:World)(a:Act)(Q:Exit→Act→World→Prop),
 P.funcs[f]? = some fn→F.code rnd (.loop (Aa P f fn.ntmps (Ac P fn) c)) var marks s=some res→Gj P fn ρ s w var marks rnd r a →
 (∀a' w' ρ',Gk P fn ρ s w res a' w' ρ'→Q (EL res.exit) a' w')→Code.roundsIn (HN r) 0 P c Q n a w
def BL(P:Program)(call:FuncId→List AV→AE→Option (AV×AE)):Prop:=∀ (ρ:A4)(s:AE)(w:World)(f:FuncId)(aS:List AV)(v:AV)(s1:AE)(as':Array Value),
 call f aS s=some (v,s1)→Av P ρ s w→Ag ρ s→AK ρ aS as'.toList →
 (∃fn c,P.funcs[f]? = some fn∧fn.body=some c)∧CallsIn Fence.wide 0 P f as' w (CU P ρ s w v s1)
def DO (P : Program) : Prop := ∀ (f : FuncId) (fn : Func), P.funcs[f]? = some fn → (fn.name == "runtime.NumGoroutine") = false
structure NM(P:Program)(F:Cv)(n:Nat):Prop where
 code:Hs P F
 loop:Q5 P F n
 call:BL P F.call
 round:∀ (ρ:A4) (s:AE) (w:World) (l:Nat) (rb:RB) (aS:List AV) (v:AV) (s1:AE) (as':Array Value),F.round l aS s=some (v,s1)→Av P ρ s w→Ag ρ s→ρ l=some rb→AK ρ aS as'.toList →
  Cw P ρ s w v s1 ((Instr.yield rb.b as').run P w)
section
variable{P:Program}{ρ ρ1 ρ2:A4}{s s1 s2:AE}{w w1 w2:World}
theorem Ff(hng:DO P){f:FuncId}{fn:Func}{c:Code}(hf:P.funcs[f]? = some fn)(hb:fn.body=some c)(args:Array Value)(w:World):(callFunc f args).run P w=.ok (.enter f args) w:=by
  have h1:=hng f fn hf
  have h2 : fn.name ≠ "runtime.NumGoroutine" := by simpa using h1
  simp[callFunc,hf,h2,hb]
theorem NM.fok(hng:DO P){F:Cv}{n:Nat}(h:NM P F n):ZP P F where
 call:=fun ρ s w f aS v s1 as' hc hi hf ha=>by
  obtain⟨⟨fn,c,h1,h2⟩,h3⟩:=h.call ρ s w f aS v s1 as' hc hi hf ha
  rw[Ff hng h1 h2]
  exact .enter h3
 round:=h.round
theorem Gk.trans{fn:Func}{s1:AE}{r1 r2:Au}{a1 a2:Act}(h1:Fr ρ s w ρ1 s1 w1)(h2:Gk P fn ρ1 s1 w1 r2 a2 w2 ρ2):Gk P fn ρ s w r2 a2 w2 ρ2:=
 ⟨h2.inv,h2.fresh,h1.trans h2.fr,h2.vars,h2.marks⟩
theorem Gk.begins{fn:Func}{r:Au}{a1:Act}{var:List AV}{marks:List Nat}{rnd rr:Option Nat}{a:Act}(hb:Gj P fn ρ s w var marks rnd rr a)(h:Gk P fn ρ s w r a1 w1 ρ1):Gj P fn ρ1 r.st w1 r.var r.marks rnd rr a1:=
 ⟨h.inv,h.fresh,h.vars,h.marks,hb.rnd.mono h.fr.le⟩
theorem dO     (hm : P.follows .mixedOrders = true) {F : Cv}  (hF : ZP  P F) {fn : Func} {f : FuncId} {id : Nat} {ops : Array Oper} {draw : Bool} {r rnd : Option Nat} {var : List AV} {marks : List Nat} {s : AE}  {res : Au}   {ρ : A4}  {w : World} {a : Act} {Q : Exit → Act → World → Prop}
    (hc:CG F rnd (Aa P f fn.ntmps (Ac P fn) (.region id ops draw)) var marks s=some res) (hb:Gj P fn ρ s w var marks rnd r a)
    (hq:∀a' w' ρ',Gk P fn ρ s w res a' w' ρ'→Q (EL res.exit) a' w'):(Code.region id ops draw).wpIn (HN r) 0 P Q a w:=by
  have fin:∀ {items:List AC} {b:Array Nat} {l:List Nat},Dt P fn.ntmps (Ac P fn) ops b draw l ⟨[],0⟩ []=some items→CG F rnd (.ops items) var marks s=some res →
      ∃R' s',Trace P F ops fn.ntmps b draw l [] (IJ (Ac P fn) var) s R' s'∧res.exit=.normal∧res.marks=marks∧res.st=s'∧∃c' loc',DX (Ac P fn) c' loc' res.var R':=by
    intro items b l hi hs
    simp only[CG,Zf]at hs
    split at hs<;>first | (cases hs;done) | skip
    rename_i p hp
    injection hs with hs
    subst hs
    obtain⟨R',h1,h2⟩:=Pk l ⟨[],0⟩ [] items [] var s p.1 p.2 (IJ (Ac P fn) var) [] hi hp (Io hb.vars.len) .nil
    exact⟨R',p.2,h1,rfl,rfl,rfl,h2⟩
  have back:∀ {R':Bp} {a':Act} {w':World} {ρ':A4},(∃c' loc',DX (Ac P fn) c' loc' res.var R')→res.exit=.normal→res.marks=marks→Av P ρ' res.st w'→Ag ρ' res.st→Fr ρ s w ρ' res.st w'→D5 ρ' R' a'.tmps→a'.tmps.size=a.tmps.size→a'.defers=a.defers→Q .normal a' w':=by
    intro R' a' w' ρ' ⟨c',loc',hcr⟩ he hmk h1 h2 h3 h4 h5 h6
    have:=hq a' w' ρ' ⟨h1,h2,h3,Tp hcr h4 (by rw[h5];exact hb.vars.size),by rw[hmk,h6];exact hb.marks.mono h3.le⟩
    rw[he]at this
    exact this
  cases draw with
  | false =>
    refine wpIn_region ?_
    simp only[Aa]at hc
    cases hi:Dt P fn.ntmps (Ac P fn) ops #[] false (List.range ops.size) ⟨[],0⟩ []with
    | none=>rw[hi]at hc;cases hc
    | some items =>
      rw[hi]at hc
      obtain⟨R',s',h1,h2,h3,h4,h5⟩:=fin hi hc
      subst h4
      exact To hF h1 hb.inv hb.fresh (Fz hb.vars) hb.vars.size fun a' w' ρ' g1 g2 g3 g4 g5 g6=>back h5 h2 h3 g1 g2 g3 g4 g5 g6
  | true =>
    refine wpIn_region_any hm ?_
    simp only[Aa]at hc
    cases hpl:EH P ops (Region.before ops) [] (bB P ops)with
    | false=>rw[hpl]at hc;cases hc
    | true =>
      rw[hpl]at hc
      simp only[AH,cond_true]at hc
      cases hi:Dt P fn.ntmps (Ac P fn) ops (Region.before ops) true (bB P ops) ⟨[],0⟩ []with
      | none=>rw[hi]at hc;cases hc
      | some items =>
        rw[hi]at hc
        obtain⟨R',s',h1,h2,h3,h4,h5⟩:=fin hi hc
        subst h4
        have hd:=Fr.drawn' (ρ:=ρ) (s:=s) (w:=w) (w.drawn+1)
        exact XZ hF h1 hpl (hb.inv.drawn (w.drawn+1)) hb.fresh (Fz hb.vars) hb.vars.size fun a' w' ρ' g1 g2 g3 g4 g5 g6=>back h5 h2 h3 g1 g2 (hd.trans g3) g4 g5 g6
theorem GT{l:Nat}{L:Loop}(h:w.heap[l]? = some (.loop L))(fn:FuncId)(tmps:Array Value)(ps:Array Tmp)(assign body:Code):
  (Instr.enterLoop fn tmps ps assign body (some l)).run P w =
   .ok (w.heap.size,[]) (w.alloc (.loop { state:=.ready,pending:=none,fn,tmps,params:=ps,assign,body,defers:=L.defers })):=by
 unfold Instr.enterLoop
 simp only[Sem.run_bind,run_getLoop h,run_newObj_alloc,Result.andThen,Sem.run_pure]
theorem EF{l:Nat}{r:EN}(h:BZ s l=some r):s.heap.get l=some (.loop r):=by
 unfold BZ at h
 split at h
 ·injection h with h;subst h;assumption
 ·cases h
theorem Ag.new(h:Ag ρ s)(o:AX)(rb:RB):Ag (Bc ρ s.next rb) (newObj s o):=by
 intro i hi
 have hi:s.next+1≤i:=hi
 have:=h i (by omega)
 exact⟨by rw[AJ rb (by omega)];exact this.1,by rw[Ah,if_neg (by omega)];exact this.2⟩
theorem KA(h:Av P ρ s w){l:Nat}{r:EN}{rb:RB}(hg:s.heap.get l=some (.loop r))(hr:ρ l=some rb){st:LoopState}{pd:Option Code}{L:Loop}(hL:w.heap[rb.b]? = some (.loop L)):
  Av P ρ (setObj s l (.loop { r with state:=st,pending:=pd })) (w.putObj rb.b (.loop { L with state:=st,pending:=pd }))∧Fr ρ s w ρ (setObj s l (.loop { r with state:=st,pending:=pd })) (w.putObj rb.b (.loop { L with state:=st,pending:=pd })):=by
 have hlt:=h.lt l rb hr
 refine h.set hg hr rfl (fun p e=>by cases e) rfl World.putObj_size (fun b hb=>World.putObj_heap_other hb) rfl rfl rfl ?_
 obtain⟨L',h0,h1,h2,h4,h5,h6,h7,h8,h9,h10⟩:=(h.obj l _ rb hg hr:FY P ρ w r rb).ex
 rw[hL]at h0
 injection h0 with h0
 injection h0 with h0
 subst h0
 exact⟨_,World.putObj_heap_same hlt,rfl,rfl,h4,h5,h6,h7,h8,h9,h10⟩
theorem bA{r:Option Nat}{s':AE}{res:Au}{a:Act}{Q:Exit→Act→World→Prop}{var:List AV}{marks:List Nat}{pd:Option Code}
  (hp:Fd var marks s' pd=some res) (hq:res.var=var→res.marks=marks→res.st=s'→Q (EL res.exit) a w):
  (match (generalizing:=false) pd with
   | none=>Q .normal a w
   | some c=>c.wpIn (HN r) 0 P Q a w):=by
 unfold Fd at hp
 split at hp<;>first | (cases hp;done) | skip
 ·injection hp with hp;subst hp;exact hq rfl rfl rfl
 ·injection hp with hp;subst hp;exact wpIn_ret (hq rfl rfl rfl)
 ·injection hp with hp;subst hp;exact wpIn_exit (hq rfl rfl rfl)
theorem KX         (hng : DO      P) {F : Cv}  (hcall : BL     P F.call) {f : FuncId} {fn : Func} {var : List AV} {marks : List Nat} {s : AE}  {res : Au}   {ρ : A4}  {w : World} {a : Act} {r : Option Nat} {Q : Exit → Act → World → Prop} {g : AV} {g' : Value} {ps : Array Tmp} {assign body : Code} {dfr : Nat} {rd : RB}
    (hf:P.funcs[f]? = some fn) (hc:EP F var g ps assign body f dfr marks s=some res) (hi:Av P ρ s w) (hfr:Ag ρ s) (hv:Al P ρ fn var a.tmps) (hmk:BS ρ marks a.defers)
    (hg:AL ρ g g') (hd:ρ dfr=some rd) (fn':FuncId)
    (hq:∀w' ρ',Gk P fn ρ s w res a w' ρ'→Q (EL res.exit) a w'):
    ∃ (d : Deferred) (f0 : FuncId) (args : Array Value), Deferred.ofValue g' #[.func (.yield w.heap.size) #[] #[]] = Pure.pure d ∧
      (∀w1,(invoke d.target d.args).run P w1=.ok (.enter f0 args) w1) ∧
      CallsIn (HN r) 0 P f0 args (w.alloc (.loop { state:=.ready,pending:=none,fn:=fn',tmps:=a.tmps,params:=ps,assign,body,defers:=rd.b })) (rangePost (HN r) 0 P w.heap.size Q a):=by
  let L:Loop:={ state:=.ready,pending:=none,fn:=fn',tmps:=a.tmps,params:=ps,assign,body,defers:=rd.b }
  let al:EN:={ state:=.ready,pending:=none,fn:=f,var,params:=ps,assign,body,dfr }
  let rb:RB:=⟨w.heap.size,0,0,0⟩
  have hvi:Dg P f=Ac P fn:=by unfold Dg;rw[hf]
  have hn0:=(hfr _ (fu s.next)).1
  have hle:=Ax (rb:=rb) hn0
  obtain⟨hi1,hfr1⟩:=hi.new (o:=.loop al) (o':=.loop L) (rb:=rb) hn0 rfl
    ⟨L,World.alloc_heap_new w _,rfl,rfl,rfl,rfl,rfl,⟨rd,hle _ _ hd,rfl⟩,by rw[hvi];exact(hv.mono hle).rel,fun fn0 h0=>by
      have h0:P.funcs[f]? = some fn0:=h0
      rw[hf]at h0;injection h0 with h0;subst h0;exact hv.size,by rw[hvi];exact hv.len⟩
  have hff:=hfr.new (.loop al) rb
  unfold EP GA at hc
  simp only[ft]at hc
  obtain⟨q,hcv,r2,hl2,hend⟩:=hc
  cases hbz:Pz r2.state with
  | true=>rw[hbz]at hend;cases hend
  | false =>
    rw[hbz]at hend
    simp only[cond_false]at hend
    unfold Fg at hcv
    split at hcv<;>first | (cases hcv;done) | skip
    rename_i f0 first cap
    cases hg with
    | func ha hcp =>
      rename_i x c
      obtain⟨⟨fn0,c0,k1,k2⟩,k3⟩:=hcall _ _ _ f0 _ q.1 q.2 ((x++#[.func (.yield w.heap.size) #[] #[]])++c) hcv hi1 hff (by
        simp only[Array.toList_append]
        have hy:AL (Bc ρ s.next rb) (.yield s.next) (.func (.yield w.heap.size) #[] #[]):=AL.yield (rb:=rb) (AM _ _)
        have:=(AK.mono hle ha).append ((AK.cons hy .nil).append (AK.mono hle hcp))
        simpa using this)
      refine⟨{ target:=.fn (.func f0) c,args:=x++#[.func (.yield w.heap.size) #[] #[]] },f0,_,rfl,fun w1=>?_,IW (CallsIn.mono k3 ?_)⟩
      · simp only[invoke]
        exact Ff hng k1 k2 _ _
      · intro e w3 he
        cases e with
        | panicked c=>exact he.elim
        | outgrown=>exact he.elim
        | returned v' =>
          obtain⟨ρ',_,g2,g3⟩:=he
          have hg2:=EF hl2
          have hr2:ρ' s.next=some rb:=g3.le _ _ (AM _ _)
          obtain⟨L2,h0,h1,h2,_⟩:=(g2.obj _ _ _ hg2 hr2:FY P ρ' w3 r2 rb).ex
          obtain⟨g4,g5⟩:=KA g2 hg2 hr2 (st:=.exhausted) (pd:=r2.pending) h0
          have hbz':L2.state≠.busy:=by rw[h1];intro e;rw[e]at hbz;cases hbz
          refine⟨L2.pending,_,run_endLoop h0 hbz',?_⟩
          rw[h2]
          refine bA hend fun e1 e2 e3=>hq _ ρ' ?_
          have hall:=hfr1.trans (g3.trans g5)
          have hfresh:=(hff.step g3).step g5
          rw[h2.symm]at g4 g5 hall
          refine⟨?_,?_,?_,by rw[e1];exact hv.mono hall.le,by rw[e2];exact hmk.mono hall.le⟩
          · rw[e3,← h2];exact g4
          · rw[e3];exact hfresh
          · rw[e3,← h2];exact hall
end
end
end Go.Proofs.YtfgmceookgelcaaGreatDoor.Am
set_option linter.unusedVariables false
set_option linter.unusedSimpArgs false
namespace Go.Proofs.YtfgmceookgelcaaGreatDoor.Am
open Go
open Go.ChangeMaps (setBlock)
noncomputable section
mutual
theorem AL.back{ρ σ:A4}(le:ρ.le σ){v:AV}{v' v0:Value}(h:AL σ v v')(h0:AL ρ v v0):AL ρ v v':=by
 cases h with
 | bool b=>exact .bool b
 | int k n=>exact .int k n
 | str h=>exact .str h
 | ptrNil=>exact .ptrNil
 | ptr h=>cases h0 with
  | ptr k=>have:=le _ _ k;rw[h]at this;injection this with this;subst this;exact .ptr k
 | gptr g o=>exact .gptr g o
 | sliceNil=>exact .sliceNil
 | slice h hl=>cases h0 with
  | slice k _=>have:=le _ _ k;rw[h]at this;injection this with this;subst this;exact .slice k hl
 | sliceOpen h hs hl h1 h2=>cases h0 with
  | sliceOpen k _ _ _ _=>have:=le _ _ k;rw[h]at this;injection this with this;subst this;exact .sliceOpen k hs hl h1 h2
  | sliceEnd k _ _ _=>have:=le _ _ k;rw[h]at this;injection this with this;subst this;exact .sliceOpen k hs hl h1 h2
 | sliceEnd h hs h1 h2=>cases h0 with
  | sliceOpen k _ _ _ _=>have:=le _ _ k;rw[h]at this;injection this with this;subst this;exact .sliceEnd k hs h1 h2
  | sliceEnd k _ _ _=>have:=le _ _ k;rw[h]at this;injection this with this;subst this;exact .sliceEnd k hs h1 h2
 | mapNil=>exact .mapNil
 | map h=>cases h0 with
  | map k=>have:=le _ _ k;rw[h]at this;injection this with this;subst this;exact .map k
 | func ha hc=>cases h0 with
  | func ka kc=>exact .func (AK.back le ha ka) (AK.back le hc kc)
 | yield h=>cases h0 with
  | yield k=>have:=le _ _ k;rw[h]at this;injection this with this;subst this;exact .yield k
 | nilFunc=>exact .nilFunc
 | nilIface=>exact .nilIface
 | iface h=>cases h0 with
  | iface k=>exact .iface (AL.back le h k)
 | agg h=>cases h0 with
  | agg k=>exact .agg (AK.back le h k)
 | tuple h=>cases h0 with
  | tuple k=>exact .tuple (AK.back le h k)
 | any h=>exact .any h
theorem AK.back{ρ σ:A4}(le:ρ.le σ){v:List AV}{v' v0:List Value}(h:AK σ v v')(h0:AK ρ v v0):AK ρ v v':=by
 cases h with
 | nil=>exact .nil
 | cons h hs=>cases h0 with
  | cons k ks=>exact .cons (AL.back le h k) (AK.back le hs ks)
end
theorem Dy{σ:A4}{v:AV}{v':Value}(h:Ee v=true)(hv:AL σ v v'):v'.cells.toList=[v']:=by
 cases hv<;>first | rfl | (cases h;done) | assumption
theorem F0{a b:AV}(h:Hi a b=true):a=b:=by
 unfold Hi at h
 split at h
 ·rfl
 ·exact D9 h
def K6(X B:List AV):Prop:=X.length=B.length∧∀ (j:Nat)(x:AV),X[j]? = some x→B[j]? = some x∨Ee x=true∧B[j]? = some .junk
theorem K6.refl(X:List AV):K6 X X:=⟨rfl,fun j x h=>.inl h⟩
theorem K6.trans{X Y Z:List AV}(h:K6 X Y)(k:K6 Y Z):K6 X Z:=by
  refine⟨h.1.trans k.1,fun j x hx=>?_⟩
  rcases h.2 j x hx with h1 | ⟨h1,h2⟩
  · exact k.2 j x h1
  · rcases k.2 j _ h2 with h3 | ⟨_, h3⟩
    · exact .inr ⟨h1,h3⟩
    · exact .inr ⟨h1,h3⟩
theorem Jn:∀ {X B:List AV},XR X B=true→K6 X B
 | [],[],_=>.refl _
 | x::l,b::m,h=>by
  simp only[XR,Bool.and_eq_true]at h
  obtain⟨g1,g2⟩:=Jn h.2
  refine⟨by simp[g1],fun j y hy=>?_⟩
  cases j with
  | zero =>
   simp at hy
   subst hy
   have h1:=h.1
   simp only[fA,Bool.or_eq_true,Bool.and_eq_true]at h1
   rcases h1 with h1 | ⟨h1,h2⟩
   ·left;simp[F0 h1]
   ·right;refine⟨h1,?_⟩;simp[← F0 h2]
  | succ j=>simpa using g2 j y (by simpa using hy)
 | [],_::_,h=>by cases h
 | _::_,[],h=>by cases h
theorem KD         : ∀ {A X B : List AV}, Mp     A X = some B → K6  A B ∧ K6  X B
  | [],[],B,h=>by injection h with h;subst h;exact⟨.refl _,.refl _⟩
  | a::l,x::m,B,h=>by
    unfold Mp at h
    simp only[ft]at h
    obtain⟨c,h1,r,h2,h3⟩:=h
    injection h3 with h3
    subst h3
    obtain⟨⟨g1,g2⟩,g3,g4⟩:=KD h2
    have hc:(c=a∨Ee a=true∧c=.junk)∧(c=x∨Ee x=true∧c=.junk):=by
      cases he:Hi a x with
      | true=>rw[he]at h1;injection h1 with h1;exact⟨.inl h1.symm,.inl (h1.symm.trans (F0 he))⟩
      | false =>
        rw[he]at h1
        obtain⟨h4,h5⟩:=AA h1
        simp only[Bool.and_eq_true]at h4
        injection h5 with h5
        exact⟨.inr ⟨h4.1,h5.symm⟩,.inr ⟨h4.2,h5.symm⟩⟩
    refine⟨⟨by simp[g1],fun j y hy=>?_⟩,⟨by simp[g3],fun j y hy=>?_⟩⟩
    · cases j with
      | zero =>
        simp at hy
        subst hy
        rcases hc.1 with h | ⟨h,h'⟩
        · left;simp[h]
        · right;simp[h,h']
      | succ j=>simpa using g2 j y (by simpa using hy)
    · cases j with
      | zero =>
        simp at hy
        subst hy
        rcases hc.2 with h | ⟨h,h'⟩
        · left;simp[h]
        · right;simp[h,h']
      | succ j=>simpa using g4 j y (by simpa using hy)
  | [],_::_,_,h=>by cases h
  | _::_,[],_,h=>by cases h
theorem Hj:∀ {a b:List Nat},GL a b=true→a=b
 | [],[],_=>rfl
 | a::l,b::m,h=>by
  simp only[GL,Bool.and_eq_true]at h
  rw[fz h.1,Hj h.2]
 | [],_::_,h=>by cases h
 | _::_,[],h=>by cases h
section
variable{P:Program}{ρ ρ1 ρ2:A4}{s s1 s2:AE}{w w1 w2:World}
theorem Q1{fn:Func}{A X B:List AV}{t0 t1:Array Value}(h0:Al P ρ fn A t0)(h1:Al P ρ1 fn X t1)(le:ρ.le ρ1)(ha:K6 A B)(hx:K6 X B):Al P ρ fn B t1:=by
  refine⟨by rw[← ha.1];exact h0.len,fun t k hk=>?_,h1.size⟩
  obtain⟨_,a,k1,k2⟩:=h0.rel t k hk
  obtain⟨k3,x,k4,k5⟩:=h1.rel t k hk
  refine⟨k3,?_⟩
  rcases hx.2 k x k4 with e1 | ⟨e1,e2⟩
  · rcases ha.2 k a k1 with e3 | ⟨e3, e4⟩
    · rw[e1]at e3
      injection e3 with e3
      subst e3
      exact⟨_,e1,AL.back le k5 k2⟩
    · rw[e4]at e1
      injection e1 with e1
      subst e1
      cases k5 with
      | any h=>exact⟨_,e4,.any h⟩
  · exact⟨_,e2,.any (Dy e1 k5)⟩
theorem Lh{v:AV}{v':Value}(hp:Lg v=true)(h:AL ρ1 v v'):AL ρ v v':=by
 cases h<;>first | (cases hp;done) | skip
 ·exact .bool _
 ·exact .int _ _
 ·rename_i h;exact .str h
theorem Sf      : ∀ {A X C : List AV}, Yn   A X = some C → X.length = C.length ∧ ∀ (j : Nat) (x : AV), X[j]? = some x → ∃ c, C[j]? = some c ∧ (c = x ∧ (Lg    x = true ∨ A[j]? = some x) ∨ c = .junk ∧ Ee     x = true)
  | [],[],C,h=>by injection h with h;subst h;exact⟨rfl,fun j x hx=>by simp at hx⟩
  | a::l,x::m,C,h=>by
    unfold Yn at h
    simp only[ft]at h
    obtain⟨c,h1,r,h2,h3⟩:=h
    injection h3 with h3
    subst h3
    obtain⟨g1,g2⟩:=Sf h2
    refine⟨by simp[g1],fun j y hy=>?_⟩
    cases j with
    | zero =>
      simp at hy
      subst hy
      refine⟨c,rfl,?_⟩
      cases hb:(Lg x || Hi a x)with
      | true =>
        rw[hb]at h1
        injection h1 with h1
        rw[Bool.or_eq_true]at hb
        exact .inl ⟨h1.symm,hb.imp id fun h=>by simp[F0 h]⟩
      | false =>
        rw[hb]at h1
        obtain⟨h4,h5⟩:=AA h1
        injection h5 with h5
        exact .inr ⟨h5.symm,h4⟩
    | succ j=>simpa using g2 j y (by simpa using hy)
  | [],_::_,_,h=>by cases h
  | _::_,[],_,h=>by cases h
theorem ZK{fn:Func}{A X C R:List AV}{t0 t1:Array Value}(h0:Al P ρ fn A t0)(h1:Al P ρ1 fn X t1)(le:ρ.le ρ1)(hc:Yn A X=some C)(hr:K6 C R):Al P ρ fn R t1:=by
 obtain⟨g1,g2⟩:=Sf hc
 refine⟨by rw[← hr.1,← g1];exact h1.len,fun t k hk=>?_,h1.size⟩
 obtain⟨_,a,k1,k2⟩:=h0.rel t k hk
 obtain⟨k3,x,k4,k5⟩:=h1.rel t k hk
 refine⟨k3,?_⟩
 obtain⟨c,h2,h3⟩:=g2 k x k4
 rcases h3 with⟨rfl,h3⟩ | ⟨rfl,h3⟩
 ·have hx:AL ρ c (t1.getD t undef):=by
   rcases h3 with h3 | h3
   ·exact Lh h3 k5
   ·rw[k1]at h3;injection h3 with h3;subst h3;exact AL.back le k5 k2
  rcases hr.2 k c h2 with e | ⟨e1,e2⟩
  ·exact⟨_,e,hx⟩
  ·exact⟨_,e2,.any (Dy e1 k5)⟩
 ·rcases hr.2 k _ h2 with e | ⟨_,e⟩<;>exact⟨_,e,.any (Dy h3 k5)⟩
theorem ZJ{fn:Func}{A B:List AV}{t0:Array Value}(h0:Al P ρ fn A t0)(h:K6 A B):Al P ρ fn B t0:=by
 refine⟨by rw[← h.1];exact h0.len,fun t k hk=>?_,h0.size⟩
 obtain⟨k3,a,k1,k2⟩:=h0.rel t k hk
 refine⟨k3,?_⟩
 rcases h.2 k a k1 with e | ⟨e1,e2⟩
 ·exact⟨_,e,k2⟩
 ·exact⟨_,e2,.any (Dy e1 k2)⟩
theorem J2         : ∀ {J : List Nat} {A B : List AV}, Mh     J A = some B → K6  A B
  | [],A,B,h=>by injection h with h;subst h;exact .refl _
  | j::l,A,B,h=>by
    unfold Mh at h
    obtain⟨h1,h2⟩:=AA h
    refine K6.trans ⟨by rw[Df,iA],fun k x hx=>?_⟩ (J2 h2)
    by_cases e:j=k
    · subst e
      right
      rw[IF hx]at h1
      have hl:j<A.length:=by
        rcases fv j A.length with h | h
        · exact h
        · simp[gH h]at hx
      exact⟨h1,by rw[Df];simp[hl]⟩
    · left;rw[Df,gy e];exact hx
theorem NF{fn:Func}{var:List AV}{tmps:Array Value}(h:Al P ρ fn var tmps){t:Tmp}{j:Nat}(hp:Ao (Ac P fn) t=some j){v:AV}{v':Value}(hv:AL ρ v v')(ht:t<tmps.size):Al P ρ fn (E3 v var j) (tmps.setIfInBounds t v'):=by
 refine⟨by rw[Df,iA];exact h.len,fun u k hk=>?_,by rw[Array.size_setIfInBounds];exact h.size⟩
 obtain⟨g1,x,g2,g3⟩:=h.rel u k hk
 refine⟨by rw[Array.size_setIfInBounds];exact g1,?_⟩
 have hjl:j<var.length:=by rw[h.len];exact Cj hp
 by_cases e:u=t
 ·subst e
  rw[hp]at hk
  injection hk with hk
  subst hk
  exact⟨v,by rw[Df];simp[hjl],by simpa[Array.getD_eq_getD_getElem?,ht]using hv⟩
 ·have ejk:j≠k:=fun e'=>by subst e';exact e (Fx hk hp)
  refine⟨x,by rw[Df,gy ejk];exact g2,?_⟩
  have:(tmps.setIfInBounds t v').getD u undef=tmps.getD u undef:=by
   simp[Array.getD_eq_getD_getElem?,Array.getElem?_setIfInBounds_ne (Ne.symm e)]
  rw[this]
  exact g3
theorem Hp{fn:Func}{var:List AV}{tmps:Array Value}(h:Al P ρ fn var tmps){t:Tmp}(hp:Ao (Ac P fn) t=none)(v':Value):Al P ρ fn var (tmps.setIfInBounds t v'):=by
 refine⟨h.len,fun u k hk=>?_,by rw[Array.size_setIfInBounds];exact h.size⟩
 obtain⟨g1,x,g2,g3⟩:=h.rel u k hk
 refine⟨by rw[Array.size_setIfInBounds];exact g1,x,g2,?_⟩
 have e:u≠t:=fun e=>by subst e;rw[hp]at hk;cases hk
 have:(tmps.setIfInBounds t v').getD u undef=tmps.getD u undef:=by
  simp[Array.getD_eq_getD_getElem?,Array.getElem?_setIfInBounds_ne (Ne.symm e)]
 rw[this]
 exact g3
theorem LQ:∀ {l:List Nat}{ds ds':List Deferred},BS ρ l ds→BS ρ1 l ds'→ρ.le ρ1→ds'=ds
 | [],ds,ds',h,h',_=>by
  have h:ds=[]:=h
  have h':ds'=[]:=h'
  rw[h,h']
 | i::l,ds,ds',⟨rb,d1,h1,h2,h3⟩,⟨rb',d2,k1,k2,k3⟩,le=>by
  have:=le _ _ h1
  rw[k1]at this
  injection this with this
  subst this
  rw[h2,k2,LQ h3 k3 le]
theorem JA{n:Nat}{h:AB AX}{i:Nat}{o:AX}(hg:(frz n h).heap.get i=some o):∃o',h.get i=some o'∧Xp o'=some o:=by
 unfold frz at hg
 simpa only[AB.get_mapO,ft]using hg
theorem EQ{o o':AX}(h:Xp o'=some o):wr o=false∧Dc o=Dc o'∧∀ {ρ:A4}{w:World}{rb:RB},Cx P ρ w o' rb→Cx P ρ w o rb:=by
 cases o' with
 | row r =>
  injection h with h
  subst h
  exact⟨rfl,rfl,fun {ρ w rb} hok=>by
   have hok:BF ρ w r rb:=hok
   exact(show BF ρ w { r with mode:=.ro,par:=none } rb from⟨hok.cells,hok.le,hok.sz,hok.tight,fun e=>absurd rfl e,hok.base,hok.gl,fun p e=>by cases e⟩)⟩
 | map kt es=>injection h with h;subst h;exact⟨rfl,rfl,fun hok=>hok⟩
 | mapRo kt es=>injection h with h;subst h;exact⟨rfl,rfl,fun hok=>hok⟩
 | loop l=>cases h
 | mark=>cases h
 | iter a b=>cases h
theorem Av.frz(h:Av P ρ s w)(n:Nat):Av P ρ (frz n s.heap) w:=by
 refine⟨fun i o rb hi hr=>?_,h.lt,fun i j oi oj ri rj hne hi hj hri hrj hb hw=>?_,fun i o g hi hg=>?_⟩
 ·obtain⟨o',h1,h2⟩:=JA hi
  exact(EQ h2).2.2 (h.obj i _ rb h1 hr)
 ·obtain⟨o',_,h2⟩:=JA hj
  rw[(EQ (P:=P) h2).1]at hw
  cases hw
 ·obtain⟨o',h1,h2⟩:=JA hi
  rw[(EQ (P:=P) h2).2.1]at hg
  exact h.glb i _ g h1 hg
theorem H8(Q0:Program)(n:Nat)(t:AB AX)(b:Nat):¬ Dh ρ (frz n t) b:=by
 rintro⟨i,o,rb,h1,h2,_⟩
 obtain⟨o',_,h3⟩:=JA h1
 rw[(EQ (P:=Q0) h3).1]at h2
 cases h2
theorem Ag.frz(h:Ag ρ s):Ag ρ (frz s.next s.heap):=fun i hi=>by
 refine⟨(h i hi).1,?_⟩
 unfold Am.frz
 simp only[AB.get_mapO]
 rw[(h i hi).2];rfl
structure Lz(W:List Nat)(h h':AB AX):Prop where
 inW:∀j∈W,h'.get j=h.get j∧∃r,h.get j=some (.row r)∧CA r=true
 out:∀j,j ∉ W→h'.get j=(h.get j).bind Xp
theorem CR{r:B6}(h:CA r=true):CS r.mode=true∧r.par=none∧r.glob=none:=by
 simpa[CA,Bool.and_eq_true]using h
theorem Ol       {h : AB   AX}   : ∀ {W : List Nat} {t t' : AB   AX},   bT   h W t = some t' → (∀ j ∈ W, t'.get j = h.get j ∧ ∃ r, h.get j = some (.row r) ∧ CA       r = true) ∧ ∀ j, j ∉ W → t'.get j = t.get j
  | [],t,t',e=>by injection e with e;subst e;exact⟨fun j hj=>(by cases hj),fun _ _=>rfl⟩
  | i :: l, t, t', e => by
    unfold bT at e
    split at e
    · rename_i r hr
      obtain⟨e1,e2⟩:=AA e
      obtain⟨g1,g2⟩:=Ol e2
      refine⟨fun j hj=>?_,fun j hj=>?_⟩
      · by_cases hl : j ∈ l
        · exact g1 j hl
        · rcases hZ.1            hj with e | h'
          · subst e
            exact⟨by rw[g2 j hl,AB.get_set,if_pos rfl,hr],r,hr,e1⟩
          · exact absurd h' hl
      · have h1 : j ≠ i := fun e => hj (by rw [e]; exact gC                 ..)
        have h2:j ∉ l:=fun h'=>hj (gG _ h')
        rw[g2 j h2,AB.get_set,if_neg h1]
    · cases e
theorem TE{W:List Nat}{n:Nat}{h:AB AX}{s':AE}(e:dC W n h=some s'):s'.next=n∧Lz W h s'.heap:=by
 unfold dC at e
 simp only[ft]at e
 obtain⟨t,h1,h2⟩:=e
 injection h2 with h2
 subst h2
 obtain⟨g1,g2⟩:=Ol h1
 exact⟨rfl,g1,fun j hj=>by rw[g2 j hj,AB.get_mapO]⟩
theorem Lz.wr{W:List Nat}{h h':AB AX}(hs:Lz W h h')(Q0:Program){j:Nat}{o:AX}(hj:h'.get j=some o)(hw:wr o=true):j∈W∧h.get j=some o:=by
 by_cases hm:j∈W
 ·exact⟨hm,by rw[← (hs.inW j hm).1];exact hj⟩
 ·rw[hs.out j hm,ft]at hj
  obtain⟨o',_,h3⟩:=hj
  rw[(EQ (P:=Q0) h3).1]at hw
  cases hw
theorem Av.semi{W:List Nat}{h':AB AX}{n:Nat}(h:Av P ρ s w)(hs:Lz W s.heap h'):Av P ρ ⟨n,h'⟩ w:=by
 refine⟨fun i o rb hi hr=>?_,h.lt,fun i j oi oj ri rj hne hi hj hri hrj hb hw=>?_,fun i o g hi hg=>?_⟩
 ·have hi:h'.get i=some o:=hi
  by_cases hm:i∈W
  ·exact h.obj i o rb (by rw[← (hs.inW i hm).1];exact hi) hr
  ·rw[hs.out i hm,ft]at hi
   obtain⟨o',h1,h2⟩:=hi
   exact(EQ h2).2.2 (h.obj i _ rb h1 hr)
 ·have hi:h'.get i=some oi:=hi
  obtain⟨hm,hj'⟩:=hs.wr P hj hw
  obtain⟨_,r,hr,hp⟩:=hs.inW j hm
  rw[hr]at hj'
  injection hj' with hj'
  subst hj'
  by_cases hmi:i∈W
  ·exact h.sep i j oi _ ri rj hne (by rw[← (hs.inW i hmi).1];exact hi) hr hri hrj hb hw
  ·rw[hs.out i hmi,ft]at hi
   obtain⟨o',h1,h2⟩:=hi
   exact⟨(h.sep i j o' _ ri rj hne h1 hr hri hrj hb hw).1,(EQ (P:=P) h2).1⟩
 ·have hi:h'.get i=some o:=hi
  by_cases hm:i∈W
  ·exact h.glb i o g (by rw[← (hs.inW i hm).1];exact hi) hg
  ·rw[hs.out i hm,ft]at hi
   obtain⟨o',h1,h2⟩:=hi
   rw[(EQ (P:=P) h2).2.1]at hg
   exact h.glb i o' g h1 hg
theorem Ag.semi{W:List Nat}{h':AB AX}(h:Ag ρ s)(hs:Lz W s.heap h'):Ag ρ ⟨s.next,h'⟩:=fun i hi=>by
 refine⟨(h i hi).1,?_⟩
 have hn:=(h i hi).2
 by_cases hm:i∈W
 ·obtain⟨_,r,hr,_⟩:=hs.inW i hm
  rw[hn]at hr;cases hr
 ·show h'.get i=none
  rw[hs.out i hm,hn];rfl
structure dh(ρ:A4)(W:List Nat)(w0 w:World):Prop where
 lt:w0.heap.size<w.heap.size
 old:∀b,b<w0.heap.size→(∀j∈W,∀rb,ρ j=some rb→rb.b≠b)→w.heap[b]? = w0.heap[b]?
 os:w.os=w0.os
 tape:w.tape=w0.tape
 output:w.output=w0.output
structure Hd(ρ:A4)(s:AE)(W:List Nat)(w0 w:World)(bm clock:Nat)(seen:Array Nat):Prop extends dh ρ W w0 w where
 wk:∀j∈W,∀r rb,s.heap.get j=some (.row r)→ρ j=some rb→BF ρ w r rb
 it:∃c0,clock≤c0∧w.heap[w0.heap.size]? = some (.mapIter (some bm) clock seen c0)
def Az(ρ:A4)(s:AE)(w0:World):A4:=Bc ρ s.next ⟨w0.heap.size,0,0,0⟩
section
variable{W:List Nat}{bm clock:Nat}{seen:Array Nat}
structure Tv(P:Program)(ρ:A4)(s:AE)(w0:World)(W:List Nat)(h':AB AX)(w1:World):Prop where
 out:∀j,j ∉ W→h'.get j=s.heap.get j
 inW:∀j∈W,∃r r',s.heap.get j=some (.row r)∧CA r=true∧h'.get j=some (.row r')∧CA r'=true∧(∃rb,ρ j=some rb)∧∀rb,ρ j=some rb→BF (Az ρ s w0) w1 r' rb
theorem dh.invN  (hd : dh  ρ W w w1) {h' : AB   AX}   (hn : Tv   P ρ s w W h' w1) (h : Av  P ρ s w) (hf : Ag     ρ s) : Av  P (Az    ρ s w) ⟨s.next + 1, h'⟩ w1 := by
  have hnx:=hf s.next (fu _)
  have hle:ρ.le (Az ρ s w):=Ax hnx.1
  have hsome:∀i o,h'.get i=some o→∃o',s.heap.get i=some o':=fun i o hi=>by
    by_cases hm:i∈W
    · obtain⟨r,_,h1,_⟩:=hn.inW i hm;exact⟨_,h1⟩
    · exact⟨o,by rw[← hn.out i hm];exact hi⟩
  have hr:∀i o rb,h'.get i=some o→Az ρ s w i=some rb→ρ i=some rb:=fun i o rb hi hr=>by
    have:i≠s.next:=fun e=>by
      subst e
      obtain⟨o',ho⟩:=hsome _ o hi
      rw[hnx.2]at ho;cases ho
    unfold Az at hr
    rw[AJ _ this]at hr
    exact hr
  refine⟨fun i o rb hi hri=>?_,fun i rb hri=>?_,fun i j oi oj ri rj hne hi hj hri hrj hb hw=>?_,fun i o g hi hg=>?_⟩
  · have hi : h'.get i = some o := hi
    have h1:=hr i o rb hi hri
    by_cases hm:i∈W
    · obtain⟨r,r',h2,h3,h4,h5,_,h6⟩:=hn.inW i hm
      rw[h4]at hi
      injection hi with hi
      subst hi
      exact h6 rb h1
    · have hi0:=hi
      rw[hn.out i hm]at hi0
      refine(h.obj i o rb hi0 h1).mono hle (hd.old _ (h.lt i rb h1) fun j hj rj hrj hb=>?_)
      obtain⟨r,_,h2,h3,_⟩:=hn.inW j hj
      obtain⟨h3a,h3b,_⟩:=CR h3
      have:=(h.sep i j o _ rb rj (fun e=>hm (by rw[e];exact hj)) hi0 h2 h1 hrj hb.symm h3a).1
      simp[EG,h3b]at this
  · unfold Az at hri
    by_cases e:i=s.next
    · subst e
      rw[AM]at hri
      injection hri with hri
      subst hri
      exact hd.lt
    · rw[AJ _ e]at hri
      have:=h.lt i rb hri
      exact Nat.lt_trans this hd.lt
  · have hi : h'.get i = some oi := hi
    have hj:h'.get j=some oj:=hj
    have h1:=hr i oi ri hi hri
    have h2:=hr j oj rj hj hrj
    by_cases hmj:j∈W
    · obtain ⟨r, r', k2, k3, k4, k5, k6⟩ := hn.inW j hmj
      obtain⟨k3a,k3b,_⟩:=CR k3
      obtain⟨oi0,hi0⟩:=hsome i oi hi
      have:=(h.sep i j oi0 _ ri rj hne hi0 k2 h1 h2 hb k3a).1
      simp[EG,k3b]at this
    · rw[hn.out j hmj]at hj
      by_cases hmi:i∈W
      · obtain⟨r,r',k2,k3,k4,k5,k6⟩:=hn.inW i hmi
        have:=(h.sep i j _ oj ri rj hne k2 hj h1 h2 hb hw).2
        have k3':wr (.row r)=true:=(CR k3).1
        rw[k3']at this
        cases this
      · rw[hn.out i hmi]at hi
        exact h.sep i j oi oj ri rj hne hi hj h1 h2 hb hw
  · have hi:h'.get i=some o:=hi
    by_cases hm:i∈W
    · obtain⟨r,r',k2,k3,k4,k5,k6⟩:=hn.inW i hm
      rw[k4]at hi
      injection hi with hi
      subst hi
      simp[Dc,(CR k5).2.2]at hg
    · rw[hn.out i hm]at hi
      obtain⟨rb,h1⟩:=h.glb i o g hi hg
      exact⟨rb,hle _ _ h1⟩
theorem BF.mono{r:B6}{rb:RB}(h:BF ρ w r rb)(le:ρ.le ρ1):BF ρ1 w r rb:=(show Cx (default:Program) ρ w (.row r) rb from h).mono le rfl
theorem Hd.now(hd:Hd ρ s W w w1 bm clock seen)(hW:∀j∈W,(∃rb,ρ j=some rb)∧∃r,s.heap.get j=some (.row r)∧CA r=true)(hf:Ag ρ s):Tv P ρ s w W s.heap w1:=
 ⟨fun _ _=>rfl,fun j hj=>let ⟨h0,r,h1,h2⟩:=hW j hj;⟨r,r,h1,h2,h1,h2,h0,fun rb hr=>(hd.wk j hj r rb h1 hr).mono (Ax (hf s.next (fu _)).1)⟩⟩
theorem Pt(hf:Ag ρ s){h':AB AX}(hn:Tv P ρ s w W h' w1):Ag (Az ρ s w) ⟨s.next+1,h'⟩:=fun i hi=>by
 have hi:s.next+1≤i:=hi
 have h2:=(hf i (by omega)).2
 refine⟨?_,?_⟩
 ·unfold Az
  rw[AJ _ (by omega)]
  exact(hf i (by omega)).1
 ·show h'.get i=none
  by_cases hm:i∈W
  ·obtain⟨r,_,h1,_⟩:=hn.inW i hm;rw[h2]at h1;cases h1
  ·rw[hn.out i hm];exact h2
theorem dh.frN(hd:dh ρ W w w1){h':AB AX}(hn:Tv P ρ s w W h' w1)(hf:Ag ρ s):Fr ρ s w (Az ρ s w) ⟨s.next+1,h'⟩ w1:=by
 have hnx:=hf s.next (fu _)
 refine⟨Ax hnx.1,fun i hi ho=>?_,gZ _,Nat.le_of_lt hd.lt,hd.os,hd.tape,hd.output,fun b hb ho=>hd.old b hb fun j hj rb hr e=>?_,fun b hb=>?_,fun i hi ho=>?_,fun i rb hi h0=>?_,fun i o rb hi h0=>?_⟩
 ·have ho:i<s.next∨s.next+1≤i:=ho
  unfold Az
  rw[AJ _ (by omega)]
  exact hi
 ·obtain⟨r,_,h1,h2,_⟩:=hn.inW j hj
  exact ho ⟨j,_,rb,h1,(CR h2).1,hr,e⟩
 ·obtain⟨i,o,rb,h1,h2,h3,h4⟩:=hb
  have h1:h'.get i=some o:=h1
  have hne:i≠s.next:=fun e=>by
   subst e
   by_cases hm:s.next∈W
   ·obtain⟨r,_,k1,_⟩:=hn.inW _ hm;rw[hnx.2]at k1;cases k1
   ·rw[hn.out _ hm,hnx.2]at h1;cases h1
  unfold Az at h3
  rw[AJ _ hne]at h3
  by_cases hm:i∈W
  ·obtain⟨r,_,k1,k2,_⟩:=hn.inW i hm
   exact .inl ⟨i,_,rb,k1,(CR k2).1,h3,h4⟩
  ·rw[hn.out i hm]at h1
   exact .inl ⟨i,o,rb,h1,h2,h3,h4⟩
 ·show h'.get i=s.heap.get i
  by_cases hm:i∈W
  ·obtain⟨r,r',k1,k2,k3,k4,⟨rb,k5⟩,_⟩:=hn.inW i hm
   rw[hi]at k5;cases k5
  ·exact hn.out i hm
 ·unfold Az at hi
  by_cases e:i=s.next
  ·subst e;rw[AM]at hi;injection hi with hi;subst hi;exact .inl (fu _)
  ·rw[AJ _ e,h0]at hi;cases hi
 ·have hi:h'.get i=some o:=hi
  by_cases hm:i∈W
  ·obtain⟨r,_,k1,_⟩:=hn.inW i hm;exact⟨_,k1⟩
  ·rw[hn.out i hm]at hi;exact⟨o,hi⟩
theorem Hd.step{seen':Array Nat}(hd:Hd ρ s W w w1 bm clock seen)(hlt:∀i rb,ρ i=some rb→rb.b<w.heap.size){c1:Nat}(hc:clock≤c1)(hw:w2=w1∨w2=w1.drew):Hd ρ s W w (setBlock w2 w.heap.size (.mapIter (some bm) clock seen' c1)) bm clock seen':=by
 have e:w2.heap=w1.heap∧w2.os=w1.os∧w2.tape=w1.tape∧w2.output=w1.output:=by
  rcases hw with rfl | rfl<;>exact⟨rfl,rfl,rfl,rfl⟩
 have hk:∀b,b<w.heap.size→(setBlock w2 w.heap.size (.mapIter (some bm) clock seen' c1)).heap[b]? = w1.heap[b]? := fun b hb=>by
  show(w2.heap.setIfInBounds _ _)[b]? = _
  rw[Array.getElem?_setIfInBounds_ne (by omega),e.1]
 refine⟨⟨?_,fun b hb h=>(hk b hb).trans (hd.old b hb h),e.2.1.trans hd.os,e.2.2.1.trans hd.tape,e.2.2.2.trans hd.output⟩,fun j hj r rb hr hrb=>?_,c1,hc,?_⟩
 ·show w.heap.size<(w2.heap.setIfInBounds _ _).size
  rw[Array.size_setIfInBounds,e.1]
  exact hd.lt
 ·exact(show Cx (default:Program) ρ w1 (.row r) rb from hd.wk j hj r rb hr hrb).mono (A4.le_refl _) (hk _ (hlt j rb hrb))
 ·show(w2.heap.setIfInBounds _ _)[w.heap.size]? = _
  rw[e.1]
  simp[hd.lt]
theorem OR{r r':B6}{C:List AV}(h1:r.c.take 0 r.n=some C)(h2:r'.c.take 0 r.n=some C):∀k,k<r.n→r'.c.get k=r.c.get k:=fun k hk=>by
 have e1:=AB.take_get h1 k hk
 have e2:=AB.take_get h2 k hk
 simp only[gA]at e1 e2
 rw[e1,e2]
theorem Kc{r q:B6}(h:FT r q=true):q.n=r.n∧q.elem=r.elem∧CS q.mode=true:=by
 simp only[FT,Bool.and_eq_true]at h
 exact⟨fz h.1,fz h.2.1,h.2.2⟩
theorem OY{q:AE}:∀ {W:List Nat},Lf s q W=true→∀j∈W,∃r r',s.heap.get j=some (.row r)∧q.heap.get j=some (.row r')∧FT r r'=true∧∀k,k<r.n→r'.c.get k=r.c.get k
 | [],_,j,hj=>by cases hj
 | i::l,h,j,hj=>by
  unfold Lf at h
  simp only[Bool.and_eq_true]at h
  rcases hZ.1 hj with e | hj
  ·subst e
   have h1:=h.1
   split at h1<;>first | (cases h1;done) | skip
   rename_i r r' hr hr'
   simp only[Bool.and_eq_true]at h1
   have h2:=h1.2
   split at h2<;>first | (cases h2;done) | skip
   rename_i a b ha hb
   have:=D9 h2
   injection this with this
   subst this
   exact⟨r,r',As hr,As hr',h1.1,OR ha hb⟩
  ·exact OY h.2 j hj
theorem BF.again{r r':B6}{rb:RB}(h0:BF ρ w1 r rb)(hp:CA r=true)(h':BF ρ1 w2 r' rb)(le:ρ.le ρ1)(hs:FT r r'=true)(hc:∀k,k<r.n→r'.c.get k=r.c.get k):BF ρ w2 r rb:=by
  obtain⟨e1,e2,e3⟩:=Kc hs
  obtain⟨p1,p2,p3⟩:=CR hp
  refine⟨fun k v hk hv=>?_,h0.le,h0.sz,h0.tight,fun _=>?_,h0.base,h0.gl,fun p e=>by rw[p2]at e;cases e⟩
  · obtain ⟨v', k1, k2⟩ := h'.cells k v (by omega) (by rw [hc k hk]; exact hv)
    obtain⟨v0,_,k3⟩:=h0.cells k v hk hv
    exact⟨v',k1,AL.back le k2 k3⟩
  · obtain⟨cs,k1,k2⟩:=h'.own (fun e=>by rw[e]at e3;cases e3)
    exact⟨cs,by rw[← e2];exact k1,k2⟩
theorem Hd.ended(Q0:Program)(hd:Hd ρ s W w w1 bm clock seen)(hnx:ρ s.next=none∧s.heap.get s.next=none)(hlt:∀i rb,ρ i=some rb→rb.b<w.heap.size){h':AB AX}(hs:Lz W s.heap h'){n:Nat}(hfr:Fr (Az ρ s w) ⟨n,h'⟩ w1 ρ1 s1 w2):dh ρ W w w2∧w2.heap[w.heap.size]? = w1.heap[w.heap.size]? := by
 have hk:∀b,b<w1.heap.size→(∀j∈W,∀rb,ρ j=some rb→rb.b≠b)→w2.heap[b]? = w1.heap[b]? := fun b hb h=>hfr.keep b hb (by
  rintro⟨i,o,rb,h1,h2,h3,h4⟩
  obtain⟨hm,h5⟩:=hs.wr Q0 h1 h2
  have hne:i≠s.next:=fun e=>by subst e;rw[hnx.2]at h5;cases h5
  unfold Az at h3
  rw[AJ _ hne]at h3
  exact h i hm rb h3 h4)
 exact⟨⟨fy hd.lt hfr.size,fun b hb h=>(hk b (Nat.lt_trans hb hd.lt) h).trans (hd.old b hb h),hfr.os.trans hd.os,hfr.tape.trans hd.tape,hfr.output.trans hd.output⟩,hk _ hd.lt fun j _ rb hr e=>by have:=hlt j rb hr;omega⟩
theorem Hd.round(Q0:Program)(hd:Hd ρ s W w w1 bm clock seen)(hnx:ρ s.next=none∧s.heap.get s.next=none)(hlt:∀i rb,ρ i=some rb→rb.b<w.heap.size){h':AB AX}(hs:Lz W s.heap h'){n:Nat}(hfr:Fr (Az ρ s w) ⟨n,h'⟩ w1 ρ1 s1 w2)(hinv:Av P ρ1 s1 w2)(hW:Lf ⟨n,h'⟩ s1 W=true):Hd ρ s W w w2 bm clock seen:=by
 have hle:ρ.le ρ1:=A4.le_trans (Ax hnx.1) hfr.le
 obtain⟨c0,h1,h2⟩:=hd.it
 obtain⟨hE,hI⟩:=hd.ended Q0 hnx hlt hs hfr
 refine⟨hE,fun j hj r rb hr hrb=>?_,c0,h1,hI.trans h2⟩
 obtain⟨r0,r',g1,g2,g3,g4⟩:=OY hW j hj
 obtain⟨k1,r1,k2,k3⟩:=hs.inW j hj
 have g1:h'.get j=some (.row r0):=g1
 rw[k1,hr]at g1
 injection g1 with g1
 injection g1 with g1
 subst g1
 rw[hr]at k2
 injection k2 with k2
 injection k2 with k2
 subst k2
 exact(hd.wk j hj r rb hr hrb).again k3 (hinv.obj j _ rb g2 (hle _ _ hrb)) hle g3 g4
theorem HT:∀ {a b:List AV},Ej a b=true→a.length=b.length∧∀ (k:Nat)(x:AV),b[k]? = some x→Lg x=true∨a[k]? = some x
 | [],[],_=>⟨rfl,fun k x hx=>(by simp at hx)⟩
 | a::l,b::m,h=>by
  simp only[Ej,Bool.and_eq_true,Bool.or_eq_true]at h
  obtain⟨g1,g2⟩:=HT h.2
  refine⟨by simp[g1],fun k x hx=>?_⟩
  cases k with
  | zero=>simp at hx;subst hx;exact h.1.imp id fun h=>by simp[F0 h]
  | succ k=>simpa using g2 k x (by simpa using hx)
 | [],_::_,h=>by cases h
 | _::_,[],h=>by cases h
theorem Sg{q:AE}:∀ {W:List Nat}{M:List (List AV)},Ta s q W=some M→W.length=M.length∧∀ (k:Nat)(j:Nat)(C:List AV),W[k]? = some j→M[k]? = some C→∃r r' C0,s.heap.get j=some (.row r)∧q.heap.get j=some (.row r')∧FT r r'=true∧r.c.take 0 r.n=some C0∧r'.c.take 0 r.n=some C∧Ej C0 C=true
 | [],M,h=>by injection h with h;subst h;exact⟨rfl,fun k j C hj=>(by simp at hj)⟩
 | i::l,M,h=>by
  unfold Ta at h
  simp only[ft]at h
  obtain⟨r,h1,r',h2,h3⟩:=h
  obtain⟨h4,h5⟩:=AA h3
  simp only[ft]at h5
  obtain⟨a,h6,b,h7,h8⟩:=h5
  obtain⟨h9,h10⟩:=AA h8
  simp only[ft]at h10
  obtain⟨m,h11,h12⟩:=h10
  injection h12 with h12
  subst h12
  obtain⟨g1,g2⟩:=Sg h11
  refine⟨by simp[g1],fun k j C hj hC=>?_⟩
  cases k with
  | zero =>
   simp at hj hC
   subst hj hC
   exact⟨r,r',a,As h1,As h2,h4,h6,h7,h9⟩
  | succ k=>exact g2 k j C (by simpa using hj) (by simpa using hC)
theorem Si      : ∀ {W : List Nat} {M : List (List AV)} {h1 : AB   AX}   {h' : AB   AX},   Yx   h1 W M = some h' →
    (∀j,j ∉ W→h'.get j=h1.get j)∧∀j∈W,∃ (r:B6) (k:Nat) (C:List AV),h1.get j=some (.row r)∧W[k]? = some j∧M[k]? = some C∧∃c,h'.get j=some (.row { r with c })∧∀i,i<C.length→c.get i=C[i]?
  | [],M,h1,h',h=>by
    cases M with
    | nil=>injection h with h;subst h;exact⟨fun _ _=>rfl,fun j hj=>(by cases hj)⟩
    | cons _ _=>cases h
  | i::l,[],h1,h',h=>by cases h
  | i::l,C::m,h1,h',h=>by
    unfold Yx at h
    split at h<;>first | (cases h;done) | skip
    rename_i r hr
    obtain⟨g1,g2⟩:=Si h
    refine⟨fun j hj=>?_,fun j hj=>?_⟩
    · have e1 : j ≠ i := fun e => hj (by rw [e]; exact gC                 ..)
      have e2:j ∉ l:=fun h'=>hj (gG _ h')
      rw[g1 j e2,AB.get_set,if_neg e1]
    · by_cases hl : j ∈ l
      · obtain⟨r2,k,C2,k1,k2,k3,c,k4,k5⟩:=g2 j hl
        rw[AB.get_set]at k1
        by_cases e:j=i
        · subst e
          rw[if_pos rfl]at k1
          injection k1 with k1
          injection k1 with k1
          subst k1
          exact⟨r,k+1,C2,hr,by simpa using k2,by simpa using k3,c,k4,k5⟩
        · rw[if_neg e]at k1
          exact⟨r2,k+1,C2,k1,by simpa using k2,by simpa using k3,c,k4,k5⟩
      · rcases hZ.1            hj with e | h'
        · subst e
          refine⟨r,0,C,hr,rfl,rfl,r.c.fill 0 C,by rw[g1 j hl,AB.get_set,if_pos rfl],fun i hi=>?_⟩
          rw[AB.get_fill,if_pos ⟨gF _,by omega⟩]
          simp
        · exact absurd h' hl
theorem bJ(hd:Hd ρ s W w w1 bm clock seen)(hρ:∀j∈W,∃rb,ρ j=some rb)(hnx:ρ s.next=none∧s.heap.get s.next=none){h':AB AX}(hs:Lz W s.heap h'){n:Nat}(hle1:(Az ρ s w).le ρ1)(hinv:Av P ρ1 s1 w2)
    {M N:List (List AV)} (hW:Ta ⟨n,h'⟩ s1 W=some M) (hMN:M=N) {h2:AB AX} (hset:Yx s.heap W N=some h2):Tv P ρ s w W h2 w2:=by
  subst hMN
  have hle:ρ.le ρ1:=A4.le_trans (Ax hnx.1) hle1
  obtain⟨e1,e2⟩:=Si hset
  obtain⟨_,f2⟩:=Sg hW
  refine⟨e1,fun j hj=>?_⟩
  obtain⟨r,k,C,k1,k2,k3,c,k4,k5⟩:=e2 j hj
  obtain⟨r0,r',C0,g1,g2,g3,g4,g5,g6⟩:=f2 k j C k2 k3
  obtain⟨m1,r2,m2,m3⟩:=hs.inW j hj
  have g1:h'.get j=some (.row r0):=g1
  rw[m1,k1]at g1
  injection g1 with g1
  injection g1 with g1
  subst g1
  rw[k1]at m2
  injection m2 with m2
  injection m2 with m2
  subst m2
  refine⟨r,_,k1,m3,k4,m3,hρ j hj,fun rb hrb=>?_⟩
  obtain⟨q1,q2,q3⟩:=Kc g3
  obtain⟨p1,p2,p3⟩:=CR m3
  have h0:=hd.wk j hj r rb k1 hrb
  have hr':BF ρ1 w2 r' rb:=hinv.obj j _ rb g2 (hle _ _ hrb)
  have hlen:=AB.take_length g5
  refine⟨fun i v hi hv=>?_,h0.le,h0.sz,h0.tight,fun _=>?_,h0.base,h0.gl,fun p e=>by
    have e:r.par=some p:=e
    rw[p2]at e;cases e⟩
  · have hi : i < r.n := hi
    have hv:c.get i=some v:=hv
    rw[k5 i (by omega)]at hv
    have e5:=AB.take_get g5 i hi
    simp only[gA]at e5
    obtain⟨v',n1,n2⟩:=hr'.cells i v (by omega) (by rw[e5];exact hv)
    refine⟨v',n1,?_⟩
    rcases(HT g6).2 i v hv with h | h
    · exact Lh h n2
    · have e4:=AB.take_get g4 i hi
      simp only[gA]at e4
      obtain⟨v0,_,n3⟩:=h0.cells i v hi (by rw[e4];exact h)
      exact(AL.back hle n2 n3).mono (Ax hnx.1)
  · obtain⟨cs,k1,k2⟩:=hr'.own (fun e=>by rw[e]at q3;cases q3)
    exact⟨cs,by show _=some (Obj.cells cs r.elem (0,0));rw[← q2];exact k1,k2⟩
end
end
section
variable{P:Program}{ρ ρ1 ρ2:A4}{s s1 s2:AE}{w w1 w2:World}{a:Act}{ops:Array Oper}{rnd:Option Nat}{Q:Exit→Act→World→Prop}
theorem Gt{i:Nat}{o:Oper}{v':Value}{w':World}{K:Act→World→Prop}(ho:ops[i]? = some o)(hg:o.guard=none)(hd:∀c,o.op≠.defer c)(hr:(execOp a.eval o).run P w=.ok (.value v') w')
  (hk:K (a.put o.dst v') w'):wpOpIn (HN rnd) 0 P ops Q i K a w:=by
 unfold wpOpIn
 rw[ho]
 simp only
 rw[if_pos (by unfold Region.wanted;rw[hg])]
 refine⟨fun _ _=>trivial,?_⟩
 rw[Oper.semAt_eq _ _ _ hd,hr]
 exact hk
theorem B5{o:Oper}{x:Op×Tmp}(h:Dw o=some x):o.guard=none∧o.dst=some x.2∧o.op=x.1:=by
 unfold Dw at h
 split at h
 ·rename_i h1 h2
  injection h with h
  subst h
  exact⟨h1,h2,rfl⟩
 ·cases h
theorem NS{o:Op}{x:TypeId×Operand}(h:Oz o=some x):o=.load x.1 x.2:=by
 unfold Oz at h
 split at h
 ·injection h with h;subst h;rfl
 ·cases h
theorem L9{o:Op}{x:TypeId×Tmp}(h:L8 o=some x):o=.range x.1 (.tmp x.2):=by
 unfold L8 at h
 split at h
 ·injection h with h;subst h;rfl
 ·cases h
theorem NT{o:Op}{x:Tmp}(h:O0 o=some x):o=.next (.tmp x) false:=by
 unfold O0 at h
 split at h
 ·injection h with h;subst h;rfl
 ·cases h
theorem L7{o:Op}{x:Tmp}(h:L6 o=some x):o=.entry (.tmp x):=by
 unfold L6 at h
 split at h
 ·injection h with h;subst h;rfl
 ·cases h
theorem JV{o:Op}{x:Tmp}(h:Q8 o=some x):o=.extract (.tmp x) 0:=by
 unfold Q8 at h
 split at h
 ·injection h with h;subst h;rfl
 ·cases h
theorem O1{o:Op}{x:Tmp}(h:T3 o=some x):o=.assign (.tmp x):=by
 unfold T3 at h
 split at h
 ·injection h with h;subst h;rfl
 ·cases h
theorem Gv{l:List Oper}(h:ops.toList=l)(i:Nat):ops[i]? = l[i]? := by rw[← h];simp
theorem KM{l:List Oper}(h:ops.toList=l):ops.size=l.length:=by rw[← h];simp
structure ZR(ops:Array Oper)(ty:TypeId)(ad:Operand)(tm it:Tmp):Prop where
 ex:∃o0 o1,ops.toList=[o0,o1]∧(o0.guard=none∧o0.dst=some tm∧o0.op=.load ty ad)∧(o1.guard=none∧o1.dst=some it∧o1.op=.range ty (.tmp tm))
structure Lx(ops:Array Oper)(it tn ok:Tmp):Prop where
 ex:∃o0 o1,ops.toList=[o0,o1]∧(o0.guard=none∧o0.dst=some tn∧o0.op=.next (.tmp it) false)∧(o1.guard=none∧o1.dst=some ok∧o1.op=.extract (.tmp tn) 0)
structure JL(ops:Array Oper)(it te tk key:Tmp):Prop where
 ex:∃o0 o1 o2,ops.toList=[o0,o1,o2]∧(o0.guard=none∧o0.dst=some te∧o0.op=.entry (.tmp it))∧(o1.guard=none∧o1.dst=some tk∧o1.op=.extract (.tmp te) 0)∧(o2.guard=none∧o2.dst=some key∧o2.op=.assign (.tmp tk))
theorem M4{x:TypeId×Operand×Tmp×Tmp}(h:M3 ops.toList=some x):ZR ops x.1 x.2.1 x.2.2.1 x.2.2.2:=by
 unfold M3 at h
 split at h
 ·rename_i o0 o1 hl
  simp only[ft]at h
  obtain⟨p0,h1,p1,h2,l,h3,r,h4,h5⟩:=h
  obtain⟨h6,h7⟩:=AA h5
  simp only[Bool.and_eq_true]at h6
  injection h7 with h7
  subst h7
  obtain⟨a1,a2,a3⟩:=B5 h1
  obtain⟨b1,b2,b3⟩:=B5 h2
  rw[NS h3]at a3
  rw[L9 h4,← Ad h6.1,← Ad h6.2]at b3
  exact⟨o0,o1,hl,⟨a1,a2,a3⟩,b1,b2,b3⟩
 ·cases h
theorem M6{it:Tmp}{x:Tmp×Tmp}(h:M5 it ops.toList=some x):Lx ops it x.1 x.2:=by
 unfold M5 at h
 split at h
 ·rename_i o0 o1 hl
  simp only[ft]at h
  obtain⟨p0,h1,p1,h2,l,h3,r,h4,h5⟩:=h
  obtain⟨h6,h7⟩:=AA h5
  simp only[Bool.and_eq_true]at h6
  injection h7 with h7
  subst h7
  obtain⟨a1,a2,a3⟩:=B5 h1
  obtain⟨b1,b2,b3⟩:=B5 h2
  rw[NT h3,Ad h6.1]at a3
  rw[JV h4,Ad h6.2]at b3
  exact⟨o0,o1,hl,⟨a1,a2,a3⟩,b1,b2,b3⟩
 ·cases h
theorem Kz{it:Tmp}{x:Tmp×Tmp×Tmp}(h:KZ it ops.toList=some x):JL ops it x.1 x.2.1 x.2.2:=by
 unfold KZ at h
 split at h
 ·rename_i o0 o1 o2 hl
  simp only[ft]at h
  obtain⟨p0,h1,p1,h2,p2,h0,l,h3,r,h4,k,h8,h5⟩:=h
  obtain⟨h6,h7⟩:=AA h5
  simp only[Bool.and_eq_true]at h6
  injection h7 with h7
  subst h7
  obtain⟨a1,a2,a3⟩:=B5 h1
  obtain⟨b1,b2,b3⟩:=B5 h2
  obtain⟨c1,c2,c3⟩:=B5 h0
  rw[L7 h3,Ad h6.1]at a3
  rw[JV h4,Ad h6.2.1]at b3
  rw[O1 h8,Ad h6.2.2]at c3
  exact⟨o0,o1,o2,hl,⟨a1,a2,a3⟩,⟨b1,b2,b3⟩,c1,c2,c3⟩
 ·cases h
theorem CC{t:Tmp}{v:Value}(h:t<a.tmps.size):(a.put (some t) v).eval (.tmp t)=v:=by
 simp[Act.put,Act.eval,Array.getD_eq_getD_getElem?,h]
theorem N8{i2:Nat}{it tn ok:Tmp}{r0:Addr}(h:Lx ops it tn ok)(hit:a.eval (.tmp it)=.pointer (some r0))(htn:tn<a.tmps.size)
    (hrun:∀ty:TypeId,∃l b w',l[0]? = some b∧(Instr.next (.pointer (some r0)) false ty).run P w=.ok (.tuple l) w'∧Q .normal ((a.put (some tn) (.tuple l)).put (some ok) b) w'):
    (Code.region i2 ops false).wpIn (HN rnd) 0 P Q a w:=by
  obtain⟨o0,o1,hl,⟨a1,a2,a3⟩,b1,b2,b3⟩:=h.ex
  obtain⟨l,b,w',h1,h2,h3⟩:=hrun o0.type
  refine wpIn_region ?_
  rw[KM hl]
  show wpOpsIn (HN rnd) 0 P ops Q [0,1] a w
  rw[wpOpsIn_cons]
  refine Gt (Gv hl 0) a1 (fun c e=>by rw[a3]at e;cases e) (v':=.tuple l) (w':=w') ?_ ?_
  · simp only[execOp,a3,hit,Sem.run_bind,h2,Result.andThen,Sem.run_pure]
  · rw [wpOpsIn_cons, a2]
    refine Gt (Gv hl 1) b1 (fun c e=>by rw[b3]at e;cases e) (v':=b) (w':=w') ?_ ?_
    · simp only[execOp,b3,CC htn,Instr.extract,h1,Sem.run_bind,Result.andThen,Sem.run_pure]
    · rw[b2]
      exact h3
theorem MY           {i3 : Nat} {it te tk key : Tmp} {r0 : Addr} {l : Array Value} {b : Value} (h : JL       ops it te tk key) (hit : a.eval (.tmp it) = .pointer (some r0)) (hte : te < a.tmps.size) (htk : tk < a.tmps.size)
    (hl0:l[0]? = some b) (hrun:(Instr.entry (.pointer (some r0))).run P w=.ok (.tuple l) w) (hq:Q .normal (((a.put (some te) (.tuple l)).put (some tk) b).put (some key) b) w):
    (Code.region i3 ops false).wpIn (HN rnd) 0 P Q a w:=by
  obtain⟨o0,o1,o2,hl,⟨a1,a2,a3⟩,⟨b1,b2,b3⟩,c1,c2,c3⟩:=h.ex
  refine wpIn_region ?_
  rw[KM hl]
  show wpOpsIn (HN rnd) 0 P ops Q [0,1,2] a w
  rw[wpOpsIn_cons]
  refine Gt (Gv hl 0) a1 (fun c e=>by rw[a3]at e;cases e) (v':=.tuple l) (w':=w) ?_ ?_
  · simp only[execOp,a3,hit,Sem.run_bind,hrun,Result.andThen,Sem.run_pure]
  · rw [wpOpsIn_cons, a2]
    refine Gt (Gv hl 1) b1 (fun c e=>by rw[b3]at e;cases e) (v':=b) (w':=w) ?_ ?_
    · simp only[execOp,b3,CC hte,Instr.extract,hl0,Sem.run_bind,Result.andThen,Sem.run_pure]
    · rw [wpOpsIn_cons, b2]
      refine Gt (Gv hl 2) c1 (fun c e=>by rw[c3]at e;cases e) (v':=b) (w':=w) ?_ ?_
      · simp only[execOp,c3,CC (a:=a.put (some te) (.tuple l)) (t:=tk) (v:=b) (by rw[BD];exact htk),Sem.run_pure]
      · rw[c2]
        exact hq
structure ZS(ρi:A4)(es:Array MapEntry)(f:AV→Option Ly)(S:Option (List AV×List (List AV)))(ch:MapEntry→AV×Ly):Prop where
 ex:∀e∈es.toList,AL ρi (ch e).1 e.key∧f (ch e).1=some (ch e).2∧∀X M,(ch e).2=.ret X M→∃Z,S=some (Z,M)∧K6 X Z
theorem born_inj{l:List MapEntry}(h:(l.map (·.born)).Nodup){x y:MapEntry}(hx:x∈l)(hy:y∈l)(e:x.born=y.born):x=y:=by
  induction l with
  | nil=>cases hx
  | cons a l ih =>
    simp only[gN,gx,List.mem_map]at h
    rcases hZ.1 hx with hxa | hx'
    · rcases hZ.1            hy with hya | hy'
      · rw[hxa,hya]
      · exact absurd ⟨y,hy',by rw[← e,hxa]⟩ h.1
    · rcases hZ.1            hy with hya | hy'
      · exact absurd ⟨x,hx',by rw[e,hya]⟩ h.1
      · exact ih h.2 hx' hy'
theorem Tb{id2 idb:Nat}{K:Act→World→Prop}{Q':Exit→Act→World→Prop}(h:Q' .ret a w):Exit.inBlock id2 (Exit.then K (Exit.inBlock idb Q')) (EL .ret) a w:=h
theorem H6{id2:Nat}{e:JK}{K:Act→World→Prop}{Q':Exit→Act→World→Prop}(h:H5 id2 e=true)(hk:K a w):Exit.inBlock id2 (Exit.then K Q') (EL e) a w:=by
 cases e with
 | normal=>exact hk
 | exit i =>
  have:i=id2:=Ad h
  show(if i=id2 then _ else _)
  rw[if_pos this]
  exact hk
 | ret=>cases h
variable{fn:Func}{A:List AV}{marks:List Nat}{bm clock:Nat}{es:Array MapEntry}{it tn ok te tk key:Tmp}{jt jok jk:Nat}
structure Tw(P:Program)(fn:Func)(it tn ok te tk key:Tmp)(jt jok jk:Nat):Prop where
 hjt:Ao (Ac P fn) it=some jt
 hjok:Ao (Ac P fn) ok=some jok
 hjk:Ao (Ac P fn) key=some jk
 ntn:Ao (Ac P fn) tn=none
 nte:Ao (Ac P fn) te=none
 ntk:Ao (Ac P fn) tk=none
 ltn:tn<fn.ntmps
 lte:te<fn.ntmps
 ltk:tk<fn.ntmps
 lok:ok<fn.ntmps
 lkey:key<fn.ntmps
 d1:jt≠jok
 d2:jt≠jk
 d3:jok≠jk
theorem Ss{ρi:A4}{A:List AV}{tmps:Array Value}(hs:Tw P fn it tn ok te tk key jt jok jk)(hv:Al P ρi fn A tmps)(hj:If A jt=.ptr (some (s.next,0)))(hr:ρi s.next=some ⟨w.heap.size,0,0,0⟩):
  tmps.getD it undef=.pointer (some ⟨w.heap.size,0,none⟩):=by
 obtain⟨_,v,h1,h2⟩:=hv.rel it jt hs.hjt
 rw[IF h1]at hj
 subst hj
 generalize tmps.getD it undef=x at h2
 cases h2 with
 | ptr h =>
  rw[hr]at h
  injection h with h
  subst h
  rfl
theorem Tc        {F : Cv}  (hcode : Hs     P F) {f : FuncId} {ops2 ops3 : Array Oper} {i2 i3 idb id2 : Nat} {body : Code} {r : Ix}   (hf : P.funcs[f]? = some fn) (hs : Tw    P fn it tn ok te tk key r.jt r.jok r.jk) (h2 : Lx      ops2 it tn ok) (h3 : JL       ops3 it te tk key)
    (hi:Av P ρ s w) (hfr:Ag ρ s) (hm:w.heap[bm]? = some (.map es clock)) (hst:MapKept.Stamped es clock) {rd:Option Nat} (hrnd:JO ρ rd rnd) (hid:id2=r.id2)
    (hA:If A r.jt=.ptr (some (s.next,0))) {W:List Nat} {sf:AE} (hn1:sf.next=s.next+1) (hsm:Lz W s.heap sf.heap) (hWρ:∀j∈W,∃rb,ρ j=some rb) {S:Option (List AV×List (List AV))} {ch:MapEntry→AV×Ly}
    (hro:ZS (Az ρ s w) es (C6 F rd r (Aa P f fn.ntmps (Ac P fn) body) A W marks sf) S ch)
    (hq:S=none→∀a' w' seen',Hd ρ s W w w' bm clock seen'→Al P (Az ρ s w) fn (E3 (.bool false) A r.jok) a'.tmps→BS (Az ρ s w) marks a'.defers→Q .normal a' w')
    (hqr:∀Z M,S=some (Z,M)→∀a' w3 w' seen' ρ1 s1,Hd ρ s W w w3 bm clock seen'→Fr (Az ρ s w) sf w3 ρ1 s1 w'→Av P ρ1 s1 w'→Ta sf s1 W=some M→Al P (Az ρ s w) fn Z a'.tmps→BS (Az ρ s w) marks a'.defers→Q .ret a' w'):
    ∀ (m:Nat) (a:Act) (w1:World) (seen:Array Nat),(leftOf es seen).size<m→(S=none∨∃e∈es.toList,seen.contains e.born=false∧∃X M,(ch e).2=.ret X M)→Hd ρ s W w w1 bm clock seen→Al P (Az ρ s w) fn A a.tmps→BS (Az ρ s w) marks a.defers →
      Code.roundsIn (HN rnd) 0 P (.seq (.region i2 ops2 false) (.seq (.cond (.tmp ok) .skip (.exit idb)) (.block id2 (.seq (.region i3 ops3 false) body)))) (Exit.inBlock idb Q) m a w1:=by
  have hWb:∀j∈W,∀rb,ρ j=some rb→rb.b≠bm:=fun j hj rb hr e=>by
    obtain⟨_,r,k1,k2⟩:=hsm.inW j hj
    obtain⟨cs,k3,_⟩:=(show BF ρ w r rb from hi.obj j _ rb k1 hr).own (fun e=>by have:=(CR k2).1;rw[e]at this;cases this)
    rw[e,hm]at k3
    cases k3
  have hltW:∀i rb,ρ i=some rb→rb.b<w.heap.size:=hi.lt
  have hWs:∀j∈W,(∃rb,ρ j=some rb)∧∃r,s.heap.get j=some (.row r)∧CA r=true:=fun j hj=>⟨hWρ j hj,(hsm.inW j hj).2⟩
  have hnx:=hfr s.next (fu _)
  intro m
  induction m with
  | zero=>intro a w1 seen h;omega
  | succ m ih =>
    intro a w1 seen hlt hS hd hv hmk
    have hlt0:bm<w.heap.size:=by
      rcases fv bm w.heap.size with h | h
      · exact h
      · simp[Array.getElem?_eq_none h]at hm
    have hn:=(hfr s.next (fu _)).1
    have hrit:Az ρ s w s.next=some ⟨w.heap.size,0,0,0⟩:=AM _ _
    have hit:a.eval (.tmp it)=.pointer (some ⟨w.heap.size,0,none⟩):=Ss hs hv hA hrit
    have hm1:w1.heap[bm]? = some (.map es clock):=by rw[hd.old bm hlt0 hWb];exact hm
    obtain⟨c0,hc0,hiter⟩:=hd.it
    have hst':=(MapKept.stamped_iff es clock).1 hst
    have hsz:fn.ntmps≤a.tmps.size:=hv.size
    rw[roundsIn_succ]
    refine wpIn_seq (N8 h2 hit (fy hs.ltn hsz) fun ty=>?_)
    rcases run_next_at (P:=P) w1 ty w.heap.size bm clock c0 seen es clock hiter hm1 hst'.1 hc0 with⟨hz,hrun⟩ | ⟨e,he,w2,hw2,hrun⟩
    · refine⟨_,.bool false,w1,rfl,hrun,?_⟩
      have hSn:S=none:=by
        rcases hS with h | ⟨e,h,h',_⟩
        · exact h
        · rw[all_seen es seen hz e h]at h';cases h'
      have hv1:Al P (Az ρ s w) fn A (a.put (some tn) (.tuple #[.bool false])).tmps:=Hp hv hs.ntn _
      have hv2:Al P (Az ρ s w) fn (E3 (.bool false) A r.jok) ((a.put (some tn) (.tuple #[.bool false])).put (some ok) (.bool false)).tmps:=NF hv1 hs.hjok (.bool false) (by rw[BD];exact fy hs.lok hsz)
      refine wpIn_seq (wpIn_cond (t:=false) ?_ ?_)
      · exact CC (by rw[BD];exact fy hs.lok hsz)
      · refine wpIn_exit ?_
        show(if idb=idb then Q .normal _ _ else _)
        rw[if_pos rfl]
        exact hq hSn _ _ _ hd hv2 (by rw[Bl,Bl];exact hmk)
    · refine⟨_,.bool true,_,rfl,hrun,?_⟩
      have Pw:Hd ρ s W w (setBlock w2 w.heap.size (.mapIter (some bm) clock (seen.push e.born) clock)) bm clock (seen.push e.born):=hd.step hltW (fu _) hw2
      have hit3:(setBlock w2 w.heap.size (.mapIter (some bm) clock (seen.push e.born) clock)).heap[w.heap.size]? = some (.mapIter (some bm) clock (seen.push e.born) clock):=by
        have e1:w2.heap=w1.heap:=by rcases hw2 with rfl | rfl<;>rfl
        have hl:=hd.lt
        show(w2.heap.setIfInBounds _ _)[w.heap.size]? = _
        rw[e1]
        simp[hl]
      generalize setBlock w2 w.heap.size (.mapIter (some bm) clock (seen.push e.born) clock)=w3 at Pw hit3
      have hm3:w3.heap[bm]? = some (.map es clock):=by rw[Pw.old bm hlt0 hWb];exact hm
      obtain⟨hes,_⟩:=mem_left he
      obtain⟨hk,hround,hret⟩:=hro.ex e hes
      generalize hke:(ch e).1=k at hk hround
      have hv1:Al P (Az ρ s w) fn A (a.put (some tn) (.tuple #[.bool true,e.key,e.val])).tmps:=Hp hv hs.ntn _
      have hv2:Al P (Az ρ s w) fn (E3 (.bool true) A r.jok) ((a.put (some tn) (.tuple #[.bool true,e.key,e.val])).put (some ok) (.bool true)).tmps:=NF hv1 hs.hjok (.bool true) (by rw[BD];exact fy hs.lok hsz)
      have hv1':Al P (Az ρ s w) fn A a.tmps:=hv
      have hjA2:If (E3 (.bool true) A r.jok) r.jt=.ptr (some (s.next,0)):=by rw[Ea hs.d1];exact hA
      refine wpIn_seq (wpIn_cond (t:=true) ?_ (wpIn_skip ?_))
      · exact CC (by rw[BD];exact fy hs.lok hsz)
      show Code.wpIn (HN rnd) 0 P _ _ _ _
      have hmk2:BS (Az ρ s w) marks ((a.put (some tn) (.tuple #[.bool true,e.key,e.val])).put (some ok) (.bool true)).defers:=by rw[Bl,Bl];exact hmk
      have hsz2:fn.ntmps≤((a.put (some tn) (.tuple #[.bool true,e.key,e.val])).put (some ok) (.bool true)).tmps.size:=hv2.size
      generalize (a.put (some tn) (.tuple #[.bool true,e.key,e.val])).put (some ok) (.bool true)=a2 at hv2 hmk2 hsz2
      refine wpIn_block (wpIn_seq (MY h3 (Ss hs hv2 hjA2 hrit) (fy hs.lte hsz2) (fy hs.ltk hsz2) (l:=#[e.key,e.val]) (b:=e.key) rfl (run_entry_at w3 w.heap.size bm clock seen es clock e hit3 hm3 hes hst'.2.1) ?_))
      show Code.wpIn (HN rnd) 0 P _ _ _ _
      have hv3:Al P (Az ρ s w) fn (E3 k (E3 (.bool true) A r.jok) r.jk) (((a2.put (some te) (.tuple #[e.key,e.val])).put (some tk) e.key).put (some key) e.key).tmps:=by
        have g1:Al P (Az ρ s w) fn (E3 (.bool true) A r.jok) (a2.put (some te) (.tuple #[e.key,e.val])).tmps:=Hp hv2 hs.nte _
        have g2:Al P (Az ρ s w) fn (E3 (.bool true) A r.jok) ((a2.put (some te) (.tuple #[e.key,e.val])).put (some tk) e.key).tmps:=Hp g1 hs.ntk _
        exact NF g2 hs.hjk hk (by rw[BD,BD];exact fy hs.lkey hsz2)
      have hmk3:BS (Az ρ s w) marks (((a2.put (some te) (.tuple #[e.key,e.val])).put (some tk) e.key).put (some key) e.key).defers:=by rw[Bl,Bl,Bl];exact hmk2
      generalize ((a2.put (some te) (.tuple #[e.key,e.val])).put (some tk) e.key).put (some key) e.key=a3 at hv3 hmk3
      unfold C6 at hround
      simp only[ft]at hround
      obtain⟨q,hq1,hq2⟩:=hround
      obtain⟨hq3,hq4⟩:=AA hq2
      have hmkq:=Hj hq3
      have hb1:Av P (Az ρ s w) sf w3:=by
        have:=(Pw.invN (Pw.now hWs hfr) hi hfr).semi (n:=sf.next) hsm
        exact this
      have hb2:Ag (Az ρ s w) sf:=by
        have:=(Pt hfr (Pw.now (P:=P) hWs hfr)).semi (W:=W) (h':=sf.heap) hsm
        have e:(⟨s.next+1,sf.heap⟩:AE)=sf:=by rw[← hn1]
        rw[← e];exact this
      refine hcode f fn body rd rnd _ marks sf q (Az ρ s w) w3 a3 _ hf hq1 ⟨hb1,hb2,hv3,hmk3,hrnd.mono (Ax hn)⟩ ?_
      intro a4 w4 ρ4 g
      have hle4:=g.fr.le
      have hmk4:BS (Az ρ s w) marks a4.defers:=by
        have:=g.marks
        rw[hmkq]at this
        rw[LQ hmk3 this hle4]
        exact hmk3
      subst hid
      have hgo:∀e',e'=q.exit→e'≠.ret→H5 r.id2 e'=true→K6 q.var A→Lf sf q.st W=true→(ch e).2=.go→Exit.inBlock r.id2 (Exit.then (fun a w=>Code.roundsIn (HN rnd) 0 P (.seq (.region i2 ops2 false) (.seq (.cond (.tmp ok) .skip (.exit idb)) (.block r.id2 (.seq (.region i3 ops3 false) body)))) (Exit.inBlock idb Q) m a w) (Exit.inBlock idb Q)) (EL e') a4 w4:=by
        intro e' _ _ h1 h2' hsW h3'
        have hd4:Hd ρ s W w w4 bm clock (seen.push e.born):=Pw.round P hnx hltW hsm (n:=sf.next) g.fr g.inv hsW
        have hmg:Al P (Az ρ s w) fn A a4.tmps:=Q1 hv1' g.vars hle4 (.refl _) h2'
        refine H6 h1 ?_
        refine ih a4 w4 (seen.push e.born) (by have:=left_shrinks es seen e he;omega) ?_ hd4 hmg hmk4
        rcases hS with h | ⟨e0,h4,h5,X,M,h6⟩
        · exact .inl h
        · refine .inr ⟨e0, h4, ?_, X, M, h6⟩
          rw[Array.contains_push,h5]
          simp only[Bool.false_or]
          cases hb:(e0.born == e.born)with
          | false=>first | rfl | (rw[Bool.beq_comm] ; exact hb)
          | true =>
            have:=born_inj hst'.2.1 h4 hes (by simpa using hb)
            subst this
            rw[h3']at h6
            cases h6
      cases hex:q.exit with
      | ret =>
        rw[hex]at hq4
        simp only[ft]at hq4
        obtain⟨X,h4,M,h4',h5⟩:=hq4
        injection h5 with h5
        obtain⟨Z,h6,h7⟩:=hret X M h5.symm
        refine Tb ?_
        exact hqr Z M h6 _ _ _ _ _ _ Pw g.fr g.inv h4' (ZK hv1' g.vars hle4 h4 h7) hmk4
      | normal =>
        rw[hex]at hq4
        obtain⟨h4,h5⟩:=AA hq4
        simp only[Bool.and_eq_true]at h4
        injection h5 with h5
        exact hgo _ hex.symm (by simp) h4.1 (Jn h4.2.1) h4.2.2 h5.symm
      | exit i =>
        rw[hex]at hq4
        obtain⟨h4,h5⟩:=AA hq4
        simp only[Bool.and_eq_true]at h4
        injection h5 with h5
        exact hgo _ hex.symm (by simp) h4.1 (Jn h4.2.1) h4.2.2 h5.symm
theorem Kg(o:Option Ix)(x y:Ab):Kf o x y=.seq x y∨∃r c,Kf o x y=.rangeMap r c∧o=some r∧GI y=some c:=by
 unfold Kf
 cases o with
 | none=>exact .inl rfl
 | some r =>
  cases h:GI y with
  | none=>simp[h]
  | some c=>exact .inr ⟨r,c,rfl,rfl,rfl⟩
theorem Xf:∀ {a b:List (List AV)},fC a b=true→a=b
 | [],[],_=>rfl
 | x::l,y::m,h=>by
  simp only[fC,Bool.and_eq_true]at h
  have:=D9 h.1
  injection this with this
  rw[this,Xf h.2]
 | [],_::_,h=>by cases h
 | _::_,[],h=>by cases h
theorem ET          {g : AV → Option Ly}   : ∀ {l : List (AV × AV)} {R S : Option (List AV × List (List AV))}, FP     g R l = some S →
    (∀x∈l,∃o,g x.1=some o∧∀X M,o=.ret X M→∃Z,S=some (Z,M)∧K6 X Z)∧(∀Y,R=some Y→∃Z,S=some (Z,Y.2)∧K6 Y.1 Z)∧(R=none→S=none∨∃x∈l,∃X M,g x.1=some (.ret X M))
  | [],R,S,h=>by injection h with h;subst h;exact⟨fun x hx=>(by cases hx),fun Y h=>⟨Y.1,h,.refl _⟩,fun h=>.inl h⟩
  | e::l,R,S,h=>by
    unfold FP at h
    simp only[ft]at h
    obtain⟨o,h1,h2⟩:=h
    cases o with
    | go =>
      obtain⟨g1,g2,g3⟩:=ET h2
      refine And.intro (fun x hx=>?_) (And.intro g2 fun h=>(g3 h).imp id fun⟨x,hx,h⟩=>⟨x,gG _ hx,h⟩)
      rcases hZ.1 hx with rfl | hx
      · exact⟨_,h1,fun X M h=>(by cases h)⟩
      · exact g1 x hx
    | ret X M =>
      cases R with
      | none =>
        obtain⟨g1,g2,g3⟩:=ET h2
        refine And.intro (fun x hx=>?_) (And.intro (fun Y h=>(by cases h)) fun _=>.inr ⟨e,gC ..,X,M,h1⟩)
        rcases hZ.1 hx with rfl | hx
        · exact⟨_,h1,fun X' M' h=>(by injection h with h h';subst h h';exact g2 _ rfl)⟩
        · exact g1 x hx
      | some Y =>
        obtain⟨hb,h2⟩:=AA h2
        simp only[ft]at h2
        obtain⟨Z,h3,h4⟩:=h2
        have hM:=Xf hb
        obtain⟨m1,m2⟩:=KD h3
        obtain⟨g1,g2,g3⟩:=ET h4
        obtain⟨Z',e1,e2⟩:=g2 _ rfl
        refine And.intro (fun x hx=>?_) (And.intro (fun Y' h=>(by injection h with h;subst h;exact⟨Z',e1,m1.trans e2⟩)) fun h=>(by cases h))
        rcases hZ.1 hx with rfl | hx
        · exact⟨_,h1,fun X' M' h=>(by injection h with h h';subst h h';exact⟨Z',by rw[← hM];exact e1,m2.trans e2⟩)⟩
        · exact g1 x hx
theorem F5{var:List AV}{i:Nat}:∀ {l:List CX},i∈K5 var l→∃j o,CX.var j∈l∧var[j]? = some (.ptr (some (i,o)))
  | [],h=>by cases h
  | .var j::l,h=>by
    unfold K5 at h
    split at h
    · rename_i i' o hj
      rcases hZ.1 h with rfl | h
      · exact⟨j,o,gC ..,hj⟩
      · obtain⟨j',o',h1,h2⟩:=F5 h;exact⟨j',o',gG _ h1,h2⟩
    · obtain⟨j',o',h1,h2⟩:=F5 h;exact⟨j',o',gG _ h1,h2⟩
  | .loc _::l,h=>by obtain⟨j',o',h1,h2⟩:=F5 (l:=l) h;exact⟨j',o',gG _ h1,h2⟩
  | .const _::l,h=>by obtain⟨j',o',h1,h2⟩:=F5 (l:=l) h;exact⟨j',o',gG _ h1,h2⟩
theorem TZ{f:FuncId}{vars:List Tmp}{j:Nat}(h:CX.var j∈Se P f vars):∃t,Ao vars t=some j:=by
 unfold Se at h
 split at h
 ·obtain⟨v,_,h2⟩:=List.mem_filterMap.1 h
  split at h2
  ·rename_i t' _ _
   obtain⟨k,h3,h4⟩:=Option.map_eq_some_iff.1 h2
   injection h4 with h4
   subst h4
   exact⟨_,h3⟩
  ·cases h2
 ·cases h
theorem CI.mem'{l:List (AV×AV)}{l':List MapEntry}(h:CI ρ l l'):∀x∈l,∃e∈l',AL ρ x.1 e.key:=by
 induction h with
 | nil=>intro e he;cases he
 | cons hk hv hs ih =>
  intro e he
  rcases hZ.1 he with rfl | he
  ·exact⟨_,gC ..,hk⟩
  ·obtain⟨x,h1,h2⟩:=ih e he
   exact⟨x,gG _ h1,h2⟩
theorem CI.mem{l:List (AV×AV)}{l':List MapEntry}(h:CI ρ l l'):∀e∈l',∃x∈l,AL ρ x.1 e.key:=by
 induction h with
 | nil=>intro e he;cases he
 | cons hk hv hs ih =>
  intro e he
  rcases hZ.1 he with rfl | he
  ·exact⟨_,gC ..,hk⟩
  ·obtain⟨x,h1,h2⟩:=ih e he
   exact⟨x,gG _ h1,h2⟩
theorem dS     {F : Cv}  (hcode : Hs     P F) {f : FuncId} {c b : Code} {r : Ix}   {cb : Ab}    {rd : Option Nat} {var : List AV} {res : Au}   (hf : P.funcs[f]? = some fn) (hr : Gf    P f fn.ntmps (Ac     P fn) c b = some r)
    (hcb:GI (Aa P f fn.ntmps (Ac P fn) b)=some cb) (hc:Zg F rd r cb var marks s=some res) (hb:Gj P fn ρ s w var marks rd rnd a)
    (hq:∀a' w' ρ',Gk P fn ρ s w res a' w' ρ'→Q (EL res.exit) a' w'):(Code.seq c b).wpIn (HN rnd) 0 P Q a w:=by
  unfold Gf at hr
  split at hr<;>first | (cases hr;done) | skip
  rename_i b i1 ops1 d1
  simp only[ft]at hr
  obtain⟨p,hp,hr⟩:=hr
  unfold Yq at hp
  split at hp<;>first | (cases hp;done) | skip
  rename_i idb i2 ops2 tc ide id2 i3 ops3 body
  obtain⟨Ot,hp⟩:=AA hp
  simp only[ft]at hp
  obtain⟨h,hh,n,hn,e,he,hp⟩:=hp
  obtain⟨hg,hp⟩:=AA hp
  simp only[Bool.and_eq_true]at hg
  injection hp with hpe
  have e1:=Ad hg.1
  have e2:=Ad hg.2
  subst e1
  subst e2
  cases d1 with
  | true=>cases Ot
  | false =>
  have H1:=M4 hh
  have H2:=M6 hn
  have H3:=Kz he
  have hcb':cb=Aa P f fn.ntmps (Ac P fn) body:=by
    simp only[Aa]at hcb
    rcases Kg (Gf P f fn.ntmps (Ac P fn) (.region i2 ops2 false) (.seq (.cond (.tmp n.2) .skip (.exit ide)) (.block id2 (.seq (.region i3 ops3 false) body)))) (Aa P f fn.ntmps (Ac P fn) (.region i2 ops2 false)) (Aa P f fn.ntmps (Ac P fn) (.seq (.cond (.tmp n.2) .skip (.exit ide)) (.block id2 (.seq (.region i3 ops3 false) body))))with h1 | ⟨r',c',h1,h2,_⟩
    · simp only[Aa]at h1
      rw[h1]at hcb
      rcases Kg (Gf P f fn.ntmps (Ac P fn) (.region i3 ops3 false) body) (Aa P f fn.ntmps (Ac P fn) (.region i3 ops3 false)) (Aa P f fn.ntmps (Ac P fn) body)with h2 | ⟨r',c',h2,_,_⟩
      · simp only[Aa]at h2
        rw[h2]at hcb
        simp only[Gf,Kf,GI]at hcb
        injection hcb with hcb
        exact hcb.symm
      · simp only[Aa]at h2
        rw[h2]at hcb
        simp only[Gf,Kf,GI]at hcb
        cases hcb
    · simp only[Gf,Yq]at h2
      cases h2
  subst hcb'
  clear hcb
  unfold SF at hr
  simp only[ft]at hr
  obtain⟨ad,hx,jt,hjt,jok,hjok,jk,hjk,hr⟩:=hr
  obtain⟨g1,hr⟩:=AA hr
  obtain⟨g2,hr⟩:=AA hr
  obtain⟨g3,hr⟩:=AA hr
  injection hr with hr
  subst hpe
  simp only at hx hjt hjok hjk g1 g2 g3 hr
  simp only[Bool.and_eq_true,Option.isNone_iff_eq_none,Bool.not_eq_true']at g1 g2 g3
  have blt:∀ {x y:Nat},Nat.blt x y=true→x<y:=fun h=>iB h
  have bne:∀ {x y:Nat},Nat.beq x y=false→x≠y:=fun h e=>by subst e;simp at h
  have hs:Tw P fn h.2.2.2 n.1 n.2 e.1 e.2.1 e.2.2 r.jt r.jok r.jk:=by
    subst hr
    exact⟨hjt,hjok,hjk,g1.2.1,g1.2.2.1,g1.2.2.2,blt g2.2.1,blt g2.2.2.1,blt g2.2.2.2.1,blt g2.2.2.2.2.2.1,blt g2.2.2.2.2.2.2,bne g3.2.1,bne g3.2.2.1,bne g3.2.2.2⟩
  have hrid:id2=r.id2:=by subst hr;rfl
  have hrad:r.ad=ad:=by subst hr;rfl
  have hrres:r.res=Se P f (Ac P fn):=by subst hr;rfl
  have hrrd:∀s v,r.rd s v=AF P s h.1 v:=by subst hr;intro s v;rfl
  clear hr
  unfold Zg at hc
  simp only[ft]at hc
  obtain⟨m,hm,es,hes,hAF⟩:=hc
  rw[hrrd,hrad]at hm
  have hents:∃i kt es',m=.map (some i)∧es=es'∧(s.heap.get i=some (.map kt es')∨s.heap.get i=some (.mapRo kt es')):=by
    unfold SY at hes
    split at hes<;>first | (cases hes;done) | skip
    rename_i i
    split at hes<;>first | (cases hes;done) | skip
    · rename_i kt es' hget
      injection hes with hes
      exact⟨i,kt,es',rfl,hes.symm,.inl hget⟩
    · rename_i kt es' hget
      injection hes with hes
      exact⟨i,kt,es',rfl,hes.symm,.inr hget⟩
  obtain⟨i,kt,es',rfl,rfl,hget⟩:=hents
  clear hes
  obtain⟨v',hrun,hv',hdrop⟩:=J7 hb.inv hm (KK hb.vars hx)
  clear hdrop
  cases hv' with
  | map hρ =>
  rename_i rb
  obtain⟨esM,clock,hM,hst,⟨l,hperm,herel⟩,_⟩:=(show GU P ρ w kt es rb from hget.elim (fun h=>hb.inv.obj i _ rb h hρ) (fun h=>hb.inv.obj i _ rb h hρ)).ex
  have hmt:∃k e,P.underlying h.1=some (.map k e):=by
    have:=g3.1
    unfold IA at this
    split at this
    · rename_i k e hu;exact⟨k,e,hu⟩
    · cases this
  obtain⟨tk,te,hmt⟩:=hmt
  have hn0:=(hb.fresh s.next (fu _)).1
  have hle:ρ.le (Az ρ s w):=Ax hn0
  have hrit:Az ρ s w s.next=some ⟨w.heap.size,0,0,0⟩:=AM _ _
  obtain⟨o0,o1,hl,⟨a1,a2,a3⟩,b1,b2,b3⟩:=H1.ex
  have hsz:fn.ntmps≤a.tmps.size:=hb.vars.size
  refine wpIn_seq (wpIn_region ?_)
  rw[KM hl]
  show wpOpsIn (HN rnd) 0 P ops1 _ [0,1] a w
  rw[wpOpsIn_cons]
  refine Gt (Gv hl 0) a1 (fun c e=>by rw[a3]at e;cases e) (v':=.map (some rb.b)) (w':=w) ?_ ?_
  · simp only[execOp,a3,hrun,Sem.run_bind,Result.andThen,Sem.run_pure]
  rw[wpOpsIn_cons,a2]
  refine Gt (Gv hl 1) b1 (fun c e=>by rw[b3]at e;cases e) (v':=.pointer (some ⟨w.heap.size,0,none⟩)) (w':=w.alloc (.mapIter (some rb.b) clock #[] clock)) ?_ ?_
  · simp only[execOp,b3,CC (fy (blt g2.1) hsz),Sem.run_bind,run_range_map w h.1 tk te rb.b esM clock hmt hM,Result.andThen,Sem.run_pure]
  rw[b2]
  show Code.wpIn (HN rnd) 0 P _ _ _ _
  have hd0:∀W,(∀j∈W,∃r,s.heap.get j=some (.row r)∧CA r=true)→Hd ρ s W w (w.alloc (.mapIter (some rb.b) clock #[] clock)) rb.b clock #[]:=fun W hW =>
    ⟨⟨by simp,fun b hb _=>heap_alloc_old w _ hb,rfl,rfl,rfl⟩,fun j hj r rb' hr hrb=>(show Cx (default:Program) ρ w (.row r) rb' from hb.inv.obj j _ rb' hr hrb).mono (A4.le_refl _) (heap_alloc_old w _ (hb.inv.lt j rb' hrb)),clock,fu _,heap_alloc_new w _⟩
  have hv0:Al P (Az ρ s w) fn (E3 (.ptr (some (s.next,0))) var r.jt) ((a.put (some h.2.2.1) (.map (some rb.b))).put (some h.2.2.2) (.pointer (some ⟨w.heap.size,0,none⟩))).tmps:=by
    have k1:Al P (Az ρ s w) fn var (a.put (some h.2.2.1) (.map (some rb.b))).tmps:=Hp (hb.vars.mono hle) g1.1 _
    exact NF k1 hs.hjt (AL.ptr (rb:=⟨w.heap.size,0,0,0⟩) (o:=0) hrit) (by rw[BD];exact fy (blt g2.2.2.2.2.1) hsz)
  have hmk0:BS (Az ρ s w) marks ((a.put (some h.2.2.1) (.map (some rb.b))).put (some h.2.2.2) (.pointer (some ⟨w.heap.size,0,none⟩))).defers:=by
    rw[Bl,Bl];exact hb.marks.mono hle
  generalize (a.put (some h.2.2.1) (.map (some rb.b))).put (some h.2.2.2) (.pointer (some ⟨w.heap.size,0,none⟩))=a0 at hv0 hmk0
  have hA0:If (E3 (.ptr (some (s.next,0))) var r.jt) r.jt=.ptr (some (s.next,0)):=HX (by rw[hb.vars.len];exact Cj hs.hjt)
  generalize hA0e:E3 (.ptr (some (s.next,0))) var r.jt=A0 at hAF hv0 hA0
  unfold Ka at hAF
  simp only[ft]at hAF
  obtain⟨J,_,A',hJ,hAF⟩:=hAF
  obtain⟨hjA,hAF⟩:=AA hAF
  simp only[ft]at hAF
  obtain⟨sf,hsf,S',hS,hAF⟩:=hAF
  obtain⟨hn1,hsm⟩:=TE hsf
  simp only[Bool.and_eq_true]at hjA
  have hjF:If A' r.jt=.ptr (some (s.next,0)):=D9 hjA.1
  have hWρ:∀j∈K5 A0 r.res,∃rb,ρ j=some rb:=fun j hj=>by
    obtain⟨k,o,h1,h2⟩:=F5 hj
    rw[hrres]at h1
    obtain⟨t,ht⟩:=TZ h1
    obtain⟨_,v,h3,h4⟩:=hv0.rel t k ht
    rw[h2]at h3
    injection h3 with h3
    subst h3
    obtain⟨_,r1,h5,_⟩:=hsm.inW j hj
    have hne:j≠s.next:=fun e=>by
      rw[e,(hb.fresh s.next (fu _)).2]at h5;cases h5
    generalize a0.tmps.getD t undef=x at h4
    cases h4 with
    | ptr h =>
      unfold Az at h
      rw[AJ _ hne]at h
      exact⟨_,h⟩
  generalize K5 A0 r.res=W at *
  have hWs:∀j∈W,(∃rb,ρ j=some rb)∧∃r,s.heap.get j=some (.row r)∧CA r=true:=fun j hj=>⟨hWρ j hj,(hsm.inW j hj).2⟩
  have hd0:=hd0 W fun j hj=>(hWs j hj).2
  have hvA:Al P (Az ρ s w) fn A' a0.tmps:=ZJ hv0 (J2 hJ)
  obtain⟨k5,_,k7⟩:=ET hS
  have k7:=k7 rfl
  have hch:∀e:MapEntry,∃c:AV×Ly,e∈esM.toList→(AL (Az ρ s w) c.1 e.key∧(C6 F rd r (Aa P f fn.ntmps (Ac P fn) body) A' W marks sf) c.1=some c.2∧(∀X M,c.2=.ret X M→∃Z,S'=some (Z,M)∧K6 X Z)) ∧
      ((∃x∈es,AL (Az ρ s w) x.1 e.key∧∃X M,(C6 F rd r (Aa P f fn.ntmps (Ac P fn) body) A' W marks sf) x.1=some (.ret X M))→∃X M,c.2=.ret X M):=by
    intro e
    by_cases he:e∈esM.toList
    · by_cases hr : ∃ x ∈ es, AL   (Az    ρ s w) x.1 e.key ∧ ∃ X M, (C6       F rd r (Aa       P f fn.ntmps (Ac     P fn) body) A' W marks sf) x.1 = some (.ret X M)
      · obtain⟨x,hx1,hx2,X,M,hx3⟩:=hr
        refine⟨(x.1,.ret X M),fun _=>⟨⟨hx2,hx3,fun X' M' h=>?_⟩,fun _=>⟨X,M,rfl⟩⟩⟩
        obtain⟨o,ho,ho2⟩:=k5 x hx1
        rw[hx3]at ho
        injection ho with ho
        exact ho2 X' M' (ho.symm.trans h)
      · obtain ⟨x, hx1, hx2⟩ := herel.mem e (hperm.mem_iff.2 he)
        obtain⟨o,ho,ho2⟩:=k5 x hx1
        exact⟨(x.1,o),fun _=>⟨⟨hx2.mono hle,ho,ho2⟩,fun h=>absurd h hr⟩⟩
    · exact⟨(.junk,.go),fun h=>absurd h he⟩
  obtain⟨ch,hch⟩:=Classical.axiomOfChoice hch
  have hS0:S'=none∨∃e∈esM.toList,(#[]:Array Nat).contains e.born=false∧∃X M,(ch e).2=.ret X M:=by
    refine k7.imp id fun⟨x,hx,X,M,h⟩=>?_
    obtain⟨e,he,hv⟩:=herel.mem' x hx
    exact⟨e,hperm.mem_iff.1 he,by simp,(hch e (hperm.mem_iff.1 he)).2 ⟨x,hx,hv.mono hle,X,M,h⟩⟩
  refine wpIn_block (wpIn_loop_rounds ((leftOf esM #[]).size+1) ?_)
  refine Tc hcode hf hs H2 H3 hb.inv hb.fresh hM hst hb.rnd hrid hjF hn1 hsm hWρ (S:=S') (ch:=ch) ⟨fun e he=>(hch e he).1⟩ ?_ ?_ _ a0 _ #[] (gY _) hS0 hd0 hvA hmk0
  · intro hn a' w' seen' hd' hv' hmk'
    subst hn
    injection hAF with hAF
    subst hAF
    have hnow:=hd'.now (P:=P) hWs hb.fresh
    exact hq a' w' (Az ρ s w) ⟨hd'.invN hnow hb.inv hb.fresh,Pt hb.fresh hnow,hd'.frN hnow hb.fresh,hv',hmk'⟩
  · intro Z M hn a' w3 w' seen' ρ1 s1 hd3 hfr1 hinv1 hret hv' hmk'
    subst hn
    simp only[ft]at hAF
    obtain⟨h2,hset,hAF⟩:=hAF
    injection hAF with hAF
    subst hAF
    have hnx:=hb.fresh s.next (fu _)
    have hnow:=bJ (n:=sf.next) hd3 hWρ hnx hsm hfr1.le hinv1 hret rfl hset
    have hd':=(hd3.ended P hnx hb.inv.lt hsm (n:=sf.next) hfr1).1
    exact hq a' w' (Az ρ s w) ⟨hd'.invN hnow hb.inv hb.fresh,Pt hb.fresh hnow,hd'.frN hnow hb.fresh,hv',hmk'⟩
end
end
end Go.Proofs.YtfgmceookgelcaaGreatDoor.Am
set_option linter.unusedVariables false
set_option linter.unusedSimpArgs false
namespace Go.Proofs.YtfgmceookgelcaaGreatDoor.Am
open Go
noncomputable section
section
variable{P:Program}{ρ ρ1 ρ2:A4}{s s1 s2:AE}{w w1 w2:World}
theorem Yk(hng:DO P){F:Cv}(hcall:BL P F.call){f:FuncId}{fn:Func}{g:Operand}{x:CX}{ps:Array Tmp}{assign body:Code}{rnd r:Option Nat}{var:List AV}{marks:List Nat}{s:AE}{res:Au}{ρ:A4}{w:World}{a:Act}{Q:Exit→Act→World→Prop}
    (hf:P.funcs[f]? = some fn) (hx:Dk (Ac P fn) ⟨[],0⟩ g=some x) (hc:Jj F rnd f (CO [] var x) ps assign body var marks s=some res) (hb:Gj P fn ρ s w var marks rnd r a)
    (hq:∀a' w' ρ',Gk P fn ρ s w res a' w' ρ'→Q (EL res.exit) a' w'):(Code.rangeFunc g ps assign body).wpIn (HN r) 0 P Q a w:=by
  have hgv:AL ρ (CO [] var x) (a.eval g):=KK hb.vars hx
  have res1:∀l:Nat,(resolve a.eval (rangeCall g l) 0:Sem Deferred)=Deferred.ofValue (a.eval g) #[.func (.yield l) #[] #[]]:=by
    intro l
    simp[resolve,rangeCall,Act.eval]
  refine wpIn_rangeFunc fun fn' _=>?_
  unfold Jj at hc
  cases rnd with
  | some l =>
    simp only[ft]at hc
    obtain⟨al,hl,hc⟩:=hc
    obtain⟨rb,h1,h2⟩:=hb.rnd
    subst h2
    have hgl:=EF hl
    obtain⟨L,h0,_,_,_,_,_,⟨rd,Ot,Pw⟩,_⟩:=(hb.inv.obj _ _ _ hgl h1:FY P ρ w al rb).ex
    have hent:=GT (P:=P) h0 fn' a.tmps ps assign body
    rw[Pw]at hent
    obtain⟨d,f0,args,k1,k2,k3⟩:=KX (r:=some rb.b) (Q:=Q) hng hcall hf hc hb.inv hb.fresh hb.vars hb.marks hgv Ot fn' fun w' ρ' h=>hq a w' ρ' h
    refine⟨_,_,_,d,_,f0,args,_,hent,?_,fun _ _=>trivial,k2 _,(fun e=>by cases e),k3⟩
    rw[res1,k1]
    rfl
  | none =>
    have hr:r=none:=hb.rnd
    subst hr
    let rb:RB:=⟨w.heap.size,0,0,0⟩
    have hn0:=(hb.fresh _ (fu s.next)).1
    have hle:=Ax (rb:=rb) hn0
    obtain⟨hi1,hfr1⟩:=hb.inv.new (o:=.mark) (o':=.deferred (some [])) (rb:=rb) hn0 rfl (World.alloc_heap_new w _)
    have hff:=hb.fresh.new .mark rb
    have Ot:Bc ρ s.next rb s.next=some rb:=AM _ _
    obtain⟨d,f0,args,k1,k2,k3⟩:=KX (r:=none) (Q:=Q) (a:={ a with defers:=[{ target:=.collected w.heap.size,args:=#[] }]++a.defers }) hng hcall hf hc hi1 hff (hb.vars.mono hle)
      ⟨rb,a.defers,Ot,rfl,hb.marks.mono hle⟩ (hgv.mono hle) Ot fn' fun w' ρ' h=>hq _ w' ρ' (Gk.trans (r1:=res) (a1:=a) hfr1 h)
    have hsz:(w.alloc (.deferred (some []))).heap.size=w.heap.size+1:=by simp
    rw[hsz]at k1 k3
    refine⟨_,_,_,d,_,f0,args,_,run_enterLoop_outer fn' a.tmps ps assign body,?_,fun _ _=>trivial,k2 _,(fun e=>by cases e),k3⟩
    rw[res1,k1]
    rfl
theorem TA        (hm : P.follows .mixedOrders = true) (hng : DO      P) {F : Cv}  {n : Nat} (h : NM    P F n) {call : FuncId → List AV → AE  → Option (AV × AE)}  {round : Nat → List AV → AE  → Option (AV × AE)}  : Hs     P ⟨CG    F, call, round⟩ := by
  intro f fn c
  have hF:=h.fok hng
  induction c with
  | skip =>
    intro rnd r var marks s res ρ w a Q hf hc hb hq
    injection (show some (⟨.normal,var,marks,s⟩:Au)=some res from hc)with hc
    subst hc
    exact wpIn_skip (hq a w ρ ⟨hb.inv,hb.fresh,Fr.refl _ _ _,hb.vars,hb.marks⟩)
  | label l =>
    intro rnd r var marks s res ρ w a Q hf hc hb hq
    injection (show some (⟨.normal,var,marks,s⟩:Au)=some res from hc)with hc
    subst hc
    exact wpIn_label (hq a w ρ ⟨hb.inv,hb.fresh,Fr.refl _ _ _,hb.vars,hb.marks⟩)
  | ret =>
    intro rnd r var marks s res ρ w a Q hf hc hb hq
    injection (show some (⟨.ret,var,marks,s⟩:Au)=some res from hc)with hc
    subst hc
    exact wpIn_ret (hq a w ρ ⟨hb.inv,hb.fresh,Fr.refl _ _ _,hb.vars,hb.marks⟩)
  | exit id =>
    intro rnd r var marks s res ρ w a Q hf hc hb hq
    injection (show some (⟨.exit id,var,marks,s⟩:Au)=some res from hc)with hc
    subst hc
    exact wpIn_exit (hq a w ρ ⟨hb.inv,hb.fresh,Fr.refl _ _ _,hb.vars,hb.marks⟩)
  | goto l=>intro rnd r var marks s res ρ w a Q hf hc;cases hc
  | refuse u=>intro rnd r var marks s res ρ w a Q hf hc;cases hc
  | region id ops draw =>
    intro rnd r var marks s res ρ w a Q hf hc hb hq
    exact dO hm hF hc hb hq
  | seq x y ihx ihy =>
    intro rnd r var marks s res ρ w a Q hf hc hb hq
    have hc:CG F rnd (Kf (Gf P f fn.ntmps (Ac P fn) x y) (Aa P f fn.ntmps (Ac P fn) x) (Aa P f fn.ntmps (Ac P fn) y)) var marks s=some res:=hc
    rcases Kg (Gf P f fn.ntmps (Ac P fn) x y) (Aa P f fn.ntmps (Ac P fn) x) (Aa P f fn.ntmps (Ac P fn) y)with hs | ⟨rm,cb,hs,hr1,hr2⟩
    case inr =>
      rw[hs]at hc
      exact dS h.code hf hr1 hr2 hc hb hq
    rw[hs]at hc
    have hc:HG F rnd (Aa P f fn.ntmps (Ac P fn) y) (F.code rnd (Aa P f fn.ntmps (Ac P fn) x) var marks s)=some res:=hc
    unfold HG at hc
    split at hc<;>first | (cases hc;done) | skip
    rename_i r1 h1
    refine wpIn_seq (h.code f fn x rnd r var marks s r1 ρ w a _ hf h1 hb ?_)
    intro a' w' ρ' g
    unfold GV at hc
    cases he:r1.exit with
    | normal =>
      rw[he]at hc
      refine h.code f fn y rnd r _ _ _ res ρ' w' a' Q hf hc (g.begins hb) ?_
      intro a2 w2 ρ2 g2
      exact hq a2 w2 ρ2 (Gk.trans (r1:=r1) (a1:=a') g.fr g2)
    | exit id =>
      rw[he]at hc
      injection hc with hc
      subst hc
      have:=hq a' w' ρ' g
      rw[he]at this
      exact this
    | ret =>
      rw[he]at hc
      injection hc with hc
      subst hc
      have:=hq a' w' ρ' g
      rw[he]at this
      exact this
  | cond o x y ihx ihy =>
    intro rnd r var marks s res ρ w a Q hf hc hb hq
    simp only[Aa]at hc
    cases ho:Dk (Ac P fn) ⟨[],0⟩ o with
    | none=>rw[ho]at hc;cases hc
    | some z =>
      rw[ho]at hc
      have hc:Ng F rnd (Aa P f fn.ntmps (Ac P fn) x) (Aa P f fn.ntmps (Ac P fn) y) var marks s (CO [] var z)=some res:=hc
      have hz:=KK hb.vars ho
      unfold Ng at hc
      split at hc<;>first | (cases hc;done) | skip
      rename_i t ht
      rw[ht]at hz
      have hev:a.eval o=.bool t:=by
        generalize a.eval o=y at hz
        cases hz;rfl
      refine wpIn_cond hev ?_
      cases t with
      | true=>exact h.code f fn x rnd r var marks s res ρ w a Q hf hc hb hq
      | false=>exact h.code f fn y rnd r var marks s res ρ w a Q hf hc hb hq
  | block id c ih =>
    intro rnd r var marks s res ρ w a Q hf hc hb hq
    have hc:Ji id (F.code rnd (Aa P f fn.ntmps (Ac P fn) c) var marks s)=some res:=hc
    unfold Ji at hc
    split at hc<;>first | (cases hc;done) | skip
    rename_i r1 h1
    refine wpIn_block (h.code f fn c rnd r var marks s r1 ρ w a _ hf h1 hb ?_)
    intro a' w' ρ' g
    unfold I7 at hc
    split at hc
    · rename_i id' he
      rw[he]
      simp only[EL,Exit.inBlock]
      cases hbq:Nat.beq id' id with
      | true =>
        rw[hbq]at hc
        injection hc with hc
        subst hc
        rw[if_pos (Ad hbq)]
        exact hq a' w' ρ' ⟨g.inv,g.fresh,g.fr,g.vars,g.marks⟩
      | false =>
        rw[hbq]at hc
        injection hc with hc
        subst hc
        have:=hq a' w' ρ' g
        rw[he]at this
        rw[if_neg (fun e=>by subst e;simp at hbq)]
        exact this
    · rename_i hne
      injection hc with hc
      subst hc
      have:=hq a' w' ρ' g
      cases he:r1.exit with
      | normal=>rw[he]at this;exact this
      | ret=>rw[he]at this;exact this
      | exit id'=>exact absurd he (hne id')
  | loop c ih =>
    intro rnd r var marks s res ρ w a Q hf hc hb hq
    have hc:HG F rnd (.loop (Aa P f fn.ntmps (Ac P fn) c)) (F.code rnd (Aa P f fn.ntmps (Ac P fn) c) var marks s)=some res:=hc
    refine wpIn_loop_rounds (n+1) ?_
    rw[roundsIn_succ]
    unfold HG at hc
    split at hc<;>first | (cases hc;done) | skip
    rename_i r1 h1
    refine h.code f fn c rnd r var marks s r1 ρ w a _ hf h1 hb ?_
    intro a' w' ρ' g
    unfold GV at hc
    cases he:r1.exit with
    | normal =>
      rw[he]at hc
      refine h.loop f fn c rnd r _ _ _ res ρ' w' a' Q hf hc (g.begins hb) ?_
      intro a2 w2 ρ2 g2
      exact hq a2 w2 ρ2 (Gk.trans (r1:=r1) (a1:=a') g.fr g2)
    | exit id =>
      rw[he]at hc
      injection hc with hc
      subst hc
      have:=hq a' w' ρ' g
      rw[he]at this
      exact this
    | ret =>
      rw[he]at hc
      injection hc with hc
      subst hc
      have:=hq a' w' ρ' g
      rw[he]at this
      exact this
  | scope c ih =>
    intro rnd r var marks s res ρ w a Q hf hc hb hq
    refine Q3 (ih rnd r var marks s res ρ w a _ hf hc hb ?_)
    intro a' w' ρ' g
    have:=hq a' w' ρ' g
    cases he:res.exit with
    | normal=>rw[he]at this;exact this
    | ret=>rw[he]at this;exact this
    | exit id'=>rw[he]at this;exact this
  | rangeFunc g ps x y ihx ihy =>
    intro rnd r var marks s res ρ w a Q hf hc hb hq
    simp only[Aa]at hc
    cases ho:Dk (Ac P fn) ⟨[],0⟩ g with
    | none=>rw[ho]at hc;cases hc
    | some z =>
      rw[ho]at hc
      exact Yk hng h.call hf ho hc hb hq
theorem TO{F:Cv}{n:Nat}(h:NM P F n){call:FuncId→List AV→AE→Option (AV×AE)}{round:Nat→List AV→AE→Option (AV×AE)}:Q5 P ⟨CG F,call,round⟩ (n+1):=by
  intro f fn c rnd r var marks s res ρ w a Q hf hc hb hq
  have hc:HG F rnd (.loop (Aa P f fn.ntmps (Ac P fn) c)) (F.code rnd (Aa P f fn.ntmps (Ac P fn) c) var marks s)=some res:=hc
  rw[roundsIn_succ]
  unfold HG at hc
  split at hc<;>first | (cases hc;done) | skip
  rename_i r1 h1
  refine h.code f fn c rnd r var marks s r1 ρ w a _ hf h1 hb ?_
  intro a' w' ρ' g
  unfold GV at hc
  cases he:r1.exit with
  | normal =>
    rw[he]at hc
    refine h.loop f fn c rnd r _ _ _ res ρ' w' a' Q hf hc (g.begins hb) ?_
    intro a2 w2 ρ2 g2
    exact hq a2 w2 ρ2 (Gk.trans (r1:=r1) (a1:=a') g.fr g2)
  | exit id =>
    rw[he]at hc
    injection hc with hc
    subst hc
    have:=hq a' w' ρ' g
    rw[he]at this
    exact this
  | ret =>
    rw[he]at hc
    injection hc with hc
    subst hc
    have:=hq a' w' ρ' g
    rw[he]at this
    exact this
theorem ZY{F:Cv}(hcode:Hs P F){f:FuncId}{aS:List AV}{v:AV}{as':Array Value}(hc:Fe P F aS s (AS P f)=some (v,s1))(hi:Av P ρ s w)(hfr:Ag ρ s)(ha:AK ρ aS as'.toList):
  (∃fn c,P.funcs[f]? = some fn∧fn.body=some c)∧CallsIn Fence.wide 0 P f as' w (CU P ρ s w v s1):=by
 unfold Fe at hc
 simp only[ft]at hc
 obtain⟨cf,h1,hc⟩:=hc
 unfold AS at h1
 simp only[ft]at h1
 obtain⟨fn,h2,c,h3,h4⟩:=h1
 obtain⟨h5,h6⟩:=AA h4
 simp only[ft]at h6
 obtain⟨cr,h7,h8⟩:=h6
 injection h8 with h8
 subst h8
 simp only at hc
 cases hb:Nat.beq aS.length (Ci fn)with
 | false=>rw[hb]at hc;cases hc
 | true =>
  rw[hb]at hc
  simp only[cond_true]at hc
  refine⟨⟨fn,c,h2,h3⟩,callsIn_of_wp_marks h2 h3 trivial ?_⟩
  unfold I8 at hc
  simp only[ft]at hc
  obtain⟨res,hr,hc⟩:=hc
  have hend:SV res.exit=true∧((DA res.st res.marks).bind fun s=>(Bb P s res.var cr).bind fun l=>some (BN l,s))=some (v,s1):=by
   cases he:SV res.exit with
   | true=>rw[he]at hc;exact⟨rfl,hc⟩
   | false=>rw[he]at hc;cases hc
  obtain⟨he,hc⟩:=hend
  simp only[ft]at hc
  obtain⟨s2,hu,l,hl,hv⟩:=hc
  injection hv with hv
  injection hv with hv1 hv2
  subst hv1
  subst hv2
  have hvars:Al P ρ fn (Ql aS (Ac P fn).length) (as'++Array.replicate (fn.ntmps - as'.size) undef):=bY ha (Ad hb) (by simpa[fw]using h5)
  refine hcode f fn c none none _ [] s res ρ w _ _ h2 hr ⟨hi,hfr,hvars,rfl,rfl⟩ ?_
  intro a' w' ρ' g
  have hlv:LeavesInM Fence.wide 0 P fn a'.tmps (CU P ρ s w (BN l) s2) a'.defers .returning w':=by
   refine Mk g.marks hu g.inv fun w2 k1 k2=>?_
   obtain⟨v',k3,k4⟩:=QK k1 g.vars.rel h7 hl
   exact⟨v',k3,ρ',k4,k1,g.fr.trans k2⟩
  cases hx:res.exit with
  | normal=>exact hlv
  | ret=>exact hlv
  | exit id=>rw[hx]at he;cases he
theorem Yr       (hng : DO      P) {E : Cg}  (hE : E.P = P) {F : Cv}  (hcode : Hs     P F) {l : Nat} {rb : RB} {aS : List AV} {v : AV} {as' : Array Value} (hc : Is    E F l aS s = some (v, s1)) (hi : Av  P ρ s w) (hfr : Ag     ρ s) (hl : ρ l = some rb) (ha : AK    ρ aS as'.toList) :
    Cw P ρ s w v s1 ((Instr.yield rb.b as').run P w):=by
  unfold Is at hc
  rw[hE]at hc
  simp only[ft]at hc
  obtain⟨al,h1,var,h2,ca,h3,cb,h4,hc⟩:=hc
  have hg:=EF h1
  obtain⟨L,h0,_,_,e1,e2,e3,_,hrel,hsz,hlen⟩:=(hi.obj _ _ _ hg hl:FY P ρ w al rb).ex
  unfold FC at h3 h4
  simp only[ft]at h3 h4
  obtain⟨fn,hf,h3⟩:=h3
  obtain⟨fn2,hf2,h4⟩:=h4
  rw[hf]at hf2
  injection hf2 with hf2
  subst hf2
  injection h3 with h3
  injection h4 with h4
  subst h3
  subst h4
  have hvi:Dg P al.fn=Ac P fn:=by unfold Dg;rw[hf]
  rw[hvi]at hrel hlen h2
  obtain⟨z1,z2,z3,z4⟩:=NG (tmps:=L.tmps) h2 hrel hlen ha
  have hps:as'.size=L.params.size:=by rw[e1];simpa using z4.symm
  rw[run_yield h0 hps]
  refine .round (roundIn_of_wpIn trivial ?_)
  have hfold:(L.params.zip as').foldl (fun tmps (x:Tmp×Value)=>match x with | (t,a)=>tmps.setIfInBounds t a) L.tmps=(al.params.toList.zip as'.toList).foldl (fun tmps (p:Tmp×Value)=>tmps.setIfInBounds p.1 p.2) L.tmps:=by
    rw[← Array.foldl_toList,Array.toList_zip,e1]
  have hfold':(L.params.zip as').foldl (fun tmps (x:Tmp×Value)=>tmps.setIfInBounds x.1 x.2) L.tmps=(al.params.toList.zip as'.toList).foldl (fun tmps (p:Tmp×Value)=>tmps.setIfInBounds p.1 p.2) L.tmps:=hfold
  have hvars:Al P ρ fn var ((al.params.toList.zip as'.toList).foldl (fun tmps (p:Tmp×Value)=>tmps.setIfInBounds p.1 p.2) L.tmps):=⟨z2,z1,by rw[z3];exact hsz fn hf⟩
  unfold GJ at hc
  simp only[ft]at hc
  obtain⟨q,hq1,hc⟩:=hc
  cases hn:Fl q.exit with
  | false=>rw[hn]at hc;cases hc
  | true =>
    rw[hn]at hc
    simp only[cond_true,ft]at hc
    obtain⟨r2,hr2,hc⟩:=hc
    cases hrd:JC r2.state with
    | false=>rw[hrd]at hc;cases hc
    | true =>
      rw[hrd]at hc
      simp only[cond_true]at hc
      unfold Hg at hc
      simp only[ft]at hc
      obtain⟨q2,hq2,r3,hr3,hc⟩:=hc
      injection hc with hc
      injection hc with hv hs
      subst hv
      subst hs
      have hqn:q.exit=.normal:=by cases he:q.exit<;>rw[he]at hn<;>first | rfl | cases hn
      have hst:r2.state=.ready:=by
        cases he:r2.state<;>rw[he]at hrd<;>first | rfl | cases hrd
      rw[e2,e3]
      refine hcode al.fn fn al.assign (some l) (some rb.b) var [] s q ρ w _ _ hf hq1 ⟨hi,hfr,by first | exact hvars | (simp only[];rw[hfold];exact hvars),rfl,⟨rb,hl,rfl⟩⟩ ?_
      intro a1 w1 ρ1 g1
      rw[hqn]
      have hl1:ρ1 l=some rb:=g1.fr.le _ _ hl
      have hg2:=EF hr2
      obtain⟨L1,k0,k1,_⟩:=(g1.inv.obj _ _ _ hg2 hl1:FY P ρ1 w1 r2 rb).ex
      obtain⟨i2,f2⟩:=KA g1.inv hg2 hl1 (st:=.busy) (pd:=r2.pending) k0
      refine⟨_,run_beginRound k0 (by rw[k1,hst]),?_⟩
      have hpd:L1.pending=r2.pending:=by
        obtain⟨L1',k0',_,k2',_⟩:=(g1.inv.obj _ _ _ hg2 hl1:FY P ρ1 w1 r2 rb).ex
        rw[k0]at k0';injection k0' with k0';injection k0' with k0';subst k0';exact k2'
      have hL1:({ L1 with state:=.busy }:Loop)={ L1 with state:=.busy,pending:=r2.pending }:=by rw[← hpd]
      rw[hL1]
      have hal:({ r2 with state:=.busy }:EN)={ r2 with state:=.busy,pending:=r2.pending }:=rfl
      refine hcode al.fn fn al.body (some l) (some rb.b) q.var q.marks _ q2 ρ1 _ a1 _ hf hq2 ⟨i2,g1.fresh.step f2,g1.vars,g1.marks,⟨rb,hl1,rfl⟩⟩ ?_
      intro a3 w3 ρ3 g3
      have hl3:ρ3 l=some rb:=g3.fr.le _ _ hl1
      have hg3:=EF hr3
      obtain⟨L3,m0,m1,_⟩:=(g3.inv.obj _ _ _ hg3 hl3:FY P ρ3 w3 r3 rb).ex
      have tot:=g1.fr.trans (f2.trans g3.fr)
      have fin:∀jump:Option Code,CZ q2.exit=jump→∃v w',(Instr.endRound rb.b jump).run P w3=.ok v w'∧CU P ρ s w (.bool (CZ q2.exit).isNone) (setObj q2.st l (.loop { r3 with state:=GN (CZ q2.exit),pending:=CZ q2.exit })) (.returned v) w':=by
        intro jump hj
        obtain⟨i4,f4⟩:=KA g3.inv hg3 hl3 (st:=GN jump) (pd:=jump) m0
        refine⟨_,_,run_endRound jump m0,ρ3,?_,?_,?_⟩
        · rw[hj];exact .bool _
        · rw[hj]
          have:(if jump.isNone=true then LoopState.ready else .done)=GN jump:=by cases jump<;>rfl
          rw[this]
          exact i4
        · rw[hj]
          have:(if jump.isNone=true then LoopState.ready else .done)=GN jump:=by cases jump<;>rfl
          rw[this]
          exact tot.trans f4
      cases he:q2.exit with
      | normal=>have:=fin none (by rw[he];rfl);rw[he]at this;exact this
      | ret=>have:=fin (some .ret) (by rw[he];rfl);rw[he]at this;exact this
      | exit id=>have:=fin (some (.exit id)) (by rw[he];rfl);rw[he]at this;exact this
theorem fT  (hm : P.follows .mixedOrders = true) (hng : DO      P) {E : Cg}  (hE : E.P = P) (hnat : BL     P E.nat) : ∀ n, NM    P (Ct   E n) n := by
  intro n
  induction n with
  | zero =>
    refine⟨?_,?_,?_,?_⟩
    · intro f fn c rnd r var marks s res ρ w a Q hf hc;cases hc
    · intro f fn c rnd r var marks s res ρ w a Q hf hc;cases hc
    · intro ρ s w f aS v s1 as' hc;cases hc
    · intro ρ s w l rb aS v s1 as' hc;cases hc
  | succ n ih =>
    refine⟨TA hm hng ih,TO ih,?_,?_⟩
    · intro ρ s w f aS v s1 as' hc hi hfr ha
      have hc:Gh E (Ct E n) f aS s=some (v,s1):=hc
      unfold Gh at hc
      split at hc
      · rename_i p hp
        injection hc with hc
        subst hc
        exact hnat ρ s w f aS _ _ as' hp hi hfr ha
      · rw[hE]at hc
        exact ZY ih.code hc hi hfr ha
    · intro ρ s w l rb aS v s1 as' hc hi hfr hl ha
      exact Yr hng hE ih.code hc hi hfr hl ha
end
section
variable{P:Program}{ρ ρ1 ρ2:A4}{s s1 s2:AE}{w w1 w2:World}
theorem Av.setG  (h : Av  P ρ s w) {i : Nat} {o o1 : AX}   {rb : RB} (hg : s.heap.get i = some o) (hr : ρ i = some rb) (hw : wr o = true) (hp : EG    o = none)
    (hp1:EG o1=none) (hgr:w.grownBy w1 (some rb.b)) (ho:Cx P ρ w1 o1 rb):Av P ρ (setObj s i o1) w1∧Fr ρ s w ρ (setObj s i o1) w1:=by
  have hsep:∀j oj rj,j≠i→s.heap.get j=some oj→ρ j=some rj→rj.b≠rb.b:=by
    intro j oj rj hne hj hrj e
    have:=(h.sep j i oj o rj rb hne hj hg hrj hr e hw).1
    rw[hp]at this
    cases this
  refine⟨⟨?_,?_,?_,?_⟩,?_⟩
  · intro j oj rj hj hrj
    rw[BE]at hj
    by_cases e:j=i
    · subst e
      rw[if_pos rfl]at hj
      injection hj with hj
      subst hj
      rw[hr]at hrj
      injection hrj with hrj
      subst hrj
      exact ho
    · rw[if_neg e]at hj
      exact(h.obj j oj rj hj hrj).mono (A4.le_refl ρ) (hgr.block _ (h.lt j rj hrj) (fun q=>hsep j oj rj e hj hrj (Option.some.inj q)))
  · intro j rj hrj
    exact fy (h.lt j rj hrj) hgr.size
  · intro j k oj ok rj rk hne hj hk hrj hrk hbb hwk
    rw[BE]at hj hk
    by_cases ej:j=i
    · subst ej
      have ek:k≠j:=fun e=>hne e.symm
      rw[if_neg ek]at hk
      rw[hr]at hrj
      injection hrj with hrj
      subst hrj
      exact absurd hbb.symm (hsep k ok rk ek hk hrk)
    · by_cases ek : k = i
      · subst ek
        rw[if_neg ej]at hj
        rw[hr]at hrk
        injection hrk with hrk
        subst hrk
        exact absurd hbb (hsep j oj rj ej hj hrj)
      · rw [if_neg ej] at hj
        rw[if_neg ek]at hk
        exact h.sep j k oj ok rj rk hne hj hk hrj hrk hbb hwk
  · intro j oj g hj hgo
    rw[BE]at hj
    by_cases e:j=i
    · subst e;exact⟨_,hr⟩
    · rw[if_neg e]at hj
      exact h.glb j oj g hj hgo
  · refine ⟨A4.le_refl  ρ, fun _ h _ => h, fu          _, hgr.size, hgr.os, hgr.tape, hgr.output, ?_, ?_, ?_, fun i rb => KG    i rb, fun j oj rj hj _ => ?_⟩
    · intro b hb hno
      exact hgr.block b hb (fun e=>hno ⟨i,o,rb,hg,hw,hr,(Option.some.inj e).symm⟩)
    · rintro b ⟨j, oj, rj, hj, hwj, hrj, rfl⟩
      rw[BE]at hj
      by_cases e:j=i
      · subst e
        rw[hr]at hrj
        injection hrj with hrj
        subst hrj
        exact .inl ⟨j,o,rb,hg,hw,hr,rfl⟩
      · rw[if_neg e]at hj
        exact .inl ⟨j,oj,rj,hj,hwj,hrj,rfl⟩
    · intro j hrj _
      rw[BE,if_neg]
      intro e
      subst e
      rw[hr]at hrj
      cases hrj
    · rw[BE]at hj
      by_cases e:j=i
      · subst e;exact⟨o,hg⟩
      · rw[if_neg e]at hj;exact⟨oj,hj⟩
theorem Av.grown(h:Av P ρ s w)(hgr:w.grownBy w1 none):Av P ρ s w1∧Fr ρ s w ρ s w1:=by
 refine⟨⟨fun i o rb hi hr=>(h.obj i o rb hi hr).mono (A4.le_refl ρ) (hgr.block _ (h.lt i rb hr) (fun e=>by cases e)),fun i rb hr=>fy (h.lt i rb hr) hgr.size,h.sep,h.glb⟩,
  ⟨A4.le_refl ρ,fun _ h _=>h,fu _,hgr.size,hgr.os,hgr.tape,hgr.output,fun b hb _=>hgr.block b hb (fun e=>by cases e),fun b hb=>.inl hb,fun _ _ _=>rfl,fun i rb=>KG i rb,fun _ o _ h _=>⟨o,h⟩⟩⟩
open Go.Maps in
theorem bE{k:Lit}{d:DataW Value}{E:List (Lit×DataW Value)}(hk:WideAt.IsKeyLit k):
  ∃E',(DataW.map E).put k d=.map E'∧∀q,q∈E'↔q=(k,d)∨q∈E∧q.1≠k:=by
 refine⟨_,rfl,fun q=>?_⟩
 rw[(Go.WideShapes.insert_perm _ _).mem_iff,hZ,List.mem_filter]
 have:=notKey_iff (H:=Value) (k:=k) (p:=q) hk
 unfold Go.ChangeMaps.notKey at this
 rw[this]
open Go.Maps in
theorem LR        : ∀ {Es Ed : List (Lit × DataW Value)}, (∀ p ∈ Es, WideAt.IsKeyLit p.1) → Es.Pairwise (fun p q => p.1 ≠ q.1) →
    ∃E',Es.foldl (fun D p=>DataW.put D p.1 p.2) (DataW.map Ed)=.map E'∧∀q,q∈E'↔q∈Es∨q∈Ed∧q.1 ∉ Es.map (·.1)
  | [],Ed,_,_=>⟨Ed,rfl,fun q=>by simp⟩
  | p::Es,Ed,hk,hd=>by
    obtain⟨E1,h1,h2⟩:=bE (k:=p.1) (d:=p.2) (E:=Ed) (hk p gC)
    rw[List.pairwise_cons]at hd
    obtain⟨E2,h3,h4⟩:=LR (Ed:=E1) (fun q hq=>hk q (gG _ hq)) hd.2
    refine⟨E2,by rw[List.foldl_cons,h1];exact h3,fun q=>?_⟩
    rw[h4,h2]
    simp only[hZ,gN,not_or]
    constructor
    · rintro (h' | ⟨h' | ⟨h', h''⟩, h5⟩)
      · exact .inl (.inr h')
      · exact .inl (.inl h')
      · exact .inr ⟨h',h'',h5⟩
    · rintro ((h' | h') | ⟨h', h'', h5⟩)
      · refine .inr ⟨.inl h', ?_⟩
        rw[h']
        intro hc
        obtain⟨x,hx,e⟩:=List.mem_map.1 hc
        exact hd.1 x hx e.symm
      · exact .inl h'
      · exact .inr ⟨.inr ⟨h',h''⟩,h5⟩
def bk(P:Program)(f:FuncId)(kt:TypeId):Prop:=
 (∀ (bd bs nd ns:Nat) (Dd Ds:DataW Value) (w:World),w.ownsMap P kt Rv bd nd Dd→w.ownsMap P kt Rv bs ns Ds→bd≠bs→nd+Maps.size Ds≤maxLen →
  Calls P f #[.map (some bd),.map (some bs)] w fun e w'=>e=.returned (.tuple #[])∧w'.ownsMap P kt Rv bd (nd+Maps.size Ds) (Lib.mergeD Dd Ds)∧w'.ownsMap P kt Rv bs ns Ds∧w.grownBy w' (some bd)) ∧
 ∀ (pd:Option Nat) (w:World),Calls P f #[.map pd,.map none] w fun e w'=>e=.returned (.tuple #[])∧w'=w.alloc (.mapIter none 0 #[] 0)
def Pm(kt:TypeId)(s:AE):List AV→Option (AV×AE)
 | [.map _,.map none]=>some (.tuple [],s)
 | [.map (some i),.map (some j)]=>AH (!Nat.beq i j) <| (KC s kt i).bind fun es=>(KC s kt j).bind fun fs =>
  AH (Nat.ble (es.length+fs.length) 1000000) ((Mx fs es).bind fun es'=>some (.tuple [],setObj s i (.map kt es')))
 | _=>none
theorem TB        {f : FuncId} {kt : TypeId} (hko : EZ     P kt = true) (hc : bk    P f kt) (h : Av  P ρ s w) {aS : List AV} {as' : Array Value} {v : AV} (hs : Pm     kt s aS = some (v, s1)) (has : AK    ρ aS as'.toList) :
    CallsIn Fence.wide 0 P f as' w (CU P ρ s w v s1):=by
  have K:=HU hko
  refine callsIn_wide.2 ?_
  unfold Pm at hs
  split at hs<;>first | (cases hs;done) | skip
  · injection hs with hs
    injection hs with e1 e2
    subst e1;subst e2
    obtain⟨l⟩:=as'
    cases has with
    | cons h1 h2 =>
    cases h2 with
    | cons h2 h3 =>
    cases h3
    cases h2
    cases h1<;>(
      refine(hc.2 _ w).mono ?_
      rintro e w' ⟨rfl,rfl⟩
      obtain⟨g1,g2⟩:=h.grown (w1:=w.alloc (.mapIter none 0 #[] 0)) ⟨rfl,rfl,rfl,by simp,fun b hb _=>EY hb⟩
      exact⟨ρ,.tuple .nil,g1,g2⟩)
  · rename_i i j
    obtain⟨hij,hs⟩:=AA hs
    simp only[ft]at hs
    obtain⟨es,hes,fs,hfs,hs⟩:=hs
    obtain⟨hlen,hs⟩:=AA hs
    simp only[ft]at hs
    obtain⟨es1,hput,hs⟩:=hs
    injection hs with hs
    injection hs with e1 e2
    subst e1;subst e2
    have hlen:es.length+fs.length≤1000000:=by simpa[fw]using hlen
    have hne:i≠j:=fun e=>by subst e;simp at hij
    obtain⟨l⟩:=as'
    cases has with
    | cons h1 h2 =>
    cases h2 with
    | cons h2 h3 =>
    cases h3
    cases h1 with
    | map hri =>
    cases h2 with
    | map hrj =>
    rename_i ri rj
    have hgi:=Em hes
    have hgj:=Em hfs
    obtain⟨ed,cd,d1,d2,⟨ld,d3,d4⟩,d5⟩:=(show GU P ρ w kt es ri from h.obj i _ ri hgi hri).ex
    obtain⟨ec,cc,c1,c2,⟨lc,c3,c4⟩,c5⟩:=(show GU P ρ w kt fs rj from h.obj j _ rj hgj hrj).ex
    have hbne:ri.b≠rj.b:=fun e=>by
      have:=(h.sep i j _ _ ri rj hne hgi hgj hri hrj e rfl).1
      cases this
    have sd:ed.size=es.length:=by have:=d4.length;have:=d3.length_eq;simp at this;omega
    have sc:ec.size=fs.length:=by have:=c4.length;have:=c3.length_eq;simp at this;omega
    have hmax:(1000000:Nat)≤maxLen:=by unfold maxLen;omega
    have od:=Mw d1 d2 d5 (by omega)
    have oc:=Mw c1 c2 c5 (by omega)
    have hsz:Maps.size (DataW.map ((ec.toList.map (WideElems.rg P kt Rv)).foldr DataW.insert []))=ec.size:=by
      show((ec.toList.map (WideElems.rg P kt Rv)).foldr DataW.insert []).length=_
      rw[(Go.WideShapes.sorted_perm _).length_eq]
      simp
    refine(hc.1 _ _ _ _ _ _ w od oc hbne (by rw[hsz];omega)).mono ?_
    rintro e w' ⟨rfl,o1,_,hgr⟩
    refine⟨ρ,.tuple .nil,?_⟩
    obtain⟨e2,k2,q1,q2,_,q4⟩:=o1
    have hty2:NN P kt e2:=fun x hx=>let ⟨y,hy⟩:=q2.reads x hx;⟨y.1,WideElems.rd_key hy⟩
    have hcanon:=oc.canonK K
    obtain⟨E,hE,hsorted,hkeys⟩:=hcanon
    have hE:(ec.toList.map (WideElems.rg P kt Rv)).foldr DataW.insert []=E:=by injection hE
    have hkl:∀p∈E,WideAt.IsKeyLit p.1:=fun p hp=>let ⟨v,hv⟩:=hkeys p hp;K.key hv
    obtain⟨E',m1,m2⟩:=LR (Es:=E) (Ed:=(ed.toList.map (WideElems.rg P kt Rv)).foldr DataW.insert []) hkl (Go.Maps.apart_of_rising hsorted)
    have hE2:(e2.toList.map (WideElems.rg P kt Rv)).foldr DataW.insert []=E':=by
      have:Lib.mergeD (DataW.map ((ed.toList.map (WideElems.rg P kt Rv)).foldr DataW.insert [])) (DataW.map ((ec.toList.map (WideElems.rg P kt Rv)).foldr DataW.insert []))=.map E':=by
        rw[hE];exact m1
      rw[this]at q4
      injection q4 with q4
      exact q4.symm
    have memE:∀q,q∈E↔∃e∈ec.toList,∃l,keyOf P kt e.key=some l∧q=(l,.held e.val):=fun q=>by rw[← hE];exact ID c5 q
    have mem2:∀p:KV,p∈e2.toList.map kv↔p∈ec.toList.map kv∨p∈ed.toList.map kv∧p.1 ∉ (ec.toList.map kv).map (·.1):=by
      have look:∀ {A:Array MapEntry} (hA:NN P kt A) {k v:Value} {lk:Lit},keyOf P kt k=some lk→((∃e∈A.toList,∃l,keyOf P kt e.key=some l∧(lk,DataW.held v)=(l,DataW.held e.val))↔(k,v)∈A.toList.map kv):=by
        intro A hA k v lk hk
        constructor
        · rintro⟨e,he,l,hl,hq⟩
          injection hq with q1 q2
          injection q2 with q2
          subst q1;subst q2
          exact List.mem_map.2 ⟨e,he,by rw[K.inj hk hl];rfl⟩
        · intro hm
          obtain⟨e,he,hq⟩:=List.mem_map.1 hm
          injection hq with q1 q2
          subst q1;subst q2
          exact⟨e,he,lk,hk,rfl⟩
      have main:∀ (k v:Value) (lk:Lit),keyOf P kt k=some lk→((k,v)∈e2.toList.map kv↔(k,v)∈ec.toList.map kv∨(k,v)∈ed.toList.map kv∧k ∉ (ec.toList.map kv).map (·.1)):=by
        intro k v lk hk
        rw[← look hty2 hk,← ID hty2,hE2,m2,memE,ID d5,look c5 hk,look d5 hk]
        refine or_congr Iff.rfl (and_congr Iff.rfl (not_congr ?_))
        constructor
        · intro hm
          obtain⟨q,hq,hqe⟩:=List.mem_map.1 hm
          obtain⟨e,he,l,hl,rfl⟩:=(memE q).1 hq
          simp only at hqe
          subst hqe
          refine List.mem_map.2 ⟨kv e,List.mem_map_of_mem he,?_⟩
          exact(K.inj hk hl).symm
        · intro hm
          obtain⟨q,hq,hqe⟩:=List.mem_map.1 hm
          obtain⟨e,he,rfl⟩:=List.mem_map.1 hq
          refine List.mem_map.2 ⟨(lk,.held e.val),(memE _).2 ⟨e,he,lk,?_,rfl⟩,rfl⟩
          have:e.key=k:=hqe
          rw[this];exact hk
      intro p
      constructor
      · intro hm
        obtain⟨e,he,hp⟩:=List.mem_map.1 hm
        obtain⟨l,hl⟩:=hty2 e he
        subst hp
        exact(main _ _ l hl).1 hm
      · intro hm
        have:∃l,keyOf P kt p.1=some l:=by
          rcases hm with hm | ⟨hm,_⟩
          · obtain ⟨e, he, hp⟩ := List.mem_map.1 hm
            obtain⟨l,hl⟩:=c5 e he
            subst hp;exact⟨l,hl⟩
          · obtain ⟨e, he, hp⟩ := List.mem_map.1 hm
            obtain⟨l,hl⟩:=d5 e he
            subst hp;exact⟨l,hl⟩
        obtain⟨l,hl⟩:=this
        exact(main p.1 p.2 l hl).2 hm
    have nd:∀ {A:Array MapEntry} {c:Nat},MapKept.Stamped A c→((A.toList.map kv).map (·.1)).Nodup:=fun hst=>by
      rw[List.map_map];exact hst.2.2
    have ndd:((ld.map kv).map (·.1)).Nodup:=((d3.map kv).map (·.1)).nodup_iff.2 (nd d2)
    have ndc:((lc.map kv).map (·.1)).Nodup:=((c3.map kv).map (·.1)).nodup_iff.2 (nd c2)
    obtain⟨u1,u2⟩:=LT ndd ndc
    have hperm:(LS (ld.map kv) (lc.map kv)).Perm (e2.toList.map kv):=by
      refine Ik (Gc u1) (Gc (nd q2.stamped)) fun p=>?_
      rw[u2,mem2,(c3.map kv).mem_iff,(d3.map kv).mem_iff,((c3.map kv).map (·.1)).mem_iff]
    obtain⟨l2,p1,p2⟩:=La kv hperm
    have her:CI ρ es1 l2:=CI.of_p (by rw[p2];exact OL hput d4.p c4.p)
    exact h.setG hgi hri rfl rfl rfl hgr ⟨e2,k2,q1,q2.stamped,⟨l2,p1,her⟩,hty2⟩
end
end
end Go.Proofs.YtfgmceookgelcaaGreatDoor.Am
set_option linter.unusedVariables false
set_option linter.unusedSimpArgs false
namespace Go.Proofs.YtfgmceookgelcaaGreatDoor.Am
open Go Go.Proofs Go.Shelf
noncomputable section
def Nu:Go.Shelf.Ren:=⟨fun | 161=>265 | 231=>244 | 227=>246 | 233=>247 | 235=>249 | 228=>274 | 197=>275 | 151=>276 | 260=>288 | 152=>289 | 137=>294 | 119=>295 | 224=>296 | 225=>297 | 217=>300 | 266=>301 | n=>n,fun | 9=>9 | 4=>4 | 3=>3 | 5=>5 | 117=>286 | 116=>285 | 0=>0 | 124=>289 | 105=>309 | 21=>21 | 119=>324 | 46=>161 | 139=>327 | 138=>326 | n=>n,fun | 3=>4 | 4=>5 | n=>n⟩
theorem ah:Go.Proofs.Lays.n161 Tryz.prog Nu:={
 mixed:=by kernel_rfl
 f119:=Tryz.func295.trans (congrArg some (by kernel_rfl))
 f137:=Tryz.func294.trans (congrArg some (by kernel_rfl))
 f151:=Tryz.func276.trans (congrArg some (by kernel_rfl))
 f152:=Tryz.func289.trans (congrArg some (by kernel_rfl))
 f161:=Tryz.func265.trans (congrArg some (by kernel_rfl))
 f197:=Tryz.func275.trans (congrArg some (by kernel_rfl))
 f217:=Tryz.func300.trans (congrArg some (by kernel_rfl))
 f224:=Tryz.func296.trans (congrArg some (by kernel_rfl))
 f225:=Tryz.func297.trans (congrArg some (by kernel_rfl))
 f227:=Tryz.func246.trans (congrArg some (by kernel_rfl))
 f228:=Tryz.func274.trans (congrArg some (by kernel_rfl))
 f231:=Tryz.func244.trans (congrArg some (by kernel_rfl))
 f233:=Tryz.func247.trans (congrArg some (by kernel_rfl))
 f235:=Tryz.func249.trans (congrArg some (by kernel_rfl))
 f260:=Tryz.func288.trans (congrArg some (by kernel_rfl))
 f266:=Tryz.func301.trans (congrArg some (by kernel_rfl))
 t0:=Tryz.underlying0
 a0:=Tryz.isAgg0
 z0:=Tryz.sizeOf0
 v0:=Tryz.zeroValue0
 t3:=Tryz.underlying3
 a3:=Tryz.isAgg3
 z3:=Tryz.sizeOf3
 v3:=Tryz.zeroValue3
 t4:=Tryz.underlying4
 a4:=Tryz.isAgg4
 z4:=Tryz.sizeOf4
 v4:=Tryz.zeroValue4
 t5:=Tryz.underlying5
 a5:=Tryz.isAgg5
 z5:=Tryz.sizeOf5
 v5:=Tryz.zeroValue5
 t9:=Tryz.underlying9
 a9:=Tryz.isAgg9
 z9:=Tryz.sizeOf9
 v9:=Tryz.zeroValue9
 t21:=Tryz.underlying21
 a21:=Tryz.isAgg21
 z21:=Tryz.sizeOf21
 v21:=Tryz.zeroValue21
 t46:=Tryz.underlying161
 a46:=Tryz.isAgg161
 z46:=Tryz.sizeOf161
 v46:=Tryz.zeroValue161
 t105:=Tryz.underlying309
 a105:=Tryz.isAgg309
 z105:=Tryz.sizeOf309
 v105:=Tryz.zeroValue309
 t116:=Tryz.underlying285
 a116:=Tryz.isAgg285
 z116:=Tryz.sizeOf285
 t117:=Tryz.underlying286
 a117:=Tryz.isAgg286
 z117:=Tryz.sizeOf286
 v117:=Tryz.zeroValue286
 t119:=Tryz.underlying324
 a119:=Tryz.isAgg324
 z119:=Tryz.sizeOf324
 t124:=Tryz.underlying289
 a124:=Tryz.isAgg289
 z124:=Tryz.sizeOf289
 v124:=Tryz.zeroValue289
 t138:=Tryz.underlying326
 a138:=Tryz.isAgg326
 z138:=Tryz.sizeOf326
 v138:=Tryz.zeroValue326
 t139:=Tryz.underlying327
 a139:=Tryz.isAgg327
 z139:=Tryz.sizeOf327
 v139:=Tryz.zeroValue327
 g3:=by kernel_rfl
 g4:=by kernel_rfl }
def Mi:Go.Shelf.Ren:=⟨fun | 171=>86 | 243=>122 | 246=>162 | 283=>204 | 284=>205 | 285=>206 | 286=>207 | 129=>157 | 317=>238 | 318=>239 | 319=>240 | 320=>241 | 337=>272 | 338=>273 | n=>n,fun | 3=>3 | 9=>9 | 2=>2 | 4=>4 | 171=>249 | 0=>0 | 53=>205 | 37=>134 | 5=>5 | 173=>251 | 212=>281 | 51=>203 | 20=>20 | 213=>282 | 46=>161 | 232=>316 | 233=>317 | n=>n,fun | 17=>1 | 18=>2 | 19=>3 | n=>n⟩
theorem X4:Go.Proofs.Lays.n171 Tryz.prog Mi:={
 mixed:=by kernel_rfl
 f129:=Tryz.func157.trans (congrArg some (by kernel_rfl))
 f171:=Tryz.func86.trans (congrArg some (by kernel_rfl))
 f243:=Tryz.func122.trans (congrArg some (by kernel_rfl))
 f246:=Tryz.func162.trans (congrArg some (by kernel_rfl))
 f283:=Tryz.func204.trans (congrArg some (by kernel_rfl))
 f284:=Tryz.func205.trans (congrArg some (by kernel_rfl))
 f285:=Tryz.func206.trans (congrArg some (by kernel_rfl))
 f286:=Tryz.func207.trans (congrArg some (by kernel_rfl))
 f317:=Tryz.func238.trans (congrArg some (by kernel_rfl))
 f318:=Tryz.func239.trans (congrArg some (by kernel_rfl))
 f319:=Tryz.func240.trans (congrArg some (by kernel_rfl))
 f320:=Tryz.func241.trans (congrArg some (by kernel_rfl))
 f337:=Tryz.func272.trans (congrArg some (by kernel_rfl))
 f338:=Tryz.func273.trans (congrArg some (by kernel_rfl))
 t0:=Tryz.underlying0
 a0:=Tryz.isAgg0
 z0:=Tryz.sizeOf0
 v0:=Tryz.zeroValue0
 t2:=Tryz.underlying2
 a2:=Tryz.isAgg2
 z2:=Tryz.sizeOf2
 v2:=Tryz.zeroValue2
 t3:=Tryz.underlying3
 a3:=Tryz.isAgg3
 z3:=Tryz.sizeOf3
 v3:=Tryz.zeroValue3
 t4:=Tryz.underlying4
 a4:=Tryz.isAgg4
 z4:=Tryz.sizeOf4
 v4:=Tryz.zeroValue4
 t5:=Tryz.underlying5
 a5:=Tryz.isAgg5
 z5:=Tryz.sizeOf5
 v5:=Tryz.zeroValue5
 t9:=Tryz.underlying9
 a9:=Tryz.isAgg9
 z9:=Tryz.sizeOf9
 v9:=Tryz.zeroValue9
 t20:=Tryz.underlying20
 a20:=Tryz.isAgg20
 z20:=Tryz.sizeOf20
 v20:=Tryz.zeroValue20
 t37:=Tryz.underlying134
 a37:=Tryz.isAgg134
 z37:=Tryz.sizeOf134
 v37:=Tryz.zeroValue134
 t46:=Tryz.underlying161
 a46:=Tryz.isAgg161
 z46:=Tryz.sizeOf161
 v46:=Tryz.zeroValue161
 t51:=Tryz.underlying203
 a51:=Tryz.isAgg203
 z51:=Tryz.sizeOf203
 v51:=Tryz.zeroValue203
 t53:=Tryz.underlying205
 a53:=Tryz.isAgg205
 z53:=Tryz.sizeOf205
 v53:=Tryz.zeroValue205
 t171:=Tryz.underlying249
 a171:=Tryz.isAgg249
 z171:=Tryz.sizeOf249
 v171:=Tryz.zeroValue249
 t173:=Tryz.underlying251
 a173:=Tryz.isAgg251
 z173:=Tryz.sizeOf251
 v173:=Tryz.zeroValue251
 t212:=Tryz.underlying281
 a212:=Tryz.isAgg281
 z212:=Tryz.sizeOf281
 v212:=Tryz.zeroValue281
 t213:=Tryz.underlying282
 a213:=Tryz.isAgg282
 z213:=Tryz.sizeOf282
 t232:=Tryz.underlying316
 a232:=Tryz.isAgg316
 z232:=Tryz.sizeOf316
 v232:=Tryz.zeroValue316
 t233:=Tryz.underlying317
 a233:=Tryz.isAgg317
 z233:=Tryz.sizeOf317
 v233:=Tryz.zeroValue317
 g17:=by kernel_rfl
 g18:=by kernel_rfl
 g19:=by kernel_rfl }
end
end Go.Proofs.YtfgmceookgelcaaGreatDoor.Am
namespace Go.Proofs.YtfgmceookgelcaaGreatDoor.Am
open Go Go.Proofs Go.Shelf
noncomputable section
def FG:Go.Shelf.Ren:=⟨fun | 7=>220 | 10=>251 | n=>n,fun | 23=>185 | 26=>3 | 3=>63 | 28=>117 | 0=>0 | 27=>116 | 33=>121 | 4=>4 | n=>n,fun | n=>n⟩
theorem Nw:Go.Proofs.SlLaysZI.n7 Tryz.prog FG:={
 mixed:=by kernel_rfl
 f7:=⟨Tryz.f220.name,by decide,Tryz.func220.trans (congrArg some (by kernel_rfl))⟩
 f10:=⟨Tryz.f251.name,by decide,Tryz.func251.trans (congrArg some (by kernel_rfl))⟩
 t0:=Tryz.underlying0
 a0:=Tryz.isAgg0
 z0:=Tryz.sizeOf0
 v0:=Tryz.zeroValue0
 t4:=Tryz.underlying4
 a4:=Tryz.isAgg4
 z4:=Tryz.sizeOf4
 v4:=Tryz.zeroValue4
 t23:=Tryz.underlying185
 a23:=Tryz.isAgg185
 z23:=Tryz.sizeOf185
 v23:=Tryz.zeroValue185
 t26:=Tryz.underlying3
 a26:=Tryz.isAgg3
 z26:=Tryz.sizeOf3
 v26:=Tryz.zeroValue3
 t27:=Tryz.underlying116
 a27:=Tryz.isAgg116
 z27:=Tryz.sizeOf116
 v27:=Tryz.zeroValue116
 t28:=Tryz.underlying117
 a28:=Tryz.isAgg117
 z28:=Tryz.sizeOf117
 v28:=Tryz.zeroValue117
 t33:=Tryz.underlying121
 a33:=Tryz.isAgg121
 z33:=Tryz.sizeOf121
 v33:=Tryz.zeroValue121 }
def FH:Go.Shelf.Ren:=⟨fun | 7=>75 | 10=>111 | n=>n,fun | 23=>115 | 26=>3 | 3=>119 | 28=>117 | 0=>0 | 27=>116 | 33=>121 | 4=>4 | n=>n,fun | n=>n⟩
theorem Nx:Go.Proofs.SlLaysZI.n7 Tryz.prog FH:={
 mixed:=by kernel_rfl
 f7:=⟨Tryz.f75.name,by decide,Tryz.func75.trans (congrArg some (by kernel_rfl))⟩
 f10:=⟨Tryz.f111.name,by decide,Tryz.func111.trans (congrArg some (by kernel_rfl))⟩
 t0:=Tryz.underlying0
 a0:=Tryz.isAgg0
 z0:=Tryz.sizeOf0
 v0:=Tryz.zeroValue0
 t4:=Tryz.underlying4
 a4:=Tryz.isAgg4
 z4:=Tryz.sizeOf4
 v4:=Tryz.zeroValue4
 t23:=Tryz.underlying115
 a23:=Tryz.isAgg115
 z23:=Tryz.sizeOf115
 v23:=Tryz.zeroValue115
 t26:=Tryz.underlying3
 a26:=Tryz.isAgg3
 z26:=Tryz.sizeOf3
 v26:=Tryz.zeroValue3
 t27:=Tryz.underlying116
 a27:=Tryz.isAgg116
 z27:=Tryz.sizeOf116
 v27:=Tryz.zeroValue116
 t28:=Tryz.underlying117
 a28:=Tryz.isAgg117
 z28:=Tryz.sizeOf117
 v28:=Tryz.zeroValue117
 t33:=Tryz.underlying121
 a33:=Tryz.isAgg121
 z33:=Tryz.sizeOf121
 v33:=Tryz.zeroValue121 }
def Fq:Go.Shelf.Ren:=⟨fun | 6=>74 | 8=>109 | 9=>110 | 11=>145 | 13=>113 | 12=>146 | 23=>156 | 24=>157 | 14=>187 | 15=>188 | 16=>189 | 17=>190 | 18=>191 | 19=>192 | 20=>193 | 21=>194 | 22=>195 | 25=>234 | 26=>197 | 27=>198 | 28=>235 | 29=>236 | 30=>105 | 31=>271 | n=>n,fun | 26=>3 | 28=>117 | 24=>58 | 0=>0 | 3=>3 | 37=>161 | 48=>203 | 50=>205 | 4=>4 | 40=>196 | 39=>195 | 45=>108 | 5=>5 | 9=>9 | 51=>241 | 55=>245 | 57=>278 | 58=>279 | 33=>121 | n=>n,fun | n=>n⟩
theorem FI:Go.Proofs.SlLaysZI.n6 Tryz.prog Fq:={
 mixed:=by kernel_rfl
 f6:=⟨Tryz.f74.name,by decide,Tryz.func74.trans (congrArg some (by kernel_rfl))⟩
 f8:=⟨Tryz.f109.name,by decide,Tryz.func109.trans (congrArg some (by kernel_rfl))⟩
 f11:=⟨Tryz.f145.name,by decide,Tryz.func145.trans (congrArg some (by kernel_rfl))⟩
 t0:=Tryz.underlying0
 a0:=Tryz.isAgg0
 z0:=Tryz.sizeOf0
 v0:=Tryz.zeroValue0
 t24:=Tryz.underlying58
 a24:=Tryz.isAgg58
 z24:=Tryz.sizeOf58
 v24:=Tryz.zeroValue58
 t26:=Tryz.underlying3
 a26:=Tryz.isAgg3
 z26:=Tryz.sizeOf3
 v26:=Tryz.zeroValue3
 t28:=Tryz.underlying117
 a28:=Tryz.isAgg117
 z28:=Tryz.sizeOf117
 v28:=Tryz.zeroValue117
 i26:=by kernel_rfl }
def Mj:Go.Shelf.Ren:=⟨fun | 5=>110 | 8=>113 | 7=>146 | 19=>156 | 20=>157 | 10=>187 | 11=>188 | 12=>189 | 13=>190 | 14=>191 | 15=>192 | 16=>193 | 17=>194 | 18=>195 | 30=>234 | 31=>197 | 32=>198 | 33=>235 | 34=>236 | 35=>105 | 40=>271 | n=>n,fun | 23=>58 | 25=>3 | 3=>3 | 32=>161 | 22=>58 | 0=>0 | 44=>203 | 46=>205 | 4=>4 | 36=>196 | 35=>195 | 41=>108 | 5=>5 | 9=>9 | 53=>241 | 57=>245 | 63=>278 | 64=>279 | n=>n,fun | n=>n⟩
theorem Ny:Go.Proofs.SlLaysM.n5 Tryz.prog Mj:={
 mixed:=by kernel_rfl
 f5:=⟨Tryz.f110.name,by decide,Tryz.func110.trans (congrArg some (by kernel_rfl))⟩
 f7:=⟨Tryz.f146.name,by decide,Tryz.func146.trans (congrArg some (by kernel_rfl))⟩
 f8:=Tryz.func113.trans (congrArg some (by kernel_rfl))
 f10:=⟨Tryz.f187.name,by decide,Tryz.func187.trans (congrArg some (by kernel_rfl))⟩
 f11:=⟨Tryz.f188.name,by decide,Tryz.func188.trans (congrArg some (by kernel_rfl))⟩
 f12:=⟨Tryz.f189.name,by decide,Tryz.func189.trans (congrArg some (by kernel_rfl))⟩
 f13:=⟨Tryz.f190.name,by decide,Tryz.func190.trans (congrArg some (by kernel_rfl))⟩
 f14:=⟨Tryz.f191.name,by decide,Tryz.func191.trans (congrArg some (by kernel_rfl))⟩
 f15:=⟨Tryz.f192.name,by decide,Tryz.func192.trans (congrArg some (by kernel_rfl))⟩
 f16:=⟨Tryz.f193.name,by decide,Tryz.func193.trans (congrArg some (by kernel_rfl))⟩
 f17:=⟨Tryz.f194.name,by decide,Tryz.func194.trans (congrArg some (by kernel_rfl))⟩
 f18:=⟨Tryz.f195.name,by decide,Tryz.func195.trans (congrArg some (by kernel_rfl))⟩
 f19:=Tryz.func156.trans (congrArg some (by kernel_rfl))
 f20:=Tryz.func157.trans (congrArg some (by kernel_rfl))
 f30:=⟨Tryz.f234.name,by decide,Tryz.func234.trans (congrArg some (by kernel_rfl))⟩
 f31:=Tryz.func197.trans (congrArg some (by kernel_rfl))
 f32:=Tryz.func198.trans (congrArg some (by kernel_rfl))
 f33:=⟨Tryz.f235.name,by decide,Tryz.func235.trans (congrArg some (by kernel_rfl))⟩
 f34:=⟨Tryz.f236.name,by decide,Tryz.func236.trans (congrArg some (by kernel_rfl))⟩
 f35:=⟨Tryz.f105.name,by decide,Tryz.func105.trans (congrArg some (by kernel_rfl))⟩
 f40:=⟨Tryz.f271.name,by decide,Tryz.func271.trans (congrArg some (by kernel_rfl))⟩
 t0:=Tryz.underlying0
 a0:=Tryz.isAgg0
 z0:=Tryz.sizeOf0
 v0:=Tryz.zeroValue0
 t3:=Tryz.underlying3
 a3:=Tryz.isAgg3
 z3:=Tryz.sizeOf3
 v3:=Tryz.zeroValue3
 t4:=Tryz.underlying4
 a4:=Tryz.isAgg4
 z4:=Tryz.sizeOf4
 v4:=Tryz.zeroValue4
 t5:=Tryz.underlying5
 a5:=Tryz.isAgg5
 z5:=Tryz.sizeOf5
 v5:=Tryz.zeroValue5
 t9:=Tryz.underlying9
 a9:=Tryz.isAgg9
 z9:=Tryz.sizeOf9
 v9:=Tryz.zeroValue9
 t22:=Tryz.underlying58
 a22:=Tryz.isAgg58
 z22:=Tryz.sizeOf58
 v22:=Tryz.zeroValue58
 t23:=Tryz.underlying58
 a23:=Tryz.isAgg58
 z23:=Tryz.sizeOf58
 v23:=Tryz.zeroValue58
 t25:=Tryz.underlying3
 a25:=Tryz.isAgg3
 z25:=Tryz.sizeOf3
 v25:=Tryz.zeroValue3
 t32:=Tryz.underlying161
 a32:=Tryz.isAgg161
 z32:=Tryz.sizeOf161
 v32:=Tryz.zeroValue161
 t35:=Tryz.underlying195
 a35:=Tryz.isAgg195
 z35:=Tryz.sizeOf195
 v35:=Tryz.zeroValue195
 t36:=Tryz.underlying196
 a36:=Tryz.isAgg196
 z36:=Tryz.sizeOf196
 v36:=Tryz.zeroValue196
 t41:=Tryz.underlying108
 a41:=Tryz.isAgg108
 z41:=Tryz.sizeOf108
 v41:=Tryz.zeroValue108
 t44:=Tryz.underlying203
 a44:=Tryz.isAgg203
 z44:=Tryz.sizeOf203
 v44:=Tryz.zeroValue203
 t46:=Tryz.underlying205
 a46:=Tryz.isAgg205
 z46:=Tryz.sizeOf205
 v46:=Tryz.zeroValue205
 t53:=Tryz.underlying241
 a53:=Tryz.isAgg241
 z53:=Tryz.sizeOf241
 v53:=Tryz.zeroValue241
 t57:=Tryz.underlying245
 a57:=Tryz.isAgg245
 z57:=Tryz.sizeOf245
 v57:=Tryz.zeroValue245
 t63:=Tryz.underlying278
 a63:=Tryz.isAgg278
 z63:=Tryz.sizeOf278
 v63:=Tryz.zeroValue278
 t64:=Tryz.underlying279
 a64:=Tryz.isAgg279
 z64:=Tryz.sizeOf279
 v64:=Tryz.zeroValue279 }
def FF:Go.Shelf.Ren:=⟨fun | 5=>83 | n=>n,fun | 23=>110 | 24=>110 | 26=>3 | 27=>3 | 0=>0 | 4=>4 | n=>n,fun | n=>n⟩
theorem Nv:Go.Proofs.SlLaysX.n5 Tryz.prog FF:={
 mixed:=by kernel_rfl
 f5:=⟨Tryz.f83.name,by decide,Tryz.func83.trans (congrArg some (by kernel_rfl))⟩
 t0:=Tryz.underlying0
 a0:=Tryz.isAgg0
 z0:=Tryz.sizeOf0
 v0:=Tryz.zeroValue0
 t4:=Tryz.underlying4
 a4:=Tryz.isAgg4
 z4:=Tryz.sizeOf4
 v4:=Tryz.zeroValue4
 t23:=Tryz.underlying110
 a23:=Tryz.isAgg110
 z23:=Tryz.sizeOf110
 v23:=Tryz.zeroValue110
 t24:=Tryz.underlying110
 a24:=Tryz.isAgg110
 z24:=Tryz.sizeOf110
 v24:=Tryz.zeroValue110
 a26:=Tryz.isAgg3
 z26:=Tryz.sizeOf3
 a27:=Tryz.isAgg3
 z27:=Tryz.sizeOf3 }
end
end Go.Proofs.YtfgmceookgelcaaGreatDoor.Am
set_option linter.unusedVariables false
set_option linter.unusedSimpArgs false
namespace Go.Proofs.YtfgmceookgelcaaGreatDoor.Am
open Go
noncomputable section
def cG:Do:=fun _ _ _=>none
theorem YR(P:Program):BL P cG:=fun _ _ _ _ _ _ _ _ hc=>by cases hc
def fB(P:Program):Cg:=⟨P,cG⟩
def KH (P : Program) : Bool := P.funcs.all fun fn => !(fn.name == "runtime.NumGoroutine")
theorem B4{P:Program}(h:KH P=true):DO P:=by
 intro f fn hf
 unfold KH at h
 rw[Array.all_eq_true_iff_forall_mem]at h
 have:=h fn (Array.mem_of_getElem? hf)
 simpa using this
def bL:A4:=fun _=>none
def dW:AE:=⟨0,.leaf⟩
theorem fY(P:Program)(w:World):Av P bL dW w:=⟨fun i o rb _ hr=>(by cases hr),fun i rb hr=>(by cases hr),fun i j oi oj ri rj _ _ _ hr=>(by cases hr),fun i o g hi=>(by cases hi)⟩
theorem dB:Ag bL dW:=fun i _=>⟨rfl,rfl⟩
structure Lw(W W':World):Prop where
 heap:∀b,b<W.heap.size→W'.heap[b]? = W.heap[b]?
 os:W'.os=W.os
 output:W'.output=W.output
 size:W.heap.size≤W'.heap.size
theorem af{ρ ρ':A4}{s s':AE}{w w':World}(h:Fr ρ s w ρ' s' w')(hn:∀b,¬ Dh ρ s b):Lw w w':=
 ⟨fun b hb=>h.keep b hb (hn b),h.os,h.output,h.size⟩
theorem TU(b:Nat):¬ Dh bL dW b:=fun⟨i,o,rb,hi,_⟩=>by cases hi
theorem Lw.keptBut{W W':World}(h:Lw W W')(may:MemPlace→Prop):W.keptBut W' may:=by
 refine⟨h.os,h.output,fun i hi=>?_⟩
 rw[h.heap i hi]
 have:W.heap[i]? = some W.heap[i]:=Array.getElem?_eq_getElem hi
 rw[this]
 cases W.heap[i]with
 | cells c t fr=>exact⟨rfl,rfl,rfl,fun _ _=>rfl⟩
 | map es clock=>exact .inr ⟨rfl,rfl⟩
 | _=>rfl
theorem Lw.frozen{W W':World}(h:Lw W W')(a:Addr)(ha:a.block<W.heap.size):W'.frozen? a=W.frozen? a:=by simp[World.frozen?,h.heap _ ha]
section
open Go.ChangeShapes Go.WideShapes
theorem post_of_kept{H:Type}{enc:TypeId×Value→H}{P:Program}{f:Func}{s:ChangeSpec}{apart fresh handsOn again:Bool}{W W':World}{args:Array Value}{v:Value}{ds gs:List (DataW H)}{before pa pv:List MemPlace}
  (hW:DataW.Whole enc P f.params.toList s.vars apart W args.toList ds gs before)
  (hres:∀ (b:Nat) (sp:Nat→Bool) (hd:Bool),DataW.TrodAll enc P W' b sp hd f.resultTypes.toList (v.resultList f.resultTypes.size) (s.fn H (ds++gs)).results [])
  (hargs:∀sp:Nat→Bool,(∀p∈before,sp p.block=true)→DataW.TrodAll enc P W' 0 sp true f.params.toList args.toList (s.fn H (ds++gs)).args pa)
  (hvars:∀sp:Nat→Bool,(∀p∈before,sp p.block=true)→DataW.TrodVars enc P W' sp s.vars (s.fn H (ds++gs)).vars pv)
  (hps:before=pa++pv) (hk:Lw W W')
  (hok:∀ (j:Nat) (t:TypeId) (r:Value),f.resultTypes[j]? = some t→(v.resultList f.resultTypes.size)[j]? = some r→Value.okWide P W' .any 0 t r):
  s.post enc P f apart fresh handsOn again W args v W':=by
 have hold:∀p∈before,(fun b=>decide (b<W.heap.size)) p.block=true:=fun p hp=>by simpa using hW.lt p hp
 refine⟨ds,gs,before,[],pa,pv,hW,hres _ _ _,hargs _ hold,hvars _ hold,World.keptBut_mono (fun p hp=>⟨hp,?_⟩) (hk.keptBut _),fun _=>?_⟩
 ·rw[hps,List.mem_append]at hp
  exact Or.inr hp
 ·have hlt:=hW.lt
  obtain⟨_,_,_,_,_,hz,hn⟩:=hW
  refine⟨hok,_,_,([]++pa)++pv,⟨[]++pa,pv,trodAll_append (hargs _ (fun _ _=>rfl)) (hres _ _ _),hvars _ (fun _ _=>rfl),rfl,?_,?_⟩,?_⟩
  ·intro b off hp
   have hp':MemPlace.cell b off∈before:=by rw[hps];simpa using hp
   rw[hk.frozen _ (hlt _ hp')]
   exact hz b off hp'
  ·intro ha
   have:=hn ha
   rw[hps]at this
   simpa using this
  ·intro p hp _
   rw[hps]
   simpa using hp
end
def IZ:AV→Bool
 | .bool _ | .int _ _ | .str _=>true
 | .ptr none | .map none | .nilFunc | .nilIface=>true
 | .slice none n c=>Nat.beq n 0 && (match c with | some 0=>true | _=>false)
 | _=>false
def H7:List AV→Bool
 | []=>true
 | .agg cs::l=>cs.all IZ && H7 l
 | v::l=>IZ v && H7 l
theorem Co{ρ σ:A4}{v:AV}{v':Value}(h:IZ v=true)(hr:AL ρ v v'):AL σ v v':=by
 cases hr with
 | bool b=>exact .bool b
 | int k n=>exact .int k n
 | str hs=>exact .str hs
 | ptrNil=>exact .ptrNil
 | sliceNil=>exact .sliceNil
 | mapNil=>exact .mapNil
 | nilFunc=>exact .nilFunc
 | nilIface=>exact .nilIface
 | _=>cases h
theorem KS{ρ σ:A4}:∀ {l:List AV}{l':List Value},l.all IZ=true→AK ρ l l'→AK σ l l'
 | [],_,_,h=>by cases h;exact .nil
 | v::l,_,hp,h=>by
  cases h with
  | cons h1 h2 =>
   simp only[List.all_cons,Bool.and_eq_true]at hp
   exact .cons (Co hp.1 h1) (KS hp.2 h2)
theorem Gp         {ρ σ : A4}  : ∀ {l : List AV} {l' : List Value}, H7     l = true → AK    ρ l l' → AK    σ l l'
  | [],_,_,h=>by cases h;exact .nil
  | v::l,_,hp,h=>by
    cases h with
    | cons h1 h2 =>
      cases v with
      | agg cs =>
        simp only[H7,Bool.and_eq_true]at hp
        cases h1 with
        | agg h1=>exact .cons (.agg (KS hp.1 h1)) (Gp hp.2 h2)
      | _ =>
        simp only[H7,Bool.and_eq_true]at hp
        exact .cons (Co hp.1 h1) (Gp hp.2 h2)
structure Row where
 f:FuncId
 args:List AV
 res:AV
def SL:List Row→FuncId→List AV→Option AV
 | [],_,_=>none
 | r::l,f,xs=>bif Nat.beq r.f f && EV.eqAs r.args xs then some r.res else SL l f xs
def Ym(v:AV):Option (AV×AE)→Bool
 | some (u,_)=>EV v u
 | none=>false
theorem Jv:∀ {T:List Row}{f:FuncId}{xs:List AV}{v:AV},SL T f xs=some v→∃r∈T,r.f=f∧r.args=xs∧r.res=v
 | [],_,_,_,h=>by cases h
 | r::T,f,xs,v,h=>by
  unfold SL at h
  cases hb:Nat.beq r.f f && EV.eqAs r.args xs with
  | true =>
   rw[hb]at h
   injection h with h
   simp only[Bool.and_eq_true]at hb
   exact⟨r,gC,fz hb.1,FD hb.2,h⟩
  | false =>
   rw[hb]at h
   obtain⟨q,h1,h2⟩:=Jv h
   exact⟨q,gG _ h1,h2⟩
section
variable{P:Program}{ρ ρ1 ρ2:A4}{s s1 s2:AE}{w w1 w2:World}
end
structure Cv.le(F G:Cv):Prop where
 code:∀ {rnd:Option Nat} {c:Ab} {var:List AV} {marks:List Nat} {s:AE} {r:Au},F.code rnd c var marks s=some r→G.code rnd c var marks s=some r
 call:∀ {f:FuncId} {aS:List AV} {s:AE} {p:AV×AE},F.call f aS s=some p→G.call f aS s=some p
 round:∀ {l:Nat} {aS:List AV} {s:AE} {p:AV×AE},F.round l aS s=some p→G.round l aS s=some p
section
variable{F G:Cv}
theorem Jl(h:F.le G){f:AV}{aS:List AV}{s:AE}{p:AV×AE}(hc:Fg F f aS s=some p):Fg G f aS s=some p:=by
 unfold Fg at hc ⊢
 split at hc
 ·exact h.call hc
 ·exact h.round hc
 ·cases hc
theorem Ob(h:F.le G){sh:Sh}{xs:List CX}{loc var:List AV}{s:AE}{p:AV×AE}(hc:dV F sh xs loc var s=some p):dV G sh xs loc var s=some p:=by
 cases sh<;>first | exact hc | exact h.call hc | skip
 cases xs with
 | nil=>cases hc
 | cons x xs=>exact Jl h hc
theorem Fo(it:AC)(l:List AC)(loc var:List AV)(s:AE):De F (it::l) loc var s=Id F it (De F l) loc var s:=rfl
theorem HS{k k':Tu}(hk:∀loc var s p,k loc var s=some p→k' loc var s=some p){ag:List FW}{d:Iw}{loc var:List AV}{v:AV}{s:AE}{p:List AV×AE}(h:CQ ag d k loc var v s=some p):CQ ag d k' loc var v s=some p:=by
  cases d with
  | push =>
    simp only[CQ]at h ⊢
    cases hb:DZ s (v::loc) var ag with
    | true=>rw[hb]at h;exact hk _ _ _ _ h
    | false=>rw[hb]at h;cases h
  | set j =>
    simp only[CQ]at h ⊢
    cases hb:DZ s loc (E3 v var j) ag with
    | true=>rw[hb]at h;exact hk _ _ _ _ h
    | false=>rw[hb]at h;cases h
theorem Fp(h:F.le G):∀ (l:List AC)(loc var:List AV)(s:AE)(p:List AV×AE),De F l loc var s=some p→De G l loc var s=some p:=by
 intro l
 induction l with
 | nil=>intro loc var s p hp;exact hp
 | cons it l ih =>
  intro loc var s p hp
  rw[Fo]at hp ⊢
  unfold Id at hp ⊢
  cases hj:Tt loc var it.guard with
  | true=>rw[hj]at hp;cases hp
  | false =>
  rw[hj]at hp
  simp only at hp ⊢
  cases hw:BK loc var it.guard with
  | true =>
   rw[hw]at hp
   simp only at hp ⊢
   unfold JD at hp ⊢
   cases hs:dV F it.sh it.xs loc var s with
   | none=>rw[hs]at hp;cases hp
   | some q=>rw[hs]at hp;rw[Ob h hs];exact HS ih hp
  | false =>
   rw[hw]at hp
   exact HS ih hp
theorem Jk(h:F.le G){rnd:Option Nat}{b:Ab}{r res:Au}(hc:GV F rnd b r=some res):GV G rnd b r=some res:=by
 unfold GV at hc ⊢
 split at hc
 ·exact h.code hc
 ·exact hc
theorem HF(h:F.le G){var:List AV}{f:AV}{params:Array Tmp}{assign body:Code}{fn:FuncId}{dfr:Nat}{marks:List Nat}{s:AE}{res:Au}
  (hc:EP F var f params assign body fn dfr marks s=some res):EP G var f params assign body fn dfr marks s=some res:=by
 unfold EP GA at hc ⊢
 simp only[ft]at hc ⊢
 obtain⟨q,h1,rest⟩:=hc
 have h':Cv.le { F with round:=fun _ _ _=>none } { G with round:=fun _ _ _=>none }:=⟨h.code,h.call,fun h=>by cases h⟩
 exact⟨q,Jl h' h1,rest⟩
theorem K0(h:F.le G){rnd:Option Nat}{r:Ix}{body:Ab}{A:List AV}{W marks:List Nat}{s:AE}{k:AV}{B:Ly}(hc:C6 F rnd r body A W marks s k=some B):C6 G rnd r body A W marks s k=some B:=by
 unfold C6 at hc ⊢
 simp only[ft]at hc ⊢
 obtain⟨q,h1,h2⟩:=hc
 exact⟨q,h.code h1,h2⟩
theorem ES          {f g : AV → Option Ly}   (hf : ∀ k B, f k = some B → g k = some B) : ∀ {l : List (AV × AV)} {R C : Option (List AV × List (List AV))}, FP     f R l = some C → FP     g R l = some C
  | [],_,_,h=>h
  | e::l,R,C,h=>by
    unfold FP at h ⊢
    simp only[ft]at h ⊢
    obtain⟨X,h1,h2⟩:=h
    refine⟨X,hf _ _ h1,?_⟩
    cases X with
    | go=>exact ES hf h2
    | ret X M =>
      cases R with
      | none=>exact ES hf h2
      | some Y =>
        simp only at h2 ⊢
        cases hb:fC Y.2 M with
        | false=>rw[hb]at h2;cases h2
        | true =>
          rw[hb]at h2
          simp only[AH,cond_true,ft]at h2 ⊢
          obtain⟨Z,h3,h4⟩:=h2
          exact⟨Z,h3,ES hf h4⟩
theorem OP(h:F.le G){rnd:Option Nat}{r:Ix}{body:Ab}{it:AV}{marks:List Nat}{n:Nat}{t:AB AX}{A0:List AV}{l:List (AV×AV)}{C:Au}(hc:Ka F rnd r body it marks n t A0 l=some C):Ka G rnd r body it marks n t A0 l=some C:=by
 unfold Ka at hc ⊢
 simp only[ft]at hc ⊢
 obtain⟨J,h1,A,h2,h3⟩:=hc
 refine⟨J,h1,A,h2,?_⟩
 cases hb:(EV (If A r.jt) it && EV (If A0 r.jt) it)with
 | false=>rw[hb]at h3;cases h3
 | true =>
  rw[hb]at h3
  simp only[AH,cond_true,ft]at h3 ⊢
  obtain⟨s,h4,R,h6,h7⟩:=h3
  exact⟨s,h4,R,ES (fun k B=>K0 h) h6,h7⟩
theorem QW(h:F.le G){rnd:Option Nat}{c:Ab}{var:List AV}{marks:List Nat}{s:AE}{res:Au}(hc:CG F rnd c var marks s=some res):CG G rnd c var marks s=some res:=by
  cases c with
  | skip=>exact hc
  | ret=>exact hc
  | exit id=>exact hc
  | never=>exact hc
  | ops l =>
    simp only[CG,Zf]at hc ⊢
    cases hi:De F l [] var s with
    | none=>rw[hi]at hc;cases hc
    | some p=>rw[hi]at hc;rw[Fp h _ _ _ _ _ hi];exact hc
  | seq a b =>
    simp only[CG]at hc ⊢
    unfold HG at hc ⊢
    cases ha:F.code rnd a var marks s with
    | none=>rw[ha]at hc;cases hc
    | some r=>rw[ha]at hc;rw[h.code ha];exact Jk h hc
  | cond x a b =>
    simp only[CG]at hc ⊢
    unfold Ng at hc ⊢
    split at hc
    · split at hc
      · exact h.code hc
      · exact h.code hc
    · cases hc
  | block id c =>
    simp only[CG]at hc ⊢
    unfold Ji at hc ⊢
    cases ha:F.code rnd c var marks s with
    | none=>rw[ha]at hc;cases hc
    | some r=>rw[ha]at hc;rw[h.code ha];exact hc
  | loop c =>
    simp only[CG]at hc ⊢
    unfold HG at hc ⊢
    cases ha:F.code rnd c var marks s with
    | none=>rw[ha]at hc;cases hc
    | some r=>rw[ha]at hc;rw[h.code ha];exact Jk h hc
  | rangeFunc fn f params assign body =>
    simp only[CG]at hc ⊢
    unfold Jj at hc ⊢
    cases rnd with
    | none=>exact HF h hc
    | some l =>
      simp only[ft]at hc ⊢
      obtain⟨r,h1,h2⟩:=hc
      exact⟨r,h1,HF h h2⟩
  | rangeMap r body =>
    simp only[CG]at hc ⊢
    unfold Zg at hc ⊢
    simp only[ft]at hc ⊢
    obtain⟨m,h1,es,h2,h3⟩:=hc
    exact⟨m,h1,es,h2,OP h h3⟩
theorem QX(h:F.le G){E:Cg}{f:FuncId}{aS:List AV}{s:AE}{p:AV×AE}(hc:Gh E F f aS s=some p):Gh E G f aS s=some p:=by
 unfold Gh at hc ⊢
 cases hn:E.nat f aS s with
 | some q=>rw[hn]at hc;exact hc
 | none =>
  rw[hn]at hc
  simp only at hc ⊢
  unfold Fe at hc ⊢
  simp only[ft]at hc ⊢
  obtain⟨cf,h1,h2⟩:=hc
  refine⟨cf,h1,?_⟩
  cases hb:Nat.beq aS.length cf.na with
  | false=>rw[hb]at h2;cases h2
  | true =>
   rw[hb]at h2
   simp only[cond_true]at h2 ⊢
   unfold I8 at h2 ⊢
   simp only[ft]at h2 ⊢
   obtain⟨r,h3,h4⟩:=h2
   exact⟨r,h.code h3,h4⟩
theorem QY(h:F.le G){E:Cg}{l:Nat}{aS:List AV}{s:AE}{p:AV×AE}(hc:Is E F l aS s=some p):Is E G l aS s=some p:=by
 unfold Is at hc ⊢
 simp only[ft]at hc ⊢
 obtain⟨r,h1,var,h2,ca,h3,cb,h4,hc⟩:=hc
 refine⟨r,h1,var,h2,ca,h3,cb,h4,?_⟩
 unfold GJ at hc ⊢
 simp only[ft]at hc ⊢
 obtain⟨q,h5,hc⟩:=hc
 refine⟨q,h.code h5,?_⟩
 cases hn:Fl q.exit with
 | false=>rw[hn]at hc;cases hc
 | true =>
  rw[hn]at hc
  simp only[cond_true,ft]at hc ⊢
  obtain⟨r2,h6,hc⟩:=hc
  refine⟨r2,h6,?_⟩
  cases hr:JC r2.state with
  | false=>rw[hr]at hc;cases hc
  | true =>
   rw[hr]at hc
   simp only[cond_true]at hc ⊢
   unfold Hg at hc ⊢
   simp only[ft]at hc ⊢
   obtain⟨q2,h7,rest⟩:=hc
   exact⟨q2,h.code h7,rest⟩
end
theorem M8(E:Cg):∀n,(Ct E n).le (Ct E (n+1)):=by
 intro n
 induction n with
 | zero=>exact⟨fun h=>(by cases h),fun h=>(by cases h),fun h=>(by cases h)⟩
 | succ n ih=>exact⟨fun h=>QW ih h,fun h=>QX ih h,fun h=>QY ih h⟩
theorem Cv.le.refl(F:Cv):F.le F:=⟨id,id,id⟩
theorem Cv.le.trans{F G H:Cv}(h:F.le G)(k:G.le H):F.le H:=⟨fun x=>k.code (h.code x),fun x=>k.call (h.call x),fun x=>k.round (h.round x)⟩
theorem FR(E:Cg){n m:Nat}(h:n≤m):(Ct E n).le (Ct E m):=by
 induction h with
 | refl=>exact Cv.le.refl _
 | step _ ih=>exact ih.trans (M8 E _)
section
variable(E:Cg)
def WC(rnd:Option Nat)(c:Ab)(Q:Au→Prop)(var:List AV)(marks:List Nat)(s:AE):Prop:=∃n r,(Ct E n).code rnd c var marks s=some r∧Q r
def WI(l:List AC)(K:List AV→AE→Prop)(loc var:List AV)(s:AE):Prop:=∃n p,De (Ct E n) l loc var s=some p∧K p.1 p.2
def WF(f:FuncId)(aS:List AV)(K:AV→AE→Prop)(s:AE):Prop:=∃n p,(Ct E n).call f aS s=some p∧K p.1 p.2
def WR(l:Nat)(aS:List AV)(K:AV→AE→Prop)(s:AE):Prop:=∃n p,(Ct E n).round l aS s=some p∧K p.1 p.2
end
section
variable{E:Cg}{rnd:Option Nat}{Q Q':Au→Prop}{var loc:List AV}{marks:List Nat}{s:AE}{K K':AV→AE→Prop}{KI:List AV→AE→Prop}
theorem WC.mono{c:Ab}(h:WC E rnd c Q var marks s)(hq:∀r,Q r→Q' r):WC E rnd c Q' var marks s:=let ⟨n,r,h1,h2⟩:=h;⟨n,r,h1,hq r h2⟩
theorem WF.mono{f:FuncId}{aS:List AV}(h:WF E f aS K s)(hq:∀v s',K v s'→K' v s'):WF E f aS K' s:=let ⟨n,r,h1,h2⟩:=h;⟨n,r,h1,hq _ _ h2⟩
theorem WC.skip(h:Q ⟨.normal,var,marks,s⟩):WC E rnd .skip Q var marks s:=⟨1,_,rfl,h⟩
theorem WC.ret(h:Q ⟨.ret,var,marks,s⟩):WC E rnd .ret Q var marks s:=⟨1,_,rfl,h⟩
theorem WC.exit{id:Nat}(h:Q ⟨.exit id,var,marks,s⟩):WC E rnd (.exit id) Q var marks s:=⟨1,_,rfl,h⟩
def Sw(E:Cg)(rnd:Option Nat)(b:Ab)(Q:Au→Prop)(r:Au):Prop:=match r.exit with
 | .normal=>WC E rnd b Q r.var r.marks r.st
 | _=>Q r
theorem Oa{a b:Ab}{n:Nat}{r:Au}(h1:(Ct E n).code rnd a var marks s=some r)(h2:Sw E rnd b Q r):∃m res,HG (Ct E m) rnd b ((Ct E m).code rnd a var marks s)=some res∧Q res:=by
 unfold Sw at h2
 cases he:r.exit with
 | normal =>
  rw[he]at h2
  obtain⟨m,res,h3,h4⟩:=h2
  refine⟨max n m,res,?_,h4⟩
  rw[(FR E (Nat.le_max_left n m)).code h1]
  simp only[HG,GV,he]
  exact(FR E (Nat.le_max_right n m)).code h3
 | exit id=>rw[he]at h2;exact⟨n,r,by rw[h1];simp only[HG,GV,he],h2⟩
 | ret=>rw[he]at h2;exact⟨n,r,by rw[h1];simp only[HG,GV,he],h2⟩
theorem WC.seq{a b:Ab}(h:WC E rnd a (Sw E rnd b Q) var marks s):WC E rnd (.seq a b) Q var marks s:=by
 obtain⟨n,r,h1,h2⟩:=h
 obtain⟨m,res,h3,h4⟩:=Oa h1 h2
 exact⟨m+1,res,h3,h4⟩
theorem WC.loop{c:Ab}(h:WC E rnd c (Sw E rnd (.loop c) Q) var marks s):WC E rnd (.loop c) Q var marks s:=by
 obtain⟨n,r,h1,h2⟩:=h
 obtain⟨m,res,h3,h4⟩:=Oa h1 h2
 exact⟨m+1,res,h3,h4⟩
theorem WC.cond{x:CX}{a b:Ab}{t:Bool}(hx:CO [] var x=.bool t)(h:WC E rnd (bif t then a else b) Q var marks s):WC E rnd (.cond x a b) Q var marks s:=by
 obtain⟨n,r,h1,h2⟩:=h
 refine⟨n+1,r,?_,h2⟩
 show CG (Ct E n) rnd (.cond x a b) var marks s=some r
 simp only[CG,Ng,hx]
 cases t<;>exact h1
def E4(id:Nat)(Q:Au→Prop)(r:Au):Prop:=match r.exit with
 | .exit id'=>bif Nat.beq id' id then Q ⟨.normal,r.var,r.marks,r.st⟩else Q r
 | _=>Q r
theorem WC.block{id:Nat}{c:Ab}(h:WC E rnd c (E4 id Q) var marks s):WC E rnd (.block id c) Q var marks s:=by
 obtain⟨n,r,h1,h2⟩:=h
 unfold E4 at h2
 have:∃res,I7 id r=some res∧Q res:=by
  unfold I7
  split at h2
  ·rename_i id' he
   try simp only[he]
   cases hb:Nat.beq id' id with
   | true=>rw[hb]at h2;exact⟨_,rfl,h2⟩
   | false=>rw[hb]at h2;exact⟨_,rfl,h2⟩
  ·rename_i hne
   cases he:r.exit with
   | normal=>exact⟨r,rfl,h2⟩
   | ret=>exact⟨r,rfl,h2⟩
   | exit id'=>exact absurd he (hne id')
 obtain⟨res,h3,h4⟩:=this
 refine⟨n+1,res,?_,h4⟩
 show CG (Ct E n) rnd (.block id c) var marks s=some res
 simp only[CG,Ji,h1,h3]
theorem WC.ops{l:List AC}(h:WI E l (fun v s'=>Q ⟨.normal,v,marks,s'⟩) [] var s):WC E rnd (.ops l) Q var marks s:=by
 obtain⟨n,p,h1,h2⟩:=h
 refine⟨n+1,⟨.normal,p.1,marks,p.2⟩,?_,h2⟩
 show CG (Ct E n) rnd (.ops l) var marks s=_
 simp only[CG,Zf,h1]
theorem WI.nil(h:KI var s):WI E [] KI loc var s:=⟨0,_,rfl,h⟩
def dk(E:Cg)(ag:List FW)(d:Iw)(l:List AC)(KI:List AV→AE→Prop)(loc var:List AV)(v:AV)(s:AE):Prop:=match d with
 | .push=>DZ s (v::loc) var ag=true∧WI E l KI (v::loc) var s
 | .set j=>DZ s loc (E3 v var j) ag=true∧WI E l KI loc (E3 v var j) s
theorem SJ{ag:List FW}{d:Iw}{l:List AC}{v:AV}(h:dk E ag d l KI loc var v s):∃n p,(∀m,n≤m→CQ ag d (De (Ct E m) l) loc var v s=some p)∧KI p.1 p.2:=by
 cases d with
 | push =>
  obtain⟨h1,n,p,h2,h3⟩:=h
  exact⟨n,p,fun m hm=>by simp only[CQ,h1,cond_true];exact Fp (FR E hm) _ _ _ _ _ h2,h3⟩
 | set j =>
  obtain⟨h1,n,p,h2,h3⟩:=h
  exact⟨n,p,fun m hm=>by simp only[CQ,h1,cond_true];exact Fp (FR E hm) _ _ _ _ _ h2,h3⟩
theorem WI.item{it:AC}{l:List AC}{n:Nat}{p:AV×AE}(hj:Tt loc var it.guard=false)(hw:BK loc var it.guard=true)(hs:dV (Ct E n) it.sh it.xs loc var s=some p)(h:dk E it.again it.dst l KI loc var p.1 p.2):WI E (it::l) KI loc var s:=by
 obtain⟨m,q,h1,h2⟩:=SJ h
 refine⟨max n m,q,?_,h2⟩
 rw[Fo]
 unfold Id
 rw[hj,hw]
 simp only[JD,Ob (FR E (Nat.le_max_left n m)) hs]
 exact h1 _ (Nat.le_max_right n m)
theorem WI.off{it:AC}{l:List AC}(hj:Tt loc var it.guard=false)(hw:BK loc var it.guard=false)(h:dk E [] it.dst l KI loc var BU s):WI E (it::l) KI loc var s:=by
 obtain⟨m,q,h1,h2⟩:=SJ h
 refine⟨m,q,?_,h2⟩
 rw[Fo]
 unfold Id
 rw[hj,hw]
 exact h1 _ (fu m)
def Ends(P:Program)(rs:List (CX×Option TypeId))(K:AV→AE→Prop)(r:Au):Prop:=SV r.exit=true∧∃s',DA r.st r.marks=some s'∧∃l,Bb P s' r.var rs=some l∧K (BN l) s'
theorem WF.body{f:FuncId}{aS:List AV}{cf:Ay}(hn:E.nat f aS s=none)(hf:AS E.P f=some cf)(ha:aS.length=cf.na)(h:WC E none cf.body (Ends E.P cf.results K) (Ql aS cf.nv) [] s):WF E f aS K s:=by
 obtain⟨n,r,h1,h2,s',h3,l,h4,h5⟩:=h
 refine⟨n+1,(BN l,s'),?_,h5⟩
 show Gh E (Ct E n) f aS s=_
 simp[Gh,hn,Fe,hf,ha,I8,h1,h2,h3,h4]
theorem WF.nat{f:FuncId}{aS:List AV}{p:AV×AE}(hn:E.nat f aS s=some p)(h:K p.1 p.2):WF E f aS K s:=⟨1,p,by show Gh E (Ct E 0) f aS s=_;simp[Gh,hn],h⟩
end
end
end Go.Proofs.YtfgmceookgelcaaGreatDoor.Am
