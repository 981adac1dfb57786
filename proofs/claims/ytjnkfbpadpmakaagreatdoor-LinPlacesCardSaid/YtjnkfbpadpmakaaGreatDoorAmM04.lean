/- The abstract machine runs as the model does; conditions: told in 'SimOk'. -/
import Derived.LoopNIn
import Derived.Test.YtjnkfbpadpmakaaGreatDoorAmM03
import Derived.Maps.RangeRun
import Derived.ChangeSame
import Derived.Test.YtjnkfbpadpmakaaGreatDoorAmM01
import Derived.Maps.Own
import Derived.Lib.SlMapMerge
import Derived.Test.YtjnkfbpadpmakaaGreatDoorAmM02
import Derived.ChangeArms
import Derived.DataReads
import Derived.DataElems
import Derived.Test.YtjnkfbpadpmakaaGreatDoorProg
import Derived.Shelf.SlIterI.Nil
import Derived.Shelf.SlIterI.Sorted
import Derived.Shelf.SortM.Plain
import Derived.Shelf.SortM.SortNone
import Derived.Ground.GgzProg
import Derived.Ground.SlgmProg
set_option linter.unusedVariables false
set_option linter.unusedSimpArgs false
namespace Go.Proofs.YtjnkfbpadpmakaaGreatDoor.Am
open Go
noncomputable section
def Fn:I6→Exit
 | .normal=>.normal
 | .exit id=>.exit id
 | .ret=>.ret
def J1(ρ:BA):Option Nat→Option Nat→Prop
 | none,r=>r=none
 | some l,r=>∃rb,ρ l=some rb∧r=some rb.b
theorem J1.mono{ρ ρ1:BA}{rnd r:Option Nat}(h:J1 ρ rnd r)(le:ρ.le ρ1):J1 ρ1 rnd r:=by
 cases rnd with
 | none=>exact h
 | some l=>obtain⟨rb,h1,h2⟩:=h;exact⟨rb,le _ _ h1,h2⟩
structure HG(P:Program)(fn:Func)(ρ:BA)(s:AD)(w:World)(r:A5)(a':Act)(w':World)(ρ':BA):Prop where
 inv:BE P ρ' r.st w'
 fresh:Ax ρ' r.st
 fr:Fr ρ s w ρ' r.st w'
 vars:A6 P ρ' fn r.var a'.tmps
 marks:Bs ρ' r.marks a'.defers
structure HF(P:Program)(fn:Func)(ρ:BA)(s:AD)(w:World)(var:List AV)(marks:List Nat)(rnd r:Option Nat)(a:Act):Prop where
 inv:BE P ρ s w
 fresh:Ax ρ s
 vars:A6 P ρ fn var a.tmps
 marks:Bs ρ marks a.defers
 rnd:J1 ρ rnd r
def IZ(P:Program)(F:DS):Prop:=∀ (f:FuncId)(fn:Func)(c:Code)(rnd r:Option Nat)(var:List AV)(marks:List Nat)(s:AD)(res:A5)(ρ:BA)(w:World)(a:Act)(Q:Exit→Act→World→Prop),
 P.funcs[f]? = some fn→F.code rnd (Ai P f fn.ntmps (Ak P fn) c) var marks s=some res→HF P fn ρ s w var marks rnd r a →
 (∀a' w' ρ',HG P fn ρ s w res a' w' ρ'→Q (Fn res.exit) a' w')→c.wpIn (IX r) 0 P Q a w
def R0(P:Program)(F:DS)(n:Nat):Prop:=∀ (f:FuncId)(fn:Func)(c:Code)(rnd r:Option Nat)(var:List AV)(marks:List Nat)(s:AD)(res:A5)(ρ:BA)(w:World)(a:Act)(Q:Exit→Act→World→Prop),
 P.funcs[f]? = some fn→F.code rnd (.loop (Ai P f fn.ntmps (Ak P fn) c)) var marks s=some res→HF P fn ρ s w var marks rnd r a →
 (∀a' w' ρ',HG P fn ρ s w res a' w' ρ'→Q (Fn res.exit) a' w')→Code.roundsIn (IX r) 0 P c Q n a w
def D9(P:Program)(call:FuncId→List AV→AD→Option (AV×AD)):Prop:=∀ (ρ:BA)(s:AD)(w:World)(f:FuncId)(aS:List AV)(v:AV)(s1:AD)(as':Array Value),
 call f aS s=some (v,s1)→BE P ρ s w→Ax ρ s→AP ρ aS as'.toList →
 (∃fn c,P.funcs[f]? = some fn∧fn.body=some c)∧CallsIn Fence.wide 0 P f as' w (E2 P ρ s w v s1)
def EL (P : Program) : Prop := ∀ (f : FuncId) (fn : Func), P.funcs[f]? = some fn → (fn.name == "runtime.NumGoroutine") = false
structure Nv(P:Program)(F:DS)(n:Nat):Prop where
 code:IZ P F
 loop:R0 P F n
 call:D9 P F.call
 round:∀ (ρ:BA) (s:AD) (w:World) (l:Nat) (rb:RB) (aS:List AV) (v:AV) (s1:AD) (as':Array Value),F.round l aS s=some (v,s1)→BE P ρ s w→Ax ρ s→ρ l=some rb→AP ρ aS as'.toList →
  DT P ρ s w v s1 ((Instr.yield rb.b as').run P w)
section
variable{P:Program}{ρ ρ1 ρ2:BA}{s s1 s2:AD}{w w1 w2:World}
theorem GC(hng:EL P){f:FuncId}{fn:Func}{c:Code}(hf:P.funcs[f]? = some fn)(hb:fn.body=some c)(args:Array Value)(w:World):(callFunc f args).run P w=.ok (.enter f args) w:=by
  have h1:=hng f fn hf
  have h2 : fn.name ≠ "runtime.NumGoroutine" := by simpa using h1
  simp[callFunc,hf,h2,hb]
theorem Nv.fok(hng:EL P){F:DS}{n:Nat}(h:Nv P F n):ZJ P F where
 call:=fun ρ s w f aS v s1 as' hc hi hf ha=>by
  obtain⟨⟨fn,c,h1,h2⟩,h3⟩:=h.call ρ s w f aS v s1 as' hc hi hf ha
  rw[GC hng h1 h2]
  exact .enter h3
 round:=h.round
theorem HG.trans{fn:Func}{s1:AD}{r1 r2:A5}{a1 a2:Act}(h1:Fr ρ s w ρ1 s1 w1)(h2:HG P fn ρ1 s1 w1 r2 a2 w2 ρ2):HG P fn ρ s w r2 a2 w2 ρ2:=
 ⟨h2.inv,h2.fresh,h1.trans h2.fr,h2.vars,h2.marks⟩
theorem HG.begins{fn:Func}{r:A5}{a1:Act}{var:List AV}{marks:List Nat}{rnd rr:Option Nat}{a:Act}(hb:HF P fn ρ s w var marks rnd rr a)(h:HG P fn ρ s w r a1 w1 ρ1):HF P fn ρ1 r.st w1 r.var r.marks rnd rr a1:=
 ⟨h.inv,h.fresh,h.vars,h.marks,hb.rnd.mono h.fr.le⟩
theorem jd     (hm : P.follows .mixedOrders = true) {F : DS}  (hF : ZJ  P F) {fn : Func} {f : FuncId} {id : Nat} {ops : Array Oper} {draw : Bool} {r rnd : Option Nat} {var : List AV} {marks : List Nat} {s : AD}  {res : A5}   {ρ : BA}  {w : World} {a : Act} {Q : Exit → Act → World → Prop}
    (hc:Cc F rnd (Ai P f fn.ntmps (Ak P fn) (.region id ops draw)) var marks s=some res) (hb:HF P fn ρ s w var marks rnd r a)
    (hq:∀a' w' ρ',HG P fn ρ s w res a' w' ρ'→Q (Fn res.exit) a' w'):(Code.region id ops draw).wpIn (IX r) 0 P Q a w:=by
  have fin:∀ {items:List AA} {b:Array Nat} {l:List Nat},EO P fn.ntmps (Ak P fn) ops b draw l ⟨[],0⟩ []=some items→Cc F rnd (.ops items) var marks s=some res →
      ∃R' s',Trace P F ops fn.ntmps b draw l [] (Iy (Ak P fn) var) s R' s'∧res.exit=.normal∧res.marks=marks∧res.st=s'∧∃c' loc',D8 (Ak P fn) c' loc' res.var R':=by
    intro items b l hi hs
    simp only[Cc,Zf]at hs
    split at hs<;>first | (cases hs;done) | skip
    rename_i p hp
    injection hs with hs
    subst hs
    obtain⟨R',h1,h2⟩:=QG l ⟨[],0⟩ [] items [] var s p.1 p.2 (Iy (Ak P fn) var) [] hi hp (JQ hb.vars.len) .nil
    exact⟨R',p.2,h1,rfl,rfl,rfl,h2⟩
  have back:∀ {R':B7} {a':Act} {w':World} {ρ':BA},(∃c' loc',D8 (Ak P fn) c' loc' res.var R')→res.exit=.normal→res.marks=marks→BE P ρ' res.st w'→Ax ρ' res.st→Fr ρ s w ρ' res.st w'→Ee ρ' R' a'.tmps→a'.tmps.size=a.tmps.size→a'.defers=a.defers→Q .normal a' w':=by
    intro R' a' w' ρ' ⟨c',loc',hcr⟩ he hmk h1 h2 h3 h4 h5 h6
    have:=hq a' w' ρ' ⟨h1,h2,h3,UD hcr h4 (by rw[h5];exact hb.vars.size),by rw[hmk,h6];exact hb.marks.mono h3.le⟩
    rw[he]at this
    exact this
  cases draw with
  | false =>
    refine wpIn_region ?_
    simp only[Ai]at hc
    cases hi:EO P fn.ntmps (Ak P fn) ops #[] false (List.range ops.size) ⟨[],0⟩ []with
    | none=>rw[hi]at hc;cases hc
    | some items =>
      rw[hi]at hc
      obtain⟨R',s',h1,h2,h3,h4,h5⟩:=fin hi hc
      subst h4
      exact UB hF h1 hb.inv hb.fresh (GW hb.vars) hb.vars.size fun a' w' ρ' g1 g2 g3 g4 g5 g6=>back h5 h2 h3 g1 g2 g3 g4 g5 g6
  | true =>
    refine wpIn_region_any hm ?_
    simp only[Ai]at hc
    cases hpl:Eo P ops (Region.before ops) [] (aP P ops)with
    | false=>rw[hpl]at hc;cases hc
    | true =>
      rw[hpl]at hc
      simp only[AJ,cond_true]at hc
      cases hi:EO P fn.ntmps (Ak P fn) ops (Region.before ops) true (aP P ops) ⟨[],0⟩ []with
      | none=>rw[hi]at hc;cases hc
      | some items =>
        rw[hi]at hc
        obtain⟨R',s',h1,h2,h3,h4,h5⟩:=fin hi hc
        subst h4
        have hd:=Fr.drawn' (ρ:=ρ) (s:=s) (w:=w) (w.drawn+1)
        exact Xa hF h1 hpl (hb.inv.drawn (w.drawn+1)) hb.fresh (GW hb.vars) hb.vars.size fun a' w' ρ' g1 g2 g3 g4 g5 g6=>back h5 h2 h3 g1 g2 (hd.trans g3) g4 g5 g6
theorem G0{l:Nat}{L:Loop}(h:w.heap[l]? = some (.loop L))(fn:FuncId)(tmps:Array Value)(ps:Array Tmp)(assign body:Code):
  (Instr.enterLoop fn tmps ps assign body (some l)).run P w =
   .ok (w.heap.size,[]) (w.alloc (.loop { state:=.ready,pending:=none,fn,tmps,params:=ps,assign,body,defers:=L.defers })):=by
 unfold Instr.enterLoop
 simp only[Sem.run_bind,run_getLoop h,run_newObj_alloc,Result.andThen,Sem.run_pure]
theorem Ch{l:Nat}{r:C4}(h:BC s l=some r):s.heap.get l=some (.loop r):=by
 unfold BC at h
 split at h
 ·injection h with h;subst h;assumption
 ·cases h
theorem Ax.new(h:Ax ρ s)(o:A8)(rb:RB):Ax (Bn ρ s.next rb) (newObj s o):=by
 intro i hi
 have hi:s.next+1≤i:=hi
 have:=h i (by omega)
 exact⟨by rw[AQ rb (by omega)];exact this.1,by rw[Aw,if_neg (by omega)];exact this.2⟩
theorem Kp(h:BE P ρ s w){l:Nat}{r:C4}{rb:RB}(hg:s.heap.get l=some (.loop r))(hr:ρ l=some rb){st:LoopState}{pd:Option Code}{L:Loop}(hL:w.heap[rb.b]? = some (.loop L)):
  BE P ρ (setObj s l (.loop { r with state:=st,pending:=pd })) (w.putObj rb.b (.loop { L with state:=st,pending:=pd }))∧Fr ρ s w ρ (setObj s l (.loop { r with state:=st,pending:=pd })) (w.putObj rb.b (.loop { L with state:=st,pending:=pd })):=by
 have hlt:=h.lt l rb hr
 refine h.set hg hr rfl (fun p e=>by cases e) rfl World.putObj_size (fun b hb=>World.putObj_heap_other hb) rfl rfl rfl ?_
 obtain⟨L',h0,h1,h2,h4,h5,h6,h7,h8,h9,h10⟩:=(h.obj l _ rb hg hr:F4 P ρ w r rb).ex
 rw[hL]at h0
 injection h0 with h0
 injection h0 with h0
 subst h0
 exact⟨_,World.putObj_heap_same hlt,rfl,rfl,h4,h5,h6,h7,h8,h9,h10⟩
theorem aO{r:Option Nat}{s':AD}{res:A5}{a:Act}{Q:Exit→Act→World→Prop}{var:List AV}{marks:List Nat}{pd:Option Code}
  (hp:GA var marks s' pd=some res) (hq:res.var=var→res.marks=marks→res.st=s'→Q (Fn res.exit) a w):
  (match (generalizing:=false) pd with
   | none=>Q .normal a w
   | some c=>c.wpIn (IX r) 0 P Q a w):=by
 unfold GA at hp
 split at hp<;>first | (cases hp;done) | skip
 ·injection hp with hp;subst hp;exact hq rfl rfl rfl
 ·injection hp with hp;subst hp;exact wpIn_ret (hq rfl rfl rfl)
 ·injection hp with hp;subst hp;exact wpIn_exit (hq rfl rfl rfl)
theorem LG         (hng : EL      P) {F : DS}  (hcall : D9     P F.call) {f : FuncId} {fn : Func} {var : List AV} {marks : List Nat} {s : AD}  {res : A5}   {ρ : BA}  {w : World} {a : Act} {r : Option Nat} {Q : Exit → Act → World → Prop} {g : AV} {g' : Value} {ps : Array Tmp} {assign body : Code} {dfr : Nat} {rd : RB}
    (hf:P.funcs[f]? = some fn) (hc:Ev F var g ps assign body f dfr marks s=some res) (hi:BE P ρ s w) (hfr:Ax ρ s) (hv:A6 P ρ fn var a.tmps) (hmk:Bs ρ marks a.defers)
    (hg:AW ρ g g') (hd:ρ dfr=some rd) (fn':FuncId)
    (hq:∀w' ρ',HG P fn ρ s w res a w' ρ'→Q (Fn res.exit) a w'):
    ∃ (d : Deferred) (f0 : FuncId) (args : Array Value), Deferred.ofValue g' #[.func (.yield w.heap.size) #[] #[]] = Pure.pure d ∧
      (∀w1,(invoke d.target d.args).run P w1=.ok (.enter f0 args) w1) ∧
      CallsIn (IX r) 0 P f0 args (w.alloc (.loop { state:=.ready,pending:=none,fn:=fn',tmps:=a.tmps,params:=ps,assign,body,defers:=rd.b })) (rangePost (IX r) 0 P w.heap.size Q a):=by
  let L:Loop:={ state:=.ready,pending:=none,fn:=fn',tmps:=a.tmps,params:=ps,assign,body,defers:=rd.b }
  let al:C4:={ state:=.ready,pending:=none,fn:=f,var,params:=ps,assign,body,dfr }
  let rb:RB:=⟨w.heap.size,0,0,0⟩
  have hvi:C3 P f=Ak P fn:=by unfold C3;rw[hf]
  have hn0:=(hfr _ (nl s.next)).1
  have hle:=BJ (rb:=rb) hn0
  obtain⟨hi1,hfr1⟩:=hi.new (o:=.loop al) (o':=.loop L) (rb:=rb) hn0 rfl
    ⟨L,World.alloc_heap_new w _,rfl,rfl,rfl,rfl,rfl,⟨rd,hle _ _ hd,rfl⟩,by rw[hvi];exact(hv.mono hle).rel,fun fn0 h0=>by
      have h0:P.funcs[f]? = some fn0:=h0
      rw[hf]at h0;injection h0 with h0;subst h0;exact hv.size,by rw[hvi];exact hv.len⟩
  have hff:=hfr.new (.loop al) rb
  unfold Ev Gd at hc
  simp only[nk]at hc
  obtain⟨q,hcv,r2,hl2,hend⟩:=hc
  cases hbz:QX r2.state with
  | true=>rw[hbz]at hend;cases hend
  | false =>
    rw[hbz]at hend
    simp only[cond_false]at hend
    unfold GD at hcv
    split at hcv<;>first | (cases hcv;done) | skip
    rename_i f0 first cap
    cases hg with
    | func ha hcp =>
      rename_i x c
      obtain⟨⟨fn0,c0,k1,k2⟩,k3⟩:=hcall _ _ _ f0 _ q.1 q.2 ((x++#[.func (.yield w.heap.size) #[] #[]])++c) hcv hi1 hff (by
        simp only[Array.toList_append]
        have hy:AW (Bn ρ s.next rb) (.yield s.next) (.func (.yield w.heap.size) #[] #[]):=AW.yield (rb:=rb) (AY _ _)
        have:=(AP.mono hle ha).append ((AP.cons hy .nil).append (AP.mono hle hcp))
        simpa using this)
      refine⟨{ target:=.fn (.func f0) c,args:=x++#[.func (.yield w.heap.size) #[] #[]] },f0,_,rfl,fun w1=>?_,JC (CallsIn.mono k3 ?_)⟩
      · simp only[invoke]
        exact GC hng k1 k2 _ _
      · intro e w3 he
        cases e with
        | panicked c=>exact he.elim
        | outgrown=>exact he.elim
        | returned v' =>
          obtain⟨ρ',_,g2,g3⟩:=he
          have hg2:=Ch hl2
          have hr2:ρ' s.next=some rb:=g3.le _ _ (AY _ _)
          obtain⟨L2,h0,h1,h2,_⟩:=(g2.obj _ _ _ hg2 hr2:F4 P ρ' w3 r2 rb).ex
          obtain⟨g4,g5⟩:=Kp g2 hg2 hr2 (st:=.exhausted) (pd:=r2.pending) h0
          have hbz':L2.state≠.busy:=by rw[h1];intro e;rw[e]at hbz;cases hbz
          refine⟨L2.pending,_,run_endLoop h0 hbz',?_⟩
          rw[h2]
          refine aO hend fun e1 e2 e3=>hq _ ρ' ?_
          have hall:=hfr1.trans (g3.trans g5)
          have hfresh:=(hff.step g3).step g5
          rw[h2.symm]at g4 g5 hall
          refine⟨?_,?_,?_,by rw[e1];exact hv.mono hall.le,by rw[e2];exact hmk.mono hall.le⟩
          · rw[e3,← h2];exact g4
          · rw[e3];exact hfresh
          · rw[e3,← h2];exact hall
end
end
end Go.Proofs.YtjnkfbpadpmakaaGreatDoor.Am
set_option linter.unusedVariables false
set_option linter.unusedSimpArgs false
namespace Go.Proofs.YtjnkfbpadpmakaaGreatDoor.Am
open Go
open Go.ChangeMaps (setBlock)
noncomputable section
mutual
theorem AW.back{ρ σ:BA}(le:ρ.le σ){v:AV}{v' v0:Value}(h:AW σ v v')(h0:AW ρ v v0):AW ρ v v':=by
 cases h with
 | bool b=>exact .bool b
 | int k n=>exact .int k n
 | str h=>exact .str h
 | ptrNil=>exact .ptrNil
 | ptr h=>cases h0 with
  | ptr k=>have:=le _ _ k;rw[h]at this;injection this with this;subst this;exact .ptr k
 | gptr g o=>exact .gptr g o
 | sliceNil=>exact .sliceNil
 | slice h hl=>cases h0 with
  | slice k _=>have:=le _ _ k;rw[h]at this;injection this with this;subst this;exact .slice k hl
 | sliceOpen h hs hl h1 h2=>cases h0 with
  | sliceOpen k _ _ _ _=>have:=le _ _ k;rw[h]at this;injection this with this;subst this;exact .sliceOpen k hs hl h1 h2
  | sliceEnd k _ _ _=>have:=le _ _ k;rw[h]at this;injection this with this;subst this;exact .sliceOpen k hs hl h1 h2
 | sliceEnd h hs h1 h2=>cases h0 with
  | sliceOpen k _ _ _ _=>have:=le _ _ k;rw[h]at this;injection this with this;subst this;exact .sliceEnd k hs h1 h2
  | sliceEnd k _ _ _=>have:=le _ _ k;rw[h]at this;injection this with this;subst this;exact .sliceEnd k hs h1 h2
 | mapNil=>exact .mapNil
 | map h=>cases h0 with
  | map k=>have:=le _ _ k;rw[h]at this;injection this with this;subst this;exact .map k
 | func ha hc=>cases h0 with
  | func ka kc=>exact .func (AP.back le ha ka) (AP.back le hc kc)
 | yield h=>cases h0 with
  | yield k=>have:=le _ _ k;rw[h]at this;injection this with this;subst this;exact .yield k
 | nilFunc=>exact .nilFunc
 | nilIface=>exact .nilIface
 | iface h=>cases h0 with
  | iface k=>exact .iface (AW.back le h k)
 | agg h=>cases h0 with
  | agg k=>exact .agg (AP.back le h k)
 | tuple h=>cases h0 with
  | tuple k=>exact .tuple (AP.back le h k)
 | any h=>exact .any h
theorem AP.back{ρ σ:BA}(le:ρ.le σ){v:List AV}{v' v0:List Value}(h:AP σ v v')(h0:AP ρ v v0):AP ρ v v':=by
 cases h with
 | nil=>exact .nil
 | cons h hs=>cases h0 with
  | cons k ks=>exact .cons (AW.back le h k) (AP.back le hs ks)
end
theorem Nh{σ:BA}{v:AV}{v':Value}(h:Hc v=true)(hv:AW σ v v'):v'.cells.toList=[v']:=by
 cases hv<;>first | rfl | (cases h;done) | assumption
theorem LN{a b:AV}(h:MT a b=true):a=b:=by
 unfold MT at h
 split at h
 ·rfl
 ·exact KR h
def Mk(X B:List AV):Prop:=X.length=B.length∧∀ (j:Nat)(x:AV),X[j]? = some x→B[j]? = some x∨Hc x=true∧B[j]? = some .junk
theorem Mk.refl(X:List AV):Mk X X:=⟨rfl,fun j x h=>.inl h⟩
theorem Mk.trans{X Y Z:List AV}(h:Mk X Y)(k:Mk Y Z):Mk X Z:=by
  refine⟨h.1.trans k.1,fun j x hx=>?_⟩
  rcases h.2 j x hx with h1 | ⟨h1,h2⟩
  · exact k.2 j x h1
  · rcases k.2 j _ h2 with h3 | ⟨_, h3⟩
    · exact .inr ⟨h1,h3⟩
    · exact .inr ⟨h1,h3⟩
theorem OR:∀ {X B:List AV},QK X B=true→Mk X B
 | [],[],_=>.refl _
 | x::l,b::m,h=>by
  simp only[QK,Bool.and_eq_true]at h
  obtain⟨g1,g2⟩:=OR h.2
  refine⟨by simp[g1],fun j y hy=>?_⟩
  cases j with
  | zero =>
   simp at hy
   subst hy
   have h1:=h.1
   simp only[lJ,Bool.or_eq_true,Bool.and_eq_true]at h1
   rcases h1 with h1 | ⟨h1,h2⟩
   ·left;simp[LN h1]
   ·right;refine⟨h1,?_⟩;simp[← LN h2]
  | succ j=>simpa using g2 j y (by simpa using hy)
 | [],_::_,h=>by cases h
 | _::_,[],h=>by cases h
theorem Ks         : ∀ {A X B : List AV}, NK     A X = some B → Mk  A B ∧ Mk  X B
  | [],[],B,h=>by injection h with h;subst h;exact⟨.refl _,.refl _⟩
  | a::l,x::m,B,h=>by
    unfold NK at h
    simp only[nk]at h
    obtain⟨c,h1,r,h2,h3⟩:=h
    injection h3 with h3
    subst h3
    obtain⟨⟨g1,g2⟩,g3,g4⟩:=Ks h2
    have hc:(c=a∨Hc a=true∧c=.junk)∧(c=x∨Hc x=true∧c=.junk):=by
      cases he:MT a x with
      | true=>rw[he]at h1;injection h1 with h1;exact⟨.inl h1.symm,.inl (h1.symm.trans (LN he))⟩
      | false =>
        rw[he]at h1
        obtain⟨h4,h5⟩:=AB h1
        simp only[Bool.and_eq_true]at h4
        injection h5 with h5
        exact⟨.inr ⟨h4.1,h5.symm⟩,.inr ⟨h4.2,h5.symm⟩⟩
    refine⟨⟨by simp[g1],fun j y hy=>?_⟩,⟨by simp[g3],fun j y hy=>?_⟩⟩
    · cases j with
      | zero =>
        simp at hy
        subst hy
        rcases hc.1 with h | ⟨h,h'⟩
        · left;simp[h]
        · right;simp[h,h']
      | succ j=>simpa using g2 j y (by simpa using hy)
    · cases j with
      | zero =>
        simp at hy
        subst hy
        rcases hc.2 with h | ⟨h,h'⟩
        · left;simp[h]
        · right;simp[h,h']
      | succ j=>simpa using g4 j y (by simpa using hy)
  | [],_::_,_,h=>by cases h
  | _::_,[],_,h=>by cases h
theorem IQ:∀ {a b:List Nat},Gt a b=true→a=b
 | [],[],_=>rfl
 | a::l,b::m,h=>by
  simp only[Gt,Bool.and_eq_true]at h
  rw[oE h.1,IQ h.2]
 | [],_::_,h=>by cases h
 | _::_,[],h=>by cases h
section
variable{P:Program}{ρ ρ1 ρ2:BA}{s s1 s2:AD}{w w1 w2:World}
theorem RW{fn:Func}{A X B:List AV}{t0 t1:Array Value}(h0:A6 P ρ fn A t0)(h1:A6 P ρ1 fn X t1)(le:ρ.le ρ1)(ha:Mk A B)(hx:Mk X B):A6 P ρ fn B t1:=by
  refine⟨by rw[← ha.1];exact h0.len,fun t k hk=>?_,h1.size⟩
  obtain⟨_,a,k1,k2⟩:=h0.rel t k hk
  obtain⟨k3,x,k4,k5⟩:=h1.rel t k hk
  refine⟨k3,?_⟩
  rcases hx.2 k x k4 with e1 | ⟨e1,e2⟩
  · rcases ha.2 k a k1 with e3 | ⟨e3, e4⟩
    · rw[e1]at e3
      injection e3 with e3
      subst e3
      exact⟨_,e1,AW.back le k5 k2⟩
    · rw[e4]at e1
      injection e1 with e1
      subst e1
      cases k5 with
      | any h=>exact⟨_,e4,.any h⟩
  · exact⟨_,e2,.any (Nh e1 k5)⟩
theorem Nm{fn:Func}{var:List AV}{tmps:Array Value}(h:A6 P ρ fn var tmps){t:Tmp}{j:Nat}(hp:Az (Ak P fn) t=some j){v:AV}{v':Value}(hv:AW ρ v v')(ht:t<tmps.size):A6 P ρ fn (Fo v var j) (tmps.setIfInBounds t v'):=by
 refine⟨by rw[Fp,qN];exact h.len,fun u k hk=>?_,by rw[Array.size_setIfInBounds];exact h.size⟩
 obtain⟨g1,x,g2,g3⟩:=h.rel u k hk
 refine⟨by rw[Array.size_setIfInBounds];exact g1,?_⟩
 have hjl:j<var.length:=by rw[h.len];exact DH hp
 by_cases e:u=t
 ·subst e
  rw[hp]at hk
  injection hk with hk
  subst hk
  exact⟨v,by rw[Fp];simp[hjl],by simpa[Array.getD_eq_getD_getElem?,ht]using hv⟩
 ·have ejk:j≠k:=fun e'=>by subst e';exact e (GS hk hp)
  refine⟨x,by rw[Fp,qM ejk];exact g2,?_⟩
  have:(tmps.setIfInBounds t v').getD u undef=tmps.getD u undef:=by
   simp[Array.getD_eq_getD_getElem?,Array.getElem?_setIfInBounds_ne (Ne.symm e)]
  rw[this]
  exact g3
theorem IV{fn:Func}{var:List AV}{tmps:Array Value}(h:A6 P ρ fn var tmps){t:Tmp}(hp:Az (Ak P fn) t=none)(v':Value):A6 P ρ fn var (tmps.setIfInBounds t v'):=by
 refine⟨h.len,fun u k hk=>?_,by rw[Array.size_setIfInBounds];exact h.size⟩
 obtain⟨g1,x,g2,g3⟩:=h.rel u k hk
 refine⟨by rw[Array.size_setIfInBounds];exact g1,x,g2,?_⟩
 have e:u≠t:=fun e=>by subst e;rw[hp]at hk;cases hk
 have:(tmps.setIfInBounds t v').getD u undef=tmps.getD u undef:=by
  simp[Array.getD_eq_getD_getElem?,Array.getElem?_setIfInBounds_ne (Ne.symm e)]
 rw[this]
 exact g3
theorem MG:∀ {l:List Nat}{ds ds':List Deferred},Bs ρ l ds→Bs ρ1 l ds'→ρ.le ρ1→ds'=ds
 | [],ds,ds',h,h',_=>by
  have h:ds=[]:=h
  have h':ds'=[]:=h'
  rw[h,h']
 | i::l,ds,ds',⟨rb,d1,h1,h2,h3⟩,⟨rb',d2,k1,k2,k3⟩,le=>by
  have:=le _ _ h1
  rw[k1]at this
  injection this with this
  subst this
  rw[h2,k2,MG h3 k3 le]
theorem Jl{n:Nat}{h:AS A8}{i:Nat}{o:A8}(hg:(frz n h).heap.get i=some o):∃o',h.get i=some o'∧jU o'=some o:=by
 unfold frz at hg
 simpa only[AS.get_mapO,nk]using hg
theorem Jk{o o':A8}(h:jU o'=some o):wr o=false∧Fa o=Fa o'∧∀ {ρ:BA}{w:World}{rb:RB},FA P ρ w o' rb→FA P ρ w o rb:=by
 cases o' with
 | row r =>
  injection h with h
  subst h
  exact⟨rfl,rfl,fun {ρ w rb} hok=>by
   have hok:CI ρ w r rb:=hok
   exact(show CI ρ w { r with mode:=.ro,par:=none } rb from⟨hok.cells,hok.le,hok.sz,hok.tight,fun e=>absurd rfl e,hok.base,hok.gl,fun p e=>by cases e⟩)⟩
 | map kt es=>injection h with h;subst h;exact⟨rfl,rfl,fun hok=>hok⟩
 | mapRo kt es=>injection h with h;subst h;exact⟨rfl,rfl,fun hok=>hok⟩
 | loop l=>cases h
 | mark=>cases h
 | iter a b=>cases h
theorem BE.frz(h:BE P ρ s w)(n:Nat):BE P ρ (frz n s.heap) w:=by
 refine⟨fun i o rb hi hr=>?_,h.lt,fun i j oi oj ri rj hne hi hj hri hrj hb hw=>?_,fun i o g hi hg=>?_⟩
 ·obtain⟨o',h1,h2⟩:=Jl hi
  exact(Jk h2).2.2 (h.obj i _ rb h1 hr)
 ·obtain⟨o',_,h2⟩:=Jl hj
  rw[(Jk (P:=P) h2).1]at hw
  cases hw
 ·obtain⟨o',h1,h2⟩:=Jl hi
  rw[(Jk (P:=P) h2).2.1]at hg
  exact h.glb i _ g h1 hg
theorem Im(Q0:Program)(n:Nat)(t:AS A8)(b:Nat):¬ Fs ρ (frz n t) b:=by
 rintro⟨i,o,rb,h1,h2,_⟩
 obtain⟨o',_,h3⟩:=Jl h1
 rw[(Jk (P:=Q0) h3).1]at h2
 cases h2
theorem Ax.frz(h:Ax ρ s):Ax ρ (frz s.next s.heap):=fun i hi=>by
 refine⟨(h i hi).1,?_⟩
 unfold Am.frz
 simp only[AS.get_mapO]
 rw[(h i hi).2];rfl
structure Hd(w0 w:World)(bm clock:Nat)(seen:Array Nat):Prop where
 lt:w0.heap.size<w.heap.size
 old:∀b,b<w0.heap.size→w.heap[b]? = w0.heap[b]?
 os:w.os=w0.os
 tape:w.tape=w0.tape
 output:w.output=w0.output
 it:∃c0,clock≤c0∧w.heap[w0.heap.size]? = some (.mapIter (some bm) clock seen c0)
def Bt(ρ:BA)(s:AD)(w0:World):BA:=Bn ρ s.next ⟨w0.heap.size,0,0,0⟩
theorem Hd.inv{bm clock:Nat}{seen:Array Nat}(hd:Hd w w1 bm clock seen)(h:BE P ρ s w)(hf:Ax ρ s):BE P (Bt ρ s w) ⟨s.next+1,s.heap⟩ w1:=by
  have hn:=hf s.next (nl _)
  have hle:ρ.le (Bt ρ s w):=BJ hn.1
  have hr:∀i o rb,s.heap.get i=some o→Bt ρ s w i=some rb→ρ i=some rb:=fun i o rb hi hr=>by
    have:i≠s.next:=fun e=>by subst e;rw[hn.2]at hi;cases hi
    unfold Bt at hr
    rw[AQ _ this]at hr
    exact hr
  refine⟨fun i o rb hi hri=>?_,fun i rb hri=>?_,fun i j oi oj ri rj hne hi hj hri hrj=>h.sep i j oi oj ri rj hne hi hj (hr i oi ri hi hri) (hr j oj rj hj hrj),fun i o g hi hg=>?_⟩
  · have hi : s.heap.get i = some o := hi
    have h1:=hr i o rb hi hri
    exact(h.obj i o rb hi h1).mono hle (hd.old _ (h.lt i rb h1))
  · unfold Bt at hri
    by_cases e:i=s.next
    · subst e
      rw[AY]at hri
      injection hri with hri
      subst hri
      exact hd.lt
    · rw[AQ _ e]at hri
      have:=h.lt i rb hri
      exact Nat.lt_trans this hd.lt
  · obtain⟨rb,h1⟩:=h.glb i o g hi hg
    exact⟨rb,hle _ _ h1⟩
theorem Oc(hf:Ax ρ s):Ax (Bt ρ s w) ⟨s.next+1,s.heap⟩:=fun i hi=>by
 have hi:s.next+1≤i:=hi
 refine⟨?_,(hf i (by omega)).2⟩
 unfold Bt
 rw[AQ _ (by omega)]
 exact(hf i (by omega)).1
theorem Hd.fr{bm clock:Nat}{seen:Array Nat}(hd:Hd w w1 bm clock seen)(hf:Ax ρ s):Fr ρ s w (Bt ρ s w) ⟨s.next+1,s.heap⟩ w1:=by
 have hn:=hf s.next (nl _)
 refine⟨BJ hn.1,fun i hi ho=>?_,ot _,Nat.le_of_lt hd.lt,hd.os,hd.tape,hd.output,fun b hb _=>hd.old b hb,fun b hb=>?_,fun _ _ _=>rfl⟩
 ·have ho:i<s.next∨s.next+1≤i:=ho
  unfold Bt
  rw[AQ _ (by omega)]
  exact hi
 ·obtain⟨i,o,rb,h1,h2,h3,h4⟩:=hb
  have h1:s.heap.get i=some o:=h1
  have:i≠s.next:=fun e=>by subst e;rw[hn.2]at h1;cases h1
  unfold Bt at h3
  rw[AQ _ this]at h3
  exact .inl ⟨i,o,rb,h1,h2,h3,h4⟩
theorem Hd.step{bm clock:Nat}{seen seen':Array Nat}(hd:Hd w w1 bm clock seen){c1:Nat}(hc:clock≤c1)(hw:w2=w1∨w2=w1.drew):Hd w (setBlock w2 w.heap.size (.mapIter (some bm) clock seen' c1)) bm clock seen':=by
 have e:w2.heap=w1.heap∧w2.os=w1.os∧w2.tape=w1.tape∧w2.output=w1.output:=by
  rcases hw with rfl | rfl<;>exact⟨rfl,rfl,rfl,rfl⟩
 refine⟨?_,fun b hb=>?_,e.2.1.trans hd.os,e.2.2.1.trans hd.tape,e.2.2.2.trans hd.output,c1,hc,?_⟩
 ·show w.heap.size<(w2.heap.setIfInBounds _ _).size
  rw[Array.size_setIfInBounds,e.1]
  exact hd.lt
 ·show(w2.heap.setIfInBounds _ _)[b]? = _
  rw[Array.getElem?_setIfInBounds_ne (by omega),e.1]
  exact hd.old b hb
 ·show(w2.heap.setIfInBounds _ _)[w.heap.size]? = _
  rw[e.1]
  simp[hd.lt]
theorem Hd.round(Q0:Program){bm clock:Nat}{seen:Array Nat}(hd:Hd w w1 bm clock seen){n:Nat}{t:AS A8}(hfr:Fr ρ (frz n t) w1 ρ1 s1 w2):Hd w w2 bm clock seen:=by
 have hk:∀b,b<w1.heap.size→w2.heap[b]? = w1.heap[b]? := fun b hb=>hfr.keep b hb (Im Q0 n t b)
 obtain⟨c0,h1,h2⟩:=hd.it
 exact⟨ns hd.lt hfr.size,fun b hb=>(hk b (Nat.lt_trans hb hd.lt)).trans (hd.old b hb),hfr.os.trans hd.os,hfr.tape.trans hd.tape,hfr.output.trans hd.output,c0,h1,(hk _ hd.lt).trans h2⟩
end
section
variable{P:Program}{ρ ρ1 ρ2:BA}{s s1 s2:AD}{w w1 w2:World}{a:Act}{ops:Array Oper}{rnd:Option Nat}{Q:Exit→Act→World→Prop}
theorem HS{i:Nat}{o:Oper}{v':Value}{w':World}{K:Act→World→Prop}(ho:ops[i]? = some o)(hg:o.guard=none)(hd:∀c,o.op≠.defer c)(hr:(execOp a.eval o).run P w=.ok (.value v') w')
  (hk:K (a.put o.dst v') w'):wpOpIn (IX rnd) 0 P ops Q i K a w:=by
 unfold wpOpIn
 rw[ho]
 simp only
 rw[if_pos (by unfold Region.wanted;rw[hg])]
 refine⟨fun _ _=>trivial,?_⟩
 rw[Oper.semAt_eq _ _ _ hd,hr]
 exact hk
theorem CR{o:Oper}{x:Op×Tmp}(h:ES o=some x):o.guard=none∧o.dst=some x.2∧o.op=x.1:=by
 unfold ES at h
 split at h
 ·rename_i h1 h2
  injection h with h
  subst h
  exact⟨h1,h2,rfl⟩
 ·cases h
theorem N0{o:Op}{x:TypeId×Operand}(h:Pp o=some x):o=.load x.1 x.2:=by
 unfold Pp at h
 split at h
 ·injection h with h;subst h;rfl
 ·cases h
theorem Mr{o:Op}{x:TypeId×Tmp}(h:Mq o=some x):o=.range x.1 (.tmp x.2):=by
 unfold Mq at h
 split at h
 ·injection h with h;subst h;rfl
 ·cases h
theorem N1{o:Op}{x:Tmp}(h:Pq o=some x):o=.next (.tmp x) false:=by
 unfold Pq at h
 split at h
 ·injection h with h;subst h;rfl
 ·cases h
theorem Mp{o:Op}{x:Tmp}(h:Mo o=some x):o=.entry (.tmp x):=by
 unfold Mo at h
 split at h
 ·injection h with h;subst h;rfl
 ·cases h
theorem J8{o:Op}{x:Tmp}(h:R9 o=some x):o=.extract (.tmp x) 0:=by
 unfold R9 at h
 split at h
 ·injection h with h;subst h;rfl
 ·cases h
theorem Pr{o:Op}{x:Tmp}(h:UR o=some x):o=.assign (.tmp x):=by
 unfold UR at h
 split at h
 ·injection h with h;subst h;rfl
 ·cases h
theorem HU{l:List Oper}(h:ops.toList=l)(i:Nat):ops[i]? = l[i]? := by rw[← h];simp
theorem K4{l:List Oper}(h:ops.toList=l):ops.size=l.length:=by rw[← h];simp
structure ZK(ops:Array Oper)(ty:TypeId)(ad:Operand)(tm it:Tmp):Prop where
 ex:∃o0 o1,ops.toList=[o0,o1]∧(o0.guard=none∧o0.dst=some tm∧o0.op=.load ty ad)∧(o1.guard=none∧o1.dst=some it∧o1.op=.range ty (.tmp tm))
structure Mm(ops:Array Oper)(it tn ok:Tmp):Prop where
 ex:∃o0 o1,ops.toList=[o0,o1]∧(o0.guard=none∧o0.dst=some tn∧o0.op=.next (.tmp it) false)∧(o1.guard=none∧o1.dst=some ok∧o1.op=.extract (.tmp tn) 0)
structure Jx(ops:Array Oper)(it te tk key:Tmp):Prop where
 ex:∃o0 o1 o2,ops.toList=[o0,o1,o2]∧(o0.guard=none∧o0.dst=some te∧o0.op=.entry (.tmp it))∧(o1.guard=none∧o1.dst=some tk∧o1.op=.extract (.tmp te) 0)∧(o2.guard=none∧o2.dst=some key∧o2.op=.assign (.tmp tk))
theorem Nb{x:TypeId×Operand×Tmp×Tmp}(h:Na ops.toList=some x):ZK ops x.1 x.2.1 x.2.2.1 x.2.2.2:=by
 unfold Na at h
 split at h
 ·rename_i o0 o1 hl
  simp only[nk]at h
  obtain⟨p0,h1,p1,h2,l,h3,r,h4,h5⟩:=h
  obtain⟨h6,h7⟩:=AB h5
  simp only[Bool.and_eq_true]at h6
  injection h7 with h7
  subst h7
  obtain⟨a1,a2,a3⟩:=CR h1
  obtain⟨b1,b2,b3⟩:=CR h2
  rw[N0 h3]at a3
  rw[Mr h4,← Al h6.1,← Al h6.2]at b3
  exact⟨o0,o1,hl,⟨a1,a2,a3⟩,b1,b2,b3⟩
 ·cases h
theorem Nd{it:Tmp}{x:Tmp×Tmp}(h:Nc it ops.toList=some x):Mm ops it x.1 x.2:=by
 unfold Nc at h
 split at h
 ·rename_i o0 o1 hl
  simp only[nk]at h
  obtain⟨p0,h1,p1,h2,l,h3,r,h4,h5⟩:=h
  obtain⟨h6,h7⟩:=AB h5
  simp only[Bool.and_eq_true]at h6
  injection h7 with h7
  subst h7
  obtain⟨a1,a2,a3⟩:=CR h1
  obtain⟨b1,b2,b3⟩:=CR h2
  rw[N1 h3,Al h6.1]at a3
  rw[J8 h4,Al h6.2]at b3
  exact⟨o0,o1,hl,⟨a1,a2,a3⟩,b1,b2,b3⟩
 ·cases h
theorem Lm{it:Tmp}{x:Tmp×Tmp×Tmp}(h:LL it ops.toList=some x):Jx ops it x.1 x.2.1 x.2.2:=by
 unfold LL at h
 split at h
 ·rename_i o0 o1 o2 hl
  simp only[nk]at h
  obtain⟨p0,h1,p1,h2,p2,h0,l,h3,r,h4,k,h8,h5⟩:=h
  obtain⟨h6,h7⟩:=AB h5
  simp only[Bool.and_eq_true]at h6
  injection h7 with h7
  subst h7
  obtain⟨a1,a2,a3⟩:=CR h1
  obtain⟨b1,b2,b3⟩:=CR h2
  obtain⟨c1,c2,c3⟩:=CR h0
  rw[Mp h3,Al h6.1]at a3
  rw[J8 h4,Al h6.2.1]at b3
  rw[Pr h8,Al h6.2.2]at c3
  exact⟨o0,o1,o2,hl,⟨a1,a2,a3⟩,⟨b1,b2,b3⟩,c1,c2,c3⟩
 ·cases h
theorem CY{t:Tmp}{v:Value}(h:t<a.tmps.size):(a.put (some t) v).eval (.tmp t)=v:=by
 simp[Act.put,Act.eval,Array.getD_eq_getD_getElem?,h]
theorem Ox{i2:Nat}{it tn ok:Tmp}{r0:Addr}(h:Mm ops it tn ok)(hit:a.eval (.tmp it)=.pointer (some r0))(htn:tn<a.tmps.size)
    (hrun:∀ty:TypeId,∃l b w',l[0]? = some b∧(Instr.next (.pointer (some r0)) false ty).run P w=.ok (.tuple l) w'∧Q .normal ((a.put (some tn) (.tuple l)).put (some ok) b) w'):
    (Code.region i2 ops false).wpIn (IX rnd) 0 P Q a w:=by
  obtain⟨o0,o1,hl,⟨a1,a2,a3⟩,b1,b2,b3⟩:=h.ex
  obtain⟨l,b,w',h1,h2,h3⟩:=hrun o0.type
  refine wpIn_region ?_
  rw[K4 hl]
  show wpOpsIn (IX rnd) 0 P ops Q [0,1] a w
  rw[wpOpsIn_cons]
  refine HS (HU hl 0) a1 (fun c e=>by rw[a3]at e;cases e) (v':=.tuple l) (w':=w') ?_ ?_
  · simp only[execOp,a3,hit,Sem.run_bind,h2,Result.andThen,Sem.run_pure]
  · rw [wpOpsIn_cons, a2]
    refine HS (HU hl 1) b1 (fun c e=>by rw[b3]at e;cases e) (v':=b) (w':=w') ?_ ?_
    · simp only[execOp,b3,CY htn,Instr.extract,h1,Sem.run_bind,Result.andThen,Sem.run_pure]
    · rw[b2]
      exact h3
theorem M7           {i3 : Nat} {it te tk key : Tmp} {r0 : Addr} {l : Array Value} {b : Value} (h : Jx       ops it te tk key) (hit : a.eval (.tmp it) = .pointer (some r0)) (hte : te < a.tmps.size) (htk : tk < a.tmps.size)
    (hl0:l[0]? = some b) (hrun:(Instr.entry (.pointer (some r0))).run P w=.ok (.tuple l) w) (hq:Q .normal (((a.put (some te) (.tuple l)).put (some tk) b).put (some key) b) w):
    (Code.region i3 ops false).wpIn (IX rnd) 0 P Q a w:=by
  obtain⟨o0,o1,o2,hl,⟨a1,a2,a3⟩,⟨b1,b2,b3⟩,c1,c2,c3⟩:=h.ex
  refine wpIn_region ?_
  rw[K4 hl]
  show wpOpsIn (IX rnd) 0 P ops Q [0,1,2] a w
  rw[wpOpsIn_cons]
  refine HS (HU hl 0) a1 (fun c e=>by rw[a3]at e;cases e) (v':=.tuple l) (w':=w) ?_ ?_
  · simp only[execOp,a3,hit,Sem.run_bind,hrun,Result.andThen,Sem.run_pure]
  · rw [wpOpsIn_cons, a2]
    refine HS (HU hl 1) b1 (fun c e=>by rw[b3]at e;cases e) (v':=b) (w':=w) ?_ ?_
    · simp only[execOp,b3,CY hte,Instr.extract,hl0,Sem.run_bind,Result.andThen,Sem.run_pure]
    · rw [wpOpsIn_cons, b2]
      refine HS (HU hl 2) c1 (fun c e=>by rw[c3]at e;cases e) (v':=b) (w':=w) ?_ ?_
      · simp only[execOp,c3,CY (a:=a.put (some te) (.tuple l)) (t:=tk) (v:=b) (by rw[BT];exact htk),Sem.run_pure]
      · rw[c2]
        exact hq
structure R3(ρi:BA)(es:Array MapEntry)(f0 f1:AV→Option (List AV))(AF:List AV):Prop where
 ex:∀e∈es.toList,∃k,AW ρi k e.key∧(∃X,f0 k=some X∧Mk X AF)∧(∃X,f1 k=some X∧Mk X AF)
theorem Ig{id2:Nat}{e:I6}{K:Act→World→Prop}{Q':Exit→Act→World→Prop}(h:Ly id2 e=true)(hk:K a w):Exit.inBlock id2 (Exit.then K Q') (Fn e) a w:=by
 cases e with
 | normal=>exact hk
 | exit i =>
  have:i=id2:=Al h
  show(if i=id2 then _ else _)
  rw[if_pos this]
  exact hk
 | ret=>cases h
variable{fn:Func}{A0 AF:List AV}{marks:List Nat}{bm clock:Nat}{es:Array MapEntry}{it tn ok te tk key:Tmp}{jt jok jk:Nat}
structure UK(P:Program)(fn:Func)(it tn ok te tk key:Tmp)(jt jok jk:Nat):Prop where
 hjt:Az (Ak P fn) it=some jt
 hjok:Az (Ak P fn) ok=some jok
 hjk:Az (Ak P fn) key=some jk
 ntn:Az (Ak P fn) tn=none
 nte:Az (Ak P fn) te=none
 ntk:Az (Ak P fn) tk=none
 ltn:tn<fn.ntmps
 lte:te<fn.ntmps
 ltk:tk<fn.ntmps
 lok:ok<fn.ntmps
 lkey:key<fn.ntmps
 d1:jt≠jok
 d2:jt≠jk
 d3:jok≠jk
theorem TG{ρi:BA}{A:List AV}{tmps:Array Value}(hs:UK P fn it tn ok te tk key jt jok jk)(hv:A6 P ρi fn A tmps)(hj:Kx A jt=.ptr (some (s.next,0)))(hr:ρi s.next=some ⟨w.heap.size,0,0,0⟩):
  tmps.getD it undef=.pointer (some ⟨w.heap.size,0,none⟩):=by
 obtain⟨_,v,h1,h2⟩:=hv.rel it jt hs.hjt
 rw[Ky h1]at hj
 subst hj
 generalize tmps.getD it undef=x at h2
 cases h2 with
 | ptr h =>
  rw[hr]at h
  injection h with h
  subst h
  rfl
theorem Tx        {F : DS}  (hcode : IZ     P F) {f : FuncId} {ops2 ops3 : Array Oper} {i2 i3 idb id2 : Nat} {body : Code} {r : IY}   (hf : P.funcs[f]? = some fn) (hs : UK    P fn it tn ok te tk key r.jt r.jok r.jk) (h2 : Mm      ops2 it tn ok) (h3 : Jx       ops3 it te tk key)
    (hi:BE P ρ s w) (hfr:Ax ρ s) (hm:w.heap[bm]? = some (.map es clock)) (hst:MapKept.Stamped es clock) {rd:Option Nat} (hrnd:J1 ρ rd rnd) (hid:id2=r.id2)
    (hcov:Mk A0 AF) (hA0:Kx A0 r.jt=.ptr (some (s.next,0))) (hAF:Kx AF r.jt=.ptr (some (s.next,0)))
    (hro:R3 (Bt ρ s w) es (CN F rd r (Ai P f fn.ntmps (Ak P fn) body) A0 marks (frz (s.next+1) s.heap)) (CN F rd r (Ai P f fn.ntmps (Ak P fn) body) AF marks (frz (s.next+1) s.heap)) AF)
    (hq:∀a' w' seen',Hd w w' bm clock seen'→A6 P (Bt ρ s w) fn (Fo (.bool false) AF r.jok) a'.tmps→Bs (Bt ρ s w) marks a'.defers→Q .normal a' w'):
    ∀ (m:Nat) (A:List AV) (a:Act) (w1:World) (seen:Array Nat),(leftOf es seen).size<m→(A=AF∨A=A0∧0<(leftOf es seen).size)→Hd w w1 bm clock seen→A6 P (Bt ρ s w) fn A a.tmps→Bs (Bt ρ s w) marks a.defers →
      Code.roundsIn (IX rnd) 0 P (.seq (.region i2 ops2 false) (.seq (.cond (.tmp ok) .skip (.exit idb)) (.block id2 (.seq (.region i3 ops3 false) body)))) (Exit.inBlock idb Q) m a w1:=by
  intro m
  induction m with
  | zero=>intro A a w1 seen h;omega
  | succ m ih =>
    intro A a w1 seen hlt hA hd hv hmk
    have hlt0:bm<w.heap.size:=by
      rcases nm bm w.heap.size with h | h
      · exact h
      · simp[Array.getElem?_eq_none h]at hm
    have hn:=(hfr s.next (nl _)).1
    have hrit:Bt ρ s w s.next=some ⟨w.heap.size,0,0,0⟩:=AY _ _
    have hjA:Kx A r.jt=.ptr (some (s.next,0)):=by rcases hA with rfl | ⟨rfl,_⟩<;>assumption
    have hit:a.eval (.tmp it)=.pointer (some ⟨w.heap.size,0,none⟩):=TG hs hv hjA hrit
    have hm1:w1.heap[bm]? = some (.map es clock):=by rw[hd.old bm hlt0];exact hm
    obtain⟨c0,hc0,hiter⟩:=hd.it
    have hst':=(MapKept.stamped_iff es clock).1 hst
    have hsz:fn.ntmps≤a.tmps.size:=hv.size
    rw[roundsIn_succ]
    refine wpIn_seq (Ox h2 hit (ns hs.ltn hsz) fun ty=>?_)
    rcases run_next_at (P:=P) w1 ty w.heap.size bm clock c0 seen es clock hiter hm1 hst'.1 hc0 with⟨hz,hrun⟩ | ⟨e,he,w2,hw2,hrun⟩
    · refine⟨_,.bool false,w1,rfl,hrun,?_⟩
      have hAF':A=AF:=by
        rcases hA with h | ⟨_,h⟩
        · exact h
        · omega
      subst hAF'
      have hv1:A6 P (Bt ρ s w) fn A (a.put (some tn) (.tuple #[.bool false])).tmps:=IV hv hs.ntn _
      have hv2:A6 P (Bt ρ s w) fn (Fo (.bool false) A r.jok) ((a.put (some tn) (.tuple #[.bool false])).put (some ok) (.bool false)).tmps:=Nm hv1 hs.hjok (.bool false) (by rw[BT];exact ns hs.lok hsz)
      refine wpIn_seq (wpIn_cond (t:=false) ?_ ?_)
      · exact CY (by rw[BT];exact ns hs.lok hsz)
      · refine wpIn_exit ?_
        show(if idb=idb then Q .normal _ _ else _)
        rw[if_pos rfl]
        exact hq _ _ _ hd hv2 (by rw[B5,B5];exact hmk)
    · refine⟨_,.bool true,_,rfl,hrun,?_⟩
      have Jn:Hd w (setBlock w2 w.heap.size (.mapIter (some bm) clock (seen.push e.born) clock)) bm clock (seen.push e.born):=hd.step (nl _) hw2
      have hit3:(setBlock w2 w.heap.size (.mapIter (some bm) clock (seen.push e.born) clock)).heap[w.heap.size]? = some (.mapIter (some bm) clock (seen.push e.born) clock):=by
        have e1:w2.heap=w1.heap:=by rcases hw2 with rfl | rfl<;>rfl
        have hl:=hd.lt
        show(w2.heap.setIfInBounds _ _)[w.heap.size]? = _
        rw[e1]
        simp[hl]
      generalize setBlock w2 w.heap.size (.mapIter (some bm) clock (seen.push e.born) clock)=w3 at Jn hit3
      have hm3:w3.heap[bm]? = some (.map es clock):=by rw[Jn.old bm hlt0];exact hm
      obtain⟨hes,_⟩:=mem_left he
      obtain⟨k,hk,hk0,hk1⟩:=hro.ex e hes
      have hround:∃X,CN F rd r (Ai P f fn.ntmps (Ak P fn) body) A marks (frz (s.next+1) s.heap) k=some X∧Mk X AF:=by
        rcases hA with rfl | ⟨rfl,_⟩<;>assumption
      have hcA:Mk A AF:=by
        rcases hA with rfl | ⟨rfl,_⟩
        · exact .refl _
        · exact hcov
      obtain⟨X,hround,hcX⟩:=hround
      have hv1:A6 P (Bt ρ s w) fn A (a.put (some tn) (.tuple #[.bool true,e.key,e.val])).tmps:=IV hv hs.ntn _
      have hv2:A6 P (Bt ρ s w) fn (Fo (.bool true) A r.jok) ((a.put (some tn) (.tuple #[.bool true,e.key,e.val])).put (some ok) (.bool true)).tmps:=Nm hv1 hs.hjok (.bool true) (by rw[BT];exact ns hs.lok hsz)
      have hjA2:Kx (Fo (.bool true) A r.jok) r.jt=.ptr (some (s.next,0)):=by rw[E5 hs.d1];exact hjA
      refine wpIn_seq (wpIn_cond (t:=true) ?_ (wpIn_skip ?_))
      · exact CY (by rw[BT];exact ns hs.lok hsz)
      show Code.wpIn (IX rnd) 0 P _ _ _ _
      have hmk2:Bs (Bt ρ s w) marks ((a.put (some tn) (.tuple #[.bool true,e.key,e.val])).put (some ok) (.bool true)).defers:=by rw[B5,B5];exact hmk
      have hsz2:fn.ntmps≤((a.put (some tn) (.tuple #[.bool true,e.key,e.val])).put (some ok) (.bool true)).tmps.size:=hv2.size
      generalize (a.put (some tn) (.tuple #[.bool true,e.key,e.val])).put (some ok) (.bool true)=a2 at hv2 hmk2 hsz2
      refine wpIn_block (wpIn_seq (M7 h3 (TG hs hv2 hjA2 hrit) (ns hs.lte hsz2) (ns hs.ltk hsz2) (l:=#[e.key,e.val]) (b:=e.key) rfl (run_entry_at w3 w.heap.size bm clock seen es clock e hit3 hm3 hes hst'.2.1) ?_))
      show Code.wpIn (IX rnd) 0 P _ _ _ _
      have hv3:A6 P (Bt ρ s w) fn (Fo k (Fo (.bool true) A r.jok) r.jk) (((a2.put (some te) (.tuple #[e.key,e.val])).put (some tk) e.key).put (some key) e.key).tmps:=by
        have g1:A6 P (Bt ρ s w) fn (Fo (.bool true) A r.jok) (a2.put (some te) (.tuple #[e.key,e.val])).tmps:=IV hv2 hs.nte _
        have g2:A6 P (Bt ρ s w) fn (Fo (.bool true) A r.jok) ((a2.put (some te) (.tuple #[e.key,e.val])).put (some tk) e.key).tmps:=IV g1 hs.ntk _
        exact Nm g2 hs.hjk hk (by rw[BT,BT];exact ns hs.lkey hsz2)
      have hmk3:Bs (Bt ρ s w) marks (((a2.put (some te) (.tuple #[e.key,e.val])).put (some tk) e.key).put (some key) e.key).defers:=by rw[B5,B5,B5];exact hmk2
      generalize ((a2.put (some te) (.tuple #[e.key,e.val])).put (some tk) e.key).put (some key) e.key=a3 at hv3 hmk3
      unfold CN at hround
      simp only[nk]at hround
      obtain⟨q,hq1,hq2⟩:=hround
      obtain⟨hq3,hq4⟩:=AB hq2
      injection hq4 with hq4
      subst hq4
      simp only[Bool.and_eq_true]at hq3
      have hmkq:=IQ hq3.2
      refine hcode f fn body rd rnd _ marks (frz (s.next+1) s.heap) q (Bt ρ s w) w3 a3 _ hf hq1 ⟨(Jn.inv hi hfr).frz (s.next+1),(Oc hfr).frz,hv3,hmk3,hrnd.mono (BJ hn)⟩ ?_
      intro a4 w4 ρ4 g
      have hle4:=g.fr.le
      have hd4:Hd w w4 bm clock (seen.push e.born):=Jn.round P (t:=s.heap) (n:=s.next+1) g.fr
      have hmg:A6 P (Bt ρ s w) fn AF a4.tmps:=RW hv g.vars hle4 hcA hcX
      have hmk4:Bs (Bt ρ s w) marks a4.defers:=by
        have:=g.marks
        rw[hmkq]at this
        rw[MG hmk3 this hle4]
        exact hmk3
      subst hid
      refine Ig hq3.1 ?_
      exact ih AF a4 w4 (seen.push e.born) (by have:=left_shrinks es seen e he;omega) (.inl rfl) hd4 hmg hmk4
theorem LS(o:Option IY)(x y:Af):LQ o x y=.seq x y∨∃r c,LQ o x y=.rangeMap r c∧o=some r∧Gq y=some c:=by
 unfold LQ
 cases o with
 | none=>exact .inl rfl
 | some r =>
  cases h:Gq y with
  | none=>simp[h]
  | some c=>exact .inr ⟨r,c,rfl,rfl,rfl⟩
theorem IL{g:AV→Option (List AV)}{B:List AV}:∀ {l:List (AV×AV)},ET g B l=true→∀x∈l,∃X,g x.1=some X∧Mk X B
 | [],h,x,hx=>by cases hx
 | e::l,h,x,hx=>by
  unfold ET at h
  simp only[Bool.and_eq_true]at h
  rcases List.mem_cons.1 hx with rfl | hx
  ·have h1:=h.1
   cases he:g x.1 with
   | none=>rw[he]at h1;cases h1
   | some X=>rw[he]at h1;exact⟨X,rfl,OR h1⟩
  ·exact IL h.2 x hx
theorem JS{g:AV→Option (List AV)}:∀ {l:List (AV×AV)}{B C:List AV},HZ g B l=some C→Mk B C∧∀x∈l,∃X,g x.1=some X∧Mk X C
 | [],B,C,h=>by injection h with h;subst h;exact⟨.refl _,fun x hx=>by cases hx⟩
 | e::l,B,C,h=>by
  unfold HZ at h
  simp only[nk]at h
  obtain⟨X,h1,B',h2,h3⟩:=h
  obtain⟨g1,g2⟩:=Ks h2
  obtain⟨g3,g4⟩:=JS h3
  refine⟨g1.trans g3,fun x hx=>?_⟩
  rcases List.mem_cons.1 hx with rfl | hx
  ·exact⟨X,h1,g2.trans g3⟩
  ·exact g4 x hx
theorem Dz.mem{l:List (AV×AV)}{l':List MapEntry}(h:Dz ρ l l'):∀e∈l',∃x∈l,AW ρ x.1 e.key:=by
 induction h with
 | nil=>intro e he;cases he
 | cons hk hv hs ih =>
  intro e he
  rcases List.mem_cons.1 he with rfl | he
  ·exact⟨_,oK ..,hk⟩
  ·obtain⟨x,h1,h2⟩:=ih e he
   exact⟨x,oN _ h1,h2⟩
theorem jl     {F : DS}  (hcode : IZ     P F) {f : FuncId} {c b : Code} {r : IY}   {cb : Af}    {rd : Option Nat} {var : List AV} {res : A5}   (hf : P.funcs[f]? = some fn) (hr : G9    P fn.ntmps (Ak     P fn) c b = some r)
    (hcb:Gq (Ai P f fn.ntmps (Ak P fn) b)=some cb) (hc:Zg F rd r cb var marks s=some res) (hb:HF P fn ρ s w var marks rd rnd a)
    (hq:∀a' w' ρ',HG P fn ρ s w res a' w' ρ'→Q (Fn res.exit) a' w'):(Code.seq c b).wpIn (IX rnd) 0 P Q a w:=by
  unfold G9 at hr
  split at hr<;>first | (cases hr;done) | skip
  rename_i b i1 ops1 d1
  simp only[nk]at hr
  obtain⟨p,hp,hr⟩:=hr
  unfold Yk at hp
  split at hp<;>first | (cases hp;done) | skip
  rename_i idb i2 ops2 tc ide id2 i3 ops3 body
  obtain⟨HN,hp⟩:=AB hp
  simp only[nk]at hp
  obtain⟨h,hh,n,hn,e,he,hp⟩:=hp
  obtain⟨hg,hp⟩:=AB hp
  simp only[Bool.and_eq_true]at hg
  injection hp with hpe
  have e1:=Al hg.1
  have e2:=Al hg.2
  subst e1
  subst e2
  cases d1 with
  | true=>cases HN
  | false =>
  have H1:=Nb hh
  have H2:=Nd hn
  have H3:=Lm he
  have hcb':cb=Ai P f fn.ntmps (Ak P fn) body:=by
    simp only[Ai]at hcb
    rcases LS (G9 P fn.ntmps (Ak P fn) (.region i2 ops2 false) (.seq (.cond (.tmp n.2) .skip (.exit ide)) (.block id2 (.seq (.region i3 ops3 false) body)))) (Ai P f fn.ntmps (Ak P fn) (.region i2 ops2 false)) (Ai P f fn.ntmps (Ak P fn) (.seq (.cond (.tmp n.2) .skip (.exit ide)) (.block id2 (.seq (.region i3 ops3 false) body))))with h1 | ⟨r',c',h1,h2,_⟩
    · simp only[Ai]at h1
      rw[h1]at hcb
      rcases LS (G9 P fn.ntmps (Ak P fn) (.region i3 ops3 false) body) (Ai P f fn.ntmps (Ak P fn) (.region i3 ops3 false)) (Ai P f fn.ntmps (Ak P fn) body)with h2 | ⟨r',c',h2,_,_⟩
      · simp only[Ai]at h2
        rw[h2]at hcb
        simp only[G9,LQ,Gq]at hcb
        injection hcb with hcb
        exact hcb.symm
      · simp only[Ai]at h2
        rw[h2]at hcb
        simp only[G9,LQ,Gq]at hcb
        cases hcb
    · simp only[G9,Yk]at h2
      cases h2
  subst hcb'
  clear hcb
  unfold SY at hr
  simp only[nk]at hr
  obtain⟨ad,hx,jt,hjt,jok,hjok,jk,hjk,hr⟩:=hr
  obtain⟨g1,hr⟩:=AB hr
  obtain⟨g2,hr⟩:=AB hr
  obtain⟨g3,hr⟩:=AB hr
  injection hr with hr
  subst hpe
  simp only at hx hjt hjok hjk g1 g2 g3 hr
  simp only[Bool.and_eq_true,Option.isNone_iff_eq_none,Bool.not_eq_true']at g1 g2 g3
  have blt:∀ {x y:Nat},Nat.blt x y=true→x<y:=fun h=>Nat.le_of_ble_eq_true h
  have bne:∀ {x y:Nat},Nat.beq x y=false→x≠y:=fun h e=>by subst e;simp at h
  have hs:UK P fn h.2.2.2 n.1 n.2 e.1 e.2.1 e.2.2 r.jt r.jok r.jk:=by
    subst hr
    exact⟨hjt,hjok,hjk,g1.2.1,g1.2.2.1,g1.2.2.2,blt g2.2.1,blt g2.2.2.1,blt g2.2.2.2.1,blt g2.2.2.2.2.2.1,blt g2.2.2.2.2.2.2,bne g3.2.1,bne g3.2.2.1,bne g3.2.2.2⟩
  have hrid:id2=r.id2:=by subst hr;rfl
  have hrad:r.ad=ad:=by subst hr;rfl
  have hrrd:∀s v,r.rd s v=AC P s h.1 v:=by subst hr;intro s v;rfl
  clear hr
  unfold Zg at hc
  simp only[nk]at hc
  obtain⟨m,hm,es,hes,hc⟩:=hc
  rw[hrrd,hrad]at hm
  unfold M4 at hc
  simp only[nk]at hc
  obtain⟨AF,hAF,hc⟩:=hc
  injection hc with hc
  subst hc
  have hents:∃i kt es',m=.map (some i)∧es=es'∧(s.heap.get i=some (.map kt es')∨s.heap.get i=some (.mapRo kt es')):=by
    unfold Ss at hes
    split at hes<;>first | (cases hes;done) | skip
    rename_i i
    split at hes<;>first | (cases hes;done) | skip
    · rename_i kt es' hget
      injection hes with hes
      exact⟨i,kt,es',rfl,hes.symm,.inl hget⟩
    · rename_i kt es' hget
      injection hes with hes
      exact⟨i,kt,es',rfl,hes.symm,.inr hget⟩
  obtain⟨i,kt,es',rfl,rfl,hget⟩:=hents
  clear hes
  obtain⟨v',hrun,hv',hdrop⟩:=Kl hb.inv hm (K0 hb.vars hx)
  clear hdrop
  cases hv' with
  | map hρ =>
  rename_i rb
  obtain⟨esM,clock,hM,hst,⟨l,hperm,herel⟩,_⟩:=(show I8 P ρ w kt es rb from hget.elim (fun h=>hb.inv.obj i _ rb h hρ) (fun h=>hb.inv.obj i _ rb h hρ)).ex
  have hmt:∃k e,P.underlying h.1=some (.map k e):=by
    have:=g3.1
    unfold Ip at this
    split at this
    · rename_i k e hu;exact⟨k,e,hu⟩
    · cases this
  obtain⟨tk,te,hmt⟩:=hmt
  have hn0:=(hb.fresh s.next (nl _)).1
  have hle:ρ.le (Bt ρ s w):=BJ hn0
  have hrit:Bt ρ s w s.next=some ⟨w.heap.size,0,0,0⟩:=AY _ _
  obtain⟨o0,o1,hl,⟨a1,a2,a3⟩,b1,b2,b3⟩:=H1.ex
  have hsz:fn.ntmps≤a.tmps.size:=hb.vars.size
  refine wpIn_seq (wpIn_region ?_)
  rw[K4 hl]
  show wpOpsIn (IX rnd) 0 P ops1 _ [0,1] a w
  rw[wpOpsIn_cons]
  refine HS (HU hl 0) a1 (fun c e=>by rw[a3]at e;cases e) (v':=.map (some rb.b)) (w':=w) ?_ ?_
  · simp only[execOp,a3,hrun,Sem.run_bind,Result.andThen,Sem.run_pure]
  rw[wpOpsIn_cons,a2]
  refine HS (HU hl 1) b1 (fun c e=>by rw[b3]at e;cases e) (v':=.pointer (some ⟨w.heap.size,0,none⟩)) (w':=w.alloc (.mapIter (some rb.b) clock #[] clock)) ?_ ?_
  · simp only[execOp,b3,CY (ns (blt g2.1) hsz),Sem.run_bind,run_range_map w h.1 tk te rb.b esM clock hmt hM,Result.andThen,Sem.run_pure]
  rw[b2]
  show Code.wpIn (IX rnd) 0 P _ _ _ _
  have hd0:Hd w (w.alloc (.mapIter (some rb.b) clock #[] clock)) rb.b clock #[]:=
    ⟨by simp,fun b hb=>heap_alloc_old w _ hb,rfl,rfl,rfl,clock,nl _,heap_alloc_new w _⟩
  have hv0:A6 P (Bt ρ s w) fn (Fo (.ptr (some (s.next,0))) var r.jt) ((a.put (some h.2.2.1) (.map (some rb.b))).put (some h.2.2.2) (.pointer (some ⟨w.heap.size,0,none⟩))).tmps:=by
    have k1:A6 P (Bt ρ s w) fn var (a.put (some h.2.2.1) (.map (some rb.b))).tmps:=IV (hb.vars.mono hle) g1.1 _
    exact Nm k1 hs.hjt (AW.ptr (rb:=⟨w.heap.size,0,0,0⟩) (o:=0) hrit) (by rw[BT];exact ns (blt g2.2.2.2.2.1) hsz)
  have hmk0:Bs (Bt ρ s w) marks ((a.put (some h.2.2.1) (.map (some rb.b))).put (some h.2.2.2) (.pointer (some ⟨w.heap.size,0,none⟩))).defers:=by
    rw[B5,B5];exact hb.marks.mono hle
  generalize (a.put (some h.2.2.1) (.map (some rb.b))).put (some h.2.2.2) (.pointer (some ⟨w.heap.size,0,none⟩))=a0 at hv0 hmk0
  have hA0:Kx (Fo (.ptr (some (s.next,0))) var r.jt) r.jt=.ptr (some (s.next,0)):=IB (by rw[hb.vars.len];exact DH hs.hjt)
  generalize hA0e:Fo (.ptr (some (s.next,0))) var r.jt=A0 at hAF hv0 hA0
  have hleft:(leftOf esM #[]).size=es.length:=by
    have:leftOf esM #[]=esM:=by unfold leftOf;simp
    rw[this,herel.length,hperm.length_eq]
    simp
  unfold LM at hAF
  simp only[nk]at hAF
  obtain⟨A1,k1,k2⟩:=hAF
  obtain⟨k3,k4⟩:=AB k2
  injection k4 with k4
  subst k4
  simp only[Bool.and_eq_true]at k3
  have hjF:Kx A1 r.jt=.ptr (some (s.next,0)):=KR k3.2.1
  obtain⟨k5,k6⟩:=JS k1
  have k7:=IL k3.1
  have hro:R3 (Bt ρ s w) esM (CN F rd r (Ai P f fn.ntmps (Ak P fn) body) A0 marks (frz (s.next+1) s.heap)) (CN F rd r (Ai P f fn.ntmps (Ak P fn) body) A1 marks (frz (s.next+1) s.heap)) A1:=by
    refine⟨fun e he=>?_⟩
    obtain⟨x,hx1,hx2⟩:=herel.mem e (hperm.mem_iff.2 he)
    exact⟨x.1,hx2.mono hle,k6 x hx1,k7 x hx1⟩
  have hA:A0=A1∨A0=A0∧0<(leftOf esM #[]).size:=by
    rw[hleft]
    cases es with
    | nil=>injection k1 with k1;exact .inl k1
    | cons x l=>exact .inr ⟨rfl,by simp⟩
  refine wpIn_block (wpIn_loop_rounds ((leftOf esM #[]).size+1) ?_)
  refine Tx hcode hf hs H2 H3 hb.inv hb.fresh hM hst hb.rnd hrid k5 hA0 hjF hro ?_ _ A0 a0 _ #[] (og _) hA hd0 hv0 hmk0
  intro a' w' seen' hd' hv' hmk'
  exact hq a' w' (Bt ρ s w) ⟨hd'.inv hb.inv hb.fresh,Oc hb.fresh,hd'.fr hb.fresh,hv',hmk'⟩
end
end
end Go.Proofs.YtjnkfbpadpmakaaGreatDoor.Am
set_option linter.unusedVariables false
set_option linter.unusedSimpArgs false
namespace Go.Proofs.YtjnkfbpadpmakaaGreatDoor.Am
open Go
noncomputable section
section
variable{P:Program}{ρ ρ1 ρ2:BA}{s s1 s2:AD}{w w1 w2:World}
theorem Yi(hng:EL P){F:DS}(hcall:D9 P F.call){f:FuncId}{fn:Func}{g:Operand}{x:CX}{ps:Array Tmp}{assign body:Code}{rnd r:Option Nat}{var:List AV}{marks:List Nat}{s:AD}{res:A5}{ρ:BA}{w:World}{a:Act}{Q:Exit→Act→World→Prop}
    (hf:P.funcs[f]? = some fn) (hx:EG (Ak P fn) ⟨[],0⟩ g=some x) (hc:KM F rnd f (Co [] var x) ps assign body var marks s=some res) (hb:HF P fn ρ s w var marks rnd r a)
    (hq:∀a' w' ρ',HG P fn ρ s w res a' w' ρ'→Q (Fn res.exit) a' w'):(Code.rangeFunc g ps assign body).wpIn (IX r) 0 P Q a w:=by
  have hgv:AW ρ (Co [] var x) (a.eval g):=K0 hb.vars hx
  have res1:∀l:Nat,(resolve a.eval (rangeCall g l) 0:Sem Deferred)=Deferred.ofValue (a.eval g) #[.func (.yield l) #[] #[]]:=by
    intro l
    simp[resolve,rangeCall,Act.eval]
  refine wpIn_rangeFunc fun fn' _=>?_
  unfold KM at hc
  cases rnd with
  | some l =>
    simp only[nk]at hc
    obtain⟨al,hl,hc⟩:=hc
    obtain⟨rb,h1,h2⟩:=hb.rnd
    subst h2
    have hgl:=Ch hl
    obtain⟨L,h0,_,_,_,_,_,⟨rd,HN,Jn⟩,_⟩:=(hb.inv.obj _ _ _ hgl h1:F4 P ρ w al rb).ex
    have hent:=G0 (P:=P) h0 fn' a.tmps ps assign body
    rw[Jn]at hent
    obtain⟨d,f0,args,k1,k2,k3⟩:=LG (r:=some rb.b) (Q:=Q) hng hcall hf hc hb.inv hb.fresh hb.vars hb.marks hgv HN fn' fun w' ρ' h=>hq a w' ρ' h
    refine⟨_,_,_,d,_,f0,args,_,hent,?_,fun _ _=>trivial,k2 _,(fun e=>by cases e),k3⟩
    rw[res1,k1]
    rfl
  | none =>
    have hr:r=none:=hb.rnd
    subst hr
    let rb:RB:=⟨w.heap.size,0,0,0⟩
    have hn0:=(hb.fresh _ (nl s.next)).1
    have hle:=BJ (rb:=rb) hn0
    obtain⟨hi1,hfr1⟩:=hb.inv.new (o:=.mark) (o':=.deferred (some [])) (rb:=rb) hn0 rfl (World.alloc_heap_new w _)
    have hff:=hb.fresh.new .mark rb
    have HN:Bn ρ s.next rb s.next=some rb:=AY _ _
    obtain⟨d,f0,args,k1,k2,k3⟩:=LG (r:=none) (Q:=Q) (a:={ a with defers:=[{ target:=.collected w.heap.size,args:=#[] }]++a.defers }) hng hcall hf hc hi1 hff (hb.vars.mono hle)
      ⟨rb,a.defers,HN,rfl,hb.marks.mono hle⟩ (hgv.mono hle) HN fn' fun w' ρ' h=>hq _ w' ρ' (HG.trans (r1:=res) (a1:=a) hfr1 h)
    have hsz:(w.alloc (.deferred (some []))).heap.size=w.heap.size+1:=by simp
    rw[hsz]at k1 k3
    refine⟨_,_,_,d,_,f0,args,_,run_enterLoop_outer fn' a.tmps ps assign body,?_,fun _ _=>trivial,k2 _,(fun e=>by cases e),k3⟩
    rw[res1,k1]
    rfl
theorem Ta        (hm : P.follows .mixedOrders = true) (hng : EL      P) {F : DS}  {n : Nat} (h : Nv    P F n) {call : FuncId → List AV → AD  → Option (AV × AD)}  {round : Nat → List AV → AD  → Option (AV × AD)}  : IZ     P ⟨Cc    F, call, round⟩ := by
  intro f fn c
  have hF:=h.fok hng
  induction c with
  | skip =>
    intro rnd r var marks s res ρ w a Q hf hc hb hq
    injection (show some (⟨.normal,var,marks,s⟩:A5)=some res from hc)with hc
    subst hc
    exact wpIn_skip (hq a w ρ ⟨hb.inv,hb.fresh,Fr.refl _ _ _,hb.vars,hb.marks⟩)
  | label l =>
    intro rnd r var marks s res ρ w a Q hf hc hb hq
    injection (show some (⟨.normal,var,marks,s⟩:A5)=some res from hc)with hc
    subst hc
    exact wpIn_label (hq a w ρ ⟨hb.inv,hb.fresh,Fr.refl _ _ _,hb.vars,hb.marks⟩)
  | ret =>
    intro rnd r var marks s res ρ w a Q hf hc hb hq
    injection (show some (⟨.ret,var,marks,s⟩:A5)=some res from hc)with hc
    subst hc
    exact wpIn_ret (hq a w ρ ⟨hb.inv,hb.fresh,Fr.refl _ _ _,hb.vars,hb.marks⟩)
  | exit id =>
    intro rnd r var marks s res ρ w a Q hf hc hb hq
    injection (show some (⟨.exit id,var,marks,s⟩:A5)=some res from hc)with hc
    subst hc
    exact wpIn_exit (hq a w ρ ⟨hb.inv,hb.fresh,Fr.refl _ _ _,hb.vars,hb.marks⟩)
  | goto l=>intro rnd r var marks s res ρ w a Q hf hc;cases hc
  | refuse u=>intro rnd r var marks s res ρ w a Q hf hc;cases hc
  | region id ops draw =>
    intro rnd r var marks s res ρ w a Q hf hc hb hq
    exact jd hm hF hc hb hq
  | seq x y ihx ihy =>
    intro rnd r var marks s res ρ w a Q hf hc hb hq
    have hc:Cc F rnd (LQ (G9 P fn.ntmps (Ak P fn) x y) (Ai P f fn.ntmps (Ak P fn) x) (Ai P f fn.ntmps (Ak P fn) y)) var marks s=some res:=hc
    rcases LS (G9 P fn.ntmps (Ak P fn) x y) (Ai P f fn.ntmps (Ak P fn) x) (Ai P f fn.ntmps (Ak P fn) y)with hs | ⟨rm,cb,hs,hr1,hr2⟩
    case inr =>
      rw[hs]at hc
      exact jl h.code hf hr1 hr2 hc hb hq
    rw[hs]at hc
    have hc:Hq F rnd (Ai P f fn.ntmps (Ak P fn) y) (F.code rnd (Ai P f fn.ntmps (Ak P fn) x) var marks s)=some res:=hc
    unfold Hq at hc
    split at hc<;>first | (cases hc;done) | skip
    rename_i r1 h1
    refine wpIn_seq (h.code f fn x rnd r var marks s r1 ρ w a _ hf h1 hb ?_)
    intro a' w' ρ' g
    unfold G1 at hc
    cases he:r1.exit with
    | normal =>
      rw[he]at hc
      refine h.code f fn y rnd r _ _ _ res ρ' w' a' Q hf hc (g.begins hb) ?_
      intro a2 w2 ρ2 g2
      exact hq a2 w2 ρ2 (HG.trans (r1:=r1) (a1:=a') g.fr g2)
    | exit id =>
      rw[he]at hc
      injection hc with hc
      subst hc
      have:=hq a' w' ρ' g
      rw[he]at this
      exact this
    | ret =>
      rw[he]at hc
      injection hc with hc
      subst hc
      have:=hq a' w' ρ' g
      rw[he]at this
      exact this
  | cond o x y ihx ihy =>
    intro rnd r var marks s res ρ w a Q hf hc hb hq
    simp only[Ai]at hc
    cases ho:EG (Ak P fn) ⟨[],0⟩ o with
    | none=>rw[ho]at hc;cases hc
    | some z =>
      rw[ho]at hc
      have hc:OO F rnd (Ai P f fn.ntmps (Ak P fn) x) (Ai P f fn.ntmps (Ak P fn) y) var marks s (Co [] var z)=some res:=hc
      have hz:=K0 hb.vars ho
      unfold OO at hc
      split at hc<;>first | (cases hc;done) | skip
      rename_i t ht
      rw[ht]at hz
      have hev:a.eval o=.bool t:=by
        generalize a.eval o=y at hz
        cases hz;rfl
      refine wpIn_cond hev ?_
      cases t with
      | true=>exact h.code f fn x rnd r var marks s res ρ w a Q hf hc hb hq
      | false=>exact h.code f fn y rnd r var marks s res ρ w a Q hf hc hb hq
  | block id c ih =>
    intro rnd r var marks s res ρ w a Q hf hc hb hq
    have hc:KL id (F.code rnd (Ai P f fn.ntmps (Ak P fn) c) var marks s)=some res:=hc
    unfold KL at hc
    split at hc<;>first | (cases hc;done) | skip
    rename_i r1 h1
    refine wpIn_block (h.code f fn c rnd r var marks s r1 ρ w a _ hf h1 hb ?_)
    intro a' w' ρ' g
    unfold Jg at hc
    split at hc
    · rename_i id' he
      rw[he]
      simp only[Fn,Exit.inBlock]
      cases hbq:Nat.beq id' id with
      | true =>
        rw[hbq]at hc
        injection hc with hc
        subst hc
        rw[if_pos (Al hbq)]
        exact hq a' w' ρ' ⟨g.inv,g.fresh,g.fr,g.vars,g.marks⟩
      | false =>
        rw[hbq]at hc
        injection hc with hc
        subst hc
        have:=hq a' w' ρ' g
        rw[he]at this
        rw[if_neg (fun e=>by subst e;simp at hbq)]
        exact this
    · rename_i hne
      injection hc with hc
      subst hc
      have:=hq a' w' ρ' g
      cases he:r1.exit with
      | normal=>rw[he]at this;exact this
      | ret=>rw[he]at this;exact this
      | exit id'=>exact absurd he (hne id')
  | loop c ih =>
    intro rnd r var marks s res ρ w a Q hf hc hb hq
    have hc:Hq F rnd (.loop (Ai P f fn.ntmps (Ak P fn) c)) (F.code rnd (Ai P f fn.ntmps (Ak P fn) c) var marks s)=some res:=hc
    refine wpIn_loop_rounds (n+1) ?_
    rw[roundsIn_succ]
    unfold Hq at hc
    split at hc<;>first | (cases hc;done) | skip
    rename_i r1 h1
    refine h.code f fn c rnd r var marks s r1 ρ w a _ hf h1 hb ?_
    intro a' w' ρ' g
    unfold G1 at hc
    cases he:r1.exit with
    | normal =>
      rw[he]at hc
      refine h.loop f fn c rnd r _ _ _ res ρ' w' a' Q hf hc (g.begins hb) ?_
      intro a2 w2 ρ2 g2
      exact hq a2 w2 ρ2 (HG.trans (r1:=r1) (a1:=a') g.fr g2)
    | exit id =>
      rw[he]at hc
      injection hc with hc
      subst hc
      have:=hq a' w' ρ' g
      rw[he]at this
      exact this
    | ret =>
      rw[he]at hc
      injection hc with hc
      subst hc
      have:=hq a' w' ρ' g
      rw[he]at this
      exact this
  | scope c ih =>
    intro rnd r var marks s res ρ w a Q hf hc hb hq
    refine RY (ih rnd r var marks s res ρ w a _ hf hc hb ?_)
    intro a' w' ρ' g
    have:=hq a' w' ρ' g
    cases he:res.exit with
    | normal=>rw[he]at this;exact this
    | ret=>rw[he]at this;exact this
    | exit id'=>rw[he]at this;exact this
  | rangeFunc g ps x y ihx ihy =>
    intro rnd r var marks s res ρ w a Q hf hc hb hq
    simp only[Ai]at hc
    cases ho:EG (Ak P fn) ⟨[],0⟩ g with
    | none=>rw[ho]at hc;cases hc
    | some z =>
      rw[ho]at hc
      exact Yi hng h.call hf ho hc hb hq
theorem Tn{F:DS}{n:Nat}(h:Nv P F n){call:FuncId→List AV→AD→Option (AV×AD)}{round:Nat→List AV→AD→Option (AV×AD)}:R0 P ⟨Cc F,call,round⟩ (n+1):=by
  intro f fn c rnd r var marks s res ρ w a Q hf hc hb hq
  have hc:Hq F rnd (.loop (Ai P f fn.ntmps (Ak P fn) c)) (F.code rnd (Ai P f fn.ntmps (Ak P fn) c) var marks s)=some res:=hc
  rw[roundsIn_succ]
  unfold Hq at hc
  split at hc<;>first | (cases hc;done) | skip
  rename_i r1 h1
  refine h.code f fn c rnd r var marks s r1 ρ w a _ hf h1 hb ?_
  intro a' w' ρ' g
  unfold G1 at hc
  cases he:r1.exit with
  | normal =>
    rw[he]at hc
    refine h.loop f fn c rnd r _ _ _ res ρ' w' a' Q hf hc (g.begins hb) ?_
    intro a2 w2 ρ2 g2
    exact hq a2 w2 ρ2 (HG.trans (r1:=r1) (a1:=a') g.fr g2)
  | exit id =>
    rw[he]at hc
    injection hc with hc
    subst hc
    have:=hq a' w' ρ' g
    rw[he]at this
    exact this
  | ret =>
    rw[he]at hc
    injection hc with hc
    subst hc
    have:=hq a' w' ρ' g
    rw[he]at this
    exact this
theorem ZZ{F:DS}(hcode:IZ P F){f:FuncId}{aS:List AV}{v:AV}{as':Array Value}(hc:GB P F aS s (AN P f)=some (v,s1))(hi:BE P ρ s w)(hfr:Ax ρ s)(ha:AP ρ aS as'.toList):
  (∃fn c,P.funcs[f]? = some fn∧fn.body=some c)∧CallsIn Fence.wide 0 P f as' w (E2 P ρ s w v s1):=by
 unfold GB at hc
 simp only[nk]at hc
 obtain⟨cf,h1,hc⟩:=hc
 unfold AN at h1
 simp only[nk]at h1
 obtain⟨fn,h2,c,h3,h4⟩:=h1
 obtain⟨h5,h6⟩:=AB h4
 simp only[nk]at h6
 obtain⟨cr,h7,h8⟩:=h6
 injection h8 with h8
 subst h8
 simp only at hc
 cases hb:Nat.beq aS.length (DE fn)with
 | false=>rw[hb]at hc;cases hc
 | true =>
  rw[hb]at hc
  simp only[cond_true]at hc
  refine⟨⟨fn,c,h2,h3⟩,callsIn_of_wp_marks h2 h3 trivial ?_⟩
  unfold Jh at hc
  simp only[nk]at hc
  obtain⟨res,hr,hc⟩:=hc
  have hend:Sn res.exit=true∧((DZ res.st res.marks).bind fun s=>(Bk P s res.var cr).bind fun l=>some (Ba l,s))=some (v,s1):=by
   cases he:Sn res.exit with
   | true=>rw[he]at hc;exact⟨rfl,hc⟩
   | false=>rw[he]at hc;cases hc
  obtain⟨he,hc⟩:=hend
  simp only[nk]at hc
  obtain⟨s2,hu,l,hl,hv⟩:=hc
  injection hv with hv
  injection hv with hv1 hv2
  subst hv1
  subst hv2
  have hvars:A6 P ρ fn (Ql aS (Ak P fn).length) (as'++Array.replicate (fn.ntmps - as'.size) undef):=ay ha (Al hb) (by simpa[oA]using h5)
  refine hcode f fn c none none _ [] s res ρ w _ _ h2 hr ⟨hi,hfr,hvars,rfl,rfl⟩ ?_
  intro a' w' ρ' g
  have hlv:LeavesInM Fence.wide 0 P fn a'.tmps (E2 P ρ s w (Ba l) s2) a'.defers .returning w':=by
   refine NF g.marks hu g.inv fun w2 k1 k2=>?_
   obtain⟨v',k3,k4⟩:=RJ k1 g.vars.rel h7 hl
   exact⟨v',k3,ρ',k4,k1,g.fr.trans k2⟩
  cases hx:res.exit with
  | normal=>exact hlv
  | ret=>exact hlv
  | exit id=>rw[hx]at he;cases he
theorem Ym       (hng : EL      P) {E : CP}  (hE : E.P = P) {F : DS}  (hcode : IZ     P F) {l : Nat} {rb : RB} {aS : List AV} {v : AV} {as' : Array Value} (hc : JU    E F l aS s = some (v, s1)) (hi : BE  P ρ s w) (hfr : Ax     ρ s) (hl : ρ l = some rb) (ha : AP    ρ aS as'.toList) :
    DT P ρ s w v s1 ((Instr.yield rb.b as').run P w):=by
  unfold JU at hc
  rw[hE]at hc
  simp only[nk]at hc
  obtain⟨al,h1,var,h2,ca,h3,cb,h4,hc⟩:=hc
  have hg:=Ch h1
  obtain⟨L,h0,_,_,e1,e2,e3,_,hrel,hsz,hlen⟩:=(hi.obj _ _ _ hg hl:F4 P ρ w al rb).ex
  unfold Di at h3 h4
  simp only[nk]at h3 h4
  obtain⟨fn,hf,h3⟩:=h3
  obtain⟨fn2,hf2,h4⟩:=h4
  rw[hf]at hf2
  injection hf2 with hf2
  subst hf2
  injection h3 with h3
  injection h4 with h4
  subst h3
  subst h4
  have hvi:C3 P al.fn=Ak P fn:=by unfold C3;rw[hf]
  rw[hvi]at hrel hlen h2
  obtain⟨z1,z2,z3,z4⟩:=Np (tmps:=L.tmps) h2 hrel hlen ha
  have hps:as'.size=L.params.size:=by rw[e1];simpa using z4.symm
  rw[run_yield h0 hps]
  refine .round (roundIn_of_wpIn trivial ?_)
  have hfold:(L.params.zip as').foldl (fun tmps (x:Tmp×Value)=>match x with | (t,a)=>tmps.setIfInBounds t a) L.tmps=(al.params.toList.zip as'.toList).foldl (fun tmps (p:Tmp×Value)=>tmps.setIfInBounds p.1 p.2) L.tmps:=by
    rw[← Array.foldl_toList,Array.toList_zip,e1]
  have hfold':(L.params.zip as').foldl (fun tmps (x:Tmp×Value)=>tmps.setIfInBounds x.1 x.2) L.tmps=(al.params.toList.zip as'.toList).foldl (fun tmps (p:Tmp×Value)=>tmps.setIfInBounds p.1 p.2) L.tmps:=hfold
  have hvars:A6 P ρ fn var ((al.params.toList.zip as'.toList).foldl (fun tmps (p:Tmp×Value)=>tmps.setIfInBounds p.1 p.2) L.tmps):=⟨z2,z1,by rw[z3];exact hsz fn hf⟩
  unfold Gr at hc
  simp only[nk]at hc
  obtain⟨q,hq1,hc⟩:=hc
  cases hn:H0 q.exit with
  | false=>rw[hn]at hc;cases hc
  | true =>
    rw[hn]at hc
    simp only[cond_true,nk]at hc
    obtain⟨r2,hr2,hc⟩:=hc
    cases hrd:Jo r2.state with
    | false=>rw[hrd]at hc;cases hc
    | true =>
      rw[hrd]at hc
      simp only[cond_true]at hc
      unfold IM at hc
      simp only[nk]at hc
      obtain⟨q2,hq2,r3,hr3,hc⟩:=hc
      injection hc with hc
      injection hc with hv hs
      subst hv
      subst hs
      have hqn:q.exit=.normal:=by cases he:q.exit<;>rw[he]at hn<;>first | rfl | cases hn
      have hst:r2.state=.ready:=by
        cases he:r2.state<;>rw[he]at hrd<;>first | rfl | cases hrd
      rw[e2,e3]
      refine hcode al.fn fn al.assign (some l) (some rb.b) var [] s q ρ w _ _ hf hq1 ⟨hi,hfr,by first | exact hvars | (simp only[];rw[hfold];exact hvars),rfl,⟨rb,hl,rfl⟩⟩ ?_
      intro a1 w1 ρ1 g1
      rw[hqn]
      have hl1:ρ1 l=some rb:=g1.fr.le _ _ hl
      have hg2:=Ch hr2
      obtain⟨L1,k0,k1,_⟩:=(g1.inv.obj _ _ _ hg2 hl1:F4 P ρ1 w1 r2 rb).ex
      obtain⟨i2,f2⟩:=Kp g1.inv hg2 hl1 (st:=.busy) (pd:=r2.pending) k0
      refine⟨_,run_beginRound k0 (by rw[k1,hst]),?_⟩
      have hpd:L1.pending=r2.pending:=by
        obtain⟨L1',k0',_,k2',_⟩:=(g1.inv.obj _ _ _ hg2 hl1:F4 P ρ1 w1 r2 rb).ex
        rw[k0]at k0';injection k0' with k0';injection k0' with k0';subst k0';exact k2'
      have hL1:({ L1 with state:=.busy }:Loop)={ L1 with state:=.busy,pending:=r2.pending }:=by rw[← hpd]
      rw[hL1]
      have hal:({ r2 with state:=.busy }:C4)={ r2 with state:=.busy,pending:=r2.pending }:=rfl
      refine hcode al.fn fn al.body (some l) (some rb.b) q.var q.marks _ q2 ρ1 _ a1 _ hf hq2 ⟨i2,g1.fresh.step f2,g1.vars,g1.marks,⟨rb,hl1,rfl⟩⟩ ?_
      intro a3 w3 ρ3 g3
      have hl3:ρ3 l=some rb:=g3.fr.le _ _ hl1
      have hg3:=Ch hr3
      obtain⟨L3,m0,m1,_⟩:=(g3.inv.obj _ _ _ hg3 hl3:F4 P ρ3 w3 r3 rb).ex
      have tot:=g1.fr.trans (f2.trans g3.fr)
      have fin:∀jump:Option Code,C9 q2.exit=jump→∃v w',(Instr.endRound rb.b jump).run P w3=.ok v w'∧E2 P ρ s w (.bool (C9 q2.exit).isNone) (setObj q2.st l (.loop { r3 with state:=Gv (C9 q2.exit),pending:=C9 q2.exit })) (.returned v) w':=by
        intro jump hj
        obtain⟨i4,f4⟩:=Kp g3.inv hg3 hl3 (st:=Gv jump) (pd:=jump) m0
        refine⟨_,_,run_endRound jump m0,ρ3,?_,?_,?_⟩
        · rw[hj];exact .bool _
        · rw[hj]
          have:(if jump.isNone=true then LoopState.ready else .done)=Gv jump:=by cases jump<;>rfl
          rw[this]
          exact i4
        · rw[hj]
          have:(if jump.isNone=true then LoopState.ready else .done)=Gv jump:=by cases jump<;>rfl
          rw[this]
          exact tot.trans f4
      cases he:q2.exit with
      | normal=>have:=fin none (by rw[he];rfl);rw[he]at this;exact this
      | ret=>have:=fin (some .ret) (by rw[he];rfl);rw[he]at this;exact this
      | exit id=>have:=fin (some (.exit id)) (by rw[he];rfl);rw[he]at this;exact this
theorem mR  (hm : P.follows .mixedOrders = true) (hng : EL      P) {E : CP}  (hE : E.P = P) (hnat : D9     P E.nat) : ∀ n, Nv    P (Dr   E n) n := by
  intro n
  induction n with
  | zero =>
    refine⟨?_,?_,?_,?_⟩
    · intro f fn c rnd r var marks s res ρ w a Q hf hc;cases hc
    · intro f fn c rnd r var marks s res ρ w a Q hf hc;cases hc
    · intro ρ s w f aS v s1 as' hc;cases hc
    · intro ρ s w l rb aS v s1 as' hc;cases hc
  | succ n ih =>
    refine⟨Ta hm hng ih,Tn ih,?_,?_⟩
    · intro ρ s w f aS v s1 as' hc hi hfr ha
      have hc:HC E (Dr E n) f aS s=some (v,s1):=hc
      unfold HC at hc
      split at hc
      · rename_i p hp
        injection hc with hc
        subst hc
        exact hnat ρ s w f aS _ _ as' hp hi hfr ha
      · rw[hE]at hc
        exact ZZ ih.code hc hi hfr ha
    · intro ρ s w l rb aS v s1 as' hc hi hfr hl ha
      exact Ym hng hE ih.code hc hi hfr hl ha
end
def gi:Nu:=fun _ _ _=>none
theorem YM(P:Program):D9 P gi:=fun _ _ _ _ _ _ _ _ hc=>by cases hc
def lr(P:Program):CP:=⟨P,gi⟩
def Kv (P : Program) : Bool := P.funcs.all fun fn => !(fn.name == "runtime.NumGoroutine")
theorem HR{P:Program}(h:Kv P=true):EL P:=by
 intro f fn hf
 unfold Kv at h
 rw[Array.all_eq_true_iff_forall_mem]at h
 have:=h fn (Array.mem_of_getElem? hf)
 simpa using this
def jj:BA:=fun _=>none
def ls:AD:=⟨0,.leaf⟩
theorem mM(P:Program)(w:World):BE P jj ls w:=⟨fun i o rb _ hr=>(by cases hr),fun i rb hr=>(by cases hr),fun i j oi oj ri rj _ _ _ hr=>(by cases hr),fun i o g hi=>(by cases hi)⟩
theorem jT:Ax jj ls:=fun i _=>⟨rfl,rfl⟩
structure Ml(W W':World):Prop where
 heap:∀b,b<W.heap.size→W'.heap[b]? = W.heap[b]?
 os:W'.os=W.os
 output:W'.output=W.output
 size:W.heap.size≤W'.heap.size
theorem aF{ρ ρ':BA}{s s':AD}{w w':World}(h:Fr ρ s w ρ' s' w')(hn:∀b,¬ Fs ρ s b):Ml w w':=
 ⟨fun b hb=>h.keep b hb (hn b),h.os,h.output,h.size⟩
theorem Ml.keptBut{W W':World}(h:Ml W W')(may:MemPlace→Prop):W.keptBut W' may:=by
 refine⟨h.os,h.output,fun i hi=>?_⟩
 rw[h.heap i hi]
 have:W.heap[i]? = some W.heap[i]:=Array.getElem?_eq_getElem hi
 rw[this]
 cases W.heap[i]with
 | cells c t fr=>exact⟨rfl,rfl,rfl,fun _ _=>rfl⟩
 | map es clock=>exact .inr ⟨rfl,rfl⟩
 | _=>rfl
theorem Ml.frozen{W W':World}(h:Ml W W')(a:Addr)(ha:a.block<W.heap.size):W'.frozen? a=W.frozen? a:=by simp[World.frozen?,h.heap _ ha]
section
open Go.ChangeShapes Go.WideShapes
theorem post_of_kept{H:Type}{enc:TypeId×Value→H}{P:Program}{f:Func}{s:ChangeSpec}{apart fresh handsOn again:Bool}{W W':World}{args:Array Value}{v:Value}{ds gs:List (DataW H)}{before pa pv:List MemPlace}
  (hW:DataW.Whole enc P f.params.toList s.vars apart W args.toList ds gs before)
  (hres:∀ (b:Nat) (sp:Nat→Bool) (hd:Bool),DataW.TrodAll enc P W' b sp hd f.resultTypes.toList (v.resultList f.resultTypes.size) (s.fn H (ds++gs)).results [])
  (hargs:∀sp:Nat→Bool,(∀p∈before,sp p.block=true)→DataW.TrodAll enc P W' 0 sp true f.params.toList args.toList (s.fn H (ds++gs)).args pa)
  (hvars:∀sp:Nat→Bool,(∀p∈before,sp p.block=true)→DataW.TrodVars enc P W' sp s.vars (s.fn H (ds++gs)).vars pv)
  (hps:before=pa++pv) (hk:Ml W W')
  (hok:∀ (j:Nat) (t:TypeId) (r:Value),f.resultTypes[j]? = some t→(v.resultList f.resultTypes.size)[j]? = some r→Value.okWide P W' .any 0 t r):
  s.post enc P f apart fresh handsOn again W args v W':=by
 have hold:∀p∈before,(fun b=>decide (b<W.heap.size)) p.block=true:=fun p hp=>by simpa using hW.lt p hp
 refine⟨ds,gs,before,[],pa,pv,hW,hres _ _ _,hargs _ hold,hvars _ hold,World.keptBut_mono (fun p hp=>⟨hp,?_⟩) (hk.keptBut _),fun _=>?_⟩
 ·rw[hps,List.mem_append]at hp
  exact Or.inr hp
 ·have hlt:=hW.lt
  obtain⟨_,_,_,_,_,hz,hn⟩:=hW
  refine⟨hok,_,_,([]++pa)++pv,⟨[]++pa,pv,trodAll_append (hargs _ (fun _ _=>rfl)) (hres _ _ _),hvars _ (fun _ _=>rfl),rfl,?_,?_⟩,?_⟩
  ·intro b off hp
   have hp':MemPlace.cell b off∈before:=by rw[hps];simpa using hp
   rw[hk.frozen _ (hlt _ hp')]
   exact hz b off hp'
  ·intro ha
   have:=hn ha
   rw[hps]at this
   simpa using this
  ·intro p hp _
   rw[hps]
   simpa using hp
end
structure DS.le(F G:DS):Prop where
 code:∀ {rnd:Option Nat} {c:Af} {var:List AV} {marks:List Nat} {s:AD} {r:A5},F.code rnd c var marks s=some r→G.code rnd c var marks s=some r
 call:∀ {f:FuncId} {aS:List AV} {s:AD} {p:AV×AD},F.call f aS s=some p→G.call f aS s=some p
 round:∀ {l:Nat} {aS:List AV} {s:AD} {p:AV×AD},F.round l aS s=some p→G.round l aS s=some p
section
variable{F G:DS}
theorem KO(h:F.le G){f:AV}{aS:List AV}{s:AD}{p:AV×AD}(hc:GD F f aS s=some p):GD G f aS s=some p:=by
 unfold GD at hc ⊢
 split at hc
 ·exact h.call hc
 ·exact h.round hc
 ·cases hc
theorem PS(h:F.le G){sh:Sh}{xs:List CX}{loc var:List AV}{s:AD}{p:AV×AD}(hc:jn F sh xs loc var s=some p):jn G sh xs loc var s=some p:=by
 cases sh<;>first | exact hc | exact h.call hc | skip
 cases xs with
 | nil=>cases hc
 | cons x xs=>exact KO h hc
theorem GJ(it:AA)(l:List AA)(loc var:List AV)(s:AD):EC F (it::l) loc var s=JI F it (EC F l) loc var s:=rfl
theorem H6{k k':UI}(hk:∀loc var s p,k loc var s=some p→k' loc var s=some p){ag:List F1}{d:JY}{loc var:List AV}{v:AV}{s:AD}{p:List AV×AD}(h:Cq ag d k loc var v s=some p):Cq ag d k' loc var v s=some p:=by
  cases d with
  | push =>
    simp only[Cq]at h ⊢
    cases hb:EB s (v::loc) var ag with
    | true=>rw[hb]at h;exact hk _ _ _ _ h
    | false=>rw[hb]at h;cases h
  | set j =>
    simp only[Cq]at h ⊢
    cases hb:EB s loc (Fo v var j) ag with
    | true=>rw[hb]at h;exact hk _ _ _ _ h
    | false=>rw[hb]at h;cases h
theorem GK(h:F.le G):∀ (l:List AA)(loc var:List AV)(s:AD)(p:List AV×AD),EC F l loc var s=some p→EC G l loc var s=some p:=by
 intro l
 induction l with
 | nil=>intro loc var s p hp;exact hp
 | cons it l ih =>
  intro loc var s p hp
  rw[GJ]at hp ⊢
  unfold JI at hp ⊢
  cases hj:UG loc var it.guard with
  | true=>rw[hj]at hp;cases hp
  | false =>
  rw[hj]at hp
  simp only at hp ⊢
  cases hw:Bd loc var it.guard with
  | true =>
   rw[hw]at hp
   simp only at hp ⊢
   unfold Jp at hp ⊢
   cases hs:jn F it.sh it.xs loc var s with
   | none=>rw[hs]at hp;cases hp
   | some q=>rw[hs]at hp;rw[PS h hs];exact H6 ih hp
  | false =>
   rw[hw]at hp
   exact H6 ih hp
theorem KN(h:F.le G){rnd:Option Nat}{b:Af}{r res:A5}(hc:G1 F rnd b r=some res):G1 G rnd b r=some res:=by
 unfold G1 at hc ⊢
 split at hc
 ·exact h.code hc
 ·exact hc
theorem Hp(h:F.le G){var:List AV}{f:AV}{params:Array Tmp}{assign body:Code}{fn:FuncId}{dfr:Nat}{marks:List Nat}{s:AD}{res:A5}
  (hc:Ev F var f params assign body fn dfr marks s=some res):Ev G var f params assign body fn dfr marks s=some res:=by
 unfold Ev Gd at hc ⊢
 simp only[nk]at hc ⊢
 obtain⟨q,h1,rest⟩:=hc
 have h':DS.le { F with round:=fun _ _ _=>none } { G with round:=fun _ _ _=>none }:=⟨h.code,h.call,fun h=>by cases h⟩
 exact⟨q,KO h' h1,rest⟩
theorem HA(h:F.le G){rnd:Option Nat}{r:IY}{body:Af}{A:List AV}{marks:List Nat}{s:AD}{k:AV}{B:List AV}(hc:CN F rnd r body A marks s k=some B):CN G rnd r body A marks s k=some B:=by
 unfold CN at hc ⊢
 simp only[nk]at hc ⊢
 obtain⟨q,h1,h2⟩:=hc
 exact⟨q,h.code h1,h2⟩
theorem IK{f g:AV→Option (List AV)}(hf:∀k B,f k=some B→g k=some B){B:List AV}:∀ {l:List (AV×AV)},ET f B l=true→ET g B l=true
 | [],h=>h
 | e::l,h=>by
  unfold ET at h ⊢
  simp only[Bool.and_eq_true]at h ⊢
  refine⟨?_,IK hf h.2⟩
  have h1:=h.1
  cases he:f e.1 with
  | none=>rw[he]at h1;cases h1
  | some X=>rw[he]at h1;rw[hf _ _ he];exact h1
theorem JR{f g:AV→Option (List AV)}(hf:∀k B,f k=some B→g k=some B):∀ {l:List (AV×AV)}{B C:List AV},HZ f B l=some C→HZ g B l=some C
 | [],_,_,h=>h
 | e::l,B,C,h=>by
  unfold HZ at h ⊢
  simp only[nk]at h ⊢
  obtain⟨X,h1,B',h2,h3⟩:=h
  exact⟨X,hf _ _ h1,B',h2,JR hf h3⟩
theorem PM(h:F.le G){rnd:Option Nat}{r:IY}{body:Af}{it:AV}{marks:List Nat}{s:AD}{A0:List AV}{l:List (AV×AV)}{C:List AV}(hc:LM F rnd r body it marks s A0 l=some C):LM G rnd r body it marks s A0 l=some C:=by
 unfold LM at hc ⊢
 simp only[nk]at hc ⊢
 obtain⟨A1,h1,h2⟩:=hc
 obtain⟨h3,h4⟩:(ET (CN F rnd r body A1 marks s) A1 l && (Et (Kx A1 r.jt) it && QK A0 A1))=true∧some A1=some C:=by
  cases hb:(ET (CN F rnd r body A1 marks s) A1 l && (Et (Kx A1 r.jt) it && QK A0 A1))with
  | true=>rw[hb]at h2;exact⟨rfl,h2⟩
  | false=>rw[hb]at h2;cases h2
 simp only[Bool.and_eq_true]at h3
 refine⟨A1,JR (fun k B=>HA h) h1,?_⟩
 have:=IK (fun k B=>HA h (A:=A1) (k:=k) (B:=B)) h3.1
 rw[this,h3.2.1,h3.2.2]
 exact h4
theorem RS(h:F.le G){rnd:Option Nat}{c:Af}{var:List AV}{marks:List Nat}{s:AD}{res:A5}(hc:Cc F rnd c var marks s=some res):Cc G rnd c var marks s=some res:=by
  cases c with
  | skip=>exact hc
  | ret=>exact hc
  | exit id=>exact hc
  | never=>exact hc
  | ops l =>
    simp only[Cc,Zf]at hc ⊢
    cases hi:EC F l [] var s with
    | none=>rw[hi]at hc;cases hc
    | some p=>rw[hi]at hc;rw[GK h _ _ _ _ _ hi];exact hc
  | seq a b =>
    simp only[Cc]at hc ⊢
    unfold Hq at hc ⊢
    cases ha:F.code rnd a var marks s with
    | none=>rw[ha]at hc;cases hc
    | some r=>rw[ha]at hc;rw[h.code ha];exact KN h hc
  | cond x a b =>
    simp only[Cc]at hc ⊢
    unfold OO at hc ⊢
    split at hc
    · split at hc
      · exact h.code hc
      · exact h.code hc
    · cases hc
  | block id c =>
    simp only[Cc]at hc ⊢
    unfold KL at hc ⊢
    cases ha:F.code rnd c var marks s with
    | none=>rw[ha]at hc;cases hc
    | some r=>rw[ha]at hc;rw[h.code ha];exact hc
  | loop c =>
    simp only[Cc]at hc ⊢
    unfold Hq at hc ⊢
    cases ha:F.code rnd c var marks s with
    | none=>rw[ha]at hc;cases hc
    | some r=>rw[ha]at hc;rw[h.code ha];exact KN h hc
  | rangeFunc fn f params assign body =>
    simp only[Cc]at hc ⊢
    unfold KM at hc ⊢
    cases rnd with
    | none=>exact Hp h hc
    | some l =>
      simp only[nk]at hc ⊢
      obtain⟨r,h1,h2⟩:=hc
      exact⟨r,h1,Hp h h2⟩
  | rangeMap r body =>
    simp only[Cc]at hc ⊢
    unfold Zg M4 at hc ⊢
    simp only[nk]at hc ⊢
    obtain⟨m,h1,es,h2,A,h3,h4⟩:=hc
    exact⟨m,h1,es,h2,A,PM h h3,h4⟩
theorem RT(h:F.le G){E:CP}{f:FuncId}{aS:List AV}{s:AD}{p:AV×AD}(hc:HC E F f aS s=some p):HC E G f aS s=some p:=by
 unfold HC at hc ⊢
 cases hn:E.nat f aS s with
 | some q=>rw[hn]at hc;exact hc
 | none =>
  rw[hn]at hc
  simp only at hc ⊢
  unfold GB at hc ⊢
  simp only[nk]at hc ⊢
  obtain⟨cf,h1,h2⟩:=hc
  refine⟨cf,h1,?_⟩
  cases hb:Nat.beq aS.length cf.na with
  | false=>rw[hb]at h2;cases h2
  | true =>
   rw[hb]at h2
   simp only[cond_true]at h2 ⊢
   unfold Jh at h2 ⊢
   simp only[nk]at h2 ⊢
   obtain⟨r,h3,h4⟩:=h2
   exact⟨r,h.code h3,h4⟩
theorem RU(h:F.le G){E:CP}{l:Nat}{aS:List AV}{s:AD}{p:AV×AD}(hc:JU E F l aS s=some p):JU E G l aS s=some p:=by
 unfold JU at hc ⊢
 simp only[nk]at hc ⊢
 obtain⟨r,h1,var,h2,ca,h3,cb,h4,hc⟩:=hc
 refine⟨r,h1,var,h2,ca,h3,cb,h4,?_⟩
 unfold Gr at hc ⊢
 simp only[nk]at hc ⊢
 obtain⟨q,h5,hc⟩:=hc
 refine⟨q,h.code h5,?_⟩
 cases hn:H0 q.exit with
 | false=>rw[hn]at hc;cases hc
 | true =>
  rw[hn]at hc
  simp only[cond_true,nk]at hc ⊢
  obtain⟨r2,h6,hc⟩:=hc
  refine⟨r2,h6,?_⟩
  cases hr:Jo r2.state with
  | false=>rw[hr]at hc;cases hc
  | true =>
   rw[hr]at hc
   simp only[cond_true]at hc ⊢
   unfold IM at hc ⊢
   simp only[nk]at hc ⊢
   obtain⟨q2,h7,rest⟩:=hc
   exact⟨q2,h.code h7,rest⟩
end
theorem Ng(E:CP):∀n,(Dr E n).le (Dr E (n+1)):=by
 intro n
 induction n with
 | zero=>exact⟨fun h=>(by cases h),fun h=>(by cases h),fun h=>(by cases h)⟩
 | succ n ih=>exact⟨fun h=>RS ih h,fun h=>RT ih h,fun h=>RU ih h⟩
theorem DS.le.refl(F:DS):F.le F:=⟨id,id,id⟩
theorem DS.le.trans{F G H:DS}(h:F.le G)(k:G.le H):F.le H:=⟨fun x=>k.code (h.code x),fun x=>k.call (h.call x),fun x=>k.round (h.round x)⟩
theorem Fk(E:CP){n m:Nat}(h:n≤m):(Dr E n).le (Dr E m):=by
 induction h with
 | refl=>exact DS.le.refl _
 | step _ ih=>exact ih.trans (Ng E _)
section
variable(E:CP)
def WC(rnd:Option Nat)(c:Af)(Q:A5→Prop)(var:List AV)(marks:List Nat)(s:AD):Prop:=∃n r,(Dr E n).code rnd c var marks s=some r∧Q r
def WI(l:List AA)(K:List AV→AD→Prop)(loc var:List AV)(s:AD):Prop:=∃n p,EC (Dr E n) l loc var s=some p∧K p.1 p.2
def WF(f:FuncId)(aS:List AV)(K:AV→AD→Prop)(s:AD):Prop:=∃n p,(Dr E n).call f aS s=some p∧K p.1 p.2
def WR(l:Nat)(aS:List AV)(K:AV→AD→Prop)(s:AD):Prop:=∃n p,(Dr E n).round l aS s=some p∧K p.1 p.2
end
section
variable{E:CP}{rnd:Option Nat}{Q Q':A5→Prop}{var loc:List AV}{marks:List Nat}{s:AD}{K K':AV→AD→Prop}{KI:List AV→AD→Prop}
theorem WC.mono{c:Af}(h:WC E rnd c Q var marks s)(hq:∀r,Q r→Q' r):WC E rnd c Q' var marks s:=let ⟨n,r,h1,h2⟩:=h;⟨n,r,h1,hq r h2⟩
theorem WF.mono{f:FuncId}{aS:List AV}(h:WF E f aS K s)(hq:∀v s',K v s'→K' v s'):WF E f aS K' s:=let ⟨n,r,h1,h2⟩:=h;⟨n,r,h1,hq _ _ h2⟩
theorem WC.skip(h:Q ⟨.normal,var,marks,s⟩):WC E rnd .skip Q var marks s:=⟨1,_,rfl,h⟩
theorem WC.ret(h:Q ⟨.ret,var,marks,s⟩):WC E rnd .ret Q var marks s:=⟨1,_,rfl,h⟩
theorem WC.exit{id:Nat}(h:Q ⟨.exit id,var,marks,s⟩):WC E rnd (.exit id) Q var marks s:=⟨1,_,rfl,h⟩
def TL(E:CP)(rnd:Option Nat)(b:Af)(Q:A5→Prop)(r:A5):Prop:=match r.exit with
 | .normal=>WC E rnd b Q r.var r.marks r.st
 | _=>Q r
theorem PQ{a b:Af}{n:Nat}{r:A5}(h1:(Dr E n).code rnd a var marks s=some r)(h2:TL E rnd b Q r):∃m res,Hq (Dr E m) rnd b ((Dr E m).code rnd a var marks s)=some res∧Q res:=by
 unfold TL at h2
 cases he:r.exit with
 | normal =>
  rw[he]at h2
  obtain⟨m,res,h3,h4⟩:=h2
  refine⟨max n m,res,?_,h4⟩
  rw[(Fk E (Nat.le_max_left n m)).code h1]
  simp only[Hq,G1,he]
  exact(Fk E (Nat.le_max_right n m)).code h3
 | exit id=>rw[he]at h2;exact⟨n,r,by rw[h1];simp only[Hq,G1,he],h2⟩
 | ret=>rw[he]at h2;exact⟨n,r,by rw[h1];simp only[Hq,G1,he],h2⟩
theorem WC.seq{a b:Af}(h:WC E rnd a (TL E rnd b Q) var marks s):WC E rnd (.seq a b) Q var marks s:=by
 obtain⟨n,r,h1,h2⟩:=h
 obtain⟨m,res,h3,h4⟩:=PQ h1 h2
 exact⟨m+1,res,h3,h4⟩
theorem WC.loop{c:Af}(h:WC E rnd c (TL E rnd (.loop c) Q) var marks s):WC E rnd (.loop c) Q var marks s:=by
 obtain⟨n,r,h1,h2⟩:=h
 obtain⟨m,res,h3,h4⟩:=PQ h1 h2
 exact⟨m+1,res,h3,h4⟩
theorem WC.cond{x:CX}{a b:Af}{t:Bool}(hx:Co [] var x=.bool t)(h:WC E rnd (bif t then a else b) Q var marks s):WC E rnd (.cond x a b) Q var marks s:=by
 obtain⟨n,r,h1,h2⟩:=h
 refine⟨n+1,r,?_,h2⟩
 show Cc (Dr E n) rnd (.cond x a b) var marks s=some r
 simp only[Cc,OO,hx]
 cases t<;>exact h1
def EK(id:Nat)(Q:A5→Prop)(r:A5):Prop:=match r.exit with
 | .exit id'=>bif Nat.beq id' id then Q ⟨.normal,r.var,r.marks,r.st⟩else Q r
 | _=>Q r
theorem WC.block{id:Nat}{c:Af}(h:WC E rnd c (EK id Q) var marks s):WC E rnd (.block id c) Q var marks s:=by
 obtain⟨n,r,h1,h2⟩:=h
 unfold EK at h2
 have:∃res,Jg id r=some res∧Q res:=by
  unfold Jg
  split at h2
  ·rename_i id' he
   try simp only[he]
   cases hb:Nat.beq id' id with
   | true=>rw[hb]at h2;exact⟨_,rfl,h2⟩
   | false=>rw[hb]at h2;exact⟨_,rfl,h2⟩
  ·rename_i hne
   cases he:r.exit with
   | normal=>exact⟨r,rfl,h2⟩
   | ret=>exact⟨r,rfl,h2⟩
   | exit id'=>exact absurd he (hne id')
 obtain⟨res,h3,h4⟩:=this
 refine⟨n+1,res,?_,h4⟩
 show Cc (Dr E n) rnd (.block id c) var marks s=some res
 simp only[Cc,KL,h1,h3]
theorem WC.ops{l:List AA}(h:WI E l (fun v s'=>Q ⟨.normal,v,marks,s'⟩) [] var s):WC E rnd (.ops l) Q var marks s:=by
 obtain⟨n,p,h1,h2⟩:=h
 refine⟨n+1,⟨.normal,p.1,marks,p.2⟩,?_,h2⟩
 show Cc (Dr E n) rnd (.ops l) var marks s=_
 simp only[Cc,Zf,h1]
theorem WI.nil(h:KI var s):WI E [] KI loc var s:=⟨0,_,rfl,h⟩
def jx(E:CP)(ag:List F1)(d:JY)(l:List AA)(KI:List AV→AD→Prop)(loc var:List AV)(v:AV)(s:AD):Prop:=match d with
 | .push=>EB s (v::loc) var ag=true∧WI E l KI (v::loc) var s
 | .set j=>EB s loc (Fo v var j) ag=true∧WI E l KI loc (Fo v var j) s
theorem Sd{ag:List F1}{d:JY}{l:List AA}{v:AV}(h:jx E ag d l KI loc var v s):∃n p,(∀m,n≤m→Cq ag d (EC (Dr E m) l) loc var v s=some p)∧KI p.1 p.2:=by
 cases d with
 | push =>
  obtain⟨h1,n,p,h2,h3⟩:=h
  exact⟨n,p,fun m hm=>by simp only[Cq,h1,cond_true];exact GK (Fk E hm) _ _ _ _ _ h2,h3⟩
 | set j =>
  obtain⟨h1,n,p,h2,h3⟩:=h
  exact⟨n,p,fun m hm=>by simp only[Cq,h1,cond_true];exact GK (Fk E hm) _ _ _ _ _ h2,h3⟩
theorem WI.item{it:AA}{l:List AA}{n:Nat}{p:AV×AD}(hj:UG loc var it.guard=false)(hw:Bd loc var it.guard=true)(hs:jn (Dr E n) it.sh it.xs loc var s=some p)(h:jx E it.again it.dst l KI loc var p.1 p.2):WI E (it::l) KI loc var s:=by
 obtain⟨m,q,h1,h2⟩:=Sd h
 refine⟨max n m,q,?_,h2⟩
 rw[GJ]
 unfold JI
 rw[hj,hw]
 simp only[Jp,PS (Fk E (Nat.le_max_left n m)) hs]
 exact h1 _ (Nat.le_max_right n m)
theorem WI.off{it:AA}{l:List AA}(hj:UG loc var it.guard=false)(hw:Bd loc var it.guard=false)(h:jx E [] it.dst l KI loc var BD s):WI E (it::l) KI loc var s:=by
 obtain⟨m,q,h1,h2⟩:=Sd h
 refine⟨m,q,?_,h2⟩
 rw[GJ]
 unfold JI
 rw[hj,hw]
 exact h1 _ (nl m)
def Ends(P:Program)(rs:List (CX×Option TypeId))(K:AV→AD→Prop)(r:A5):Prop:=Sn r.exit=true∧∃s',DZ r.st r.marks=some s'∧∃l,Bk P s' r.var rs=some l∧K (Ba l) s'
theorem WF.body{f:FuncId}{aS:List AV}{cf:Ao}(hn:E.nat f aS s=none)(hf:AN E.P f=some cf)(ha:aS.length=cf.na)(h:WC E none cf.body (Ends E.P cf.results K) (Ql aS cf.nv) [] s):WF E f aS K s:=by
 obtain⟨n,r,h1,h2,s',h3,l,h4,h5⟩:=h
 refine⟨n+1,(Ba l,s'),?_,h5⟩
 show HC E (Dr E n) f aS s=_
 simp[HC,hn,GB,hf,ha,Jh,h1,h2,h3,h4]
theorem WF.nat{f:FuncId}{aS:List AV}{p:AV×AD}(hn:E.nat f aS s=some p)(h:K p.1 p.2):WF E f aS K s:=⟨1,p,by show HC E (Dr E 0) f aS s=_;simp[HC,hn],h⟩
end
def Pj{α:Type}(x:Option α)(K:α→Prop):Prop:=match x with
 | some v=>K v
 | none=>False
theorem Qm{α:Type}(v:α)(K:α→Prop):Pj (some v) K=K v:=Eq.trans rfl rfl
section
variable(E:CP)
def Qe(f:AV)(aS:List AV)(K:AV→AD→Prop)(s:AD):Prop:=match f with
 | .func f first cap=>WF E f (first++(aS++cap)) K s
 | .yield l=>WR E l aS K s
 | _=>False
def Qc(sh:Sh)(xs:List AV)(K:AV→AD→Prop)(s:AD):Prop:=match sh with
 | .p1 f=>match xs with
  | a::_=>Pj (f a) (fun v=>K v s)
  | []=>False
 | .p2 f=>match xs with
  | a::b::_=>Pj (f a b) (fun v=>K v s)
  | _=>False
 | .p f=>Pj (f xs) (fun v=>K v s)
 | .r1 f=>match xs with
  | a::_=>Pj (f s a) (fun v=>K v s)
  | []=>False
 | .r f=>Pj (f s xs) (fun v=>K v s)
 | .mk f=>Pj (f xs) (fun p=>K (p.2.val s.next) (newObj s p.1))
 | .e f=>Pj (f s xs) (fun p=>K p.1 p.2)
 | .call f=>WF E f xs K s
 | .callv=>match xs with
  | f::aS=>Qe E f aS K s
  | []=>False
def Qh (loc var:List AV):List CX→List AV
 | []=>[]
 | x::l=>Co loc var x::Qh loc var l
def Qn(s:AD)(loc var:List AV):List F1→Prop
 | []=>True
 | r::l=>FW s loc var r=true∧Qn s loc var l
def Qd(ag:List F1)(d:JY)(loc var:List AV)(k:List AV→List AV→AD→Prop)(v:AV)(s:AD):Prop:=match d with
 | .push=>Qn s (v::loc) var ag∧k (v::loc) var s
 | .set j=>Qn s loc (Fo v var j) ag∧k loc (Fo v var j) s
def SZ(v:AV)(x y:List AV→List Nat→AD→Prop)(var:List AV)(marks:List Nat)(s:AD):Prop:=match v with
 | .bool true=>x var marks s
 | .bool false=>y var marks s
 | _=>False
def Ja(k:List AV→List Nat→AD→Prop)(Q:A5→Prop)(r:A5):Prop:=match r.exit with
 | .normal=>k r.var r.marks r.st
 | _=>Q r
def mT(j b:Bool)(sh:Sh)(xs:List AV)(ag:List F1)(d:JY)(loc var:List AV)(k:List AV→List AV→AD→Prop)(s:AD):Prop:=match j,b with
 | true,_=>False
 | false,true=>Qc E sh xs (Qd ag d loc var k) s
 | false,false=>Qd [] d loc var k BD s
def Qb:List AA→(List AV→AD→Prop)→List AV→List AV→AD→Prop
 | [],K,_,var,s=>K var s
 | it::l,K,loc,var,s=>mT E (UG loc var it.guard) (Bd loc var it.guard) it.sh (Qh loc var it.xs) it.again it.dst loc var (Qb l K) s
def Qa(rnd:Option Nat):Af→(A5→Prop)→List AV→List Nat→AD→Prop
 | .skip,Q,var,marks,s=>Q ⟨.normal,var,marks,s⟩
 | .ret,Q,var,marks,s=>Q ⟨.ret,var,marks,s⟩
 | .exit id,Q,var,marks,s=>Q ⟨.exit id,var,marks,s⟩
 | .never,_,_,_,_=>False
 | .ops l,Q,var,marks,s=>Qb E l (fun v s'=>Q ⟨.normal,v,marks,s'⟩) [] var s
 | .seq a b,Q,var,marks,s=>Qa rnd a (Ja (Qa rnd b Q) Q) var marks s
 | .cond x a b,Q,var,marks,s=>SZ (Co [] var x) (Qa rnd a Q) (Qa rnd b Q) var marks s
 | .block id c,Q,var,marks,s=>Qa rnd c (EK id Q) var marks s
 | .loop c,Q,var,marks,s=>WC E rnd (.loop c) Q var marks s
 | .rangeFunc fn f ps a b,Q,var,marks,s=>WC E rnd (.rangeFunc fn f ps a b) Q var marks s
 | .rangeMap r b,Q,var,marks,s=>WC E rnd (.rangeMap r b) Q var marks s
end
section
variable{E:CP}{rnd:Option Nat}{Q Q':A5→Prop}{var loc:List AV}{marks:List Nat}{s:AD}{K K':AV→AD→Prop}{KI:List AV→AD→Prop}
theorem TF:∀ (l:List CX),Qh loc var l=DP loc var l
 | []=>rfl
 | x::l=>by show Co loc var x::Qh loc var l=Co loc var x::DP loc var l;rw[TF l]
theorem J6:∀ {l:List F1},Qn s loc var l→EB s loc var l=true
 | [],_=>rfl
 | r::l,h=>by show(FW s loc var r && EB s loc var l)=true;rw[h.1,J6 h.2];rfl
theorem Fi{α:Type}{x:Option α}{K:α→Prop}(h:Pj x K):∃v,x=some v∧K v:=by
 cases x with
 | none=>exact h.elim
 | some v=>exact⟨v,rfl,h⟩
theorem bC{f:AV}{aS:List AV}(h:Qe E f aS K s):∃n p,GD (Dr E n) f aS s=some p∧K p.1 p.2:=by
 cases f with
 | func f first cap=>obtain⟨n,p,h1,h2⟩:=h;exact⟨n,p,h1,h2⟩
 | yield l=>obtain⟨n,p,h1,h2⟩:=h;exact⟨n,p,h1,h2⟩
 | _=>exact h.elim
theorem bB      {sh : Sh} {xs : List CX} (h : Qc E sh (Qh loc var xs) K s) : ∃ n p, jn  (Dr   E n) sh xs loc var s = some p ∧ K p.1 p.2 := by
  rw[TF]at h
  cases sh with
  | p1 f =>
    cases xs with
    | nil=>exact h.elim
    | cons x l =>
      obtain⟨v,h1,h2⟩:=Fi h
      exact⟨0,(v,s),by show Dc s (f (Co loc var x))=_;rw[h1];rfl,h2⟩
  | p2 f =>
    cases xs with
    | nil=>exact h.elim
    | cons x l =>
      cases l with
      | nil=>exact h.elim
      | cons y l =>
        obtain⟨v,h1,h2⟩:=Fi h
        exact⟨0,(v,s),by show Dc s (f (Co loc var x) (Co loc var y))=_;rw[h1];rfl,h2⟩
  | p f =>
    obtain⟨v,h1,h2⟩:=Fi h
    exact⟨0,(v,s),by show Dc s (f (DP loc var xs))=_;rw[h1];rfl,h2⟩
  | r1 f =>
    cases xs with
    | nil=>exact h.elim
    | cons x l =>
      obtain⟨v,h1,h2⟩:=Fi h
      exact⟨0,(v,s),by show Dc s (f s (Co loc var x))=_;rw[h1];rfl,h2⟩
  | r f =>
    obtain⟨v,h1,h2⟩:=Fi h
    exact⟨0,(v,s),by show Dc s (f s (DP loc var xs))=_;rw[h1];rfl,h2⟩
  | mk f =>
    obtain⟨v,h1,h2⟩:=Fi h
    exact⟨0,(v.2.val s.next,newObj s v.1),by show Oq s (f (DP loc var xs))=_;rw[h1];rfl,h2⟩
  | e f =>
    obtain⟨v,h1,h2⟩:=Fi h
    exact⟨0,v,h1,h2⟩
  | call f=>obtain⟨n,p,h1,h2⟩:=h;exact⟨n,p,h1,h2⟩
  | callv =>
    cases xs with
    | nil=>exact h.elim
    | cons x l=>exact bC h
theorem bA:∀ {l:List AA}{loc var:List AV}{s:AD},Qb E l KI loc var s→WI E l KI loc var s:=by
 intro l
 induction l with
 | nil=>intro loc var s h;exact WI.nil h
 | cons it l ih =>
  intro loc var s h
  have dst:∀ {ag:List F1} {v:AV} {s:AD},Qd ag it.dst loc var (Qb E l KI) v s→jx E ag it.dst l KI loc var v s:=by
   intro ag v s h
   unfold Qd at h
   unfold jx
   cases hd:it.dst with
   | push=>rw[hd]at h;exact⟨J6 h.1,ih h.2⟩
   | set j=>rw[hd]at h;exact⟨J6 h.1,ih h.2⟩
  unfold Qb at h
  cases hj:UG loc var it.guard with
  | true=>rw[hj]at h;exact h.elim
  | false =>
  rw[hj]at h
  cases hw:Bd loc var it.guard with
  | true =>
   rw[hw]at h
   have h:Qc E it.sh (Qh loc var it.xs) (Qd it.again it.dst loc var (Qb E l KI)) s:=h
   obtain⟨n,p,h1,h2⟩:=bB h
   exact WI.item hj hw h1 (dst h2)
  | false =>
   rw[hw]at h
   have h:Qd [] it.dst loc var (Qb E l KI) BD s:=h
   exact WI.off hj hw (dst h)
theorem Dy:∀ {c:Af}{Q:A5→Prop}{var:List AV}{marks:List Nat}{s:AD},Qa E rnd c Q var marks s→WC E rnd c Q var marks s:=by
 intro c
 induction c with
 | skip=>intro Q var marks s h;exact WC.skip h
 | ret=>intro Q var marks s h;exact WC.ret h
 | exit id=>intro Q var marks s h;exact WC.exit h
 | never=>intro Q var marks s h;exact h.elim
 | ops l=>intro Q var marks s h;exact WC.ops (bA h)
 | seq a b iha ihb =>
  intro Q var marks s h
  refine WC.seq ((iha h).mono ?_)
  intro r hr
  unfold Ja at hr
  unfold TL
  cases he:r.exit with
  | normal=>rw[he]at hr;exact ihb hr
  | exit id=>rw[he]at hr;exact hr
  | ret=>rw[he]at hr;exact hr
 | cond x a b iha ihb =>
  intro Q var marks s h
  unfold Qa SZ at h
  split at h<;>first | exact h.elim | skip
  ·rename_i ht;exact WC.cond ht (iha h)
  ·rename_i ht;exact WC.cond ht (ihb h)
 | block id c ih=>intro Q var marks s h;exact WC.block (ih h)
 | loop c _=>intro Q var marks s h;exact h
 | rangeFunc fn f ps a b=>intro Q var marks s h;exact h
 | rangeMap r b _=>intro Q var marks s h;exact h
theorem WC.loop'{c:Af}(h:Qa E rnd c (Ja (WC E rnd (.loop c) Q) Q) var marks s):WC E rnd (.loop c) Q var marks s:=by
 refine WC.loop ((Dy h).mono ?_)
 intro r hr
 unfold Ja at hr
 unfold TL
 cases he:r.exit with
 | normal=>rw[he]at hr;exact hr
 | exit id=>rw[he]at hr;exact hr
 | ret=>rw[he]at hr;exact hr
theorem WF.body'{f:FuncId}{aS:List AV}{cf:Ao}(hn:E.nat f aS s=none)(hf:AN E.P f=some cf)(ha:aS.length=cf.na)(h:Qa E none cf.body (Ends E.P cf.results K) (Ql aS cf.nv) [] s):WF E f aS K s:=WF.body hn hf ha (Dy h)
end
theorem Qq(a:AV)(l:List AV):Kx (a::l) 0=a:=rfl
theorem Qr(a:AV)(l:List AV)(n:Nat):Kx (a::l) (n+1)=Kx l n:=rfl
theorem Qo(v a:AV)(l:List AV):Fo v (a::l) 0=v::l:=rfl
theorem Qp(v a:AV)(l:List AV)(n:Nat):Fo v (a::l) (n+1)=a::Fo v l n:=rfl
theorem Qk(loc var:List AV)(i:Nat):Co loc var (.loc i)=Kx loc i:=rfl
theorem Qj(loc var:List AV)(i:Nat):Co loc var (.var i)=Kx var i:=rfl
theorem Qi(loc var:List AV)(v:AV):Co loc var (.const v)=v:=rfl
theorem Qf(loc var:List AV):Bd loc var none=true:=rfl
theorem Qg(loc var:List AV)(x:CX)(b:Bool):Bd loc var (some (x,b))=ju b (Co loc var x):=rfl
theorem Qs(E:CP)(sh:Sh)(xs:List AV)(ag:List F1)(d:JY)(loc var:List AV)(k:List AV→List AV→AD→Prop)(s:AD):mT E false true sh xs ag d loc var k s=Qc E sh xs (Qd ag d loc var k) s:=rfl
theorem Qt(E:CP)(sh:Sh)(xs:List AV)(ag:List F1)(d:JY)(loc var:List AV)(k:List AV→List AV→AD→Prop)(s:AD):mT E false false sh xs ag d loc var k s=Qd [] d loc var k BD s:=rfl
theorem Qy(x y:List AV→List Nat→AD→Prop)(var:List AV)(m:List Nat)(s:AD):SZ (.bool true) x y var m s=x var m s:=rfl
theorem Qz(x y:List AV→List Nat→AD→Prop)(var:List AV)(m:List Nat)(s:AD):SZ (.bool false) x y var m s=y var m s:=rfl
theorem Ra(k:List AV→List Nat→AD→Prop)(Q:A5→Prop)(v:List AV)(m:List Nat)(s:AD):Ja k Q ⟨.normal,v,m,s⟩=k v m s:=rfl
theorem Rb(k:List AV→List Nat→AD→Prop)(Q:A5→Prop)(v:List AV)(m:List Nat)(s:AD):Ja k Q ⟨.ret,v,m,s⟩=Q ⟨.ret,v,m,s⟩:=rfl
theorem Rc(k:List AV→List Nat→AD→Prop)(Q:A5→Prop)(id:Nat)(v:List AV)(m:List Nat)(s:AD):Ja k Q ⟨.exit id,v,m,s⟩=Q ⟨.exit id,v,m,s⟩:=rfl
theorem Rd(id:Nat)(Q:A5→Prop)(v:List AV)(m:List Nat)(s:AD):EK id Q ⟨.normal,v,m,s⟩=Q ⟨.normal,v,m,s⟩:=rfl
theorem Re(id:Nat)(Q:A5→Prop)(v:List AV)(m:List Nat)(s:AD):EK id Q ⟨.ret,v,m,s⟩=Q ⟨.ret,v,m,s⟩:=rfl
theorem Rf(id id':Nat)(Q:A5→Prop)(v:List AV)(m:List Nat)(s:AD):EK id Q ⟨.exit id',v,m,s⟩=if id'=id then Q ⟨.normal,v,m,s⟩else Q ⟨.exit id',v,m,s⟩:=by
 unfold EK
 by_cases h:id'=id
 ·subst h;simp
 ·have:Nat.beq id' id=false:=by
   cases hb:Nat.beq id' id with
   | true=>exact absurd (oE hb) h
   | false=>rfl
  simp[h,this]
theorem Rg(P:Program)(rs:List (CX×Option TypeId))(K:AV→AD→Prop)(v:List AV)(m:List Nat)(s:AD):Ends P rs K ⟨.ret,v,m,s⟩=Pj (DZ s m) (fun s'=>Pj (Bk P s' v rs) (fun l=>K (Ba l) s')):=by
 unfold Ends
 apply propext
 constructor
 ·rintro⟨_,s',h1,l,h2,h3⟩
  have h1:DZ s m=some s':=h1
  have h2:Bk P s' v rs=some l:=h2
  rw[h1,Qm,h2,Qm];exact h3
 ·intro h
  obtain⟨s',h1,h⟩:=Fi h
  obtain⟨l,h2,h3⟩:=Fi h
  exact⟨rfl,s',h1,l,h2,h3⟩
theorem Rh(P:Program)(rs:List (CX×Option TypeId))(K:AV→AD→Prop)(v:List AV)(m:List Nat)(s:AD):Ends P rs K ⟨.normal,v,m,s⟩=Pj (DZ s m) (fun s'=>Pj (Bk P s' v rs) (fun l=>K (Ba l) s')):=by
 rw[← Rg];rfl
theorem Ri(s:AD):DZ s []=some s:=rfl
theorem Rj(P:Program)(s:AD)(v:List AV):Bk P s v []=some []:=rfl
theorem Rk(P:Program)(s:AD)(v:List AV)(x:CX)(l:List (CX×Option TypeId)):Bk P s v ((x,none)::l)=(Bk P s v l).bind fun r=>some (Co [] v x::r):=rfl
theorem Rm(v:AV):Ba [v]=v:=rfl
theorem Rn:Ba []=.tuple []:=rfl
theorem Ro(v w:AV)(l:List AV):Ba (v::w::l)=.tuple (v::w::l):=rfl
theorem Qu(loc var:List AV):UG loc var none=false:=rfl
theorem Qv(loc var:List AV)(x:CX)(b:Bool):UG loc var (some (x,b))=jW (Co loc var x):=rfl
theorem Qw(b:Bool):jW (.bool b)=false:=rfl
theorem Qx:jW BD=false:=rfl
theorem Rp(w:Bool):ju w BD=false:=rfl
theorem Rq(b:Bool):ju true (.bool b)=b:=by cases b<;>rfl
theorem Rs(b:Bool):ju false (.bool b)=!b:=by cases b<;>rfl
theorem Ya:(!true)=false:=rfl
theorem Yb:(!false)=true:=rfl
theorem Yc{α β:Type _}(a:α)(f:α→Option β):(some a).bind f=f a:=rfl
theorem Yd{α:Type _}(a:α)(l:List α):(a::l)[0]? = some a:=rfl
theorem Ye{α:Type _}(a:α)(l:List α)(i:Nat):(a::l)[i+1]? = l[i]? := rfl
abbrev iv(n:Int):AV:=.int .i64 n
def i64(n:Int):Prop:=-9223372036854775808≤n∧n<9223372036854775808
theorem Ph{k:IntKind}{n:Int}(h:Bo k n=true):Cm k n=n:=by unfold Cm;rw[h];rfl
theorem D5{n:Int}(h:i64 n):Bo .i64 n=true:=by
 obtain⟨h1,h2⟩:=h
 cases n with
 | ofNat m=>simp only[Bo,oA];simp at h2;omega
 | negSucc m=>simp only[Bo,oA];omega
theorem Le{n:Int}(h:i64 n):Cm .i64 n=n:=Ph (D5 h)
section
variable(P:Program)(t:TypeId)(a b:Int)
theorem Rx:AT P .lss t (iv a) (iv b)=some (.bool (decide (a<b))):=by
 show some (AV.bool (Lg a b))=_
 rw[Ca]
theorem Ry:AT P .gtr t (iv a) (iv b)=some (.bool (decide (b<a))):=by
 show some (AV.bool (Lg b a))=_
 rw[Ca]
theorem Rz:AT P .leq t (iv a) (iv b)=some (.bool (decide (a≤b))):=by
 show some (AV.bool (!Lg b a))=_
 rw[Ca,← decide_not]
 congr 3
 exact propext Int.not_lt
theorem Wa:AT P .geq t (iv a) (iv b)=some (.bool (decide (b≤a))):=by
 show some (AV.bool (!Lg a b))=_
 rw[Ca,← decide_not]
 congr 3
 exact propext Int.not_lt
theorem Wb:AT P .eql t (iv a) (iv b)=some (.bool (decide (a=b))):=by
 show some (AV.bool (L4 a b))=_
 rw[Ek];rfl
theorem Wc:AT P .neq t (iv a) (iv b)=some (.bool (decide (a≠b))):=by
 show some (AV.bool (!L4 a b))=_
 rw[Ek,decide_not];rfl
theorem Bh(h:i64 (a+b)):AT P .add t (iv a) (iv b)=some (iv (a+b)):=by
 show some (AV.int .i64 (Cm .i64 (a+b)))=_
 rw[Le h]
theorem CK(h:i64 (a - b)):AT P .sub t (iv a) (iv b)=some (iv (a - b)):=by
 show some (AV.int .i64 (Cm .i64 (a - b)))=_
 rw[Le h]
theorem ZX(h:i64 (a * b)):AT P .mul t (iv a) (iv b)=some (iv (a * b)):=by
 show some (AV.int .i64 (Cm .i64 (a * b)))=_
 rw[Le h]
theorem Wd(c:Bool):UH P .not (.bool c)=some (.bool (!c)):=rfl
end
def Ac(b:Nat)(s s':AD):Prop:=s.next≤s'.next∧∀i,i<b→s'.heap.get i=s.heap.get i
theorem Ac.refl(b:Nat)(s:AD):Ac b s s:=⟨nl _,fun _ _=>rfl⟩
theorem Ac.trans{b:Nat}{s s1 s2:AD}(h:Ac b s s1)(k:Ac b s1 s2):Ac b s s2:=⟨ny h.1 k.1,fun i hi=>(k.2 i hi).trans (h.2 i hi)⟩
theorem Ac.mono{b b':Nat}{s s1:AD}(h:Ac b s s1)(k:b'≤b):Ac b' s s1:=⟨h.1,fun i hi=>h.2 i (ns hi k)⟩
theorem AO(s:AD)(o:A8)(j:Nat):(newObj s o).heap.get j=if j=s.next then some o else s.heap.get j:=AS.get_set _ _ _ _
theorem Kb(s:AD)(i:Nat)(o:A8)(j:Nat):(setObj s i o).heap.get j=if j=i then some o else s.heap.get j:=AS.get_set _ _ _ _
theorem Hx(s:AD)(i j:Nat):(CE s i).heap.get j=if j=i then none else s.heap.get j:=AS.get_del _ _ _
theorem Ac.new(s:AD)(o:A8):Ac s.next s (newObj s o):=⟨ot _,fun i hi=>by rw[AO,if_neg (by omega)]⟩
theorem D7{s s':AD}{i o:Nat}(h:s'.heap.get i=s.heap.get i):CW s' i o=CW s i o:=by unfold CW rowAt;rw[h]
theorem FG{s:AD}{i o:Nat}{r:DN}{u:AV}(h:s.heap.get i=some (.row r))(ho:o<r.n)(hc:r.c.get o=some u):CW s i o=some u:=by
 have hb:Nat.blt o r.n=true:=by simpa[oL]using ho
 simp[CW,rowAt,h,AJ,hb,hc]
def AZ(b:Nat)(s:AD)(a:Option (Nat×Nat))(cs:List AV):Prop:=∀k u,cs[k]? = some u→∃i o,a=some (i,o)∧i<b∧CW s i (o+k)=some u
theorem AZ.old{b b':Nat}{s s':AD}{a:Option (Nat×Nat)}{cs:List AV}(h:AZ b s a cs)(k:Ac b' s s')(hb:b≤b'):AZ b s' a cs:=fun j u hj=>by
 obtain⟨i,o,h1,h2,h3⟩:=h j u hj
 exact⟨i,o,h1,h2,by rw[D7 (k.2 i (ns h2 hb))];exact h3⟩
theorem AZ.mono{b b':Nat}{s:AD}{a:Option (Nat×Nat)}{cs:List AV}(h:AZ b s a cs)(hb:b≤b'):AZ b' s a cs:=fun j u hj=>by
 obtain⟨i,o,h1,h2,h3⟩:=h j u hj
 exact⟨i,o,h1,ns h2 hb,h3⟩
theorem AZ.nil{b:Nat}{s:AD}{a:Option (Nat×Nat)}:AZ b s a []:=fun k u h=>by simp at h
theorem Do(k:Nat):St (k:Int)=some k:=rfl
theorem An{P:Program}{t e:TypeId}{n:Nat}(ht:P.underlying t=some (.slice e))(hs:A3 P e=some n){i o len k:Nat}{cap:Option Nat}(hk:k<len):
  AM P t (.slice (some (i,o)) len cap) (iv (k:Int))=some (.ptr (some (i,o+k * n))):=by
 have hb:Nat.blt k len=true:=by simpa[oL]using hk
 simp[AM,Fw,Do,ht,hs,AJ,hb]
theorem CM{P:Program}{t:TypeId}(h:De P t=some false){s:AD}{i o:Nat}{u:AV}(hl:CW s i o=some u):AC P s t (.ptr (some (i,o)))=some u:=by
 simp[AC,h,hl]
theorem AU{P:Program}{t e:TypeId}(ht:P.underlying t=some (.slice e)){s:AD}{a:Option (Nat×Nat)}{n:Nat}{cap:Option Nat}:BZ P s t (.slice a n cap)=some (iv (n:Int)):=by
 simp[BZ,ht]
theorem CZ{a b:Nat}(h:a≤b):Nat.ble a b=true:=by simpa[oA]using h
theorem FX{a b:Nat}(h:a=b):Nat.beq a b=true:=by subst h;simp
theorem Dx{a b:Nat}(h:a≠b):Nat.beq a b=false:=by
 cases hb:Nat.beq a b with
 | true=>exact absurd (oE hb) h
 | false=>rfl
theorem Mv{a b:Nat}(h:b<a):Nat.ble a b=false:=by
 cases hb:Nat.ble a b with
 | true=>rw[oA]at hb;omega
 | false=>rfl
theorem af{t:AS AV}:∀ (cs:List AV)(k:Nat),(∀j u,cs[j]? = some u→t.get (k+j)=some u)→t.take k cs.length=some cs:=by
 intro cs
 induction cs with
 | nil=>intro k _;rfl
 | cons c cs ih =>
  intro k h
  have h0:=h 0 c rfl
  simp only[oV,AS.take]
  rw[show k+0=k from rfl]at h0
  rw[h0]
  simp only
  rw[ih (k+1) (fun j u hj=>by rw[show k+1+j=k+(j+1)from by omega];exact h (j+1) u (by simpa using hj))]
def Jy(r:DN)(cs:List AV):Prop:=r.n=cs.length∧∀k u,cs[k]? = some u→r.c.get k=some u
theorem Jy.take{r:DN}{cs:List AV}(h:Jy r cs)(o:Nat)(l:List AV)(hl:∀j u,l[j]? = some u→cs[o+j]? = some u):r.c.take o l.length=some l:=
 af l o fun j u hj=>h.2 _ u (hl j u hj)
theorem JK{s:AD}{i:Nat}{r:DN}{cs:List AV}(hg:s.heap.get i=some (.row r))(h:Jy r cs)(o:Nat)(l:List AV)(hle:o+l.length≤cs.length)(hl:∀j u,l[j]? = some u→cs[o+j]? = some u):
  Bv s i o l.length=some l:=by
 simp[Bv,rowAt,hg,AJ,h.1,CZ hle,h.take o l hl]
theorem Od(e:TypeId)(sz:Nat)(cs:List AV):∃r,GP e sz cs=.row r∧Jy r cs∧r.sz=sz∧r.spare=false∧r.mode=.own∧r.par=none:=by
 refine⟨_,rfl,⟨rfl,?_⟩,rfl,rfl,rfl,rfl⟩
 intro k u hk
 have hlt:k<cs.length:=by
  rcases nm k cs.length with h | h
  ·exact h
  ·rw[oF h]at hk;cases hk
 show(AS.fill .leaf 0 cs).get k=some u
 rw[AS.get_fill,if_pos ⟨oB _,by omega⟩]
 simpa using hk
structure F3(e:TypeId)(lo hi:Nat)(s:AD)(v:AV)(n sz:Nat)(cs:List AV)(i:Nat)(p:Option Nat):Prop where
 len:cs.length=n * sz
 ex:(v=.slice none 0 (some 0)∧n=0)∨(v=.slice (some (i,0)) n none∧lo≤i∧i<hi∧(∀q,p=some q→lo≤q∧q<hi∧q≠i) ∧
  ∃r,s.heap.get i=some (.row r)∧Jy r cs∧r.spare=true∧r.mode=.own∧r.sz=sz∧r.par=p∧r.elem=e)
theorem F3.zero(e:TypeId)(lo hi:Nat)(s:AD)(sz:Nat)(i:Nat)(p:Option Nat):F3 e lo hi s (.slice none 0 (some 0)) 0 sz [] i p:=⟨by simp,.inl ⟨rfl,rfl⟩⟩
theorem F3.frame{e:TypeId}{lo hi:Nat}{s s':AD}{v:AV}{n sz:Nat}{cs:List AV}{i:Nat}{p:Option Nat}(h:F3 e lo hi s v n sz cs i p)(k:lo≤i→i<hi→s'.heap.get i=s.heap.get i):F3 e lo hi s' v n sz cs i p:=by
 refine⟨h.len,?_⟩
 rcases h.ex with h1 | ⟨h1,h2,h3,h4,r,h5,h6⟩
 ·exact .inl h1
 ·exact .inr ⟨h1,h2,h3,h4,r,by rw[k h2 h3];exact h5,h6⟩
theorem F3.mono{e:TypeId}{lo hi hi':Nat}{s:AD}{v:AV}{n sz:Nat}{cs:List AV}{i:Nat}{p:Option Nat}(h:F3 e lo hi s v n sz cs i p)(k:hi≤hi'):F3 e lo hi' s v n sz cs i p:=by
 refine⟨h.len,?_⟩
 rcases h.ex with h1 | ⟨h1,h2,h3,h4,rest⟩
 ·exact .inl h1
 ·exact .inr ⟨h1,h2,by omega,fun q hq=>⟨(h4 q hq).1,by have:=(h4 q hq).2.1;omega,(h4 q hq).2.2⟩,rest⟩
theorem F3.cells{e:TypeId}{lo hi:Nat}{s:AD}{v:AV}{n sz:Nat}{cs:List AV}{i:Nat}{p:Option Nat}(h:F3 e lo hi s v n sz cs i p):∃a cap,v=.slice a n cap∧AZ hi s a cs:=by
 rcases h.ex with⟨rfl,rfl⟩ | ⟨rfl,h2,h3,h4,r,h5,h6,_⟩
 ·refine⟨none,some 0,rfl,?_⟩
  have:cs=[]:=by have:=h.len;simp at this;exact this
  subst this
  exact AZ.nil
 ·refine⟨_,_,rfl,fun k u hk=>⟨i,0,rfl,h3,?_⟩⟩
  have hlt:k<cs.length:=by
   rcases nm k cs.length with h' | h'
   ·exact h'
   ·rw[oF h']at hk;cases hk
  rw[oG]
  exact FG h5 (by rw[h6.1];exact hlt) (h6.2 k u hk)
def jw(s s':AD)(i:Nat)(p:Option Nat):Prop:=s.next≤s'.next∧∀j,j<s.next→j≠i→p≠some j→s'.heap.get j=s.heap.get j
theorem F3.appTo   {P : Program} {e : TypeId} {lo hi : Nat} {s : AD}  {v : AV} {n sz : Nat} {cs : List AV} {i : Nat} {p : Option Nat} (h : F3   e lo hi s v n sz cs i p) (hhi : hi ≤ s.next) (hlo : lo ≤ s.next) (hz : Cn     P e sz = true) (hsz : 0 < sz) {m : Nat} {add : List AV} (ha : add.length = m * sz) (hm : 0 < m) :
    ∃a cap v' s',v=.slice a n cap∧appTo P s e sz a n cap (m,add)=some (v',s')∧∃i' p',F3 e lo s'.next s' v' (n+m) sz (cs++add) i' p'∧jw s s' i p∧lo≤s'.next∧(i'=s.next)∧(p'=none∨p'=some i)∧s'.next=s.next+1 ∧
      (∀cell,cell<cs.length→CW s' i cell=CW s i cell∨n=0):=by
  have hlen:(cs++add).length=(n+m) * sz:=by rw[oI,h.len,ha,oQ]
  rcases h.ex with⟨rfl,rfl⟩ | ⟨rfl,h2,h3,h4,r,h5,h6,h7,h8,h9,h10,h11⟩
  · have hcs:cs=[]:=by have:=h.len;simp at this;exact this
    subst hcs
    refine⟨none,some 0,.slice (some (s.next,0)) m none,newObj s (CL e sz (AS.fill .leaf 0 add) add.length none true),rfl,?_,s.next,none,⟨by simpa using hlen,.inr ⟨by simp,hlo,og _,(fun q hq=>by cases hq),_,(by rw[AO,if_pos rfl];rfl),⟨rfl,?_⟩,rfl,rfl,rfl,rfl,rfl⟩⟩,
      ⟨ot _,fun j hj _ _=>by rw[AO,if_neg (by omega)]⟩,Nat.le_succ_of_le hlo,rfl,.inl rfl,rfl,fun _ _=>.inr rfl⟩
    · simp[Am.appTo,CU,Dx (show m≠0 by omega),AJ,hz]
    · intro k u hk
      show(AS.fill .leaf 0 add).get k=some u
      have hk':add[k]? = some u:=by simpa using hk
      have hlt:k<add.length:=by
        rcases nm k add.length with h' | h'
        · exact h'
        · rw[oF h']at hk';cases hk'
      rw[AS.get_fill,if_pos ⟨oB _,by omega⟩]
      simpa using hk'
  · have hrow : rowAt s i = some r := by simp [rowAt, h5]
    have hrn:r.n=n * sz:=by rw[h6.1,h.len]
    have hload:Bv s i 0 (n * sz)=some cs:=by
      have:=JK h5 h6 0 cs (by omega) (fun j u hj=>by simpa using hj)
      rw[h.len]at this
      exact this
    have hgt:¬ (0+(n+m) * sz≤r.n):=by
      rw[hrn,oQ]
      have:0<m * sz:=pg hm hsz
      omega
    let s2:=setObj (BO s i r) i (.row { r with mode:=.sealed,par:=none })
    let s':=newObj s2 (CL e sz (r.c.fill (n * sz) add) (cs++add).length (some i) (r.bytes && Nat.beq 0 0))
    have hun:∀j,j≠i→p≠some j→(BO s i r).heap.get j=s.heap.get j:=by
      intro j hj hp
      unfold BO
      rw[h10]
      cases p with
      | none=>rfl
      | some q =>
        simp only
        rw[Dx (h4 q rfl).2.2,cond_false,Hx,if_neg (fun e=>hp (by rw[e]))]
    have hnext:(BO s i r).next=s.next:=by
      unfold BO
      split
      · rfl
      · cases Nat.beq _ _<;>rfl
    have hs2n:s2.next=s.next:=hnext
    refine⟨_,_,.slice (some (s.next,0)) (n+m) none,s',rfl,?_,s.next,some i,⟨hlen,.inr ⟨rfl,hlo,by show s.next<s2.next+1;omega,?_,_,by rw[AO,if_pos hs2n.symm];rfl,⟨rfl,?_⟩,rfl,rfl,rfl,rfl,rfl⟩⟩,⟨by show s.next≤s2.next+1;omega,?_⟩,by show lo≤s2.next+1;omega,rfl,.inr rfl,by show s2.next+1=_;omega,?_⟩
    · simp only[Am.appTo]
      rw[hrow,Option.bind_some]
      unfold Jd
      rw[h9,FX rfl]
      simp only[AJ,cond_true]
      rw[show Nat.ble (0+(n+m) * sz) r.n=false from Mv (by omega),cond_false,hload,Option.bind_some,h7,cond_true]
      unfold Ef
      rw[h8,hz,FX h11,show Nat.beq (0+n * sz) r.n=true from FX (by omega)]
      simp only[Db,Bool.and_self,AJ,cond_true,DC,Nat.beq_eq_true_eq,FX rfl]
      show some (AV.slice (some (s.next,0)) (n+m) none,newObj s2 _)=_
      rfl
    · intro q hq
      injection hq with hq
      subst hq
      refine⟨h2,?_,?_⟩
      · show i<s2.next+1
        omega
      · omega
    · intro k u hk
      show(r.c.fill (n * sz) add).get k=some u
      rw[AS.get_fill]
      by_cases hlt:k<cs.length
      · rw [if_neg (by rw [← h.len]; omega)]
        rw[ou hlt]at hk
        exact h6.2 k u hk
      · rw[ov (by omega)]at hk
        have hk2:k - cs.length<add.length:=by
          rcases nm (k - cs.length) add.length with h' | h'
          · exact h'
          · rw[oF h']at hk;cases hk
        rw[if_pos ⟨by rw[← h.len];omega,by rw[← h.len];omega⟩,← h.len]
        exact hk
    · intro j hj hji hp
      show s'.heap.get j=_
      rw[AO,if_neg (by omega),Kb,if_neg hji]
      exact hun j hji hp
    · intro cell hc
      left
      have e1:s'.heap.get i=some (.row { r with mode:=.sealed,par:=none }):=by
        rw[AO,if_neg (by omega),Kb,if_pos rfl]
      simp only[CW,rowAt,e1,h5,Option.bind_some]
theorem T3{s:AD}{i o n size:Nat}{l:List AV}(h:Bv s i o (n * size)=some l):Lo s i o n size=some l:=by
 unfold Lo
 cases hn0:Nat.beq n 0 with
 | false=>exact h
 | true =>
  have:=oE hn0
  subst this
  rw[pO]at h
  unfold Bv at h
  simp only[nk]at h
  obtain⟨r,_,h⟩:=h
  cases hb:Nat.ble (o+0) r.n with
  | true=>rw[hb]at h;exact h
  | false=>rw[hb]at h;cases h
theorem Dg{P:Program}{st xt e:TypeId}{size by_:Nat}(ht:P.underlying st=some (.slice e))(hs:A3 P e=some size)(hb:C0 P e=some by_)(h0:0<size)(hx:Bp P xt=true){s:AD}{a ax:Option (Nat×Nat)}{n m:Nat}{cap cx:Option Nat}{add:List AV}
  (hsrc:CB P s e size (.slice ax m cx)=some (m,add)) (hc:Ap add=true) (h1:(n+m) * by_≤1099511627776) (h2:n+m≤1099511627776):
  Av P s [st,xt] [.slice a n cap,.slice ax m cx]=appTo P s e size a n cap (m,add):=by
 simp[Av,ht,hs,hb,AJ,Dx (show size≠0 by omega),hx,hsrc,hc,CZ h1,CZ h2]
section
variable{P:Program}{ρ ρ1 ρ2:BA}{s s1 s2:AD}{w w1 w2:World}
abbrev KV:=Value×Value
def kv(e:MapEntry):KV:=(e.key,e.val)
open Classical in
def Rv(v:Value):Option (DataW Value×List MemPlace):=some (.held v,[])
def bG(P:Program)(kt:TypeId)(es:Array MapEntry):Prop:=∀e∈es.toList,∃l,keyOf P kt e.key=some l
theorem jS{kt:TypeId}{es:Array MapEntry}{clock:Nat}(hst:MapKept.Stamped es clock)(hty:bG P kt es)(hsz:es.size≤maxLen):WideElems.Fit P kt Rv es clock:=
 ⟨hsz,hst,fun x hx=>let ⟨l,hl⟩:=hty x hx;⟨(l,.held x.val),by simp[WideElems.rd,hl,Rv]⟩⟩
theorem aN{kt:TypeId}{es:Array MapEntry}{clock b:Nat}(hb:w.heap[b]? = some (.map es clock))(hst:MapKept.Stamped es clock)(hty:bG P kt es)(hsz:es.size≤maxLen):
  w.ownsMap P kt Rv b es.size (DataW.map ((es.toList.map (WideElems.rg P kt Rv)).foldr DataW.insert [])):=⟨es,clock,hb,jS hst hty hsz,nl _,rfl⟩
theorem lO{kt:TypeId}{e:MapEntry}{l:Lit}(h:keyOf P kt e.key=some l):WideElems.rg P kt Rv e=(l,.held e.val):=by simp[WideElems.rg,WideElems.rd,h,Rv]
end
section
variable{P:Program}{ρ ρ1 ρ2:BA}{s s1 s2:AD}{w w1 w2:World}
theorem BE.grown(h:BE P ρ s w)(hgr:w.grownBy w1 none):BE P ρ s w1∧Fr ρ s w ρ s w1:=by
 refine⟨⟨fun i o rb hi hr=>(h.obj i o rb hi hr).mono (BA.le_refl ρ) (hgr.block _ (h.lt i rb hr) (fun e=>by cases e)),fun i rb hr=>ns (h.lt i rb hr) hgr.size,h.sep,h.glb⟩,
  ⟨BA.le_refl ρ,fun _ h _=>h,nl _,hgr.size,hgr.os,hgr.tape,hgr.output,fun b hb _=>hgr.block b hb (fun e=>by cases e),fun b hb=>.inl hb,fun _ _ _=>rfl⟩⟩
open Go.Maps in
open Go.Maps in
end
def L6:AV→Bool
 | .bool _ | .int _ _ | .str _=>true
 | .ptr none | .map none | .nilFunc | .nilIface=>true
 | .slice none n c=>Nat.beq n 0 && (match c with | some 0=>true | _=>false)
 | _=>false
def Il:List AV→Bool
 | []=>true
 | .agg cs::l=>cs.all L6 && Il l
 | v::l=>L6 v && Il l
theorem EV{ρ σ:BA}{v:AV}{v':Value}(h:L6 v=true)(hr:AW ρ v v'):AW σ v v':=by
 cases hr with
 | bool b=>exact .bool b
 | int k n=>exact .int k n
 | str hs=>exact .str hs
 | ptrNil=>exact .ptrNil
 | sliceNil=>exact .sliceNil
 | mapNil=>exact .mapNil
 | nilFunc=>exact .nilFunc
 | nilIface=>exact .nilIface
 | _=>cases h
theorem LC{ρ σ:BA}:∀ {l:List AV}{l':List Value},l.all L6=true→AP ρ l l'→AP σ l l'
 | [],_,_,h=>by cases h;exact .nil
 | v::l,_,hp,h=>by
  cases h with
  | cons h1 h2 =>
   simp only[List.all_cons,Bool.and_eq_true]at hp
   exact .cons (EV hp.1 h1) (LC hp.2 h2)
theorem HM         {ρ σ : BA}  : ∀ {l : List AV} {l' : List Value}, Il     l = true → AP    ρ l l' → AP    σ l l'
  | [],_,_,h=>by cases h;exact .nil
  | v::l,_,hp,h=>by
    cases h with
    | cons h1 h2 =>
      cases v with
      | agg cs =>
        simp only[Il,Bool.and_eq_true]at hp
        cases h1 with
        | agg h1=>exact .cons (.agg (LC hp.1 h1)) (HM hp.2 h2)
      | _ =>
        simp only[Il,Bool.and_eq_true]at hp
        exact .cons (EV hp.1 h1) (HM hp.2 h2)
structure Row where
 f:FuncId
 args:List AV
 res:AV
def Sg:List Row→FuncId→List AV→Option AV
 | [],_,_=>none
 | r::l,f,xs=>bif Nat.beq r.f f && Et.eqAs r.args xs then some r.res else Sg l f xs
def gu(v:AV):Option (AV×AD)→Bool
 | some (u,_)=>Et v u
 | none=>false
theorem KZ:∀ {T:List Row}{f:FuncId}{xs:List AV}{v:AV},Sg T f xs=some v→∃r∈T,r.f=f∧r.args=xs∧r.res=v
 | [],_,_,_,h=>by cases h
 | r::T,f,xs,v,h=>by
  unfold Sg at h
  cases hb:Nat.beq r.f f && Et.eqAs r.args xs with
  | true =>
   rw[hb]at h
   injection h with h
   simp only[Bool.and_eq_true]at hb
   exact⟨r,oK,oE hb.1,Gf hb.2,h⟩
  | false =>
   rw[hb]at h
   obtain⟨q,h1,h2⟩:=KZ h
   exact⟨q,oN _ h1,h2⟩
section
variable{P:Program}{ρ ρ1 ρ2:BA}{s s1 s2:AD}{w w1 w2:World}
end
theorem Ot{α β:Type}{f:α→Option β}:∀ {l:List α}{r:List β},l.mapM f=some r→r.length=l.length∧∀ (k:Nat)(a:α),l[k]? = some a→f a=r[k]?
 | [],r,h=>by
  simp at h
  subst h
  exact⟨rfl,fun k a hk=>by simp at hk⟩
 | x::l,r,h=>by
  rw[qK]at h
  simp only[bind,pure,nk]at h
  obtain⟨y,h1,r',h2,h3⟩:=h
  injection h3 with h3
  subst h3
  obtain⟨g1,g2⟩:=Ot h2
  refine⟨by simp[g1],fun k a hk=>?_⟩
  cases k with
  | zero=>simp at hk;subst hk;simpa using h1
  | succ k=>simpa using g2 k a (by simpa using hk)
theorem Id{w:World}{a:Addr}{n:Nat}{cs:List Value}(h:w.cells? 0 a n=some cs):cs.length=n∧∀j,j<n→w.cell? (a.add j)=cs[j]? := by
 unfold World.cells? at h
 rw[if_pos (oB _)]at h
 obtain⟨g1,g2⟩:=Ot h
 exact⟨by simpa using g1,fun j hj=>g2 j j (by simp[hj])⟩
theorem Zj{w:World}{a:Addr}{v:Value}(h:w.cell? a=some v):a.block<w.heap.size:=by
 unfold World.cell? at h
 cases hb:w.heap[a.block]? with
 | none=>rw[hb]at h;cases h
 | some o =>
  rcases nm a.block w.heap.size with h' | h'
  ·exact h'
  ·rw[Array.getElem?_eq_none h']at hb;cases hb
theorem R6(b off n:Nat):(⟨b,off,none⟩:Addr).add n=⟨b,off+n,none⟩:=by
 unfold Addr.add
 split
 ·rename_i h;subst h;rfl
 ·rfl
section
variable{H:Type}{enc:TypeId×Value→H}{P:Program}{w:World}{held:Bool}
theorem RQ         {t e : TypeId} {sz : Nat} (ht : P.underlying t = some (.slice e)) (hsz : P.cellsOf e = sz) (h0 : 0 < sz) {fuel : Nat} {cs : List Value} {x : DataW H × List MemPlace} (h : DataW.trod enc P w 0 (fun _ => true) held fuel t cs = some x) :
    cs=[.slice none 0 0]∨(∃a,cs=[.slice (some a) 0 0]) ∨
    ∃ (b off len cap n:Nat),cs=[.slice (some ⟨b,off,none⟩) len cap]∧len≤cap∧cap≤maxLen∧b<w.heap.size ∧
      ∀i,i<len→∃cs' y,DataW.trod enc P w 0 (fun _=>true) held n e cs'=some y∧cs'.length=sz∧∀j,j<sz→w.cell? ⟨b,off+i * sz+j,none⟩=cs'[j]? := by
  rcases DataW.trod_slice ht h with⟨h1,_⟩ | ⟨a,len,cap,elems,rest,n,h1,h2,h3,h4,h5,h6,h7,h8,h9,_⟩
  · exact .inl h1
  · rw[hsz]at h8 h9
    obtain⟨h9,h10⟩:=h9 rfl
    rcases ow cap with rfl | hcap
    · have:len=0:=by omega
      subst this
      exact .inr (.inl ⟨a,h2⟩)
    ·
      have first:∃v,w.cell? a=some v:=by
        rcases ow len with hl | hl
        · subst hl
          have:=h10 0 (by omega)
          have hlt:0<rest.length:=by omega
          rw[nr hlt]at this
          simp only[nk]at this
          obtain⟨cs',g1,_⟩:=this
          obtain⟨g2,g3⟩:=Id g1
          have g4:=g3 0 h0
          rw[nr (show 0<cs'.length by omega)]at g4
          exact⟨_,by simpa[Addr.add]using g4⟩
        · have:=h8 0 hl
          rw[nr (show 0<elems.length by omega)]at this
          simp only[nk]at this
          obtain⟨cs',g1,_⟩:=this
          obtain⟨g2,g3⟩:=Id g1
          have g4:=g3 0 h0
          rw[nr (show 0<cs'.length by omega)]at g4
          exact⟨_,by simpa[Addr.add]using g4⟩
      obtain⟨v,hv⟩:=first
      have hspot:=World.cell?_spot hv
      have hlt:=Zj hv
      obtain⟨b,off,spot⟩:=a
      have hspot:spot=none:=hspot
      subst hspot
      refine .inr (.inr ⟨b,off,len,cap,n,h2,h5,h6,hlt,fun i hi=>?_⟩)
      have:=h8 i hi
      rw[nr (show i<elems.length by omega)]at this
      simp only[nk]at this
      obtain⟨cs',g1,g2⟩:=this
      obtain⟨g3,g4⟩:=Id g1
      refine⟨cs',_,g2,g3,fun j hj=>?_⟩
      have:=g4 j hj
      rw[R6,R6]at this
      exact this
structure E9(P:Program)(w:World)(ρ:BA)(s:AD):Prop where
 inv:BE P ρ s w
 fresh:Ax ρ s
 ro:∀i o,s.heap.get i=some o→wr o=false
theorem lK(P:Program)(w:World):E9 P w jj ls:=⟨mM P w,jT,fun i o h=>by cases h⟩
theorem E9.notOwned{ρ:BA}{s:AD}(h:E9 P w ρ s)(b:Nat):¬ Fs ρ s b:=fun⟨i,o,rb,h1,h2,_⟩=>by rw[h.ro i o h1]at h2;cases h2
def gv(e:TypeId)(sz:Nat)(cs:List AV):A8:=.row { elem:=e,sz,n:=cs.length,c:=AS.fill .leaf 0 cs,spare:=false,mode:=.ro,par:=none,bytes:=false }
theorem Yl{cs:List AV}{k:Nat}{u:AV}(h:cs[k]? = some u):(AS.fill .leaf 0 cs).get k=some u:=by
 have hlt:k<cs.length:=by
  rcases nm k cs.length with h' | h'
  ·exact h'
  ·rw[oF h']at h;cases h
 rw[AS.get_fill,if_pos ⟨oB _,by omega⟩]
 simpa using h
theorem E9.row{ρ:BA}{s:AD}(h:E9 P w ρ s)(e:TypeId)(sz b off:Nat)(cs:List AV)(hb:b<w.heap.size)(hc:∀k u,cs[k]? = some u→∃v,w.cell? ⟨b,off+k,none⟩=some v∧AW ρ u v):
    ∃ρ',E9 P w ρ' (newObj s (gv e sz cs))∧ρ.le ρ'∧ρ' s.next=some ⟨b,off,cs.length,sz⟩:=by
  have hf:=h.fresh s.next (nl _)
  have hle:=BJ (rb:=⟨b,off,cs.length,sz⟩) hf.1
  refine⟨Bn ρ s.next ⟨b,off,cs.length,sz⟩,⟨⟨?_,?_,?_,?_⟩,?_,?_⟩,hle,AY _ _⟩
  · intro i o rb hi hr
    rw[AO]at hi
    by_cases e':i=s.next
    · subst e'
      rw[if_pos rfl]at hi
      injection hi with hi
      subst hi
      rw[AY]at hr
      injection hr with hr
      subst hr
      refine⟨fun k v hk hv=>?_,nl _,rfl,fun _=>rfl,fun hm=>absurd rfl hm,(fun hh=>by cases hh),(fun g hg=>by cases hg),fun p hp=>by cases hp⟩
      have hk:k<cs.length:=hk
      have hv:(AS.fill .leaf 0 cs).get k=some v:=hv
      have hu:cs[k]? = some cs[k]:=nr hk
      rw[Yl hu]at hv
      injection hv with hv
      subst hv
      obtain⟨v',h1,h2⟩:=hc k _ hu
      exact⟨v',h1,h2.mono hle⟩
    · rw [if_neg e'] at hi
      rw[AQ _ e']at hr
      exact(h.inv.obj i o rb hi hr).mono hle rfl
  · intro i rb hr
    by_cases e':i=s.next
    · subst e'
      rw[AY]at hr
      injection hr with hr
      subst hr
      exact hb
    · rw[AQ _ e']at hr
      exact h.inv.lt i rb hr
  · intro i j oi oj ri rj _ _ hj _ _ _ hw
    rw[AO]at hj
    by_cases e':j=s.next
    · rw[if_pos e']at hj
      injection hj with hj
      subst hj
      cases hw
    · rw [if_neg e'] at hj
      rw[h.ro j oj hj]at hw
      cases hw
  · intro i o g hi hg
    rw[AO]at hi
    by_cases e':i=s.next
    · rw[if_pos e']at hi
      injection hi with hi
      subst hi
      cases hg
    · rw[if_neg e']at hi
      obtain⟨rb,hr⟩:=h.inv.glb i o g hi hg
      exact⟨rb,by rw[AQ _ e'];exact hr⟩
  · intro i hi
    have hi:s.next+1≤i:=hi
    refine⟨?_,?_⟩
    · rw[AQ _ (by omega)];exact(h.fresh i (by omega)).1
    · rw[AO,if_neg (by omega)];exact(h.fresh i (by omega)).2
  · intro i o hi
    rw[AO]at hi
    by_cases e':i=s.next
    · rw[if_pos e']at hi
      injection hi with hi
      subst hi
      rfl
    · rw[if_neg e']at hi
      exact h.ro i o hi
def I7(P:Program)(w:World){α:Type}(p:AD→List AV→α→Prop)(cs:List Value)(ρ:BA)(s:AD):Prop:=
 ∃ρ' s' us x,E9 P w ρ' s'∧ρ.le ρ'∧Ac s.next s s'∧AP ρ' us cs∧p s' us x
theorem QN         {α : Type} {p : AD  → List AV → α → Prop} (hp : ∀ s s' us x, p s us x → Ac  s.next s s' → p s' us x) {sz b off len : Nat}
    (hel:∀i,i<len→∃cs':List Value,cs'.length=sz∧(∀j,j<sz→w.cell? ⟨b,off+i * sz+j,none⟩=cs'[j]?)∧∀ρ s,E9 P w ρ s→I7 P w p cs' ρ s):
    ∀ (m : Nat), m ≤ len → ∀ ρ s, E9   P w ρ s → ∃ (ρ' : BA)  (s' : AD)  (us : List AV) (xs : List α), E9   P w ρ' s' ∧ ρ.le ρ' ∧ Ac  s.next s s' ∧ us.length = m * sz ∧ xs.length = m ∧
      (∀k u,us[k]? = some u→∃v,w.cell? ⟨b,off+k,none⟩=some v∧AW ρ' u v)∧∀ (k:Nat) (x:α),xs[k]? = some x→p s' ((us.drop (k * sz)).take sz) x:=by
  intro m
  induction m with
  | zero=>intro _ ρ s h;exact⟨ρ,s,[],[],h,BA.le_refl ρ,Ac.refl _ _,by simp,rfl,fun k u hk=>by simp at hk,fun k x hk=>by simp at hk⟩
  | succ m ih =>
    intro hm ρ s h
    obtain⟨ρ1,s1,us,xs,g1,g2,g3,g4,g5,g6,g7⟩:=ih (by omega) ρ s h
    obtain⟨cs',k1,k2,k3⟩:=hel m (by omega)
    obtain⟨ρ2,s2,vs,y,q1,q2,q3,q4,q5⟩:=k3 ρ1 s1 g1
    have hvl:vs.length=sz:=by rw[q4.length,k1]
    refine⟨ρ2,s2,us++vs,xs++[y],q1,BA.le_trans g2 q2,g3.trans (q3.mono g3.1),by rw[oI,g4,hvl,oQ,pN],by simp[g5],fun k u hk=>?_,fun k x hk=>?_⟩
    · rcases nm           k us.length with hlt | hge
      · rw[ou hlt]at hk
        obtain⟨v,e1,e2⟩:=g6 k u hk
        exact⟨v,e1,e2.mono q2⟩
      · rw[ov hge]at hk
        have hj:k - us.length<sz:=by
          rcases nm (k - us.length) vs.length with h' | h'
          · omega
          · rw[oF h']at hk;cases hk
        obtain⟨v,e1,e2⟩:=q4.get hk
        refine⟨v,?_,e2⟩
        have:=k2 (k - us.length) hj
        rw[e1]at this
        rw[show off+k=off+m * sz+(k - us.length) by omega]
        exact this
    · rcases nm           k m with hlt | hge
      · rw[ou (by omega)]at hk
        have:=hp s1 s2 _ _ (g7 k x hk) q3
        have hks:(k+1) * sz≤m * sz:=oC _ hlt
        rw[oQ,pN]at hks
        rw[List.drop_append_of_le_length (by omega),List.take_append_of_le_length (by rw[oh];omega)]
        exact this
      · rw[ov (by omega)]at hk
        have hk0:k=m:=by
          rcases nm (k - xs.length) 1 with h' | h'
          · omega
          · rw[oF (by simpa using h')]at hk;cases hk
        subst hk0
        have hxy:y=x:=by simpa[g5]using hk
        subst hxy
        rw[← g4,qL rfl,List.take_of_length_le (by omega)]
        exact q5
def bE(s:AD)(a:Option (Nat×Nat))(cap:Option Nat)(n sz:Nat):Prop:=(∃c,cap=some c∧n≤c∧(a=none→c=0))∨(n=0∧cap=none∧∃i r,a=some (i,0)∧i<s.next∧s.heap.get i=some (.row r)∧r.sz=sz)
def FU{α:Type}(p:AD→List AV→α→Prop)(sz:Nat)(s:AD)(us:List AV)(xs:List α):Prop:=
 ∃a cap,us=[.slice a xs.length cap]∧xs.length≤maxLen∧bE s a cap xs.length sz∧∀ (k:Nat) (x:α),xs[k]? = some x→∃i o vs,a=some (i,o)∧i<s.next∧vs.length=sz∧(∀j u,vs[j]? = some u→CW s i (o+k * sz+j)=some u)∧p s vs x
theorem D4          {α : Type} {p : AD  → List AV → α → Prop} (hp : ∀ s s' us x, p s us x → Ac  s.next s s' → p s' us x) {t e : TypeId} {sz : Nat} (ht : P.underlying t = some (.slice e)) (hsz : P.cellsOf e = sz) (h0 : 0 < sz)
    (hel:0<w.heap.size→∀ (n:Nat) (cs:List Value) (y:DataW H×List MemPlace),DataW.trod enc P w 0 (fun _=>true) held n e cs=some y→cs.length=sz→∀ρ s,E9 P w ρ s→I7 P w p cs ρ s)
    {fuel:Nat} {cs:List Value} {x:DataW H×List MemPlace} (h:DataW.trod enc P w 0 (fun _=>true) held fuel t cs=some x) (hw:∀a,cs=[.slice (some a) 0 0]→0<w.heap.size) {ρ:BA} {s:AD} (hd:E9 P w ρ s):I7 P w (FU p sz) cs ρ s:=by
  rcases RQ ht hsz h0 h with rfl | ⟨a,rfl⟩ | ⟨b,off,len,cap,n,rfl,h1,h2,h3,h4⟩
  · exact⟨ρ,s,[.slice none 0 (some 0)],[],hd,BA.le_refl ρ,Ac.refl _ _,.cons .sliceNil .nil,none,some 0,rfl,oB _,.inl ⟨0,rfl,nl _,fun _=>rfl⟩,fun k x hk=>by simp at hk⟩
  · obtain⟨ρ',g1,g2,g3⟩:=hd.row e sz 0 0 [] (hw a rfl) (fun k u hk=>by simp at hk)
    exact⟨ρ',_,[.slice (some (s.next,0)) 0 none],[],g1,g2,Ac.new s _,.cons (.sliceEnd g3 h0 (nl _) (by show 0<0+sz;omega)) .nil,_,_,rfl,oB _,.inr ⟨rfl,rfl,s.next,{ elem:=e,sz,n:=0,c:=AS.fill .leaf 0 [],spare:=false,mode:=.ro,par:=none,bytes:=false },rfl,og _,by rw[AO,if_pos rfl];rfl,rfl⟩,fun k x hk=>by simp at hk⟩
  · obtain⟨ρ1,s1,us,xs,g1,g2,g3,g4,g5,g6,g7⟩:=QN (w:=w) (P:=P) hp (sz:=sz) (b:=b) (off:=off) (len:=len) (fun i hi=>by
      obtain⟨cs',y,q1,q2,q3⟩:=h4 i hi
      exact⟨cs',q2,q3,fun ρ s hd=>hel (by omega) n cs' y q1 q2 ρ s hd⟩) len (nl _) ρ s hd
    obtain⟨ρ2,k1,k2,k3⟩:=g1.row e sz b off us h3 g6
    have o2:Ac s1.next s1 (newObj s1 (gv e sz us)):=Ac.new s1 _
    refine⟨ρ2,_,[.slice (some (s1.next,0)) xs.length (some cap)],xs,k1,BA.le_trans g2 k2,g3.trans (o2.mono g3.1),?_,some (s1.next,0),some cap,rfl,by omega,.inl ⟨cap,rfl,by omega,fun h=>by cases h⟩,fun k x hk=>?_⟩
    · rw[g5]
      exact .cons (.slice k3 h1) .nil
    · have hkl:k<len:=by
        rcases nm k xs.length with h' | h'
        · omega
        · rw[oF h']at hk;cases hk
      have hks:(k+1) * sz≤len * sz:=oC _ hkl
      rw[oQ,pN]at hks
      refine⟨s1.next,0,(us.drop (k * sz)).take sz,rfl,og _,by rw[oO,oh];omega,fun j u hj=>?_,hp s1 _ _ _ (g7 k x hk) o2⟩
      rw[qO]at hj
      split at hj
      · rename_i hjs
        rw[pW]at hj
        rw[oG]
        exact FG (r:={ elem:=e,sz,n:=us.length,c:=AS.fill .leaf 0 us,spare:=false,mode:=.ro,par:=none,bytes:=false }) (by rw[AO,if_pos rfl];rfl) (by show k * sz+j<us.length;omega) (Yl hj)
      · cases hj
end
end
end Go.Proofs.YtjnkfbpadpmakaaGreatDoor.Am
namespace Go.Proofs.YtjnkfbpadpmakaaGreatDoor.Am
open Go Go.Proofs Go.Shelf
noncomputable section
def Fd:Go.Shelf.Ren:=⟨fun | 7=>79 | 10=>121 | n=>n,fun | 23=>54 | 26=>3 | 3=>26 | 28=>93 | 0=>0 | 27=>92 | 33=>137 | 4=>4 | n=>n,fun | n=>n⟩
theorem Oi:Go.Proofs.SlLaysZI.n7 Tryz.prog Fd:={
 mixed:=by kernel_rfl
 f7:=⟨Tryz.f79.name,by decide,Tryz.func79.trans (congrArg some (by kernel_rfl))⟩
 f10:=⟨Tryz.f121.name,by decide,Tryz.func121.trans (congrArg some (by kernel_rfl))⟩
 t0:=Tryz.underlying0
 a0:=Tryz.isAgg0
 z0:=Tryz.sizeOf0
 v0:=Tryz.zeroValue0
 t4:=Tryz.underlying4
 a4:=Tryz.isAgg4
 z4:=Tryz.sizeOf4
 v4:=Tryz.zeroValue4
 t23:=Tryz.underlying54
 a23:=Tryz.isAgg54
 z23:=Tryz.sizeOf54
 v23:=Tryz.zeroValue54
 t26:=Tryz.underlying3
 a26:=Tryz.isAgg3
 z26:=Tryz.sizeOf3
 v26:=Tryz.zeroValue3
 t27:=Tryz.underlying92
 a27:=Tryz.isAgg92
 z27:=Tryz.sizeOf92
 v27:=Tryz.zeroValue92
 t28:=Tryz.underlying93
 a28:=Tryz.isAgg93
 z28:=Tryz.sizeOf93
 v28:=Tryz.zeroValue93
 t33:=Tryz.underlying137
 a33:=Tryz.isAgg137
 z33:=Tryz.sizeOf137
 v33:=Tryz.zeroValue137 }
def GM:Go.Shelf.Ren:=⟨fun | 6=>78 | 8=>119 | 9=>120 | 11=>142 | 13=>144 | 12=>143 | 23=>164 | 24=>165 | 14=>155 | 15=>156 | 16=>157 | 17=>158 | 18=>159 | 19=>160 | 20=>161 | 21=>162 | 22=>163 | 25=>175 | 26=>176 | 27=>177 | 28=>178 | 29=>179 | 30=>180 | 31=>189 | n=>n,fun | 26=>3 | 28=>93 | 24=>27 | 0=>0 | 3=>3 | 37=>113 | 48=>76 | 50=>69 | 4=>4 | 40=>164 | 39=>163 | 45=>169 | 5=>5 | 9=>9 | 51=>185 | 55=>189 | 57=>199 | 58=>200 | 33=>137 | n=>n,fun | n=>n⟩
theorem Kf:Go.Proofs.SlLaysZI.n6 Tryz.prog GM:={
 mixed:=by kernel_rfl
 f6:=⟨Tryz.f78.name,by decide,Tryz.func78.trans (congrArg some (by kernel_rfl))⟩
 f8:=⟨Tryz.f119.name,by decide,Tryz.func119.trans (congrArg some (by kernel_rfl))⟩
 f11:=⟨Tryz.f142.name,by decide,Tryz.func142.trans (congrArg some (by kernel_rfl))⟩
 t0:=Tryz.underlying0
 a0:=Tryz.isAgg0
 z0:=Tryz.sizeOf0
 v0:=Tryz.zeroValue0
 t24:=Tryz.underlying27
 a24:=Tryz.isAgg27
 z24:=Tryz.sizeOf27
 v24:=Tryz.zeroValue27
 t26:=Tryz.underlying3
 a26:=Tryz.isAgg3
 z26:=Tryz.sizeOf3
 v26:=Tryz.zeroValue3
 t28:=Tryz.underlying93
 a28:=Tryz.isAgg93
 z28:=Tryz.sizeOf93
 v28:=Tryz.zeroValue93
 i26:=by kernel_rfl }
def NE:Go.Shelf.Ren:=⟨fun | 5=>120 | 8=>144 | 7=>143 | 19=>164 | 20=>165 | 10=>155 | 11=>156 | 12=>157 | 13=>158 | 14=>159 | 15=>160 | 16=>161 | 17=>162 | 18=>163 | 30=>175 | 31=>176 | 32=>177 | 33=>178 | 34=>179 | 35=>180 | 40=>189 | n=>n,fun | 23=>27 | 25=>3 | 3=>3 | 32=>113 | 22=>27 | 0=>0 | 44=>76 | 46=>69 | 4=>4 | 36=>164 | 35=>163 | 41=>169 | 5=>5 | 9=>9 | 53=>185 | 57=>189 | 63=>199 | 64=>200 | n=>n,fun | n=>n⟩
theorem Oj:Go.Proofs.SlLaysM.n5 Tryz.prog NE:={
 mixed:=by kernel_rfl
 f5:=⟨Tryz.f120.name,by decide,Tryz.func120.trans (congrArg some (by kernel_rfl))⟩
 f7:=⟨Tryz.f143.name,by decide,Tryz.func143.trans (congrArg some (by kernel_rfl))⟩
 f8:=Tryz.func144.trans (congrArg some (by kernel_rfl))
 f10:=⟨Tryz.f155.name,by decide,Tryz.func155.trans (congrArg some (by kernel_rfl))⟩
 f11:=⟨Tryz.f156.name,by decide,Tryz.func156.trans (congrArg some (by kernel_rfl))⟩
 f12:=⟨Tryz.f157.name,by decide,Tryz.func157.trans (congrArg some (by kernel_rfl))⟩
 f13:=⟨Tryz.f158.name,by decide,Tryz.func158.trans (congrArg some (by kernel_rfl))⟩
 f14:=⟨Tryz.f159.name,by decide,Tryz.func159.trans (congrArg some (by kernel_rfl))⟩
 f15:=⟨Tryz.f160.name,by decide,Tryz.func160.trans (congrArg some (by kernel_rfl))⟩
 f16:=⟨Tryz.f161.name,by decide,Tryz.func161.trans (congrArg some (by kernel_rfl))⟩
 f17:=⟨Tryz.f162.name,by decide,Tryz.func162.trans (congrArg some (by kernel_rfl))⟩
 f18:=⟨Tryz.f163.name,by decide,Tryz.func163.trans (congrArg some (by kernel_rfl))⟩
 f19:=Tryz.func164.trans (congrArg some (by kernel_rfl))
 f20:=Tryz.func165.trans (congrArg some (by kernel_rfl))
 f30:=⟨Tryz.f175.name,by decide,Tryz.func175.trans (congrArg some (by kernel_rfl))⟩
 f31:=Tryz.func176.trans (congrArg some (by kernel_rfl))
 f32:=Tryz.func177.trans (congrArg some (by kernel_rfl))
 f33:=⟨Tryz.f178.name,by decide,Tryz.func178.trans (congrArg some (by kernel_rfl))⟩
 f34:=⟨Tryz.f179.name,by decide,Tryz.func179.trans (congrArg some (by kernel_rfl))⟩
 f35:=⟨Tryz.f180.name,by decide,Tryz.func180.trans (congrArg some (by kernel_rfl))⟩
 f40:=⟨Tryz.f189.name,by decide,Tryz.func189.trans (congrArg some (by kernel_rfl))⟩
 t0:=Tryz.underlying0
 a0:=Tryz.isAgg0
 z0:=Tryz.sizeOf0
 v0:=Tryz.zeroValue0
 t3:=Tryz.underlying3
 a3:=Tryz.isAgg3
 z3:=Tryz.sizeOf3
 v3:=Tryz.zeroValue3
 t4:=Tryz.underlying4
 a4:=Tryz.isAgg4
 z4:=Tryz.sizeOf4
 v4:=Tryz.zeroValue4
 t5:=Tryz.underlying5
 a5:=Tryz.isAgg5
 z5:=Tryz.sizeOf5
 v5:=Tryz.zeroValue5
 t9:=Tryz.underlying9
 a9:=Tryz.isAgg9
 z9:=Tryz.sizeOf9
 v9:=Tryz.zeroValue9
 t22:=Tryz.underlying27
 a22:=Tryz.isAgg27
 z22:=Tryz.sizeOf27
 v22:=Tryz.zeroValue27
 t23:=Tryz.underlying27
 a23:=Tryz.isAgg27
 z23:=Tryz.sizeOf27
 v23:=Tryz.zeroValue27
 t25:=Tryz.underlying3
 a25:=Tryz.isAgg3
 z25:=Tryz.sizeOf3
 v25:=Tryz.zeroValue3
 t32:=Tryz.underlying113
 a32:=Tryz.isAgg113
 z32:=Tryz.sizeOf113
 v32:=Tryz.zeroValue113
 t35:=Tryz.underlying163
 a35:=Tryz.isAgg163
 z35:=Tryz.sizeOf163
 v35:=Tryz.zeroValue163
 t36:=Tryz.underlying164
 a36:=Tryz.isAgg164
 z36:=Tryz.sizeOf164
 v36:=Tryz.zeroValue164
 t41:=Tryz.underlying169
 a41:=Tryz.isAgg169
 z41:=Tryz.sizeOf169
 v41:=Tryz.zeroValue169
 t44:=Tryz.underlying76
 a44:=Tryz.isAgg76
 z44:=Tryz.sizeOf76
 v44:=Tryz.zeroValue76
 t46:=Tryz.underlying69
 a46:=Tryz.isAgg69
 z46:=Tryz.sizeOf69
 v46:=Tryz.zeroValue69
 t53:=Tryz.underlying185
 a53:=Tryz.isAgg185
 z53:=Tryz.sizeOf185
 v53:=Tryz.zeroValue185
 t57:=Tryz.underlying189
 a57:=Tryz.isAgg189
 z57:=Tryz.sizeOf189
 v57:=Tryz.zeroValue189
 t63:=Tryz.underlying199
 a63:=Tryz.isAgg199
 z63:=Tryz.sizeOf199
 v63:=Tryz.zeroValue199
 t64:=Tryz.underlying200
 a64:=Tryz.isAgg200
 z64:=Tryz.sizeOf200
 v64:=Tryz.zeroValue200 }
end
end Go.Proofs.YtjnkfbpadpmakaaGreatDoor.Am
