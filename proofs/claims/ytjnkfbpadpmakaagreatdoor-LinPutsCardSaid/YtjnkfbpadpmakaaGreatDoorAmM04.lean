/- The abstract machine runs as the model does; conditions: told in 'SimOk'. -/
import Derived.LoopNIn
import Derived.Test.YtjnkfbpadpmakaaGreatDoorAmM03
import Derived.Maps.RangeRun
import Derived.ChangeSame
import Derived.Test.YtjnkfbpadpmakaaGreatDoorAmM01
import Derived.Maps.Own
import Derived.Lib.SlMapMerge
import Derived.Test.YtjnkfbpadpmakaaGreatDoorAmM02
import Derived.ChangeArms
import Derived.DataReads
import Derived.DataElems
import Derived.Test.YtjnkfbpadpmakaaGreatDoorProg
import Derived.Shelf.SlIterI.Nil
import Derived.Shelf.SlIterI.Sorted
import Derived.Shelf.SortM.Plain
import Derived.Shelf.SortM.SortNone
import Derived.Ground.GgzProg
import Derived.Ground.SlgmProg
set_option linter.unusedVariables false
set_option linter.unusedSimpArgs false
namespace Go.Proofs.YtjnkfbpadpmakaaGreatDoor.Am
open Go
noncomputable section
def Gt:KY→Exit
 | .normal=>.normal
 | .exit id=>.exit id
 | .ret=>.ret
def Lg(ρ:BU):Option Nat→Option Nat→Prop
 | none,r=>r=none
 | some l,r=>∃rb,ρ l=some rb∧r=some rb.b
theorem Lg.mono{ρ ρ1:BU}{rnd r:Option Nat}(h:Lg ρ rnd r)(le:ρ.le ρ1):Lg ρ1 rnd r:=by
 cases rnd with
 | none=>exact h
 | some l=>obtain⟨rb,h1,h2⟩:=h;exact⟨rb,le _ _ h1,h2⟩
structure IX(P:Program)(fn:Func)(ρ:BU)(s:AE)(w:World)(r:Az)(a':Act)(w':World)(ρ':BU):Prop where
 inv:Bd P ρ' r.st w'
 fresh:BE ρ' r.st
 fr:Fr ρ s w ρ' r.st w'
 vars:BO P ρ' fn r.var a'.tmps
 marks:CH ρ' r.marks a'.defers
structure IW(P:Program)(fn:Func)(ρ:BU)(s:AE)(w:World)(var:List AV)(marks:List Nat)(rnd r:Option Nat)(a:Act):Prop where
 inv:Bd P ρ s w
 fresh:BE ρ s
 vars:BO P ρ fn var a.tmps
 marks:CH ρ marks a.defers
 rnd:Lg ρ rnd r
def Jo(P:Program)(F:EA):Prop:=∀ (f:FuncId)(fn:Func)(c:Code)(rnd r:Option Nat)(var:List AV)(marks:List Nat)(s:AE)(res:Az)(ρ:BU)(w:World)(a:Act)(Q:Exit→Act→World→Prop),
 P.funcs[f]? = some fn→F.code rnd (Ap P f fn.ntmps (Ar P fn) c) var marks s=some res→IW P fn ρ s w var marks rnd r a →
 (∀a' w' ρ',IX P fn ρ s w res a' w' ρ'→Q (Gt res.exit) a' w')→c.wpIn (Jl r) 0 P Q a w
def U1(P:Program)(F:EA)(n:Nat):Prop:=∀ (f:FuncId)(fn:Func)(c:Code)(rnd r:Option Nat)(var:List AV)(marks:List Nat)(s:AE)(res:Az)(ρ:BU)(w:World)(a:Act)(Q:Exit→Act→World→Prop),
 P.funcs[f]? = some fn→F.code rnd (.loop (Ap P f fn.ntmps (Ar P fn) c)) var marks s=some res→IW P fn ρ s w var marks rnd r a →
 (∀a' w' ρ',IX P fn ρ s w res a' w' ρ'→Q (Gt res.exit) a' w')→Code.roundsIn (Jl r) 0 P c Q n a w
def Es(P:Program)(call:FuncId→List AV→AE→Option (AV×AE)):Prop:=∀ (ρ:BU)(s:AE)(w:World)(f:FuncId)(aS:List AV)(v:AV)(s1:AE)(as':Array Value),
 call f aS s=some (v,s1)→Bd P ρ s w→BE ρ s→AW ρ aS as'.toList →
 (∃fn c,P.funcs[f]? = some fn∧fn.body=some c)∧CallsIn Fence.wide 0 P f as' w (Fn P ρ s w v s1)
def E2 (P : Program) : Prop := ∀ (f : FuncId) (fn : Func), P.funcs[f]? = some fn → (fn.name == "runtime.NumGoroutine") = false
structure QK(P:Program)(F:EA)(n:Nat):Prop where
 code:Jo P F
 loop:U1 P F n
 call:Es P F.call
 round:∀ (ρ:BU) (s:AE) (w:World) (l:Nat) (rb:RB) (aS:List AV) (v:AV) (s1:AE) (as':Array Value),F.round l aS s=some (v,s1)→Bd P ρ s w→BE ρ s→ρ l=some rb→AW ρ aS as'.toList →
  EC P ρ s w v s1 ((Instr.yield rb.b as').run P w)
section
variable{P:Program}{ρ ρ1 ρ2:BU}{s s1 s2:AE}{w w1 w2:World}
theorem HG(hng:E2 P){f:FuncId}{fn:Func}{c:Code}(hf:P.funcs[f]? = some fn)(hb:fn.body=some c)(args:Array Value)(w:World):(callFunc f args).run P w=.ok (.enter f args) w:=by
  have h1:=hng f fn hf
  have h2 : fn.name ≠ "runtime.NumGoroutine" := by simpa using h1
  simp[callFunc,hf,h2,hb]
theorem QK.fok(hng:E2 P){F:EA}{n:Nat}(h:QK P F n):iP P F where
 call:=fun ρ s w f aS v s1 as' hc hi hf ha=>by
  obtain⟨⟨fn,c,h1,h2⟩,h3⟩:=h.call ρ s w f aS v s1 as' hc hi hf ha
  rw[HG hng h1 h2]
  exact .enter h3
 round:=h.round
theorem IX.trans{fn:Func}{s1:AE}{r1 r2:Az}{a1 a2:Act}(h1:Fr ρ s w ρ1 s1 w1)(h2:IX P fn ρ1 s1 w1 r2 a2 w2 ρ2):IX P fn ρ s w r2 a2 w2 ρ2:=
 ⟨h2.inv,h2.fresh,h1.trans h2.fr,h2.vars,h2.marks⟩
theorem IX.begins{fn:Func}{r:Az}{a1:Act}{var:List AV}{marks:List Nat}{rnd rr:Option Nat}{a:Act}(hb:IW P fn ρ s w var marks rnd rr a)(h:IX P fn ρ s w r a1 w1 ρ1):IW P fn ρ1 r.st w1 r.var r.marks rnd rr a1:=
 ⟨h.inv,h.fresh,h.vars,h.marks,hb.rnd.mono h.fr.le⟩
theorem ul     (hm : P.follows .mixedOrders = true) {F : EA}  (hF : iP  P F) {fn : Func} {f : FuncId} {id : Nat} {ops : Array Oper} {draw : Bool} {r rnd : Option Nat} {var : List AV} {marks : List Nat} {s : AE}  {res : Az}   {ρ : BU}  {w : World} {a : Act} {Q : Exit → Act → World → Prop}
    (hc:DK F rnd (Ap P f fn.ntmps (Ar P fn) (.region id ops draw)) var marks s=some res) (hb:IW P fn ρ s w var marks rnd r a)
    (hq:∀a' w' ρ',IX P fn ρ s w res a' w' ρ'→Q (Gt res.exit) a' w'):(Code.region id ops draw).wpIn (Jl r) 0 P Q a w:=by
  have fin:∀ {items:List AA} {b:Array Nat} {l:List Nat},E6 P fn.ntmps (Ar P fn) ops b draw l ⟨[],0⟩ []=some items→DK F rnd (.ops items) var marks s=some res →
      ∃R' s',Trace P F ops fn.ntmps b draw l [] (KO (Ar P fn) var) s R' s'∧res.exit=.normal∧res.marks=marks∧res.st=s'∧∃c' loc',Er (Ar P fn) c' loc' res.var R':=by
    intro items b l hi hs
    simp only[DK,iw]at hs
    split at hs<;>first | (cases hs;done) | skip
    rename_i p hp
    injection hs with hs
    subst hs
    obtain⟨R',h1,h2⟩:=T5 l ⟨[],0⟩ [] items [] var s p.1 p.2 (KO (Ar P fn) var) [] hi hp (Kv hb.vars.len) .nil
    exact⟨R',p.2,h1,rfl,rfl,rfl,h2⟩
  have back:∀ {R':Cf} {a':Act} {w':World} {ρ':BU},(∃c' loc',Er (Ar P fn) c' loc' res.var R')→res.exit=.normal→res.marks=marks→Bd P ρ' res.st w'→BE ρ' res.st→Fr ρ s w ρ' res.st w'→FP ρ' R' a'.tmps→a'.tmps.size=a.tmps.size→a'.defers=a.defers→Q .normal a' w':=by
    intro R' a' w' ρ' ⟨c',loc',hcr⟩ he hmk h1 h2 h3 h4 h5 h6
    have:=hq a' w' ρ' ⟨h1,h2,h3,X9 hcr h4 (by rw[h5];exact hb.vars.size),by rw[hmk,h6];exact hb.marks.mono h3.le⟩
    rw[he]at this
    exact this
  cases draw with
  | false =>
    refine wpIn_region ?_
    simp only[Ap]at hc
    cases hi:E6 P fn.ntmps (Ar P fn) ops #[] false (List.range ops.size) ⟨[],0⟩ []with
    | none=>rw[hi]at hc;cases hc
    | some items =>
      rw[hi]at hc
      obtain⟨R',s',h1,h2,h3,h4,h5⟩:=fin hi hc
      subst h4
      exact X7 hF h1 hb.inv hb.fresh (He hb.vars) hb.vars.size fun a' w' ρ' g1 g2 g3 g4 g5 g6=>back h5 h2 h3 g1 g2 g3 g4 g5 g6
  | true =>
    refine wpIn_region_any hm ?_
    simp only[Ap]at hc
    cases hpl:FY P ops (Region.before ops) [] (kG P ops)with
    | false=>rw[hpl]at hc;cases hc
    | true =>
      rw[hpl]at hc
      simp only[AQ,cond_true]at hc
      cases hi:E6 P fn.ntmps (Ar P fn) ops (Region.before ops) true (kG P ops) ⟨[],0⟩ []with
      | none=>rw[hi]at hc;cases hc
      | some items =>
        rw[hi]at hc
        obtain⟨R',s',h1,h2,h3,h4,h5⟩:=fin hi hc
        subst h4
        have hd:=Fr.drawn' (ρ:=ρ) (s:=s) (w:=w) (w.drawn+1)
        exact fG hF h1 hpl (hb.inv.drawn (w.drawn+1)) hb.fresh (He hb.vars) hb.vars.size fun a' w' ρ' g1 g2 g3 g4 g5 g6=>back h5 h2 h3 g1 g2 (hd.trans g3) g4 g5 g6
theorem IF{l:Nat}{L:Loop}(h:w.heap[l]? = some (.loop L))(fn:FuncId)(tmps:Array Value)(ps:Array Tmp)(assign body:Code):
  (Instr.enterLoop fn tmps ps assign body (some l)).run P w =
   .ok (w.heap.size,[]) (w.alloc (.loop { state:=.ready,pending:=none,fn,tmps,params:=ps,assign,body,defers:=L.defers })):=by
 unfold Instr.enterLoop
 simp only[Sem.run_bind,run_getLoop h,run_newObj_alloc,Result.andThen,Sem.run_pure]
theorem DT{l:Nat}{r:Di}(h:Ba s l=some r):s.heap.get l=some (.loop r):=by
 unfold Ba at h
 split at h
 ·injection h with h;subst h;assumption
 ·cases h
theorem BE.new(h:BE ρ s)(o:BF)(rb:RB):BE (CF ρ s.next rb) (newObj s o):=by
 intro i hi
 have hi:s.next+1≤i:=hi
 have:=h i (by omega)
 exact⟨by rw[AZ rb (by omega)];exact this.1,by rw[BA,if_neg (by omega)];exact this.2⟩
theorem Mc(h:Bd P ρ s w){l:Nat}{r:Di}{rb:RB}(hg:s.heap.get l=some (.loop r))(hr:ρ l=some rb){st:LoopState}{pd:Option Code}{L:Loop}(hL:w.heap[rb.b]? = some (.loop L)):
  Bd P ρ (setObj s l (.loop { r with state:=st,pending:=pd })) (w.putObj rb.b (.loop { L with state:=st,pending:=pd }))∧Fr ρ s w ρ (setObj s l (.loop { r with state:=st,pending:=pd })) (w.putObj rb.b (.loop { L with state:=st,pending:=pd })):=by
 have hlt:=h.lt l rb hr
 refine h.set hg hr rfl (fun p e=>by cases e) rfl World.putObj_size (fun b hb=>World.putObj_heap_other hb) rfl rfl rfl ?_
 obtain⟨L',h0,h1,h2,h4,h5,h6,h7,h8,h9,h10⟩:=(h.obj l _ rb hg hr:G9 P ρ w r rb).ex
 rw[hL]at h0
 injection h0 with h0
 injection h0 with h0
 subst h0
 exact⟨_,World.putObj_heap_same hlt,rfl,rfl,h4,h5,h6,h7,h8,h9,h10⟩
theorem kF{r:Option Nat}{s':AE}{res:Az}{a:Act}{Q:Exit→Act→World→Prop}{var:List AV}{marks:List Nat}{pd:Option Code}
  (hp:HE var marks s' pd=some res) (hq:res.var=var→res.marks=marks→res.st=s'→Q (Gt res.exit) a w):
  (match (generalizing:=false) pd with
   | none=>Q .normal a w
   | some c=>c.wpIn (Jl r) 0 P Q a w):=by
 unfold HE at hp
 split at hp<;>first | (cases hp;done) | skip
 ·injection hp with hp;subst hp;exact hq rfl rfl rfl
 ·injection hp with hp;subst hp;exact wpIn_ret (hq rfl rfl rfl)
 ·injection hp with hp;subst hp;exact wpIn_exit (hq rfl rfl rfl)
theorem M0         (hng : E2      P) {F : EA}  (hcall : Es     P F.call) {f : FuncId} {fn : Func} {var : List AV} {marks : List Nat} {s : AE}  {res : Az}   {ρ : BU}  {w : World} {a : Act} {r : Option Nat} {Q : Exit → Act → World → Prop} {g : AV} {g' : Value} {ps : Array Tmp} {assign body : Code} {dfr : Nat} {rd : RB}
    (hf:P.funcs[f]? = some fn) (hc:Fg F var g ps assign body f dfr marks s=some res) (hi:Bd P ρ s w) (hfr:BE ρ s) (hv:BO P ρ fn var a.tmps) (hmk:CH ρ marks a.defers)
    (hg:Ae ρ g g') (hd:ρ dfr=some rd) (fn':FuncId)
    (hq:∀w' ρ',IX P fn ρ s w res a w' ρ'→Q (Gt res.exit) a w'):
    ∃ (d : Deferred) (f0 : FuncId) (args : Array Value), Deferred.ofValue g' #[.func (.yield w.heap.size) #[] #[]] = Pure.pure d ∧
      (∀w1,(invoke d.target d.args).run P w1=.ok (.enter f0 args) w1) ∧
      CallsIn (Jl r) 0 P f0 args (w.alloc (.loop { state:=.ready,pending:=none,fn:=fn',tmps:=a.tmps,params:=ps,assign,body,defers:=rd.b })) (rangePost (Jl r) 0 P w.heap.size Q a):=by
  let L:Loop:={ state:=.ready,pending:=none,fn:=fn',tmps:=a.tmps,params:=ps,assign,body,defers:=rd.b }
  let al:Di:={ state:=.ready,pending:=none,fn:=f,var,params:=ps,assign,body,dfr }
  let rb:RB:=⟨w.heap.size,0,0,0⟩
  have hvi:Dh P f=Ar P fn:=by unfold Dh;rw[hf]
  have hn0:=(hfr _ (zU s.next)).1
  have hle:=Bk (rb:=rb) hn0
  obtain⟨hi1,hfr1⟩:=hi.new (o:=.loop al) (o':=.loop L) (rb:=rb) hn0 rfl
    ⟨L,World.alloc_heap_new w _,rfl,rfl,rfl,rfl,rfl,⟨rd,hle _ _ hd,rfl⟩,by rw[hvi];exact(hv.mono hle).rel,fun fn0 h0=>by
      have h0:P.funcs[f]? = some fn0:=h0
      rw[hf]at h0;injection h0 with h0;subst h0;exact hv.size,by rw[hvi];exact hv.len⟩
  have hff:=hfr.new (.loop al) rb
  unfold Fg Hm at hc
  simp only[zV]at hc
  obtain⟨q,hcv,r2,hl2,hend⟩:=hc
  cases hbz:UK r2.state with
  | true=>rw[hbz]at hend;cases hend
  | false =>
    rw[hbz]at hend
    simp only[cond_false]at hend
    unfold HH at hcv
    split at hcv<;>first | (cases hcv;done) | skip
    rename_i f0 first cap
    cases hg with
    | func ha hcp =>
      rename_i x c
      obtain⟨⟨fn0,c0,k1,k2⟩,k3⟩:=hcall _ _ _ f0 _ q.1 q.2 ((x++#[.func (.yield w.heap.size) #[] #[]])++c) hcv hi1 hff (by
        simp only[Array.toList_append]
        have hy:Ae (CF ρ s.next rb) (.yield s.next) (.func (.yield w.heap.size) #[] #[]):=Ae.yield (rb:=rb) (Af _ _)
        have:=(AW.mono hle ha).append ((AW.cons hy .nil).append (AW.mono hle hcp))
        simpa using this)
      refine⟨{ target:=.fn (.func f0) c,args:=x++#[.func (.yield w.heap.size) #[] #[]] },f0,_,rfl,fun w1=>?_,Ke (CallsIn.mono k3 ?_)⟩
      · simp only[invoke]
        exact HG hng k1 k2 _ _
      · intro e w3 he
        cases e with
        | panicked c=>exact he.elim
        | outgrown=>exact he.elim
        | returned v' =>
          obtain⟨ρ',_,g2,g3⟩:=he
          have hg2:=DT hl2
          have hr2:ρ' s.next=some rb:=g3.le _ _ (Af _ _)
          obtain⟨L2,h0,h1,h2,_⟩:=(g2.obj _ _ _ hg2 hr2:G9 P ρ' w3 r2 rb).ex
          obtain⟨g4,g5⟩:=Mc g2 hg2 hr2 (st:=.exhausted) (pd:=r2.pending) h0
          have hbz':L2.state≠.busy:=by rw[h1];intro e;rw[e]at hbz;cases hbz
          refine⟨L2.pending,_,run_endLoop h0 hbz',?_⟩
          rw[h2]
          refine kF hend fun e1 e2 e3=>hq _ ρ' ?_
          have hall:=hfr1.trans (g3.trans g5)
          have hfresh:=(hff.step g3).step g5
          rw[h2.symm]at g4 g5 hall
          refine⟨?_,?_,?_,by rw[e1];exact hv.mono hall.le,by rw[e2];exact hmk.mono hall.le⟩
          · rw[e3,← h2];exact g4
          · rw[e3];exact hfresh
          · rw[e3,← h2];exact hall
end
end
end Go.Proofs.YtjnkfbpadpmakaaGreatDoor.Am
set_option linter.unusedVariables false
set_option linter.unusedSimpArgs false
namespace Go.Proofs.YtjnkfbpadpmakaaGreatDoor.Am
open Go
open Go.ChangeMaps (setBlock)
noncomputable section
mutual
theorem Ae.back{ρ σ:BU}(le:ρ.le σ){v:AV}{v' v0:Value}(h:Ae σ v v')(h0:Ae ρ v v0):Ae ρ v v':=by
 cases h with
 | bool b=>exact .bool b
 | int k n=>exact .int k n
 | str h=>exact .str h
 | ptrNil=>exact .ptrNil
 | ptr h=>cases h0 with
  | ptr k=>have:=le _ _ k;rw[h]at this;injection this with this;subst this;exact .ptr k
 | gptr g o=>exact .gptr g o
 | sliceNil=>exact .sliceNil
 | slice h hl=>cases h0 with
  | slice k _=>have:=le _ _ k;rw[h]at this;injection this with this;subst this;exact .slice k hl
 | sliceOpen h hs hl h1 h2=>cases h0 with
  | sliceOpen k _ _ _ _=>have:=le _ _ k;rw[h]at this;injection this with this;subst this;exact .sliceOpen k hs hl h1 h2
  | sliceEnd k _ _ _=>have:=le _ _ k;rw[h]at this;injection this with this;subst this;exact .sliceOpen k hs hl h1 h2
 | sliceEnd h hs h1 h2=>cases h0 with
  | sliceOpen k _ _ _ _=>have:=le _ _ k;rw[h]at this;injection this with this;subst this;exact .sliceEnd k hs h1 h2
  | sliceEnd k _ _ _=>have:=le _ _ k;rw[h]at this;injection this with this;subst this;exact .sliceEnd k hs h1 h2
 | mapNil=>exact .mapNil
 | map h=>cases h0 with
  | map k=>have:=le _ _ k;rw[h]at this;injection this with this;subst this;exact .map k
 | func ha hc=>cases h0 with
  | func ka kc=>exact .func (AW.back le ha ka) (AW.back le hc kc)
 | yield h=>cases h0 with
  | yield k=>have:=le _ _ k;rw[h]at this;injection this with this;subst this;exact .yield k
 | nilFunc=>exact .nilFunc
 | nilIface=>exact .nilIface
 | iface h=>cases h0 with
  | iface k=>exact .iface (Ae.back le h k)
 | agg h=>cases h0 with
  | agg k=>exact .agg (AW.back le h k)
 | tuple h=>cases h0 with
  | tuple k=>exact .tuple (AW.back le h k)
 | any h=>exact .any h
theorem AW.back{ρ σ:BU}(le:ρ.le σ){v:List AV}{v' v0:List Value}(h:AW σ v v')(h0:AW ρ v v0):AW ρ v v':=by
 cases h with
 | nil=>exact .nil
 | cons h hs=>cases h0 with
  | cons k ks=>exact .cons (Ae.back le h k) (AW.back le hs ks)
end
theorem P2{σ:BU}{v:AV}{v':Value}(h:Is v=true)(hv:Ae σ v v'):v'.cells.toList=[v']:=by
 cases hv<;>first | rfl | (cases h;done) | assumption
theorem NA{a b:AV}(h:OO a b=true):a=b:=by
 unfold OO at h
 split at h
 ·rfl
 ·exact ME h
def Og(X B:List AV):Prop:=X.length=B.length∧∀ (j:Nat)(x:AV),X[j]? = some x→B[j]? = some x∨Is x=true∧B[j]? = some .junk
theorem Og.refl(X:List AV):Og X X:=⟨rfl,fun j x h=>.inl h⟩
theorem Og.trans{X Y Z:List AV}(h:Og X Y)(k:Og Y Z):Og X Z:=by
  refine⟨h.1.trans k.1,fun j x hx=>?_⟩
  rcases h.2 j x hx with h1 | ⟨h1,h2⟩
  · exact k.2 j x h1
  · rcases k.2 j _ h2 with h3 | ⟨_, h3⟩
    · exact .inr ⟨h1,h3⟩
    · exact .inr ⟨h1,h3⟩
theorem RQ:∀ {X B:List AV},T7 X B=true→Og X B
 | [],[],_=>.refl _
 | x::l,b::m,h=>by
  simp only[T7,Bool.and_eq_true]at h
  obtain⟨g1,g2⟩:=RQ h.2
  refine⟨by simp[g1],fun j y hy=>?_⟩
  cases j with
  | zero =>
   simp at hy
   subst hy
   have h1:=h.1
   simp only[xE,Bool.or_eq_true,Bool.and_eq_true]at h1
   rcases h1 with h1 | ⟨h1,h2⟩
   ·left;simp[NA h1]
   ·right;refine⟨h1,?_⟩;simp[← NA h2]
  | succ j=>simpa using g2 j y (by simpa using hy)
 | [],_::_,h=>by cases h
 | _::_,[],h=>by cases h
theorem Mf         : ∀ {A X B : List AV}, Ph     A X = some B → Og  A B ∧ Og  X B
  | [],[],B,h=>by injection h with h;subst h;exact⟨.refl _,.refl _⟩
  | a::l,x::m,B,h=>by
    unfold Ph at h
    simp only[zV]at h
    obtain⟨c,h1,r,h2,h3⟩:=h
    injection h3 with h3
    subst h3
    obtain⟨⟨g1,g2⟩,g3,g4⟩:=Mf h2
    have hc:(c=a∨Is a=true∧c=.junk)∧(c=x∨Is x=true∧c=.junk):=by
      cases he:OO a x with
      | true=>rw[he]at h1;injection h1 with h1;exact⟨.inl h1.symm,.inl (h1.symm.trans (NA he))⟩
      | false =>
        rw[he]at h1
        obtain⟨h4,h5⟩:=AD h1
        simp only[Bool.and_eq_true]at h4
        injection h5 with h5
        exact⟨.inr ⟨h4.1,h5.symm⟩,.inr ⟨h4.2,h5.symm⟩⟩
    refine⟨⟨by simp[g1],fun j y hy=>?_⟩,⟨by simp[g3],fun j y hy=>?_⟩⟩
    · cases j with
      | zero =>
        simp at hy
        subst hy
        rcases hc.1 with h | ⟨h,h'⟩
        · left;simp[h]
        · right;simp[h,h']
      | succ j=>simpa using g2 j y (by simpa using hy)
    · cases j with
      | zero =>
        simp at hy
        subst hy
        rcases hc.2 with h | ⟨h,h'⟩
        · left;simp[h]
        · right;simp[h,h']
      | succ j=>simpa using g4 j y (by simpa using hy)
  | [],_::_,_,h=>by cases h
  | _::_,[],_,h=>by cases h
theorem Jc:∀ {a b:List Nat},H5 a b=true→a=b
 | [],[],_=>rfl
 | a::l,b::m,h=>by
  simp only[H5,Bool.and_eq_true]at h
  rw[zr h.1,Jc h.2]
 | [],_::_,h=>by cases h
 | _::_,[],h=>by cases h
section
variable{P:Program}{ρ ρ1 ρ2:BU}{s s1 s2:AE}{w w1 w2:World}
theorem Uu{fn:Func}{A X B:List AV}{t0 t1:Array Value}(h0:BO P ρ fn A t0)(h1:BO P ρ1 fn X t1)(le:ρ.le ρ1)(ha:Og A B)(hx:Og X B):BO P ρ fn B t1:=by
  refine⟨by rw[← ha.1];exact h0.len,fun t k hk=>?_,h1.size⟩
  obtain⟨_,a,k1,k2⟩:=h0.rel t k hk
  obtain⟨k3,x,k4,k5⟩:=h1.rel t k hk
  refine⟨k3,?_⟩
  rcases hx.2 k x k4 with e1 | ⟨e1,e2⟩
  · rcases ha.2 k a k1 with e3 | ⟨e3, e4⟩
    · rw[e1]at e3
      injection e3 with e3
      subst e3
      exact⟨_,e1,Ae.back le k5 k2⟩
    · rw[e4]at e1
      injection e1 with e1
      subst e1
      cases k5 with
      | any h=>exact⟨_,e4,.any h⟩
  · exact⟨_,e2,.any (P2 e1 k5)⟩
theorem P7{fn:Func}{var:List AV}{tmps:Array Value}(h:BO P ρ fn var tmps){t:Tmp}{j:Nat}(hp:BG (Ar P fn) t=some j){v:AV}{v':Value}(hv:Ae ρ v v')(ht:t<tmps.size):BO P ρ fn (Gu v var j) (tmps.setIfInBounds t v'):=by
 refine⟨by rw[Gv,A0j];exact h.len,fun u k hk=>?_,by rw[Array.size_setIfInBounds];exact h.size⟩
 obtain⟨g1,x,g2,g3⟩:=h.rel u k hk
 refine⟨by rw[Array.size_setIfInBounds];exact g1,?_⟩
 have hjl:j<var.length:=by rw[h.len];exact Dw hp
 by_cases e:u=t
 ·subst e
  rw[hp]at hk
  injection hk with hk
  subst hk
  exact⟨v,by rw[Gv];simp[hjl],by simpa[Array.getD_eq_getD_getElem?,ht]using hv⟩
 ·have ejk:j≠k:=fun e'=>by subst e';exact e (HY hk hp)
  refine⟨x,by rw[Gv,A1A ejk];exact g2,?_⟩
  have:(tmps.setIfInBounds t v').getD u undef=tmps.getD u undef:=by
   simp[Array.getD_eq_getD_getElem?,Array.getElem?_setIfInBounds_ne (Ne.symm e)]
  rw[this]
  exact g3
theorem Ji{fn:Func}{var:List AV}{tmps:Array Value}(h:BO P ρ fn var tmps){t:Tmp}(hp:BG (Ar P fn) t=none)(v':Value):BO P ρ fn var (tmps.setIfInBounds t v'):=by
 refine⟨h.len,fun u k hk=>?_,by rw[Array.size_setIfInBounds];exact h.size⟩
 obtain⟨g1,x,g2,g3⟩:=h.rel u k hk
 refine⟨by rw[Array.size_setIfInBounds];exact g1,x,g2,?_⟩
 have e:u≠t:=fun e=>by subst e;rw[hp]at hk;cases hk
 have:(tmps.setIfInBounds t v').getD u undef=tmps.getD u undef:=by
  simp[Array.getD_eq_getD_getElem?,Array.getElem?_setIfInBounds_ne (Ne.symm e)]
 rw[this]
 exact g3
theorem OB:∀ {l:List Nat}{ds ds':List Deferred},CH ρ l ds→CH ρ1 l ds'→ρ.le ρ1→ds'=ds
 | [],ds,ds',h,h',_=>by
  have h:ds=[]:=h
  have h':ds'=[]:=h'
  rw[h,h']
 | i::l,ds,ds',⟨rb,d1,h1,h2,h3⟩,⟨rb',d2,k1,k2,k3⟩,le=>by
  have:=le _ _ h1
  rw[k1]at this
  injection this with this
  subst this
  rw[h2,k2,OB h3 k3 le]
theorem LN{n:Nat}{h:Ab BF}{i:Nat}{o:BF}(hg:(frz n h).heap.get i=some o):∃o',h.get i=some o'∧ua o'=some o:=by
 unfold frz at hg
 simpa only[Ab.get_mapO,zV]using hg
theorem LM{o o':BF}(h:ua o'=some o):wr o=false∧Gf o=Gf o'∧∀ {ρ:BU}{w:World}{rb:RB},F0 P ρ w o' rb→F0 P ρ w o rb:=by
 cases o' with
 | row r =>
  injection h with h
  subst h
  exact⟨rfl,rfl,fun {ρ w rb} hok=>by
   have hok:Ct ρ w r rb:=hok
   exact(show Ct ρ w { r with mode:=.ro,par:=none } rb from⟨hok.cells,hok.le,hok.sz,hok.tight,fun e=>absurd rfl e,hok.base,hok.gl,fun p e=>by cases e⟩)⟩
 | map kt es=>injection h with h;subst h;exact⟨rfl,rfl,fun hok=>hok⟩
 | mapRo kt es=>injection h with h;subst h;exact⟨rfl,rfl,fun hok=>hok⟩
 | loop l=>cases h
 | mark=>cases h
 | iter a b=>cases h
theorem Bd.frz(h:Bd P ρ s w)(n:Nat):Bd P ρ (frz n s.heap) w:=by
 refine⟨fun i o rb hi hr=>?_,h.lt,fun i j oi oj ri rj hne hi hj hri hrj hb hw=>?_,fun i o g hi hg=>?_⟩
 ·obtain⟨o',h1,h2⟩:=LN hi
  exact(LM h2).2.2 (h.obj i _ rb h1 hr)
 ·obtain⟨o',_,h2⟩:=LN hj
  rw[(LM (P:=P) h2).1]at hw
  cases hw
 ·obtain⟨o',h1,h2⟩:=LN hi
  rw[(LM (P:=P) h2).2.1]at hg
  exact h.glb i _ g h1 hg
theorem J9(Q0:Program)(n:Nat)(t:Ab BF)(b:Nat):¬ Gx ρ (frz n t) b:=by
 rintro⟨i,o,rb,h1,h2,_⟩
 obtain⟨o',_,h3⟩:=LN h1
 rw[(LM (P:=Q0) h3).1]at h2
 cases h2
theorem BE.frz(h:BE ρ s):BE ρ (frz s.next s.heap):=fun i hi=>by
 refine⟨(h i hi).1,?_⟩
 unfold Am.frz
 simp only[Ab.get_mapO]
 rw[(h i hi).2];rfl
structure Hd(w0 w:World)(bm clock:Nat)(seen:Array Nat):Prop where
 lt:w0.heap.size<w.heap.size
 old:∀b,b<w0.heap.size→w.heap[b]? = w0.heap[b]?
 os:w.os=w0.os
 tape:w.tape=w0.tape
 output:w.output=w0.output
 it:∃c0,clock≤c0∧w.heap[w0.heap.size]? = some (.mapIter (some bm) clock seen c0)
def CK(ρ:BU)(s:AE)(w0:World):BU:=CF ρ s.next ⟨w0.heap.size,0,0,0⟩
theorem Hd.inv{bm clock:Nat}{seen:Array Nat}(hd:Hd w w1 bm clock seen)(h:Bd P ρ s w)(hf:BE ρ s):Bd P (CK ρ s w) ⟨s.next+1,s.heap⟩ w1:=by
  have hn:=hf s.next (zU _)
  have hle:ρ.le (CK ρ s w):=Bk hn.1
  have hr:∀i o rb,s.heap.get i=some o→CK ρ s w i=some rb→ρ i=some rb:=fun i o rb hi hr=>by
    have:i≠s.next:=fun e=>by subst e;rw[hn.2]at hi;cases hi
    unfold CK at hr
    rw[AZ _ this]at hr
    exact hr
  refine⟨fun i o rb hi hri=>?_,fun i rb hri=>?_,fun i j oi oj ri rj hne hi hj hri hrj=>h.sep i j oi oj ri rj hne hi hj (hr i oi ri hi hri) (hr j oj rj hj hrj),fun i o g hi hg=>?_⟩
  · have hi : s.heap.get i = some o := hi
    have h1:=hr i o rb hi hri
    exact(h.obj i o rb hi h1).mono hle (hd.old _ (h.lt i rb h1))
  · unfold CK at hri
    by_cases e:i=s.next
    · subst e
      rw[Af]at hri
      injection hri with hri
      subst hri
      exact hd.lt
    · rw[AZ _ e]at hri
      have:=h.lt i rb hri
      exact Nat.lt_trans this hd.lt
  · obtain⟨rb,h1⟩:=h.glb i o g hi hg
    exact⟨rb,hle _ _ h1⟩
theorem RZ(hf:BE ρ s):BE (CK ρ s w) ⟨s.next+1,s.heap⟩:=fun i hi=>by
 have hi:s.next+1≤i:=hi
 refine⟨?_,(hf i (by omega)).2⟩
 unfold CK
 rw[AZ _ (by omega)]
 exact(hf i (by omega)).1
theorem Hd.fr{bm clock:Nat}{seen:Array Nat}(hd:Hd w w1 bm clock seen)(hf:BE ρ s):Fr ρ s w (CK ρ s w) ⟨s.next+1,s.heap⟩ w1:=by
 have hn:=hf s.next (zU _)
 refine⟨Bk hn.1,fun i hi ho=>?_,A0X _,Nat.le_of_lt hd.lt,hd.os,hd.tape,hd.output,fun b hb _=>hd.old b hb,fun b hb=>?_,fun _ _ _=>rfl⟩
 ·have ho:i<s.next∨s.next+1≤i:=ho
  unfold CK
  rw[AZ _ (by omega)]
  exact hi
 ·obtain⟨i,o,rb,h1,h2,h3,h4⟩:=hb
  have h1:s.heap.get i=some o:=h1
  have:i≠s.next:=fun e=>by subst e;rw[hn.2]at h1;cases h1
  unfold CK at h3
  rw[AZ _ this]at h3
  exact .inl ⟨i,o,rb,h1,h2,h3,h4⟩
theorem Hd.step{bm clock:Nat}{seen seen':Array Nat}(hd:Hd w w1 bm clock seen){c1:Nat}(hc:clock≤c1)(hw:w2=w1∨w2=w1.drew):Hd w (setBlock w2 w.heap.size (.mapIter (some bm) clock seen' c1)) bm clock seen':=by
 have e:w2.heap=w1.heap∧w2.os=w1.os∧w2.tape=w1.tape∧w2.output=w1.output:=by
  rcases hw with rfl | rfl<;>exact⟨rfl,rfl,rfl,rfl⟩
 refine⟨?_,fun b hb=>?_,e.2.1.trans hd.os,e.2.2.1.trans hd.tape,e.2.2.2.trans hd.output,c1,hc,?_⟩
 ·show w.heap.size<(w2.heap.setIfInBounds _ _).size
  rw[Array.size_setIfInBounds,e.1]
  exact hd.lt
 ·show(w2.heap.setIfInBounds _ _)[b]? = _
  rw[Array.getElem?_setIfInBounds_ne (by omega),e.1]
  exact hd.old b hb
 ·show(w2.heap.setIfInBounds _ _)[w.heap.size]? = _
  rw[e.1]
  simp[hd.lt]
theorem Hd.round(Q0:Program){bm clock:Nat}{seen:Array Nat}(hd:Hd w w1 bm clock seen){n:Nat}{t:Ab BF}(hfr:Fr ρ (frz n t) w1 ρ1 s1 w2):Hd w w2 bm clock seen:=by
 have hk:∀b,b<w1.heap.size→w2.heap[b]? = w1.heap[b]? := fun b hb=>hfr.keep b hb (J9 Q0 n t b)
 obtain⟨c0,h1,h2⟩:=hd.it
 exact⟨zZ hd.lt hfr.size,fun b hb=>(hk b (Nat.lt_trans hb hd.lt)).trans (hd.old b hb),hfr.os.trans hd.os,hfr.tape.trans hd.tape,hfr.output.trans hd.output,c0,h1,(hk _ hd.lt).trans h2⟩
end
section
variable{P:Program}{ρ ρ1 ρ2:BU}{s s1 s2:AE}{w w1 w2:World}{a:Act}{ops:Array Oper}{rnd:Option Nat}{Q:Exit→Act→World→Prop}
theorem Ij{i:Nat}{o:Oper}{v':Value}{w':World}{K:Act→World→Prop}(ho:ops[i]? = some o)(hg:o.guard=none)(hd:∀c,o.op≠.defer c)(hr:(execOp a.eval o).run P w=.ok (.value v') w')
  (hk:K (a.put o.dst v') w'):wpOpIn (Jl rnd) 0 P ops Q i K a w:=by
 unfold wpOpIn
 rw[ho]
 simp only
 rw[if_pos (by unfold Region.wanted;rw[hg])]
 refine⟨fun _ _=>trivial,?_⟩
 rw[Oper.semAt_eq _ _ _ hd,hr]
 exact hk
theorem C7{o:Oper}{x:Op×Tmp}(h:FB o=some x):o.guard=none∧o.dst=some x.2∧o.op=x.1:=by
 unfold FB at h
 split at h
 ·rename_i h1 h2
  injection h with h
  subst h
  exact⟨h1,h2,rfl⟩
 ·cases h
theorem QQ{o:Op}{x:TypeId×Operand}(h:TH o=some x):o=.load x.1 x.2:=by
 unfold TH at h
 split at h
 ·injection h with h;subst h;rfl
 ·cases h
theorem Oo{o:Op}{x:TypeId×Tmp}(h:On o=some x):o=.range x.1 (.tmp x.2):=by
 unfold On at h
 split at h
 ·injection h with h;subst h;rfl
 ·cases h
theorem QS{o:Op}{x:Tmp}(h:TI o=some x):o=.next (.tmp x) false:=by
 unfold TI at h
 split at h
 ·injection h with h;subst h;rfl
 ·cases h
theorem Om{o:Op}{x:Tmp}(h:Ol o=some x):o=.entry (.tmp x):=by
 unfold Ol at h
 split at h
 ·injection h with h;subst h;rfl
 ·cases h
theorem Ll{o:Op}{x:Tmp}(h:VA o=some x):o=.extract (.tmp x) 0:=by
 unfold VA at h
 split at h
 ·injection h with h;subst h;rfl
 ·cases h
theorem TJ{o:Op}{x:Tmp}(h:YO o=some x):o=.assign (.tmp x):=by
 unfold YO at h
 split at h
 ·injection h with h;subst h;rfl
 ·cases h
theorem Il{l:List Oper}(h:ops.toList=l)(i:Nat):ops[i]? = l[i]? := by rw[← h];simp
theorem Mp{l:List Oper}(h:ops.toList=l):ops.size=l.length:=by rw[← h];simp
structure iQ(ops:Array Oper)(ty:TypeId)(ad:Operand)(tm it:Tmp):Prop where
 ex:∃o0 o1,ops.toList=[o0,o1]∧(o0.guard=none∧o0.dst=some tm∧o0.op=.load ty ad)∧(o1.guard=none∧o1.dst=some it∧o1.op=.range ty (.tmp tm))
structure Oj(ops:Array Oper)(it tn ok:Tmp):Prop where
 ex:∃o0 o1,ops.toList=[o0,o1]∧(o0.guard=none∧o0.dst=some tn∧o0.op=.next (.tmp it) false)∧(o1.guard=none∧o1.dst=some ok∧o1.op=.extract (.tmp tn) 0)
structure Lc(ops:Array Oper)(it te tk key:Tmp):Prop where
 ex:∃o0 o1 o2,ops.toList=[o0,o1,o2]∧(o0.guard=none∧o0.dst=some te∧o0.op=.entry (.tmp it))∧(o1.guard=none∧o1.dst=some tk∧o1.op=.extract (.tmp te) 0)∧(o2.guard=none∧o2.dst=some key∧o2.op=.assign (.tmp tk))
theorem Px{x:TypeId×Operand×Tmp×Tmp}(h:Pw ops.toList=some x):iQ ops x.1 x.2.1 x.2.2.1 x.2.2.2:=by
 unfold Pw at h
 split at h
 ·rename_i o0 o1 hl
  simp only[zV]at h
  obtain⟨p0,h1,p1,h2,l,h3,r,h4,h5⟩:=h
  obtain⟨h6,h7⟩:=AD h5
  simp only[Bool.and_eq_true]at h6
  injection h7 with h7
  subst h7
  obtain⟨a1,a2,a3⟩:=C7 h1
  obtain⟨b1,b2,b3⟩:=C7 h2
  rw[QQ h3]at a3
  rw[Oo h4,← As h6.1,← As h6.2]at b3
  exact⟨o0,o1,hl,⟨a1,a2,a3⟩,b1,b2,b3⟩
 ·cases h
theorem Pz{it:Tmp}{x:Tmp×Tmp}(h:Py it ops.toList=some x):Oj ops it x.1 x.2:=by
 unfold Py at h
 split at h
 ·rename_i o0 o1 hl
  simp only[zV]at h
  obtain⟨p0,h1,p1,h2,l,h3,r,h4,h5⟩:=h
  obtain⟨h6,h7⟩:=AD h5
  simp only[Bool.and_eq_true]at h6
  injection h7 with h7
  subst h7
  obtain⟨a1,a2,a3⟩:=C7 h1
  obtain⟨b1,b2,b3⟩:=C7 h2
  rw[QS h3,As h6.1]at a3
  rw[Ll h4,As h6.2]at b3
  exact⟨o0,o1,hl,⟨a1,a2,a3⟩,b1,b2,b3⟩
 ·cases h
theorem Nf{it:Tmp}{x:Tmp×Tmp×Tmp}(h:M4 it ops.toList=some x):Lc ops it x.1 x.2.1 x.2.2:=by
 unfold M4 at h
 split at h
 ·rename_i o0 o1 o2 hl
  simp only[zV]at h
  obtain⟨p0,h1,p1,h2,p2,h0,l,h3,r,h4,k,h8,h5⟩:=h
  obtain⟨h6,h7⟩:=AD h5
  simp only[Bool.and_eq_true]at h6
  injection h7 with h7
  subst h7
  obtain⟨a1,a2,a3⟩:=C7 h1
  obtain⟨b1,b2,b3⟩:=C7 h2
  obtain⟨c1,c2,c3⟩:=C7 h0
  rw[Om h3,As h6.1]at a3
  rw[Ll h4,As h6.2.1]at b3
  rw[TJ h8,As h6.2.2]at c3
  exact⟨o0,o1,o2,hl,⟨a1,a2,a3⟩,⟨b1,b2,b3⟩,c1,c2,c3⟩
 ·cases h
theorem DD{t:Tmp}{v:Value}(h:t<a.tmps.size):(a.put (some t) v).eval (.tmp t)=v:=by
 simp[Act.put,Act.eval,Array.getD_eq_getD_getElem?,h]
theorem SL{i2:Nat}{it tn ok:Tmp}{r0:Addr}(h:Oj ops it tn ok)(hit:a.eval (.tmp it)=.pointer (some r0))(htn:tn<a.tmps.size)
    (hrun:∀ty:TypeId,∃l b w',l[0]? = some b∧(Instr.next (.pointer (some r0)) false ty).run P w=.ok (.tuple l) w'∧Q .normal ((a.put (some tn) (.tuple l)).put (some ok) b) w'):
    (Code.region i2 ops false).wpIn (Jl rnd) 0 P Q a w:=by
  obtain⟨o0,o1,hl,⟨a1,a2,a3⟩,b1,b2,b3⟩:=h.ex
  obtain⟨l,b,w',h1,h2,h3⟩:=hrun o0.type
  refine wpIn_region ?_
  rw[Mp hl]
  show wpOpsIn (Jl rnd) 0 P ops Q [0,1] a w
  rw[wpOpsIn_cons]
  refine Ij (Il hl 0) a1 (fun c e=>by rw[a3]at e;cases e) (v':=.tuple l) (w':=w') ?_ ?_
  · simp only[execOp,a3,hit,Sem.run_bind,h2,Result.andThen,Sem.run_pure]
  · rw [wpOpsIn_cons, a2]
    refine Ij (Il hl 1) b1 (fun c e=>by rw[b3]at e;cases e) (v':=b) (w':=w') ?_ ?_
    · simp only[execOp,b3,DD htn,Instr.extract,h1,Sem.run_bind,Result.andThen,Sem.run_pure]
    · rw[b2]
      exact h3
theorem PS           {i3 : Nat} {it te tk key : Tmp} {r0 : Addr} {l : Array Value} {b : Value} (h : Lc       ops it te tk key) (hit : a.eval (.tmp it) = .pointer (some r0)) (hte : te < a.tmps.size) (htk : tk < a.tmps.size)
    (hl0:l[0]? = some b) (hrun:(Instr.entry (.pointer (some r0))).run P w=.ok (.tuple l) w) (hq:Q .normal (((a.put (some te) (.tuple l)).put (some tk) b).put (some key) b) w):
    (Code.region i3 ops false).wpIn (Jl rnd) 0 P Q a w:=by
  obtain⟨o0,o1,o2,hl,⟨a1,a2,a3⟩,⟨b1,b2,b3⟩,c1,c2,c3⟩:=h.ex
  refine wpIn_region ?_
  rw[Mp hl]
  show wpOpsIn (Jl rnd) 0 P ops Q [0,1,2] a w
  rw[wpOpsIn_cons]
  refine Ij (Il hl 0) a1 (fun c e=>by rw[a3]at e;cases e) (v':=.tuple l) (w':=w) ?_ ?_
  · simp only[execOp,a3,hit,Sem.run_bind,hrun,Result.andThen,Sem.run_pure]
  · rw [wpOpsIn_cons, a2]
    refine Ij (Il hl 1) b1 (fun c e=>by rw[b3]at e;cases e) (v':=b) (w':=w) ?_ ?_
    · simp only[execOp,b3,DD hte,Instr.extract,hl0,Sem.run_bind,Result.andThen,Sem.run_pure]
    · rw [wpOpsIn_cons, b2]
      refine Ij (Il hl 2) c1 (fun c e=>by rw[c3]at e;cases e) (v':=b) (w':=w) ?_ ?_
      · simp only[execOp,c3,DD (a:=a.put (some te) (.tuple l)) (t:=tk) (v:=b) (by rw[Br];exact htk),Sem.run_pure]
      · rw[c2]
        exact hq
structure U2(ρi:BU)(es:Array MapEntry)(f0 f1:AV→Option (List AV))(AF:List AV):Prop where
 ex:∀e∈es.toList,∃k,Ae ρi k e.key∧(∃X,f0 k=some X∧Og X AF)∧(∃X,f1 k=some X∧Og X AF)
theorem J3{id2:Nat}{e:KY}{K:Act→World→Prop}{Q':Exit→Act→World→Prop}(h:Nu id2 e=true)(hk:K a w):Exit.inBlock id2 (Exit.then K Q') (Gt e) a w:=by
 cases e with
 | normal=>exact hk
 | exit i =>
  have:i=id2:=As h
  show(if i=id2 then _ else _)
  rw[if_pos this]
  exact hk
 | ret=>cases h
variable{fn:Func}{A0 AF:List AV}{marks:List Nat}{bm clock:Nat}{es:Array MapEntry}{it tn ok te tk key:Tmp}{jt jok jk:Nat}
structure YF(P:Program)(fn:Func)(it tn ok te tk key:Tmp)(jt jok jk:Nat):Prop where
 hjt:BG (Ar P fn) it=some jt
 hjok:BG (Ar P fn) ok=some jok
 hjk:BG (Ar P fn) key=some jk
 ntn:BG (Ar P fn) tn=none
 nte:BG (Ar P fn) te=none
 ntk:BG (Ar P fn) tk=none
 ltn:tn<fn.ntmps
 lte:te<fn.ntmps
 ltk:tk<fn.ntmps
 lok:ok<fn.ntmps
 lkey:key<fn.ntmps
 d1:jt≠jok
 d2:jt≠jk
 d3:jok≠jk
theorem Wm{ρi:BU}{A:List AV}{tmps:Array Value}(hs:YF P fn it tn ok te tk key jt jok jk)(hv:BO P ρi fn A tmps)(hj:Mk A jt=.ptr (some (s.next,0)))(hr:ρi s.next=some ⟨w.heap.size,0,0,0⟩):
  tmps.getD it undef=.pointer (some ⟨w.heap.size,0,none⟩):=by
 obtain⟨_,v,h1,h2⟩:=hv.rel it jt hs.hjt
 rw[Ml h1]at hj
 subst hj
 generalize tmps.getD it undef=x at h2
 cases h2 with
 | ptr h =>
  rw[hr]at h
  injection h with h
  subst h
  rfl
theorem Xt        {F : EA}  (hcode : Jo     P F) {f : FuncId} {ops2 ops3 : Array Oper} {i2 i3 idb id2 : Nat} {body : Code} {r : Jn}   (hf : P.funcs[f]? = some fn) (hs : YF    P fn it tn ok te tk key r.jt r.jok r.jk) (h2 : Oj      ops2 it tn ok) (h3 : Lc       ops3 it te tk key)
    (hi:Bd P ρ s w) (hfr:BE ρ s) (hm:w.heap[bm]? = some (.map es clock)) (hst:MapKept.Stamped es clock) {rd:Option Nat} (hrnd:Lg ρ rd rnd) (hid:id2=r.id2)
    (hcov:Og A0 AF) (hA0:Mk A0 r.jt=.ptr (some (s.next,0))) (hAF:Mk AF r.jt=.ptr (some (s.next,0)))
    (hro:U2 (CK ρ s w) es (C0 F rd r (Ap P f fn.ntmps (Ar P fn) body) A0 marks (frz (s.next+1) s.heap)) (C0 F rd r (Ap P f fn.ntmps (Ar P fn) body) AF marks (frz (s.next+1) s.heap)) AF)
    (hq:∀a' w' seen',Hd w w' bm clock seen'→BO P (CK ρ s w) fn (Gu (.bool false) AF r.jok) a'.tmps→CH (CK ρ s w) marks a'.defers→Q .normal a' w'):
    ∀ (m:Nat) (A:List AV) (a:Act) (w1:World) (seen:Array Nat),(leftOf es seen).size<m→(A=AF∨A=A0∧0<(leftOf es seen).size)→Hd w w1 bm clock seen→BO P (CK ρ s w) fn A a.tmps→CH (CK ρ s w) marks a.defers →
      Code.roundsIn (Jl rnd) 0 P (.seq (.region i2 ops2 false) (.seq (.cond (.tmp ok) .skip (.exit idb)) (.block id2 (.seq (.region i3 ops3 false) body)))) (Exit.inBlock idb Q) m a w1:=by
  intro m
  induction m with
  | zero=>intro A a w1 seen h;omega
  | succ m ih =>
    intro A a w1 seen hlt hA hd hv hmk
    have hlt0:bm<w.heap.size:=by
      rcases zX bm w.heap.size with h | h
      · exact h
      · simp[Array.getElem?_eq_none h]at hm
    have hn:=(hfr s.next (zU _)).1
    have hrit:CK ρ s w s.next=some ⟨w.heap.size,0,0,0⟩:=Af _ _
    have hjA:Mk A r.jt=.ptr (some (s.next,0)):=by rcases hA with rfl | ⟨rfl,_⟩<;>assumption
    have hit:a.eval (.tmp it)=.pointer (some ⟨w.heap.size,0,none⟩):=Wm hs hv hjA hrit
    have hm1:w1.heap[bm]? = some (.map es clock):=by rw[hd.old bm hlt0];exact hm
    obtain⟨c0,hc0,hiter⟩:=hd.it
    have hst':=(MapKept.stamped_iff es clock).1 hst
    have hsz:fn.ntmps≤a.tmps.size:=hv.size
    rw[roundsIn_succ]
    refine wpIn_seq (SL h2 hit (zZ hs.ltn hsz) fun ty=>?_)
    rcases run_next_at (P:=P) w1 ty w.heap.size bm clock c0 seen es clock hiter hm1 hst'.1 hc0 with⟨hz,hrun⟩ | ⟨e,he,w2,hw2,hrun⟩
    · refine⟨_,.bool false,w1,rfl,hrun,?_⟩
      have hAF':A=AF:=by
        rcases hA with h | ⟨_,h⟩
        · exact h
        · omega
      subst hAF'
      have hv1:BO P (CK ρ s w) fn A (a.put (some tn) (.tuple #[.bool false])).tmps:=Ji hv hs.ntn _
      have hv2:BO P (CK ρ s w) fn (Gu (.bool false) A r.jok) ((a.put (some tn) (.tuple #[.bool false])).put (some ok) (.bool false)).tmps:=P7 hv1 hs.hjok (.bool false) (by rw[Br];exact zZ hs.lok hsz)
      refine wpIn_seq (wpIn_cond (t:=false) ?_ ?_)
      · exact DD (by rw[Br];exact zZ hs.lok hsz)
      · refine wpIn_exit ?_
        show(if idb=idb then Q .normal _ _ else _)
        rw[if_pos rfl]
        exact hq _ _ _ hd hv2 (by rw[Ca,Ca];exact hmk)
    · refine⟨_,.bool true,_,rfl,hrun,?_⟩
      have Kh:Hd w (setBlock w2 w.heap.size (.mapIter (some bm) clock (seen.push e.born) clock)) bm clock (seen.push e.born):=hd.step (zU _) hw2
      have hit3:(setBlock w2 w.heap.size (.mapIter (some bm) clock (seen.push e.born) clock)).heap[w.heap.size]? = some (.mapIter (some bm) clock (seen.push e.born) clock):=by
        have e1:w2.heap=w1.heap:=by rcases hw2 with rfl | rfl<;>rfl
        have hl:=hd.lt
        show(w2.heap.setIfInBounds _ _)[w.heap.size]? = _
        rw[e1]
        simp[hl]
      generalize setBlock w2 w.heap.size (.mapIter (some bm) clock (seen.push e.born) clock)=w3 at Kh hit3
      have hm3:w3.heap[bm]? = some (.map es clock):=by rw[Kh.old bm hlt0];exact hm
      obtain⟨hes,_⟩:=mem_left he
      obtain⟨k,hk,hk0,hk1⟩:=hro.ex e hes
      have hround:∃X,C0 F rd r (Ap P f fn.ntmps (Ar P fn) body) A marks (frz (s.next+1) s.heap) k=some X∧Og X AF:=by
        rcases hA with rfl | ⟨rfl,_⟩<;>assumption
      have hcA:Og A AF:=by
        rcases hA with rfl | ⟨rfl,_⟩
        · exact .refl _
        · exact hcov
      obtain⟨X,hround,hcX⟩:=hround
      have hv1:BO P (CK ρ s w) fn A (a.put (some tn) (.tuple #[.bool true,e.key,e.val])).tmps:=Ji hv hs.ntn _
      have hv2:BO P (CK ρ s w) fn (Gu (.bool true) A r.jok) ((a.put (some tn) (.tuple #[.bool true,e.key,e.val])).put (some ok) (.bool true)).tmps:=P7 hv1 hs.hjok (.bool true) (by rw[Br];exact zZ hs.lok hsz)
      have hjA2:Mk (Gu (.bool true) A r.jok) r.jt=.ptr (some (s.next,0)):=by rw[Fu hs.d1];exact hjA
      refine wpIn_seq (wpIn_cond (t:=true) ?_ (wpIn_skip ?_))
      · exact DD (by rw[Br];exact zZ hs.lok hsz)
      show Code.wpIn (Jl rnd) 0 P _ _ _ _
      have hmk2:CH (CK ρ s w) marks ((a.put (some tn) (.tuple #[.bool true,e.key,e.val])).put (some ok) (.bool true)).defers:=by rw[Ca,Ca];exact hmk
      have hsz2:fn.ntmps≤((a.put (some tn) (.tuple #[.bool true,e.key,e.val])).put (some ok) (.bool true)).tmps.size:=hv2.size
      generalize (a.put (some tn) (.tuple #[.bool true,e.key,e.val])).put (some ok) (.bool true)=a2 at hv2 hmk2 hsz2
      refine wpIn_block (wpIn_seq (PS h3 (Wm hs hv2 hjA2 hrit) (zZ hs.lte hsz2) (zZ hs.ltk hsz2) (l:=#[e.key,e.val]) (b:=e.key) rfl (run_entry_at w3 w.heap.size bm clock seen es clock e hit3 hm3 hes hst'.2.1) ?_))
      show Code.wpIn (Jl rnd) 0 P _ _ _ _
      have hv3:BO P (CK ρ s w) fn (Gu k (Gu (.bool true) A r.jok) r.jk) (((a2.put (some te) (.tuple #[e.key,e.val])).put (some tk) e.key).put (some key) e.key).tmps:=by
        have g1:BO P (CK ρ s w) fn (Gu (.bool true) A r.jok) (a2.put (some te) (.tuple #[e.key,e.val])).tmps:=Ji hv2 hs.nte _
        have g2:BO P (CK ρ s w) fn (Gu (.bool true) A r.jok) ((a2.put (some te) (.tuple #[e.key,e.val])).put (some tk) e.key).tmps:=Ji g1 hs.ntk _
        exact P7 g2 hs.hjk hk (by rw[Br,Br];exact zZ hs.lkey hsz2)
      have hmk3:CH (CK ρ s w) marks (((a2.put (some te) (.tuple #[e.key,e.val])).put (some tk) e.key).put (some key) e.key).defers:=by rw[Ca,Ca,Ca];exact hmk2
      generalize ((a2.put (some te) (.tuple #[e.key,e.val])).put (some tk) e.key).put (some key) e.key=a3 at hv3 hmk3
      unfold C0 at hround
      simp only[zV]at hround
      obtain⟨q,hq1,hq2⟩:=hround
      obtain⟨hq3,hq4⟩:=AD hq2
      injection hq4 with hq4
      subst hq4
      simp only[Bool.and_eq_true]at hq3
      have hmkq:=Jc hq3.2
      refine hcode f fn body rd rnd _ marks (frz (s.next+1) s.heap) q (CK ρ s w) w3 a3 _ hf hq1 ⟨(Kh.inv hi hfr).frz (s.next+1),(RZ hfr).frz,hv3,hmk3,hrnd.mono (Bk hn)⟩ ?_
      intro a4 w4 ρ4 g
      have hle4:=g.fr.le
      have hd4:Hd w w4 bm clock (seen.push e.born):=Kh.round P (t:=s.heap) (n:=s.next+1) g.fr
      have hmg:BO P (CK ρ s w) fn AF a4.tmps:=Uu hv g.vars hle4 hcA hcX
      have hmk4:CH (CK ρ s w) marks a4.defers:=by
        have:=g.marks
        rw[hmkq]at this
        rw[OB hmk3 this hle4]
        exact hmk3
      subst hid
      refine J3 hq3.1 ?_
      exact ih AF a4 w4 (seen.push e.born) (by have:=left_shrinks es seen e he;omega) (.inl rfl) hd4 hmg hmk4
theorem NE(o:Option Jn)(x y:Ac):ND o x y=.seq x y∨∃r c,ND o x y=.rangeMap r c∧o=some r∧Hz y=some c:=by
 unfold ND
 cases o with
 | none=>exact .inl rfl
 | some r =>
  cases h:Hz y with
  | none=>simp[h]
  | some c=>exact .inr ⟨r,c,rfl,rfl,rfl⟩
theorem JZ{g:AV→Option (List AV)}{B:List AV}:∀ {l:List (AV×AV)},FC g B l=true→∀x∈l,∃X,g x.1=some X∧Og X B
 | [],h,x,hx=>by cases hx
 | e::l,h,x,hx=>by
  unfold FC at h
  simp only[Bool.and_eq_true]at h
  rcases List.mem_cons.1 hx with rfl | hx
  ·have h1:=h.1
   cases he:g x.1 with
   | none=>rw[he]at h1;cases h1
   | some X=>rw[he]at h1;exact⟨X,rfl,RQ h1⟩
  ·exact JZ h.2 x hx
theorem Kx{g:AV→Option (List AV)}:∀ {l:List (AV×AV)}{B C:List AV},Ip g B l=some C→Og B C∧∀x∈l,∃X,g x.1=some X∧Og X C
 | [],B,C,h=>by injection h with h;subst h;exact⟨.refl _,fun x hx=>by cases hx⟩
 | e::l,B,C,h=>by
  unfold Ip at h
  simp only[zV]at h
  obtain⟨X,h1,B',h2,h3⟩:=h
  obtain⟨g1,g2⟩:=Mf h2
  obtain⟨g3,g4⟩:=Kx h3
  refine⟨g1.trans g3,fun x hx=>?_⟩
  rcases List.mem_cons.1 hx with rfl | hx
  ·exact⟨X,h1,g2.trans g3⟩
  ·exact g4 x hx
theorem Eh.mem{l:List (AV×AV)}{l':List MapEntry}(h:Eh ρ l l'):∀e∈l',∃x∈l,Ae ρ x.1 e.key:=by
 induction h with
 | nil=>intro e he;cases he
 | cons hk hv hs ih =>
  intro e he
  rcases List.mem_cons.1 he with rfl | he
  ·exact⟨_,zs ..,hk⟩
  ·obtain⟨x,h1,h2⟩:=ih e he
   exact⟨x,A0B _ h1,h2⟩
theorem uv     {F : EA}  (hcode : Jo     P F) {f : FuncId} {c b : Code} {r : Jn}   {cb : Ac}    {rd : Option Nat} {var : List AV} {res : Az}   (hf : P.funcs[f]? = some fn) (hr : IQ    P fn.ntmps (Ar     P fn) c b = some r)
    (hcb:Hz (Ap P f fn.ntmps (Ar P fn) b)=some cb) (hc:iy F rd r cb var marks s=some res) (hb:IW P fn ρ s w var marks rd rnd a)
    (hq:∀a' w' ρ',IX P fn ρ s w res a' w' ρ'→Q (Gt res.exit) a' w'):(Code.seq c b).wpIn (Jl rnd) 0 P Q a w:=by
  unfold IQ at hr
  split at hr<;>first | (cases hr;done) | skip
  rename_i b i1 ops1 d1
  simp only[zV]at hr
  obtain⟨p,hp,hr⟩:=hr
  unfold gk at hp
  split at hp<;>first | (cases hp;done) | skip
  rename_i idb i2 ops2 tc ide id2 i3 ops3 body
  obtain⟨IJ,hp⟩:=AD hp
  simp only[zV]at hp
  obtain⟨h,hh,n,hn,e,he,hp⟩:=hp
  obtain⟨hg,hp⟩:=AD hp
  simp only[Bool.and_eq_true]at hg
  injection hp with hpe
  have e1:=As hg.1
  have e2:=As hg.2
  subst e1
  subst e2
  cases d1 with
  | true=>cases IJ
  | false =>
  have H1:=Px hh
  have H2:=Pz hn
  have H3:=Nf he
  have hcb':cb=Ap P f fn.ntmps (Ar P fn) body:=by
    simp only[Ap]at hcb
    rcases NE (IQ P fn.ntmps (Ar P fn) (.region i2 ops2 false) (.seq (.cond (.tmp n.2) .skip (.exit ide)) (.block id2 (.seq (.region i3 ops3 false) body)))) (Ap P f fn.ntmps (Ar P fn) (.region i2 ops2 false)) (Ap P f fn.ntmps (Ar P fn) (.seq (.cond (.tmp n.2) .skip (.exit ide)) (.block id2 (.seq (.region i3 ops3 false) body))))with h1 | ⟨r',c',h1,h2,_⟩
    · simp only[Ap]at h1
      rw[h1]at hcb
      rcases NE (IQ P fn.ntmps (Ar P fn) (.region i3 ops3 false) body) (Ap P f fn.ntmps (Ar P fn) (.region i3 ops3 false)) (Ap P f fn.ntmps (Ar P fn) body)with h2 | ⟨r',c',h2,_,_⟩
      · simp only[Ap]at h2
        rw[h2]at hcb
        simp only[IQ,ND,Hz]at hcb
        injection hcb with hcb
        exact hcb.symm
      · simp only[Ap]at h2
        rw[h2]at hcb
        simp only[IQ,ND,Hz]at hcb
        cases hcb
    · simp only[IQ,gk]at h2
      cases h2
  subst hcb'
  clear hcb
  unfold Vp at hr
  simp only[zV]at hr
  obtain⟨ad,hx,jt,hjt,jok,hjok,jk,hjk,hr⟩:=hr
  obtain⟨g1,hr⟩:=AD hr
  obtain⟨g2,hr⟩:=AD hr
  obtain⟨g3,hr⟩:=AD hr
  injection hr with hr
  subst hpe
  simp only at hx hjt hjok hjk g1 g2 g3 hr
  simp only[Bool.and_eq_true,Option.isNone_iff_eq_none,Bool.not_eq_true']at g1 g2 g3
  have blt:∀ {x y:Nat},Nat.blt x y=true→x<y:=fun h=>Nat.le_of_ble_eq_true h
  have bne:∀ {x y:Nat},Nat.beq x y=false→x≠y:=fun h e=>by subst e;simp at h
  have hs:YF P fn h.2.2.2 n.1 n.2 e.1 e.2.1 e.2.2 r.jt r.jok r.jk:=by
    subst hr
    exact⟨hjt,hjok,hjk,g1.2.1,g1.2.2.1,g1.2.2.2,blt g2.2.1,blt g2.2.2.1,blt g2.2.2.2.1,blt g2.2.2.2.2.2.1,blt g2.2.2.2.2.2.2,bne g3.2.1,bne g3.2.2.1,bne g3.2.2.2⟩
  have hrid:id2=r.id2:=by subst hr;rfl
  have hrad:r.ad=ad:=by subst hr;rfl
  have hrrd:∀s v,r.rd s v=AB P s h.1 v:=by subst hr;intro s v;rfl
  clear hr
  unfold iy at hc
  simp only[zV]at hc
  obtain⟨m,hm,es,hes,hc⟩:=hc
  rw[hrrd,hrad]at hm
  unfold PO at hc
  simp only[zV]at hc
  obtain⟨AF,hAF,hc⟩:=hc
  injection hc with hc
  subst hc
  have hents:∃i kt es',m=.map (some i)∧es=es'∧(s.heap.get i=some (.map kt es')∨s.heap.get i=some (.mapRo kt es')):=by
    unfold WG at hes
    split at hes<;>first | (cases hes;done) | skip
    rename_i i
    split at hes<;>first | (cases hes;done) | skip
    · rename_i kt es' hget
      injection hes with hes
      exact⟨i,kt,es',rfl,hes.symm,.inl hget⟩
    · rename_i kt es' hget
      injection hes with hes
      exact⟨i,kt,es',rfl,hes.symm,.inr hget⟩
  obtain⟨i,kt,es',rfl,rfl,hget⟩:=hents
  clear hes
  obtain⟨v',hrun,hv',hdrop⟩:=MZ hb.inv hm (Mn hb.vars hx)
  clear hdrop
  cases hv' with
  | map hρ =>
  rename_i rb
  obtain⟨esM,clock,hM,hst,⟨l,hperm,herel⟩,_⟩:=(show Ka P ρ w kt es rb from hget.elim (fun h=>hb.inv.obj i _ rb h hρ) (fun h=>hb.inv.obj i _ rb h hρ)).ex
  have hmt:∃k e,P.underlying h.1=some (.map k e):=by
    have:=g3.1
    unfold KB at this
    split at this
    · rename_i k e hu;exact⟨k,e,hu⟩
    · cases this
  obtain⟨tk,te,hmt⟩:=hmt
  have hn0:=(hb.fresh s.next (zU _)).1
  have hle:ρ.le (CK ρ s w):=Bk hn0
  have hrit:CK ρ s w s.next=some ⟨w.heap.size,0,0,0⟩:=Af _ _
  obtain⟨o0,o1,hl,⟨a1,a2,a3⟩,b1,b2,b3⟩:=H1.ex
  have hsz:fn.ntmps≤a.tmps.size:=hb.vars.size
  refine wpIn_seq (wpIn_region ?_)
  rw[Mp hl]
  show wpOpsIn (Jl rnd) 0 P ops1 _ [0,1] a w
  rw[wpOpsIn_cons]
  refine Ij (Il hl 0) a1 (fun c e=>by rw[a3]at e;cases e) (v':=.map (some rb.b)) (w':=w) ?_ ?_
  · simp only[execOp,a3,hrun,Sem.run_bind,Result.andThen,Sem.run_pure]
  rw[wpOpsIn_cons,a2]
  refine Ij (Il hl 1) b1 (fun c e=>by rw[b3]at e;cases e) (v':=.pointer (some ⟨w.heap.size,0,none⟩)) (w':=w.alloc (.mapIter (some rb.b) clock #[] clock)) ?_ ?_
  · simp only[execOp,b3,DD (zZ (blt g2.1) hsz),Sem.run_bind,run_range_map w h.1 tk te rb.b esM clock hmt hM,Result.andThen,Sem.run_pure]
  rw[b2]
  show Code.wpIn (Jl rnd) 0 P _ _ _ _
  have hd0:Hd w (w.alloc (.mapIter (some rb.b) clock #[] clock)) rb.b clock #[]:=
    ⟨by simp,fun b hb=>heap_alloc_old w _ hb,rfl,rfl,rfl,clock,zU _,heap_alloc_new w _⟩
  have hv0:BO P (CK ρ s w) fn (Gu (.ptr (some (s.next,0))) var r.jt) ((a.put (some h.2.2.1) (.map (some rb.b))).put (some h.2.2.2) (.pointer (some ⟨w.heap.size,0,none⟩))).tmps:=by
    have k1:BO P (CK ρ s w) fn var (a.put (some h.2.2.1) (.map (some rb.b))).tmps:=Ji (hb.vars.mono hle) g1.1 _
    exact P7 k1 hs.hjt (Ae.ptr (rb:=⟨w.heap.size,0,0,0⟩) (o:=0) hrit) (by rw[Br];exact zZ (blt g2.2.2.2.2.1) hsz)
  have hmk0:CH (CK ρ s w) marks ((a.put (some h.2.2.1) (.map (some rb.b))).put (some h.2.2.2) (.pointer (some ⟨w.heap.size,0,none⟩))).defers:=by
    rw[Ca,Ca];exact hb.marks.mono hle
  generalize (a.put (some h.2.2.1) (.map (some rb.b))).put (some h.2.2.2) (.pointer (some ⟨w.heap.size,0,none⟩))=a0 at hv0 hmk0
  have hA0:Mk (Gu (.ptr (some (s.next,0))) var r.jt) r.jt=.ptr (some (s.next,0)):=JQ (by rw[hb.vars.len];exact Dw hs.hjt)
  generalize hA0e:Gu (.ptr (some (s.next,0))) var r.jt=A0 at hAF hv0 hA0
  have hleft:(leftOf esM #[]).size=es.length:=by
    have:leftOf esM #[]=esM:=by unfold leftOf;simp
    rw[this,herel.length,hperm.length_eq]
    simp
  unfold M5 at hAF
  simp only[zV]at hAF
  obtain⟨A1,k1,k2⟩:=hAF
  obtain⟨k3,k4⟩:=AD k2
  injection k4 with k4
  subst k4
  simp only[Bool.and_eq_true]at k3
  have hjF:Mk A1 r.jt=.ptr (some (s.next,0)):=ME k3.2.1
  obtain⟨k5,k6⟩:=Kx k1
  have k7:=JZ k3.1
  have hro:U2 (CK ρ s w) esM (C0 F rd r (Ap P f fn.ntmps (Ar P fn) body) A0 marks (frz (s.next+1) s.heap)) (C0 F rd r (Ap P f fn.ntmps (Ar P fn) body) A1 marks (frz (s.next+1) s.heap)) A1:=by
    refine⟨fun e he=>?_⟩
    obtain⟨x,hx1,hx2⟩:=herel.mem e (hperm.mem_iff.2 he)
    exact⟨x.1,hx2.mono hle,k6 x hx1,k7 x hx1⟩
  have hA:A0=A1∨A0=A0∧0<(leftOf esM #[]).size:=by
    rw[hleft]
    cases es with
    | nil=>injection k1 with k1;exact .inl k1
    | cons x l=>exact .inr ⟨rfl,by simp⟩
  refine wpIn_block (wpIn_loop_rounds ((leftOf esM #[]).size+1) ?_)
  refine Xt hcode hf hs H2 H3 hb.inv hb.fresh hM hst hb.rnd hrid k5 hA0 hjF hro ?_ _ A0 a0 _ #[] (A0T _) hA hd0 hv0 hmk0
  intro a' w' seen' hd' hv' hmk'
  exact hq a' w' (CK ρ s w) ⟨hd'.inv hb.inv hb.fresh,RZ hb.fresh,hd'.fr hb.fresh,hv',hmk'⟩
end
end
end Go.Proofs.YtjnkfbpadpmakaaGreatDoor.Am
set_option linter.unusedVariables false
set_option linter.unusedSimpArgs false
namespace Go.Proofs.YtjnkfbpadpmakaaGreatDoor.Am
open Go
noncomputable section
section
variable{P:Program}{ρ ρ1 ρ2:BU}{s s1 s2:AE}{w w1 w2:World}
theorem gg(hng:E2 P){F:EA}(hcall:Es P F.call){f:FuncId}{fn:Func}{g:Operand}{x:CX}{ps:Array Tmp}{assign body:Code}{rnd r:Option Nat}{var:List AV}{marks:List Nat}{s:AE}{res:Az}{ρ:BU}{w:World}{a:Act}{Q:Exit→Act→World→Prop}
    (hf:P.funcs[f]? = some fn) (hx:Ez (Ar P fn) ⟨[],0⟩ g=some x) (hc:L7 F rnd f (C9 [] var x) ps assign body var marks s=some res) (hb:IW P fn ρ s w var marks rnd r a)
    (hq:∀a' w' ρ',IX P fn ρ s w res a' w' ρ'→Q (Gt res.exit) a' w'):(Code.rangeFunc g ps assign body).wpIn (Jl r) 0 P Q a w:=by
  have hgv:Ae ρ (C9 [] var x) (a.eval g):=Mn hb.vars hx
  have res1:∀l:Nat,(resolve a.eval (rangeCall g l) 0:Sem Deferred)=Deferred.ofValue (a.eval g) #[.func (.yield l) #[] #[]]:=by
    intro l
    simp[resolve,Act.eval]
  refine wpIn_rangeFunc fun fn' _=>?_
  unfold L7 at hc
  cases rnd with
  | some l =>
    simp only[zV]at hc
    obtain⟨al,hl,hc⟩:=hc
    obtain⟨rb,h1,h2⟩:=hb.rnd
    subst h2
    have hgl:=DT hl
    obtain⟨L,h0,_,_,_,_,_,⟨rd,IJ,Kh⟩,_⟩:=(hb.inv.obj _ _ _ hgl h1:G9 P ρ w al rb).ex
    have hent:=IF (P:=P) h0 fn' a.tmps ps assign body
    rw[Kh]at hent
    obtain⟨d,f0,args,k1,k2,k3⟩:=M0 (r:=some rb.b) (Q:=Q) hng hcall hf hc hb.inv hb.fresh hb.vars hb.marks hgv IJ fn' fun w' ρ' h=>hq a w' ρ' h
    refine⟨_,_,_,d,_,f0,args,_,hent,?_,fun _ _=>trivial,k2 _,(fun e=>by cases e),k3⟩
    rw[res1,k1]
    rfl
  | none =>
    have hr:r=none:=hb.rnd
    subst hr
    let rb:RB:=⟨w.heap.size,0,0,0⟩
    have hn0:=(hb.fresh _ (zU s.next)).1
    have hle:=Bk (rb:=rb) hn0
    obtain⟨hi1,hfr1⟩:=hb.inv.new (o:=.mark) (o':=.deferred (some [])) (rb:=rb) hn0 rfl (World.alloc_heap_new w _)
    have hff:=hb.fresh.new .mark rb
    have IJ:CF ρ s.next rb s.next=some rb:=Af _ _
    obtain⟨d,f0,args,k1,k2,k3⟩:=M0 (r:=none) (Q:=Q) (a:={ a with defers:=[{ target:=.collected w.heap.size,args:=#[] }]++a.defers }) hng hcall hf hc hi1 hff (hb.vars.mono hle)
      ⟨rb,a.defers,IJ,rfl,hb.marks.mono hle⟩ (hgv.mono hle) IJ fn' fun w' ρ' h=>hq _ w' ρ' (IX.trans (r1:=res) (a1:=a) hfr1 h)
    have hsz:(w.alloc (.deferred (some []))).heap.size=w.heap.size+1:=by simp
    rw[hsz]at k1 k3
    refine⟨_,_,_,d,_,f0,args,_,run_enterLoop_outer fn' a.tmps ps assign body,?_,fun _ _=>trivial,k2 _,(fun e=>by cases e),k3⟩
    rw[res1,k1]
    rfl
theorem XE        (hm : P.follows .mixedOrders = true) (hng : E2      P) {F : EA}  {n : Nat} (h : QK    P F n) {call : FuncId → List AV → AE  → Option (AV × AE)}  {round : Nat → List AV → AE  → Option (AV × AE)}  : Jo     P ⟨DK    F, call, round⟩ := by
  intro f fn c
  have hF:=h.fok hng
  induction c with
  | skip =>
    intro rnd r var marks s res ρ w a Q hf hc hb hq
    injection (show some (⟨.normal,var,marks,s⟩:Az)=some res from hc)with hc
    subst hc
    exact wpIn_skip (hq a w ρ ⟨hb.inv,hb.fresh,Fr.refl _ _ _,hb.vars,hb.marks⟩)
  | label l =>
    intro rnd r var marks s res ρ w a Q hf hc hb hq
    injection (show some (⟨.normal,var,marks,s⟩:Az)=some res from hc)with hc
    subst hc
    exact wpIn_label (hq a w ρ ⟨hb.inv,hb.fresh,Fr.refl _ _ _,hb.vars,hb.marks⟩)
  | ret =>
    intro rnd r var marks s res ρ w a Q hf hc hb hq
    injection (show some (⟨.ret,var,marks,s⟩:Az)=some res from hc)with hc
    subst hc
    exact wpIn_ret (hq a w ρ ⟨hb.inv,hb.fresh,Fr.refl _ _ _,hb.vars,hb.marks⟩)
  | exit id =>
    intro rnd r var marks s res ρ w a Q hf hc hb hq
    injection (show some (⟨.exit id,var,marks,s⟩:Az)=some res from hc)with hc
    subst hc
    exact wpIn_exit (hq a w ρ ⟨hb.inv,hb.fresh,Fr.refl _ _ _,hb.vars,hb.marks⟩)
  | goto l=>intro rnd r var marks s res ρ w a Q hf hc;cases hc
  | refuse u=>intro rnd r var marks s res ρ w a Q hf hc;cases hc
  | region id ops draw =>
    intro rnd r var marks s res ρ w a Q hf hc hb hq
    exact ul hm hF hc hb hq
  | seq x y ihx ihy =>
    intro rnd r var marks s res ρ w a Q hf hc hb hq
    have hc:DK F rnd (ND (IQ P fn.ntmps (Ar P fn) x y) (Ap P f fn.ntmps (Ar P fn) x) (Ap P f fn.ntmps (Ar P fn) y)) var marks s=some res:=hc
    rcases NE (IQ P fn.ntmps (Ar P fn) x y) (Ap P f fn.ntmps (Ar P fn) x) (Ap P f fn.ntmps (Ar P fn) y)with hs | ⟨rm,cb,hs,hr1,hr2⟩
    case inr =>
      rw[hs]at hc
      exact uv h.code hf hr1 hr2 hc hb hq
    rw[hs]at hc
    have hc:JA F rnd (Ap P f fn.ntmps (Ar P fn) y) (F.code rnd (Ap P f fn.ntmps (Ar P fn) x) var marks s)=some res:=hc
    unfold JA at hc
    split at hc<;>first | (cases hc;done) | skip
    rename_i r1 h1
    refine wpIn_seq (h.code f fn x rnd r var marks s r1 ρ w a _ hf h1 hb ?_)
    intro a' w' ρ' g
    unfold IH at hc
    cases he:r1.exit with
    | normal =>
      rw[he]at hc
      refine h.code f fn y rnd r _ _ _ res ρ' w' a' Q hf hc (g.begins hb) ?_
      intro a2 w2 ρ2 g2
      exact hq a2 w2 ρ2 (IX.trans (r1:=r1) (a1:=a') g.fr g2)
    | exit id =>
      rw[he]at hc
      injection hc with hc
      subst hc
      have:=hq a' w' ρ' g
      rw[he]at this
      exact this
    | ret =>
      rw[he]at hc
      injection hc with hc
      subst hc
      have:=hq a' w' ρ' g
      rw[he]at this
      exact this
  | cond o x y ihx ihy =>
    intro rnd r var marks s res ρ w a Q hf hc hb hq
    simp only[Ap]at hc
    cases ho:Ez (Ar P fn) ⟨[],0⟩ o with
    | none=>rw[ho]at hc;cases hc
    | some z =>
      rw[ho]at hc
      have hc:RM F rnd (Ap P f fn.ntmps (Ar P fn) x) (Ap P f fn.ntmps (Ar P fn) y) var marks s (C9 [] var z)=some res:=hc
      have hz:=Mn hb.vars ho
      unfold RM at hc
      split at hc<;>first | (cases hc;done) | skip
      rename_i t ht
      rw[ht]at hz
      have hev:a.eval o=.bool t:=by
        generalize a.eval o=y at hz
        cases hz;rfl
      refine wpIn_cond hev ?_
      cases t with
      | true=>exact h.code f fn x rnd r var marks s res ρ w a Q hf hc hb hq
      | false=>exact h.code f fn y rnd r var marks s res ρ w a Q hf hc hb hq
  | block id c ih =>
    intro rnd r var marks s res ρ w a Q hf hc hb hq
    have hc:L6 id (F.code rnd (Ap P f fn.ntmps (Ar P fn) c) var marks s)=some res:=hc
    unfold L6 at hc
    split at hc<;>first | (cases hc;done) | skip
    rename_i r1 h1
    refine wpIn_block (h.code f fn c rnd r var marks s r1 ρ w a _ hf h1 hb ?_)
    intro a' w' ρ' g
    unfold LH at hc
    split at hc
    · rename_i id' he
      rw[he]
      simp only[Gt,Exit.inBlock]
      cases hbq:Nat.beq id' id with
      | true =>
        rw[hbq]at hc
        injection hc with hc
        subst hc
        rw[if_pos (As hbq)]
        exact hq a' w' ρ' ⟨g.inv,g.fresh,g.fr,g.vars,g.marks⟩
      | false =>
        rw[hbq]at hc
        injection hc with hc
        subst hc
        have:=hq a' w' ρ' g
        rw[he]at this
        rw[if_neg (fun e=>by subst e;simp at hbq)]
        exact this
    · rename_i hne
      injection hc with hc
      subst hc
      have:=hq a' w' ρ' g
      cases he:r1.exit with
      | normal=>rw[he]at this;exact this
      | ret=>rw[he]at this;exact this
      | exit id'=>exact absurd he (hne id')
  | loop c ih =>
    intro rnd r var marks s res ρ w a Q hf hc hb hq
    have hc:JA F rnd (.loop (Ap P f fn.ntmps (Ar P fn) c)) (F.code rnd (Ap P f fn.ntmps (Ar P fn) c) var marks s)=some res:=hc
    refine wpIn_loop_rounds (n+1) ?_
    rw[roundsIn_succ]
    unfold JA at hc
    split at hc<;>first | (cases hc;done) | skip
    rename_i r1 h1
    refine h.code f fn c rnd r var marks s r1 ρ w a _ hf h1 hb ?_
    intro a' w' ρ' g
    unfold IH at hc
    cases he:r1.exit with
    | normal =>
      rw[he]at hc
      refine h.loop f fn c rnd r _ _ _ res ρ' w' a' Q hf hc (g.begins hb) ?_
      intro a2 w2 ρ2 g2
      exact hq a2 w2 ρ2 (IX.trans (r1:=r1) (a1:=a') g.fr g2)
    | exit id =>
      rw[he]at hc
      injection hc with hc
      subst hc
      have:=hq a' w' ρ' g
      rw[he]at this
      exact this
    | ret =>
      rw[he]at hc
      injection hc with hc
      subst hc
      have:=hq a' w' ρ' g
      rw[he]at this
      exact this
  | scope c ih =>
    intro rnd r var marks s res ρ w a Q hf hc hb hq
    refine Uw (ih rnd r var marks s res ρ w a _ hf hc hb ?_)
    intro a' w' ρ' g
    have:=hq a' w' ρ' g
    cases he:res.exit with
    | normal=>rw[he]at this;exact this
    | ret=>rw[he]at this;exact this
    | exit id'=>rw[he]at this;exact this
  | rangeFunc g ps x y ihx ihy =>
    intro rnd r var marks s res ρ w a Q hf hc hb hq
    simp only[Ap]at hc
    cases ho:Ez (Ar P fn) ⟨[],0⟩ g with
    | none=>rw[ho]at hc;cases hc
    | some z =>
      rw[ho]at hc
      exact gg hng h.call hf ho hc hb hq
theorem XS{F:EA}{n:Nat}(h:QK P F n){call:FuncId→List AV→AE→Option (AV×AE)}{round:Nat→List AV→AE→Option (AV×AE)}:U1 P ⟨DK F,call,round⟩ (n+1):=by
  intro f fn c rnd r var marks s res ρ w a Q hf hc hb hq
  have hc:JA F rnd (.loop (Ap P f fn.ntmps (Ar P fn) c)) (F.code rnd (Ap P f fn.ntmps (Ar P fn) c) var marks s)=some res:=hc
  rw[roundsIn_succ]
  unfold JA at hc
  split at hc<;>first | (cases hc;done) | skip
  rename_i r1 h1
  refine h.code f fn c rnd r var marks s r1 ρ w a _ hf h1 hb ?_
  intro a' w' ρ' g
  unfold IH at hc
  cases he:r1.exit with
  | normal =>
    rw[he]at hc
    refine h.loop f fn c rnd r _ _ _ res ρ' w' a' Q hf hc (g.begins hb) ?_
    intro a2 w2 ρ2 g2
    exact hq a2 w2 ρ2 (IX.trans (r1:=r1) (a1:=a') g.fr g2)
  | exit id =>
    rw[he]at hc
    injection hc with hc
    subst hc
    have:=hq a' w' ρ' g
    rw[he]at this
    exact this
  | ret =>
    rw[he]at hc
    injection hc with hc
    subst hc
    have:=hq a' w' ρ' g
    rw[he]at this
    exact this
theorem ie{F:EA}(hcode:Jo P F){f:FuncId}{aS:List AV}{v:AV}{as':Array Value}(hc:HF P F aS s (AL P f)=some (v,s1))(hi:Bd P ρ s w)(hfr:BE ρ s)(ha:AW ρ aS as'.toList):
  (∃fn c,P.funcs[f]? = some fn∧fn.body=some c)∧CallsIn Fence.wide 0 P f as' w (Fn P ρ s w v s1):=by
 unfold HF at hc
 simp only[zV]at hc
 obtain⟨cf,h1,hc⟩:=hc
 unfold AL at h1
 simp only[zV]at h1
 obtain⟨fn,h2,c,h3,h4⟩:=h1
 obtain⟨h5,h6⟩:=AD h4
 simp only[zV]at h6
 obtain⟨cr,h7,h8⟩:=h6
 injection h8 with h8
 subst h8
 simp only at hc
 cases hb:Nat.beq aS.length (Du fn)with
 | false=>rw[hb]at hc;cases hc
 | true =>
  rw[hb]at hc
  simp only[cond_true]at hc
  refine⟨⟨fn,c,h2,h3⟩,callsIn_of_wp_marks h2 h3 trivial ?_⟩
  unfold LJ at hc
  simp only[zV]at hc
  obtain⟨res,hr,hc⟩:=hc
  have hend:V8 res.exit=true∧((EJ res.st res.marks).bind fun s=>(CB P s res.var cr).bind fun l=>some (Bu l,s))=some (v,s1):=by
   cases he:V8 res.exit with
   | true=>rw[he]at hc;exact⟨rfl,hc⟩
   | false=>rw[he]at hc;cases hc
  obtain⟨he,hc⟩:=hend
  simp only[zV]at hc
  obtain⟨s2,hu,l,hl,hv⟩:=hc
  injection hv with hv
  injection hv with hv1 hv2
  subst hv1
  subst hv2
  have hvars:BO P ρ fn (Ql aS (Ar P fn).length) (as'++Array.replicate (fn.ntmps - as'.size) undef):=ku ha (As hb) (by simpa[zh]using h5)
  refine hcode f fn c none none _ [] s res ρ w _ _ h2 hr ⟨hi,hfr,hvars,rfl,rfl⟩ ?_
  intro a' w' ρ' g
  have hlv:LeavesInM Fence.wide 0 P fn a'.tmps (Fn P ρ s w (Bu l) s2) a'.defers .returning w':=by
   refine Pd g.marks hu g.inv fun w2 k1 k2=>?_
   obtain⟨v',k3,k4⟩:=Uf k1 g.vars.rel h7 hl
   exact⟨v',k3,ρ',k4,k1,g.fr.trans k2⟩
  cases hx:res.exit with
  | normal=>exact hlv
  | ret=>exact hlv
  | exit id=>rw[hx]at he;cases he
theorem gn       (hng : E2      P) {E : CR}  (hE : E.P = P) {F : EA}  (hcode : Jo     P F) {l : Nat} {rb : RB} {aS : List AV} {v : AV} {as' : Array Value} (hc : Kz    E F l aS s = some (v, s1)) (hi : Bd  P ρ s w) (hfr : BE     ρ s) (hl : ρ l = some rb) (ha : AW    ρ aS as'.toList) :
    EC P ρ s w v s1 ((Instr.yield rb.b as').run P w):=by
  unfold Kz at hc
  rw[hE]at hc
  simp only[zV]at hc
  obtain⟨al,h1,var,h2,ca,h3,cb,h4,hc⟩:=hc
  have hg:=DT h1
  obtain⟨L,h0,_,_,e1,e2,e3,_,hrel,hsz,hlen⟩:=(hi.obj _ _ _ hg hl:G9 P ρ w al rb).ex
  unfold ER at h3 h4
  simp only[zV]at h3 h4
  obtain⟨fn,hf,h3⟩:=h3
  obtain⟨fn2,hf2,h4⟩:=h4
  rw[hf]at hf2
  injection hf2 with hf2
  subst hf2
  injection h3 with h3
  injection h4 with h4
  subst h3
  subst h4
  have hvi:Dh P al.fn=Ar P fn:=by unfold Dh;rw[hf]
  rw[hvi]at hrel hlen h2
  obtain⟨z1,z2,z3,z4⟩:=QD (tmps:=L.tmps) h2 hrel hlen ha
  have hps:as'.size=L.params.size:=by rw[e1];simpa using z4.symm
  rw[run_yield h0 hps]
  refine .round (roundIn_of_wpIn trivial ?_)
  have hfold:(L.params.zip as').foldl (fun tmps (x:Tmp×Value)=>match x with | (t,a)=>tmps.setIfInBounds t a) L.tmps=(al.params.toList.zip as'.toList).foldl (fun tmps (p:Tmp×Value)=>tmps.setIfInBounds p.1 p.2) L.tmps:=by
    rw[← Array.foldl_toList,Array.toList_zip,e1]
  have hfold':(L.params.zip as').foldl (fun tmps (x:Tmp×Value)=>tmps.setIfInBounds x.1 x.2) L.tmps=(al.params.toList.zip as'.toList).foldl (fun tmps (p:Tmp×Value)=>tmps.setIfInBounds p.1 p.2) L.tmps:=hfold
  have hvars:BO P ρ fn var ((al.params.toList.zip as'.toList).foldl (fun tmps (p:Tmp×Value)=>tmps.setIfInBounds p.1 p.2) L.tmps):=⟨z2,z1,by rw[z3];exact hsz fn hf⟩
  unfold H0 at hc
  simp only[zV]at hc
  obtain⟨q,hq1,hc⟩:=hc
  cases hn:JI q.exit with
  | false=>rw[hn]at hc;cases hc
  | true =>
    rw[hn]at hc
    simp only[cond_true,zV]at hc
    obtain⟨r2,hr2,hc⟩:=hc
    cases hrd:LQ r2.state with
    | false=>rw[hrd]at hc;cases hc
    | true =>
      rw[hrd]at hc
      simp only[cond_true]at hc
      unfold Ja at hc
      simp only[zV]at hc
      obtain⟨q2,hq2,r3,hr3,hc⟩:=hc
      injection hc with hc
      injection hc with hv hs
      subst hv
      subst hs
      have hqn:q.exit=.normal:=by cases he:q.exit<;>rw[he]at hn<;>first | rfl | cases hn
      have hst:r2.state=.ready:=by
        cases he:r2.state<;>rw[he]at hrd<;>first | rfl | cases hrd
      rw[e2,e3]
      refine hcode al.fn fn al.assign (some l) (some rb.b) var [] s q ρ w _ _ hf hq1 ⟨hi,hfr,by first | exact hvars | (simp only[];rw[hfold];exact hvars),rfl,⟨rb,hl,rfl⟩⟩ ?_
      intro a1 w1 ρ1 g1
      rw[hqn]
      have hl1:ρ1 l=some rb:=g1.fr.le _ _ hl
      have hg2:=DT hr2
      obtain⟨L1,k0,k1,_⟩:=(g1.inv.obj _ _ _ hg2 hl1:G9 P ρ1 w1 r2 rb).ex
      obtain⟨i2,f2⟩:=Mc g1.inv hg2 hl1 (st:=.busy) (pd:=r2.pending) k0
      refine⟨_,run_beginRound k0 (by rw[k1,hst]),?_⟩
      have hpd:L1.pending=r2.pending:=by
        obtain⟨L1',k0',_,k2',_⟩:=(g1.inv.obj _ _ _ hg2 hl1:G9 P ρ1 w1 r2 rb).ex
        rw[k0]at k0';injection k0' with k0';injection k0' with k0';subst k0';exact k2'
      have hL1:({ L1 with state:=.busy }:Loop)={ L1 with state:=.busy,pending:=r2.pending }:=by rw[← hpd]
      rw[hL1]
      have hal:({ r2 with state:=.busy }:Di)={ r2 with state:=.busy,pending:=r2.pending }:=rfl
      refine hcode al.fn fn al.body (some l) (some rb.b) q.var q.marks _ q2 ρ1 _ a1 _ hf hq2 ⟨i2,g1.fresh.step f2,g1.vars,g1.marks,⟨rb,hl1,rfl⟩⟩ ?_
      intro a3 w3 ρ3 g3
      have hl3:ρ3 l=some rb:=g3.fr.le _ _ hl1
      have hg3:=DT hr3
      obtain⟨L3,m0,m1,_⟩:=(g3.inv.obj _ _ _ hg3 hl3:G9 P ρ3 w3 r3 rb).ex
      have tot:=g1.fr.trans (f2.trans g3.fr)
      have fin:∀jump:Option Code,Dj q2.exit=jump→∃v w',(Instr.endRound rb.b jump).run P w3=.ok v w'∧Fn P ρ s w (.bool (Dj q2.exit).isNone) (setObj q2.st l (.loop { r3 with state:=H8 (Dj q2.exit),pending:=Dj q2.exit })) (.returned v) w':=by
        intro jump hj
        obtain⟨i4,f4⟩:=Mc g3.inv hg3 hl3 (st:=H8 jump) (pd:=jump) m0
        refine⟨_,_,run_endRound jump m0,ρ3,?_,?_,?_⟩
        · rw[hj];exact .bool _
        · rw[hj]
          have:(if jump.isNone=true then LoopState.ready else .done)=H8 jump:=by cases jump<;>rfl
          rw[this]
          exact i4
        · rw[hj]
          have:(if jump.isNone=true then LoopState.ready else .done)=H8 jump:=by cases jump<;>rfl
          rw[this]
          exact tot.trans f4
      cases he:q2.exit with
      | normal=>have:=fin none (by rw[he];rfl);rw[he]at this;exact this
      | ret=>have:=fin (some .ret) (by rw[he];rfl);rw[he]at this;exact this
      | exit id=>have:=fin (some (.exit id)) (by rw[he];rfl);rw[he]at this;exact this
theorem yC  (hm : P.follows .mixedOrders = true) (hng : E2      P) {E : CR}  (hE : E.P = P) (hnat : Es     P E.nat) : ∀ n, QK    P (Ea   E n) n := by
  intro n
  induction n with
  | zero =>
    refine⟨?_,?_,?_,?_⟩
    · intro f fn c rnd r var marks s res ρ w a Q hf hc;cases hc
    · intro f fn c rnd r var marks s res ρ w a Q hf hc;cases hc
    · intro ρ s w f aS v s1 as' hc;cases hc
    · intro ρ s w l rb aS v s1 as' hc;cases hc
  | succ n ih =>
    refine⟨XE hm hng ih,XS ih,?_,?_⟩
    · intro ρ s w f aS v s1 as' hc hi hfr ha
      have hc:IT E (Ea E n) f aS s=some (v,s1):=hc
      unfold IT at hc
      split at hc
      · rename_i p hp
        injection hc with hc
        subst hc
        exact hnat ρ s w f aS _ _ as' hp hi hfr ha
      · rw[hE]at hc
        exact ie ih.code hc hi hfr ha
    · intro ρ s w l rb aS v s1 as' hc hi hfr hl ha
      exact gn hng hE ih.code hc hi hfr hl ha
end
def sJ:QJ:=fun _ _ _=>none
theorem gJ(P:Program):Es P sJ:=fun _ _ _ _ _ _ _ _ hc=>by cases hc
def xS(P:Program):CR:=⟨P,sJ⟩
def Mi (P : Program) : Bool := P.funcs.all fun fn => !(fn.name == "runtime.NumGoroutine")
theorem Ii{P:Program}(h:Mi P=true):E2 P:=by
 intro f fn hf
 unfold Mi at h
 rw[Array.all_eq_true_iff_forall_mem]at h
 have:=h fn (Array.mem_of_getElem? hf)
 simpa using this
def uu:BU:=fun _=>none
def xT:AE:=⟨0,.leaf⟩
theorem xy(P:Program)(w:World):Bd P uu xT w:=⟨fun i o rb _ hr=>(by cases hr),fun i rb hr=>(by cases hr),fun i j oi oj ri rj _ _ _ hr=>(by cases hr),fun i o g hi=>(by cases hi)⟩
theorem uZ:BE uu xT:=fun i _=>⟨rfl,rfl⟩
structure Oh(W W':World):Prop where
 heap:∀b,b<W.heap.size→W'.heap[b]? = W.heap[b]?
 os:W'.os=W.os
 output:W'.output=W.output
 size:W.heap.size≤W'.heap.size
theorem j6{ρ ρ':BU}{s s':AE}{w w':World}(h:Fr ρ s w ρ' s' w')(hn:∀b,¬ Gx ρ s b):Oh w w':=
 ⟨fun b hb=>h.keep b hb (hn b),h.os,h.output,h.size⟩
theorem Oh.keptBut{W W':World}(h:Oh W W')(may:MemPlace→Prop):W.keptBut W' may:=by
 refine⟨h.os,h.output,fun i hi=>?_⟩
 rw[h.heap i hi]
 have:W.heap[i]? = some W.heap[i]:=Array.getElem?_eq_getElem hi
 rw[this]
 cases W.heap[i]with
 | cells c t fr=>exact⟨rfl,rfl,rfl,fun _ _=>rfl⟩
 | map es clock=>exact .inr ⟨rfl,rfl⟩
 | _=>rfl
theorem Oh.frozen{W W':World}(h:Oh W W')(a:Addr)(ha:a.block<W.heap.size):W'.frozen? a=W.frozen? a:=by simp[World.frozen?,h.heap _ ha]
section
open Go.ChangeShapes Go.WideShapes
theorem post_of_kept{H:Type}{enc:TypeId×Value→H}{P:Program}{f:Func}{s:ChangeSpec}{apart fresh handsOn again:Bool}{W W':World}{args:Array Value}{v:Value}{ds gs:List (DataW H)}{before pa pv:List MemPlace}
  (hW:DataW.Whole enc P f.params.toList s.vars apart W args.toList ds gs before)
  (hres:∀ (b:Nat) (sp:Nat→Bool) (hd:Bool),DataW.TrodAll enc P W' b sp hd f.resultTypes.toList (v.resultList f.resultTypes.size) (s.fn H (ds++gs)).results [])
  (hargs:∀sp:Nat→Bool,(∀p∈before,sp p.block=true)→DataW.TrodAll enc P W' 0 sp true f.params.toList args.toList (s.fn H (ds++gs)).args pa)
  (hvars:∀sp:Nat→Bool,(∀p∈before,sp p.block=true)→DataW.TrodVars enc P W' sp s.vars (s.fn H (ds++gs)).vars pv)
  (hps:before=pa++pv) (hk:Oh W W')
  (hok:∀ (j:Nat) (t:TypeId) (r:Value),f.resultTypes[j]? = some t→(v.resultList f.resultTypes.size)[j]? = some r→Value.okWide P W' .any 0 t r):
  s.post enc P f apart fresh handsOn again W args v W':=by
 have hold:∀p∈before,(fun b=>decide (b<W.heap.size)) p.block=true:=fun p hp=>by simpa using hW.lt p hp
 refine⟨ds,gs,before,[],pa,pv,hW,hres _ _ _,hargs _ hold,hvars _ hold,World.keptBut_mono (fun p hp=>⟨hp,?_⟩) (hk.keptBut _),fun _=>?_⟩
 ·rw[hps,A1V]at hp
  exact Or.inr hp
 ·have hlt:=hW.lt
  obtain⟨_,_,_,_,_,hz,hn⟩:=hW
  refine⟨hok,_,_,([]++pa)++pv,⟨[]++pa,pv,trodAll_append (hargs _ (fun _ _=>rfl)) (hres _ _ _),hvars _ (fun _ _=>rfl),rfl,?_,?_⟩,?_⟩
  ·intro b off hp
   have hp':MemPlace.cell b off∈before:=by rw[hps];simpa using hp
   rw[hk.frozen _ (hlt _ hp')]
   exact hz b off hp'
  ·intro ha
   have:=hn ha
   rw[hps]at this
   simpa using this
  ·intro p hp _
   rw[hps]
   simpa using hp
end
structure EA.le(F G:EA):Prop where
 code:∀ {rnd:Option Nat} {c:Ac} {var:List AV} {marks:List Nat} {s:AE} {r:Az},F.code rnd c var marks s=some r→G.code rnd c var marks s=some r
 call:∀ {f:FuncId} {aS:List AV} {s:AE} {p:AV×AE},F.call f aS s=some p→G.call f aS s=some p
 round:∀ {l:Nat} {aS:List AV} {s:AE} {p:AV×AE},F.round l aS s=some p→G.round l aS s=some p
section
variable{F G:EA}
theorem L9(h:F.le G){f:AV}{aS:List AV}{s:AE}{p:AV×AE}(hc:HH F f aS s=some p):HH G f aS s=some p:=by
 unfold HH at hc ⊢
 split at hc
 ·exact h.call hc
 ·exact h.round hc
 ·cases hc
theorem Sl(h:F.le G){sh:Sh}{xs:List CX}{loc var:List AV}{s:AE}{p:AV×AE}(hc:ux F sh xs loc var s=some p):ux G sh xs loc var s=some p:=by
 cases sh<;>first | exact hc | exact h.call hc | skip
 cases xs with
 | nil=>cases hc
 | cons x xs=>exact L9 h hc
theorem HO(it:AA)(l:List AA)(loc var:List AV)(s:AE):Ew F (it::l) loc var s=Km F it (Ew F l) loc var s:=rfl
theorem JK{k k':YD}(hk:∀loc var s p,k loc var s=some p→k' loc var s=some p){ag:List G6}{d:K5}{loc var:List AV}{v:AV}{s:AE}{p:List AV×AE}(h:DZ ag d k loc var v s=some p):DZ ag d k' loc var v s=some p:=by
  cases d with
  | push =>
    simp only[DZ]at h ⊢
    cases hb:Eu s (v::loc) var ag with
    | true=>rw[hb]at h;exact hk _ _ _ _ h
    | false=>rw[hb]at h;cases h
  | set j =>
    simp only[DZ]at h ⊢
    cases hb:Eu s loc (Gu v var j) ag with
    | true=>rw[hb]at h;exact hk _ _ _ _ h
    | false=>rw[hb]at h;cases h
theorem HP(h:F.le G):∀ (l:List AA)(loc var:List AV)(s:AE)(p:List AV×AE),Ew F l loc var s=some p→Ew G l loc var s=some p:=by
 intro l
 induction l with
 | nil=>intro loc var s p hp;exact hp
 | cons it l ih =>
  intro loc var s p hp
  rw[HO]at hp ⊢
  unfold Km at hp ⊢
  cases hj:YC loc var it.guard with
  | true=>rw[hj]at hp;cases hp
  | false =>
  rw[hj]at hp
  simp only at hp ⊢
  cases hw:Bv loc var it.guard with
  | true =>
   rw[hw]at hp
   simp only at hp ⊢
   unfold LS at hp ⊢
   cases hs:ux F it.sh it.xs loc var s with
   | none=>rw[hs]at hp;cases hp
   | some q=>rw[hs]at hp;rw[Sl h hs];exact JK ih hp
  | false =>
   rw[hw]at hp
   exact JK ih hp
theorem L8(h:F.le G){rnd:Option Nat}{b:Ac}{r res:Az}(hc:IH F rnd b r=some res):IH G rnd b r=some res:=by
 unfold IH at hc ⊢
 split at hc
 ·exact h.code hc
 ·exact hc
theorem I9(h:F.le G){var:List AV}{f:AV}{params:Array Tmp}{assign body:Code}{fn:FuncId}{dfr:Nat}{marks:List Nat}{s:AE}{res:Az}
  (hc:Fg F var f params assign body fn dfr marks s=some res):Fg G var f params assign body fn dfr marks s=some res:=by
 unfold Fg Hm at hc ⊢
 simp only[zV]at hc ⊢
 obtain⟨q,h1,rest⟩:=hc
 have h':EA.le { F with round:=fun _ _ _=>none } { G with round:=fun _ _ _=>none }:=⟨h.code,h.call,fun h=>by cases h⟩
 exact⟨q,L9 h' h1,rest⟩
theorem IR(h:F.le G){rnd:Option Nat}{r:Jn}{body:Ac}{A:List AV}{marks:List Nat}{s:AE}{k:AV}{B:List AV}(hc:C0 F rnd r body A marks s k=some B):C0 G rnd r body A marks s k=some B:=by
 unfold C0 at hc ⊢
 simp only[zV]at hc ⊢
 obtain⟨q,h1,h2⟩:=hc
 exact⟨q,h.code h1,h2⟩
theorem JY{f g:AV→Option (List AV)}(hf:∀k B,f k=some B→g k=some B){B:List AV}:∀ {l:List (AV×AV)},FC f B l=true→FC g B l=true
 | [],h=>h
 | e::l,h=>by
  unfold FC at h ⊢
  simp only[Bool.and_eq_true]at h ⊢
  refine⟨?_,JY hf h.2⟩
  have h1:=h.1
  cases he:f e.1 with
  | none=>rw[he]at h1;cases h1
  | some X=>rw[he]at h1;rw[hf _ _ he];exact h1
theorem Kw{f g:AV→Option (List AV)}(hf:∀k B,f k=some B→g k=some B):∀ {l:List (AV×AV)}{B C:List AV},Ip f B l=some C→Ip g B l=some C
 | [],_,_,h=>h
 | e::l,B,C,h=>by
  unfold Ip at h ⊢
  simp only[zV]at h ⊢
  obtain⟨X,h1,B',h2,h3⟩:=h
  exact⟨X,hf _ _ h1,B',h2,Kw hf h3⟩
theorem Sc(h:F.le G){rnd:Option Nat}{r:Jn}{body:Ac}{it:AV}{marks:List Nat}{s:AE}{A0:List AV}{l:List (AV×AV)}{C:List AV}(hc:M5 F rnd r body it marks s A0 l=some C):M5 G rnd r body it marks s A0 l=some C:=by
 unfold M5 at hc ⊢
 simp only[zV]at hc ⊢
 obtain⟨A1,h1,h2⟩:=hc
 obtain⟨h3,h4⟩:(FC (C0 F rnd r body A1 marks s) A1 l && (Fs (Mk A1 r.jt) it && T7 A0 A1))=true∧some A1=some C:=by
  cases hb:(FC (C0 F rnd r body A1 marks s) A1 l && (Fs (Mk A1 r.jt) it && T7 A0 A1))with
  | true=>rw[hb]at h2;exact⟨rfl,h2⟩
  | false=>rw[hb]at h2;cases h2
 simp only[Bool.and_eq_true]at h3
 refine⟨A1,Kw (fun k B=>IR h) h1,?_⟩
 have:=JY (fun k B=>IR h (A:=A1) (k:=k) (B:=B)) h3.1
 rw[this,h3.2.1,h3.2.2]
 exact h4
theorem Uq(h:F.le G){rnd:Option Nat}{c:Ac}{var:List AV}{marks:List Nat}{s:AE}{res:Az}(hc:DK F rnd c var marks s=some res):DK G rnd c var marks s=some res:=by
  cases c with
  | skip=>exact hc
  | ret=>exact hc
  | exit id=>exact hc
  | never=>exact hc
  | ops l =>
    simp only[DK,iw]at hc ⊢
    cases hi:Ew F l [] var s with
    | none=>rw[hi]at hc;cases hc
    | some p=>rw[hi]at hc;rw[HP h _ _ _ _ _ hi];exact hc
  | seq a b =>
    simp only[DK]at hc ⊢
    unfold JA at hc ⊢
    cases ha:F.code rnd a var marks s with
    | none=>rw[ha]at hc;cases hc
    | some r=>rw[ha]at hc;rw[h.code ha];exact L8 h hc
  | cond x a b =>
    simp only[DK]at hc ⊢
    unfold RM at hc ⊢
    split at hc
    · split at hc
      · exact h.code hc
      · exact h.code hc
    · cases hc
  | block id c =>
    simp only[DK]at hc ⊢
    unfold L6 at hc ⊢
    cases ha:F.code rnd c var marks s with
    | none=>rw[ha]at hc;cases hc
    | some r=>rw[ha]at hc;rw[h.code ha];exact hc
  | loop c =>
    simp only[DK]at hc ⊢
    unfold JA at hc ⊢
    cases ha:F.code rnd c var marks s with
    | none=>rw[ha]at hc;cases hc
    | some r=>rw[ha]at hc;rw[h.code ha];exact L8 h hc
  | rangeFunc fn f params assign body =>
    simp only[DK]at hc ⊢
    unfold L7 at hc ⊢
    cases rnd with
    | none=>exact I9 h hc
    | some l =>
      simp only[zV]at hc ⊢
      obtain⟨r,h1,h2⟩:=hc
      exact⟨r,h1,I9 h h2⟩
  | rangeMap r body =>
    simp only[DK]at hc ⊢
    unfold iy PO at hc ⊢
    simp only[zV]at hc ⊢
    obtain⟨m,h1,es,h2,A,h3,h4⟩:=hc
    exact⟨m,h1,es,h2,A,Sc h h3,h4⟩
theorem Ur(h:F.le G){E:CR}{f:FuncId}{aS:List AV}{s:AE}{p:AV×AE}(hc:IT E F f aS s=some p):IT E G f aS s=some p:=by
 unfold IT at hc ⊢
 cases hn:E.nat f aS s with
 | some q=>rw[hn]at hc;exact hc
 | none =>
  rw[hn]at hc
  simp only at hc ⊢
  unfold HF at hc ⊢
  simp only[zV]at hc ⊢
  obtain⟨cf,h1,h2⟩:=hc
  refine⟨cf,h1,?_⟩
  cases hb:Nat.beq aS.length cf.na with
  | false=>rw[hb]at h2;cases h2
  | true =>
   rw[hb]at h2
   simp only[cond_true]at h2 ⊢
   unfold LJ at h2 ⊢
   simp only[zV]at h2 ⊢
   obtain⟨r,h3,h4⟩:=h2
   exact⟨r,h.code h3,h4⟩
theorem Us(h:F.le G){E:CR}{l:Nat}{aS:List AV}{s:AE}{p:AV×AE}(hc:Kz E F l aS s=some p):Kz E G l aS s=some p:=by
 unfold Kz at hc ⊢
 simp only[zV]at hc ⊢
 obtain⟨r,h1,var,h2,ca,h3,cb,h4,hc⟩:=hc
 refine⟨r,h1,var,h2,ca,h3,cb,h4,?_⟩
 unfold H0 at hc ⊢
 simp only[zV]at hc ⊢
 obtain⟨q,h5,hc⟩:=hc
 refine⟨q,h.code h5,?_⟩
 cases hn:JI q.exit with
 | false=>rw[hn]at hc;cases hc
 | true =>
  rw[hn]at hc
  simp only[cond_true,zV]at hc ⊢
  obtain⟨r2,h6,hc⟩:=hc
  refine⟨r2,h6,?_⟩
  cases hr:LQ r2.state with
  | false=>rw[hr]at hc;cases hc
  | true =>
   rw[hr]at hc
   simp only[cond_true]at hc ⊢
   unfold Ja at hc ⊢
   simp only[zV]at hc ⊢
   obtain⟨q2,h7,rest⟩:=hc
   exact⟨q2,h.code h7,rest⟩
end
theorem P1(E:CR):∀n,(Ea E n).le (Ea E (n+1)):=by
 intro n
 induction n with
 | zero=>exact⟨fun h=>(by cases h),fun h=>(by cases h),fun h=>(by cases h)⟩
 | succ n ih=>exact⟨fun h=>Uq ih h,fun h=>Ur ih h,fun h=>Us ih h⟩
theorem EA.le.refl(F:EA):F.le F:=⟨id,id,id⟩
theorem EA.le.trans{F G H:EA}(h:F.le G)(k:G.le H):F.le H:=⟨fun x=>k.code (h.code x),fun x=>k.call (h.call x),fun x=>k.round (h.round x)⟩
theorem Gq(E:CR){n m:Nat}(h:n≤m):(Ea E n).le (Ea E m):=by
 induction h with
 | refl=>exact EA.le.refl _
 | step _ ih=>exact ih.trans (P1 E _)
section
variable(E:CR)
def WC(rnd:Option Nat)(c:Ac)(Q:Az→Prop)(var:List AV)(marks:List Nat)(s:AE):Prop:=∃n r,(Ea E n).code rnd c var marks s=some r∧Q r
def WI(l:List AA)(K:List AV→AE→Prop)(loc var:List AV)(s:AE):Prop:=∃n p,Ew (Ea E n) l loc var s=some p∧K p.1 p.2
def WF(f:FuncId)(aS:List AV)(K:AV→AE→Prop)(s:AE):Prop:=∃n p,(Ea E n).call f aS s=some p∧K p.1 p.2
def WR(l:Nat)(aS:List AV)(K:AV→AE→Prop)(s:AE):Prop:=∃n p,(Ea E n).round l aS s=some p∧K p.1 p.2
end
section
variable{E:CR}{rnd:Option Nat}{Q Q':Az→Prop}{var loc:List AV}{marks:List Nat}{s:AE}{K K':AV→AE→Prop}{KI:List AV→AE→Prop}
theorem WC.mono{c:Ac}(h:WC E rnd c Q var marks s)(hq:∀r,Q r→Q' r):WC E rnd c Q' var marks s:=let ⟨n,r,h1,h2⟩:=h;⟨n,r,h1,hq r h2⟩
theorem WF.mono{f:FuncId}{aS:List AV}(h:WF E f aS K s)(hq:∀v s',K v s'→K' v s'):WF E f aS K' s:=let ⟨n,r,h1,h2⟩:=h;⟨n,r,h1,hq _ _ h2⟩
theorem WC.skip(h:Q ⟨.normal,var,marks,s⟩):WC E rnd .skip Q var marks s:=⟨1,_,rfl,h⟩
theorem WC.ret(h:Q ⟨.ret,var,marks,s⟩):WC E rnd .ret Q var marks s:=⟨1,_,rfl,h⟩
theorem WC.exit{id:Nat}(h:Q ⟨.exit id,var,marks,s⟩):WC E rnd (.exit id) Q var marks s:=⟨1,_,rfl,h⟩
def Wy(E:CR)(rnd:Option Nat)(b:Ac)(Q:Az→Prop)(r:Az):Prop:=match r.exit with
 | .normal=>WC E rnd b Q r.var r.marks r.st
 | _=>Q r
theorem Sk{a b:Ac}{n:Nat}{r:Az}(h1:(Ea E n).code rnd a var marks s=some r)(h2:Wy E rnd b Q r):∃m res,JA (Ea E m) rnd b ((Ea E m).code rnd a var marks s)=some res∧Q res:=by
 unfold Wy at h2
 cases he:r.exit with
 | normal =>
  rw[he]at h2
  obtain⟨m,res,h3,h4⟩:=h2
  refine⟨max n m,res,?_,h4⟩
  rw[(Gq E (Nat.le_max_left n m)).code h1]
  simp only[JA,IH,he]
  exact(Gq E (Nat.le_max_right n m)).code h3
 | exit id=>rw[he]at h2;exact⟨n,r,by rw[h1];simp only[JA,IH,he],h2⟩
 | ret=>rw[he]at h2;exact⟨n,r,by rw[h1];simp only[JA,IH,he],h2⟩
theorem WC.seq{a b:Ac}(h:WC E rnd a (Wy E rnd b Q) var marks s):WC E rnd (.seq a b) Q var marks s:=by
 obtain⟨n,r,h1,h2⟩:=h
 obtain⟨m,res,h3,h4⟩:=Sk h1 h2
 exact⟨m+1,res,h3,h4⟩
theorem WC.loop{c:Ac}(h:WC E rnd c (Wy E rnd (.loop c) Q) var marks s):WC E rnd (.loop c) Q var marks s:=by
 obtain⟨n,r,h1,h2⟩:=h
 obtain⟨m,res,h3,h4⟩:=Sk h1 h2
 exact⟨m+1,res,h3,h4⟩
theorem WC.cond{x:CX}{a b:Ac}{t:Bool}(hx:C9 [] var x=.bool t)(h:WC E rnd (bif t then a else b) Q var marks s):WC E rnd (.cond x a b) Q var marks s:=by
 obtain⟨n,r,h1,h2⟩:=h
 refine⟨n+1,r,?_,h2⟩
 show DK (Ea E n) rnd (.cond x a b) var marks s=some r
 simp only[DK,RM,hx]
 cases t<;>exact h1
def Ed(id:Nat)(Q:Az→Prop)(r:Az):Prop:=match r.exit with
 | .exit id'=>bif Nat.beq id' id then Q ⟨.normal,r.var,r.marks,r.st⟩else Q r
 | _=>Q r
theorem WC.block{id:Nat}{c:Ac}(h:WC E rnd c (Ed id Q) var marks s):WC E rnd (.block id c) Q var marks s:=by
 obtain⟨n,r,h1,h2⟩:=h
 unfold Ed at h2
 have:∃res,LH id r=some res∧Q res:=by
  unfold LH
  split at h2
  ·rename_i id' he
   try simp only[he]
   cases hb:Nat.beq id' id with
   | true=>rw[hb]at h2;exact⟨_,rfl,h2⟩
   | false=>rw[hb]at h2;exact⟨_,rfl,h2⟩
  ·rename_i hne
   cases he:r.exit with
   | normal=>exact⟨r,rfl,h2⟩
   | ret=>exact⟨r,rfl,h2⟩
   | exit id'=>exact absurd he (hne id')
 obtain⟨res,h3,h4⟩:=this
 refine⟨n+1,res,?_,h4⟩
 show DK (Ea E n) rnd (.block id c) var marks s=some res
 simp only[DK,L6,h1,h3]
theorem WC.ops{l:List AA}(h:WI E l (fun v s'=>Q ⟨.normal,v,marks,s'⟩) [] var s):WC E rnd (.ops l) Q var marks s:=by
 obtain⟨n,p,h1,h2⟩:=h
 refine⟨n+1,⟨.normal,p.1,marks,p.2⟩,?_,h2⟩
 show DK (Ea E n) rnd (.ops l) var marks s=_
 simp only[DK,iw,h1]
theorem WI.nil(h:KI var s):WI E [] KI loc var s:=⟨0,_,rfl,h⟩
def vE(E:CR)(ag:List G6)(d:K5)(l:List AA)(KI:List AV→AE→Prop)(loc var:List AV)(v:AV)(s:AE):Prop:=match d with
 | .push=>Eu s (v::loc) var ag=true∧WI E l KI (v::loc) var s
 | .set j=>Eu s loc (Gu v var j) ag=true∧WI E l KI loc (Gu v var j) s
theorem Vv{ag:List G6}{d:K5}{l:List AA}{v:AV}(h:vE E ag d l KI loc var v s):∃n p,(∀m,n≤m→DZ ag d (Ew (Ea E m) l) loc var v s=some p)∧KI p.1 p.2:=by
 cases d with
 | push =>
  obtain⟨h1,n,p,h2,h3⟩:=h
  exact⟨n,p,fun m hm=>by simp only[DZ,h1,cond_true];exact HP (Gq E hm) _ _ _ _ _ h2,h3⟩
 | set j =>
  obtain⟨h1,n,p,h2,h3⟩:=h
  exact⟨n,p,fun m hm=>by simp only[DZ,h1,cond_true];exact HP (Gq E hm) _ _ _ _ _ h2,h3⟩
theorem WI.item{it:AA}{l:List AA}{n:Nat}{p:AV×AE}(hj:YC loc var it.guard=false)(hw:Bv loc var it.guard=true)(hs:ux (Ea E n) it.sh it.xs loc var s=some p)(h:vE E it.again it.dst l KI loc var p.1 p.2):WI E (it::l) KI loc var s:=by
 obtain⟨m,q,h1,h2⟩:=Vv h
 refine⟨max n m,q,?_,h2⟩
 rw[HO]
 unfold Km
 rw[hj,hw]
 simp only[LS,Sl (Gq E (Nat.le_max_left n m)) hs]
 exact h1 _ (Nat.le_max_right n m)
theorem WI.off{it:AA}{l:List AA}(hj:YC loc var it.guard=false)(hw:Bv loc var it.guard=false)(h:vE E [] it.dst l KI loc var Bc s):WI E (it::l) KI loc var s:=by
 obtain⟨m,q,h1,h2⟩:=Vv h
 refine⟨m,q,?_,h2⟩
 rw[HO]
 unfold Km
 rw[hj,hw]
 exact h1 _ (zU m)
def Ends(P:Program)(rs:List (CX×Option TypeId))(K:AV→AE→Prop)(r:Az):Prop:=V8 r.exit=true∧∃s',EJ r.st r.marks=some s'∧∃l,CB P s' r.var rs=some l∧K (Bu l) s'
theorem WF.body{f:FuncId}{aS:List AV}{cf:Ah}(hn:E.nat f aS s=none)(hf:AL E.P f=some cf)(ha:aS.length=cf.na)(h:WC E none cf.body (Ends E.P cf.results K) (Ql aS cf.nv) [] s):WF E f aS K s:=by
 obtain⟨n,r,h1,h2,s',h3,l,h4,h5⟩:=h
 refine⟨n+1,(Bu l,s'),?_,h5⟩
 show IT E (Ea E n) f aS s=_
 simp[IT,hn,HF,hf,ha,LJ,h1,h2,h3,h4]
theorem WF.nat{f:FuncId}{aS:List AV}{p:AV×AE}(hn:E.nat f aS s=some p)(h:K p.1 p.2):WF E f aS K s:=⟨1,p,by show IT E (Ea E 0) f aS s=_;simp[IT,hn],h⟩
end
def TA{α:Type}(x:Option α)(K:α→Prop):Prop:=match x with
 | some v=>K v
 | none=>False
theorem Qm{α:Type}(v:α)(K:α→Prop):TA (some v) K=K v:=Eq.trans rfl rfl
section
variable(E:CR)
def Qe(f:AV)(aS:List AV)(K:AV→AE→Prop)(s:AE):Prop:=match f with
 | .func f first cap=>WF E f (first++(aS++cap)) K s
 | .yield l=>WR E l aS K s
 | _=>False
def Qc(sh:Sh)(xs:List AV)(K:AV→AE→Prop)(s:AE):Prop:=match sh with
 | .p1 f=>match xs with
  | a::_=>TA (f a) (fun v=>K v s)
  | []=>False
 | .p2 f=>match xs with
  | a::b::_=>TA (f a b) (fun v=>K v s)
  | _=>False
 | .p f=>TA (f xs) (fun v=>K v s)
 | .r1 f=>match xs with
  | a::_=>TA (f s a) (fun v=>K v s)
  | []=>False
 | .r f=>TA (f s xs) (fun v=>K v s)
 | .mk f=>TA (f xs) (fun p=>K (p.2.val s.next) (newObj s p.1))
 | .e f=>TA (f s xs) (fun p=>K p.1 p.2)
 | .call f=>WF E f xs K s
 | .callv=>match xs with
  | f::aS=>Qe E f aS K s
  | []=>False
def Qh (loc var:List AV):List CX→List AV
 | []=>[]
 | x::l=>C9 loc var x::Qh loc var l
def Qo(s:AE)(loc var:List AV):List G6→Prop
 | []=>True
 | r::l=>Et s loc var r=true∧Qo s loc var l
def Qd(ag:List G6)(d:K5)(loc var:List AV)(k:List AV→List AV→AE→Prop)(v:AV)(s:AE):Prop:=match d with
 | .push=>Qo s (v::loc) var ag∧k (v::loc) var s
 | .set j=>Qo s loc (Gu v var j) ag∧k loc (Gu v var j) s
def Vq(v:AV)(x y:List AV→List Nat→AE→Prop)(var:List AV)(marks:List Nat)(s:AE):Prop:=match v with
 | .bool true=>x var marks s
 | .bool false=>y var marks s
 | _=>False
def IG(k:List AV→List Nat→AE→Prop)(Q:Az→Prop)(r:Az):Prop:=match r.exit with
 | .normal=>k r.var r.marks r.st
 | _=>Q r
def yE(j b:Bool)(sh:Sh)(xs:List AV)(ag:List G6)(d:K5)(loc var:List AV)(k:List AV→List AV→AE→Prop)(s:AE):Prop:=match j,b with
 | true,_=>False
 | false,true=>Qc E sh xs (Qd ag d loc var k) s
 | false,false=>Qd [] d loc var k Bc s
def Qb:List AA→(List AV→AE→Prop)→List AV→List AV→AE→Prop
 | [],K,_,var,s=>K var s
 | it::l,K,loc,var,s=>yE E (YC loc var it.guard) (Bv loc var it.guard) it.sh (Qh loc var it.xs) it.again it.dst loc var (Qb l K) s
def Qa(rnd:Option Nat):Ac→(Az→Prop)→List AV→List Nat→AE→Prop
 | .skip,Q,var,marks,s=>Q ⟨.normal,var,marks,s⟩
 | .ret,Q,var,marks,s=>Q ⟨.ret,var,marks,s⟩
 | .exit id,Q,var,marks,s=>Q ⟨.exit id,var,marks,s⟩
 | .never,_,_,_,_=>False
 | .ops l,Q,var,marks,s=>Qb E l (fun v s'=>Q ⟨.normal,v,marks,s'⟩) [] var s
 | .seq a b,Q,var,marks,s=>Qa rnd a (IG (Qa rnd b Q) Q) var marks s
 | .cond x a b,Q,var,marks,s=>Vq (C9 [] var x) (Qa rnd a Q) (Qa rnd b Q) var marks s
 | .block id c,Q,var,marks,s=>Qa rnd c (Ed id Q) var marks s
 | .loop c,Q,var,marks,s=>WC E rnd (.loop c) Q var marks s
 | .rangeFunc fn f ps a b,Q,var,marks,s=>WC E rnd (.rangeFunc fn f ps a b) Q var marks s
 | .rangeMap r b,Q,var,marks,s=>WC E rnd (.rangeMap r b) Q var marks s
end
section
variable{E:CR}{rnd:Option Nat}{Q Q':Az→Prop}{var loc:List AV}{marks:List Nat}{s:AE}{K K':AV→AE→Prop}{KI:List AV→AE→Prop}
theorem Wl:∀ (l:List CX),Qh loc var l=D8 loc var l
 | []=>rfl
 | x::l=>by show C9 loc var x::Qh loc var l=C9 loc var x::D8 loc var l;rw[Wl l]
theorem Lk:∀ {l:List G6},Qo s loc var l→Eu s loc var l=true
 | [],_=>rfl
 | r::l,h=>by show(Et s loc var r && Eu s loc var l)=true;rw[h.1,Lk h.2];rfl
theorem Gn{α:Type}{x:Option α}{K:α→Prop}(h:TA x K):∃v,x=some v∧K v:=by
 cases x with
 | none=>exact h.elim
 | some v=>exact⟨v,rfl,h⟩
theorem lD{f:AV}{aS:List AV}(h:Qe E f aS K s):∃n p,HH (Ea E n) f aS s=some p∧K p.1 p.2:=by
 cases f with
 | func f first cap=>obtain⟨n,p,h1,h2⟩:=h;exact⟨n,p,h1,h2⟩
 | yield l=>obtain⟨n,p,h1,h2⟩:=h;exact⟨n,p,h1,h2⟩
 | _=>exact h.elim
theorem lC      {sh : Sh} {xs : List CX} (h : Qc E sh (Qh loc var xs) K s) : ∃ n p, ux  (Ea   E n) sh xs loc var s = some p ∧ K p.1 p.2 := by
  rw[Wl]at h
  cases sh with
  | p1 f =>
    cases xs with
    | nil=>exact h.elim
    | cons x l =>
      obtain⟨v,h1,h2⟩:=Gn h
      exact⟨0,(v,s),by show EL s (f (C9 loc var x))=_;rw[h1];rfl,h2⟩
  | p2 f =>
    cases xs with
    | nil=>exact h.elim
    | cons x l =>
      cases l with
      | nil=>exact h.elim
      | cons y l =>
        obtain⟨v,h1,h2⟩:=Gn h
        exact⟨0,(v,s),by show EL s (f (C9 loc var x) (C9 loc var y))=_;rw[h1];rfl,h2⟩
  | p f =>
    obtain⟨v,h1,h2⟩:=Gn h
    exact⟨0,(v,s),by show EL s (f (D8 loc var xs))=_;rw[h1];rfl,h2⟩
  | r1 f =>
    cases xs with
    | nil=>exact h.elim
    | cons x l =>
      obtain⟨v,h1,h2⟩:=Gn h
      exact⟨0,(v,s),by show EL s (f s (C9 loc var x))=_;rw[h1];rfl,h2⟩
  | r f =>
    obtain⟨v,h1,h2⟩:=Gn h
    exact⟨0,(v,s),by show EL s (f s (D8 loc var xs))=_;rw[h1];rfl,h2⟩
  | mk f =>
    obtain⟨v,h1,h2⟩:=Gn h
    exact⟨0,(v.2.val s.next,newObj s v.1),by show SF s (f (D8 loc var xs))=_;rw[h1];rfl,h2⟩
  | e f =>
    obtain⟨v,h1,h2⟩:=Gn h
    exact⟨0,v,h1,h2⟩
  | call f=>obtain⟨n,p,h1,h2⟩:=h;exact⟨n,p,h1,h2⟩
  | callv =>
    cases xs with
    | nil=>exact h.elim
    | cons x l=>exact lD h
theorem kz:∀ {l:List AA}{loc var:List AV}{s:AE},Qb E l KI loc var s→WI E l KI loc var s:=by
 intro l
 induction l with
 | nil=>intro loc var s h;exact WI.nil h
 | cons it l ih =>
  intro loc var s h
  have dst:∀ {ag:List G6} {v:AV} {s:AE},Qd ag it.dst loc var (Qb E l KI) v s→vE E ag it.dst l KI loc var v s:=by
   intro ag v s h
   unfold Qd at h
   unfold vE
   cases hd:it.dst with
   | push=>rw[hd]at h;exact⟨Lk h.1,ih h.2⟩
   | set j=>rw[hd]at h;exact⟨Lk h.1,ih h.2⟩
  unfold Qb at h
  cases hj:YC loc var it.guard with
  | true=>rw[hj]at h;exact h.elim
  | false =>
  rw[hj]at h
  cases hw:Bv loc var it.guard with
  | true =>
   rw[hw]at h
   have h:Qc E it.sh (Qh loc var it.xs) (Qd it.again it.dst loc var (Qb E l KI)) s:=h
   obtain⟨n,p,h1,h2⟩:=lC h
   exact WI.item hj hw h1 (dst h2)
  | false =>
   rw[hw]at h
   have h:Qd [] it.dst loc var (Qb E l KI) Bc s:=h
   exact WI.off hj hw (dst h)
theorem Eg:∀ {c:Ac}{Q:Az→Prop}{var:List AV}{marks:List Nat}{s:AE},Qa E rnd c Q var marks s→WC E rnd c Q var marks s:=by
 intro c
 induction c with
 | skip=>intro Q var marks s h;exact WC.skip h
 | ret=>intro Q var marks s h;exact WC.ret h
 | exit id=>intro Q var marks s h;exact WC.exit h
 | never=>intro Q var marks s h;exact h.elim
 | ops l=>intro Q var marks s h;exact WC.ops (kz h)
 | seq a b iha ihb =>
  intro Q var marks s h
  refine WC.seq ((iha h).mono ?_)
  intro r hr
  unfold IG at hr
  unfold Wy
  cases he:r.exit with
  | normal=>rw[he]at hr;exact ihb hr
  | exit id=>rw[he]at hr;exact hr
  | ret=>rw[he]at hr;exact hr
 | cond x a b iha ihb =>
  intro Q var marks s h
  unfold Qa Vq at h
  split at h<;>first | exact h.elim | skip
  ·rename_i ht;exact WC.cond ht (iha h)
  ·rename_i ht;exact WC.cond ht (ihb h)
 | block id c ih=>intro Q var marks s h;exact WC.block (ih h)
 | loop c _=>intro Q var marks s h;exact h
 | rangeFunc fn f ps a b=>intro Q var marks s h;exact h
 | rangeMap r b _=>intro Q var marks s h;exact h
theorem WC.loop'{c:Ac}(h:Qa E rnd c (IG (WC E rnd (.loop c) Q) Q) var marks s):WC E rnd (.loop c) Q var marks s:=by
 refine WC.loop ((Eg h).mono ?_)
 intro r hr
 unfold IG at hr
 unfold Wy
 cases he:r.exit with
 | normal=>rw[he]at hr;exact hr
 | exit id=>rw[he]at hr;exact hr
 | ret=>rw[he]at hr;exact hr
theorem WF.body'{f:FuncId}{aS:List AV}{cf:Ah}(hn:E.nat f aS s=none)(hf:AL E.P f=some cf)(ha:aS.length=cf.na)(h:Qa E none cf.body (Ends E.P cf.results K) (Ql aS cf.nv) [] s):WF E f aS K s:=WF.body hn hf ha (Eg h)
end
theorem Qr(a:AV)(l:List AV):Mk (a::l) 0=a:=rfl
theorem Qs(a:AV)(l:List AV)(n:Nat):Mk (a::l) (n+1)=Mk l n:=rfl
theorem Qp(v a:AV)(l:List AV):Gu v (a::l) 0=v::l:=rfl
theorem Qq(v a:AV)(l:List AV)(n:Nat):Gu v (a::l) (n+1)=a::Gu v l n:=rfl
theorem Qk(loc var:List AV)(i:Nat):C9 loc var (.loc i)=Mk loc i:=rfl
theorem Qj(loc var:List AV)(i:Nat):C9 loc var (.var i)=Mk var i:=rfl
theorem Qi(loc var:List AV)(v:AV):C9 loc var (.const v)=v:=rfl
theorem Qf(loc var:List AV):Bv loc var none=true:=rfl
theorem Qg(loc var:List AV)(x:CX)(b:Bool):Bv loc var (some (x,b))=vA b (C9 loc var x):=rfl
theorem Qt(E:CR)(sh:Sh)(xs:List AV)(ag:List G6)(d:K5)(loc var:List AV)(k:List AV→List AV→AE→Prop)(s:AE):yE E false true sh xs ag d loc var k s=Qc E sh xs (Qd ag d loc var k) s:=rfl
theorem Qu(E:CR)(sh:Sh)(xs:List AV)(ag:List G6)(d:K5)(loc var:List AV)(k:List AV→List AV→AE→Prop)(s:AE):yE E false false sh xs ag d loc var k s=Qd [] d loc var k Bc s:=rfl
theorem Qz(x y:List AV→List Nat→AE→Prop)(var:List AV)(m:List Nat)(s:AE):Vq (.bool true) x y var m s=x var m s:=rfl
theorem Ra(x y:List AV→List Nat→AE→Prop)(var:List AV)(m:List Nat)(s:AE):Vq (.bool false) x y var m s=y var m s:=rfl
theorem Rb(k:List AV→List Nat→AE→Prop)(Q:Az→Prop)(v:List AV)(m:List Nat)(s:AE):IG k Q ⟨.normal,v,m,s⟩=k v m s:=rfl
theorem Rc(k:List AV→List Nat→AE→Prop)(Q:Az→Prop)(v:List AV)(m:List Nat)(s:AE):IG k Q ⟨.ret,v,m,s⟩=Q ⟨.ret,v,m,s⟩:=rfl
theorem Rd(k:List AV→List Nat→AE→Prop)(Q:Az→Prop)(id:Nat)(v:List AV)(m:List Nat)(s:AE):IG k Q ⟨.exit id,v,m,s⟩=Q ⟨.exit id,v,m,s⟩:=rfl
theorem Re(id:Nat)(Q:Az→Prop)(v:List AV)(m:List Nat)(s:AE):Ed id Q ⟨.normal,v,m,s⟩=Q ⟨.normal,v,m,s⟩:=rfl
theorem Rf(id:Nat)(Q:Az→Prop)(v:List AV)(m:List Nat)(s:AE):Ed id Q ⟨.ret,v,m,s⟩=Q ⟨.ret,v,m,s⟩:=rfl
theorem Rg(id id':Nat)(Q:Az→Prop)(v:List AV)(m:List Nat)(s:AE):Ed id Q ⟨.exit id',v,m,s⟩=if id'=id then Q ⟨.normal,v,m,s⟩else Q ⟨.exit id',v,m,s⟩:=by
 unfold Ed
 by_cases h:id'=id
 ·subst h;simp
 ·have:Nat.beq id' id=false:=by
   cases hb:Nat.beq id' id with
   | true=>exact absurd (zr hb) h
   | false=>rfl
  simp[h,this]
theorem Rh(P:Program)(rs:List (CX×Option TypeId))(K:AV→AE→Prop)(v:List AV)(m:List Nat)(s:AE):Ends P rs K ⟨.ret,v,m,s⟩=TA (EJ s m) (fun s'=>TA (CB P s' v rs) (fun l=>K (Bu l) s')):=by
 unfold Ends
 apply propext
 constructor
 ·rintro⟨_,s',h1,l,h2,h3⟩
  have h1:EJ s m=some s':=h1
  have h2:CB P s' v rs=some l:=h2
  rw[h1,Qm,h2,Qm];exact h3
 ·intro h
  obtain⟨s',h1,h⟩:=Gn h
  obtain⟨l,h2,h3⟩:=Gn h
  exact⟨rfl,s',h1,l,h2,h3⟩
theorem Ri(P:Program)(rs:List (CX×Option TypeId))(K:AV→AE→Prop)(v:List AV)(m:List Nat)(s:AE):Ends P rs K ⟨.normal,v,m,s⟩=TA (EJ s m) (fun s'=>TA (CB P s' v rs) (fun l=>K (Bu l) s')):=by
 rw[← Rh];rfl
theorem Rj(s:AE):EJ s []=some s:=rfl
theorem Rk(P:Program)(s:AE)(v:List AV):CB P s v []=some []:=rfl
theorem Rm(P:Program)(s:AE)(v:List AV)(x:CX)(l:List (CX×Option TypeId)):CB P s v ((x,none)::l)=(CB P s v l).bind fun r=>some (C9 [] v x::r):=rfl
theorem Rn(v:AV):Bu [v]=v:=rfl
theorem Ro:Bu []=.tuple []:=rfl
theorem Rp(v w:AV)(l:List AV):Bu (v::w::l)=.tuple (v::w::l):=rfl
theorem Qv(loc var:List AV):YC loc var none=false:=rfl
theorem Qw(loc var:List AV)(x:CX)(b:Bool):YC loc var (some (x,b))=uc (C9 loc var x):=rfl
theorem Qx(b:Bool):uc (.bool b)=false:=rfl
theorem Qy:uc Bc=false:=rfl
theorem Rq(w:Bool):vA w Bc=false:=rfl
theorem Rs(b:Bool):vA true (.bool b)=b:=by cases b<;>rfl
theorem Rt(b:Bool):vA false (.bool b)=!b:=by cases b<;>rfl
theorem Ya:(!true)=false:=rfl
theorem Yb:(!false)=true:=rfl
theorem Yc{α β:Type _}(a:α)(f:α→Option β):(some a).bind f=f a:=rfl
theorem Yd{α:Type _}(a:α)(l:List α):(a::l)[0]? = some a:=rfl
theorem Ye{α:Type _}(a:α)(l:List α)(i:Nat):(a::l)[i+1]? = l[i]? := rfl
abbrev iv(n:Int):AV:=.int .i64 n
def i64(n:Int):Prop:=-9223372036854775808≤n∧n<9223372036854775808
theorem S7{k:IntKind}{n:Int}(h:CG k n=true):De k n=n:=by unfold De;rw[h];rfl
theorem Eo{n:Int}(h:i64 n):CG .i64 n=true:=by
 obtain⟨h1,h2⟩:=h
 cases n with
 | ofNat m=>simp only[CG,zh];simp at h2;omega
 | negSucc m=>simp only[CG,zh];omega
theorem Jk{n:Int}(h:i64 n):De .i64 n=n:=S7 (Eo h)
section
variable(P:Program)(t:TypeId)(a b:Int)
theorem Ry:AN P .lss t (iv a) (iv b)=some (.bool (decide (a<b))):=by
 show some (AV.bool (NV a b))=_
 rw[DF]
theorem Rz:AN P .gtr t (iv a) (iv b)=some (.bool (decide (b<a))):=by
 show some (AV.bool (NV b a))=_
 rw[DF]
theorem Wa:AN P .leq t (iv a) (iv b)=some (.bool (decide (a≤b))):=by
 show some (AV.bool (!NV b a))=_
 rw[DF,← decide_not]
 congr 3
 exact propext Int.not_lt
theorem Wb:AN P .geq t (iv a) (iv b)=some (.bool (decide (b≤a))):=by
 show some (AV.bool (!NV a b))=_
 rw[DF,← decide_not]
 congr 3
 exact propext Int.not_lt
theorem Wc:AN P .eql t (iv a) (iv b)=some (.bool (decide (a=b))):=by
 show some (AV.bool (NX a b))=_
 rw[Ev];rfl
theorem Wd:AN P .neq t (iv a) (iv b)=some (.bool (decide (a≠b))):=by
 show some (AV.bool (!NX a b))=_
 rw[Ev,decide_not];rfl
theorem Ax(h:i64 (a+b)):AN P .add t (iv a) (iv b)=some (iv (a+b)):=by
 show some (AV.int .i64 (De .i64 (a+b)))=_
 rw[Jk h]
theorem CT(h:i64 (a - b)):AN P .sub t (iv a) (iv b)=some (iv (a - b)):=by
 show some (AV.int .i64 (De .i64 (a - b)))=_
 rw[Jk h]
theorem We(c:Bool):Sy P .not (.bool c)=some (.bool (!c)):=rfl
end
def Aa(b:Nat)(s s':AE):Prop:=s.next≤s'.next∧∀i,i<b→s'.heap.get i=s.heap.get i
theorem Aa.refl(b:Nat)(s:AE):Aa b s s:=⟨zU _,fun _ _=>rfl⟩
theorem Aa.trans{b:Nat}{s s1 s2:AE}(h:Aa b s s1)(k:Aa b s1 s2):Aa b s s2:=⟨zY h.1 k.1,fun i hi=>(k.2 i hi).trans (h.2 i hi)⟩
theorem Aa.mono{b b':Nat}{s s1:AE}(h:Aa b s s1)(k:b'≤b):Aa b' s s1:=⟨h.1,fun i hi=>h.2 i (zZ hi k)⟩
theorem AU(s:AE)(o:BF)(j:Nat):(newObj s o).heap.get j=if j=s.next then some o else s.heap.get j:=Ab.get_set _ _ _ _
theorem MP(s:AE)(i:Nat)(o:BF)(j:Nat):(setObj s i o).heap.get j=if j=i then some o else s.heap.get j:=Ab.get_set _ _ _ _
theorem HL(s:AE)(i j:Nat):(Cg s i).heap.get j=if j=i then none else s.heap.get j:=Ab.get_del _ _ _
theorem Aa.new(s:AE)(o:BF):Aa s.next s (newObj s o):=⟨A0X _,fun i hi=>by rw[AU,if_neg (by omega)]⟩
theorem CS{s s':AE}{i o:Nat}(h:s'.heap.get i=s.heap.get i):DB s' i o=DB s i o:=by unfold DB rowAt;rw[h]
theorem GE{s:AE}{i o:Nat}{r:D5}{u:AV}(h:s.heap.get i=some (.row r))(ho:o<r.n)(hc:r.c.get o=some u):DB s i o=some u:=by
 have hb:Nat.blt o r.n=true:=by simpa[zx]using ho
 simp[DB,rowAt,h,AQ,hb,hc]
def AS(b:Nat)(s:AE)(a:Option (Nat×Nat))(cs:List AV):Prop:=∀k u,cs[k]? = some u→∃i o,a=some (i,o)∧i<b∧DB s i (o+k)=some u
theorem AS.old{b b':Nat}{s s':AE}{a:Option (Nat×Nat)}{cs:List AV}(h:AS b s a cs)(k:Aa b' s s')(hb:b≤b'):AS b s' a cs:=fun j u hj=>by
 obtain⟨i,o,h1,h2,h3⟩:=h j u hj
 exact⟨i,o,h1,h2,by rw[CS (k.2 i (zZ h2 hb))];exact h3⟩
theorem AS.mono{b b':Nat}{s:AE}{a:Option (Nat×Nat)}{cs:List AV}(h:AS b s a cs)(hb:b≤b'):AS b' s a cs:=fun j u hj=>by
 obtain⟨i,o,h1,h2,h3⟩:=h j u hj
 exact⟨i,o,h1,zZ h2 hb,h3⟩
theorem AS.nil{b:Nat}{s:AE}{a:Option (Nat×Nat)}:AS b s a []:=fun k u h=>by simp at h
theorem D3(k:Nat):WJ (k:Int)=some k:=rfl
theorem AX{P:Program}{t e:TypeId}{n:Nat}(ht:P.underlying t=some (.slice e))(hs:BJ P e=some n){i o len k:Nat}{cap:Option Nat}(hk:k<len):
  AJ P t (.slice (some (i,o)) len cap) (iv (k:Int))=some (.ptr (some (i,o+k * n))):=by
 have hb:Nat.blt k len=true:=by simpa[zx]using hk
 simp[AJ,F8,D3,ht,hs,AQ,hb]
theorem Bq{P:Program}{t:TypeId}(h:EO P t=some false){s:AE}{i o:Nat}{u:AV}(hl:DB s i o=some u):AB P s t (.ptr (some (i,o)))=some u:=by
 simp[AB,h,hl]
theorem AH{P:Program}{t e:TypeId}(ht:P.underlying t=some (.slice e)){s:AE}{a:Option (Nat×Nat)}{n:Nat}{cap:Option Nat}:Ay P s t (.slice a n cap)=some (iv (n:Int)):=by
 simp[Ay,ht]
theorem CU{a b:Nat}(h:a≤b):Nat.ble a b=true:=by simpa[zh]using h
theorem Fq{a b:Nat}(h:a=b):Nat.beq a b=true:=by subst h;simp
theorem Dp{a b:Nat}(h:a≠b):Nat.beq a b=false:=by
 cases hb:Nat.beq a b with
 | true=>exact absurd (zr hb) h
 | false=>rfl
theorem Ou{a b:Nat}(h:b<a):Nat.ble a b=false:=by
 cases hb:Nat.ble a b with
 | true=>rw[zh]at hb;omega
 | false=>rfl
theorem kf{t:Ab AV}:∀ (cs:List AV)(k:Nat),(∀j u,cs[j]? = some u→t.get (k+j)=some u)→t.take k cs.length=some cs:=by
 intro cs
 induction cs with
 | nil=>intro k _;rfl
 | cons c cs ih =>
  intro k h
  have h0:=h 0 c rfl
  simp only[A0G,Ab.take]
  rw[show k+0=k from rfl]at h0
  rw[h0]
  simp only
  rw[ih (k+1) (fun j u hj=>by rw[show k+1+j=k+(j+1)from by omega];exact h (j+1) u (by simpa using hj))]
def Ld(r:D5)(cs:List AV):Prop:=r.n=cs.length∧∀k u,cs[k]? = some u→r.c.get k=some u
theorem Ld.take{r:D5}{cs:List AV}(h:Ld r cs)(o:Nat)(l:List AV)(hl:∀j u,l[j]? = some u→cs[o+j]? = some u):r.c.take o l.length=some l:=
 kf l o fun j u hj=>h.2 _ u (hl j u hj)
theorem Ko{s:AE}{i:Nat}{r:D5}{cs:List AV}(hg:s.heap.get i=some (.row r))(h:Ld r cs)(o:Nat)(l:List AV)(hle:o+l.length≤cs.length)(hl:∀j u,l[j]? = some u→cs[o+j]? = some u):
  CL s i o l.length=some l:=by
 simp[CL,rowAt,hg,AQ,h.1,CU hle,h.take o l hl]
theorem Rx(e:TypeId)(sz:Nat)(cs:List AV):∃r,GH e sz cs=.row r∧Ld r cs∧r.sz=sz∧r.spare=false∧r.mode=.own∧r.par=none:=by
 refine⟨_,rfl,⟨rfl,?_⟩,rfl,rfl,rfl,rfl⟩
 intro k u hk
 have hlt:k<cs.length:=by
  rcases zX k cs.length with h | h
  ·exact h
  ·rw[zj h]at hk;cases hk
 show(Ab.fill .leaf 0 cs).get k=some u
 rw[Ab.get_fill,if_pos ⟨ze _,by omega⟩]
 simpa using hk
structure G8(e:TypeId)(lo hi:Nat)(s:AE)(v:AV)(n sz:Nat)(cs:List AV)(i:Nat)(p:Option Nat):Prop where
 len:cs.length=n * sz
 ex:(v=.slice none 0 (some 0)∧n=0)∨(v=.slice (some (i,0)) n none∧lo≤i∧i<hi∧(∀q,p=some q→lo≤q∧q<hi∧q≠i) ∧
  ∃r,s.heap.get i=some (.row r)∧Ld r cs∧r.spare=true∧r.mode=.own∧r.sz=sz∧r.par=p∧r.elem=e)
theorem G8.zero(e:TypeId)(lo hi:Nat)(s:AE)(sz:Nat)(i:Nat)(p:Option Nat):G8 e lo hi s (.slice none 0 (some 0)) 0 sz [] i p:=⟨by simp,.inl ⟨rfl,rfl⟩⟩
theorem G8.frame{e:TypeId}{lo hi:Nat}{s s':AE}{v:AV}{n sz:Nat}{cs:List AV}{i:Nat}{p:Option Nat}(h:G8 e lo hi s v n sz cs i p)(k:lo≤i→i<hi→s'.heap.get i=s.heap.get i):G8 e lo hi s' v n sz cs i p:=by
 refine⟨h.len,?_⟩
 rcases h.ex with h1 | ⟨h1,h2,h3,h4,r,h5,h6⟩
 ·exact .inl h1
 ·exact .inr ⟨h1,h2,h3,h4,r,by rw[k h2 h3];exact h5,h6⟩
theorem G8.mono{e:TypeId}{lo hi hi':Nat}{s:AE}{v:AV}{n sz:Nat}{cs:List AV}{i:Nat}{p:Option Nat}(h:G8 e lo hi s v n sz cs i p)(k:hi≤hi'):G8 e lo hi' s v n sz cs i p:=by
 refine⟨h.len,?_⟩
 rcases h.ex with h1 | ⟨h1,h2,h3,h4,rest⟩
 ·exact .inl h1
 ·exact .inr ⟨h1,h2,by omega,fun q hq=>⟨(h4 q hq).1,by have:=(h4 q hq).2.1;omega,(h4 q hq).2.2⟩,rest⟩
theorem G8.cells{e:TypeId}{lo hi:Nat}{s:AE}{v:AV}{n sz:Nat}{cs:List AV}{i:Nat}{p:Option Nat}(h:G8 e lo hi s v n sz cs i p):∃a cap,v=.slice a n cap∧AS hi s a cs:=by
 rcases h.ex with⟨rfl,rfl⟩ | ⟨rfl,h2,h3,h4,r,h5,h6,_⟩
 ·refine⟨none,some 0,rfl,?_⟩
  have:cs=[]:=by have:=h.len;simp at this;exact this
  subst this
  exact AS.nil
 ·refine⟨_,_,rfl,fun k u hk=>⟨i,0,rfl,h3,?_⟩⟩
  have hlt:k<cs.length:=by
   rcases zX k cs.length with h' | h'
   ·exact h'
   ·rw[zj h']at hk;cases hk
  rw[zk]
  exact GE h5 (by rw[h6.1];exact hlt) (h6.2 k u hk)
def vC(s s':AE)(i:Nat)(p:Option Nat):Prop:=s.next≤s'.next∧∀j,j<s.next→j≠i→p≠some j→s'.heap.get j=s.heap.get j
theorem G8.appTo   {P : Program} {e : TypeId} {lo hi : Nat} {s : AE}  {v : AV} {n sz : Nat} {cs : List AV} {i : Nat} {p : Option Nat} (h : G8   e lo hi s v n sz cs i p) (hhi : hi ≤ s.next) (hlo : lo ≤ s.next) (hz : DH     P e sz = true) (hsz : 0 < sz) {m : Nat} {add : List AV} (ha : add.length = m * sz) (hm : 0 < m) :
    ∃a cap v' s',v=.slice a n cap∧appTo P s e sz a n cap (m,add)=some (v',s')∧∃i' p',G8 e lo s'.next s' v' (n+m) sz (cs++add) i' p'∧vC s s' i p∧lo≤s'.next∧(i'=s.next)∧(p'=none∨p'=some i)∧s'.next=s.next+1 ∧
      (∀cell,cell<cs.length→DB s' i cell=DB s i cell∨n=0):=by
  have hlen:(cs++add).length=(n+m) * sz:=by rw[zg,h.len,ha,A0A]
  rcases h.ex with⟨rfl,rfl⟩ | ⟨rfl,h2,h3,h4,r,h5,h6,h7,h8,h9,h10,h11⟩
  · have hcs:cs=[]:=by have:=h.len;simp at this;exact this
    subst hcs
    refine⟨none,some 0,.slice (some (s.next,0)) m none,newObj s (Cy e sz (Ab.fill .leaf 0 add) add.length none true),rfl,?_,s.next,none,⟨by simpa using hlen,.inr ⟨by simp,hlo,A0T _,(fun q hq=>by cases hq),_,(by rw[AU,if_pos rfl];rfl),⟨rfl,?_⟩,rfl,rfl,rfl,rfl,rfl⟩⟩,
      ⟨A0X _,fun j hj _ _=>by rw[AU,if_neg (by omega)]⟩,Nat.le_succ_of_le hlo,rfl,.inl rfl,rfl,fun _ _=>.inr rfl⟩
    · simp[Am.appTo,DA,Dp (show m≠0 by omega),AQ,hz]
    · intro k u hk
      show(Ab.fill .leaf 0 add).get k=some u
      have hk':add[k]? = some u:=by simpa using hk
      have hlt:k<add.length:=by
        rcases zX k add.length with h' | h'
        · exact h'
        · rw[zj h']at hk';cases hk'
      rw[Ab.get_fill,if_pos ⟨ze _,by omega⟩]
      simpa using hk'
  · have hrow : rowAt s i = some r := by simp [rowAt, h5]
    have hrn:r.n=n * sz:=by rw[h6.1,h.len]
    have hload:CL s i 0 (n * sz)=some cs:=by
      have:=Ko h5 h6 0 cs (by omega) (fun j u hj=>by simpa using hj)
      rw[h.len]at this
      exact this
    have hgt:¬ (0+(n+m) * sz≤r.n):=by
      rw[hrn,A0A]
      have:0<m * sz:=A1B hm hsz
      omega
    let s2:=setObj (BT s i r) i (.row { r with mode:=.sealed,par:=none })
    let s':=newObj s2 (Cy e sz (r.c.fill (n * sz) add) (cs++add).length (some i) (r.bytes && Nat.beq 0 0))
    have hun:∀j,j≠i→p≠some j→(BT s i r).heap.get j=s.heap.get j:=by
      intro j hj hp
      unfold BT
      rw[h10]
      cases p with
      | none=>rfl
      | some q =>
        simp only
        rw[Dp (h4 q rfl).2.2,cond_false,HL,if_neg (fun e=>hp (by rw[e]))]
    have hnext:(BT s i r).next=s.next:=by
      unfold BT
      split
      · rfl
      · cases Nat.beq _ _<;>rfl
    have hs2n:s2.next=s.next:=hnext
    refine⟨_,_,.slice (some (s.next,0)) (n+m) none,s',rfl,?_,s.next,some i,⟨hlen,.inr ⟨rfl,hlo,by show s.next<s2.next+1;omega,?_,_,by rw[AU,if_pos hs2n.symm];rfl,⟨rfl,?_⟩,rfl,rfl,rfl,rfl,rfl⟩⟩,⟨by show s.next≤s2.next+1;omega,?_⟩,by show lo≤s2.next+1;omega,rfl,.inr rfl,by show s2.next+1=_;omega,?_⟩
    · simp only[Am.appTo]
      rw[hrow,Option.bind_some]
      unfold LD
      rw[h9,Fq rfl]
      simp only[AQ,cond_true]
      rw[show Nat.ble (0+(n+m) * sz) r.n=false from Ou (by omega),cond_false,hload,Option.bind_some,h7,cond_true]
      unfold FQ
      rw[h8,hz,Fq h11,show Nat.beq (0+n * sz) r.n=true from Fq (by omega)]
      simp only[EG,Bool.and_self,AQ,cond_true,Dt,Fq rfl]
      show some (AV.slice (some (s.next,0)) (n+m) none,newObj s2 _)=_
      rfl
    · intro q hq
      injection hq with hq
      subst hq
      refine⟨h2,?_,?_⟩
      · show i<s2.next+1
        omega
      · omega
    · intro k u hk
      show(r.c.fill (n * sz) add).get k=some u
      rw[Ab.get_fill]
      by_cases hlt:k<cs.length
      · rw [if_neg (by rw [← h.len]; omega)]
        rw[A0Q hlt]at hk
        exact h6.2 k u hk
      · rw[A0U (by omega)]at hk
        have hk2:k - cs.length<add.length:=by
          rcases zX (k - cs.length) add.length with h' | h'
          · exact h'
          · rw[zj h']at hk;cases hk
        rw[if_pos ⟨by rw[← h.len];omega,by rw[← h.len];omega⟩,← h.len]
        exact hk
    · intro j hj hji hp
      show s'.heap.get j=_
      rw[AU,if_neg (by omega),MP,if_neg hji]
      exact hun j hji hp
    · intro cell hc
      left
      have e1:s'.heap.get i=some (.row { r with mode:=.sealed,par:=none }):=by
        rw[AU,if_neg (by omega),MP,if_pos rfl]
      simp only[DB,rowAt,e1,h5,Option.bind_some]
theorem X0{s:AE}{i o n size:Nat}{l:List AV}(h:CL s i o (n * size)=some l):Nh s i o n size=some l:=by
 unfold Nh
 cases hn0:Nat.beq n 0 with
 | false=>exact h
 | true =>
  have:=zr hn0
  subst this
  rw[A0b]at h
  unfold CL at h
  simp only[zV]at h
  obtain⟨r,_,h⟩:=h
  cases hb:Nat.ble (o+0) r.n with
  | true=>rw[hb]at h;exact h
  | false=>rw[hb]at h;cases h
theorem EP{P:Program}{st xt e:TypeId}{size by_:Nat}(ht:P.underlying st=some (.slice e))(hs:BJ P e=some size)(hb:DP P e=some by_)(h0:0<size)(hx:B0 P xt=true){s:AE}{a ax:Option (Nat×Nat)}{n m:Nat}{cap cx:Option Nat}{add:List AV}
  (hsrc:Co P s e size (.slice ax m cx)=some (m,add)) (hc:Aq add=true) (h1:(n+m) * by_≤1099511627776) (h2:n+m≤1099511627776):
  Aj P s [st,xt] [.slice a n cap,.slice ax m cx]=appTo P s e size a n cap (m,add):=by
 simp[Aj,ht,hs,hb,AQ,Dp (show size≠0 by omega),hx,hsrc,hc,CU h1,CU h2]
section
variable{P:Program}{ρ ρ1 ρ2:BU}{s s1 s2:AE}{w w1 w2:World}
abbrev KV:=Value×Value
def kv(e:MapEntry):KV:=(e.key,e.val)
open Classical in
def Rv(v:Value):Option (DataW Value×List MemPlace):=some (.held v,[])
def lG(P:Program)(kt:TypeId)(es:Array MapEntry):Prop:=∀e∈es.toList,∃l,keyOf P kt e.key=some l
theorem uY{kt:TypeId}{es:Array MapEntry}{clock:Nat}(hst:MapKept.Stamped es clock)(hty:lG P kt es)(hsz:es.size≤maxLen):WideElems.Fit P kt Rv es clock:=
 ⟨hsz,hst,fun x hx=>let ⟨l,hl⟩:=hty x hx;⟨(l,.held x.val),by simp[WideElems.rd,hl,Rv]⟩⟩
theorem kE{kt:TypeId}{es:Array MapEntry}{clock b:Nat}(hb:w.heap[b]? = some (.map es clock))(hst:MapKept.Stamped es clock)(hty:lG P kt es)(hsz:es.size≤maxLen):
  w.ownsMap P kt Rv b es.size (DataW.map ((es.toList.map (WideElems.rg P kt Rv)).foldr DataW.insert [])):=⟨es,clock,hb,uY hst hty hsz,zU _,rfl⟩
theorem xJ{kt:TypeId}{e:MapEntry}{l:Lit}(h:keyOf P kt e.key=some l):WideElems.rg P kt Rv e=(l,.held e.val):=by simp[WideElems.rg,WideElems.rd,h,Rv]
end
section
variable{P:Program}{ρ ρ1 ρ2:BU}{s s1 s2:AE}{w w1 w2:World}
theorem Bd.grown(h:Bd P ρ s w)(hgr:w.grownBy w1 none):Bd P ρ s w1∧Fr ρ s w ρ s w1:=by
 refine⟨⟨fun i o rb hi hr=>(h.obj i o rb hi hr).mono (BU.le_refl ρ) (hgr.block _ (h.lt i rb hr) (fun e=>by cases e)),fun i rb hr=>zZ (h.lt i rb hr) hgr.size,h.sep,h.glb⟩,
  ⟨BU.le_refl ρ,fun _ h _=>h,zU _,hgr.size,hgr.os,hgr.tape,hgr.output,fun b hb _=>hgr.block b hb (fun e=>by cases e),fun b hb=>.inl hb,fun _ _ _=>rfl⟩⟩
open Go.Maps in
open Go.Maps in
end
def Ny:AV→Bool
 | .bool _ | .int _ _ | .str _=>true
 | .ptr none | .map none | .nilFunc | .nilIface=>true
 | .slice none n c=>Nat.beq n 0 && (match c with | some 0=>true | _=>false)
 | _=>false
def J8:List AV→Bool
 | []=>true
 | .agg cs::l=>cs.all Ny && J8 l
 | v::l=>Ny v && J8 l
theorem FI{ρ σ:BU}{v:AV}{v':Value}(h:Ny v=true)(hr:Ae ρ v v'):Ae σ v v':=by
 cases hr with
 | bool b=>exact .bool b
 | int k n=>exact .int k n
 | str hs=>exact .str hs
 | ptrNil=>exact .ptrNil
 | sliceNil=>exact .sliceNil
 | mapNil=>exact .mapNil
 | nilFunc=>exact .nilFunc
 | nilIface=>exact .nilIface
 | _=>cases h
theorem Mv{ρ σ:BU}:∀ {l:List AV}{l':List Value},l.all Ny=true→AW ρ l l'→AW σ l l'
 | [],_,_,h=>by cases h;exact .nil
 | v::l,_,hp,h=>by
  cases h with
  | cons h1 h2 =>
   simp only[List.all_cons,Bool.and_eq_true]at hp
   exact .cons (FI hp.1 h1) (Mv hp.2 h2)
theorem Id         {ρ σ : BU}  : ∀ {l : List AV} {l' : List Value}, J8     l = true → AW    ρ l l' → AW    σ l l'
  | [],_,_,h=>by cases h;exact .nil
  | v::l,_,hp,h=>by
    cases h with
    | cons h1 h2 =>
      cases v with
      | agg cs =>
        simp only[J8,Bool.and_eq_true]at hp
        cases h1 with
        | agg h1=>exact .cons (.agg (Mv hp.1 h1)) (Id hp.2 h2)
      | _ =>
        simp only[J8,Bool.and_eq_true]at hp
        exact .cons (FI hp.1 h1) (Id hp.2 h2)
structure Row where
 f:FuncId
 args:List AV
 res:AV
def V1:List Row→FuncId→List AV→Option AV
 | [],_,_=>none
 | r::l,f,xs=>bif Nat.beq r.f f && Fs.eqAs r.args xs then some r.res else V1 l f xs
def sT(v:AV):Option (AV×AE)→Bool
 | some (u,_)=>Fs v u
 | none=>false
theorem ML:∀ {T:List Row}{f:FuncId}{xs:List AV}{v:AV},V1 T f xs=some v→∃r∈T,r.f=f∧r.args=xs∧r.res=v
 | [],_,_,_,h=>by cases h
 | r::T,f,xs,v,h=>by
  unfold V1 at h
  cases hb:Nat.beq r.f f && Fs.eqAs r.args xs with
  | true =>
   rw[hb]at h
   injection h with h
   simp only[Bool.and_eq_true]at hb
   exact⟨r,zs,zr hb.1,Hq hb.2,h⟩
  | false =>
   rw[hb]at h
   obtain⟨q,h1,h2⟩:=ML h
   exact⟨q,A0B _ h1,h2⟩
section
variable{P:Program}{ρ ρ1 ρ2:BU}{s s1 s2:AE}{w w1 w2:World}
end
theorem SG{α β:Type}{f:α→Option β}:∀ {l:List α}{r:List β},l.mapM f=some r→r.length=l.length∧∀ (k:Nat)(a:α),l[k]? = some a→f a=r[k]?
 | [],r,h=>by
  simp at h
  subst h
  exact⟨rfl,fun k a hk=>by simp at hk⟩
 | x::l,r,h=>by
  rw[A1U]at h
  simp only[bind,pure,zV]at h
  obtain⟨y,h1,r',h2,h3⟩:=h
  injection h3 with h3
  subst h3
  obtain⟨g1,g2⟩:=SG h2
  refine⟨by simp[g1],fun k a hk=>?_⟩
  cases k with
  | zero=>simp at hk;subst hk;simpa using h1
  | succ k=>simpa using g2 k a (by simpa using hk)
theorem Jz{w:World}{a:Addr}{n:Nat}{cs:List Value}(h:w.cells? 0 a n=some cs):cs.length=n∧∀j,j<n→w.cell? (a.add j)=cs[j]? := by
 unfold World.cells? at h
 rw[if_pos (ze _)]at h
 obtain⟨g1,g2⟩:=SG h
 exact⟨by simpa using g1,fun j hj=>g2 j j (by simp[hj])⟩
theorem jC{w:World}{a:Addr}{v:Value}(h:w.cell? a=some v):a.block<w.heap.size:=by
 unfold World.cell? at h
 cases hb:w.heap[a.block]? with
 | none=>rw[hb]at h;cases h
 | some o =>
  rcases zX a.block w.heap.size with h' | h'
  ·exact h'
  ·rw[Array.getElem?_eq_none h']at hb;cases hb
theorem U7(b off n:Nat):(⟨b,off,none⟩:Addr).add n=⟨b,off+n,none⟩:=by
 unfold Addr.add
 split
 ·rename_i h;subst h;rfl
 ·rfl
section
variable{H:Type}{enc:TypeId×Value→H}{P:Program}{w:World}{held:Bool}
theorem Uo         {t e : TypeId} {sz : Nat} (ht : P.underlying t = some (.slice e)) (hsz : P.cellsOf e = sz) (h0 : 0 < sz) {fuel : Nat} {cs : List Value} {x : DataW H × List MemPlace} (h : DataW.trod enc P w 0 (fun _ => true) held fuel t cs = some x) :
    cs=[.slice none 0 0]∨(∃a,cs=[.slice (some a) 0 0]) ∨
    ∃ (b off len cap n:Nat),cs=[.slice (some ⟨b,off,none⟩) len cap]∧len≤cap∧cap≤maxLen∧b<w.heap.size ∧
      ∀i,i<len→∃cs' y,DataW.trod enc P w 0 (fun _=>true) held n e cs'=some y∧cs'.length=sz∧∀j,j<sz→w.cell? ⟨b,off+i * sz+j,none⟩=cs'[j]? := by
  rcases DataW.trod_slice ht h with⟨h1,_⟩ | ⟨a,len,cap,elems,rest,n,h1,h2,h3,h4,h5,h6,h7,h8,h9,_⟩
  · exact .inl h1
  · rw[hsz]at h8 h9
    obtain⟨h9,h10⟩:=h9 rfl
    rcases A0R cap with rfl | hcap
    · have:len=0:=by omega
      subst this
      exact .inr (.inl ⟨a,h2⟩)
    ·
      have first:∃v,w.cell? a=some v:=by
        rcases A0R len with hl | hl
        · subst hl
          have:=h10 0 (by omega)
          have hlt:0<rest.length:=by omega
          rw[zW hlt]at this
          simp only[zV]at this
          obtain⟨cs',g1,_⟩:=this
          obtain⟨g2,g3⟩:=Jz g1
          have g4:=g3 0 h0
          rw[zW (show 0<cs'.length by omega)]at g4
          exact⟨_,by simpa[Addr.add]using g4⟩
        · have:=h8 0 hl
          rw[zW (show 0<elems.length by omega)]at this
          simp only[zV]at this
          obtain⟨cs',g1,_⟩:=this
          obtain⟨g2,g3⟩:=Jz g1
          have g4:=g3 0 h0
          rw[zW (show 0<cs'.length by omega)]at g4
          exact⟨_,by simpa[Addr.add]using g4⟩
      obtain⟨v,hv⟩:=first
      have hspot:=World.cell?_spot hv
      have hlt:=jC hv
      obtain⟨b,off,spot⟩:=a
      have hspot:spot=none:=hspot
      subst hspot
      refine .inr (.inr ⟨b,off,len,cap,n,h2,h5,h6,hlt,fun i hi=>?_⟩)
      have:=h8 i hi
      rw[zW (show i<elems.length by omega)]at this
      simp only[zV]at this
      obtain⟨cs',g1,g2⟩:=this
      obtain⟨g3,g4⟩:=Jz g1
      refine⟨cs',_,g2,g3,fun j hj=>?_⟩
      have:=g4 j hj
      rw[U7,U7]at this
      exact this
structure Fz(P:Program)(w:World)(ρ:BU)(s:AE):Prop where
 inv:Bd P ρ s w
 fresh:BE ρ s
 ro:∀i o,s.heap.get i=some o→wr o=false
theorem xF(P:Program)(w:World):Fz P w uu xT:=⟨xy P w,uZ,fun i o h=>by cases h⟩
theorem Fz.notOwned{ρ:BU}{s:AE}(h:Fz P w ρ s)(b:Nat):¬ Gx ρ s b:=fun⟨i,o,rb,h1,h2,_⟩=>by rw[h.ro i o h1]at h2;cases h2
def sU(e:TypeId)(sz:Nat)(cs:List AV):BF:=.row { elem:=e,sz,n:=cs.length,c:=Ab.fill .leaf 0 cs,spare:=false,mode:=.ro,par:=none,bytes:=false }
theorem gm{cs:List AV}{k:Nat}{u:AV}(h:cs[k]? = some u):(Ab.fill .leaf 0 cs).get k=some u:=by
 have hlt:k<cs.length:=by
  rcases zX k cs.length with h' | h'
  ·exact h'
  ·rw[zj h']at h;cases h
 rw[Ab.get_fill,if_pos ⟨ze _,by omega⟩]
 simpa using h
theorem Fz.row{ρ:BU}{s:AE}(h:Fz P w ρ s)(e:TypeId)(sz b off:Nat)(cs:List AV)(hb:b<w.heap.size)(hc:∀k u,cs[k]? = some u→∃v,w.cell? ⟨b,off+k,none⟩=some v∧Ae ρ u v):
    ∃ρ',Fz P w ρ' (newObj s (sU e sz cs))∧ρ.le ρ'∧ρ' s.next=some ⟨b,off,cs.length,sz⟩:=by
  have hf:=h.fresh s.next (zU _)
  have hle:=Bk (rb:=⟨b,off,cs.length,sz⟩) hf.1
  refine⟨CF ρ s.next ⟨b,off,cs.length,sz⟩,⟨⟨?_,?_,?_,?_⟩,?_,?_⟩,hle,Af _ _⟩
  · intro i o rb hi hr
    rw[AU]at hi
    by_cases e':i=s.next
    · subst e'
      rw[if_pos rfl]at hi
      injection hi with hi
      subst hi
      rw[Af]at hr
      injection hr with hr
      subst hr
      refine⟨fun k v hk hv=>?_,zU _,rfl,fun _=>rfl,fun hm=>absurd rfl hm,(fun hh=>by cases hh),(fun g hg=>by cases hg),fun p hp=>by cases hp⟩
      have hk:k<cs.length:=hk
      have hv:(Ab.fill .leaf 0 cs).get k=some v:=hv
      have hu:cs[k]? = some cs[k]:=zW hk
      rw[gm hu]at hv
      injection hv with hv
      subst hv
      obtain⟨v',h1,h2⟩:=hc k _ hu
      exact⟨v',h1,h2.mono hle⟩
    · rw [if_neg e'] at hi
      rw[AZ _ e']at hr
      exact(h.inv.obj i o rb hi hr).mono hle rfl
  · intro i rb hr
    by_cases e':i=s.next
    · subst e'
      rw[Af]at hr
      injection hr with hr
      subst hr
      exact hb
    · rw[AZ _ e']at hr
      exact h.inv.lt i rb hr
  · intro i j oi oj ri rj _ _ hj _ _ _ hw
    rw[AU]at hj
    by_cases e':j=s.next
    · rw[if_pos e']at hj
      injection hj with hj
      subst hj
      cases hw
    · rw [if_neg e'] at hj
      rw[h.ro j oj hj]at hw
      cases hw
  · intro i o g hi hg
    rw[AU]at hi
    by_cases e':i=s.next
    · rw[if_pos e']at hi
      injection hi with hi
      subst hi
      cases hg
    · rw[if_neg e']at hi
      obtain⟨rb,hr⟩:=h.inv.glb i o g hi hg
      exact⟨rb,by rw[AZ _ e'];exact hr⟩
  · intro i hi
    have hi:s.next+1≤i:=hi
    refine⟨?_,?_⟩
    · rw[AZ _ (by omega)];exact(h.fresh i (by omega)).1
    · rw[AU,if_neg (by omega)];exact(h.fresh i (by omega)).2
  · intro i o hi
    rw[AU]at hi
    by_cases e':i=s.next
    · rw[if_pos e']at hi
      injection hi with hi
      subst hi
      rfl
    · rw[if_neg e']at hi
      exact h.ro i o hi
def KZ(P:Program)(w:World){α:Type}(p:AE→List AV→α→Prop)(cs:List Value)(ρ:BU)(s:AE):Prop:=
 ∃ρ' s' us x,Fz P w ρ' s'∧ρ.le ρ'∧Aa s.next s s'∧AW ρ' us cs∧p s' us x
theorem UA         {α : Type} {p : AE  → List AV → α → Prop} (hp : ∀ s s' us x, p s us x → Aa  s.next s s' → p s' us x) {sz b off len : Nat}
    (hel:∀i,i<len→∃cs':List Value,cs'.length=sz∧(∀j,j<sz→w.cell? ⟨b,off+i * sz+j,none⟩=cs'[j]?)∧∀ρ s,Fz P w ρ s→KZ P w p cs' ρ s):
    ∀ (m : Nat), m ≤ len → ∀ ρ s, Fz   P w ρ s → ∃ (ρ' : BU)  (s' : AE)  (us : List AV) (xs : List α), Fz   P w ρ' s' ∧ ρ.le ρ' ∧ Aa  s.next s s' ∧ us.length = m * sz ∧ xs.length = m ∧
      (∀k u,us[k]? = some u→∃v,w.cell? ⟨b,off+k,none⟩=some v∧Ae ρ' u v)∧∀ (k:Nat) (x:α),xs[k]? = some x→p s' ((us.drop (k * sz)).take sz) x:=by
  intro m
  induction m with
  | zero=>intro _ ρ s h;exact⟨ρ,s,[],[],h,BU.le_refl ρ,Aa.refl _ _,by simp,rfl,fun k u hk=>by simp at hk,fun k x hk=>by simp at hk⟩
  | succ m ih =>
    intro hm ρ s h
    obtain⟨ρ1,s1,us,xs,g1,g2,g3,g4,g5,g6,g7⟩:=ih (by omega) ρ s h
    obtain⟨cs',k1,k2,k3⟩:=hel m (by omega)
    obtain⟨ρ2,s2,vs,y,q1,q2,q3,q4,q5⟩:=k3 ρ1 s1 g1
    have hvl:vs.length=sz:=by rw[q4.length,k1]
    refine⟨ρ2,s2,us++vs,xs++[y],q1,BU.le_trans g2 q2,g3.trans (q3.mono g3.1),by rw[zg,g4,hvl,A0A,A0S],by simp[g5],fun k u hk=>?_,fun k x hk=>?_⟩
    · rcases zX           k us.length with hlt | hge
      · rw[A0Q hlt]at hk
        obtain⟨v,e1,e2⟩:=g6 k u hk
        exact⟨v,e1,e2.mono q2⟩
      · rw[A0U hge]at hk
        have hj:k - us.length<sz:=by
          rcases zX (k - us.length) vs.length with h' | h'
          · omega
          · rw[zj h']at hk;cases hk
        obtain⟨v,e1,e2⟩:=q4.get hk
        refine⟨v,?_,e2⟩
        have:=k2 (k - us.length) hj
        rw[e1]at this
        rw[show off+k=off+m * sz+(k - us.length) by omega]
        exact this
    · rcases zX           k m with hlt | hge
      · rw[A0Q (by omega)]at hk
        have:=hp s1 s2 _ _ (g7 k x hk) q3
        have hks:(k+1) * sz≤m * sz:=zq _ hlt
        rw[A0A,A0S]at hks
        rw[A1e (by omega),A1k (by rw[A0C];omega)]
        exact this
      · rw[A0U (by omega)]at hk
        have hk0:k=m:=by
          rcases zX (k - xs.length) 1 with h' | h'
          · omega
          · rw[zj (by simpa using h')]at hk;cases hk
        subst hk0
        have hxy:y=x:=by simpa[g5]using hk
        subst hxy
        rw[← g4,A1X rfl,A0V (by omega)]
        exact q5
def lE(s:AE)(a:Option (Nat×Nat))(cap:Option Nat)(n sz:Nat):Prop:=(∃c,cap=some c∧n≤c∧(a=none→c=0))∨(n=0∧cap=none∧∃i r,a=some (i,0)∧i<s.next∧s.heap.get i=some (.row r)∧r.sz=sz)
def GS{α:Type}(p:AE→List AV→α→Prop)(sz:Nat)(s:AE)(us:List AV)(xs:List α):Prop:=
 ∃a cap,us=[.slice a xs.length cap]∧xs.length≤maxLen∧lE s a cap xs.length sz∧∀ (k:Nat) (x:α),xs[k]? = some x→∃i o vs,a=some (i,o)∧i<s.next∧vs.length=sz∧(∀j u,vs[j]? = some u→DB s i (o+k * sz+j)=some u)∧p s vs x
theorem Ek          {α : Type} {p : AE  → List AV → α → Prop} (hp : ∀ s s' us x, p s us x → Aa  s.next s s' → p s' us x) {t e : TypeId} {sz : Nat} (ht : P.underlying t = some (.slice e)) (hsz : P.cellsOf e = sz) (h0 : 0 < sz)
    (hel:0<w.heap.size→∀ (n:Nat) (cs:List Value) (y:DataW H×List MemPlace),DataW.trod enc P w 0 (fun _=>true) held n e cs=some y→cs.length=sz→∀ρ s,Fz P w ρ s→KZ P w p cs ρ s)
    {fuel:Nat} {cs:List Value} {x:DataW H×List MemPlace} (h:DataW.trod enc P w 0 (fun _=>true) held fuel t cs=some x) (hw:∀a,cs=[.slice (some a) 0 0]→0<w.heap.size) {ρ:BU} {s:AE} (hd:Fz P w ρ s):KZ P w (GS p sz) cs ρ s:=by
  rcases Uo ht hsz h0 h with rfl | ⟨a,rfl⟩ | ⟨b,off,len,cap,n,rfl,h1,h2,h3,h4⟩
  · exact⟨ρ,s,[.slice none 0 (some 0)],[],hd,BU.le_refl ρ,Aa.refl _ _,.cons .sliceNil .nil,none,some 0,rfl,ze _,.inl ⟨0,rfl,zU _,fun _=>rfl⟩,fun k x hk=>by simp at hk⟩
  · obtain⟨ρ',g1,g2,g3⟩:=hd.row e sz 0 0 [] (hw a rfl) (fun k u hk=>by simp at hk)
    exact⟨ρ',_,[.slice (some (s.next,0)) 0 none],[],g1,g2,Aa.new s _,.cons (.sliceEnd g3 h0 (zU _) (by show 0<0+sz;omega)) .nil,_,_,rfl,ze _,.inr ⟨rfl,rfl,s.next,{ elem:=e,sz,n:=0,c:=Ab.fill .leaf 0 [],spare:=false,mode:=.ro,par:=none,bytes:=false },rfl,A0T _,by rw[AU,if_pos rfl];rfl,rfl⟩,fun k x hk=>by simp at hk⟩
  · obtain⟨ρ1,s1,us,xs,g1,g2,g3,g4,g5,g6,g7⟩:=UA (w:=w) (P:=P) hp (sz:=sz) (b:=b) (off:=off) (len:=len) (fun i hi=>by
      obtain⟨cs',y,q1,q2,q3⟩:=h4 i hi
      exact⟨cs',q2,q3,fun ρ s hd=>hel (by omega) n cs' y q1 q2 ρ s hd⟩) len (zU _) ρ s hd
    obtain⟨ρ2,k1,k2,k3⟩:=g1.row e sz b off us h3 g6
    have o2:Aa s1.next s1 (newObj s1 (sU e sz us)):=Aa.new s1 _
    refine⟨ρ2,_,[.slice (some (s1.next,0)) xs.length (some cap)],xs,k1,BU.le_trans g2 k2,g3.trans (o2.mono g3.1),?_,some (s1.next,0),some cap,rfl,by omega,.inl ⟨cap,rfl,by omega,fun h=>by cases h⟩,fun k x hk=>?_⟩
    · rw[g5]
      exact .cons (.slice k3 h1) .nil
    · have hkl:k<len:=by
        rcases zX k xs.length with h' | h'
        · omega
        · rw[zj h']at hk;cases hk
      have hks:(k+1) * sz≤len * sz:=zq _ hkl
      rw[A0A,A0S]at hks
      refine⟨s1.next,0,(us.drop (k * sz)).take sz,rfl,A0T _,by rw[zo,A0C];omega,fun j u hj=>?_,hp s1 _ _ _ (g7 k x hk) o2⟩
      rw[A1P]at hj
      split at hj
      · rename_i hjs
        rw[A0Z]at hj
        rw[zk]
        exact GE (r:={ elem:=e,sz,n:=us.length,c:=Ab.fill .leaf 0 us,spare:=false,mode:=.ro,par:=none,bytes:=false }) (by rw[AU,if_pos rfl];rfl) (by show k * sz+j<us.length;omega) (gm hj)
      · cases hj
end
end
end Go.Proofs.YtjnkfbpadpmakaaGreatDoor.Am
namespace Go.Proofs.YtjnkfbpadpmakaaGreatDoor.Am
open Go Go.Proofs Go.Shelf
noncomputable section
def Gj:Go.Shelf.Ren:=⟨fun | 7=>79 | 10=>121 | n=>n,fun | 23=>54 | 26=>3 | 3=>26 | 28=>93 | 0=>0 | 27=>92 | 33=>137 | 4=>4 | n=>n,fun | n=>n⟩
theorem R6:Go.Proofs.SlLaysZI.n7 Tryz.prog Gj:={
 mixed:=by kernel_rfl
 f7:=⟨Tryz.f79.name,by decide,Tryz.func79.trans (congrArg some (by kernel_rfl))⟩
 f10:=⟨Tryz.f121.name,by decide,Tryz.func121.trans (congrArg some (by kernel_rfl))⟩
 t0:=Tryz.underlying0
 a0:=Tryz.isAgg0
 z0:=Tryz.sizeOf0
 v0:=Tryz.zeroValue0
 t4:=Tryz.underlying4
 a4:=Tryz.isAgg4
 z4:=Tryz.sizeOf4
 v4:=Tryz.zeroValue4
 t23:=Tryz.underlying54
 a23:=Tryz.isAgg54
 z23:=Tryz.sizeOf54
 v23:=Tryz.zeroValue54
 t26:=Tryz.underlying3
 a26:=Tryz.isAgg3
 z26:=Tryz.sizeOf3
 v26:=Tryz.zeroValue3
 t27:=Tryz.underlying92
 a27:=Tryz.isAgg92
 z27:=Tryz.sizeOf92
 v27:=Tryz.zeroValue92
 t28:=Tryz.underlying93
 a28:=Tryz.isAgg93
 z28:=Tryz.sizeOf93
 v28:=Tryz.zeroValue93
 t33:=Tryz.underlying137
 a33:=Tryz.isAgg137
 z33:=Tryz.sizeOf137
 v33:=Tryz.zeroValue137 }
def HR:Go.Shelf.Ren:=⟨fun | 6=>78 | 8=>119 | 9=>120 | 11=>142 | 13=>144 | 12=>143 | 23=>164 | 24=>165 | 14=>155 | 15=>156 | 16=>157 | 17=>158 | 18=>159 | 19=>160 | 20=>161 | 21=>162 | 22=>163 | 25=>175 | 26=>176 | 27=>177 | 28=>178 | 29=>179 | 30=>180 | 31=>189 | n=>n,fun | 26=>3 | 28=>93 | 24=>27 | 0=>0 | 3=>3 | 37=>113 | 48=>76 | 50=>69 | 4=>4 | 40=>164 | 39=>163 | 45=>169 | 5=>5 | 9=>9 | 51=>185 | 55=>189 | 57=>199 | 58=>200 | 33=>137 | n=>n,fun | n=>n⟩
theorem MT:Go.Proofs.SlLaysZI.n6 Tryz.prog HR:={
 mixed:=by kernel_rfl
 f6:=⟨Tryz.f78.name,by decide,Tryz.func78.trans (congrArg some (by kernel_rfl))⟩
 f8:=⟨Tryz.f119.name,by decide,Tryz.func119.trans (congrArg some (by kernel_rfl))⟩
 f11:=⟨Tryz.f142.name,by decide,Tryz.func142.trans (congrArg some (by kernel_rfl))⟩
 t0:=Tryz.underlying0
 a0:=Tryz.isAgg0
 z0:=Tryz.sizeOf0
 v0:=Tryz.zeroValue0
 t24:=Tryz.underlying27
 a24:=Tryz.isAgg27
 z24:=Tryz.sizeOf27
 v24:=Tryz.zeroValue27
 t26:=Tryz.underlying3
 a26:=Tryz.isAgg3
 z26:=Tryz.sizeOf3
 v26:=Tryz.zeroValue3
 t28:=Tryz.underlying93
 a28:=Tryz.isAgg93
 z28:=Tryz.sizeOf93
 v28:=Tryz.zeroValue93
 i26:=by kernel_rfl }
def Pc:Go.Shelf.Ren:=⟨fun | 5=>120 | 8=>144 | 7=>143 | 19=>164 | 20=>165 | 10=>155 | 11=>156 | 12=>157 | 13=>158 | 14=>159 | 15=>160 | 16=>161 | 17=>162 | 18=>163 | 30=>175 | 31=>176 | 32=>177 | 33=>178 | 34=>179 | 35=>180 | 40=>189 | n=>n,fun | 23=>27 | 25=>3 | 3=>3 | 32=>113 | 22=>27 | 0=>0 | 44=>76 | 46=>69 | 4=>4 | 36=>164 | 35=>163 | 41=>169 | 5=>5 | 9=>9 | 53=>185 | 57=>189 | 63=>199 | 64=>200 | n=>n,fun | n=>n⟩
theorem R7:Go.Proofs.SlLaysM.n5 Tryz.prog Pc:={
 mixed:=by kernel_rfl
 f5:=⟨Tryz.f120.name,by decide,Tryz.func120.trans (congrArg some (by kernel_rfl))⟩
 f7:=⟨Tryz.f143.name,by decide,Tryz.func143.trans (congrArg some (by kernel_rfl))⟩
 f8:=Tryz.func144.trans (congrArg some (by kernel_rfl))
 f10:=⟨Tryz.f155.name,by decide,Tryz.func155.trans (congrArg some (by kernel_rfl))⟩
 f11:=⟨Tryz.f156.name,by decide,Tryz.func156.trans (congrArg some (by kernel_rfl))⟩
 f12:=⟨Tryz.f157.name,by decide,Tryz.func157.trans (congrArg some (by kernel_rfl))⟩
 f13:=⟨Tryz.f158.name,by decide,Tryz.func158.trans (congrArg some (by kernel_rfl))⟩
 f14:=⟨Tryz.f159.name,by decide,Tryz.func159.trans (congrArg some (by kernel_rfl))⟩
 f15:=⟨Tryz.f160.name,by decide,Tryz.func160.trans (congrArg some (by kernel_rfl))⟩
 f16:=⟨Tryz.f161.name,by decide,Tryz.func161.trans (congrArg some (by kernel_rfl))⟩
 f17:=⟨Tryz.f162.name,by decide,Tryz.func162.trans (congrArg some (by kernel_rfl))⟩
 f18:=⟨Tryz.f163.name,by decide,Tryz.func163.trans (congrArg some (by kernel_rfl))⟩
 f19:=Tryz.func164.trans (congrArg some (by kernel_rfl))
 f20:=Tryz.func165.trans (congrArg some (by kernel_rfl))
 f30:=⟨Tryz.f175.name,by decide,Tryz.func175.trans (congrArg some (by kernel_rfl))⟩
 f31:=Tryz.func176.trans (congrArg some (by kernel_rfl))
 f32:=Tryz.func177.trans (congrArg some (by kernel_rfl))
 f33:=⟨Tryz.f178.name,by decide,Tryz.func178.trans (congrArg some (by kernel_rfl))⟩
 f34:=⟨Tryz.f179.name,by decide,Tryz.func179.trans (congrArg some (by kernel_rfl))⟩
 f35:=⟨Tryz.f180.name,by decide,Tryz.func180.trans (congrArg some (by kernel_rfl))⟩
 f40:=⟨Tryz.f189.name,by decide,Tryz.func189.trans (congrArg some (by kernel_rfl))⟩
 t0:=Tryz.underlying0
 a0:=Tryz.isAgg0
 z0:=Tryz.sizeOf0
 v0:=Tryz.zeroValue0
 t3:=Tryz.underlying3
 a3:=Tryz.isAgg3
 z3:=Tryz.sizeOf3
 v3:=Tryz.zeroValue3
 t4:=Tryz.underlying4
 a4:=Tryz.isAgg4
 z4:=Tryz.sizeOf4
 v4:=Tryz.zeroValue4
 t5:=Tryz.underlying5
 a5:=Tryz.isAgg5
 z5:=Tryz.sizeOf5
 v5:=Tryz.zeroValue5
 t9:=Tryz.underlying9
 a9:=Tryz.isAgg9
 z9:=Tryz.sizeOf9
 v9:=Tryz.zeroValue9
 t22:=Tryz.underlying27
 a22:=Tryz.isAgg27
 z22:=Tryz.sizeOf27
 v22:=Tryz.zeroValue27
 t23:=Tryz.underlying27
 a23:=Tryz.isAgg27
 z23:=Tryz.sizeOf27
 v23:=Tryz.zeroValue27
 t25:=Tryz.underlying3
 a25:=Tryz.isAgg3
 z25:=Tryz.sizeOf3
 v25:=Tryz.zeroValue3
 t32:=Tryz.underlying113
 a32:=Tryz.isAgg113
 z32:=Tryz.sizeOf113
 v32:=Tryz.zeroValue113
 t35:=Tryz.underlying163
 a35:=Tryz.isAgg163
 z35:=Tryz.sizeOf163
 v35:=Tryz.zeroValue163
 t36:=Tryz.underlying164
 a36:=Tryz.isAgg164
 z36:=Tryz.sizeOf164
 v36:=Tryz.zeroValue164
 t41:=Tryz.underlying169
 a41:=Tryz.isAgg169
 z41:=Tryz.sizeOf169
 v41:=Tryz.zeroValue169
 t44:=Tryz.underlying76
 a44:=Tryz.isAgg76
 z44:=Tryz.sizeOf76
 v44:=Tryz.zeroValue76
 t46:=Tryz.underlying69
 a46:=Tryz.isAgg69
 z46:=Tryz.sizeOf69
 v46:=Tryz.zeroValue69
 t53:=Tryz.underlying185
 a53:=Tryz.isAgg185
 z53:=Tryz.sizeOf185
 v53:=Tryz.zeroValue185
 t57:=Tryz.underlying189
 a57:=Tryz.isAgg189
 z57:=Tryz.sizeOf189
 v57:=Tryz.zeroValue189
 t63:=Tryz.underlying199
 a63:=Tryz.isAgg199
 z63:=Tryz.sizeOf199
 v63:=Tryz.zeroValue199
 t64:=Tryz.underlying200
 a64:=Tryz.isAgg200
 z64:=Tryz.sizeOf200
 v64:=Tryz.zeroValue200 }
end
end Go.Proofs.YtjnkfbpadpmakaaGreatDoor.Am
