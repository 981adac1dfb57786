/- The abstract machine runs as the model does; conditions: told in 'SimOk'. -/
import Derived.LoopNIn
import Derived.Test.YtniabnfoflogaaaGreatDoorAmM03
import Derived.Maps.RangeRun
import Derived.ChangeSame
import Derived.Test.YtniabnfoflogaaaGreatDoorAmM01
import Derived.Maps.Own
import Derived.Lib.SlMapMerge
import Derived.Test.YtniabnfoflogaaaGreatDoorAmM02
import Derived.Test.YtniabnfoflogaaaGreatDoorProg
import Derived.Shelf.SlIterI.Nil
import Derived.Shelf.SlIterI.Sorted
import Derived.Shelf.SortM.Plain
import Derived.Shelf.SortM.SortNone
import Derived.Ground.GgzProg
import Derived.Ground.SlgmProg
import Derived.Lib.SlKeysI
import Derived.Test.YtniabnfoflogaaaGreatDoorChecked
set_option linter.unusedVariables false
set_option linter.unusedSimpArgs false
namespace Go.Proofs.YtniabnfoflogaaaGreatDoor.Am
open Go
noncomputable section
def Ca:Ev→Exit
 | .normal=>.normal
 | .exit id=>.exit id
 | .ret=>.ret
def E0(ρ:AX):Option Nat→Option Nat→Prop
 | none,r=>r=none
 | some l,r=>∃rb,ρ l=some rb∧r=some rb.b
theorem E0.mono{ρ ρ1:AX}{rnd r:Option Nat}(h:E0 ρ rnd r)(le:ρ.le ρ1):E0 ρ1 rnd r:=by
 cases rnd with
 | none=>exact h
 | some l=>obtain⟨rb,h1,h2⟩:=h;exact⟨rb,le _ _ h1,h2⟩
structure Cf(P:Program)(fn:Func)(ρ:AX)(s:AM)(w:World)(r:Ao)(a':Act)(w':World)(ρ':AX):Prop where
 inv:AT P ρ' r.st w'
 fresh:AR ρ' r.st
 fr:Fr ρ s w ρ' r.st w'
 vars:AP P ρ' fn r.var a'.tmps
 marks:Aa ρ' r.marks a'.defers
structure CN(P:Program)(fn:Func)(ρ:AX)(s:AM)(w:World)(var:List AV)(marks:List Nat)(rnd r:Option Nat)(a:Act):Prop where
 inv:AT P ρ s w
 fresh:AR ρ s
 vars:AP P ρ fn var a.tmps
 marks:Aa ρ marks a.defers
 rnd:E0 ρ rnd r
def B4(P:Program)(F:BN):Prop:=∀ (f:FuncId)(fn:Func)(c:Code)(rnd r:Option Nat)(var:List AV)(marks:List Nat)(s:AM)(res:Ao)(ρ:AX)(w:World)(a:Act)(Q:Exit→Act→World→Prop),
 P.funcs[f]? = some fn→F.code rnd (AJ P f fn.ntmps (AH P fn) c) var marks s=some res→CN P fn ρ s w var marks rnd r a →
 (∀a' w' ρ',Cf P fn ρ s w res a' w' ρ'→Q (Ca res.exit) a' w')→c.wpIn (Ce r) 0 P Q a w
def Ih(P:Program)(F:BN)(n:Nat):Prop:=∀ (f:FuncId)(fn:Func)(c:Code)(rnd r:Option Nat)(var:List AV)(marks:List Nat)(s:AM)(res:Ao)(ρ:AX)(w:World)(a:Act)(Q:Exit→Act→World→Prop),
 P.funcs[f]? = some fn→F.code rnd (.loop (AJ P f fn.ntmps (AH P fn) c)) var marks s=some res→CN P fn ρ s w var marks rnd r a →
 (∀a' w' ρ',Cf P fn ρ s w res a' w' ρ'→Q (Ca res.exit) a' w')→Code.roundsIn (Ce r) 0 P c Q n a w
def CO(P:Program)(call:FuncId→List AV→AM→Option (AV×AM)):Prop:=∀ (ρ:AX)(s:AM)(w:World)(f:FuncId)(aS:List AV)(v:AV)(s1:AM)(as':Array Value),
 call f aS s=some (v,s1)→AT P ρ s w→AR ρ s→AD ρ aS as'.toList →
 (∃fn c,P.funcs[f]? = some fn∧fn.body=some c)∧CallsIn Fence.wide 0 P f as' w (Cg P ρ s w v s1)
def Ba (P : Program) : Prop := ∀ (f : FuncId) (fn : Func), P.funcs[f]? = some fn → (fn.name == "runtime.NumGoroutine") = false
structure HC(P:Program)(F:BN)(n:Nat):Prop where
 code:B4 P F
 loop:Ih P F n
 call:CO P F.call
 round:∀ (ρ:AX) (s:AM) (w:World) (l:Nat) (rb:RB) (aS:List AV) (v:AV) (s1:AM) (as':Array Value),F.round l aS s=some (v,s1)→AT P ρ s w→AR ρ s→ρ l=some rb→AD ρ aS as'.toList →
  BH P ρ s w v s1 ((Instr.yield rb.b as').run P w)
section
variable{P:Program}{ρ ρ1 ρ2:AX}{s s1 s2:AM}{w w1 w2:World}
theorem Cj(hng:Ba P){f:FuncId}{fn:Func}{c:Code}(hf:P.funcs[f]? = some fn)(hb:fn.body=some c)(args:Array Value)(w:World):(callFunc f args).run P w=.ok (.enter f args) w:=by
  have h1:=hng f fn hf
  have h2 : fn.name ≠ "runtime.NumGoroutine" := by simpa using h1
  simp[callFunc,hf,h2,hb]
theorem HC.fok(hng:Ba P){F:BN}{n:Nat}(h:HC P F n):Kw P F where
 call:=fun ρ s w f aS v s1 as' hc hi hf ha=>by
  obtain⟨⟨fn,c,h1,h2⟩,h3⟩:=h.call ρ s w f aS v s1 as' hc hi hf ha
  rw[Cj hng h1 h2]
  exact .enter h3
 round:=h.round
theorem Cf.trans{fn:Func}{s1:AM}{r1 r2:Ao}{a1 a2:Act}(h1:Fr ρ s w ρ1 s1 w1)(h2:Cf P fn ρ1 s1 w1 r2 a2 w2 ρ2):Cf P fn ρ s w r2 a2 w2 ρ2:=
 ⟨h2.inv,h2.fresh,h1.trans h2.fr,h2.vars,h2.marks⟩
theorem Cf.begins{fn:Func}{r:Ao}{a1:Act}{var:List AV}{marks:List Nat}{rnd rr:Option Nat}{a:Act}(hb:CN P fn ρ s w var marks rnd rr a)(h:Cf P fn ρ s w r a1 w1 ρ1):CN P fn ρ1 r.st w1 r.var r.marks rnd rr a1:=
 ⟨h.inv,h.fresh,h.vars,h.marks,hb.rnd.mono h.fr.le⟩
theorem LZ     (hm : P.follows .mixedOrders = true) {F : BN}  (hF : Kw  P F) {fn : Func} {f : FuncId} {id : Nat} {ops : Array Oper} {draw : Bool} {r rnd : Option Nat} {var : List AV} {marks : List Nat} {s : AM}  {res : Ao}   {ρ : AX}  {w : World} {a : Act} {Q : Exit → Act → World → Prop}
    (hc:Fq F rnd (AJ P f fn.ntmps (AH P fn) (.region id ops draw)) var marks s=some res) (hb:CN P fn ρ s w var marks rnd r a)
    (hq:∀a' w' ρ',Cf P fn ρ s w res a' w' ρ'→Q (Ca res.exit) a' w'):(Code.region id ops draw).wpIn (Ce r) 0 P Q a w:=by
  have fin:∀ {items:List EP} {b:Array Nat} {l:List Nat},Bd P fn.ntmps (AH P fn) ops b draw l ⟨[],0⟩ []=some items→Fq F rnd (.ops items) var marks s=some res →
      ∃R' s',Trace P F ops fn.ntmps b draw l [] (EK (AH P fn) var) s R' s'∧res.exit=.normal∧res.marks=marks∧res.st=s'∧∃c' loc',BW (AH P fn) c' loc' res.var R':=by
    intro items b l hi hs
    simp only[Fq,Lg]at hs
    split at hs<;>first | (cases hs;done) | skip
    rename_i p hp
    injection hs with hs
    subst hs
    obtain⟨R',h1,h2⟩:=IC l ⟨[],0⟩ [] items [] var s p.1 p.2 (EK (AH P fn) var) [] hi hp (Eh hb.vars.len) .nil
    exact⟨R',p.2,h1,rfl,rfl,rfl,h2⟩
  have back:∀ {R':Af} {a':Act} {w':World} {ρ':AX},(∃c' loc',BW (AH P fn) c' loc' res.var R')→res.exit=.normal→res.marks=marks→AT P ρ' res.st w'→AR ρ' res.st→Fr ρ s w ρ' res.st w'→Bl ρ' R' a'.tmps→a'.tmps.size=a.tmps.size→a'.defers=a.defers→Q .normal a' w':=by
    intro R' a' w' ρ' ⟨c',loc',hcr⟩ he hmk h1 h2 h3 h4 h5 h6
    have:=hq a' w' ρ' ⟨h1,h2,h3,Jq hcr h4 (by rw[h5];exact hb.vars.size),by rw[hmk,h6];exact hb.marks.mono h3.le⟩
    rw[he]at this
    exact this
  cases draw with
  | false =>
    refine wpIn_region ?_
    simp only[AJ]at hc
    cases hi:Bd P fn.ntmps (AH P fn) ops #[] false (List.range ops.size) ⟨[],0⟩ []with
    | none=>rw[hi]at hc;cases hc
    | some items =>
      rw[hi]at hc
      obtain⟨R',s',h1,h2,h3,h4,h5⟩:=fin hi hc
      subst h4
      exact Jp hF h1 hb.inv hb.fresh (Cs hb.vars) hb.vars.size fun a' w' ρ' g1 g2 g3 g4 g5 g6=>back h5 h2 h3 g1 g2 g3 g4 g5 g6
  | true =>
    refine wpIn_region_any hm ?_
    simp only[AJ]at hc
    cases hpl:Bv P ops (Region.before ops) [] (LB P ops)with
    | false=>rw[hpl]at hc;cases hc
    | true =>
      rw[hpl]at hc
      simp only[AG,cond_true]at hc
      cases hi:Bd P fn.ntmps (AH P fn) ops (Region.before ops) true (LB P ops) ⟨[],0⟩ []with
      | none=>rw[hi]at hc;cases hc
      | some items =>
        rw[hi]at hc
        obtain⟨R',s',h1,h2,h3,h4,h5⟩:=fin hi hc
        subst h4
        have hd:=Fr.drawn' (ρ:=ρ) (s:=s) (w:=w) (w.drawn+1)
        exact KB hF h1 hpl (hb.inv.drawn (w.drawn+1)) hb.fresh (Cs hb.vars) hb.vars.size fun a' w' ρ' g1 g2 g3 g4 g5 g6=>back h5 h2 h3 g1 g2 (hd.trans g3) g4 g5 g6
theorem C6{l:Nat}{L:Loop}(h:w.heap[l]? = some (.loop L))(fn:FuncId)(tmps:Array Value)(ps:Array Tmp)(assign body:Code):
  (Instr.enterLoop fn tmps ps assign body (some l)).run P w =
   .ok (w.heap.size,[]) (w.alloc (.loop { state:=.ready,pending:=none,fn,tmps,params:=ps,assign,body,defers:=L.defers })):=by
 unfold Instr.enterLoop
 simp only[Sem.run_bind,run_getLoop h,run_newObj_alloc,Result.andThen,Sem.run_pure]
theorem Bu{l:Nat}{r:Ew}(h:DM s l=some r):s.heap.get l=some (.loop r):=by
 unfold DM at h
 split at h
 ·injection h with h;subst h;assumption
 ·cases h
theorem AR.new(h:AR ρ s)(o:AZ)(rb:RB):AR (Ah ρ s.next rb) (newObj s o):=by
 intro i hi
 have hi:s.next+1≤i:=hi
 have:=h i (by omega)
 exact⟨by rw[AI rb (by omega)];exact this.1,by rw[AS,if_neg (by omega)];exact this.2⟩
theorem FQ(h:AT P ρ s w){l:Nat}{r:Ew}{rb:RB}(hg:s.heap.get l=some (.loop r))(hr:ρ l=some rb){st:LoopState}{pd:Option Code}{L:Loop}(hL:w.heap[rb.b]? = some (.loop L)):
  AT P ρ (setObj s l (.loop { r with state:=st,pending:=pd })) (w.putObj rb.b (.loop { L with state:=st,pending:=pd }))∧Fr ρ s w ρ (setObj s l (.loop { r with state:=st,pending:=pd })) (w.putObj rb.b (.loop { L with state:=st,pending:=pd })):=by
 have hlt:=h.lt l rb hr
 refine h.set hg hr rfl (fun p e=>by cases e) rfl World.putObj_size (fun b hb=>World.putObj_heap_other hb) rfl rfl rfl ?_
 obtain⟨L',h0,h1,h2,h4,h5,h6,h7,h8,h9,h10⟩:=(h.obj l _ rb hg hr:Ch P ρ w r rb).ex
 rw[hL]at h0
 injection h0 with h0
 injection h0 with h0
 subst h0
 exact⟨_,World.putObj_heap_same hlt,rfl,rfl,h4,h5,h6,h7,h8,h9,h10⟩
theorem LA{r:Option Nat}{s':AM}{res:Ao}{a:Act}{Q:Exit→Act→World→Prop}{var:List AV}{marks:List Nat}{pd:Option Code}
  (hp:E4 var marks s' pd=some res) (hq:res.var=var→res.marks=marks→res.st=s'→Q (Ca res.exit) a w):
  (match (generalizing:=false) pd with
   | none=>Q .normal a w
   | some c=>c.wpIn (Ce r) 0 P Q a w):=by
 unfold E4 at hp
 split at hp<;>first | (cases hp;done) | skip
 ·injection hp with hp;subst hp;exact hq rfl rfl rfl
 ·injection hp with hp;subst hp;exact wpIn_ret (hq rfl rfl rfl)
 ·injection hp with hp;subst hp;exact wpIn_exit (hq rfl rfl rfl)
theorem Fe         (hng : Ba      P) {F : BN}  (hcall : CO     P F.call) {f : FuncId} {fn : Func} {var : List AV} {marks : List Nat} {s : AM}  {res : Ao}   {ρ : AX}  {w : World} {a : Act} {r : Option Nat} {Q : Exit → Act → World → Prop} {g : AV} {g' : Value} {ps : Array Tmp} {assign body : Code} {dfr : Nat} {rd : RB}
    (hf:P.funcs[f]? = some fn) (hc:Eo F var g ps assign body f dfr marks s=some res) (hi:AT P ρ s w) (hfr:AR ρ s) (hv:AP P ρ fn var a.tmps) (hmk:Aa ρ marks a.defers)
    (hg:AE ρ g g') (hd:ρ dfr=some rd) (fn':FuncId)
    (hq:∀w' ρ',Cf P fn ρ s w res a w' ρ'→Q (Ca res.exit) a w'):
    ∃ (d : Deferred) (f0 : FuncId) (args : Array Value), Deferred.ofValue g' #[.func (.yield w.heap.size) #[] #[]] = Pure.pure d ∧
      (∀w1,(invoke d.target d.args).run P w1=.ok (.enter f0 args) w1) ∧
      CallsIn (Ce r) 0 P f0 args (w.alloc (.loop { state:=.ready,pending:=none,fn:=fn',tmps:=a.tmps,params:=ps,assign,body,defers:=rd.b })) (rangePost (Ce r) 0 P w.heap.size Q a):=by
  let L:Loop:={ state:=.ready,pending:=none,fn:=fn',tmps:=a.tmps,params:=ps,assign,body,defers:=rd.b }
  let al:Ew:={ state:=.ready,pending:=none,fn:=f,var,params:=ps,assign,body,dfr }
  let rb:RB:=⟨w.heap.size,0,0,0⟩
  have hvi:Da P f=AH P fn:=by unfold Da;rw[hf]
  have hn0:=(hfr _ (L9 s.next)).1
  have hle:=Ab (rb:=rb) hn0
  obtain⟨hi1,hfr1⟩:=hi.new (o:=.loop al) (o':=.loop L) (rb:=rb) hn0 rfl
    ⟨L,World.alloc_heap_new w _,rfl,rfl,rfl,rfl,rfl,⟨rd,hle _ _ hd,rfl⟩,by rw[hvi];exact(hv.mono hle).rel,fun fn0 h0=>by
      have h0:P.funcs[f]? = some fn0:=h0
      rw[hf]at h0;injection h0 with h0;subst h0;exact hv.size,by rw[hvi];exact hv.len⟩
  have hff:=hfr.new (.loop al) rb
  unfold Eo F7 at hc
  simp only[L7]at hc
  obtain⟨q,hcv,r2,hl2,hend⟩:=hc
  cases hbz:KK r2.state with
  | true=>rw[hbz]at hend;cases hend
  | false =>
    rw[hbz]at hend
    simp only[cond_false]at hend
    unfold F8 at hcv
    split at hcv<;>first | (cases hcv;done) | skip
    rename_i f0 first cap
    cases hg with
    | func ha hcp =>
      rename_i x c
      obtain⟨⟨fn0,c0,k1,k2⟩,k3⟩:=hcall _ _ _ f0 _ q.1 q.2 ((x++#[.func (.yield w.heap.size) #[] #[]])++c) hcv hi1 hff (by
        simp only[Array.toList_append]
        have hy:AE (Ah ρ s.next rb) (.yield s.next) (.func (.yield w.heap.size) #[] #[]):=AE.yield (rb:=rb) (AK _ _)
        have:=(AD.mono hle ha).append ((AD.cons hy .nil).append (AD.mono hle hcp))
        simpa using this)
      refine⟨{ target:=.fn (.func f0) c,args:=x++#[.func (.yield w.heap.size) #[] #[]] },f0,_,rfl,fun w1=>?_,EU (CallsIn.mono k3 ?_)⟩
      · simp only[invoke]
        exact Cj hng k1 k2 _ _
      · intro e w3 he
        cases e with
        | panicked c=>exact he.elim
        | outgrown=>exact he.elim
        | returned v' =>
          obtain⟨ρ',_,g2,g3⟩:=he
          have hg2:=Bu hl2
          have hr2:ρ' s.next=some rb:=g3.le _ _ (AK _ _)
          obtain⟨L2,h0,h1,h2,_⟩:=(g2.obj _ _ _ hg2 hr2:Ch P ρ' w3 r2 rb).ex
          obtain⟨g4,g5⟩:=FQ g2 hg2 hr2 (st:=.exhausted) (pd:=r2.pending) h0
          have hbz':L2.state≠.busy:=by rw[h1];intro e;rw[e]at hbz;cases hbz
          refine⟨L2.pending,_,run_endLoop h0 hbz',?_⟩
          rw[h2]
          refine LA hend fun e1 e2 e3=>hq _ ρ' ?_
          have hall:=hfr1.trans (g3.trans g5)
          have hfresh:=(hff.step g3).step g5
          rw[h2.symm]at g4 g5 hall
          refine⟨?_,?_,?_,by rw[e1];exact hv.mono hall.le,by rw[e2];exact hmk.mono hall.le⟩
          · rw[e3,← h2];exact g4
          · rw[e3];exact hfresh
          · rw[e3,← h2];exact hall
end
end
end Go.Proofs.YtniabnfoflogaaaGreatDoor.Am
set_option linter.unusedVariables false
set_option linter.unusedSimpArgs false
namespace Go.Proofs.YtniabnfoflogaaaGreatDoor.Am
open Go
open Go.ChangeMaps (setBlock)
noncomputable section
mutual
theorem AE.back{ρ σ:AX}(le:ρ.le σ){v:AV}{v' v0:Value}(h:AE σ v v')(h0:AE ρ v v0):AE ρ v v':=by
 cases h with
 | bool b=>exact .bool b
 | int k n=>exact .int k n
 | str h=>exact .str h
 | ptrNil=>exact .ptrNil
 | ptr h=>cases h0 with
  | ptr k=>have:=le _ _ k;rw[h]at this;injection this with this;subst this;exact .ptr k
 | gptr g o=>exact .gptr g o
 | sliceNil=>exact .sliceNil
 | slice h hl=>cases h0 with
  | slice k _=>have:=le _ _ k;rw[h]at this;injection this with this;subst this;exact .slice k hl
 | sliceOpen h hs hl h1 h2=>cases h0 with
  | sliceOpen k _ _ _ _=>have:=le _ _ k;rw[h]at this;injection this with this;subst this;exact .sliceOpen k hs hl h1 h2
  | sliceEnd k _ _ _=>have:=le _ _ k;rw[h]at this;injection this with this;subst this;exact .sliceOpen k hs hl h1 h2
 | sliceEnd h hs h1 h2=>cases h0 with
  | sliceOpen k _ _ _ _=>have:=le _ _ k;rw[h]at this;injection this with this;subst this;exact .sliceEnd k hs h1 h2
  | sliceEnd k _ _ _=>have:=le _ _ k;rw[h]at this;injection this with this;subst this;exact .sliceEnd k hs h1 h2
 | mapNil=>exact .mapNil
 | map h=>cases h0 with
  | map k=>have:=le _ _ k;rw[h]at this;injection this with this;subst this;exact .map k
 | func ha hc=>cases h0 with
  | func ka kc=>exact .func (AD.back le ha ka) (AD.back le hc kc)
 | yield h=>cases h0 with
  | yield k=>have:=le _ _ k;rw[h]at this;injection this with this;subst this;exact .yield k
 | nilFunc=>exact .nilFunc
 | nilIface=>exact .nilIface
 | iface h=>cases h0 with
  | iface k=>exact .iface (AE.back le h k)
 | agg h=>cases h0 with
  | agg k=>exact .agg (AD.back le h k)
 | tuple h=>cases h0 with
  | tuple k=>exact .tuple (AD.back le h k)
 | any h=>exact .any h
theorem AD.back{ρ σ:AX}(le:ρ.le σ){v:List AV}{v' v0:List Value}(h:AD σ v v')(h0:AD ρ v v0):AD ρ v v':=by
 cases h with
 | nil=>exact .nil
 | cons h hs=>cases h0 with
  | cons k ks=>exact .cons (AE.back le h k) (AD.back le hs ks)
end
theorem Dy{σ:AX}{v:AV}{v':Value}(h:DV v=true)(hv:AE σ v v'):v'.cells.toList=[v']:=by
 cases hv<;>first | rfl | (cases h;done) | assumption
theorem Fi{a b:AV}(h:GO a b=true):a=b:=by
 unfold GO at h
 split at h
 ·rfl
 ·exact DF h
def GW(X B:List AV):Prop:=X.length=B.length∧∀ (j:Nat)(x:AV),X[j]? = some x→B[j]? = some x∨DV x=true∧B[j]? = some .junk
theorem GW.refl(X:List AV):GW X X:=⟨rfl,fun j x h=>.inl h⟩
theorem GW.trans{X Y Z:List AV}(h:GW X Y)(k:GW Y Z):GW X Z:=by
  refine⟨h.1.trans k.1,fun j x hx=>?_⟩
  rcases h.2 j x hx with h1 | ⟨h1,h2⟩
  · exact k.2 j x h1
  · rcases k.2 j _ h2 with h3 | ⟨_, h3⟩
    · exact .inr ⟨h1,h3⟩
    · exact .inr ⟨h1,h3⟩
theorem E7:∀ {X B:List AV},JP X B=true→GW X B
 | [],[],_=>.refl _
 | x::l,b::m,h=>by
  simp only[JP,Bool.and_eq_true]at h
  obtain⟨g1,g2⟩:=E7 h.2
  refine⟨by simp[g1],fun j y hy=>?_⟩
  cases j with
  | zero =>
   simp at hy
   subst hy
   have h1:=h.1
   simp only[Lh,Bool.or_eq_true,Bool.and_eq_true]at h1
   rcases h1 with h1 | ⟨h1,h2⟩
   ·left;simp[Fi h1]
   ·right;refine⟨h1,?_⟩;simp[← Fi h2]
  | succ j=>simpa using g2 j y (by simpa using hy)
 | [],_::_,h=>by cases h
 | _::_,[],h=>by cases h
theorem FR         : ∀ {A X B : List AV}, Gr     A X = some B → GW  A B ∧ GW  X B
  | [],[],B,h=>by injection h with h;subst h;exact⟨.refl _,.refl _⟩
  | a::l,x::m,B,h=>by
    unfold Gr at h
    simp only[L7]at h
    obtain⟨c,h1,r,h2,h3⟩:=h
    injection h3 with h3
    subst h3
    obtain⟨⟨g1,g2⟩,g3,g4⟩:=FR h2
    have hc:(c=a∨DV a=true∧c=.junk)∧(c=x∨DV x=true∧c=.junk):=by
      cases he:GO a x with
      | true=>rw[he]at h1;injection h1 with h1;exact⟨.inl h1.symm,.inl (h1.symm.trans (Fi he))⟩
      | false =>
        rw[he]at h1
        obtain⟨h4,h5⟩:=AA h1
        simp only[Bool.and_eq_true]at h4
        injection h5 with h5
        exact⟨.inr ⟨h4.1,h5.symm⟩,.inr ⟨h4.2,h5.symm⟩⟩
    refine⟨⟨by simp[g1],fun j y hy=>?_⟩,⟨by simp[g3],fun j y hy=>?_⟩⟩
    · cases j with
      | zero =>
        simp at hy
        subst hy
        rcases hc.1 with h | ⟨h,h'⟩
        · left;simp[h]
        · right;simp[h,h']
      | succ j=>simpa using g2 j y (by simpa using hy)
    · cases j with
      | zero =>
        simp at hy
        subst hy
        rcases hc.2 with h | ⟨h,h'⟩
        · left;simp[h]
        · right;simp[h,h']
      | succ j=>simpa using g4 j y (by simpa using hy)
  | [],_::_,_,h=>by cases h
  | _::_,[],_,h=>by cases h
theorem Dw:∀ {a b:List Nat},C2 a b=true→a=b
 | [],[],_=>rfl
 | a::l,b::m,h=>by
  simp only[C2,Bool.and_eq_true]at h
  rw[MA h.1,Dw h.2]
 | [],_::_,h=>by cases h
 | _::_,[],h=>by cases h
section
variable{P:Program}{ρ ρ1 ρ2:AX}{s s1 s2:AM}{w w1 w2:World}
theorem Id{fn:Func}{A X B:List AV}{t0 t1:Array Value}(h0:AP P ρ fn A t0)(h1:AP P ρ1 fn X t1)(le:ρ.le ρ1)(ha:GW A B)(hx:GW X B):AP P ρ fn B t1:=by
  refine⟨by rw[← ha.1];exact h0.len,fun t k hk=>?_,h1.size⟩
  obtain⟨_,a,k1,k2⟩:=h0.rel t k hk
  obtain⟨k3,x,k4,k5⟩:=h1.rel t k hk
  refine⟨k3,?_⟩
  rcases hx.2 k x k4 with e1 | ⟨e1,e2⟩
  · rcases ha.2 k a k1 with e3 | ⟨e3, e4⟩
    · rw[e1]at e3
      injection e3 with e3
      subst e3
      exact⟨_,e1,AE.back le k5 k2⟩
    · rw[e4]at e1
      injection e1 with e1
      subst e1
      cases k5 with
      | any h=>exact⟨_,e4,.any h⟩
  · exact⟨_,e2,.any (Dy e1 k5)⟩
theorem G9{fn:Func}{var:List AV}{tmps:Array Value}(h:AP P ρ fn var tmps){t:Tmp}{j:Nat}(hp:AN (AH P fn) t=some j){v:AV}{v':Value}(hv:AE ρ v v')(ht:t<tmps.size):AP P ρ fn (DZ v var j) (tmps.setIfInBounds t v'):=by
 refine⟨by rw[Cb,List.length_set];exact h.len,fun u k hk=>?_,by rw[Array.size_setIfInBounds];exact h.size⟩
 obtain⟨g1,x,g2,g3⟩:=h.rel u k hk
 refine⟨by rw[Array.size_setIfInBounds];exact g1,?_⟩
 have hjl:j<var.length:=by rw[h.len];exact BC hp
 by_cases e:u=t
 ·subst e
  rw[hp]at hk
  injection hk with hk
  subst hk
  exact⟨v,by rw[Cb];simp[hjl],by simpa[Array.getD_eq_getD_getElem?,ht]using hv⟩
 ·have ejk:j≠k:=fun e'=>by subst e';exact e (Cr hk hp)
  refine⟨x,by rw[Cb,List.getElem?_set_ne ejk];exact g2,?_⟩
  have:(tmps.setIfInBounds t v').getD u undef=tmps.getD u undef:=by
   simp[Array.getD_eq_getD_getElem?,Array.getElem?_setIfInBounds_ne (Ne.symm e)]
  rw[this]
  exact g3
theorem D2{fn:Func}{var:List AV}{tmps:Array Value}(h:AP P ρ fn var tmps){t:Tmp}(hp:AN (AH P fn) t=none)(v':Value):AP P ρ fn var (tmps.setIfInBounds t v'):=by
 refine⟨h.len,fun u k hk=>?_,by rw[Array.size_setIfInBounds];exact h.size⟩
 obtain⟨g1,x,g2,g3⟩:=h.rel u k hk
 refine⟨by rw[Array.size_setIfInBounds];exact g1,x,g2,?_⟩
 have e:u≠t:=fun e=>by subst e;rw[hp]at hk;cases hk
 have:(tmps.setIfInBounds t v').getD u undef=tmps.getD u undef:=by
  simp[Array.getD_eq_getD_getElem?,Array.getElem?_setIfInBounds_ne (Ne.symm e)]
 rw[this]
 exact g3
theorem GG:∀ {l:List Nat}{ds ds':List Deferred},Aa ρ l ds→Aa ρ1 l ds'→ρ.le ρ1→ds'=ds
 | [],ds,ds',h,h',_=>by
  have h:ds=[]:=h
  have h':ds'=[]:=h'
  rw[h,h']
 | i::l,ds,ds',⟨rb,d1,h1,h2,h3⟩,⟨rb',d2,k1,k2,k3⟩,le=>by
  have:=le _ _ h1
  rw[k1]at this
  injection this with this
  subst this
  rw[h2,k2,GG h3 k3 le]
theorem Er{n:Nat}{h:AC AZ}{i:Nat}{o:AZ}(hg:(frz n h).heap.get i=some o):∃o',h.get i=some o'∧LY o'=some o:=by
 unfold frz at hg
 simpa only[AC.get_mapO,L7]using hg
theorem Eq{o o':AZ}(h:LY o'=some o):wr o=false∧Br o=Br o'∧∀ {ρ:AX}{w:World}{rb:RB},Bk P ρ w o' rb→Bk P ρ w o rb:=by
 cases o' with
 | row r =>
  injection h with h
  subst h
  exact⟨rfl,rfl,fun {ρ w rb} hok=>by
   have hok:Ap ρ w r rb:=hok
   exact(show Ap ρ w { r with mode:=.ro,par:=none } rb from⟨hok.cells,hok.le,hok.sz,hok.tight,fun e=>absurd rfl e,hok.base,hok.gl,fun p e=>by cases e⟩)⟩
 | map kt es=>injection h with h;subst h;exact⟨rfl,rfl,fun hok=>hok⟩
 | mapRo kt es=>injection h with h;subst h;exact⟨rfl,rfl,fun hok=>hok⟩
 | loop l=>cases h
 | mark=>cases h
 | iter a b=>cases h
theorem AT.frz(h:AT P ρ s w)(n:Nat):AT P ρ (frz n s.heap) w:=by
 refine⟨fun i o rb hi hr=>?_,h.lt,fun i j oi oj ri rj hne hi hj hri hrj hb hw=>?_,fun i o g hi hg=>?_⟩
 ·obtain⟨o',h1,h2⟩:=Er hi
  exact(Eq h2).2.2 (h.obj i _ rb h1 hr)
 ·obtain⟨o',_,h2⟩:=Er hj
  rw[(Eq (P:=P) h2).1]at hw
  cases hw
 ·obtain⟨o',h1,h2⟩:=Er hi
  rw[(Eq (P:=P) h2).2.1]at hg
  exact h.glb i _ g h1 hg
theorem JR(Q0:Program)(n:Nat)(t:AC AZ)(b:Nat):¬ Cd ρ (frz n t) b:=by
 rintro⟨i,o,rb,h1,h2,_⟩
 obtain⟨o',_,h3⟩:=Er h1
 rw[(Eq (P:=Q0) h3).1]at h2
 cases h2
theorem AR.frz(h:AR ρ s):AR ρ (frz s.next s.heap):=fun i hi=>by
 refine⟨(h i hi).1,?_⟩
 unfold Am.frz
 simp only[AC.get_mapO]
 rw[(h i hi).2];rfl
structure Hd(w0 w:World)(bm clock:Nat)(seen:Array Nat):Prop where
 lt:w0.heap.size<w.heap.size
 old:∀b,b<w0.heap.size→w.heap[b]? = w0.heap[b]?
 os:w.os=w0.os
 tape:w.tape=w0.tape
 output:w.output=w0.output
 it:∃c0,clock≤c0∧w.heap[w0.heap.size]? = some (.mapIter (some bm) clock seen c0)
def Ac(ρ:AX)(s:AM)(w0:World):AX:=Ah ρ s.next ⟨w0.heap.size,0,0,0⟩
theorem Hd.inv{bm clock:Nat}{seen:Array Nat}(hd:Hd w w1 bm clock seen)(h:AT P ρ s w)(hf:AR ρ s):AT P (Ac ρ s w) ⟨s.next+1,s.heap⟩ w1:=by
  have hn:=hf s.next (L9 _)
  have hle:ρ.le (Ac ρ s w):=Ab hn.1
  have hr:∀i o rb,s.heap.get i=some o→Ac ρ s w i=some rb→ρ i=some rb:=fun i o rb hi hr=>by
    have:i≠s.next:=fun e=>by subst e;rw[hn.2]at hi;cases hi
    unfold Ac at hr
    rw[AI _ this]at hr
    exact hr
  refine⟨fun i o rb hi hri=>?_,fun i rb hri=>?_,fun i j oi oj ri rj hne hi hj hri hrj=>h.sep i j oi oj ri rj hne hi hj (hr i oi ri hi hri) (hr j oj rj hj hrj),fun i o g hi hg=>?_⟩
  · have hi : s.heap.get i = some o := hi
    have h1:=hr i o rb hi hri
    exact(h.obj i o rb hi h1).mono hle (hd.old _ (h.lt i rb h1))
  · unfold Ac at hri
    by_cases e:i=s.next
    · subst e
      rw[AK]at hri
      injection hri with hri
      subst hri
      exact hd.lt
    · rw[AI _ e]at hri
      have:=h.lt i rb hri
      exact Nat.lt_trans this hd.lt
  · obtain⟨rb,h1⟩:=h.glb i o g hi hg
    exact⟨rb,hle _ _ h1⟩
theorem HR(hf:AR ρ s):AR (Ac ρ s w) ⟨s.next+1,s.heap⟩:=fun i hi=>by
 have hi:s.next+1≤i:=hi
 refine⟨?_,(hf i (by omega)).2⟩
 unfold Ac
 rw[AI _ (by omega)]
 exact(hf i (by omega)).1
theorem Hd.fr{bm clock:Nat}{seen:Array Nat}(hd:Hd w w1 bm clock seen)(hf:AR ρ s):Fr ρ s w (Ac ρ s w) ⟨s.next+1,s.heap⟩ w1:=by
 have hn:=hf s.next (L9 _)
 refine⟨Ab hn.1,fun i hi ho=>?_,Nat.le_succ _,Nat.le_of_lt hd.lt,hd.os,hd.tape,hd.output,fun b hb _=>hd.old b hb,fun b hb=>?_,fun _ _ _=>rfl⟩
 ·have ho:i<s.next∨s.next+1≤i:=ho
  unfold Ac
  rw[AI _ (by omega)]
  exact hi
 ·obtain⟨i,o,rb,h1,h2,h3,h4⟩:=hb
  have h1:s.heap.get i=some o:=h1
  have:i≠s.next:=fun e=>by subst e;rw[hn.2]at h1;cases h1
  unfold Ac at h3
  rw[AI _ this]at h3
  exact .inl ⟨i,o,rb,h1,h2,h3,h4⟩
theorem Hd.step{bm clock:Nat}{seen seen':Array Nat}(hd:Hd w w1 bm clock seen){c1:Nat}(hc:clock≤c1)(hw:w2=w1∨w2=w1.drew):Hd w (setBlock w2 w.heap.size (.mapIter (some bm) clock seen' c1)) bm clock seen':=by
 have e:w2.heap=w1.heap∧w2.os=w1.os∧w2.tape=w1.tape∧w2.output=w1.output:=by
  rcases hw with rfl | rfl<;>exact⟨rfl,rfl,rfl,rfl⟩
 refine⟨?_,fun b hb=>?_,e.2.1.trans hd.os,e.2.2.1.trans hd.tape,e.2.2.2.trans hd.output,c1,hc,?_⟩
 ·show w.heap.size<(w2.heap.setIfInBounds _ _).size
  rw[Array.size_setIfInBounds,e.1]
  exact hd.lt
 ·show(w2.heap.setIfInBounds _ _)[b]? = _
  rw[Array.getElem?_setIfInBounds_ne (by omega),e.1]
  exact hd.old b hb
 ·show(w2.heap.setIfInBounds _ _)[w.heap.size]? = _
  rw[e.1]
  simp[hd.lt]
theorem Hd.round(Q0:Program){bm clock:Nat}{seen:Array Nat}(hd:Hd w w1 bm clock seen){n:Nat}{t:AC AZ}(hfr:Fr ρ (frz n t) w1 ρ1 s1 w2):Hd w w2 bm clock seen:=by
 have hk:∀b,b<w1.heap.size→w2.heap[b]? = w1.heap[b]? := fun b hb=>hfr.keep b hb (JR Q0 n t b)
 obtain⟨c0,h1,h2⟩:=hd.it
 exact⟨MB hd.lt hfr.size,fun b hb=>(hk b (Nat.lt_trans hb hd.lt)).trans (hd.old b hb),hfr.os.trans hd.os,hfr.tape.trans hd.tape,hfr.output.trans hd.output,c0,h1,(hk _ hd.lt).trans h2⟩
end
section
variable{P:Program}{ρ ρ1 ρ2:AX}{s s1 s2:AM}{w w1 w2:World}{a:Act}{ops:Array Oper}{rnd:Option Nat}{Q:Exit→Act→World→Prop}
theorem DO{i:Nat}{o:Oper}{v':Value}{w':World}{K:Act→World→Prop}(ho:ops[i]? = some o)(hg:o.guard=none)(hd:∀c,o.op≠.defer c)(hr:(execOp a.eval o).run P w=.ok (.value v') w')
  (hk:K (a.put o.dst v') w'):wpOpIn (Ce rnd) 0 P ops Q i K a w:=by
 unfold wpOpIn
 rw[ho]
 simp only
 rw[if_pos (by unfold Region.wanted;rw[hg])]
 refine⟨fun _ _=>trivial,?_⟩
 rw[Oper.semAt_eq _ _ _ hd,hr]
 exact hk
theorem Au{o:Oper}{x:Op×Tmp}(h:Bf o=some x):o.guard=none∧o.dst=some x.2∧o.op=x.1:=by
 unfold Bf at h
 split at h
 ·rename_i h1 h2
  injection h with h
  subst h
  exact⟨h1,h2,rfl⟩
 ·cases h
theorem HF{o:Op}{x:TypeId×Operand}(h:H4 o=some x):o=.load x.1 x.2:=by
 unfold H4 at h
 split at h
 ·injection h with h;subst h;rfl
 ·cases h
theorem Ge{o:Op}{x:TypeId×Tmp}(h:Gd o=some x):o=.range x.1 (.tmp x.2):=by
 unfold Gd at h
 split at h
 ·injection h with h;subst h;rfl
 ·cases h
theorem HG{o:Op}{x:Tmp}(h:H5 o=some x):o=.next (.tmp x) false:=by
 unfold H5 at h
 split at h
 ·injection h with h;subst h;rfl
 ·cases h
theorem Gc{o:Op}{x:Tmp}(h:Gb o=some x):o=.entry (.tmp x):=by
 unfold Gb at h
 split at h
 ·injection h with h;subst h;rfl
 ·cases h
theorem E2{o:Op}{x:Tmp}(h:Im o=some x):o=.extract (.tmp x) 0:=by
 unfold Im at h
 split at h
 ·injection h with h;subst h;rfl
 ·cases h
theorem H6{o:Op}{x:Tmp}(h:J1 o=some x):o=.assign (.tmp x):=by
 unfold J1 at h
 split at h
 ·injection h with h;subst h;rfl
 ·cases h
theorem DQ{l:List Oper}(h:ops.toList=l)(i:Nat):ops[i]? = l[i]? := by rw[← h];simp
theorem FY{l:List Oper}(h:ops.toList=l):ops.size=l.length:=by rw[← h];simp
structure Kx(ops:Array Oper)(ty:TypeId)(ad:Operand)(tm it:Tmp):Prop where
 ex:∃o0 o1,ops.toList=[o0,o1]∧(o0.guard=none∧o0.dst=some tm∧o0.op=.load ty ad)∧(o1.guard=none∧o1.dst=some it∧o1.op=.range ty (.tmp tm))
structure GX(ops:Array Oper)(it tn ok:Tmp):Prop where
 ex:∃o0 o1,ops.toList=[o0,o1]∧(o0.guard=none∧o0.dst=some tn∧o0.op=.next (.tmp it) false)∧(o1.guard=none∧o1.dst=some ok∧o1.op=.extract (.tmp tn) 0)
structure Ey(ops:Array Oper)(it te tk key:Tmp):Prop where
 ex:∃o0 o1 o2,ops.toList=[o0,o1,o2]∧(o0.guard=none∧o0.dst=some te∧o0.op=.entry (.tmp it))∧(o1.guard=none∧o1.dst=some tk∧o1.op=.extract (.tmp te) 0)∧(o2.guard=none∧o2.dst=some key∧o2.op=.assign (.tmp tk))
theorem G2{x:TypeId×Operand×Tmp×Tmp}(h:G1 ops.toList=some x):Kx ops x.1 x.2.1 x.2.2.1 x.2.2.2:=by
 unfold G1 at h
 split at h
 ·rename_i o0 o1 hl
  simp only[L7]at h
  obtain⟨p0,h1,p1,h2,l,h3,r,h4,h5⟩:=h
  obtain⟨h6,h7⟩:=AA h5
  simp only[Bool.and_eq_true]at h6
  injection h7 with h7
  subst h7
  obtain⟨a1,a2,a3⟩:=Au h1
  obtain⟨b1,b2,b3⟩:=Au h2
  rw[HF h3]at a3
  rw[Ge h4,← AL h6.1,← AL h6.2]at b3
  exact⟨o0,o1,hl,⟨a1,a2,a3⟩,b1,b2,b3⟩
 ·cases h
theorem G4{it:Tmp}{x:Tmp×Tmp}(h:G3 it ops.toList=some x):GX ops it x.1 x.2:=by
 unfold G3 at h
 split at h
 ·rename_i o0 o1 hl
  simp only[L7]at h
  obtain⟨p0,h1,p1,h2,l,h3,r,h4,h5⟩:=h
  obtain⟨h6,h7⟩:=AA h5
  simp only[Bool.and_eq_true]at h6
  injection h7 with h7
  subst h7
  obtain⟨a1,a2,a3⟩:=Au h1
  obtain⟨b1,b2,b3⟩:=Au h2
  rw[HG h3,AL h6.1]at a3
  rw[E2 h4,AL h6.2]at b3
  exact⟨o0,o1,hl,⟨a1,a2,a3⟩,b1,b2,b3⟩
 ·cases h
theorem F2{it:Tmp}{x:Tmp×Tmp×Tmp}(h:Fg it ops.toList=some x):Ey ops it x.1 x.2.1 x.2.2:=by
 unfold Fg at h
 split at h
 ·rename_i o0 o1 o2 hl
  simp only[L7]at h
  obtain⟨p0,h1,p1,h2,p2,h0,l,h3,r,h4,k,h8,h5⟩:=h
  obtain⟨h6,h7⟩:=AA h5
  simp only[Bool.and_eq_true]at h6
  injection h7 with h7
  subst h7
  obtain⟨a1,a2,a3⟩:=Au h1
  obtain⟨b1,b2,b3⟩:=Au h2
  obtain⟨c1,c2,c3⟩:=Au h0
  rw[Gc h3,AL h6.1]at a3
  rw[E2 h4,AL h6.2.1]at b3
  rw[H6 h8,AL h6.2.2]at c3
  exact⟨o0,o1,o2,hl,⟨a1,a2,a3⟩,⟨b1,b2,b3⟩,c1,c2,c3⟩
 ·cases h
theorem Ax{t:Tmp}{v:Value}(h:t<a.tmps.size):(a.put (some t) v).eval (.tmp t)=v:=by
 simp[Act.put,Act.eval,Array.getD_eq_getD_getElem?,h]
theorem Ha{i2:Nat}{it tn ok:Tmp}{r0:Addr}(h:GX ops it tn ok)(hit:a.eval (.tmp it)=.pointer (some r0))(htn:tn<a.tmps.size)
    (hrun:∀ty:TypeId,∃l b w',l[0]? = some b∧(Instr.next (.pointer (some r0)) false ty).run P w=.ok (.tuple l) w'∧Q .normal ((a.put (some tn) (.tuple l)).put (some ok) b) w'):
    (Code.region i2 ops false).wpIn (Ce rnd) 0 P Q a w:=by
  obtain⟨o0,o1,hl,⟨a1,a2,a3⟩,b1,b2,b3⟩:=h.ex
  obtain⟨l,b,w',h1,h2,h3⟩:=hrun o0.type
  refine wpIn_region ?_
  rw[FY hl]
  show wpOpsIn (Ce rnd) 0 P ops Q [0,1] a w
  rw[wpOpsIn_cons]
  refine DO (DQ hl 0) a1 (fun c e=>by rw[a3]at e;cases e) (v':=.tuple l) (w':=w') ?_ ?_
  · simp only[execOp,a3,hit,Sem.run_bind,h2,Result.andThen,Sem.run_pure]
  · rw [wpOpsIn_cons, a2]
    refine DO (DQ hl 1) b1 (fun c e=>by rw[b3]at e;cases e) (v':=b) (w':=w') ?_ ?_
    · simp only[execOp,b3,Ax htn,Instr.extract,h1,Sem.run_bind,Result.andThen,Sem.run_pure]
    · rw[b2]
      exact h3
theorem Gi           {i3 : Nat} {it te tk key : Tmp} {r0 : Addr} {l : Array Value} {b : Value} (h : Ey       ops it te tk key) (hit : a.eval (.tmp it) = .pointer (some r0)) (hte : te < a.tmps.size) (htk : tk < a.tmps.size)
    (hl0:l[0]? = some b) (hrun:(Instr.entry (.pointer (some r0))).run P w=.ok (.tuple l) w) (hq:Q .normal (((a.put (some te) (.tuple l)).put (some tk) b).put (some key) b) w):
    (Code.region i3 ops false).wpIn (Ce rnd) 0 P Q a w:=by
  obtain⟨o0,o1,o2,hl,⟨a1,a2,a3⟩,⟨b1,b2,b3⟩,c1,c2,c3⟩:=h.ex
  refine wpIn_region ?_
  rw[FY hl]
  show wpOpsIn (Ce rnd) 0 P ops Q [0,1,2] a w
  rw[wpOpsIn_cons]
  refine DO (DQ hl 0) a1 (fun c e=>by rw[a3]at e;cases e) (v':=.tuple l) (w':=w) ?_ ?_
  · simp only[execOp,a3,hit,Sem.run_bind,hrun,Result.andThen,Sem.run_pure]
  · rw [wpOpsIn_cons, a2]
    refine DO (DQ hl 1) b1 (fun c e=>by rw[b3]at e;cases e) (v':=b) (w':=w) ?_ ?_
    · simp only[execOp,b3,Ax hte,Instr.extract,hl0,Sem.run_bind,Result.andThen,Sem.run_pure]
    · rw [wpOpsIn_cons, b2]
      refine DO (DQ hl 2) c1 (fun c e=>by rw[c3]at e;cases e) (v':=b) (w':=w) ?_ ?_
      · simp only[execOp,c3,Ax (a:=a.put (some te) (.tuple l)) (t:=tk) (v:=b) (by rw[AW];exact htk),Sem.run_pure]
      · rw[c2]
        exact hq
structure Ii(ρi:AX)(es:Array MapEntry)(f0 f1:AV→Option (List AV))(AF:List AV):Prop where
 ex:∀e∈es.toList,∃k,AE ρi k e.key∧(∃X,f0 k=some X∧GW X AF)∧(∃X,f1 k=some X∧GW X AF)
theorem D7{id2:Nat}{e:Ev}{K:Act→World→Prop}{Q':Exit→Act→World→Prop}(h:F9 id2 e=true)(hk:K a w):Exit.inBlock id2 (Exit.then K Q') (Ca e) a w:=by
 cases e with
 | normal=>exact hk
 | exit i =>
  have:i=id2:=AL h
  show(if i=id2 then _ else _)
  rw[if_pos this]
  exact hk
 | ret=>cases h
variable{fn:Func}{A0 AF:List AV}{marks:List Nat}{bm clock:Nat}{es:Array MapEntry}{it tn ok te tk key:Tmp}{jt jok jk:Nat}
structure Jx(P:Program)(fn:Func)(it tn ok te tk key:Tmp)(jt jok jk:Nat):Prop where
 hjt:AN (AH P fn) it=some jt
 hjok:AN (AH P fn) ok=some jok
 hjk:AN (AH P fn) key=some jk
 ntn:AN (AH P fn) tn=none
 nte:AN (AH P fn) te=none
 ntk:AN (AH P fn) tk=none
 ltn:tn<fn.ntmps
 lte:te<fn.ntmps
 ltk:tk<fn.ntmps
 lok:ok<fn.ntmps
 lkey:key<fn.ntmps
 d1:jt≠jok
 d2:jt≠jk
 d3:jok≠jk
theorem JI{ρi:AX}{A:List AV}{tmps:Array Value}(hs:Jx P fn it tn ok te tk key jt jok jk)(hv:AP P ρi fn A tmps)(hj:Hy A jt=.ptr (some (s.next,0)))(hr:ρi s.next=some ⟨w.heap.size,0,0,0⟩):
  tmps.getD it undef=.pointer (some ⟨w.heap.size,0,none⟩):=by
 obtain⟨_,v,h1,h2⟩:=hv.rel it jt hs.hjt
 rw[FU h1]at hj
 subst hj
 generalize tmps.getD it undef=x at h2
 cases h2 with
 | ptr h =>
  rw[hr]at h
  injection h with h
  subst h
  rfl
theorem Jk        {F : BN}  (hcode : B4     P F) {f : FuncId} {ops2 ops3 : Array Oper} {i2 i3 idb id2 : Nat} {body : Code} {r : Ex}   (hf : P.funcs[f]? = some fn) (hs : Jx    P fn it tn ok te tk key r.jt r.jok r.jk) (h2 : GX      ops2 it tn ok) (h3 : Ey       ops3 it te tk key)
    (hi:AT P ρ s w) (hfr:AR ρ s) (hm:w.heap[bm]? = some (.map es clock)) (hst:MapKept.Stamped es clock) {rd:Option Nat} (hrnd:E0 ρ rd rnd) (hid:id2=r.id2)
    (hcov:GW A0 AF) (hA0:Hy A0 r.jt=.ptr (some (s.next,0))) (hAF:Hy AF r.jt=.ptr (some (s.next,0)))
    (hro:Ii (Ac ρ s w) es (BV F rd r (AJ P f fn.ntmps (AH P fn) body) A0 marks (frz (s.next+1) s.heap)) (BV F rd r (AJ P f fn.ntmps (AH P fn) body) AF marks (frz (s.next+1) s.heap)) AF)
    (hq:∀a' w' seen',Hd w w' bm clock seen'→AP P (Ac ρ s w) fn (DZ (.bool false) AF r.jok) a'.tmps→Aa (Ac ρ s w) marks a'.defers→Q .normal a' w'):
    ∀ (m:Nat) (A:List AV) (a:Act) (w1:World) (seen:Array Nat),(leftOf es seen).size<m→(A=AF∨A=A0∧0<(leftOf es seen).size)→Hd w w1 bm clock seen→AP P (Ac ρ s w) fn A a.tmps→Aa (Ac ρ s w) marks a.defers →
      Code.roundsIn (Ce rnd) 0 P (.seq (.region i2 ops2 false) (.seq (.cond (.tmp ok) .skip (.exit idb)) (.block id2 (.seq (.region i3 ops3 false) body)))) (Exit.inBlock idb Q) m a w1:=by
  intro m
  induction m with
  | zero=>intro A a w1 seen h;omega
  | succ m ih =>
    intro A a w1 seen hlt hA hd hv hmk
    have hlt0:bm<w.heap.size:=by
      rcases MC bm w.heap.size with h | h
      · exact h
      · simp[Array.getElem?_eq_none h]at hm
    have hn:=(hfr s.next (L9 _)).1
    have hrit:Ac ρ s w s.next=some ⟨w.heap.size,0,0,0⟩:=AK _ _
    have hjA:Hy A r.jt=.ptr (some (s.next,0)):=by rcases hA with rfl | ⟨rfl,_⟩<;>assumption
    have hit:a.eval (.tmp it)=.pointer (some ⟨w.heap.size,0,none⟩):=JI hs hv hjA hrit
    have hm1:w1.heap[bm]? = some (.map es clock):=by rw[hd.old bm hlt0];exact hm
    obtain⟨c0,hc0,hiter⟩:=hd.it
    have hst':=(MapKept.stamped_iff es clock).1 hst
    have hsz:fn.ntmps≤a.tmps.size:=hv.size
    rw[roundsIn_succ]
    refine wpIn_seq (Ha h2 hit (MB hs.ltn hsz) fun ty=>?_)
    rcases run_next_at (P:=P) w1 ty w.heap.size bm clock c0 seen es clock hiter hm1 hst'.1 hc0 with⟨hz,hrun⟩ | ⟨e,he,w2,hw2,hrun⟩
    · refine⟨_,.bool false,w1,rfl,hrun,?_⟩
      have hAF':A=AF:=by
        rcases hA with h | ⟨_,h⟩
        · exact h
        · omega
      subst hAF'
      have hv1:AP P (Ac ρ s w) fn A (a.put (some tn) (.tuple #[.bool false])).tmps:=D2 hv hs.ntn _
      have hv2:AP P (Ac ρ s w) fn (DZ (.bool false) A r.jok) ((a.put (some tn) (.tuple #[.bool false])).put (some ok) (.bool false)).tmps:=G9 hv1 hs.hjok (.bool false) (by rw[AW];exact MB hs.lok hsz)
      refine wpIn_seq (wpIn_cond (t:=false) ?_ ?_)
      · exact Ax (by rw[AW];exact MB hs.lok hsz)
      · refine wpIn_exit ?_
        show(if idb=idb then Q .normal _ _ else _)
        rw[if_pos rfl]
        exact hq _ _ _ hd hv2 (by rw[Ae,Ae];exact hmk)
    · refine⟨_,.bool true,_,rfl,hrun,?_⟩
      have LI:Hd w (setBlock w2 w.heap.size (.mapIter (some bm) clock (seen.push e.born) clock)) bm clock (seen.push e.born):=hd.step (L9 _) hw2
      have hit3:(setBlock w2 w.heap.size (.mapIter (some bm) clock (seen.push e.born) clock)).heap[w.heap.size]? = some (.mapIter (some bm) clock (seen.push e.born) clock):=by
        have e1:w2.heap=w1.heap:=by rcases hw2 with rfl | rfl<;>rfl
        have hl:=hd.lt
        show(w2.heap.setIfInBounds _ _)[w.heap.size]? = _
        rw[e1]
        simp[hl]
      generalize setBlock w2 w.heap.size (.mapIter (some bm) clock (seen.push e.born) clock)=w3 at LI hit3
      have hm3:w3.heap[bm]? = some (.map es clock):=by rw[LI.old bm hlt0];exact hm
      obtain⟨hes,_⟩:=mem_left he
      obtain⟨k,hk,hk0,hk1⟩:=hro.ex e hes
      have hround:∃X,BV F rd r (AJ P f fn.ntmps (AH P fn) body) A marks (frz (s.next+1) s.heap) k=some X∧GW X AF:=by
        rcases hA with rfl | ⟨rfl,_⟩<;>assumption
      have hcA:GW A AF:=by
        rcases hA with rfl | ⟨rfl,_⟩
        · exact .refl _
        · exact hcov
      obtain⟨X,hround,hcX⟩:=hround
      have hv1:AP P (Ac ρ s w) fn A (a.put (some tn) (.tuple #[.bool true,e.key,e.val])).tmps:=D2 hv hs.ntn _
      have hv2:AP P (Ac ρ s w) fn (DZ (.bool true) A r.jok) ((a.put (some tn) (.tuple #[.bool true,e.key,e.val])).put (some ok) (.bool true)).tmps:=G9 hv1 hs.hjok (.bool true) (by rw[AW];exact MB hs.lok hsz)
      have hjA2:Hy (DZ (.bool true) A r.jok) r.jt=.ptr (some (s.next,0)):=by rw[B6 hs.d1];exact hjA
      refine wpIn_seq (wpIn_cond (t:=true) ?_ (wpIn_skip ?_))
      · exact Ax (by rw[AW];exact MB hs.lok hsz)
      show Code.wpIn (Ce rnd) 0 P _ _ _ _
      have hmk2:Aa (Ac ρ s w) marks ((a.put (some tn) (.tuple #[.bool true,e.key,e.val])).put (some ok) (.bool true)).defers:=by rw[Ae,Ae];exact hmk
      have hsz2:fn.ntmps≤((a.put (some tn) (.tuple #[.bool true,e.key,e.val])).put (some ok) (.bool true)).tmps.size:=hv2.size
      generalize (a.put (some tn) (.tuple #[.bool true,e.key,e.val])).put (some ok) (.bool true)=a2 at hv2 hmk2 hsz2
      refine wpIn_block (wpIn_seq (Gi h3 (JI hs hv2 hjA2 hrit) (MB hs.lte hsz2) (MB hs.ltk hsz2) (l:=#[e.key,e.val]) (b:=e.key) rfl (run_entry_at w3 w.heap.size bm clock seen es clock e hit3 hm3 hes hst'.2.1) ?_))
      show Code.wpIn (Ce rnd) 0 P _ _ _ _
      have hv3:AP P (Ac ρ s w) fn (DZ k (DZ (.bool true) A r.jok) r.jk) (((a2.put (some te) (.tuple #[e.key,e.val])).put (some tk) e.key).put (some key) e.key).tmps:=by
        have g1:AP P (Ac ρ s w) fn (DZ (.bool true) A r.jok) (a2.put (some te) (.tuple #[e.key,e.val])).tmps:=D2 hv2 hs.nte _
        have g2:AP P (Ac ρ s w) fn (DZ (.bool true) A r.jok) ((a2.put (some te) (.tuple #[e.key,e.val])).put (some tk) e.key).tmps:=D2 g1 hs.ntk _
        exact G9 g2 hs.hjk hk (by rw[AW,AW];exact MB hs.lkey hsz2)
      have hmk3:Aa (Ac ρ s w) marks (((a2.put (some te) (.tuple #[e.key,e.val])).put (some tk) e.key).put (some key) e.key).defers:=by rw[Ae,Ae,Ae];exact hmk2
      generalize ((a2.put (some te) (.tuple #[e.key,e.val])).put (some tk) e.key).put (some key) e.key=a3 at hv3 hmk3
      unfold BV at hround
      simp only[L7]at hround
      obtain⟨q,hq1,hq2⟩:=hround
      obtain⟨hq3,hq4⟩:=AA hq2
      injection hq4 with hq4
      subst hq4
      simp only[Bool.and_eq_true]at hq3
      have hmkq:=Dw hq3.2
      refine hcode f fn body rd rnd _ marks (frz (s.next+1) s.heap) q (Ac ρ s w) w3 a3 _ hf hq1 ⟨(LI.inv hi hfr).frz (s.next+1),(HR hfr).frz,hv3,hmk3,hrnd.mono (Ab hn)⟩ ?_
      intro a4 w4 ρ4 g
      have hle4:=g.fr.le
      have hd4:Hd w w4 bm clock (seen.push e.born):=LI.round P (t:=s.heap) (n:=s.next+1) g.fr
      have hmg:AP P (Ac ρ s w) fn AF a4.tmps:=Id hv g.vars hle4 hcA hcX
      have hmk4:Aa (Ac ρ s w) marks a4.defers:=by
        have:=g.marks
        rw[hmkq]at this
        rw[GG hmk3 this hle4]
        exact hmk3
      subst hid
      refine D7 hq3.1 ?_
      exact ih AF a4 w4 (seen.push e.born) (by have:=left_shrinks es seen e he;omega) (.inl rfl) hd4 hmg hmk4
theorem Fl(o:Option Ex)(x y:Ay):Fk o x y=.seq x y∨∃r c,Fk o x y=.rangeMap r c∧o=some r∧C0 y=some c:=by
 unfold Fk
 cases o with
 | none=>exact .inl rfl
 | some r =>
  cases h:C0 y with
  | none=>simp[h]
  | some c=>exact .inr ⟨r,c,rfl,rfl,rfl⟩
theorem Du{g:AV→Option (List AV)}{B:List AV}:∀ {l:List (AV×AV)},Et g B l=true→∀x∈l,∃X,g x.1=some X∧GW X B
 | [],h,x,hx=>by cases hx
 | e::l,h,x,hx=>by
  unfold Et at h
  simp only[Bool.and_eq_true]at h
  rcases List.mem_cons.1 hx with rfl | hx
  ·have h1:=h.1
   cases he:g x.1 with
   | none=>rw[he]at h1;cases h1
   | some X=>rw[he]at h1;exact⟨X,rfl,E7 h1⟩
  ·exact Du h.2 x hx
theorem Ei{g:AV→Option (List AV)}:∀ {l:List (AV×AV)}{B C:List AV},G0 g B l=some C→GW B C∧∀x∈l,∃X,g x.1=some X∧GW X C
 | [],B,C,h=>by injection h with h;subst h;exact⟨.refl _,fun x hx=>by cases hx⟩
 | e::l,B,C,h=>by
  unfold G0 at h
  simp only[L7]at h
  obtain⟨X,h1,B',h2,h3⟩:=h
  obtain⟨g1,g2⟩:=FR h2
  obtain⟨g3,g4⟩:=Ei h3
  refine⟨g1.trans g3,fun x hx=>?_⟩
  rcases List.mem_cons.1 hx with rfl | hx
  ·exact⟨X,h1,g2.trans g3⟩
  ·exact g4 x hx
theorem BT.mem{l:List (AV×AV)}{l':List MapEntry}(h:BT ρ l l'):∀e∈l',∃x∈l,AE ρ x.1 e.key:=by
 induction h with
 | nil=>intro e he;cases he
 | cons hk hv hs ih =>
  intro e he
  rcases List.mem_cons.1 he with rfl | he
  ·exact⟨_,MG ..,hk⟩
  ·obtain⟨x,h1,h2⟩:=ih e he
   exact⟨x,MJ _ h1,h2⟩
theorem La     {F : BN}  (hcode : B4     P F) {f : FuncId} {c b : Code} {r : Ex}   {cb : Ay}    {rd : Option Nat} {var : List AV} {res : Ao}   (hf : P.funcs[f]? = some fn) (hr : DD    P fn.ntmps (AH     P fn) c b = some r)
    (hcb:C0 (AJ P f fn.ntmps (AH P fn) b)=some cb) (hc:LS F rd r cb var marks s=some res) (hb:CN P fn ρ s w var marks rd rnd a)
    (hq:∀a' w' ρ',Cf P fn ρ s w res a' w' ρ'→Q (Ca res.exit) a' w'):(Code.seq c b).wpIn (Ce rnd) 0 P Q a w:=by
  unfold DD at hr
  split at hr<;>first | (cases hr;done) | skip
  rename_i b i1 ops1 d1
  simp only[L7]at hr
  obtain⟨p,hp,hr⟩:=hr
  unfold Ke at hp
  split at hp<;>first | (cases hp;done) | skip
  rename_i idb i2 ops2 tc ide id2 i3 ops3 body
  obtain⟨Js,hp⟩:=AA hp
  simp only[L7]at hp
  obtain⟨h,hh,n,hn,e,he,hp⟩:=hp
  obtain⟨hg,hp⟩:=AA hp
  simp only[Bool.and_eq_true]at hg
  injection hp with hpe
  have e1:=AL hg.1
  have e2:=AL hg.2
  subst e1
  subst e2
  cases d1 with
  | true=>cases Js
  | false =>
  have H1:=G2 hh
  have H2:=G4 hn
  have H3:=F2 he
  have hcb':cb=AJ P f fn.ntmps (AH P fn) body:=by
    simp only[AJ]at hcb
    rcases Fl (DD P fn.ntmps (AH P fn) (.region i2 ops2 false) (.seq (.cond (.tmp n.2) .skip (.exit ide)) (.block id2 (.seq (.region i3 ops3 false) body)))) (AJ P f fn.ntmps (AH P fn) (.region i2 ops2 false)) (AJ P f fn.ntmps (AH P fn) (.seq (.cond (.tmp n.2) .skip (.exit ide)) (.block id2 (.seq (.region i3 ops3 false) body))))with h1 | ⟨r',c',h1,h2,_⟩
    · simp only[AJ]at h1
      rw[h1]at hcb
      rcases Fl (DD P fn.ntmps (AH P fn) (.region i3 ops3 false) body) (AJ P f fn.ntmps (AH P fn) (.region i3 ops3 false)) (AJ P f fn.ntmps (AH P fn) body)with h2 | ⟨r',c',h2,_,_⟩
      · simp only[AJ]at h2
        rw[h2]at hcb
        simp only[DD,Fk,C0]at hcb
        injection hcb with hcb
        exact hcb.symm
      · simp only[AJ]at h2
        rw[h2]at hcb
        simp only[DD,Fk,C0]at hcb
        cases hcb
    · simp only[DD,Ke]at h2
      cases h2
  subst hcb'
  clear hcb
  unfold Iu at hr
  simp only[L7]at hr
  obtain⟨ad,hx,jt,hjt,jok,hjok,jk,hjk,hr⟩:=hr
  obtain⟨g1,hr⟩:=AA hr
  obtain⟨g2,hr⟩:=AA hr
  obtain⟨g3,hr⟩:=AA hr
  injection hr with hr
  subst hpe
  simp only at hx hjt hjok hjk g1 g2 g3 hr
  simp only[Bool.and_eq_true,Option.isNone_iff_eq_none,Bool.not_eq_true']at g1 g2 g3
  have blt:∀ {x y:Nat},Nat.blt x y=true→x<y:=fun h=>Nat.le_of_ble_eq_true h
  have bne:∀ {x y:Nat},Nat.beq x y=false→x≠y:=fun h e=>by subst e;simp at h
  have hs:Jx P fn h.2.2.2 n.1 n.2 e.1 e.2.1 e.2.2 r.jt r.jok r.jk:=by
    subst hr
    exact⟨hjt,hjok,hjk,g1.2.1,g1.2.2.1,g1.2.2.2,blt g2.2.1,blt g2.2.2.1,blt g2.2.2.2.1,blt g2.2.2.2.2.2.1,blt g2.2.2.2.2.2.2,bne g3.2.1,bne g3.2.2.1,bne g3.2.2.2⟩
  have hrid:id2=r.id2:=by subst hr;rfl
  have hrad:r.ad=ad:=by subst hr;rfl
  have hrrd:∀s v,r.rd s v=Dm P s h.1 v:=by subst hr;intro s v;rfl
  clear hr
  unfold LS at hc
  simp only[L7]at hc
  obtain⟨m,hm,es,hes,hc⟩:=hc
  rw[hrrd,hrad]at hm
  unfold Ip at hc
  simp only[L7]at hc
  obtain⟨AF,hAF,hc⟩:=hc
  injection hc with hc
  subst hc
  have hents:∃i kt es',m=.map (some i)∧es=es'∧(s.heap.get i=some (.map kt es')∨s.heap.get i=some (.mapRo kt es')):=by
    unfold I5 at hes
    split at hes<;>first | (cases hes;done) | skip
    rename_i i
    split at hes<;>first | (cases hes;done) | skip
    · rename_i kt es' hget
      injection hes with hes
      exact⟨i,kt,es',rfl,hes.symm,.inl hget⟩
    · rename_i kt es' hget
      injection hes with hes
      exact⟨i,kt,es',rfl,hes.symm,.inr hget⟩
  obtain⟨i,kt,es',rfl,rfl,hget⟩:=hents
  clear hes
  obtain⟨v',hrun,hv',hdrop⟩:=FP hb.inv hm (FW hb.vars hx)
  clear hdrop
  cases hv' with
  | map hρ =>
  rename_i rb
  obtain⟨esM,clock,hM,hst,⟨l,hperm,herel⟩,_⟩:=(show ER P ρ w kt es rb from hget.elim (fun h=>hb.inv.obj i _ rb h hρ) (fun h=>hb.inv.obj i _ rb h hρ)).ex
  have hmt:∃k e,P.underlying h.1=some (.map k e):=by
    have:=g3.1
    unfold EB at this
    split at this
    · rename_i k e hu;exact⟨k,e,hu⟩
    · cases this
  obtain⟨tk,te,hmt⟩:=hmt
  have hn0:=(hb.fresh s.next (L9 _)).1
  have hle:ρ.le (Ac ρ s w):=Ab hn0
  have hrit:Ac ρ s w s.next=some ⟨w.heap.size,0,0,0⟩:=AK _ _
  obtain⟨o0,o1,hl,⟨a1,a2,a3⟩,b1,b2,b3⟩:=H1.ex
  have hsz:fn.ntmps≤a.tmps.size:=hb.vars.size
  refine wpIn_seq (wpIn_region ?_)
  rw[FY hl]
  show wpOpsIn (Ce rnd) 0 P ops1 _ [0,1] a w
  rw[wpOpsIn_cons]
  refine DO (DQ hl 0) a1 (fun c e=>by rw[a3]at e;cases e) (v':=.map (some rb.b)) (w':=w) ?_ ?_
  · simp only[execOp,a3,hrun,Sem.run_bind,Result.andThen,Sem.run_pure]
  rw[wpOpsIn_cons,a2]
  refine DO (DQ hl 1) b1 (fun c e=>by rw[b3]at e;cases e) (v':=.pointer (some ⟨w.heap.size,0,none⟩)) (w':=w.alloc (.mapIter (some rb.b) clock #[] clock)) ?_ ?_
  · simp only[execOp,b3,Ax (MB (blt g2.1) hsz),Sem.run_bind,run_range_map w h.1 tk te rb.b esM clock hmt hM,Result.andThen,Sem.run_pure]
  rw[b2]
  show Code.wpIn (Ce rnd) 0 P _ _ _ _
  have hd0:Hd w (w.alloc (.mapIter (some rb.b) clock #[] clock)) rb.b clock #[]:=
    ⟨by simp,fun b hb=>heap_alloc_old w _ hb,rfl,rfl,rfl,clock,L9 _,heap_alloc_new w _⟩
  have hv0:AP P (Ac ρ s w) fn (DZ (.ptr (some (s.next,0))) var r.jt) ((a.put (some h.2.2.1) (.map (some rb.b))).put (some h.2.2.2) (.pointer (some ⟨w.heap.size,0,none⟩))).tmps:=by
    have k1:AP P (Ac ρ s w) fn var (a.put (some h.2.2.1) (.map (some rb.b))).tmps:=D2 (hb.vars.mono hle) g1.1 _
    exact G9 k1 hs.hjt (AE.ptr (rb:=⟨w.heap.size,0,0,0⟩) (o:=0) hrit) (by rw[AW];exact MB (blt g2.2.2.2.2.1) hsz)
  have hmk0:Aa (Ac ρ s w) marks ((a.put (some h.2.2.1) (.map (some rb.b))).put (some h.2.2.2) (.pointer (some ⟨w.heap.size,0,none⟩))).defers:=by
    rw[Ae,Ae];exact hb.marks.mono hle
  generalize (a.put (some h.2.2.1) (.map (some rb.b))).put (some h.2.2.2) (.pointer (some ⟨w.heap.size,0,none⟩))=a0 at hv0 hmk0
  have hA0:Hy (DZ (.ptr (some (s.next,0))) var r.jt) r.jt=.ptr (some (s.next,0)):=Dp (by rw[hb.vars.len];exact BC hs.hjt)
  generalize hA0e:DZ (.ptr (some (s.next,0))) var r.jt=A0 at hAF hv0 hA0
  have hleft:(leftOf esM #[]).size=es.length:=by
    have:leftOf esM #[]=esM:=by unfold leftOf;simp
    rw[this,herel.length,hperm.length_eq]
    simp
  unfold Kd at hAF
  simp only[L7]at hAF
  obtain⟨A1,k1,k2⟩:=hAF
  obtain⟨k3,k4⟩:=AA k2
  injection k4 with k4
  subst k4
  simp only[Bool.and_eq_true]at k3
  have hjF:Hy A1 r.jt=.ptr (some (s.next,0)):=DF k3.2.1
  obtain⟨k5,k6⟩:=Ei k1
  have k7:=Du k3.1
  have hro:Ii (Ac ρ s w) esM (BV F rd r (AJ P f fn.ntmps (AH P fn) body) A0 marks (frz (s.next+1) s.heap)) (BV F rd r (AJ P f fn.ntmps (AH P fn) body) A1 marks (frz (s.next+1) s.heap)) A1:=by
    refine⟨fun e he=>?_⟩
    obtain⟨x,hx1,hx2⟩:=herel.mem e (hperm.mem_iff.2 he)
    exact⟨x.1,hx2.mono hle,k6 x hx1,k7 x hx1⟩
  have hA:A0=A1∨A0=A0∧0<(leftOf esM #[]).size:=by
    rw[hleft]
    cases es with
    | nil=>injection k1 with k1;exact .inl k1
    | cons x l=>exact .inr ⟨rfl,by simp⟩
  refine wpIn_block (wpIn_loop_rounds ((leftOf esM #[]).size+1) ?_)
  refine Jk hcode hf hs H2 H3 hb.inv hb.fresh hM hst hb.rnd hrid k5 hA0 hjF hro ?_ _ A0 a0 _ #[] (MW _) hA hd0 hv0 hmk0
  intro a' w' seen' hd' hv' hmk'
  exact hq a' w' (Ac ρ s w) ⟨hd'.inv hb.inv hb.fresh,HR hb.fresh,hd'.fr hb.fresh,hv',hmk'⟩
end
end
end Go.Proofs.YtniabnfoflogaaaGreatDoor.Am
set_option linter.unusedVariables false
set_option linter.unusedSimpArgs false
namespace Go.Proofs.YtniabnfoflogaaaGreatDoor.Am
open Go
noncomputable section
section
variable{P:Program}{ρ ρ1 ρ2:AX}{s s1 s2:AM}{w w1 w2:World}
theorem Kb(hng:Ba P){F:BN}(hcall:CO P F.call){f:FuncId}{fn:Func}{g:Operand}{x:CX}{ps:Array Tmp}{assign body:Code}{rnd r:Option Nat}{var:List AV}{marks:List Nat}{s:AM}{res:Ao}{ρ:AX}{w:World}{a:Act}{Q:Exit→Act→World→Prop}
    (hf:P.funcs[f]? = some fn) (hx:BY (AH P fn) ⟨[],0⟩ g=some x) (hc:H9 F rnd f (B5 [] var x) ps assign body var marks s=some res) (hb:CN P fn ρ s w var marks rnd r a)
    (hq:∀a' w' ρ',Cf P fn ρ s w res a' w' ρ'→Q (Ca res.exit) a' w'):(Code.rangeFunc g ps assign body).wpIn (Ce r) 0 P Q a w:=by
  have hgv:AE ρ (B5 [] var x) (a.eval g):=FW hb.vars hx
  have res1:∀l:Nat,(resolve a.eval (rangeCall g l) 0:Sem Deferred)=Deferred.ofValue (a.eval g) #[.func (.yield l) #[] #[]]:=by
    intro l
    simp[resolve,rangeCall,Act.eval]
  refine wpIn_rangeFunc fun fn' _=>?_
  unfold H9 at hc
  cases rnd with
  | some l =>
    simp only[L7]at hc
    obtain⟨al,hl,hc⟩:=hc
    obtain⟨rb,h1,h2⟩:=hb.rnd
    subst h2
    have hgl:=Bu hl
    obtain⟨L,h0,_,_,_,_,_,⟨rd,Js,LI⟩,_⟩:=(hb.inv.obj _ _ _ hgl h1:Ch P ρ w al rb).ex
    have hent:=C6 (P:=P) h0 fn' a.tmps ps assign body
    rw[LI]at hent
    obtain⟨d,f0,args,k1,k2,k3⟩:=Fe (r:=some rb.b) (Q:=Q) hng hcall hf hc hb.inv hb.fresh hb.vars hb.marks hgv Js fn' fun w' ρ' h=>hq a w' ρ' h
    refine⟨_,_,_,d,_,f0,args,_,hent,?_,fun _ _=>trivial,k2 _,(fun e=>by cases e),k3⟩
    rw[res1,k1]
    rfl
  | none =>
    have hr:r=none:=hb.rnd
    subst hr
    let rb:RB:=⟨w.heap.size,0,0,0⟩
    have hn0:=(hb.fresh _ (L9 s.next)).1
    have hle:=Ab (rb:=rb) hn0
    obtain⟨hi1,hfr1⟩:=hb.inv.new (o:=.mark) (o':=.deferred (some [])) (rb:=rb) hn0 rfl (World.alloc_heap_new w _)
    have hff:=hb.fresh.new .mark rb
    have Js:Ah ρ s.next rb s.next=some rb:=AK _ _
    obtain⟨d,f0,args,k1,k2,k3⟩:=Fe (r:=none) (Q:=Q) (a:={ a with defers:=[{ target:=.collected w.heap.size,args:=#[] }]++a.defers }) hng hcall hf hc hi1 hff (hb.vars.mono hle)
      ⟨rb,a.defers,Js,rfl,hb.marks.mono hle⟩ (hgv.mono hle) Js fn' fun w' ρ' h=>hq _ w' ρ' (Cf.trans (r1:=res) (a1:=a) hfr1 h)
    have hsz:(w.alloc (.deferred (some []))).heap.size=w.heap.size+1:=by simp
    rw[hsz]at k1 k3
    refine⟨_,_,_,d,_,f0,args,_,run_enterLoop_outer fn' a.tmps ps assign body,?_,fun _ _=>trivial,k2 _,(fun e=>by cases e),k3⟩
    rw[res1,k1]
    rfl
theorem JO        (hm : P.follows .mixedOrders = true) (hng : Ba      P) {F : BN}  {n : Nat} (h : HC    P F n) {call : FuncId → List AV → AM  → Option (AV × AM)}  {round : Nat → List AV → AM  → Option (AV × AM)}  : B4     P ⟨Fq    F, call, round⟩ := by
  intro f fn c
  have hF:=h.fok hng
  induction c with
  | skip =>
    intro rnd r var marks s res ρ w a Q hf hc hb hq
    injection (show some (⟨.normal,var,marks,s⟩:Ao)=some res from hc)with hc
    subst hc
    exact wpIn_skip (hq a w ρ ⟨hb.inv,hb.fresh,Fr.refl _ _ _,hb.vars,hb.marks⟩)
  | label l =>
    intro rnd r var marks s res ρ w a Q hf hc hb hq
    injection (show some (⟨.normal,var,marks,s⟩:Ao)=some res from hc)with hc
    subst hc
    exact wpIn_label (hq a w ρ ⟨hb.inv,hb.fresh,Fr.refl _ _ _,hb.vars,hb.marks⟩)
  | ret =>
    intro rnd r var marks s res ρ w a Q hf hc hb hq
    injection (show some (⟨.ret,var,marks,s⟩:Ao)=some res from hc)with hc
    subst hc
    exact wpIn_ret (hq a w ρ ⟨hb.inv,hb.fresh,Fr.refl _ _ _,hb.vars,hb.marks⟩)
  | exit id =>
    intro rnd r var marks s res ρ w a Q hf hc hb hq
    injection (show some (⟨.exit id,var,marks,s⟩:Ao)=some res from hc)with hc
    subst hc
    exact wpIn_exit (hq a w ρ ⟨hb.inv,hb.fresh,Fr.refl _ _ _,hb.vars,hb.marks⟩)
  | goto l=>intro rnd r var marks s res ρ w a Q hf hc;cases hc
  | refuse u=>intro rnd r var marks s res ρ w a Q hf hc;cases hc
  | region id ops draw =>
    intro rnd r var marks s res ρ w a Q hf hc hb hq
    exact LZ hm hF hc hb hq
  | seq x y ihx ihy =>
    intro rnd r var marks s res ρ w a Q hf hc hb hq
    have hc:Fq F rnd (Fk (DD P fn.ntmps (AH P fn) x y) (AJ P f fn.ntmps (AH P fn) x) (AJ P f fn.ntmps (AH P fn) y)) var marks s=some res:=hc
    rcases Fl (DD P fn.ntmps (AH P fn) x y) (AJ P f fn.ntmps (AH P fn) x) (AJ P f fn.ntmps (AH P fn) y)with hs | ⟨rm,cb,hs,hr1,hr2⟩
    case inr =>
      rw[hs]at hc
      exact La h.code hf hr1 hr2 hc hb hq
    rw[hs]at hc
    have hc:HJ F rnd (AJ P f fn.ntmps (AH P fn) y) (F.code rnd (AJ P f fn.ntmps (AH P fn) x) var marks s)=some res:=hc
    unfold HJ at hc
    split at hc<;>first | (cases hc;done) | skip
    rename_i r1 h1
    refine wpIn_seq (h.code f fn x rnd r var marks s r1 ρ w a _ hf h1 hb ?_)
    intro a' w' ρ' g
    unfold Iq at hc
    cases he:r1.exit with
    | normal =>
      rw[he]at hc
      refine h.code f fn y rnd r _ _ _ res ρ' w' a' Q hf hc (g.begins hb) ?_
      intro a2 w2 ρ2 g2
      exact hq a2 w2 ρ2 (Cf.trans (r1:=r1) (a1:=a') g.fr g2)
    | exit id =>
      rw[he]at hc
      injection hc with hc
      subst hc
      have:=hq a' w' ρ' g
      rw[he]at this
      exact this
    | ret =>
      rw[he]at hc
      injection hc with hc
      subst hc
      have:=hq a' w' ρ' g
      rw[he]at this
      exact this
  | cond o x y ihx ihy =>
    intro rnd r var marks s res ρ w a Q hf hc hb hq
    simp only[AJ]at hc
    cases ho:BY (AH P fn) ⟨[],0⟩ o with
    | none=>rw[ho]at hc;cases hc
    | some z =>
      rw[ho]at hc
      have hc:J2 F rnd (AJ P f fn.ntmps (AH P fn) x) (AJ P f fn.ntmps (AH P fn) y) var marks s (B5 [] var z)=some res:=hc
      have hz:=FW hb.vars ho
      unfold J2 at hc
      split at hc<;>first | (cases hc;done) | skip
      rename_i t ht
      rw[ht]at hz
      have hev:a.eval o=.bool t:=by
        generalize a.eval o=y at hz
        cases hz;rfl
      refine wpIn_cond hev ?_
      cases t with
      | true=>exact h.code f fn x rnd r var marks s res ρ w a Q hf hc hb hq
      | false=>exact h.code f fn y rnd r var marks s res ρ w a Q hf hc hb hq
  | block id c ih =>
    intro rnd r var marks s res ρ w a Q hf hc hb hq
    have hc:H8 id (F.code rnd (AJ P f fn.ntmps (AH P fn) c) var marks s)=some res:=hc
    unfold H8 at hc
    split at hc<;>first | (cases hc;done) | skip
    rename_i r1 h1
    refine wpIn_block (h.code f fn c rnd r var marks s r1 ρ w a _ hf h1 hb ?_)
    intro a' w' ρ' g
    unfold Io at hc
    split at hc
    · rename_i id' he
      rw[he]
      simp only[Ca,Exit.inBlock]
      cases hbq:Nat.beq id' id with
      | true =>
        rw[hbq]at hc
        injection hc with hc
        subst hc
        rw[if_pos (AL hbq)]
        exact hq a' w' ρ' ⟨g.inv,g.fresh,g.fr,g.vars,g.marks⟩
      | false =>
        rw[hbq]at hc
        injection hc with hc
        subst hc
        have:=hq a' w' ρ' g
        rw[he]at this
        rw[if_neg (fun e=>by subst e;simp at hbq)]
        exact this
    · rename_i hne
      injection hc with hc
      subst hc
      have:=hq a' w' ρ' g
      cases he:r1.exit with
      | normal=>rw[he]at this;exact this
      | ret=>rw[he]at this;exact this
      | exit id'=>exact absurd he (hne id')
  | loop c ih =>
    intro rnd r var marks s res ρ w a Q hf hc hb hq
    have hc:HJ F rnd (.loop (AJ P f fn.ntmps (AH P fn) c)) (F.code rnd (AJ P f fn.ntmps (AH P fn) c) var marks s)=some res:=hc
    refine wpIn_loop_rounds (n+1) ?_
    rw[roundsIn_succ]
    unfold HJ at hc
    split at hc<;>first | (cases hc;done) | skip
    rename_i r1 h1
    refine h.code f fn c rnd r var marks s r1 ρ w a _ hf h1 hb ?_
    intro a' w' ρ' g
    unfold Iq at hc
    cases he:r1.exit with
    | normal =>
      rw[he]at hc
      refine h.loop f fn c rnd r _ _ _ res ρ' w' a' Q hf hc (g.begins hb) ?_
      intro a2 w2 ρ2 g2
      exact hq a2 w2 ρ2 (Cf.trans (r1:=r1) (a1:=a') g.fr g2)
    | exit id =>
      rw[he]at hc
      injection hc with hc
      subst hc
      have:=hq a' w' ρ' g
      rw[he]at this
      exact this
    | ret =>
      rw[he]at hc
      injection hc with hc
      subst hc
      have:=hq a' w' ρ' g
      rw[he]at this
      exact this
  | scope c ih =>
    intro rnd r var marks s res ρ w a Q hf hc hb hq
    refine If (ih rnd r var marks s res ρ w a _ hf hc hb ?_)
    intro a' w' ρ' g
    have:=hq a' w' ρ' g
    cases he:res.exit with
    | normal=>rw[he]at this;exact this
    | ret=>rw[he]at this;exact this
    | exit id'=>rw[he]at this;exact this
  | rangeFunc g ps x y ihx ihy =>
    intro rnd r var marks s res ρ w a Q hf hc hb hq
    simp only[AJ]at hc
    cases ho:BY (AH P fn) ⟨[],0⟩ g with
    | none=>rw[ho]at hc;cases hc
    | some z =>
      rw[ho]at hc
      exact Kb hng h.call hf ho hc hb hq
theorem Jd{F:BN}{n:Nat}(h:HC P F n){call:FuncId→List AV→AM→Option (AV×AM)}{round:Nat→List AV→AM→Option (AV×AM)}:Ih P ⟨Fq F,call,round⟩ (n+1):=by
  intro f fn c rnd r var marks s res ρ w a Q hf hc hb hq
  have hc:HJ F rnd (.loop (AJ P f fn.ntmps (AH P fn) c)) (F.code rnd (AJ P f fn.ntmps (AH P fn) c) var marks s)=some res:=hc
  rw[roundsIn_succ]
  unfold HJ at hc
  split at hc<;>first | (cases hc;done) | skip
  rename_i r1 h1
  refine h.code f fn c rnd r var marks s r1 ρ w a _ hf h1 hb ?_
  intro a' w' ρ' g
  unfold Iq at hc
  cases he:r1.exit with
  | normal =>
    rw[he]at hc
    refine h.loop f fn c rnd r _ _ _ res ρ' w' a' Q hf hc (g.begins hb) ?_
    intro a2 w2 ρ2 g2
    exact hq a2 w2 ρ2 (Cf.trans (r1:=r1) (a1:=a') g.fr g2)
  | exit id =>
    rw[he]at hc
    injection hc with hc
    subst hc
    have:=hq a' w' ρ' g
    rw[he]at this
    exact this
  | ret =>
    rw[he]at hc
    injection hc with hc
    subst hc
    have:=hq a' w' ρ' g
    rw[he]at this
    exact this
theorem Kz{F:BN}(hcode:B4 P F){f:FuncId}{aS:List AV}{v:AV}{as':Array Value}(hc:E5 P F aS s (E6 P f)=some (v,s1))(hi:AT P ρ s w)(hfr:AR ρ s)(ha:AD ρ aS as'.toList):
  (∃fn c,P.funcs[f]? = some fn∧fn.body=some c)∧CallsIn Fence.wide 0 P f as' w (Cg P ρ s w v s1):=by
 unfold E5 at hc
 simp only[L7]at hc
 obtain⟨cf,h1,hc⟩:=hc
 unfold E6 at h1
 simp only[L7]at h1
 obtain⟨fn,h2,c,h3,h4⟩:=h1
 obtain⟨h5,h6⟩:=AA h4
 simp only[L7]at h6
 obtain⟨cr,h7,h8⟩:=h6
 injection h8 with h8
 subst h8
 simp only at hc
 cases hb:Nat.beq aS.length (A8 fn)with
 | false=>rw[hb]at hc;cases hc
 | true =>
  rw[hb]at hc
  simp only[cond_true]at hc
  refine⟨⟨fn,c,h2,h3⟩,callsIn_of_wp_marks h2 h3 trivial ?_⟩
  unfold Ir at hc
  simp only[L7]at hc
  obtain⟨res,hr,hc⟩:=hc
  have hend:I0 res.exit=true∧((Fu res.st res.marks).bind fun s=>(BL P s res.var cr).bind fun l=>some (BB l,s))=some (v,s1):=by
   cases he:I0 res.exit with
   | true=>rw[he]at hc;exact⟨rfl,hc⟩
   | false=>rw[he]at hc;cases hc
  obtain⟨he,hc⟩:=hend
  simp only[L7]at hc
  obtain⟨s2,hu,l,hl,hv⟩:=hc
  injection hv with hv
  injection hv with hv1 hv2
  subst hv1
  subst hv2
  have hvars:AP P ρ fn (Ql aS (AH P fn).length) (as'++Array.replicate (fn.ntmps - as'.size) undef):=JH ha (AL hb) (by simpa[L8]using h5)
  refine hcode f fn c none none _ [] s res ρ w _ _ h2 hr ⟨hi,hfr,hvars,rfl,rfl⟩ ?_
  intro a' w' ρ' g
  have hlv:LeavesInM Fence.wide 0 P fn a'.tmps (Cg P ρ s w (BB l) s2) a'.defers .returning w':=by
   refine Dl g.marks hu g.inv fun w2 k1 k2=>?_
   obtain⟨v',k3,k4⟩:=Ff k1 g.vars.rel h7 hl
   exact⟨v',k3,ρ',k4,k1,g.fr.trans k2⟩
  cases hx:res.exit with
  | normal=>exact hlv
  | ret=>exact hlv
  | exit id=>rw[hx]at he;cases he
theorem Kf       (hng : Ba      P) {E : Kv}  (hE : E.P = P) {F : BN}  (hcode : B4     P F) {l : Nat} {rb : RB} {aS : List AV} {v : AV} {as' : Array Value} (hc : Kl    E F l aS s = some (v, s1)) (hi : AT  P ρ s w) (hfr : AR     ρ s) (hl : ρ l = some rb) (ha : AD    ρ aS as'.toList) :
    BH P ρ s w v s1 ((Instr.yield rb.b as').run P w):=by
  unfold Kl at hc
  rw[hE]at hc
  simp only[L7]at hc
  obtain⟨al,h1,var,h2,ca,h3,cb,h4,hc⟩:=hc
  have hg:=Bu h1
  obtain⟨L,h0,_,_,e1,e2,e3,_,hrel,hsz,hlen⟩:=(hi.obj _ _ _ hg hl:Ch P ρ w al rb).ex
  unfold IB at h3 h4
  simp only[L7]at h3 h4
  obtain⟨fn,hf,h3⟩:=h3
  obtain⟨fn2,hf2,h4⟩:=h4
  rw[hf]at hf2
  injection hf2 with hf2
  subst hf2
  injection h3 with h3
  injection h4 with h4
  subst h3
  subst h4
  have hvi:Da P al.fn=AH P fn:=by unfold Da;rw[hf]
  rw[hvi]at hrel hlen h2
  obtain⟨z1,z2,z3,z4⟩:=HA (tmps:=L.tmps) h2 hrel hlen ha
  have hps:as'.size=L.params.size:=by rw[e1];simpa using z4.symm
  rw[run_yield h0 hps]
  refine .round (roundIn_of_wpIn trivial ?_)
  have hfold:(L.params.zip as').foldl (fun tmps (x:Tmp×Value)=>match x with | (t,a)=>tmps.setIfInBounds t a) L.tmps=(al.params.toList.zip as'.toList).foldl (fun tmps (p:Tmp×Value)=>tmps.setIfInBounds p.1 p.2) L.tmps:=by
    rw[← Array.foldl_toList,Array.toList_zip,e1]
  have hfold':(L.params.zip as').foldl (fun tmps (x:Tmp×Value)=>tmps.setIfInBounds x.1 x.2) L.tmps=(al.params.toList.zip as'.toList).foldl (fun tmps (p:Tmp×Value)=>tmps.setIfInBounds p.1 p.2) L.tmps:=hfold
  have hvars:AP P ρ fn var ((al.params.toList.zip as'.toList).foldl (fun tmps (p:Tmp×Value)=>tmps.setIfInBounds p.1 p.2) L.tmps):=⟨z2,z1,by rw[z3];exact hsz fn hf⟩
  unfold GM at hc
  simp only[L7]at hc
  obtain⟨q,hq1,hc⟩:=hc
  cases hn:Cl q.exit with
  | false=>rw[hn]at hc;cases hc
  | true =>
    rw[hn]at hc
    simp only[cond_true,L7]at hc
    obtain⟨r2,hr2,hc⟩:=hc
    cases hrd:I1 r2.state with
    | false=>rw[hrd]at hc;cases hc
    | true =>
      rw[hrd]at hc
      simp only[cond_true]at hc
      unfold Hl at hc
      simp only[L7]at hc
      obtain⟨q2,hq2,r3,hr3,hc⟩:=hc
      injection hc with hc
      injection hc with hv hs
      subst hv
      subst hs
      have hqn:q.exit=.normal:=by cases he:q.exit<;>rw[he]at hn<;>first | rfl | cases hn
      have hst:r2.state=.ready:=by
        cases he:r2.state<;>rw[he]at hrd<;>first | rfl | cases hrd
      rw[e2,e3]
      refine hcode al.fn fn al.assign (some l) (some rb.b) var [] s q ρ w _ _ hf hq1 ⟨hi,hfr,by first | exact hvars | (simp only[];rw[hfold];exact hvars),rfl,⟨rb,hl,rfl⟩⟩ ?_
      intro a1 w1 ρ1 g1
      rw[hqn]
      have hl1:ρ1 l=some rb:=g1.fr.le _ _ hl
      have hg2:=Bu hr2
      obtain⟨L1,k0,k1,_⟩:=(g1.inv.obj _ _ _ hg2 hl1:Ch P ρ1 w1 r2 rb).ex
      obtain⟨i2,f2⟩:=FQ g1.inv hg2 hl1 (st:=.busy) (pd:=r2.pending) k0
      refine⟨_,run_beginRound k0 (by rw[k1,hst]),?_⟩
      have hpd:L1.pending=r2.pending:=by
        obtain⟨L1',k0',_,k2',_⟩:=(g1.inv.obj _ _ _ hg2 hl1:Ch P ρ1 w1 r2 rb).ex
        rw[k0]at k0';injection k0' with k0';injection k0' with k0';subst k0';exact k2'
      have hL1:({ L1 with state:=.busy }:Loop)={ L1 with state:=.busy,pending:=r2.pending }:=by rw[← hpd]
      rw[hL1]
      have hal:({ r2 with state:=.busy }:Ew)={ r2 with state:=.busy,pending:=r2.pending }:=rfl
      refine hcode al.fn fn al.body (some l) (some rb.b) q.var q.marks _ q2 ρ1 _ a1 _ hf hq2 ⟨i2,g1.fresh.step f2,g1.vars,g1.marks,⟨rb,hl1,rfl⟩⟩ ?_
      intro a3 w3 ρ3 g3
      have hl3:ρ3 l=some rb:=g3.fr.le _ _ hl1
      have hg3:=Bu hr3
      obtain⟨L3,m0,m1,_⟩:=(g3.inv.obj _ _ _ hg3 hl3:Ch P ρ3 w3 r3 rb).ex
      have tot:=g1.fr.trans (f2.trans g3.fr)
      have fin:∀jump:Option Code,Bp q2.exit=jump→∃v w',(Instr.endRound rb.b jump).run P w3=.ok v w'∧Cg P ρ s w (.bool (Bp q2.exit).isNone) (setObj q2.st l (.loop { r3 with state:=Dz (Bp q2.exit),pending:=Bp q2.exit })) (.returned v) w':=by
        intro jump hj
        obtain⟨i4,f4⟩:=FQ g3.inv hg3 hl3 (st:=Dz jump) (pd:=jump) m0
        refine⟨_,_,run_endRound jump m0,ρ3,?_,?_,?_⟩
        · rw[hj];exact .bool _
        · rw[hj]
          have:(if jump.isNone=true then LoopState.ready else .done)=Dz jump:=by cases jump<;>rfl
          rw[this]
          exact i4
        · rw[hj]
          have:(if jump.isNone=true then LoopState.ready else .done)=Dz jump:=by cases jump<;>rfl
          rw[this]
          exact tot.trans f4
      cases he:q2.exit with
      | normal=>have:=fin none (by rw[he];rfl);rw[he]at this;exact this
      | ret=>have:=fin (some .ret) (by rw[he];rfl);rw[he]at this;exact this
      | exit id=>have:=fin (some (.exit id)) (by rw[he];rfl);rw[he]at this;exact this
theorem L6  (hm : P.follows .mixedOrders = true) (hng : Ba      P) {E : Kv}  (hE : E.P = P) (hnat : CO     P E.nat) : ∀ n, HC    P (Fh   E n) n := by
  intro n
  induction n with
  | zero =>
    refine⟨?_,?_,?_,?_⟩
    · intro f fn c rnd r var marks s res ρ w a Q hf hc;cases hc
    · intro f fn c rnd r var marks s res ρ w a Q hf hc;cases hc
    · intro ρ s w f aS v s1 as' hc;cases hc
    · intro ρ s w l rb aS v s1 as' hc;cases hc
  | succ n ih =>
    refine⟨JO hm hng ih,Jd ih,?_,?_⟩
    · intro ρ s w f aS v s1 as' hc hi hfr ha
      have hc:Kk E (Fh E n) f aS s=some (v,s1):=hc
      unfold Kk at hc
      split at hc
      · rename_i p hp
        injection hc with hc
        subst hc
        exact hnat ρ s w f aS _ _ as' hp hi hfr ha
      · rw[hE]at hc
        exact Kz ih.code hc hi hfr ha
    · intro ρ s w l rb aS v s1 as' hc hi hfr hl ha
      exact Kf hng hE ih.code hc hi hfr hl ha
end
def FS (P : Program) : Bool := P.funcs.all fun fn => !(fn.name == "runtime.NumGoroutine")
theorem FT{P:Program}(h:FS P=true):Ba P:=by
 intro f fn hf
 unfold FS at h
 rw[Array.all_eq_true_iff_forall_mem]at h
 have:=h fn (Array.mem_of_getElem? hf)
 simpa using this
def Jj:AX:=fun _=>none
def Lc:AM:=⟨0,.leaf⟩
theorem Lw(P:Program)(w:World):AT P Jj Lc w:=⟨fun i o rb _ hr=>(by cases hr),fun i rb hr=>(by cases hr),fun i j oi oj ri rj _ _ _ hr=>(by cases hr),fun i o g hi=>(by cases hi)⟩
theorem LX:AR Jj Lc:=fun i _=>⟨rfl,rfl⟩
structure Fx(W W':World):Prop where
 heap:∀b,b<W.heap.size→W'.heap[b]? = W.heap[b]?
 os:W'.os=W.os
 output:W'.output=W.output
 size:W.heap.size≤W'.heap.size
theorem K4{ρ ρ':AX}{s s':AM}{w w':World}(h:Fr ρ s w ρ' s' w')(hn:∀b,¬ Cd ρ s b):Fx w w':=
 ⟨fun b hb=>h.keep b hb (hn b),h.os,h.output,h.size⟩
theorem Jg(b:Nat):¬ Cd Jj Lc b:=fun⟨i,o,rb,hi,_⟩=>by cases hi
theorem Fx.keptBut{W W':World}(h:Fx W W')(may:MemPlace→Prop):W.keptBut W' may:=by
 refine⟨h.os,h.output,fun i hi=>?_⟩
 rw[h.heap i hi]
 have:W.heap[i]? = some W.heap[i]:=Array.getElem?_eq_getElem hi
 rw[this]
 cases W.heap[i]with
 | cells c t fr=>exact⟨rfl,rfl,rfl,fun _ _=>rfl⟩
 | map es clock=>exact .inr ⟨rfl,rfl⟩
 | _=>rfl
theorem Fx.frozen{W W':World}(h:Fx W W')(a:Addr)(ha:a.block<W.heap.size):W'.frozen? a=W.frozen? a:=by simp[World.frozen?,h.heap _ ha]
section
open Go.ChangeShapes Go.WideShapes
theorem post_of_kept{H:Type}{enc:TypeId×Value→H}{P:Program}{f:Func}{s:ChangeSpec}{apart fresh handsOn again:Bool}{W W':World}{args:Array Value}{v:Value}{ds gs:List (DataW H)}{before pa pv:List MemPlace}
  (hW:DataW.Whole enc P f.params.toList s.vars apart W args.toList ds gs before)
  (hres:∀ (b:Nat) (sp:Nat→Bool) (hd:Bool),DataW.TrodAll enc P W' b sp hd f.resultTypes.toList (v.resultList f.resultTypes.size) (s.fn H (ds++gs)).results [])
  (hargs:∀sp:Nat→Bool,(∀p∈before,sp p.block=true)→DataW.TrodAll enc P W' 0 sp true f.params.toList args.toList (s.fn H (ds++gs)).args pa)
  (hvars:∀sp:Nat→Bool,(∀p∈before,sp p.block=true)→DataW.TrodVars enc P W' sp s.vars (s.fn H (ds++gs)).vars pv)
  (hps:before=pa++pv) (hk:Fx W W')
  (hok:∀ (j:Nat) (t:TypeId) (r:Value),f.resultTypes[j]? = some t→(v.resultList f.resultTypes.size)[j]? = some r→Value.okWide P W' .any 0 t r):
  s.post enc P f apart fresh handsOn again W args v W':=by
 have hold:∀p∈before,(fun b=>decide (b<W.heap.size)) p.block=true:=fun p hp=>by simpa using hW.lt p hp
 refine⟨ds,gs,before,[],pa,pv,hW,hres _ _ _,hargs _ hold,hvars _ hold,World.keptBut_mono (fun p hp=>⟨hp,?_⟩) (hk.keptBut _),fun _=>?_⟩
 ·rw[hps,List.mem_append]at hp
  exact Or.inr hp
 ·have hlt:=hW.lt
  obtain⟨_,_,_,_,_,hz,hn⟩:=hW
  refine⟨hok,_,_,([]++pa)++pv,⟨[]++pa,pv,trodAll_append (hargs _ (fun _ _=>rfl)) (hres _ _ _),hvars _ (fun _ _=>rfl),rfl,?_,?_⟩,?_⟩
  ·intro b off hp
   have hp':MemPlace.cell b off∈before:=by rw[hps];simpa using hp
   rw[hk.frozen _ (hlt _ hp')]
   exact hz b off hp'
  ·intro ha
   have:=hn ha
   rw[hps]at this
   simpa using this
  ·intro p hp _
   rw[hps]
   simpa using hp
end
def i64(n:Int):Prop:=-9223372036854775808≤n∧n<9223372036854775808
section
variable(P:Program)(t:TypeId)(a b:Int)
end
section
variable{P:Program}{ρ ρ1 ρ2:AX}{s s1 s2:AM}{w w1 w2:World}
open Classical in
def Rv(v:Value):Option (DataW Value×List MemPlace):=some (.held v,[])
def LG(P:Program)(kt:TypeId)(es:Array MapEntry):Prop:=∀e∈es.toList,∃l,keyOf P kt e.key=some l
theorem LW{kt:TypeId}{es:Array MapEntry}{clock:Nat}(hst:MapKept.Stamped es clock)(hty:LG P kt es)(hsz:es.size≤maxLen):WideElems.Fit P kt Rv es clock:=
 ⟨hsz,hst,fun x hx=>let ⟨l,hl⟩:=hty x hx;⟨(l,.held x.val),by simp[WideElems.rd,hl,Rv]⟩⟩
theorem K9{kt:TypeId}{es:Array MapEntry}{clock b:Nat}(hb:w.heap[b]? = some (.map es clock))(hst:MapKept.Stamped es clock)(hty:LG P kt es)(hsz:es.size≤maxLen):
  w.ownsMap P kt Rv b es.size (DataW.map ((es.toList.map (WideElems.rg P kt Rv)).foldr DataW.insert [])):=⟨es,clock,hb,LW hst hty hsz,L9 _,rfl⟩
theorem Ln{kt:TypeId}{e:MapEntry}{l:Lit}(h:keyOf P kt e.key=some l):WideElems.rg P kt Rv e=(l,.held e.val):=by simp[WideElems.rg,WideElems.rd,h,Rv]
end
section
variable{P:Program}{ρ ρ1 ρ2:AX}{s s1 s2:AM}{w w1 w2:World}
theorem AT.grown(h:AT P ρ s w)(hgr:w.grownBy w1 none):AT P ρ s w1∧Fr ρ s w ρ s w1:=by
 refine⟨⟨fun i o rb hi hr=>(h.obj i o rb hi hr).mono (AX.le_refl ρ) (hgr.block _ (h.lt i rb hr) (fun e=>by cases e)),fun i rb hr=>MB (h.lt i rb hr) hgr.size,h.sep,h.glb⟩,
  ⟨AX.le_refl ρ,fun _ h _=>h,L9 _,hgr.size,hgr.os,hgr.tape,hgr.output,fun b hb _=>hgr.block b hb (fun e=>by cases e),fun b hb=>.inl hb,fun _ _ _=>rfl⟩⟩
open Go.Maps in
open Go.Maps in
end
def HP:AV→Bool
 | .bool _ | .int _ _ | .str _=>true
 | .ptr none | .map none | .nilFunc | .nilIface=>true
 | .slice none n c=>Nat.beq n 0 && (match c with | some 0=>true | _=>false)
 | _=>false
def D9:List AV→Bool
 | []=>true
 | .agg cs::l=>cs.all HP && D9 l
 | v::l=>HP v && D9 l
theorem D8{ρ σ:AX}{v:AV}{v':Value}(h:HP v=true)(hr:AE ρ v v'):AE σ v v':=by
 cases hr with
 | bool b=>exact .bool b
 | int k n=>exact .int k n
 | str hs=>exact .str hs
 | ptrNil=>exact .ptrNil
 | sliceNil=>exact .sliceNil
 | mapNil=>exact .mapNil
 | nilFunc=>exact .nilFunc
 | nilIface=>exact .nilIface
 | _=>cases h
theorem Fc{ρ σ:AX}:∀ {l:List AV}{l':List Value},l.all HP=true→AD ρ l l'→AD σ l l'
 | [],_,_,h=>by cases h;exact .nil
 | v::l,_,hp,h=>by
  cases h with
  | cons h1 h2 =>
   simp only[List.all_cons,Bool.and_eq_true]at hp
   exact .cons (D8 hp.1 h1) (Fc hp.2 h2)
theorem DH         {ρ σ : AX}  : ∀ {l : List AV} {l' : List Value}, D9     l = true → AD    ρ l l' → AD    σ l l'
  | [],_,_,h=>by cases h;exact .nil
  | v::l,_,hp,h=>by
    cases h with
    | cons h1 h2 =>
      cases v with
      | agg cs =>
        simp only[D9,Bool.and_eq_true]at hp
        cases h1 with
        | agg h1=>exact .cons (.agg (Fc hp.1 h1)) (DH hp.2 h2)
      | _ =>
        simp only[D9,Bool.and_eq_true]at hp
        exact .cons (D8 hp.1 h1) (DH hp.2 h2)
structure Row where
 f:FuncId
 args:List AV
 res:AV
def Ix:List Row→FuncId→List AV→Option AV
 | [],_,_=>none
 | r::l,f,xs=>bif Nat.beq r.f f && Hx.eqAs r.args xs then some r.res else Ix l f xs
def LO(v:AV):Option (AV×AM)→Bool
 | some (u,_)=>Hx v u
 | none=>false
theorem FD:∀ {T:List Row}{f:FuncId}{xs:List AV}{v:AV},Ix T f xs=some v→∃r∈T,r.f=f∧r.args=xs∧r.res=v
 | [],_,_,_,h=>by cases h
 | r::T,f,xs,v,h=>by
  unfold Ix at h
  cases hb:Nat.beq r.f f && Hx.eqAs r.args xs with
  | true =>
   rw[hb]at h
   injection h with h
   simp only[Bool.and_eq_true]at hb
   exact⟨r,MG,MA hb.1,CQ hb.2,h⟩
  | false =>
   rw[hb]at h
   obtain⟨q,h1,h2⟩:=FD h
   exact⟨q,MJ _ h1,h2⟩
section
variable{P:Program}{ρ ρ1 ρ2:AX}{s s1 s2:AM}{w w1 w2:World}
end
end
end Go.Proofs.YtniabnfoflogaaaGreatDoor.Am
namespace Go.Proofs.YtniabnfoflogaaaGreatDoor.Am
open Go Go.Proofs Go.Shelf
noncomputable section
def CU:Go.Shelf.Ren:=⟨fun | 7=>60 | 10=>86 | n=>n,fun | 23=>105 | 26=>3 | 3=>107 | 28=>60 | 0=>0 | 27=>59 | 33=>45 | 4=>4 | n=>n,fun | n=>n⟩
theorem HV:Go.Proofs.SlLaysZI.n7 Tryz.prog CU:={
 mixed:=by kernel_rfl
 f7:=⟨Tryz.f60.name,by decide,Tryz.func60.trans (congrArg some (by kernel_rfl))⟩
 f10:=⟨Tryz.f86.name,by decide,Tryz.func86.trans (congrArg some (by kernel_rfl))⟩
 t0:=Tryz.underlying0
 a0:=Tryz.isAgg0
 z0:=Tryz.sizeOf0
 v0:=Tryz.zeroValue0
 t4:=Tryz.underlying4
 a4:=Tryz.isAgg4
 z4:=Tryz.sizeOf4
 v4:=Tryz.zeroValue4
 t23:=Tryz.underlying105
 a23:=Tryz.isAgg105
 z23:=Tryz.sizeOf105
 v23:=Tryz.zeroValue105
 t26:=Tryz.underlying3
 a26:=Tryz.isAgg3
 z26:=Tryz.sizeOf3
 v26:=Tryz.zeroValue3
 t27:=Tryz.underlying59
 a27:=Tryz.isAgg59
 z27:=Tryz.sizeOf59
 v27:=Tryz.zeroValue59
 t28:=Tryz.underlying60
 a28:=Tryz.isAgg60
 z28:=Tryz.sizeOf60
 v28:=Tryz.zeroValue60
 t33:=Tryz.underlying45
 a33:=Tryz.isAgg45
 z33:=Tryz.sizeOf45
 v33:=Tryz.zeroValue45 }
def Co:Go.Shelf.Ren:=⟨fun | 6=>59 | 8=>85 | 9=>65 | 11=>100 | 13=>88 | 12=>93 | 23=>110 | 24=>111 | 14=>113 | 15=>114 | 16=>115 | 17=>116 | 18=>117 | 19=>118 | 20=>119 | 21=>120 | 22=>121 | 25=>135 | 26=>129 | 27=>130 | 28=>136 | 29=>137 | 30=>138 | 31=>150 | n=>n,fun | 26=>3 | 28=>60 | 24=>25 | 0=>0 | 3=>3 | 37=>145 | 48=>164 | 50=>166 | 4=>4 | 40=>157 | 39=>156 | 45=>89 | 5=>5 | 9=>9 | 51=>182 | 55=>186 | 57=>201 | 58=>202 | 33=>45 | n=>n,fun | n=>n⟩
theorem FM:Go.Proofs.SlLaysZI.n6 Tryz.prog Co:={
 mixed:=by kernel_rfl
 f6:=⟨Tryz.f59.name,by decide,Tryz.func59.trans (congrArg some (by kernel_rfl))⟩
 f8:=⟨Tryz.f85.name,by decide,Tryz.func85.trans (congrArg some (by kernel_rfl))⟩
 f11:=⟨Tryz.f100.name,by decide,Tryz.func100.trans (congrArg some (by kernel_rfl))⟩
 t0:=Tryz.underlying0
 a0:=Tryz.isAgg0
 z0:=Tryz.sizeOf0
 v0:=Tryz.zeroValue0
 t24:=Tryz.underlying25
 a24:=Tryz.isAgg25
 z24:=Tryz.sizeOf25
 v24:=Tryz.zeroValue25
 t26:=Tryz.underlying3
 a26:=Tryz.isAgg3
 z26:=Tryz.sizeOf3
 v26:=Tryz.zeroValue3
 t28:=Tryz.underlying60
 a28:=Tryz.isAgg60
 z28:=Tryz.sizeOf60
 v28:=Tryz.zeroValue60
 i26:=by kernel_rfl }
def Gp:Go.Shelf.Ren:=⟨fun | 5=>65 | 8=>88 | 7=>93 | 19=>110 | 20=>111 | 10=>113 | 11=>114 | 12=>115 | 13=>116 | 14=>117 | 15=>118 | 16=>119 | 17=>120 | 18=>121 | 30=>135 | 31=>129 | 32=>130 | 33=>136 | 34=>137 | 35=>138 | 40=>150 | n=>n,fun | 23=>25 | 25=>3 | 3=>3 | 32=>145 | 22=>25 | 0=>0 | 44=>164 | 46=>166 | 4=>4 | 36=>157 | 35=>156 | 41=>89 | 5=>5 | 9=>9 | 53=>182 | 57=>186 | 63=>201 | 64=>202 | n=>n,fun | n=>n⟩
theorem HW:Go.Proofs.SlLaysM.n5 Tryz.prog Gp:={
 mixed:=by kernel_rfl
 f5:=⟨Tryz.f65.name,by decide,Tryz.func65.trans (congrArg some (by kernel_rfl))⟩
 f7:=⟨Tryz.f93.name,by decide,Tryz.func93.trans (congrArg some (by kernel_rfl))⟩
 f8:=Tryz.func88.trans (congrArg some (by kernel_rfl))
 f10:=⟨Tryz.f113.name,by decide,Tryz.func113.trans (congrArg some (by kernel_rfl))⟩
 f11:=⟨Tryz.f114.name,by decide,Tryz.func114.trans (congrArg some (by kernel_rfl))⟩
 f12:=⟨Tryz.f115.name,by decide,Tryz.func115.trans (congrArg some (by kernel_rfl))⟩
 f13:=⟨Tryz.f116.name,by decide,Tryz.func116.trans (congrArg some (by kernel_rfl))⟩
 f14:=⟨Tryz.f117.name,by decide,Tryz.func117.trans (congrArg some (by kernel_rfl))⟩
 f15:=⟨Tryz.f118.name,by decide,Tryz.func118.trans (congrArg some (by kernel_rfl))⟩
 f16:=⟨Tryz.f119.name,by decide,Tryz.func119.trans (congrArg some (by kernel_rfl))⟩
 f17:=⟨Tryz.f120.name,by decide,Tryz.func120.trans (congrArg some (by kernel_rfl))⟩
 f18:=⟨Tryz.f121.name,by decide,Tryz.func121.trans (congrArg some (by kernel_rfl))⟩
 f19:=Tryz.func110.trans (congrArg some (by kernel_rfl))
 f20:=Tryz.func111.trans (congrArg some (by kernel_rfl))
 f30:=⟨Tryz.f135.name,by decide,Tryz.func135.trans (congrArg some (by kernel_rfl))⟩
 f31:=Tryz.func129.trans (congrArg some (by kernel_rfl))
 f32:=Tryz.func130.trans (congrArg some (by kernel_rfl))
 f33:=⟨Tryz.f136.name,by decide,Tryz.func136.trans (congrArg some (by kernel_rfl))⟩
 f34:=⟨Tryz.f137.name,by decide,Tryz.func137.trans (congrArg some (by kernel_rfl))⟩
 f35:=⟨Tryz.f138.name,by decide,Tryz.func138.trans (congrArg some (by kernel_rfl))⟩
 f40:=⟨Tryz.f150.name,by decide,Tryz.func150.trans (congrArg some (by kernel_rfl))⟩
 t0:=Tryz.underlying0
 a0:=Tryz.isAgg0
 z0:=Tryz.sizeOf0
 v0:=Tryz.zeroValue0
 t3:=Tryz.underlying3
 a3:=Tryz.isAgg3
 z3:=Tryz.sizeOf3
 v3:=Tryz.zeroValue3
 t4:=Tryz.underlying4
 a4:=Tryz.isAgg4
 z4:=Tryz.sizeOf4
 v4:=Tryz.zeroValue4
 t5:=Tryz.underlying5
 a5:=Tryz.isAgg5
 z5:=Tryz.sizeOf5
 v5:=Tryz.zeroValue5
 t9:=Tryz.underlying9
 a9:=Tryz.isAgg9
 z9:=Tryz.sizeOf9
 v9:=Tryz.zeroValue9
 t22:=Tryz.underlying25
 a22:=Tryz.isAgg25
 z22:=Tryz.sizeOf25
 v22:=Tryz.zeroValue25
 t23:=Tryz.underlying25
 a23:=Tryz.isAgg25
 z23:=Tryz.sizeOf25
 v23:=Tryz.zeroValue25
 t25:=Tryz.underlying3
 a25:=Tryz.isAgg3
 z25:=Tryz.sizeOf3
 v25:=Tryz.zeroValue3
 t32:=Tryz.underlying145
 a32:=Tryz.isAgg145
 z32:=Tryz.sizeOf145
 v32:=Tryz.zeroValue145
 t35:=Tryz.underlying156
 a35:=Tryz.isAgg156
 z35:=Tryz.sizeOf156
 v35:=Tryz.zeroValue156
 t36:=Tryz.underlying157
 a36:=Tryz.isAgg157
 z36:=Tryz.sizeOf157
 v36:=Tryz.zeroValue157
 t41:=Tryz.underlying89
 a41:=Tryz.isAgg89
 z41:=Tryz.sizeOf89
 v41:=Tryz.zeroValue89
 t44:=Tryz.underlying164
 a44:=Tryz.isAgg164
 z44:=Tryz.sizeOf164
 v44:=Tryz.zeroValue164
 t46:=Tryz.underlying166
 a46:=Tryz.isAgg166
 z46:=Tryz.sizeOf166
 v46:=Tryz.zeroValue166
 t53:=Tryz.underlying182
 a53:=Tryz.isAgg182
 z53:=Tryz.sizeOf182
 v53:=Tryz.zeroValue182
 t57:=Tryz.underlying186
 a57:=Tryz.isAgg186
 z57:=Tryz.sizeOf186
 v57:=Tryz.zeroValue186
 t63:=Tryz.underlying201
 a63:=Tryz.isAgg201
 z63:=Tryz.sizeOf201
 v63:=Tryz.zeroValue201
 t64:=Tryz.underlying202
 a64:=Tryz.isAgg202
 z64:=Tryz.sizeOf202
 v64:=Tryz.zeroValue202 }
end
end Go.Proofs.YtniabnfoflogaaaGreatDoor.Am
set_option linter.unusedVariables false
set_option linter.unusedSimpArgs false
namespace Go.Proofs.YtniabnfoflogaaaGreatDoor.Am
open Go Go.RowKit
noncomputable section
def II(x:Int):List Int→List Int
 | []=>[x]
 | y::l=>bif Je x y then x::y::l else y::II x l
def FJ:List Int→List Int
 | []=>[]
 | x::l=>II x (FJ l)
theorem EA(x:Int):∀l:List Int,(II x l).Perm (x::l)
 | []=>.refl _
 | y::l=>by
  unfold II
  cases Je x y with
  | true=>exact .refl _
  | false=>exact((EA x l).cons y).trans (.swap x y l)
theorem DK:∀l:List Int,(FJ l).Perm l
 | []=>.refl _
 | x::l=>(EA x _).trans ((DK l).cons x)
theorem EW(x:Int):∀l:List Int,l.Pairwise (·≤·)→(II x l).Pairwise (·≤·)
 | [],_=>by simp[II]
 | y::l,h=>by
  unfold II
  have hl:=List.pairwise_cons.1 h
  rw[DN]
  by_cases hxy:x<y
  ·simp only[hxy,decide_true,cond_true]
   refine List.pairwise_cons.2 ⟨fun z hz=>?_,h⟩
   rcases List.mem_cons.1 hz with rfl | hz
   ·omega
   ·have:=hl.1 z hz;omega
  ·simp only[hxy,decide_false,cond_false]
   refine List.pairwise_cons.2 ⟨fun z hz=>?_,EW x l hl.2⟩
   rcases List.mem_cons.1 ((EA x l).mem_iff.1 hz)with rfl | hz
   ·omega
   ·exact hl.1 z hz
theorem Dk:∀l:List Int,(FJ l).Pairwise (·≤·)
 | []=>.nil
 | x::l=>EW x _ (Dk l)
theorem Jm        {l m : List Int} (hp : l.Perm m) (hl : l.Pairwise (· ≤ ·)) (hm : m.Pairwise (· ≤ ·)) : l = m := by
  induction l generalizing m with
  | nil=>exact(List.nil_perm.1 hp).symm
  | cons a l ih =>
    cases m with
    | nil=>exact absurd hp.length_eq (by simp)
    | cons b m =>
      have hl':=List.pairwise_cons.1 hl
      have hm':=List.pairwise_cons.1 hm
      have hab:a=b:=by
        have h1:a∈b::m:=hp.mem_iff.1 MG
        have h2:b∈a::l:=hp.mem_iff.2 MG
        rcases List.mem_cons.1 h1 with e | h1
        · exact e
        · rcases List.mem_cons.1 h2 with e | h2
          · exact e.symm
          · have:=hm'.1 a h1;have:=hl'.1 b h2;omega
      subst hab
      rw[ih hp.cons_inv hl'.2 hm'.2]
theorem HU{l m:List Int}(h:l.Perm m):m.mergeSort (fun x y=>decide (x≤y))=FJ l:=by
 refine Jm ((List.mergeSort_perm _ _).trans (h.symm.trans (DK l).symm)) ?_ (Dk l)
 have:=List.pairwise_mergeSort (le:=fun(x y:Int)=>decide (x≤y)) (by intro a b c;simp;omega) (by intro a b;simp;omega) m
 exact this.imp (by intro a b h;simpa using h)
def GE:List (AV×AV)→Option (List Int)
 | []=>some []
 | (.int .i64 n,_)::l=>(GE l).bind fun r=>some (n::r)
 | _=>none
def Li(n:Int):AV:=.int .i64 n
def EO(tI:TypeId)(ks:List Int)(s:AM):Option (AV×AM):=match ks with
 | []=>some (.slice none 0 (some 0),s)
 | k::ks=>AG (Nat.ble (k::ks).length 1000000) (some (.slice (some (s.next,0)) (k::ks).length none,newObj s (Bs tI 1 (AC.fill .leaf 0 ((FJ (k::ks)).map Li)) (k::ks).length none true)))
def Fo(g:FuncId)(kt tI:TypeId)(s:AM):List AV→Option (AV×AM)
 | [.func f [] [.ptr (some (i,o))]]=>AG (Nat.beq f g && Nat.beq o 0) <| (rowAt s i).bind fun r=>AG r.bytes <| (Ea s i o).bind fun m=>match m with
  | .map none=>some (.slice none 0 (some 0),s)
  | .map (some j)=>(HY s kt j).bind fun es=>(GE es).bind fun ks=>EO tI ks s
  | _=>none
 | _=>none
section
variable{P:Program}{ρ ρ1 ρ2:AX}{s s1 s2:AM}{w w1 w2:World}
def Ij(P:Program)(f g:FuncId)(kt tI:TypeId):Prop:=
 (∀ (Bm b nn:Nat) (D0:DataW Value) (w:World),Bm<w.heap.size→w.cell? ⟨Bm,0,none⟩=some (.map (some b))→w.ownsMap P kt Rv b nn D0→Maps.size D0≤1000000 →
  Calls P f #[.func (.func g) #[] #[.pointer (some ⟨Bm,0,none⟩)]] w fun e w'=>∃ (v:Value) (ss:List Int),e=.returned v∧ss.Perm (intKeys D0) ∧
   w'.ownsRow w.heap.size tI 1 v ss.length ((ss.mergeSort (fun x y=>decide (x≤y))).map fun n=>.int .i64 n)∧(v=.slice none 0 0↔ss=[])∧Below w.heap.size w w') ∧
 ∀ (Bm:Nat) (w:World),Bm<w.heap.size→w.cell? ⟨Bm,0,none⟩=some (.map none) →
  Calls P f #[.func (.func g) #[] #[.pointer (some ⟨Bm,0,none⟩)]] w fun e w'=>e=.returned (.slice none 0 0)∧Below w.heap.size w w'
theorem GF:∀ {es:List (AV×AV)}{ks:List Int}{l:List MapEntry},GE es=some ks→BT ρ es l→l.map (·.key)=ks.map fun n=>Value.int .i64 n
  | [],ks,l,h,he=>by cases he;injection h with h;subst h;rfl
  | (k,v)::es,ks,l,h,he=>by
    cases he with
    | cons hk hv hs =>
      cases k<;>try (simp[GE]at h;done)
      rename_i q n
      cases q<;>try (simp[GE]at h;done)
      simp only[GE,L7]at h
      obtain⟨r,h1,h2⟩:=h
      injection h2 with h2
      subst h2
      have:=GF h1 hs
      generalize hkk:(_:MapEntry).key=kk at hk
      cases hk
      simp[this,hkk]
theorem Ck(h:Below w.heap.size w w1):w.grownBy w1 none:=⟨h.os,h.tape,h.output,h.size,fun k hk _=>h.block k hk⟩
theorem Ht          {f g : FuncId} {kt tI : TypeId} (hko : CT     P kt = true) (hu : P.underlying kt = some (.int .i64)) (hc : Ij      P f g kt tI) (h : AT  P ρ s w) (hf : AR     ρ s) {aS : List AV} {as' : Array Value} {v : AV} (hs : Fo       g kt tI s aS = some (v, s1)) (has : AD    ρ aS as'.toList) :
    CallsIn Fence.wide 0 P f as' w (Cg P ρ s w v s1):=by
  refine callsIn_wide.2 ?_
  unfold Fo at hs
  split at hs<;>first | (cases hs;done) | skip
  rename_i f' i o
  obtain⟨hg,hs⟩:=AA hs
  simp only[L7,Bool.and_eq_true]at hs hg
  obtain⟨r,hrow,hs⟩:=hs
  obtain⟨hby,hs⟩:=AA hs
  simp only[L7]at hs
  obtain⟨m,hm,hs⟩:=hs
  have e1:=MA hg.1
  have e2:=MA hg.2
  subst e1;subst e2
  obtain⟨l0⟩:=as'
  cases has with
  | cons h1 h2 =>
  cases h2
  cases h1 with
  | func ha hcap =>
  rename_i a' c'
  obtain⟨la⟩:=a'
  obtain⟨lc⟩:=c'
  cases ha
  cases hcap with
  | cons hp hn =>
  cases hn
  cases hp with
  | ptr hr =>
  rename_i rb
  have hok:Ap ρ w r rb:=h.obj i _ rb (AU hrow) hr
  have hoff:=hok.base hby
  obtain⟨m',hvm,hcell⟩:=FO h hr hm
  rw[hoff]at hcell ⊢
  have hlt:=h.lt i rb hr
  cases m<;>try (simp at hs;done)
  rename_i mj
  have nilDone:∀ (hs:some ((.slice none 0 (some 0),s):AV×AM)=some (v,s1)) (w':World),Below w.heap.size w w'→Cg P ρ s w v s1 (.returned (.slice none 0 0)) w':=by
    intro hs w' hb
    injection hs with hs
    injection hs with q1 q2
    subst q1;subst q2
    obtain⟨g1,g2⟩:=h.grown (Ck hb)
    exact⟨ρ,.sliceNil,g1,g2⟩
  cases mj with
  | none =>
    cases hvm
    refine(hc.2 rb.b w hlt hcell).mono ?_
    rintro e w' ⟨rfl,hb⟩
    exact nilDone hs w' hb
  | some j =>
    simp only[L7]at hs
    obtain⟨es,hes,ks,hks,hs⟩:=hs
    cases hvm with
    | map hrj =>
    rename_i rj
    obtain⟨ed,cd,d1,d2,⟨ld,d3,d4⟩,d5⟩:=(show ER P ρ w kt es rj from h.obj j _ rj (ED hes) hrj).ex
    have hkl:=GF hks d4
    have hlenk:ks.length=ed.size:=by have:=congrArg List.length hkl;have:=d3.length_eq;simp at *;omega
    have hk6:ks.length≤1000000:=by
      cases ks with
      | nil=>simp
      | cons k ks =>
        simp only[EO]at hs
        have:=(AA hs).1
        simpa[L8]using this
    have hmax:(1000000:Nat)≤maxLen:=by unfold maxLen;omega
    have od:=K9 d1 d2 d5 (by omega)
    have hsz:Maps.size (DataW.map ((ed.toList.map (WideElems.rg P kt Rv)).foldr DataW.insert []))=ed.size:=by
      show((ed.toList.map (WideElems.rg P kt Rv)).foldr DataW.insert []).length=_
      rw[(Go.WideShapes.sorted_perm _).length_eq]
      simp
    have hints:(intKeys (DataW.map ((ed.toList.map (WideElems.rg P kt Rv)).foldr DataW.insert []))).Perm ks:=by
      show(((ed.toList.map (WideElems.rg P kt Rv)).foldr DataW.insert []).map fun p=>Go.intOf p.1).Perm ks
      refine((Go.WideShapes.sorted_perm _).map _).trans ?_
      rw[List.map_map]
      have:((ld.map fun e=>Go.intOf (WideElems.rg P kt Rv e).1))=ks:=by
        have:∀ (L:List MapEntry) (K:List Int),(∀e∈L,∃l,keyOf P kt e.key=some l)→L.map (·.key)=K.map (fun n=>Value.int .i64 n)→(L.map fun e=>Go.intOf (WideElems.rg P kt Rv e).1)=K:=by
          intro L
          induction L with
          | nil=>intro K _ hK;cases K with | nil=>rfl | cons=>simp at hK
          | cons e L ih =>
            intro K hty hK
            cases K with
            | nil=>simp at hK
            | cons n K =>
              simp only[MN,List.cons.injEq]at hK
              obtain⟨l,hl⟩:=hty e MG
              rw[MN,ih K (fun x hx=>hty x (MJ _ hx)) hK.2,Ln hl]
              congr 1
              rw[hK.1]at hl
              simp only[keyOf,hu,mapKey]at hl
              split at hl
              · injection hl with hl;subst hl;rfl
              · cases hl
        exact this ld ks (fun e he=>d5 e (d3.mem_iff.1 he)) hkl
      rw[← this]
      exact d3.symm.map _
    refine(hc.1 rb.b rj.b _ _ w hlt hcell od (by rw[hsz];omega)).mono ?_
    rintro e w' ⟨v',ss,rfl,hperm,hrow',hnil,hb⟩
    have hss:ss.Perm ks:=hperm.trans hints
    cases ks with
    | nil =>
      have:ss=[]:=List.perm_nil.1 hss
      rw[hnil.2 this]
      exact nilDone hs w' hb
    | cons k ks =>
      simp only[EO]at hs
      obtain⟨_,hs⟩:=AA hs
      injection hs with hs
      injection hs with q1 q2
      subst q1;subst q2
      have hne:ss≠[]:=fun e=>by subst e;exact absurd (List.nil_perm.1 hss) (by simp)
      rw[HU hss.symm]at hrow'
      have hl:ss.length=(k::ks).length:=hss.length_eq
      rcases hrow'.2 with⟨q,_⟩ | ⟨gb,cap,cur,rfl,hbase,hgb,r1,r2,r3,r4⟩
      · exact absurd (hnil.1 q) hne
      · rw[hl]at r1 r4 ⊢
        have hilen:(FJ (k::ks)).length=(k::ks).length:=(DK _).length_eq
        generalize hn:(k::ks).length=n at r1 r4 hilen ⊢
        have hglt:gb<w'.heap.size:=(Array.getElem?_eq_some_iff.1 hgb).1
        obtain⟨g1,g2⟩:=h.grown (Ck hb)
        let rbn:RB:=⟨gb,0,cap,1⟩
        have hfn:=(hf s.next (L9 _)).1
        have hle:=Ab (rb:=rbn) hfn
        have hrok:Ap (Ah ρ s.next rbn) w' { elem:=tI,sz:=1,n:=n,c:=AC.fill .leaf 0 ((FJ (k::ks)).map Li),spare:=true,mode:=.own,par:=none,bytes:=true } rbn:=by
          refine⟨?_,r1,rfl,(fun hh=>by cases hh),fun _=>⟨cur,hgb,by simp only[rbn];omega⟩,fun _=>rfl,(fun g hg=>by cases hg),fun p hp=>by cases hp⟩
          intro q u hq hu'
          simp only at hq
          simp only[AC.get_fill,MK,MH,true_and,Nat.sub_zero,List.length_map,hilen]at hu'
          rw[if_pos hq,List.getElem?_map]at hu'
          obtain⟨x,hx,hx2⟩:=Option.map_eq_some_iff.1 hu'
          subst hx2
          refine⟨.int .i64 x,?_,.int _ _⟩
          have:(cur.toList.take (n * 1))[q]? = some (Value.int .i64 x):=by rw[r4,List.getElem?_map,hx];rfl
          rw[List.getElem?_take_of_lt (by omega)]at this
          simp only[World.cell?,rbn,MH,hgb]
          simpa using this
        refine⟨Ah ρ s.next rbn,.sliceOpen (AK _ _) (Nat.one_pos) r1 (by simp[rbn]) (by simp[rbn]),⟨?_,?_,?_,?_⟩,?_⟩
        · intro x ox rx hx hrx
          rw[AS]at hx
          by_cases e:x=s.next
          · subst e
            rw[if_pos rfl]at hx
            injection hx with hx
            rw[AK]at hrx
            injection hrx with hrx
            subst hx;subst hrx
            exact hrok
          · rw [if_neg e] at hx
            rw[AI rbn e]at hrx
            exact(g1.obj x ox rx hx hrx).mono hle rfl
        · intro x rx hrx
          by_cases e:x=s.next
          · subst e
            rw[AK]at hrx
            injection hrx with hrx
            subst hrx
            exact hglt
          · rw[AI rbn e]at hrx
            exact g1.lt x rx hrx
        · intro x y ox oy rx ry hxy hx hy hrx hry hbb hw
          rw[AS]at hx hy
          by_cases ex:x=s.next
          · subst ex
            have ey:y≠s.next:=fun e=>hxy e.symm
            rw[AK]at hrx
            injection hrx with hrx
            subst hrx
            rw[AI rbn ey]at hry
            have:=h.lt y ry hry
            simp only[rbn]at hbb
            omega
          · by_cases ey : y = s.next
            · subst ey
              rw[AK]at hry
              injection hry with hry
              subst hry
              rw[AI rbn ex]at hrx
              have:=h.lt x rx hrx
              simp only[rbn]at hbb
              omega
            · rw [if_neg ex] at hx
              rw[if_neg ey]at hy
              rw[AI rbn ex]at hrx
              rw[AI rbn ey]at hry
              exact g1.sep x y ox oy rx ry hxy hx hy hrx hry hbb hw
        · intro x ox g hx hgo
          rw[AS]at hx
          by_cases e:x=s.next
          · subst e;exact⟨_,AK _ _⟩
          · rw[if_neg e]at hx
            obtain⟨r',hr'⟩:=h.glb x ox g hx hgo
            exact⟨r',hle _ _ hr'⟩
        · refine ⟨hle, ?_, by simp [newObj], hb.size, hb.os, hb.tape, hb.output, fun b hb' _ => hb.block b hb', ?_, ?_⟩
          · intro x hx hxr
            have:x≠s.next:=by simp[newObj]at hxr;omega
            rw[AI rbn this];exact hx
          · rintro b ⟨x, ox, rx, hx, hw, hrx, rfl⟩
            rw[AS]at hx
            by_cases e:x=s.next
            · subst e
              rw[AK]at hrx
              injection hrx with hrx
              subst hrx
              exact .inr hbase
            · rw [if_neg e] at hx
              rw[AI rbn e]at hrx
              exact .inl ⟨x,ox,rx,hx,hw,hrx,rfl⟩
          · intro x _ hx
            rw[AS,if_neg (by simp[newObj]at hx;omega)]
end
end
end Go.Proofs.YtniabnfoflogaaaGreatDoor.Am
set_option linter.unusedVariables false
set_option linter.unusedSimpArgs false
namespace Go.Proofs.YtniabnfoflogaaaGreatDoor.Am
open Go Go.Proofs Go.RowKit
noncomputable section
theorem Kj(m:Nat):AnyZI.SortsIn Tryz.prog Co Fence.wide m:=
  ⟨fun blk off cap ss W hH hblk hsz=>callsIn_wide.2 (AnyM.slices_Sort_int HW blk off cap ss W hH hblk hsz),
   fun p cap W=>callsIn_wide.2 (AnyM.slices_Sort_int_none HW p cap W)⟩
theorem LF:Ij Tryz.prog 59 86 3 3:=by
  refine⟨fun Bm b nn D0 w hBm hm hown hsz=>?_,fun Bm w hBm hm=>?_⟩
  · have hseq := AnyZI.keys_gives (ρ := CU)           { HV       with } Fence.wide 2 trivial rfl (by omega) Bm b nn D0 w hBm hm hown
    have cS:=AnyZI.sorted_in FM Fence.wide 5 trivial trivial trivial trivial rfl (by omega) (Kj _) (enters_of Tryz.func65 (by kernel_rfl) rfl) 86 #[.pointer (some ⟨Bm,0,none⟩)] trivial (enters_of Tryz.func86 (by kernel_rfl) rfl) _ _ (MF hsz (by unfold maxLen;omega)) (by omega) _ hseq
    exact callsIn_wide.1 cS
  · have hseq := AnyZI.keys_gives_nil (ρ := CU)           { HV       with } Fence.wide 2 trivial rfl Bm w hBm hm
    have cS:=AnyZI.sorted_in FM Fence.wide 5 trivial trivial trivial trivial rfl (by omega) (Kj _) (enters_of Tryz.func65 (by kernel_rfl) rfl) 86 #[.pointer (some ⟨Bm,0,none⟩)] trivial (enters_of Tryz.func86 (by kernel_rfl) rfl) _ 0 (MK _) (by omega) _ hseq
    refine(callsIn_wide.1 cS).mono ?_
    rintro e w' ⟨v,ss,rfl,hS,_,hnil,hb⟩
    rw[hnil.2 hS]
    exact⟨rfl,hb⟩
def K7:Jw:=fun f xs s=>bif Nat.beq f 59 then Fo 86 3 3 s xs else none
theorem I7:CO Tryz.prog K7:=by
 intro ρ s w f xs v s1 as' hc hi hf ha
 unfold K7 at hc
 cases h2:Nat.beq f 59 with
 | true =>
  rw[h2]at hc
  have:=MA h2
  subst this
  exact⟨⟨_,_,Tryz.func59,rfl⟩,Ht (by kernel_rfl) Tryz.underlying3 LF hi hf hc ha⟩
 | false=>rw[h2]at hc;cases hc
def Lv:Kv:=⟨Tryz.prog,K7⟩
end
end Go.Proofs.YtniabnfoflogaaaGreatDoor.Am
set_option linter.unusedVariables false
set_option linter.unusedSimpArgs false
namespace Go.Proofs.YtniabnfoflogaaaGreatDoor.Am
open Go
noncomputable section
def Gs(fs:List FuncId)(T:List Row):Jw:=fun f xs s=>bif fs.any (Nat.beq f)then (Ix T f xs).bind fun r=>some (r,s)else none
theorem IQ         {P : Program} (hm : P.follows .mixedOrders = true) (hng : Ba      P) {E : Kv}  (hE : E.P = P) (hnat : CO     P E.nat) {n : Nat} {fs : List FuncId} {T : List Row}
    (hT:∀r∈T,D9 r.args=true∧HP r.res=true∧LO r.res ((Fh E n).call r.f r.args ⟨0,.leaf⟩)=true):CO P (Gs fs T):=by
  intro ρ s w f xs v s1 as' hc h hf ha
  unfold Gs at hc
  cases hfs:fs.any (Nat.beq f)with
  | false=>rw[hfs]at hc;cases hc
  | true =>
    rw[hfs]at hc
    simp only[cond_true,L7]at hc
    obtain⟨u,hu,hc⟩:=hc
    injection hc with hc
    injection hc with e1 e2
    subst e1;subst e2
    obtain⟨r,hr,rfl,rfl,rfl⟩:=FD hu
    obtain⟨p1,p2,p3⟩:=hT r hr
    cases hrun:(Fh E n).call r.f r.args ⟨0,.leaf⟩with
    | none=>rw[hrun]at p3;cases p3
    | some p =>
      obtain⟨v0,s2⟩:=p
      rw[hrun]at p3
      have hv0:r.res=v0:=DF (show Hx r.res v0=true from p3)
      subst hv0
      let ρ0:AX:=fun _=>none
      have hinv:AT P ρ0 ⟨0,.leaf⟩ w:=
        ⟨fun i o x hi hx=>(by cases hx),fun i x hx=>(by cases hx),fun i j oi oj ri rj hne hi hj hri hrj=>(by cases hri),fun i o g' hi _=>(by cases (show(AC.leaf:AC AZ).get i=some o from hi))⟩
      have hfr:AR ρ0 ⟨0,.leaf⟩:=fun i hi=>⟨rfl,rfl⟩
      have hcall:=(L6 hm hng hE hnat n).call ρ0 ⟨0,.leaf⟩ w r.f r.args r.res s2 as' hrun hinv hfr (DH p1 ha)
      refine⟨hcall.1,CallsIn.mono hcall.2 ?_⟩
      intro e w' he
      cases e with
      | panicked c=>exact he.elim
      | outgrown=>exact he.elim
      | returned v' =>
        obtain⟨ρ',k1,k2,k3⟩:=he
        have hno:∀b,¬ Cd ρ0 (⟨0,.leaf⟩:AM) b:=by
          rintro b ⟨i,o,x,hi,hw,hx,_⟩
          cases hx
        obtain⟨g1,g2⟩:=h.grown (w1:=w') ⟨k3.os,k3.tape,k3.output,k3.size,fun b hb' _=>k3.keep b hb' (hno b)⟩
        exact⟨ρ,D8 p2 k1,g1,g2⟩
end
end Go.Proofs.YtniabnfoflogaaaGreatDoor.Am
