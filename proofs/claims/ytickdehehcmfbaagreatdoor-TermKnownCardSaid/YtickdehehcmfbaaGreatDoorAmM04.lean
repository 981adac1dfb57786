/- The abstract machine runs as the model does: all of it, by the fuel; conditions: the drawn order is followed; no function counts goroutines; what is given for a function is so. -/
import Derived.Test.YtickdehehcmfbaaGreatDoorAmM03
import Derived.ChangeSame
import Derived.Test.YtickdehehcmfbaaGreatDoorAmM01
import Derived.Maps.Own
import Derived.Lib.SlMapMerge
import Derived.Test.YtickdehehcmfbaaGreatDoorAmM02
import Derived.ChangeArms
import Derived.DataReads
import Derived.DataElems
import Derived.Test.YtickdehehcmfbaaGreatDoorProg
import Derived.Shelf.SlIterI.Nil
import Derived.Shelf.SlIterI.Sorted
import Derived.Shelf.SlMaps.Copy
import Derived.Shelf.SortM.Plain
import Derived.Shelf.SortM.SortNone
import Derived.Ground.GgzProg
import Derived.Ground.SlgmProg
import Derived.Ground.SlmpProg
import Derived.Shelf.Strings.OnBuilder
import Derived.Lib.SlKeysI
import Derived.Test.YtickdehehcmfbaaGreatDoorChecked
set_option linter.unusedVariables false
set_option linter.unusedSimpArgs false
namespace Go.Proofs.YtickdehehcmfbaaGreatDoor.Am
open Go
noncomputable section
section
variable{P:Program}{ρ ρ1 ρ2:Aq}{s s1 s2:AE}{w w1 w2:World}
theorem Sf(hng:C3 P){F:CY}(hcall:DN P F.call){f:FuncId}{fn:Func}{g:Operand}{x:CX}{ps:Array Tmp}{assign body:Code}{rnd r:Option Nat}{var:List AV}{marks:List Nat}{s:AE}{res:Au}{ρ:Aq}{w:World}{a:Act}{Q:Exit→Act→World→Prop}
    (hf:P.funcs[f]? = some fn) (hx:DY (Ah P fn) ⟨[],0⟩ g=some x) (hc:J4 F rnd f (B8 [] var x) ps assign body var marks s=some res) (hb:Gb P fn ρ s w var marks rnd r a)
    (hq:∀a' w' ρ',F4 P fn ρ s w res a' w' ρ'→Q (F0 res.exit) a' w'):(Code.rangeFunc g ps assign body).wpIn (LC r) 0 P Q a w:=by
  have hgv:AJ ρ (B8 [] var x) (a.eval g):=Ld hb.vars hx
  have res1:∀l:Nat,(resolve a.eval (rangeCall g l) 0:Sem Deferred)=Deferred.ofValue (a.eval g) #[.func (.yield l) #[] #[]]:=by
    intro l
    simp[resolve,rangeCall,Act.eval]
  refine wpIn_rangeFunc fun fn' _=>?_
  unfold J4 at hc
  cases rnd with
  | some l =>
    simp only[ZA]at hc
    obtain⟨al,hl,hc⟩:=hc
    obtain⟨rb,h1,h2⟩:=hb.rnd
    subst h2
    have hgl:=DW hl
    obtain⟨L,h0,_,_,_,_,_,⟨rd,HX,RQ⟩,_⟩:=(hb.inv.obj _ _ _ hgl h1:EY P ρ w al rb).ex
    have hent:=FQ (P:=P) h0 fn' a.tmps ps assign body
    rw[RQ]at hent
    obtain⟨d,f0,args,k1,k2,k3⟩:=Is (r:=some rb.b) (Q:=Q) hng hcall hf hc hb.inv hb.fresh hb.vars hb.marks hgv HX fn' fun w' ρ' h=>hq a w' ρ' h
    refine⟨_,_,_,d,_,f0,args,_,hent,?_,fun _ _=>trivial,k2 _,(fun e=>by cases e),k3⟩
    rw[res1,k1]
    rfl
  | none =>
    have hr:r=none:=hb.rnd
    subst hr
    let rb:RB:=⟨w.heap.size,0,0,0⟩
    have hn0:=(hb.fresh _ (Y9 s.next)).1
    have hle:=BL (rb:=rb) hn0
    obtain⟨hi1,hfr1⟩:=hb.inv.new (o:=.mark) (o':=.deferred (some [])) (rb:=rb) hn0 rfl (World.alloc_heap_new w _)
    have hff:=hb.fresh.new .mark rb
    have HX:BJ ρ s.next rb s.next=some rb:=AM _ _
    obtain⟨d,f0,args,k1,k2,k3⟩:=Is (r:=none) (Q:=Q) (a:={ a with defers:=[{ target:=.collected w.heap.size,args:=#[] }]++a.defers }) hng hcall hf hc hi1 hff (hb.vars.mono hle)
      ⟨rb,a.defers,HX,rfl,hb.marks.mono hle⟩ (hgv.mono hle) HX fn' fun w' ρ' h=>hq _ w' ρ' (F4.trans (r1:=res) (a1:=a) hfr1 h)
    have hsz:(w.alloc (.deferred (some []))).heap.size=w.heap.size+1:=by simp
    rw[hsz]at k1 k3
    refine⟨_,_,_,d,_,f0,args,_,run_enterLoop_outer fn' a.tmps ps assign body,?_,fun _ _=>trivial,k2 _,(fun e=>by cases e),k3⟩
    rw[res1,k1]
    rfl
theorem Oa        (hm : P.follows .mixedOrders = true) (hng : C3      P) {F : CY}  {n : Nat} (h : Kr    P F n) {call : FuncId → List AV → AE  → Option (AV × AE)}  {round : Nat → List AV → AE  → Option (AV × AE)}  : Jp     P ⟨CB    F, call, round⟩ := by
  intro f fn c
  have hF:=h.fok hng
  induction c with
  | skip =>
    intro rnd r var marks s res ρ w a Q hf hc hb hq
    injection (show some (⟨.normal,var,marks,s⟩:Au)=some res from hc)with hc
    subst hc
    exact wpIn_skip (hq a w ρ ⟨hb.inv,hb.fresh,Fr.refl _ _ _,hb.vars,hb.marks⟩)
  | label l =>
    intro rnd r var marks s res ρ w a Q hf hc hb hq
    injection (show some (⟨.normal,var,marks,s⟩:Au)=some res from hc)with hc
    subst hc
    exact wpIn_label (hq a w ρ ⟨hb.inv,hb.fresh,Fr.refl _ _ _,hb.vars,hb.marks⟩)
  | ret =>
    intro rnd r var marks s res ρ w a Q hf hc hb hq
    injection (show some (⟨.ret,var,marks,s⟩:Au)=some res from hc)with hc
    subst hc
    exact wpIn_ret (hq a w ρ ⟨hb.inv,hb.fresh,Fr.refl _ _ _,hb.vars,hb.marks⟩)
  | exit id =>
    intro rnd r var marks s res ρ w a Q hf hc hb hq
    injection (show some (⟨.exit id,var,marks,s⟩:Au)=some res from hc)with hc
    subst hc
    exact wpIn_exit (hq a w ρ ⟨hb.inv,hb.fresh,Fr.refl _ _ _,hb.vars,hb.marks⟩)
  | goto l=>intro rnd r var marks s res ρ w a Q hf hc;cases hc
  | refuse u=>intro rnd r var marks s res ρ w a Q hf hc;cases hc
  | region id ops draw =>
    intro rnd r var marks s res ρ w a Q hf hc hb hq
    exact WW hm hF hc hb hq
  | seq x y ihx ihy =>
    intro rnd r var marks s res ρ w a Q hf hc hb hq
    have hc:GB F rnd (Ag P f fn.ntmps (Ah P fn) y) (F.code rnd (Ag P f fn.ntmps (Ah P fn) x) var marks s)=some res:=hc
    unfold GB at hc
    split at hc<;>first | (cases hc;done) | skip
    rename_i r1 h1
    refine wpIn_seq (h.code f fn x rnd r var marks s r1 ρ w a _ hf h1 hb ?_)
    intro a' w' ρ' g
    unfold FS at hc
    cases he:r1.exit with
    | normal =>
      rw[he]at hc
      refine h.code f fn y rnd r _ _ _ res ρ' w' a' Q hf hc (g.begins hb) ?_
      intro a2 w2 ρ2 g2
      exact hq a2 w2 ρ2 (F4.trans (r1:=r1) (a1:=a') g.fr g2)
    | exit id =>
      rw[he]at hc
      injection hc with hc
      subst hc
      have:=hq a' w' ρ' g
      rw[he]at this
      exact this
    | ret =>
      rw[he]at hc
      injection hc with hc
      subst hc
      have:=hq a' w' ρ' g
      rw[he]at this
      exact this
  | cond o x y ihx ihy =>
    intro rnd r var marks s res ρ w a Q hf hc hb hq
    simp only[Ag]at hc
    cases ho:DY (Ah P fn) ⟨[],0⟩ o with
    | none=>rw[ho]at hc;cases hc
    | some z =>
      rw[ho]at hc
      have hc:K6 F rnd (Ag P f fn.ntmps (Ah P fn) x) (Ag P f fn.ntmps (Ah P fn) y) var marks s (B8 [] var z)=some res:=hc
      have hz:=Ld hb.vars ho
      unfold K6 at hc
      split at hc<;>first | (cases hc;done) | skip
      rename_i t ht
      rw[ht]at hz
      have hev:a.eval o=.bool t:=by
        generalize a.eval o=y at hz
        cases hz;rfl
      refine wpIn_cond hev ?_
      cases t with
      | true=>exact h.code f fn x rnd r var marks s res ρ w a Q hf hc hb hq
      | false=>exact h.code f fn y rnd r var marks s res ρ w a Q hf hc hb hq
  | block id c ih =>
    intro rnd r var marks s res ρ w a Q hf hc hb hq
    have hc:H6 id (F.code rnd (Ag P f fn.ntmps (Ah P fn) c) var marks s)=some res:=hc
    unfold H6 at hc
    split at hc<;>first | (cases hc;done) | skip
    rename_i r1 h1
    refine wpIn_block (h.code f fn c rnd r var marks s r1 ρ w a _ hf h1 hb ?_)
    intro a' w' ρ' g
    unfold Hd at hc
    split at hc
    · rename_i id' he
      rw[he]
      simp only[F0,Exit.inBlock]
      cases hbq:Nat.beq id' id with
      | true =>
        rw[hbq]at hc
        injection hc with hc
        subst hc
        rw[if_pos (AS hbq)]
        exact hq a' w' ρ' ⟨g.inv,g.fresh,g.fr,g.vars,g.marks⟩
      | false =>
        rw[hbq]at hc
        injection hc with hc
        subst hc
        have:=hq a' w' ρ' g
        rw[he]at this
        rw[if_neg (fun e=>by subst e;simp at hbq)]
        exact this
    · rename_i hne
      injection hc with hc
      subst hc
      have:=hq a' w' ρ' g
      cases he:r1.exit with
      | normal=>rw[he]at this;exact this
      | ret=>rw[he]at this;exact this
      | exit id'=>exact absurd he (hne id')
  | loop c ih =>
    intro rnd r var marks s res ρ w a Q hf hc hb hq
    have hc:GB F rnd (.loop (Ag P f fn.ntmps (Ah P fn) c)) (F.code rnd (Ag P f fn.ntmps (Ah P fn) c) var marks s)=some res:=hc
    refine wpIn_loop_rounds (n+1) ?_
    rw[roundsIn_succ]
    unfold GB at hc
    split at hc<;>first | (cases hc;done) | skip
    rename_i r1 h1
    refine h.code f fn c rnd r var marks s r1 ρ w a _ hf h1 hb ?_
    intro a' w' ρ' g
    unfold FS at hc
    cases he:r1.exit with
    | normal =>
      rw[he]at hc
      refine h.loop f fn c rnd r _ _ _ res ρ' w' a' Q hf hc (g.begins hb) ?_
      intro a2 w2 ρ2 g2
      exact hq a2 w2 ρ2 (F4.trans (r1:=r1) (a1:=a') g.fr g2)
    | exit id =>
      rw[he]at hc
      injection hc with hc
      subst hc
      have:=hq a' w' ρ' g
      rw[he]at this
      exact this
    | ret =>
      rw[he]at hc
      injection hc with hc
      subst hc
      have:=hq a' w' ρ' g
      rw[he]at this
      exact this
  | scope c ih =>
    intro rnd r var marks s res ρ w a Q hf hc hb hq
    refine NA (ih rnd r var marks s res ρ w a _ hf hc hb ?_)
    intro a' w' ρ' g
    have:=hq a' w' ρ' g
    cases he:res.exit with
    | normal=>rw[he]at this;exact this
    | ret=>rw[he]at this;exact this
    | exit id'=>rw[he]at this;exact this
  | rangeFunc g ps x y ihx ihy =>
    intro rnd r var marks s res ρ w a Q hf hc hb hq
    simp only[Ag]at hc
    cases ho:DY (Ah P fn) ⟨[],0⟩ g with
    | none=>rw[ho]at hc;cases hc
    | some z =>
      rw[ho]at hc
      exact Sf hng h.call hf ho hc hb hq
theorem Ov{F:CY}{n:Nat}(h:Kr P F n){call:FuncId→List AV→AE→Option (AV×AE)}{round:Nat→List AV→AE→Option (AV×AE)}:ND P ⟨CB F,call,round⟩ (n+1):=by
  intro f fn c rnd r var marks s res ρ w a Q hf hc hb hq
  have hc:GB F rnd (.loop (Ag P f fn.ntmps (Ah P fn) c)) (F.code rnd (Ag P f fn.ntmps (Ah P fn) c) var marks s)=some res:=hc
  rw[roundsIn_succ]
  unfold GB at hc
  split at hc<;>first | (cases hc;done) | skip
  rename_i r1 h1
  refine h.code f fn c rnd r var marks s r1 ρ w a _ hf h1 hb ?_
  intro a' w' ρ' g
  unfold FS at hc
  cases he:r1.exit with
  | normal =>
    rw[he]at hc
    refine h.loop f fn c rnd r _ _ _ res ρ' w' a' Q hf hc (g.begins hb) ?_
    intro a2 w2 ρ2 g2
    exact hq a2 w2 ρ2 (F4.trans (r1:=r1) (a1:=a') g.fr g2)
  | exit id =>
    rw[he]at hc
    injection hc with hc
    subst hc
    have:=hq a' w' ρ' g
    rw[he]at this
    exact this
  | ret =>
    rw[he]at hc
    injection hc with hc
    subst hc
    have:=hq a' w' ρ' g
    rw[he]at this
    exact this
theorem TR{F:CY}(hcode:Jp P F){f:FuncId}{aS:List AV}{v:AV}{as':Array Value}(hc:Ee P F aS s (AT P f)=some (v,s1))(hi:Al P ρ s w)(hfr:Av ρ s)(ha:AI ρ aS as'.toList):
  (∃fn c,P.funcs[f]? = some fn∧fn.body=some c)∧CallsIn Fence.wide 0 P f as' w (Cq P ρ s w v s1):=by
 unfold Ee at hc
 simp only[ZA]at hc
 obtain⟨cf,h1,hc⟩:=hc
 unfold AT at h1
 simp only[ZA]at h1
 obtain⟨fn,h2,c,h3,h4⟩:=h1
 obtain⟨h5,h6⟩:=AA h4
 simp only[ZA]at h6
 obtain⟨cr,h7,h8⟩:=h6
 injection h8 with h8
 subst h8
 simp only at hc
 cases hb:Nat.beq aS.length (B3 fn)with
 | false=>rw[hb]at hc;cases hc
 | true =>
  rw[hb]at hc
  simp only[cond_true]at hc
  refine⟨⟨fn,c,h2,h3⟩,callsIn_of_wp_marks h2 h3 trivial ?_⟩
  unfold He at hc
  simp only[ZA]at hc
  obtain⟨res,hr,hc⟩:=hc
  have hend:Nk res.exit=true∧((CR res.st res.marks).bind fun s=>(A6 P s res.var cr).bind fun l=>some (Aw l,s))=some (v,s1):=by
   cases he:Nk res.exit with
   | true=>rw[he]at hc;exact⟨rfl,hc⟩
   | false=>rw[he]at hc;cases hc
  obtain⟨he,hc⟩:=hend
  simp only[ZA]at hc
  obtain⟨s2,hu,l,hl,hv⟩:=hc
  injection hv with hv
  injection hv with hv1 hv2
  subst hv1
  subst hv2
  have hvars:Bx P ρ fn (Ql aS (Ah P fn).length) (as'++Array.replicate (fn.ntmps - as'.size) undef):=UD ha (AS hb) (by simpa[ZN]using h5)
  refine hcode f fn c none none _ [] s res ρ w _ _ h2 hr ⟨hi,hfr,hvars,rfl,rfl⟩ ?_
  intro a' w' ρ' g
  have hlv:LeavesInM Fence.wide 0 P fn a'.tmps (Cq P ρ s w (Aw l) s2) a'.defers .returning w':=by
   refine KM g.marks hu g.inv fun w2 k1 k2=>?_
   obtain⟨v',k3,k4⟩:=Mu k1 g.vars.rel h7 hl
   exact⟨v',k3,ρ',k4,k1,g.fr.trans k2⟩
  cases hx:res.exit with
  | normal=>exact hlv
  | ret=>exact hlv
  | exit id=>rw[hx]at he;cases he
theorem Sj       (hng : C3      P) {E : Bt}  (hE : E.P = P) {F : CY}  (hcode : Jp     P F) {l : Nat} {rb : RB} {aS : List AV} {v : AV} {as' : Array Value} (hc : Jl    E F l aS s = some (v, s1)) (hi : Al  P ρ s w) (hfr : Av     ρ s) (hl : ρ l = some rb) (ha : AI    ρ aS as'.toList) :
    CF P ρ s w v s1 ((Instr.yield rb.b as').run P w):=by
  unfold Jl at hc
  rw[hE]at hc
  simp only[ZA]at hc
  obtain⟨al,h1,var,h2,ca,h3,cb,h4,hc⟩:=hc
  have hg:=DW h1
  obtain⟨L,h0,_,_,e1,e2,e3,_,hrel,hsz,hlen⟩:=(hi.obj _ _ _ hg hl:EY P ρ w al rb).ex
  unfold MP at h3 h4
  simp only[ZA]at h3 h4
  obtain⟨fn,hf,h3⟩:=h3
  obtain⟨fn2,hf2,h4⟩:=h4
  rw[hf]at hf2
  injection hf2 with hf2
  subst hf2
  injection h3 with h3
  injection h4 with h4
  subst h3
  subst h4
  have hvi:F2 P al.fn=Ah P fn:=by unfold F2;rw[hf]
  rw[hvi]at hrel hlen h2
  obtain⟨z1,z2,z3,z4⟩:=Ko (tmps:=L.tmps) h2 hrel hlen ha
  have hps:as'.size=L.params.size:=by rw[e1];simpa using z4.symm
  rw[run_yield h0 hps]
  refine .round (roundIn_of_wpIn trivial ?_)
  have hfold:(L.params.zip as').foldl (fun tmps (x:Tmp×Value)=>match x with | (t,a)=>tmps.setIfInBounds t a) L.tmps=(al.params.toList.zip as'.toList).foldl (fun tmps (p:Tmp×Value)=>tmps.setIfInBounds p.1 p.2) L.tmps:=by
    rw[← Array.foldl_toList,Array.toList_zip,e1]
  have hfold':(L.params.zip as').foldl (fun tmps (x:Tmp×Value)=>tmps.setIfInBounds x.1 x.2) L.tmps=(al.params.toList.zip as'.toList).foldl (fun tmps (p:Tmp×Value)=>tmps.setIfInBounds p.1 p.2) L.tmps:=hfold
  have hvars:Bx P ρ fn var ((al.params.toList.zip as'.toList).foldl (fun tmps (p:Tmp×Value)=>tmps.setIfInBounds p.1 p.2) L.tmps):=⟨z2,z1,by rw[z3];exact hsz fn hf⟩
  unfold Gx at hc
  simp only[ZA]at hc
  obtain⟨q,hq1,hc⟩:=hc
  cases hn:IW q.exit with
  | false=>rw[hn]at hc;cases hc
  | true =>
    rw[hn]at hc
    simp only[cond_true,ZA]at hc
    obtain⟨r2,hr2,hc⟩:=hc
    cases hrd:KE r2.state with
    | false=>rw[hrd]at hc;cases hc
    | true =>
      rw[hrd]at hc
      simp only[cond_true]at hc
      unfold It at hc
      simp only[ZA]at hc
      obtain⟨q2,hq2,r3,hr3,hc⟩:=hc
      injection hc with hc
      injection hc with hv hs
      subst hv
      subst hs
      have hqn:q.exit=.normal:=by cases he:q.exit<;>rw[he]at hn<;>first | rfl | cases hn
      have hst:r2.state=.ready:=by
        cases he:r2.state<;>rw[he]at hrd<;>first | rfl | cases hrd
      rw[e2,e3]
      refine hcode al.fn fn al.assign (some l) (some rb.b) var [] s q ρ w _ _ hf hq1 ⟨hi,hfr,by first | exact hvars | (simp only[];rw[hfold];exact hvars),rfl,⟨rb,hl,rfl⟩⟩ ?_
      intro a1 w1 ρ1 g1
      rw[hqn]
      have hl1:ρ1 l=some rb:=g1.fr.le _ _ hl
      have hg2:=DW hr2
      obtain⟨L1,k0,k1,_⟩:=(g1.inv.obj _ _ _ hg2 hl1:EY P ρ1 w1 r2 rb).ex
      obtain⟨i2,f2⟩:=Id g1.inv hg2 hl1 (st:=.busy) (pd:=r2.pending) k0
      refine⟨_,run_beginRound k0 (by rw[k1,hst]),?_⟩
      have hpd:L1.pending=r2.pending:=by
        obtain⟨L1',k0',_,k2',_⟩:=(g1.inv.obj _ _ _ hg2 hl1:EY P ρ1 w1 r2 rb).ex
        rw[k0]at k0';injection k0' with k0';injection k0' with k0';subst k0';exact k2'
      have hL1:({ L1 with state:=.busy }:Loop)={ L1 with state:=.busy,pending:=r2.pending }:=by rw[← hpd]
      rw[hL1]
      have hal:({ r2 with state:=.busy }:Hs)={ r2 with state:=.busy,pending:=r2.pending }:=rfl
      refine hcode al.fn fn al.body (some l) (some rb.b) q.var q.marks _ q2 ρ1 _ a1 _ hf hq2 ⟨i2,g1.fresh.step f2,g1.vars,g1.marks,⟨rb,hl1,rfl⟩⟩ ?_
      intro a3 w3 ρ3 g3
      have hl3:ρ3 l=some rb:=g3.fr.le _ _ hl1
      have hg3:=DW hr3
      obtain⟨L3,m0,m1,_⟩:=(g3.inv.obj _ _ _ hg3 hl3:EY P ρ3 w3 r3 rb).ex
      have tot:=g1.fr.trans (f2.trans g3.fr)
      have fin:∀jump:Option Code,DT q2.exit=jump→∃v w',(Instr.endRound rb.b jump).run P w3=.ok v w'∧Cq P ρ s w (.bool (DT q2.exit).isNone) (setObj q2.st l (.loop { r3 with state:=GW (DT q2.exit),pending:=DT q2.exit })) (.returned v) w':=by
        intro jump hj
        obtain⟨i4,f4⟩:=Id g3.inv hg3 hl3 (st:=GW jump) (pd:=jump) m0
        refine⟨_,_,run_endRound jump m0,ρ3,?_,?_,?_⟩
        · rw[hj];exact .bool _
        · rw[hj]
          have:(if jump.isNone=true then LoopState.ready else .done)=GW jump:=by cases jump<;>rfl
          rw[this]
          exact i4
        · rw[hj]
          have:(if jump.isNone=true then LoopState.ready else .done)=GW jump:=by cases jump<;>rfl
          rw[this]
          exact tot.trans f4
      cases he:q2.exit with
      | normal=>have:=fin none (by rw[he];rfl);rw[he]at this;exact this
      | ret=>have:=fin (some .ret) (by rw[he];rfl);rw[he]at this;exact this
      | exit id=>have:=fin (some (.exit id)) (by rw[he];rfl);rw[he]at this;exact this
theorem YU  (hm : P.follows .mixedOrders = true) (hng : C3      P) {E : Bt}  (hE : E.P = P) (hnat : DN     P E.nat) : ∀ n, Kr    P (Ci   E n) n := by
  intro n
  induction n with
  | zero =>
    refine⟨?_,?_,?_,?_⟩
    · intro f fn c rnd r var marks s res ρ w a Q hf hc;cases hc
    · intro f fn c rnd r var marks s res ρ w a Q hf hc;cases hc
    · intro ρ s w f aS v s1 as' hc;cases hc
    · intro ρ s w l rb aS v s1 as' hc;cases hc
  | succ n ih =>
    refine⟨Oa hm hng ih,Ov ih,?_,?_⟩
    · intro ρ s w f aS v s1 as' hc hi hfr ha
      have hc:Ff E (Ci E n) f aS s=some (v,s1):=hc
      unfold Ff at hc
      split at hc
      · rename_i p hp
        injection hc with hc
        subst hc
        exact hnat ρ s w f aS _ _ as' hp hi hfr ha
      · rw[hE]at hc
        exact TR ih.code hc hi hfr ha
    · intro ρ s w l rb aS v s1 as' hc hi hfr hl ha
      exact Sj hng hE ih.code hc hi hfr hl ha
end
def Ig (P : Program) : Bool := P.funcs.all fun fn => !(fn.name == "runtime.NumGoroutine")
theorem Fs{P:Program}(h:Ig P=true):C3 P:=by
 intro f fn hf
 unfold Ig at h
 rw[Array.all_eq_true_iff_forall_mem]at h
 have:=h fn (Array.mem_of_getElem? hf)
 simpa using this
def Lk:Aq:=fun _=>none
def st0:AE:=⟨0,.leaf⟩
structure Jq(W W':World):Prop where
 heap:∀b,b<W.heap.size→W'.heap[b]? = W.heap[b]?
 os:W'.os=W.os
 output:W'.output=W.output
 size:W.heap.size≤W'.heap.size
theorem Td{ρ ρ':Aq}{s s':AE}{w w':World}(h:Fr ρ s w ρ' s' w')(hn:∀b,¬ EZ ρ s b):Jq w w':=
 ⟨fun b hb=>h.keep b hb (hn b),h.os,h.output,h.size⟩
theorem Jq.keptBut{W W':World}(h:Jq W W')(may:MemPlace→Prop):W.keptBut W' may:=by
 refine⟨h.os,h.output,fun i hi=>?_⟩
 rw[h.heap i hi]
 have:W.heap[i]? = some W.heap[i]:=Array.getElem?_eq_getElem hi
 rw[this]
 cases W.heap[i]with
 | cells c t fr=>exact⟨rfl,rfl,rfl,fun _ _=>rfl⟩
 | map es clock=>exact .inr ⟨rfl,rfl⟩
 | _=>rfl
theorem Jq.frozen{W W':World}(h:Jq W W')(a:Addr)(ha:a.block<W.heap.size):W'.frozen? a=W.frozen? a:=by simp[World.frozen?,h.heap _ ha]
section
open Go.ChangeShapes Go.WideShapes
theorem post_of_kept{H:Type}{enc:TypeId×Value→H}{P:Program}{f:Func}{s:ChangeSpec}{apart fresh handsOn again:Bool}{W W':World}{args:Array Value}{v:Value}{ds gs:List (DataW H)}{before pa pv:List MemPlace}
  (hW:DataW.Whole enc P f.params.toList s.vars apart W args.toList ds gs before)
  (hres:∀ (b:Nat) (sp:Nat→Bool) (hd:Bool),DataW.TrodAll enc P W' b sp hd f.resultTypes.toList (v.resultList f.resultTypes.size) (s.fn H (ds++gs)).results [])
  (hargs:∀sp:Nat→Bool,(∀p∈before,sp p.block=true)→DataW.TrodAll enc P W' 0 sp true f.params.toList args.toList (s.fn H (ds++gs)).args pa)
  (hvars:∀sp:Nat→Bool,(∀p∈before,sp p.block=true)→DataW.TrodVars enc P W' sp s.vars (s.fn H (ds++gs)).vars pv)
  (hps:before=pa++pv) (hk:Jq W W')
  (hok:∀ (j:Nat) (t:TypeId) (r:Value),f.resultTypes[j]? = some t→(v.resultList f.resultTypes.size)[j]? = some r→Value.okWide P W' .any 0 t r):
  s.post enc P f apart fresh handsOn again W args v W':=by
 have hold:∀p∈before,(fun b=>decide (b<W.heap.size)) p.block=true:=fun p hp=>by simpa using hW.lt p hp
 refine⟨ds,gs,before,[],pa,pv,hW,hres _ _ _,hargs _ hold,hvars _ hold,World.keptBut_mono (fun p hp=>⟨hp,?_⟩) (hk.keptBut _),fun _=>?_⟩
 ·rw[hps,List.mem_append]at hp
  exact Or.inr hp
 ·have hlt:=hW.lt
  obtain⟨_,_,_,_,_,hz,hn⟩:=hW
  refine⟨hok,_,_,([]++pa)++pv,⟨[]++pa,pv,trodAll_append (hargs _ (fun _ _=>rfl)) (hres _ _ _),hvars _ (fun _ _=>rfl),rfl,?_,?_⟩,?_⟩
  ·intro b off hp
   have hp':MemPlace.cell b off∈before:=by rw[hps];simpa using hp
   rw[hk.frozen _ (hlt _ hp')]
   exact hz b off hp'
  ·intro ha
   have:=hn ha
   rw[hps]at this
   simpa using this
  ·intro p hp _
   rw[hps]
   simpa using hp
end
structure CY.le(F G:CY):Prop where
 code:∀ {rnd:Option Nat} {c:Ai} {var:List AV} {marks:List Nat} {s:AE} {r:Au},F.code rnd c var marks s=some r→G.code rnd c var marks s=some r
 call:∀ {f:FuncId} {aS:List AV} {s:AE} {p:AV×AE},F.call f aS s=some p→G.call f aS s=some p
 round:∀ {l:Nat} {aS:List AV} {s:AE} {p:AV×AE},F.round l aS s=some p→G.round l aS s=some p
section
variable{F G:CY}
theorem H9(h:F.le G){f:AV}{aS:List AV}{s:AE}{p:AV×AE}(hc:FT F f aS s=some p):FT G f aS s=some p:=by
 unfold FT at hc ⊢
 split at hc
 ·exact h.call hc
 ·exact h.round hc
 ·cases hc
theorem Lq(h:F.le G){sh:Sh}{xs:List CX}{loc var:List AV}{s:AE}{p:AV×AE}(hc:Wo F sh xs loc var s=some p):Wo G sh xs loc var s=some p:=by
 cases sh<;>first | exact hc | exact h.call hc | skip
 cases xs with
 | nil=>cases hc
 | cons x xs=>exact H9 h hc
theorem En(it:AD)(l:List AD)(loc var:List AV)(s:AE):Cu F (it::l) loc var s=IY F it (Cu F l) loc var s:=rfl
theorem GK{k k':Pd}(hk:∀loc var s p,k loc var s=some p→k' loc var s=some p){ag:List EX}{d:Gc}{loc var:List AV}{v:AV}{s:AE}{p:List AV×AE}(h:Bo ag d k loc var v s=some p):Bo ag d k' loc var v s=some p:=by
  cases d with
  | push =>
    simp only[Bo]at h ⊢
    cases hb:Cr s (v::loc) var ag with
    | true=>rw[hb]at h;exact hk _ _ _ _ h
    | false=>rw[hb]at h;cases h
  | set j =>
    simp only[Bo]at h ⊢
    cases hb:Cr s loc (upd v var j) ag with
    | true=>rw[hb]at h;exact hk _ _ _ _ h
    | false=>rw[hb]at h;cases h
theorem Eo(h:F.le G):∀ (l:List AD)(loc var:List AV)(s:AE)(p:List AV×AE),Cu F l loc var s=some p→Cu G l loc var s=some p:=by
 intro l
 induction l with
 | nil=>intro loc var s p hp;exact hp
 | cons it l ih =>
  intro loc var s p hp
  rw[En]at hp ⊢
  unfold IY at hp ⊢
  cases hw:Ay loc var it.guard with
  | true =>
   rw[hw]at hp
   simp only at hp ⊢
   unfold Hj at hp ⊢
   cases hs:Wo F it.sh it.xs loc var s with
   | none=>rw[hs]at hp;cases hp
   | some q=>rw[hs]at hp;rw[Lq h hs];exact GK ih hp
  | false =>
   rw[hw]at hp
   exact GK ih hp
theorem H8(h:F.le G){rnd:Option Nat}{b:Ai}{r res:Au}(hc:FS F rnd b r=some res):FS G rnd b r=some res:=by
 unfold FS at hc ⊢
 split at hc
 ·exact h.code hc
 ·exact hc
theorem GA(h:F.le G){var:List AV}{f:AV}{params:Array Tmp}{assign body:Code}{fn:FuncId}{dfr:Nat}{marks:List Nat}{s:AE}{res:Au}
  (hc:EF F var f params assign body fn dfr marks s=some res):EF G var f params assign body fn dfr marks s=some res:=by
 unfold EF Gg at hc ⊢
 simp only[ZA]at hc ⊢
 obtain⟨q,h1,rest⟩:=hc
 have h':CY.le { F with round:=fun _ _ _=>none } { G with round:=fun _ _ _=>none }:=⟨h.code,h.call,fun h=>by cases h⟩
 exact⟨q,H9 h' h1,rest⟩
theorem M4(h:F.le G){rnd:Option Nat}{c:Ai}{var:List AV}{marks:List Nat}{s:AE}{res:Au}(hc:CB F rnd c var marks s=some res):CB G rnd c var marks s=some res:=by
  cases c with
  | skip=>exact hc
  | ret=>exact hc
  | exit id=>exact hc
  | never=>exact hc
  | ops l =>
    simp only[CB,TV]at hc ⊢
    cases hi:Cu F l [] var s with
    | none=>rw[hi]at hc;cases hc
    | some p=>rw[hi]at hc;rw[Eo h _ _ _ _ _ hi];exact hc
  | seq a b =>
    simp only[CB]at hc ⊢
    unfold GB at hc ⊢
    cases ha:F.code rnd a var marks s with
    | none=>rw[ha]at hc;cases hc
    | some r=>rw[ha]at hc;rw[h.code ha];exact H8 h hc
  | cond x a b =>
    simp only[CB]at hc ⊢
    unfold K6 at hc ⊢
    split at hc
    · split at hc
      · exact h.code hc
      · exact h.code hc
    · cases hc
  | block id c =>
    simp only[CB]at hc ⊢
    unfold H6 at hc ⊢
    cases ha:F.code rnd c var marks s with
    | none=>rw[ha]at hc;cases hc
    | some r=>rw[ha]at hc;rw[h.code ha];exact hc
  | loop c =>
    simp only[CB]at hc ⊢
    unfold GB at hc ⊢
    cases ha:F.code rnd c var marks s with
    | none=>rw[ha]at hc;cases hc
    | some r=>rw[ha]at hc;rw[h.code ha];exact H8 h hc
  | rangeFunc fn f params assign body =>
    simp only[CB]at hc ⊢
    unfold J4 at hc ⊢
    cases rnd with
    | none=>exact GA h hc
    | some l =>
      simp only[ZA]at hc ⊢
      obtain⟨r,h1,h2⟩:=hc
      exact⟨r,h1,GA h h2⟩
theorem M5(h:F.le G){E:Bt}{f:FuncId}{aS:List AV}{s:AE}{p:AV×AE}(hc:Ff E F f aS s=some p):Ff E G f aS s=some p:=by
 unfold Ff at hc ⊢
 cases hn:E.nat f aS s with
 | some q=>rw[hn]at hc;exact hc
 | none =>
  rw[hn]at hc
  simp only at hc ⊢
  unfold Ee at hc ⊢
  simp only[ZA]at hc ⊢
  obtain⟨cf,h1,h2⟩:=hc
  refine⟨cf,h1,?_⟩
  cases hb:Nat.beq aS.length cf.na with
  | false=>rw[hb]at h2;cases h2
  | true =>
   rw[hb]at h2
   simp only[cond_true]at h2 ⊢
   unfold He at h2 ⊢
   simp only[ZA]at h2 ⊢
   obtain⟨r,h3,h4⟩:=h2
   exact⟨r,h.code h3,h4⟩
theorem M6(h:F.le G){E:Bt}{l:Nat}{aS:List AV}{s:AE}{p:AV×AE}(hc:Jl E F l aS s=some p):Jl E G l aS s=some p:=by
 unfold Jl at hc ⊢
 simp only[ZA]at hc ⊢
 obtain⟨r,h1,var,h2,ca,h3,cb,h4,hc⟩:=hc
 refine⟨r,h1,var,h2,ca,h3,cb,h4,?_⟩
 unfold Gx at hc ⊢
 simp only[ZA]at hc ⊢
 obtain⟨q,h5,hc⟩:=hc
 refine⟨q,h.code h5,?_⟩
 cases hn:IW q.exit with
 | false=>rw[hn]at hc;cases hc
 | true =>
  rw[hn]at hc
  simp only[cond_true,ZA]at hc ⊢
  obtain⟨r2,h6,hc⟩:=hc
  refine⟨r2,h6,?_⟩
  cases hr:KE r2.state with
  | false=>rw[hr]at hc;cases hc
  | true =>
   rw[hr]at hc
   simp only[cond_true]at hc ⊢
   unfold It at hc ⊢
   simp only[ZA]at hc ⊢
   obtain⟨q2,h7,rest⟩:=hc
   exact⟨q2,h.code h7,rest⟩
end
theorem Kf(E:Bt):∀n,(Ci E n).le (Ci E (n+1)):=by
 intro n
 induction n with
 | zero=>exact⟨fun h=>(by cases h),fun h=>(by cases h),fun h=>(by cases h)⟩
 | succ n ih=>exact⟨fun h=>M4 ih h,fun h=>M5 ih h,fun h=>M6 ih h⟩
theorem CY.le.refl(F:CY):F.le F:=⟨id,id,id⟩
theorem CY.le.trans{F G H:CY}(h:F.le G)(k:G.le H):F.le H:=⟨fun x=>k.code (h.code x),fun x=>k.call (h.call x),fun x=>k.round (h.round x)⟩
theorem GT(E:Bt){n m:Nat}(h:n≤m):(Ci E n).le (Ci E m):=by
 induction h with
 | refl=>exact CY.le.refl _
 | step _ ih=>exact ih.trans (Kf E _)
section
variable(E:Bt)
def WC(rnd:Option Nat)(c:Ai)(Q:Au→Prop)(var:List AV)(marks:List Nat)(s:AE):Prop:=∃n r,(Ci E n).code rnd c var marks s=some r∧Q r
def WI(l:List AD)(K:List AV→AE→Prop)(loc var:List AV)(s:AE):Prop:=∃n p,Cu (Ci E n) l loc var s=some p∧K p.1 p.2
def WF(f:FuncId)(aS:List AV)(K:AV→AE→Prop)(s:AE):Prop:=∃n p,(Ci E n).call f aS s=some p∧K p.1 p.2
def WR(l:Nat)(aS:List AV)(K:AV→AE→Prop)(s:AE):Prop:=∃n p,(Ci E n).round l aS s=some p∧K p.1 p.2
end
section
variable{E:Bt}{rnd:Option Nat}{Q Q':Au→Prop}{var loc:List AV}{marks:List Nat}{s:AE}{K K':AV→AE→Prop}{KI:List AV→AE→Prop}
theorem WC.mono{c:Ai}(h:WC E rnd c Q var marks s)(hq:∀r,Q r→Q' r):WC E rnd c Q' var marks s:=let ⟨n,r,h1,h2⟩:=h;⟨n,r,h1,hq r h2⟩
theorem WF.mono{f:FuncId}{aS:List AV}(h:WF E f aS K s)(hq:∀v s',K v s'→K' v s'):WF E f aS K' s:=let ⟨n,r,h1,h2⟩:=h;⟨n,r,h1,hq _ _ h2⟩
theorem WC.skip(h:Q ⟨.normal,var,marks,s⟩):WC E rnd .skip Q var marks s:=⟨1,_,rfl,h⟩
theorem WC.ret(h:Q ⟨.ret,var,marks,s⟩):WC E rnd .ret Q var marks s:=⟨1,_,rfl,h⟩
theorem WC.exit{id:Nat}(h:Q ⟨.exit id,var,marks,s⟩):WC E rnd (.exit id) Q var marks s:=⟨1,_,rfl,h⟩
def OP(E:Bt)(rnd:Option Nat)(b:Ai)(Q:Au→Prop)(r:Au):Prop:=match r.exit with
 | .normal=>WC E rnd b Q r.var r.marks r.st
 | _=>Q r
theorem Lp{a b:Ai}{n:Nat}{r:Au}(h1:(Ci E n).code rnd a var marks s=some r)(h2:OP E rnd b Q r):∃m res,GB (Ci E m) rnd b ((Ci E m).code rnd a var marks s)=some res∧Q res:=by
 unfold OP at h2
 cases he:r.exit with
 | normal =>
  rw[he]at h2
  obtain⟨m,res,h3,h4⟩:=h2
  refine⟨max n m,res,?_,h4⟩
  rw[(GT E (Nat.le_max_left n m)).code h1]
  simp only[GB,FS,he]
  exact(GT E (Nat.le_max_right n m)).code h3
 | exit id=>rw[he]at h2;exact⟨n,r,by rw[h1];simp only[GB,FS,he],h2⟩
 | ret=>rw[he]at h2;exact⟨n,r,by rw[h1];simp only[GB,FS,he],h2⟩
theorem WC.seq{a b:Ai}(h:WC E rnd a (OP E rnd b Q) var marks s):WC E rnd (.seq a b) Q var marks s:=by
 obtain⟨n,r,h1,h2⟩:=h
 obtain⟨m,res,h3,h4⟩:=Lp h1 h2
 exact⟨m+1,res,h3,h4⟩
theorem WC.loop{c:Ai}(h:WC E rnd c (OP E rnd (.loop c) Q) var marks s):WC E rnd (.loop c) Q var marks s:=by
 obtain⟨n,r,h1,h2⟩:=h
 obtain⟨m,res,h3,h4⟩:=Lp h1 h2
 exact⟨m+1,res,h3,h4⟩
theorem WC.cond{x:CX}{a b:Ai}{t:Bool}(hx:B8 [] var x=.bool t)(h:WC E rnd (bif t then a else b) Q var marks s):WC E rnd (.cond x a b) Q var marks s:=by
 obtain⟨n,r,h1,h2⟩:=h
 refine⟨n+1,r,?_,h2⟩
 show CB (Ci E n) rnd (.cond x a b) var marks s=some r
 simp only[CB,K6,hx]
 cases t<;>exact h1
def A2(id:Nat)(Q:Au→Prop)(r:Au):Prop:=match r.exit with
 | .exit id'=>bif Nat.beq id' id then Q ⟨.normal,r.var,r.marks,r.st⟩else Q r
 | _=>Q r
theorem WC.block{id:Nat}{c:Ai}(h:WC E rnd c (A2 id Q) var marks s):WC E rnd (.block id c) Q var marks s:=by
 obtain⟨n,r,h1,h2⟩:=h
 unfold A2 at h2
 have:∃res,Hd id r=some res∧Q res:=by
  unfold Hd
  split at h2
  ·rename_i id' he
   try simp only[he]
   cases hb:Nat.beq id' id with
   | true=>rw[hb]at h2;exact⟨_,rfl,h2⟩
   | false=>rw[hb]at h2;exact⟨_,rfl,h2⟩
  ·rename_i hne
   cases he:r.exit with
   | normal=>exact⟨r,rfl,h2⟩
   | ret=>exact⟨r,rfl,h2⟩
   | exit id'=>exact absurd he (hne id')
 obtain⟨res,h3,h4⟩:=this
 refine⟨n+1,res,?_,h4⟩
 show CB (Ci E n) rnd (.block id c) var marks s=some res
 simp only[CB,H6,h1,h3]
theorem WC.ops{l:List AD}(h:WI E l (fun v s'=>Q ⟨.normal,v,marks,s'⟩) [] var s):WC E rnd (.ops l) Q var marks s:=by
 obtain⟨n,p,h1,h2⟩:=h
 refine⟨n+1,⟨.normal,p.1,marks,p.2⟩,?_,h2⟩
 show CB (Ci E n) rnd (.ops l) var marks s=_
 simp only[CB,TV,h1]
theorem WI.nil(h:KI var s):WI E [] KI loc var s:=⟨0,_,rfl,h⟩
def W6(E:Bt)(ag:List EX)(d:Gc)(l:List AD)(KI:List AV→AE→Prop)(loc var:List AV)(v:AV)(s:AE):Prop:=match d with
 | .push=>Cr s (v::loc) var ag=true∧WI E l KI (v::loc) var s
 | .set j=>Cr s loc (upd v var j) ag=true∧WI E l KI loc (upd v var j) s
theorem Nb{ag:List EX}{d:Gc}{l:List AD}{v:AV}(h:W6 E ag d l KI loc var v s):∃n p,(∀m,n≤m→Bo ag d (Cu (Ci E m) l) loc var v s=some p)∧KI p.1 p.2:=by
 cases d with
 | push =>
  obtain⟨h1,n,p,h2,h3⟩:=h
  exact⟨n,p,fun m hm=>by simp only[Bo,h1,cond_true];exact Eo (GT E hm) _ _ _ _ _ h2,h3⟩
 | set j =>
  obtain⟨h1,n,p,h2,h3⟩:=h
  exact⟨n,p,fun m hm=>by simp only[Bo,h1,cond_true];exact Eo (GT E hm) _ _ _ _ _ h2,h3⟩
theorem WI.item{it:AD}{l:List AD}{n:Nat}{p:AV×AE}(hw:Ay loc var it.guard=true)(hs:Wo (Ci E n) it.sh it.xs loc var s=some p)(h:W6 E it.again it.dst l KI loc var p.1 p.2):WI E (it::l) KI loc var s:=by
 obtain⟨m,q,h1,h2⟩:=Nb h
 refine⟨max n m,q,?_,h2⟩
 rw[En]
 unfold IY
 rw[hw]
 simp only[Hj,Lq (GT E (Nat.le_max_left n m)) hs]
 exact h1 _ (Nat.le_max_right n m)
theorem WI.off{it:AD}{l:List AD}(hw:Ay loc var it.guard=false)(h:W6 E [] it.dst l KI loc var A1 s):WI E (it::l) KI loc var s:=by
 obtain⟨m,q,h1,h2⟩:=Nb h
 refine⟨m,q,?_,h2⟩
 rw[En]
 unfold IY
 rw[hw]
 exact h1 _ (Y9 m)
def Ends(P:Program)(rs:List (CX×Option TypeId))(K:AV→AE→Prop)(r:Au):Prop:=Nk r.exit=true∧∃s',CR r.st r.marks=some s'∧∃l,A6 P s' r.var rs=some l∧K (Aw l) s'
theorem WF.body{f:FuncId}{aS:List AV}{cf:BC}(hn:E.nat f aS s=none)(hf:AT E.P f=some cf)(ha:aS.length=cf.na)(h:WC E none cf.body (Ends E.P cf.results K) (Ql aS cf.nv) [] s):WF E f aS K s:=by
 obtain⟨n,r,h1,h2,s',h3,l,h4,h5⟩:=h
 refine⟨n+1,(Aw l,s'),?_,h5⟩
 show Ff E (Ci E n) f aS s=_
 simp[Ff,hn,Ee,hf,ha,He,h1,h2,h3,h4]
end
def KZ{α:Type}(x:Option α)(K:α→Prop):Prop:=match x with
 | some v=>K v
 | none=>False
theorem Qm{α:Type}(v:α)(K:α→Prop):KZ (some v) K=K v:=Eq.trans rfl rfl
section
variable(E:Bt)
def Qe(f:AV)(aS:List AV)(K:AV→AE→Prop)(s:AE):Prop:=match f with
 | .func f first cap=>WF E f (first++(aS++cap)) K s
 | .yield l=>WR E l aS K s
 | _=>False
def Qc(sh:Sh)(xs:List AV)(K:AV→AE→Prop)(s:AE):Prop:=match sh with
 | .p1 f=>match xs with
  | a::_=>KZ (f a) (fun v=>K v s)
  | []=>False
 | .p2 f=>match xs with
  | a::b::_=>KZ (f a b) (fun v=>K v s)
  | _=>False
 | .p f=>KZ (f xs) (fun v=>K v s)
 | .r1 f=>match xs with
  | a::_=>KZ (f s a) (fun v=>K v s)
  | []=>False
 | .r f=>KZ (f s xs) (fun v=>K v s)
 | .mk f=>KZ (f xs) (fun p=>K (p.2.val s.next) (newObj s p.1))
 | .e f=>KZ (f s xs) (fun p=>K p.1 p.2)
 | .call f=>WF E f xs K s
 | .callv=>match xs with
  | f::aS=>Qe E f aS K s
  | []=>False
def Qh (loc var:List AV):List CX→List AV
 | []=>[]
 | x::l=>B8 loc var x::Qh loc var l
def Qn(s:AE)(loc var:List AV):List EX→Prop
 | []=>True
 | r::l=>Ea s loc var r=true∧Qn s loc var l
def Qd(ag:List EX)(d:Gc)(loc var:List AV)(k:List AV→List AV→AE→Prop)(v:AV)(s:AE):Prop:=match d with
 | .push=>Qn s (v::loc) var ag∧k (v::loc) var s
 | .set j=>Qn s loc (upd v var j) ag∧k loc (upd v var j) s
def NY(v:AV)(x y:List AV→List Nat→AE→Prop)(var:List AV)(marks:List Nat)(s:AE):Prop:=match v with
 | .bool true=>x var marks s
 | .bool false=>y var marks s
 | _=>False
def Kg(k:List AV→List Nat→AE→Prop)(Q:Au→Prop)(r:Au):Prop:=match r.exit with
 | .normal=>k r.var r.marks r.st
 | _=>Q r
def Yh(b:Bool)(sh:Sh)(xs:List AV)(ag:List EX)(d:Gc)(loc var:List AV)(k:List AV→List AV→AE→Prop)(s:AE):Prop:=match b with
 | true=>Qc E sh xs (Qd ag d loc var k) s
 | false=>Qd [] d loc var k A1 s
def Qb:List AD→(List AV→AE→Prop)→List AV→List AV→AE→Prop
 | [],K,_,var,s=>K var s
 | it::l,K,loc,var,s=>Yh E (Ay loc var it.guard) it.sh (Qh loc var it.xs) it.again it.dst loc var (Qb l K) s
def Qa(rnd:Option Nat):Ai→(Au→Prop)→List AV→List Nat→AE→Prop
 | .skip,Q,var,marks,s=>Q ⟨.normal,var,marks,s⟩
 | .ret,Q,var,marks,s=>Q ⟨.ret,var,marks,s⟩
 | .exit id,Q,var,marks,s=>Q ⟨.exit id,var,marks,s⟩
 | .never,_,_,_,_=>False
 | .ops l,Q,var,marks,s=>Qb E l (fun v s'=>Q ⟨.normal,v,marks,s'⟩) [] var s
 | .seq a b,Q,var,marks,s=>Qa rnd a (Kg (Qa rnd b Q) Q) var marks s
 | .cond x a b,Q,var,marks,s=>NY (B8 [] var x) (Qa rnd a Q) (Qa rnd b Q) var marks s
 | .block id c,Q,var,marks,s=>Qa rnd c (A2 id Q) var marks s
 | .loop c,Q,var,marks,s=>WC E rnd (.loop c) Q var marks s
 | .rangeFunc fn f ps a b,Q,var,marks,s=>WC E rnd (.rangeFunc fn f ps a b) Q var marks s
end
section
variable{E:Bt}{rnd:Option Nat}{Q Q':Au→Prop}{var loc:List AV}{marks:List Nat}{s:AE}{K K':AV→AE→Prop}{KI:List AV→AE→Prop}
theorem OL:∀ (l:List CX),Qh loc var l=Ca loc var l
 | []=>rfl
 | x::l=>by show B8 loc var x::Qh loc var l=B8 loc var x::Ca loc var l;rw[OL l]
theorem Hy:∀ {l:List EX},Qn s loc var l→Cr s loc var l=true
 | [],_=>rfl
 | r::l,h=>by show(Ea s loc var r && Cr s loc var l)=true;rw[h.1,Hy h.2];rfl
theorem EO{α:Type}{x:Option α}{K:α→Prop}(h:KZ x K):∃v,x=some v∧K v:=by
 cases x with
 | none=>exact h.elim
 | some v=>exact⟨v,rfl,h⟩
theorem UH{f:AV}{aS:List AV}(h:Qe E f aS K s):∃n p,FT (Ci E n) f aS s=some p∧K p.1 p.2:=by
 cases f with
 | func f first cap=>obtain⟨n,p,h1,h2⟩:=h;exact⟨n,p,h1,h2⟩
 | yield l=>obtain⟨n,p,h1,h2⟩:=h;exact⟨n,p,h1,h2⟩
 | _=>exact h.elim
theorem UG      {sh : Sh} {xs : List CX} (h : Qc E sh (Qh loc var xs) K s) : ∃ n p, Wo  (Ci   E n) sh xs loc var s = some p ∧ K p.1 p.2 := by
  rw[OL]at h
  cases sh with
  | p1 f =>
    cases xs with
    | nil=>exact h.elim
    | cons x l =>
      obtain⟨v,h1,h2⟩:=EO h
      exact⟨0,(v,s),by show CW s (f (B8 loc var x))=_;rw[h1];rfl,h2⟩
  | p2 f =>
    cases xs with
    | nil=>exact h.elim
    | cons x l =>
      cases l with
      | nil=>exact h.elim
      | cons y l =>
        obtain⟨v,h1,h2⟩:=EO h
        exact⟨0,(v,s),by show CW s (f (B8 loc var x) (B8 loc var y))=_;rw[h1];rfl,h2⟩
  | p f =>
    obtain⟨v,h1,h2⟩:=EO h
    exact⟨0,(v,s),by show CW s (f (Ca loc var xs))=_;rw[h1];rfl,h2⟩
  | r1 f =>
    cases xs with
    | nil=>exact h.elim
    | cons x l =>
      obtain⟨v,h1,h2⟩:=EO h
      exact⟨0,(v,s),by show CW s (f s (B8 loc var x))=_;rw[h1];rfl,h2⟩
  | r f =>
    obtain⟨v,h1,h2⟩:=EO h
    exact⟨0,(v,s),by show CW s (f s (Ca loc var xs))=_;rw[h1];rfl,h2⟩
  | mk f =>
    obtain⟨v,h1,h2⟩:=EO h
    exact⟨0,(v.2.val s.next,newObj s v.1),by show LT s (f (Ca loc var xs))=_;rw[h1];rfl,h2⟩
  | e f =>
    obtain⟨v,h1,h2⟩:=EO h
    exact⟨0,v,h1,h2⟩
  | call f=>obtain⟨n,p,h1,h2⟩:=h;exact⟨n,p,h1,h2⟩
  | callv =>
    cases xs with
    | nil=>exact h.elim
    | cons x l=>exact UH h
theorem UF:∀ {l:List AD}{loc var:List AV}{s:AE},Qb E l KI loc var s→WI E l KI loc var s:=by
 intro l
 induction l with
 | nil=>intro loc var s h;exact WI.nil h
 | cons it l ih =>
  intro loc var s h
  have dst:∀ {ag:List EX} {v:AV} {s:AE},Qd ag it.dst loc var (Qb E l KI) v s→W6 E ag it.dst l KI loc var v s:=by
   intro ag v s h
   unfold Qd at h
   unfold W6
   cases hd:it.dst with
   | push=>rw[hd]at h;exact⟨Hy h.1,ih h.2⟩
   | set j=>rw[hd]at h;exact⟨Hy h.1,ih h.2⟩
  unfold Qb at h
  cases hw:Ay loc var it.guard with
  | true =>
   rw[hw]at h
   have h:Qc E it.sh (Qh loc var it.xs) (Qd it.again it.dst loc var (Qb E l KI)) s:=h
   obtain⟨n,p,h1,h2⟩:=UG h
   exact WI.item hw h1 (dst h2)
  | false =>
   rw[hw]at h
   have h:Qd [] it.dst loc var (Qb E l KI) A1 s:=h
   exact WI.off hw (dst h)
theorem OM:∀ {c:Ai}{Q:Au→Prop}{var:List AV}{marks:List Nat}{s:AE},Qa E rnd c Q var marks s→WC E rnd c Q var marks s:=by
 intro c
 induction c with
 | skip=>intro Q var marks s h;exact WC.skip h
 | ret=>intro Q var marks s h;exact WC.ret h
 | exit id=>intro Q var marks s h;exact WC.exit h
 | never=>intro Q var marks s h;exact h.elim
 | ops l=>intro Q var marks s h;exact WC.ops (UF h)
 | seq a b iha ihb =>
  intro Q var marks s h
  refine WC.seq ((iha h).mono ?_)
  intro r hr
  unfold Kg at hr
  unfold OP
  cases he:r.exit with
  | normal=>rw[he]at hr;exact ihb hr
  | exit id=>rw[he]at hr;exact hr
  | ret=>rw[he]at hr;exact hr
 | cond x a b iha ihb =>
  intro Q var marks s h
  unfold Qa NY at h
  split at h<;>first | exact h.elim | skip
  ·rename_i ht;exact WC.cond ht (iha h)
  ·rename_i ht;exact WC.cond ht (ihb h)
 | block id c ih=>intro Q var marks s h;exact WC.block (ih h)
 | loop c _=>intro Q var marks s h;exact h
 | rangeFunc fn f ps a b=>intro Q var marks s h;exact h
theorem WC.loop'{c:Ai}(h:Qa E rnd c (Kg (WC E rnd (.loop c) Q) Q) var marks s):WC E rnd (.loop c) Q var marks s:=by
 refine WC.loop ((OM h).mono ?_)
 intro r hr
 unfold Kg at hr
 unfold OP
 cases he:r.exit with
 | normal=>rw[he]at hr;exact hr
 | exit id=>rw[he]at hr;exact hr
 | ret=>rw[he]at hr;exact hr
theorem WF.body'{f:FuncId}{aS:List AV}{cf:BC}(hn:E.nat f aS s=none)(hf:AT E.P f=some cf)(ha:aS.length=cf.na)(h:Qa E none cf.body (Ends E.P cf.results K) (Ql aS cf.nv) [] s):WF E f aS K s:=WF.body hn hf ha (OM h)
end
theorem Qq(a:AV)(l:List AV):JC (a::l) 0=a:=rfl
theorem Qr(a:AV)(l:List AV)(n:Nat):JC (a::l) (n+1)=JC l n:=rfl
theorem Qo(v a:AV)(l:List AV):upd v (a::l) 0=v::l:=rfl
theorem Qp(v a:AV)(l:List AV)(n:Nat):upd v (a::l) (n+1)=a::upd v l n:=rfl
theorem Qk(loc var:List AV)(i:Nat):B8 loc var (.loc i)=JC loc i:=rfl
theorem Qj(loc var:List AV)(i:Nat):B8 loc var (.var i)=JC var i:=rfl
theorem Qi(loc var:List AV)(v:AV):B8 loc var (.const v)=v:=rfl
theorem Qf(loc var:List AV):Ay loc var none=true:=rfl
theorem Qg(loc var:List AV)(x:CX)(b:Bool):Ay loc var (some (x,b))=W3 b (B8 loc var x):=rfl
theorem Qs(E:Bt)(sh:Sh)(xs:List AV)(ag:List EX)(d:Gc)(loc var:List AV)(k:List AV→List AV→AE→Prop)(s:AE):Yh E true sh xs ag d loc var k s=Qc E sh xs (Qd ag d loc var k) s:=rfl
theorem Qt(E:Bt)(sh:Sh)(xs:List AV)(ag:List EX)(d:Gc)(loc var:List AV)(k:List AV→List AV→AE→Prop)(s:AE):Yh E false sh xs ag d loc var k s=Qd [] d loc var k A1 s:=rfl
theorem Qu(x y:List AV→List Nat→AE→Prop)(var:List AV)(m:List Nat)(s:AE):NY (.bool true) x y var m s=x var m s:=rfl
theorem Qv(x y:List AV→List Nat→AE→Prop)(var:List AV)(m:List Nat)(s:AE):NY (.bool false) x y var m s=y var m s:=rfl
theorem Qw(k:List AV→List Nat→AE→Prop)(Q:Au→Prop)(v:List AV)(m:List Nat)(s:AE):Kg k Q ⟨.normal,v,m,s⟩=k v m s:=rfl
theorem Qx(k:List AV→List Nat→AE→Prop)(Q:Au→Prop)(v:List AV)(m:List Nat)(s:AE):Kg k Q ⟨.ret,v,m,s⟩=Q ⟨.ret,v,m,s⟩:=rfl
theorem Qy(k:List AV→List Nat→AE→Prop)(Q:Au→Prop)(id:Nat)(v:List AV)(m:List Nat)(s:AE):Kg k Q ⟨.exit id,v,m,s⟩=Q ⟨.exit id,v,m,s⟩:=rfl
theorem Qz(id:Nat)(Q:Au→Prop)(v:List AV)(m:List Nat)(s:AE):A2 id Q ⟨.normal,v,m,s⟩=Q ⟨.normal,v,m,s⟩:=rfl
theorem Ra(id:Nat)(Q:Au→Prop)(v:List AV)(m:List Nat)(s:AE):A2 id Q ⟨.ret,v,m,s⟩=Q ⟨.ret,v,m,s⟩:=rfl
theorem Rb(id id':Nat)(Q:Au→Prop)(v:List AV)(m:List Nat)(s:AE):A2 id Q ⟨.exit id',v,m,s⟩=if id'=id then Q ⟨.normal,v,m,s⟩else Q ⟨.exit id',v,m,s⟩:=by
 unfold A2
 by_cases h:id'=id
 ·subst h;simp
 ·have:Nat.beq id' id=false:=by
   cases hb:Nat.beq id' id with
   | true=>exact absurd (ZR hb) h
   | false=>rfl
  simp[h,this]
theorem Rc(P:Program)(rs:List (CX×Option TypeId))(K:AV→AE→Prop)(v:List AV)(m:List Nat)(s:AE):Ends P rs K ⟨.ret,v,m,s⟩=KZ (CR s m) (fun s'=>KZ (A6 P s' v rs) (fun l=>K (Aw l) s')):=by
 unfold Ends
 apply propext
 constructor
 ·rintro⟨_,s',h1,l,h2,h3⟩
  have h1:CR s m=some s':=h1
  have h2:A6 P s' v rs=some l:=h2
  rw[h1,Qm,h2,Qm];exact h3
 ·intro h
  obtain⟨s',h1,h⟩:=EO h
  obtain⟨l,h2,h3⟩:=EO h
  exact⟨rfl,s',h1,l,h2,h3⟩
theorem Rd(P:Program)(rs:List (CX×Option TypeId))(K:AV→AE→Prop)(v:List AV)(m:List Nat)(s:AE):Ends P rs K ⟨.normal,v,m,s⟩=KZ (CR s m) (fun s'=>KZ (A6 P s' v rs) (fun l=>K (Aw l) s')):=by
 rw[← Rc];rfl
theorem Re(s:AE):CR s []=some s:=rfl
theorem Rf(P:Program)(s:AE)(v:List AV):A6 P s v []=some []:=rfl
theorem Rg(P:Program)(s:AE)(v:List AV)(x:CX)(l:List (CX×Option TypeId)):A6 P s v ((x,none)::l)=(A6 P s v l).bind fun r=>some (B8 [] v x::r):=rfl
theorem Rh(v:AV):Aw [v]=v:=rfl
theorem Ri:Aw []=.tuple []:=rfl
theorem Rj(v w:AV)(l:List AV):Aw (v::w::l)=.tuple (v::w::l):=rfl
theorem Rk(w:Bool):W3 w A1=false:=rfl
theorem Rl(b:Bool):W3 true (.bool b)=b:=by cases b<;>rfl
theorem Rm(b:Bool):W3 false (.bool b)=!b:=by cases b<;>rfl
theorem Ya:(!true)=false:=rfl
theorem Yb:(!false)=true:=rfl
theorem Yc{α β:Type _}(a:α)(f:α→Option β):(some a).bind f=f a:=rfl
theorem Yd{α:Type _}(a:α)(l:List α):(a::l)[0]? = some a:=rfl
theorem Ye{α:Type _}(a:α)(l:List α)(i:Nat):(a::l)[i+1]? = l[i]? := rfl
abbrev iv(n:Int):AV:=.int .i64 n
def i64(n:Int):Prop:=-9223372036854775808≤n∧n<9223372036854775808
theorem TI{k:IntKind}{n:Int}(h:A4 k n=true):EW k n=n:=by unfold EW;rw[h];rfl
theorem BN{n:Int}(h:i64 n):A4 .i64 n=true:=by
 obtain⟨h1,h2⟩:=h
 cases n with
 | ofNat m=>simp only[A4,ZN];simp at h2;omega
 | negSucc m=>simp only[A4,ZN];omega
theorem Lz{n:Int}(h:i64 n):EW .i64 n=n:=TI (BN h)
section
variable(P:Program)(t:TypeId)(a b:Int)
theorem Rq:AU P .lss t (iv a) (iv b)=some (.bool (decide (a<b))):=by
 show some (AV.bool (KP a b))=_
 rw[Cg]
theorem Rs:AU P .gtr t (iv a) (iv b)=some (.bool (decide (b<a))):=by
 show some (AV.bool (KP b a))=_
 rw[Cg]
theorem Rt:AU P .leq t (iv a) (iv b)=some (.bool (decide (a≤b))):=by
 show some (AV.bool (!KP b a))=_
 rw[Cg,← decide_not]
 congr 3
 exact propext Int.not_lt
theorem Ru:AU P .geq t (iv a) (iv b)=some (.bool (decide (b≤a))):=by
 show some (AV.bool (!KP a b))=_
 rw[Cg,← decide_not]
 congr 3
 exact propext Int.not_lt
theorem Rw:AU P .eql t (iv a) (iv b)=some (.bool (decide (a=b))):=by
 show some (AV.bool (Nd a b))=_
 rw[DS];rfl
theorem Rx:AU P .neq t (iv a) (iv b)=some (.bool (decide (a≠b))):=by
 show some (AV.bool (!Nd a b))=_
 rw[DS,decide_not];rfl
theorem By(h:i64 (a+b)):AU P .add t (iv a) (iv b)=some (iv (a+b)):=by
 show some (AV.int .i64 (EW .i64 (a+b)))=_
 rw[Lz h]
theorem NI(h:i64 (a - b)):AU P .sub t (iv a) (iv b)=some (iv (a - b)):=by
 show some (AV.int .i64 (EW .i64 (a - b)))=_
 rw[Lz h]
theorem Ry(c:Bool):X8 P .not (.bool c)=some (.bool (!c)):=rfl
end
def B7(b:Nat)(s s':AE):Prop:=s.next≤s'.next∧∀i,i<b→s'.heap.get i=s.heap.get i
theorem B7.refl(b:Nat)(s:AE):B7 b s s:=⟨Y9 _,fun _ _=>rfl⟩
theorem B7.trans{b:Nat}{s s1 s2:AE}(h:B7 b s s1)(k:B7 b s1 s2):B7 b s s2:=⟨Za h.1 k.1,fun i hi=>(k.2 i hi).trans (h.2 i hi)⟩
theorem B7.mono{b b':Nat}{s s1:AE}(h:B7 b s s1)(k:b'≤b):B7 b' s s1:=⟨h.1,fun i hi=>h.2 i (ZS hi k)⟩
theorem BG(s:AE)(o:AX)(j:Nat):(newObj s o).heap.get j=if j=s.next then some o else s.heap.get j:=AG.get_set _ _ _ _
theorem LJ(s:AE)(i:Nat)(o:AX)(j:Nat):(setObj s i o).heap.get j=if j=i then some o else s.heap.get j:=AG.get_set _ _ _ _
theorem RR(s:AE)(i j:Nat):(Bd s i).heap.get j=if j=i then none else s.heap.get j:=AG.get_del _ _ _
theorem Oo{s:AE}{i o:Nat}{r:B0}{u:AV}(h:s.heap.get i=some (.row r))(ho:o<r.n)(hc:r.c.get o=some u):B9 s i o=some u:=by
 have hb:Nat.blt o r.n=true:=by simpa[ZX]using ho
 simp[B9,rowAt,h,AF,hb,hc]
def E7(b:Nat)(s:AE)(a:Option (Nat×Nat))(cs:List AV):Prop:=∀k u,cs[k]? = some u→∃i o,a=some (i,o)∧i<b∧B9 s i (o+k)=some u
theorem E7.nil{b:Nat}{s:AE}{a:Option (Nat×Nat)}:E7 b s a []:=fun k u h=>by simp at h
theorem Oy(k:Nat):Nu (k:Int)=some k:=rfl
theorem Ao{P:Program}{t e:TypeId}{n:Nat}(ht:P.underlying t=some (.slice e))(hs:An P e=some n){i o len k:Nat}{cap:Option Nat}(hk:k<len):
  AQ P t (.slice (some (i,o)) len cap) (iv (k:Int))=some (.ptr (some (i,o+k * n))):=by
 have hb:Nat.blt k len=true:=by simpa[ZX]using hk
 simp[AQ,idxOf,Oy,ht,hs,AF,hb]
theorem A8{P:Program}{t e:TypeId}(ht:P.underlying t=some (.slice e)){s:AE}{a:Option (Nat×Nat)}{n:Nat}{cap:Option Nat}:Ce P s t (.slice a n cap)=some (iv (n:Int)):=by
 simp[Ce,ht]
theorem BS{a b:Nat}(h:a≤b):Nat.ble a b=true:=by simpa[ZN]using h
theorem Ph{a b:Nat}(h:a<b):Nat.blt a b=true:=by simpa[ZX]using h
theorem Hz{a b:Nat}(h:a=b):Nat.beq a b=true:=by subst h;simp
theorem Hb{a b:Nat}(h:a≠b):Nat.beq a b=false:=by
 cases hb:Nat.beq a b with
 | true=>exact absurd (ZR hb) h
 | false=>rfl
theorem Jy{a b:Nat}(h:b<a):Nat.ble a b=false:=by
 cases hb:Nat.ble a b with
 | true=>rw[ZN]at hb;omega
 | false=>rfl
theorem T6{t:AG AV}:∀ (cs:List AV)(k:Nat),(∀j u,cs[j]? = some u→t.get (k+j)=some u)→t.take k cs.length=some cs:=by
 intro cs
 induction cs with
 | nil=>intro k _;rfl
 | cons c cs ih =>
  intro k h
  have h0:=h 0 c rfl
  simp only[ZC,AG.take]
  rw[show k+0=k from rfl]at h0
  rw[h0]
  simp only
  rw[ih (k+1) (fun j u hj=>by rw[show k+1+j=k+(j+1)from by omega];exact h (j+1) u (by simpa using hj))]
def Ht(r:B0)(cs:List AV):Prop:=r.n=cs.length∧∀k u,cs[k]? = some u→r.c.get k=some u
theorem Ht.take{r:B0}{cs:List AV}(h:Ht r cs)(o:Nat)(l:List AV)(hl:∀j u,l[j]? = some u→cs[o+j]? = some u):r.c.take o l.length=some l:=
 T6 l o fun j u hj=>h.2 _ u (hl j u hj)
theorem LQ{s:AE}{i:Nat}{r:B0}{cs:List AV}(hg:s.heap.get i=some (.row r))(h:Ht r cs)(o:Nat)(l:List AV)(hle:o+l.length≤cs.length)(hl:∀j u,l[j]? = some u→cs[o+j]? = some u):
  A9 s i o l.length=some l:=by
 simp[A9,rowAt,hg,AF,h.1,BS hle,h.take o l hl]
structure FL(e:TypeId)(lo hi:Nat)(s:AE)(v:AV)(n sz:Nat)(cs:List AV)(i:Nat)(p:Option Nat):Prop where
 len:cs.length=n * sz
 ex:(v=.slice none 0 (some 0)∧n=0)∨(v=.slice (some (i,0)) n none∧lo≤i∧i<hi∧(∀q,p=some q→lo≤q∧q<hi∧q≠i) ∧
  ∃r,s.heap.get i=some (.row r)∧Ht r cs∧r.spare=true∧r.mode=.own∧r.sz=sz∧r.par=p∧r.elem=e)
theorem FL.zero(e:TypeId)(lo hi:Nat)(s:AE)(sz:Nat)(i:Nat)(p:Option Nat):FL e lo hi s (.slice none 0 (some 0)) 0 sz [] i p:=⟨by simp,.inl ⟨rfl,rfl⟩⟩
theorem FL.frame{e:TypeId}{lo hi:Nat}{s s':AE}{v:AV}{n sz:Nat}{cs:List AV}{i:Nat}{p:Option Nat}(h:FL e lo hi s v n sz cs i p)(k:lo≤i→i<hi→s'.heap.get i=s.heap.get i):FL e lo hi s' v n sz cs i p:=by
 refine⟨h.len,?_⟩
 rcases h.ex with h1 | ⟨h1,h2,h3,h4,r,h5,h6⟩
 ·exact .inl h1
 ·exact .inr ⟨h1,h2,h3,h4,r,by rw[k h2 h3];exact h5,h6⟩
theorem FL.mono{e:TypeId}{lo hi hi':Nat}{s:AE}{v:AV}{n sz:Nat}{cs:List AV}{i:Nat}{p:Option Nat}(h:FL e lo hi s v n sz cs i p)(k:hi≤hi'):FL e lo hi' s v n sz cs i p:=by
 refine⟨h.len,?_⟩
 rcases h.ex with h1 | ⟨h1,h2,h3,h4,rest⟩
 ·exact .inl h1
 ·exact .inr ⟨h1,h2,by omega,fun q hq=>⟨(h4 q hq).1,by have:=(h4 q hq).2.1;omega,(h4 q hq).2.2⟩,rest⟩
theorem FL.cells{e:TypeId}{lo hi:Nat}{s:AE}{v:AV}{n sz:Nat}{cs:List AV}{i:Nat}{p:Option Nat}(h:FL e lo hi s v n sz cs i p):∃a cap,v=.slice a n cap∧E7 hi s a cs:=by
 rcases h.ex with⟨rfl,rfl⟩ | ⟨rfl,h2,h3,h4,r,h5,h6,_⟩
 ·refine⟨none,some 0,rfl,?_⟩
  have:cs=[]:=by have:=h.len;simp at this;exact this
  subst this
  exact E7.nil
 ·refine⟨_,_,rfl,fun k u hk=>⟨i,0,rfl,h3,?_⟩⟩
  have hlt:k<cs.length:=by
   rcases ZO k cs.length with h' | h'
   ·exact h'
   ·rw[ZT h']at hk;cases hk
  rw[ZB]
  exact Oo h5 (by rw[h6.1];exact hlt) (h6.2 k u hk)
def W4(s s':AE)(i:Nat)(p:Option Nat):Prop:=s.next≤s'.next∧∀j,j<s.next→j≠i→p≠some j→s'.heap.get j=s.heap.get j
theorem FL.appTo   {P : Program} {e : TypeId} {lo hi : Nat} {s : AE}  {v : AV} {n sz : Nat} {cs : List AV} {i : Nat} {p : Option Nat} (h : FL   e lo hi s v n sz cs i p) (hhi : hi ≤ s.next) (hlo : lo ≤ s.next) (hz : B6     P e sz = true) (hsz : 0 < sz) {m : Nat} {add : List AV} (ha : add.length = m * sz) (hm : 0 < m) :
    ∃a cap v' s',v=.slice a n cap∧appTo P s e sz a n cap (m,add)=some (v',s')∧∃i' p',FL e lo s'.next s' v' (n+m) sz (cs++add) i' p'∧W4 s s' i p∧lo≤s'.next∧(i'=s.next)∧(p'=none∨p'=some i)∧s'.next=s.next+1 ∧
      (∀cell,cell<cs.length→B9 s' i cell=B9 s i cell∨n=0):=by
  have hlen:(cs++add).length=(n+m) * sz:=by rw[Ze,h.len,ha,Zi]
  rcases h.ex with⟨rfl,rfl⟩ | ⟨rfl,h2,h3,h4,r,h5,h6,h7,h8,h9,h10,h11⟩
  · have hcs:cs=[]:=by have:=h.len;simp at this;exact this
    subst hcs
    refine⟨none,some 0,.slice (some (s.next,0)) m none,newObj s (CM e sz (AG.fill .leaf 0 add) add.length none true),rfl,?_,s.next,none,⟨by simpa using hlen,.inr ⟨by simp,hlo,Zs _,(fun q hq=>by cases hq),_,(by rw[BG,if_pos rfl];rfl),⟨rfl,?_⟩,rfl,rfl,rfl,rfl,rfl⟩⟩,
      ⟨Nat.le_succ _,fun j hj _ _=>by rw[BG,if_neg (by omega)]⟩,Nat.le_succ_of_le hlo,rfl,.inl rfl,rfl,fun _ _=>.inr rfl⟩
    · simp[Am.appTo,Ba,Hb (show m≠0 by omega),AF,hz]
    · intro k u hk
      show(AG.fill .leaf 0 add).get k=some u
      have hk':add[k]? = some u:=by simpa using hk
      have hlt:k<add.length:=by
        rcases ZO k add.length with h' | h'
        · exact h'
        · rw[ZT h']at hk';cases hk'
      rw[AG.get_fill,if_pos ⟨ZW _,by omega⟩]
      simpa using hk'
  · have hrow : rowAt s i = some r := by simp [rowAt, h5]
    have hrn:r.n=n * sz:=by rw[h6.1,h.len]
    have hload:A9 s i 0 (n * sz)=some cs:=by
      have:=LQ h5 h6 0 cs (by omega) (fun j u hj=>by simpa using hj)
      rw[h.len]at this
      exact this
    have hgt:¬ (0+(n+m) * sz≤r.n):=by
      rw[hrn,Zi]
      have:0<m * sz:=Nat.mul_pos hm hsz
      omega
    let s2:=setObj (Ax s i r) i (.row { r with mode:=.sealed,par:=none })
    let s':=newObj s2 (CM e sz (r.c.fill (n * sz) add) (cs++add).length (some i) (r.bytes && Nat.beq 0 0))
    have hun:∀j,j≠i→p≠some j→(Ax s i r).heap.get j=s.heap.get j:=by
      intro j hj hp
      unfold Ax
      rw[h10]
      cases p with
      | none=>rfl
      | some q =>
        simp only
        rw[Hb (h4 q rfl).2.2,cond_false,RR,if_neg (fun e=>hp (by rw[e]))]
    have hnext:(Ax s i r).next=s.next:=by
      unfold Ax
      split
      · rfl
      · cases Nat.beq _ _<;>rfl
    have hs2n:s2.next=s.next:=hnext
    refine⟨_,_,.slice (some (s.next,0)) (n+m) none,s',rfl,?_,s.next,some i,⟨hlen,.inr ⟨rfl,hlo,by show s.next<s2.next+1;omega,?_,_,by rw[BG,if_pos hs2n.symm];rfl,⟨rfl,?_⟩,rfl,rfl,rfl,rfl,rfl⟩⟩,⟨by show s.next≤s2.next+1;omega,?_⟩,by show lo≤s2.next+1;omega,rfl,.inr rfl,by show s2.next+1=_;omega,?_⟩
    · simp only[Am.appTo]
      rw[hrow,Option.bind_some]
      unfold Jt
      rw[h9,Hz rfl]
      simp only[AF,cond_true]
      rw[show Nat.ble (0+(n+m) * sz) r.n=false from Jy (by omega),cond_false,hload,Option.bind_some,h7,cond_true]
      unfold DP
      rw[h8,hz,Hz h11,show Nat.beq (0+n * sz) r.n=true from Hz (by omega)]
      simp only[Cx,Bool.and_self,AF,cond_true,Bz,Nat.beq_eq_true_eq,Hz rfl]
      show some (AV.slice (some (s.next,0)) (n+m) none,newObj s2 _)=_
      rfl
    · intro q hq
      injection hq with hq
      subst hq
      refine⟨h2,?_,?_⟩
      · show i<s2.next+1
        omega
      · omega
    · intro k u hk
      show(r.c.fill (n * sz) add).get k=some u
      rw[AG.get_fill]
      by_cases hlt:k<cs.length
      · rw [if_neg (by rw [← h.len]; omega)]
        rw[Zb hlt]at hk
        exact h6.2 k u hk
      · rw[Zc (by omega)]at hk
        have hk2:k - cs.length<add.length:=by
          rcases ZO (k - cs.length) add.length with h' | h'
          · exact h'
          · rw[ZT h']at hk;cases hk
        rw[if_pos ⟨by rw[← h.len];omega,by rw[← h.len];omega⟩,← h.len]
        exact hk
    · intro j hj hji hp
      show s'.heap.get j=_
      rw[BG,if_neg (by omega),LJ,if_neg hji]
      exact hun j hji hp
    · intro cell hc
      left
      have e1:s'.heap.get i=some (.row { r with mode:=.sealed,par:=none }):=by
        rw[BG,if_neg (by omega),LJ,if_pos rfl]
      simp only[B9,rowAt,e1,h5,Option.bind_some]
theorem Jk{s:AE}{i o n size:Nat}{l:List AV}(h:A9 s i o (n * size)=some l):Ki s i o n size=some l:=by
 unfold Ki
 cases hn0:Nat.beq n 0 with
 | false=>exact h
 | true =>
  have:=ZR hn0
  subst this
  rw[Nat.zero_mul]at h
  unfold A9 at h
  simp only[ZA]at h
  obtain⟨r,_,h⟩:=h
  cases hb:Nat.ble (o+0) r.n with
  | true=>rw[hb]at h;exact h
  | false=>rw[hb]at h;cases h
theorem L8{P:Program}{st xt e:TypeId}{size by_:Nat}(ht:P.underlying st=some (.slice e))(hs:An P e=some size)(hb:CH P e=some by_)(h0:0<size)(hx:BX P xt=true){s:AE}{a ax:Option (Nat×Nat)}{n m:Nat}{cap cx:Option Nat}{add:List AV}
  (hsrc:Co P s e size (.slice ax m cx)=some (m,add)) (hc:Af add=true) (h1:(n+m) * by_≤1099511627776) (h2:n+m≤1099511627776):
  As P s [st,xt] [.slice a n cap,.slice ax m cx]=appTo P s e size a n cap (m,add):=by
 simp[As,ht,hs,hb,AF,Hb (show size≠0 by omega),hx,hsrc,hc,BS h1,BS h2]
def Gu:List (AV×AV)→List (AV×AV)→Option (List (AV×AV))
 | [],es=>some es
 | (k,v)::fs,es=>(JD k v es).bind fun es'=>Gu fs es'
section
variable{P:Program}{ρ ρ1 ρ2:Aq}{s s1 s2:AE}{w w1 w2:World}
abbrev KV:=Value×Value
def kv(e:MapEntry):KV:=(e.key,e.val)
open Classical in
def D8 (k v:Value):List KV→List KV
 | []=>[(k,v)]
 | e::l=>if e.1=k then (k,v)::l else e::D8 k v l
inductive Gd (ρ:Aq):List (AV×AV)→List KV→Prop
 | nil:Gd ρ [] []
 | cons {k v:AV} {e:KV} {l:List (AV×AV)} {l':List KV} (hk:AJ ρ k e.1) (hv:AJ ρ v e.2) (hs:Gd ρ l l'):Gd ρ ((k,v)::l) (e::l')
theorem B1.p{es:List (AV×AV)}{l:List MapEntry}(h:B1 ρ es l):Gd ρ es (l.map kv):=by
 induction h with
 | nil=>exact .nil
 | cons hk hv _ ih=>exact .cons hk hv ih
theorem B1.of_p:∀ {es:List (AV×AV)}{l:List MapEntry},Gd ρ es (l.map kv)→B1 ρ es l
 | _,[],h=>by cases h;exact .nil
 | _,e::l,h=>by
  cases h with
  | cons hk hv hs=>exact .cons hk hv (B1.of_p hs)
theorem Tb      {k : AV} {k' : Value} (hk : AJ   ρ k k') {v : AV} {v' : Value} (hv : AJ   ρ v v') : ∀ {es : List (AV × AV)} {l : List KV} {i : Nat} {r : Option (Nat × AV)}, CI    k es i = some r → Gd   ρ es l →
    match r with
    | none=>Gd ρ (es++[(k,v)]) (D8 k' v' l)
    | some (j,_)=>i≤j∧Gd ρ (setNth es (j - i) v) (D8 k' v' l):=by
  intro es l i r h he
  induction he generalizing i r with
  | nil=>simp[CI]at h;subst h;exact .cons hk hv .nil
  | cons hk0 hv0 hs ih =>
    rename_i k0 v0 e0 l l'
    simp only[CI,ZA]at h
    obtain⟨b,hb',h⟩:=h
    have hkv:=JR hb' hk hk0
    cases b with
    | true =>
      simp only[Option.some.injEq]at h
      subst h
      have:=hkv.1 rfl
      refine⟨Y9 _,?_⟩
      simp only[Nat.sub_self,setNth,D8,this,if_true]
      exact .cons (by rw[← this];exact hk0) hv hs
    | false =>
      have hne:e0.1≠k':=fun e=>by have:=hkv.2 e;cases this
      simp only at h
      have:=ih h
      simp only[D8,hne,if_false]
      cases r with
      | none=>exact .cons hk0 hv0 this
      | some q =>
        obtain⟨h1,h2⟩:=this
        refine⟨by omega,?_⟩
        rw[show q.1 - i=(q.1 - (i+1))+1 from by omega]
        exact .cons hk0 hv0 h2
theorem WX{k v:AV}{k' v':Value}(hk:AJ ρ k k')(hv:AJ ρ v v'){es es1:List (AV×AV)}{l:List KV}(h:JD k v es=some es1)(he:Gd ρ es l):Gd ρ es1 (D8 k' v' l):=by
 unfold JD at h
 simp only[ZA]at h
 obtain⟨r,hf,h⟩:=h
 have:=Tb hk hv hf he
 cases r with
 | none=>injection h with h;subst h;exact this
 | some q=>injection h with h;subst h;exact this.2
def JW (l m:List KV):List KV:=m.foldl (fun l e=>D8 e.1 e.2 l) l
theorem Lh:∀ {fs es es1:List (AV×AV)}{l m:List KV},Gu fs es=some es1→Gd ρ es l→Gd ρ fs m→Gd ρ es1 (JW l m)
 | [],es,es1,l,m,h,he,hf=>by cases hf;injection h with h;subst h;exact he
 | (k,v)::fs,es,es1,l,m,h,he,hf=>by
  cases hf with
  | cons hk hv hs =>
   simp only[Gu,ZA]at h
   obtain⟨es',h1,h2⟩:=h
   exact Lh (l:=D8 _ _ l) h2 (WX hk hv h1 he) hs
theorem LU       {k v : Value} : ∀ {l : List KV}, (l.map (·.1)).Nodup → ((D8   k v l).map (·.1)).Nodup ∧ (∀ p, p ∈ D8   k v l ↔ p = (k, v) ∨ p ∈ l ∧ p.1 ≠ k) ∧ (∀ x, x ∈ (D8   k v l).map (·.1) ↔ x = k ∨ x ∈ l.map (·.1))
  | [],_=>by
    refine⟨by simp[D8],fun p=>by simp[D8],fun x=>by simp[D8]⟩
  | e::l,h=>by
    simp only[ZV,Zn]at h
    obtain⟨h1,h2,h3⟩:=LU (k:=k) (v:=v) h.2
    by_cases he:e.1=k
    · have hm:D8 k v (e::l)=(k,v)::l:=by simp[D8,he]
      rw[hm]
      have hno:∀p∈l,p.1≠k:=fun p hp hc=>h.1 (by rw[he,← hc];exact List.mem_map_of_mem hp)
      refine⟨by simp only[ZV,Zn];rw[← he];exact h,fun p=>?_,fun x=>by simp[← he]⟩
      simp only[Zd]
      constructor
      · rintro (h' | h')
        · exact .inl h'
        · exact .inr ⟨.inr h',hno p h'⟩
      · rintro (h' | ⟨h' | h', h''⟩)
        · exact .inl h'
        · subst h';exact absurd he h''
        · exact .inr h'
    · have hm:D8 k v (e::l)=e::D8 k v l:=by simp[D8,he]
      rw[hm]
      refine⟨?_,fun p=>?_,fun x=>?_⟩
      · simp only[ZV,Zn]
        refine⟨fun hc=>?_,h1⟩
        rcases(h3 _).1 hc with hc | hc
        · exact he hc
        · exact h.1 hc
      · simp only[Zd,h2]
        constructor
        · rintro (h' | h' | ⟨h', h''⟩)
          · exact .inr ⟨.inl h',by rw[h'];exact he⟩
          · exact .inl h'
          · exact .inr ⟨.inr h',h''⟩
        · rintro (h' | ⟨h' | h', h''⟩)
          · exact .inr (.inl h')
          · exact .inl h'
          · exact .inr (.inr ⟨h',h''⟩)
      · simp only[ZV,Zd,h3]
        constructor
        · rintro (h' | h' | h')
          · exact .inr (.inl h')
          · exact .inl h'
          · exact .inr (.inr h')
        · rintro (h' | h' | h')
          · exact .inr (.inl h')
          · exact .inl h'
          · exact .inr (.inr h')
theorem JX:∀ {m l:List KV},(l.map (·.1)).Nodup→(m.map (·.1)).Nodup→((JW l m).map (·.1)).Nodup∧∀p,p∈JW l m↔p∈m∨p∈l∧p.1 ∉ m.map (·.1)
  | [],l,h,_=>by simpa[JW]using h
  | e::m,l,h,hm=>by
    simp only[ZV,Zn]at hm
    obtain⟨h1,h2,_⟩:=LU (k:=e.1) (v:=e.2) h
    obtain⟨h3,h4⟩:=JX (m:=m) h1 hm.2
    refine⟨h3,fun p=>?_⟩
    show p∈JW (D8 e.1 e.2 l) m↔_
    rw[h4,h2]
    simp only[Zd,ZV,not_or]
    constructor
    · rintro (h' | ⟨h' | ⟨h', h''⟩, h3'⟩)
      · exact .inl (.inr h')
      · exact .inl (.inl h')
      · exact .inr ⟨h',h'',h3'⟩
    · rintro ((h' | h') | ⟨h', h'', h3'⟩)
      · exact .inr ⟨.inl h',by rw[h'];exact hm.1⟩
      · exact .inl h'
      · exact .inr ⟨.inr ⟨h',h''⟩,h3'⟩
theorem HN{α:Type}:∀ {l m:List α},l.Nodup→m.Nodup→(∀x,x∈l↔x∈m)→l.Perm m
 | [],m,_,_,h=>by
  have:m=[]:=List.eq_nil_iff_forall_not_mem.2 fun x hx=>by have:=(h x).2 hx;cases this
  rw[this]
 | a::l,m,hl,hm,h=>by
  obtain⟨m1,m2,rfl⟩:=List.append_of_mem ((h a).1 ZU)
  have hp:(m1++a::m2).Perm (a::(m1++m2)):=List.perm_middle
  have hm':(a::(m1++m2)).Nodup:=hp.nodup_iff.1 hm
  simp only[Zn]at hl hm'
  refine List.Perm.trans (List.Perm.cons a (HN hl.2 hm'.2 fun x=>?_)) hp.symm
  constructor
  ·intro hx
   have:=hp.mem_iff.1 ((h x).1 (ZQ _ hx))
   rcases Zd.1 this with rfl | h'
   ·exact absurd hx hl.1
   ·exact h'
  ·intro hx
   have:=(h x).2 (hp.mem_iff.2 (ZQ _ hx))
   rcases Zd.1 this with rfl | h'
   ·exact absurd hx hm'.1
   ·exact h'
theorem Jd{α β:Type}(f:α→β):∀ {l:List β}{m:List α},l.Perm (m.map f)→∃l':List α,l'.Perm m∧l'.map f=l
 | [],m,h=>by
  have:m=[]:=by have:=h.length_eq;simp at this;exact Zr this.symm
  subst this
  exact⟨[],.refl _,rfl⟩
 | b::l,m,h=>by
  obtain⟨a,ha,rfl⟩:=List.mem_map.1 (h.mem_iff.1 ZU)
  obtain⟨m1,m2,rfl⟩:=List.append_of_mem ha
  have hp:(m1++a::m2).Perm (a::(m1++m2)):=List.perm_middle
  have:l.Perm ((m1++m2).map f):=(h.trans (hp.map f)).cons_inv
  obtain⟨l',h1,h2⟩:=Jd f this
  exact⟨a::l',(h1.cons a).trans hp.symm,by simp[h2]⟩
theorem Fb{l:List KV}(h:(l.map (·.1)).Nodup):l.Nodup:=by
 induction l with
 | nil=>exact List.nodup_nil
 | cons a l ih =>
  simp only[ZV,Zn]at h
  exact Zn.2 ⟨fun hc=>h.1 (List.mem_map_of_mem hc),ih h.2⟩
def Rv(v:Value):Option (DataW Value×List MemPlace):=some (.held v,[])
def Ks(P:Program)(kt:TypeId)(es:Array MapEntry):Prop:=∀e∈es.toList,∃l,keyOf P kt e.key=some l
theorem WE{kt:TypeId}{es:Array MapEntry}{clock:Nat}(hst:MapKept.Stamped es clock)(hty:Ks P kt es)(hsz:es.size≤maxLen):WideElems.Fit P kt Rv es clock:=
 ⟨hsz,hst,fun x hx=>let ⟨l,hl⟩:=hty x hx;⟨(l,.held x.val),by simp[WideElems.rd,hl,Rv]⟩⟩
theorem Kb{kt:TypeId}{es:Array MapEntry}{clock b:Nat}(hb:w.heap[b]? = some (.map es clock))(hst:MapKept.Stamped es clock)(hty:Ks P kt es)(hsz:es.size≤maxLen):
  w.ownsMap P kt Rv b es.size (DataW.map ((es.toList.map (WideElems.rg P kt Rv)).foldr DataW.insert [])):=⟨es,clock,hb,WE hst hty hsz,Y9 _,rfl⟩
theorem Si{kt:TypeId}{e:MapEntry}{l:Lit}(h:keyOf P kt e.key=some l):WideElems.rg P kt Rv e=(l,.held e.val):=by simp[WideElems.rg,WideElems.rd,h,Rv]
theorem Gq{kt:TypeId}{es:Array MapEntry}(hty:Ks P kt es)(q:Lit×DataW Value):
  q∈(es.toList.map (WideElems.rg P kt Rv)).foldr DataW.insert []↔∃e∈es.toList,∃l,keyOf P kt e.key=some l∧q=(l,.held e.val):=by
 rw[mem_sorted,List.mem_map]
 constructor
 ·rintro⟨e,he,rfl⟩
  obtain⟨l,hl⟩:=hty e he
  exact⟨e,he,l,hl,Si hl⟩
 ·rintro⟨e,he,l,hl,rfl⟩
  exact⟨e,he,Si hl⟩
end
section
variable{P:Program}{ρ ρ1 ρ2:Aq}{s s1 s2:AE}{w w1 w2:World}
theorem Al.setG  (h : Al  P ρ s w) {i : Nat} {o o1 : AX}   {rb : RB} (hg : s.heap.get i = some o) (hr : ρ i = some rb) (hw : wr o = true) (hp : HL    o = none)
    (hp1:HL o1=none) (hgr:w.grownBy w1 (some rb.b)) (ho:EU P ρ w1 o1 rb):Al P ρ (setObj s i o1) w1∧Fr ρ s w ρ (setObj s i o1) w1:=by
  have hsep:∀j oj rj,j≠i→s.heap.get j=some oj→ρ j=some rj→rj.b≠rb.b:=by
    intro j oj rj hne hj hrj e
    have:=(h.sep j i oj o rj rb hne hj hg hrj hr e hw).1
    rw[hp]at this
    cases this
  refine⟨⟨?_,?_,?_,?_⟩,?_⟩
  · intro j oj rj hj hrj
    rw[A3]at hj
    by_cases e:j=i
    · subst e
      rw[if_pos rfl]at hj
      injection hj with hj
      subst hj
      rw[hr]at hrj
      injection hrj with hrj
      subst hrj
      exact ho
    · rw[if_neg e]at hj
      exact(h.obj j oj rj hj hrj).mono (Aq.le_refl ρ) (hgr.block _ (h.lt j rj hrj) (fun q=>hsep j oj rj e hj hrj (Option.some.inj q)))
  · intro j rj hrj
    exact ZS (h.lt j rj hrj) hgr.size
  · intro j k oj ok rj rk hne hj hk hrj hrk hbb hwk
    rw[A3]at hj hk
    by_cases ej:j=i
    · subst ej
      have ek:k≠j:=fun e=>hne e.symm
      rw[if_neg ek]at hk
      rw[hr]at hrj
      injection hrj with hrj
      subst hrj
      exact absurd hbb.symm (hsep k ok rk ek hk hrk)
    · by_cases ek : k = i
      · subst ek
        rw[if_neg ej]at hj
        rw[hr]at hrk
        injection hrk with hrk
        subst hrk
        exact absurd hbb (hsep j oj rj ej hj hrj)
      · rw [if_neg ej] at hj
        rw[if_neg ek]at hk
        exact h.sep j k oj ok rj rk hne hj hk hrj hrk hbb hwk
  · intro j oj g hj hgo
    rw[A3]at hj
    by_cases e:j=i
    · subst e;exact⟨_,hr⟩
    · rw[if_neg e]at hj
      exact h.glb j oj g hj hgo
  · refine ⟨Aq.le_refl  ρ, fun _ h _ => h, Y9          _, hgr.size, hgr.os, hgr.tape, hgr.output, ?_, ?_, ?_⟩
    · intro b hb hno
      exact hgr.block b hb (fun e=>hno ⟨i,o,rb,hg,hw,hr,(Option.some.inj e).symm⟩)
    · rintro b ⟨j, oj, rj, hj, hwj, hrj, rfl⟩
      rw[A3]at hj
      by_cases e:j=i
      · subst e
        rw[hr]at hrj
        injection hrj with hrj
        subst hrj
        exact .inl ⟨j,o,rb,hg,hw,hr,rfl⟩
      · rw[if_neg e]at hj
        exact .inl ⟨j,oj,rj,hj,hwj,hrj,rfl⟩
    · intro j hrj _
      rw[A3,if_neg]
      intro e
      subst e
      rw[hr]at hrj
      cases hrj
theorem Al.grown(h:Al P ρ s w)(hgr:w.grownBy w1 none):Al P ρ s w1∧Fr ρ s w ρ s w1:=by
 refine⟨⟨fun i o rb hi hr=>(h.obj i o rb hi hr).mono (Aq.le_refl ρ) (hgr.block _ (h.lt i rb hr) (fun e=>by cases e)),fun i rb hr=>ZS (h.lt i rb hr) hgr.size,h.sep,h.glb⟩,
  ⟨Aq.le_refl ρ,fun _ h _=>h,Y9 _,hgr.size,hgr.os,hgr.tape,hgr.output,fun b hb _=>hgr.block b hb (fun e=>by cases e),fun b hb=>.inl hb,fun _ _ _=>rfl⟩⟩
open Go.Maps in
theorem Tx{k:Lit}{d:DataW Value}{E:List (Lit×DataW Value)}(hk:WideAt.IsKeyLit k):
  ∃E',(DataW.map E).put k d=.map E'∧∀q,q∈E'↔q=(k,d)∨q∈E∧q.1≠k:=by
 refine⟨_,rfl,fun q=>?_⟩
 rw[(Go.WideShapes.insert_perm _ _).mem_iff,Zd,List.mem_filter]
 have:=notKey_iff (H:=Value) (k:=k) (p:=q) hk
 unfold Go.ChangeMaps.notKey at this
 rw[this]
open Go.Maps in
theorem JV        : ∀ {Es Ed : List (Lit × DataW Value)}, (∀ p ∈ Es, WideAt.IsKeyLit p.1) → Es.Pairwise (fun p q => p.1 ≠ q.1) →
    ∃E',Es.foldl (fun D p=>DataW.put D p.1 p.2) (DataW.map Ed)=.map E'∧∀q,q∈E'↔q∈Es∨q∈Ed∧q.1 ∉ Es.map (·.1)
  | [],Ed,_,_=>⟨Ed,rfl,fun q=>by simp⟩
  | p::Es,Ed,hk,hd=>by
    obtain⟨E1,h1,h2⟩:=Tx (k:=p.1) (d:=p.2) (E:=Ed) (hk p ZU)
    rw[List.pairwise_cons]at hd
    obtain⟨E2,h3,h4⟩:=JV (Ed:=E1) (fun q hq=>hk q (ZQ _ hq)) hd.2
    refine⟨E2,by rw[Zu,h1];exact h3,fun q=>?_⟩
    rw[h4,h2]
    simp only[Zd,ZV,not_or]
    constructor
    · rintro (h' | ⟨h' | ⟨h', h''⟩, h5⟩)
      · exact .inl (.inr h')
      · exact .inl (.inl h')
      · exact .inr ⟨h',h'',h5⟩
    · rintro ((h' | h') | ⟨h', h'', h5⟩)
      · refine .inr ⟨.inl h', ?_⟩
        rw[h']
        intro hc
        obtain⟨x,hx,e⟩:=List.mem_map.1 hc
        exact hd.1 x hx e.symm
      · exact .inl h'
      · exact .inr ⟨.inr ⟨h',h''⟩,h5⟩
def UI(P:Program)(f:FuncId)(kt:TypeId):Prop:=
 (∀ (bd bs nd ns:Nat) (Dd Ds:DataW Value) (w:World),w.ownsMap P kt Rv bd nd Dd→w.ownsMap P kt Rv bs ns Ds→bd≠bs→nd+Maps.size Ds≤maxLen →
  Calls P f #[.map (some bd),.map (some bs)] w fun e w'=>e=.returned (.tuple #[])∧w'.ownsMap P kt Rv bd (nd+Maps.size Ds) (Lib.mergeD Dd Ds)∧w'.ownsMap P kt Rv bs ns Ds∧w.grownBy w' (some bd)) ∧
 ∀ (pd:Option Nat) (w:World),Calls P f #[.map pd,.map none] w fun e w'=>e=.returned (.tuple #[])∧w'=w.alloc (.mapIter none 0 #[] 0)
def IC(kt:TypeId)(s:AE):List AV→Option (AV×AE)
 | [.map _,.map none]=>some (.tuple [],s)
 | [.map (some i),.map (some j)]=>AF (!Nat.beq i j) <| (FZ s kt i).bind fun es=>(FZ s kt j).bind fun fs =>
  AF (Nat.ble (es.length+fs.length) 1000000) ((Gu fs es).bind fun es'=>some (.tuple [],setObj s i (.map kt es')))
 | _=>none
theorem Od        {f : FuncId} {kt : TypeId} (hko : Do     P kt = true) (hc : UI    P f kt) (h : Al  P ρ s w) {aS : List AV} {as' : Array Value} {v : AV} (hs : IC     kt s aS = some (v, s1)) (has : AI    ρ aS as'.toList) :
    CallsIn Fence.wide 0 P f as' w (Cq P ρ s w v s1):=by
  have K:=GL hko
  refine callsIn_wide.2 ?_
  unfold IC at hs
  split at hs<;>first | (cases hs;done) | skip
  · injection hs with hs
    injection hs with e1 e2
    subst e1;subst e2
    obtain⟨l⟩:=as'
    cases has with
    | cons h1 h2 =>
    cases h2 with
    | cons h2 h3 =>
    cases h3
    cases h2
    cases h1<;>(
      refine(hc.2 _ w).mono ?_
      rintro e w' ⟨rfl,rfl⟩
      obtain⟨g1,g2⟩:=h.grown (w1:=w.alloc (.mapIter none 0 #[] 0)) ⟨rfl,rfl,rfl,by simp,fun b hb _=>Dm hb⟩
      exact⟨ρ,.tuple .nil,g1,g2⟩)
  · rename_i i j
    obtain⟨hij,hs⟩:=AA hs
    simp only[ZA]at hs
    obtain⟨es,hes,fs,hfs,hs⟩:=hs
    obtain⟨hlen,hs⟩:=AA hs
    simp only[ZA]at hs
    obtain⟨es1,hput,hs⟩:=hs
    injection hs with hs
    injection hs with e1 e2
    subst e1;subst e2
    have hlen:es.length+fs.length≤1000000:=by simpa[ZN]using hlen
    have hne:i≠j:=fun e=>by subst e;simp at hij
    obtain⟨l⟩:=as'
    cases has with
    | cons h1 h2 =>
    cases h2 with
    | cons h2 h3 =>
    cases h3
    cases h1 with
    | map hri =>
    cases h2 with
    | map hrj =>
    rename_i ri rj
    have hgi:=DI hes
    have hgj:=DI hfs
    obtain⟨ed,cd,d1,d2,⟨ld,d3,d4⟩,d5⟩:=(show G6 P ρ w kt es ri from h.obj i _ ri hgi hri).ex
    obtain⟨ec,cc,c1,c2,⟨lc,c3,c4⟩,c5⟩:=(show G6 P ρ w kt fs rj from h.obj j _ rj hgj hrj).ex
    have hbne:ri.b≠rj.b:=fun e=>by
      have:=(h.sep i j _ _ ri rj hne hgi hgj hri hrj e rfl).1
      cases this
    have sd:ed.size=es.length:=by have:=d4.length;have:=d3.length_eq;simp at this;omega
    have sc:ec.size=fs.length:=by have:=c4.length;have:=c3.length_eq;simp at this;omega
    have hmax:(1000000:Nat)≤maxLen:=by unfold maxLen;omega
    have od:=Kb d1 d2 d5 (by omega)
    have oc:=Kb c1 c2 c5 (by omega)
    have hsz:Maps.size (DataW.map ((ec.toList.map (WideElems.rg P kt Rv)).foldr DataW.insert []))=ec.size:=by
      show((ec.toList.map (WideElems.rg P kt Rv)).foldr DataW.insert []).length=_
      rw[(Go.WideShapes.sorted_perm _).length_eq]
      simp
    refine(hc.1 _ _ _ _ _ _ w od oc hbne (by rw[hsz];omega)).mono ?_
    rintro e w' ⟨rfl,o1,_,hgr⟩
    refine⟨ρ,.tuple .nil,?_⟩
    obtain⟨e2,k2,q1,q2,_,q4⟩:=o1
    have hty2:Ks P kt e2:=fun x hx=>let ⟨y,hy⟩:=q2.reads x hx;⟨y.1,WideElems.rd_key hy⟩
    have hcanon:=oc.canonK K
    obtain⟨E,hE,hsorted,hkeys⟩:=hcanon
    have hE:(ec.toList.map (WideElems.rg P kt Rv)).foldr DataW.insert []=E:=by injection hE
    have hkl:∀p∈E,WideAt.IsKeyLit p.1:=fun p hp=>let ⟨v,hv⟩:=hkeys p hp;K.key hv
    obtain⟨E',m1,m2⟩:=JV (Es:=E) (Ed:=(ed.toList.map (WideElems.rg P kt Rv)).foldr DataW.insert []) hkl (Go.Maps.apart_of_rising hsorted)
    have hE2:(e2.toList.map (WideElems.rg P kt Rv)).foldr DataW.insert []=E':=by
      have:Lib.mergeD (DataW.map ((ed.toList.map (WideElems.rg P kt Rv)).foldr DataW.insert [])) (DataW.map ((ec.toList.map (WideElems.rg P kt Rv)).foldr DataW.insert []))=.map E':=by
        rw[hE];exact m1
      rw[this]at q4
      injection q4 with q4
      exact q4.symm
    have memE:∀q,q∈E↔∃e∈ec.toList,∃l,keyOf P kt e.key=some l∧q=(l,.held e.val):=fun q=>by rw[← hE];exact Gq c5 q
    have mem2:∀p:KV,p∈e2.toList.map kv↔p∈ec.toList.map kv∨p∈ed.toList.map kv∧p.1 ∉ (ec.toList.map kv).map (·.1):=by
      have look:∀ {A:Array MapEntry} (hA:Ks P kt A) {k v:Value} {lk:Lit},keyOf P kt k=some lk→((∃e∈A.toList,∃l,keyOf P kt e.key=some l∧(lk,DataW.held v)=(l,DataW.held e.val))↔(k,v)∈A.toList.map kv):=by
        intro A hA k v lk hk
        constructor
        · rintro⟨e,he,l,hl,hq⟩
          injection hq with q1 q2
          injection q2 with q2
          subst q1;subst q2
          exact List.mem_map.2 ⟨e,he,by rw[K.inj hk hl];rfl⟩
        · intro hm
          obtain⟨e,he,hq⟩:=List.mem_map.1 hm
          injection hq with q1 q2
          subst q1;subst q2
          exact⟨e,he,lk,hk,rfl⟩
      have main:∀ (k v:Value) (lk:Lit),keyOf P kt k=some lk→((k,v)∈e2.toList.map kv↔(k,v)∈ec.toList.map kv∨(k,v)∈ed.toList.map kv∧k ∉ (ec.toList.map kv).map (·.1)):=by
        intro k v lk hk
        rw[← look hty2 hk,← Gq hty2,hE2,m2,memE,Gq d5,look c5 hk,look d5 hk]
        refine or_congr Iff.rfl (and_congr Iff.rfl (not_congr ?_))
        constructor
        · intro hm
          obtain⟨q,hq,hqe⟩:=List.mem_map.1 hm
          obtain⟨e,he,l,hl,rfl⟩:=(memE q).1 hq
          simp only at hqe
          subst hqe
          refine List.mem_map.2 ⟨kv e,List.mem_map_of_mem he,?_⟩
          exact(K.inj hk hl).symm
        · intro hm
          obtain⟨q,hq,hqe⟩:=List.mem_map.1 hm
          obtain⟨e,he,rfl⟩:=List.mem_map.1 hq
          refine List.mem_map.2 ⟨(lk,.held e.val),(memE _).2 ⟨e,he,lk,?_,rfl⟩,rfl⟩
          have:e.key=k:=hqe
          rw[this];exact hk
      intro p
      constructor
      · intro hm
        obtain⟨e,he,hp⟩:=List.mem_map.1 hm
        obtain⟨l,hl⟩:=hty2 e he
        subst hp
        exact(main _ _ l hl).1 hm
      · intro hm
        have:∃l,keyOf P kt p.1=some l:=by
          rcases hm with hm | ⟨hm,_⟩
          · obtain ⟨e, he, hp⟩ := List.mem_map.1 hm
            obtain⟨l,hl⟩:=c5 e he
            subst hp;exact⟨l,hl⟩
          · obtain ⟨e, he, hp⟩ := List.mem_map.1 hm
            obtain⟨l,hl⟩:=d5 e he
            subst hp;exact⟨l,hl⟩
        obtain⟨l,hl⟩:=this
        exact(main p.1 p.2 l hl).2 hm
    have nd:∀ {A:Array MapEntry} {c:Nat},MapKept.Stamped A c→((A.toList.map kv).map (·.1)).Nodup:=fun hst=>by
      rw[Zx];exact hst.2.2
    have ndd:((ld.map kv).map (·.1)).Nodup:=((d3.map kv).map (·.1)).nodup_iff.2 (nd d2)
    have ndc:((lc.map kv).map (·.1)).Nodup:=((c3.map kv).map (·.1)).nodup_iff.2 (nd c2)
    obtain⟨u1,u2⟩:=JX ndd ndc
    have hperm:(JW (ld.map kv) (lc.map kv)).Perm (e2.toList.map kv):=by
      refine HN (Fb u1) (Fb (nd q2.stamped)) fun p=>?_
      rw[u2,mem2,(c3.map kv).mem_iff,(d3.map kv).mem_iff,((c3.map kv).map (·.1)).mem_iff]
    obtain⟨l2,p1,p2⟩:=Jd kv hperm
    have her:B1 ρ es1 l2:=B1.of_p (by rw[p2];exact Lh hput d4.p c4.p)
    exact h.setG hgi hri rfl rfl rfl hgr ⟨e2,k2,q1,q2.stamped,⟨l2,p1,her⟩,hty2⟩
end
def Ei:AV→Bool
 | .bool _ | .int _ _ | .str _=>true
 | .ptr none | .map none | .nilFunc | .nilIface=>true
 | .slice none n c=>Nat.beq n 0 && (match c with | some 0=>true | _=>false)
 | _=>false
def Ej:List AV→Bool
 | []=>true
 | .agg cs::l=>cs.all Ei && Ej l
 | v::l=>Ei v && Ej l
theorem BK{ρ σ:Aq}{v:AV}{v':Value}(h:Ei v=true)(hr:AJ ρ v v'):AJ σ v v':=by
 cases hr with
 | bool b=>exact .bool b
 | int k n=>exact .int k n
 | str hs=>exact .str hs
 | ptrNil=>exact .ptrNil
 | sliceNil=>exact .sliceNil
 | mapNil=>exact .mapNil
 | nilFunc=>exact .nilFunc
 | nilIface=>exact .nilIface
 | _=>cases h
theorem Io{ρ σ:Aq}:∀ {l:List AV}{l':List Value},l.all Ei=true→AI ρ l l'→AI σ l l'
 | [],_,_,h=>by cases h;exact .nil
 | v::l,_,hp,h=>by
  cases h with
  | cons h1 h2 =>
   simp only[List.all_cons,Bool.and_eq_true]at hp
   exact .cons (BK hp.1 h1) (Io hp.2 h2)
theorem Fl         {ρ σ : Aq}  : ∀ {l : List AV} {l' : List Value}, Ej     l = true → AI    ρ l l' → AI    σ l l'
  | [],_,_,h=>by cases h;exact .nil
  | v::l,_,hp,h=>by
    cases h with
    | cons h1 h2 =>
      cases v with
      | agg cs =>
        simp only[Ej,Bool.and_eq_true]at hp
        cases h1 with
        | agg h1=>exact .cons (.agg (Io hp.1 h1)) (Fl hp.2 h2)
      | _ =>
        simp only[Ej,Bool.and_eq_true]at hp
        exact .cons (BK hp.1 h1) (Fl hp.2 h2)
def CL(g:Nat)(cells:List AV):B0:={ elem:=0,sz:=0,n:=cells.length,c:=AG.fill .leaf 0 cells,spare:=true,mode:=.ro,par:=none,bytes:=false,glob:=some g }
def S3(g:Nat)(cells:List AV):AE:=⟨g+1,AG.set .leaf g (.row (CL g cells))⟩
def C9(s:AE)(g:Nat)(cells:List AV):Bool:=match s.heap.get g with
 | some (.row r)=>Nat.beq r.n cells.length && (match r.glob with | some g'=>Nat.beq g' g | none=>false) && (match r.c.take 0 cells.length with | some l=>Hg.eqAs l cells | none=>false)
 | _=>false
structure Row where
 f:FuncId
 args:List AV
 res:AV
def CT:List Row→FuncId→List AV→Option AV
 | [],_,_=>none
 | r::l,f,xs=>bif Nat.beq r.f f && Hg.eqAs r.args xs then some r.res else CT l f xs
def KQ(g:Nat)(cells:List AV)(fs:List FuncId)(T:List Row):L0:=fun f xs s=>bif fs.any (Nat.beq f)then (CT T f xs).bind fun r=>AF (C9 s g cells) (some (r,s))else none
def N4(v:AV):Option (AV×AE)→Bool
 | some (u,_)=>Hg v u
 | none=>false
theorem IM:∀ {T:List Row}{f:FuncId}{xs:List AV}{v:AV},CT T f xs=some v→∃r∈T,r.f=f∧r.args=xs∧r.res=v
 | [],_,_,_,h=>by cases h
 | r::T,f,xs,v,h=>by
  unfold CT at h
  cases hb:Nat.beq r.f f && Hg.eqAs r.args xs with
  | true =>
   rw[hb]at h
   injection h with h
   simp only[Bool.and_eq_true]at hb
   exact⟨r,ZU,ZR hb.1,C7 hb.2,h⟩
  | false =>
   rw[hb]at h
   obtain⟨q,h1,h2⟩:=IM h
   exact⟨q,ZQ _ h1,h2⟩
section
variable{P:Program}{ρ ρ1 ρ2:Aq}{s s1 s2:AE}{w w1 w2:World}
theorem Di(g:Nat)(cells:List AV)(i:Nat):(S3 g cells).heap.get i=if i=g then some (.row (CL g cells))else none:=by
 show(AG.set .leaf g _).get i=_
 rw[AG.get_set]
 rfl
theorem IR{g:Nat}{cells:List AV}(h:C9 s g cells=true):∃r,s.heap.get g=some (.row r)∧r.n=cells.length∧r.glob=some g∧∀k,k<cells.length→r.c.get k=cells[k]? := by
 unfold C9 at h
 split at h<;>first | (cases h;done) | skip
 rename_i r hg
 simp only[Bool.and_eq_true]at h
 obtain⟨⟨h1,h2⟩,h3⟩:=h
 refine⟨r,hg,ZR h1,?_,?_⟩
 ·split at h2<;>first | (cases h2;done) | skip
  rename_i g' hg'
  rw[hg',ZR h2]
 ·split at h3<;>first | (cases h3;done) | skip
  rename_i l hl
  have:=C7 h3
  subst this
  intro k hk
  have:=AG.take_get hl k hk
  simpa using this
theorem O0        (hm : P.follows .mixedOrders = true) (hng : C3      P) {E : Bt}  (hE : E.P = P) (hnat : DN     P E.nat) {n g : Nat} {cells : List AV} (hcells : cells.all Ei    = true) {fs : List FuncId} {T : List Row}
    (hT:∀r∈T,Ej r.args=true∧Ei r.res=true∧N4 r.res ((Ci E n).call r.f r.args (S3 g cells))=true):DN P (KQ g cells fs T):=by
  intro ρ s w f xs v s1 as' hc h hf ha
  unfold KQ at hc
  cases hfs:fs.any (Nat.beq f)with
  | false=>rw[hfs]at hc;cases hc
  | true =>
    rw[hfs]at hc
    simp only[cond_true,ZA]at hc
    obtain⟨u,hu,hc⟩:=hc
    obtain⟨hg,hc⟩:=AA hc
    injection hc with hc
    injection hc with e1 e2
    subst e1;subst e2
    obtain⟨r,hr,rfl,rfl,rfl⟩:=IM hu
    obtain⟨p1,p2,p3⟩:=hT r hr
    obtain⟨r0,q1,q2,q3,q4⟩:=IR hg
    obtain⟨rb,hrb⟩:=h.glb g _ g q1 q3
    have hok:BF ρ w r0 rb:=h.obj g _ rb q1 hrb
    obtain⟨hb,hoff⟩:=hok.gl g q3
    cases hrun:(Ci E n).call r.f r.args (S3 g cells)with
    | none=>rw[hrun]at p3;cases p3
    | some p =>
      obtain⟨v0,s2⟩:=p
      rw[hrun]at p3
      have hv0:r.res=v0:=J7 (show Hg r.res v0=true from p3)
      subst hv0
      let rb1:RB:=⟨rb.b,rb.off,cells.length,0⟩
      let ρ0:Aq:=fun i=>if i=g then some rb1 else none
      have hρ:∀i x,ρ0 i=some x→i=g∧x=rb1:=fun i x hx=>by
        simp only[ρ0]at hx
        split at hx
        · injection hx with hx;exact⟨‹_›,hx.symm⟩
        · cases hx
      have hinv:Al P ρ0 (S3 g cells) w:=by
        refine⟨?_,?_,?_,?_⟩
        · intro i o x hi hx
          obtain⟨rfl,rfl⟩:=hρ i x hx
          rw[Di,if_pos rfl]at hi
          injection hi with hi
          subst hi
          refine(show BF ρ0 w (CL i cells) rb1 from⟨?_,Y9 _,rfl,(fun hh=>by cases hh),fun hh=>absurd rfl hh,(fun hh=>by cases hh),fun g' hg'=>?_,fun p hp=>by cases hp⟩)
          · intro k v hk hv
            have hk':k<cells.length:=hk
            have hv':cells[k]? = some v:=by
              have:(AG.fill .leaf 0 cells).get k=some v:=hv
              rw[AG.get_fill,if_pos ⟨ZW _,by omega⟩]at this
              simpa using this
            obtain⟨v',k1,k2⟩:=hok.cells k v (by omega) (by rw[q4 k hk'];exact hv')
            have hpl:Ei v=true:=List.all_eq_true.1 hcells v (ZZ hv')
            exact⟨v',k1,BK hpl k2⟩
          · have:some i=some g':=hg'
            injection this with this
            subst this
            exact⟨hb,hoff⟩
        · intro i x hx
          obtain⟨rfl,rfl⟩:=hρ i x hx
          exact h.lt i rb hrb
        · intro i j oi oj ri rj hne hi hj hri hrj
          exact absurd ((hρ i ri hri).1.trans (hρ j rj hrj).1.symm) hne
        · intro i o g' hi _
          rw[Di]at hi
          split at hi
          · rename_i e;exact⟨rb1,by simp[ρ0,e]⟩
          · cases hi
      have hfr:Av ρ0 (S3 g cells):=fun i hi=>by
        have hi:g+1≤i:=hi
        refine⟨by simp only[ρ0];rw[if_neg (by omega)],?_⟩
        rw[Di,if_neg (by omega)]
      have hcall:=(YU hm hng hE hnat n).call ρ0 (S3 g cells) w r.f r.args r.res s2 as' hrun hinv hfr (Fl p1 ha)
      refine⟨hcall.1,CallsIn.mono hcall.2 ?_⟩
      intro e w' he
      cases e with
      | panicked c=>exact he.elim
      | outgrown=>exact he.elim
      | returned v' =>
        obtain⟨ρ',k1,k2,k3⟩:=he
        have hno:∀b,¬ EZ ρ0 (S3 g cells) b:=by
          rintro b ⟨i,o,x,hi,hw,_,_⟩
          rw[Di]at hi
          split at hi
          · injection hi with hi;subst hi;cases hw
          · cases hi
        obtain⟨g1,g2⟩:=h.grown (w1:=w') ⟨k3.os,k3.tape,k3.output,k3.size,fun b hb' _=>k3.keep b hb' (hno b)⟩
        exact⟨ρ,BK p2 k1,g1,g2⟩
end
theorem TY{w:World}{a:Addr}{v:Value}(h:w.cell? a=some v):a.block<w.heap.size:=by
 unfold World.cell? at h
 cases hb:w.heap[a.block]? with
 | none=>rw[hb]at h;cases h
 | some o =>
  rcases ZO a.block w.heap.size with h' | h'
  ·exact h'
  ·rw[Array.getElem?_eq_none h']at hb;cases hb
section
variable{H:Type}{enc:TypeId×Value→H}{P:Program}{w:World}{held:Bool}
structure I4(P:Program)(w:World)(ρ:Aq)(s:AE):Prop where
 inv:Al P ρ s w
 fresh:Av ρ s
 ro:∀i o,s.heap.get i=some o→wr o=false
theorem XZ    {g : Nat} {cells : List AV} (hb : g < w.heap.size) (hc : ∀ k v, cells[k]? = some v → ∃ v', w.cell? ⟨g, k, none⟩ = some v' ∧ AJ   Lk   v v') : ∃ ρ, I4   P w ρ (S3  g cells) := by
  let rb1:RB:=⟨g,0,cells.length,0⟩
  let ρ0:Aq:=fun i=>if i=g then some rb1 else none
  have hρ:∀i x,ρ0 i=some x→i=g∧x=rb1:=fun i x hx=>by
    simp only[ρ0]at hx
    split at hx
    · injection hx with hx;exact⟨‹_›,hx.symm⟩
    · cases hx
  have hle:Lk.le ρ0:=fun i rb h=>by cases h
  refine⟨ρ0,⟨?_,?_,?_,?_⟩,fun i hi=>?_,fun i o hi=>?_⟩
  · intro i o x hi hx
    obtain⟨rfl,rfl⟩:=hρ i x hx
    rw[Di,if_pos rfl]at hi
    injection hi with hi
    subst hi
    refine(show BF ρ0 w (CL i cells) rb1 from⟨?_,Y9 _,rfl,(fun hh=>by cases hh),fun hh=>absurd rfl hh,(fun hh=>by cases hh),fun g' hg'=>?_,fun p hp=>by cases hp⟩)
    · intro k v hk hv
      have hk':k<cells.length:=hk
      have hv':cells[k]? = some v:=by
        have:(AG.fill .leaf 0 cells).get k=some v:=hv
        rw[AG.get_fill,if_pos ⟨ZW _,by omega⟩]at this
        simpa using this
      obtain⟨v',k1,k2⟩:=hc k v hv'
      exact⟨v',by simpa[rb1]using k1,k2.mono hle⟩
    · have:some i=some g':=hg'
      injection this with this
      subst this
      exact⟨rfl,rfl⟩
  · intro i x hx
    obtain⟨rfl,rfl⟩:=hρ i x hx
    exact hb
  · intro i j oi oj ri rj hne hi hj hri hrj
    exact absurd ((hρ i ri hri).1.trans (hρ j rj hrj).1.symm) hne
  · intro i o g' hi _
    rw[Di]at hi
    split at hi
    · rename_i e;exact⟨rb1,by simp[ρ0,e]⟩
    · cases hi
  · have hi:g+1≤i:=hi
    refine⟨by simp only[ρ0];rw[if_neg (by omega)],?_⟩
    rw[Di,if_neg (by omega)]
  · rw[Di]at hi
    split at hi
    · injection hi with hi;subst hi;rfl
    · cases hi
theorem I4.notOwned{ρ:Aq}{s:AE}(h:I4 P w ρ s)(b:Nat):¬ EZ ρ s b:=fun⟨i,o,rb,h1,h2,_⟩=>by rw[h.ro i o h1]at h2;cases h2
def N5(e:TypeId)(sz:Nat)(cs:List AV):AX:=.row { elem:=e,sz,n:=cs.length,c:=AG.fill .leaf 0 cs,spare:=false,mode:=.ro,par:=none,bytes:=false }
theorem WZ{cs:List AV}{k:Nat}{u:AV}(h:cs[k]? = some u):(AG.fill .leaf 0 cs).get k=some u:=by
 have hlt:k<cs.length:=by
  rcases ZO k cs.length with h' | h'
  ·exact h'
  ·rw[ZT h']at h;cases h
 rw[AG.get_fill,if_pos ⟨ZW _,by omega⟩]
 simpa using h
theorem I4.row{ρ:Aq}{s:AE}(h:I4 P w ρ s)(e:TypeId)(sz b off:Nat)(cs:List AV)(hb:b<w.heap.size)(hc:∀k u,cs[k]? = some u→∃v,w.cell? ⟨b,off+k,none⟩=some v∧AJ ρ u v):
    ∃ρ',I4 P w ρ' (newObj s (N5 e sz cs))∧ρ.le ρ'∧ρ' s.next=some ⟨b,off,cs.length,sz⟩:=by
  have hf:=h.fresh s.next (Y9 _)
  have hle:=BL (rb:=⟨b,off,cs.length,sz⟩) hf.1
  refine⟨BJ ρ s.next ⟨b,off,cs.length,sz⟩,⟨⟨?_,?_,?_,?_⟩,?_,?_⟩,hle,AM _ _⟩
  · intro i o rb hi hr
    rw[BG]at hi
    by_cases e':i=s.next
    · subst e'
      rw[if_pos rfl]at hi
      injection hi with hi
      subst hi
      rw[AM]at hr
      injection hr with hr
      subst hr
      refine⟨fun k v hk hv=>?_,Y9 _,rfl,fun _=>rfl,fun hm=>absurd rfl hm,(fun hh=>by cases hh),(fun g hg=>by cases hg),fun p hp=>by cases hp⟩
      have hk:k<cs.length:=hk
      have hv:(AG.fill .leaf 0 cs).get k=some v:=hv
      have hu:cs[k]? = some cs[k]:=ZP hk
      rw[WZ hu]at hv
      injection hv with hv
      subst hv
      obtain⟨v',h1,h2⟩:=hc k _ hu
      exact⟨v',h1,h2.mono hle⟩
    · rw [if_neg e'] at hi
      rw[AL _ e']at hr
      exact(h.inv.obj i o rb hi hr).mono hle rfl
  · intro i rb hr
    by_cases e':i=s.next
    · subst e'
      rw[AM]at hr
      injection hr with hr
      subst hr
      exact hb
    · rw[AL _ e']at hr
      exact h.inv.lt i rb hr
  · intro i j oi oj ri rj _ _ hj _ _ _ hw
    rw[BG]at hj
    by_cases e':j=s.next
    · rw[if_pos e']at hj
      injection hj with hj
      subst hj
      cases hw
    · rw [if_neg e'] at hj
      rw[h.ro j oj hj]at hw
      cases hw
  · intro i o g hi hg
    rw[BG]at hi
    by_cases e':i=s.next
    · rw[if_pos e']at hi
      injection hi with hi
      subst hi
      cases hg
    · rw[if_neg e']at hi
      obtain⟨rb,hr⟩:=h.inv.glb i o g hi hg
      exact⟨rb,by rw[AL _ e'];exact hr⟩
  · intro i hi
    have hi:s.next+1≤i:=hi
    refine⟨?_,?_⟩
    · rw[AL _ (by omega)];exact(h.fresh i (by omega)).1
    · rw[BG,if_neg (by omega)];exact(h.fresh i (by omega)).2
  · intro i o hi
    rw[BG]at hi
    by_cases e':i=s.next
    · rw[if_pos e']at hi
      injection hi with hi
      subst hi
      rfl
    · rw[if_neg e']at hi
      exact h.ro i o hi
end
end
end Go.Proofs.YtickdehehcmfbaaGreatDoor.Am
namespace Go.Proofs.YtickdehehcmfbaaGreatDoor.Am
open Go Go.Proofs Go.Shelf
noncomputable section
def EJ:Go.Shelf.Ren:=⟨fun | 5=>55 | n=>n,fun | 23=>68 | 24=>68 | 26=>3 | 27=>3 | 0=>0 | 4=>4 | n=>n,fun | n=>n⟩
theorem LM:Go.Proofs.SlLaysX.n5 Tryz.prog EJ:={
 mixed:=by kernel_rfl
 f5:=⟨Tryz.f55.name,by decide,Tryz.func55.trans (congrArg some (by kernel_rfl))⟩
 t0:=Tryz.underlying0
 a0:=Tryz.isAgg0
 z0:=Tryz.sizeOf0
 v0:=Tryz.zeroValue0
 t4:=Tryz.underlying4
 a4:=Tryz.isAgg4
 z4:=Tryz.sizeOf4
 v4:=Tryz.zeroValue4
 t23:=Tryz.underlying68
 a23:=Tryz.isAgg68
 z23:=Tryz.sizeOf68
 v23:=Tryz.zeroValue68
 t24:=Tryz.underlying68
 a24:=Tryz.isAgg68
 z24:=Tryz.sizeOf68
 v24:=Tryz.zeroValue68
 a26:=Tryz.isAgg3
 z26:=Tryz.sizeOf3
 a27:=Tryz.isAgg3
 z27:=Tryz.sizeOf3 }
def EK:Go.Shelf.Ren:=⟨fun | 7=>38 | 10=>59 | n=>n,fun | 23=>68 | 26=>3 | 3=>3 | 28=>75 | 0=>0 | 27=>74 | 33=>105 | 4=>4 | n=>n,fun | n=>n⟩
theorem LN:Go.Proofs.SlLaysZI.n7 Tryz.prog EK:={
 mixed:=by kernel_rfl
 f7:=⟨Tryz.f38.name,by decide,Tryz.func38.trans (congrArg some (by kernel_rfl))⟩
 f10:=⟨Tryz.f59.name,by decide,Tryz.func59.trans (congrArg some (by kernel_rfl))⟩
 t0:=Tryz.underlying0
 a0:=Tryz.isAgg0
 z0:=Tryz.sizeOf0
 v0:=Tryz.zeroValue0
 t4:=Tryz.underlying4
 a4:=Tryz.isAgg4
 z4:=Tryz.sizeOf4
 v4:=Tryz.zeroValue4
 t23:=Tryz.underlying68
 a23:=Tryz.isAgg68
 z23:=Tryz.sizeOf68
 v23:=Tryz.zeroValue68
 t26:=Tryz.underlying3
 a26:=Tryz.isAgg3
 z26:=Tryz.sizeOf3
 v26:=Tryz.zeroValue3
 t27:=Tryz.underlying74
 a27:=Tryz.isAgg74
 z27:=Tryz.sizeOf74
 v27:=Tryz.zeroValue74
 t28:=Tryz.underlying75
 a28:=Tryz.isAgg75
 z28:=Tryz.sizeOf75
 v28:=Tryz.zeroValue75
 t33:=Tryz.underlying105
 a33:=Tryz.isAgg105
 z33:=Tryz.sizeOf105
 v33:=Tryz.zeroValue105 }
def Er:Go.Shelf.Ren:=⟨fun | 6=>37 | 8=>57 | 9=>58 | 11=>77 | 13=>79 | 12=>78 | 23=>105 | 24=>106 | 14=>96 | 15=>97 | 16=>98 | 17=>99 | 18=>100 | 19=>101 | 20=>102 | 21=>103 | 22=>104 | 25=>120 | 26=>121 | 27=>122 | 28=>123 | 29=>124 | 30=>125 | 31=>135 | n=>n,fun | 26=>3 | 28=>75 | 24=>27 | 0=>0 | 3=>3 | 37=>115 | 48=>141 | 50=>143 | 4=>4 | 40=>134 | 39=>133 | 45=>101 | 5=>5 | 9=>9 | 51=>155 | 55=>159 | 57=>171 | 58=>172 | 33=>105 | n=>n,fun | n=>n⟩
theorem Ib:Go.Proofs.SlLaysZI.n6 Tryz.prog Er:={
 mixed:=by kernel_rfl
 f6:=⟨Tryz.f37.name,by decide,Tryz.func37.trans (congrArg some (by kernel_rfl))⟩
 f8:=⟨Tryz.f57.name,by decide,Tryz.func57.trans (congrArg some (by kernel_rfl))⟩
 f11:=⟨Tryz.f77.name,by decide,Tryz.func77.trans (congrArg some (by kernel_rfl))⟩
 t0:=Tryz.underlying0
 a0:=Tryz.isAgg0
 z0:=Tryz.sizeOf0
 v0:=Tryz.zeroValue0
 t24:=Tryz.underlying27
 a24:=Tryz.isAgg27
 z24:=Tryz.sizeOf27
 v24:=Tryz.zeroValue27
 t26:=Tryz.underlying3
 a26:=Tryz.isAgg3
 z26:=Tryz.sizeOf3
 v26:=Tryz.zeroValue3
 t28:=Tryz.underlying75
 a28:=Tryz.isAgg75
 z28:=Tryz.sizeOf75
 v28:=Tryz.zeroValue75
 i26:=by kernel_rfl }
def KL:Go.Shelf.Ren:=⟨fun | 5=>58 | 8=>79 | 7=>78 | 19=>105 | 20=>106 | 10=>96 | 11=>97 | 12=>98 | 13=>99 | 14=>100 | 15=>101 | 16=>102 | 17=>103 | 18=>104 | 30=>120 | 31=>121 | 32=>122 | 33=>123 | 34=>124 | 35=>125 | 40=>135 | n=>n,fun | 23=>27 | 25=>3 | 3=>3 | 32=>115 | 22=>27 | 0=>0 | 44=>141 | 46=>143 | 4=>4 | 36=>134 | 35=>133 | 41=>101 | 5=>5 | 9=>9 | 53=>155 | 57=>159 | 63=>171 | 64=>172 | n=>n,fun | n=>n⟩
theorem LO:Go.Proofs.SlLaysM.n5 Tryz.prog KL:={
 mixed:=by kernel_rfl
 f5:=⟨Tryz.f58.name,by decide,Tryz.func58.trans (congrArg some (by kernel_rfl))⟩
 f7:=⟨Tryz.f78.name,by decide,Tryz.func78.trans (congrArg some (by kernel_rfl))⟩
 f8:=Tryz.func79.trans (congrArg some (by kernel_rfl))
 f10:=⟨Tryz.f96.name,by decide,Tryz.func96.trans (congrArg some (by kernel_rfl))⟩
 f11:=⟨Tryz.f97.name,by decide,Tryz.func97.trans (congrArg some (by kernel_rfl))⟩
 f12:=⟨Tryz.f98.name,by decide,Tryz.func98.trans (congrArg some (by kernel_rfl))⟩
 f13:=⟨Tryz.f99.name,by decide,Tryz.func99.trans (congrArg some (by kernel_rfl))⟩
 f14:=⟨Tryz.f100.name,by decide,Tryz.func100.trans (congrArg some (by kernel_rfl))⟩
 f15:=⟨Tryz.f101.name,by decide,Tryz.func101.trans (congrArg some (by kernel_rfl))⟩
 f16:=⟨Tryz.f102.name,by decide,Tryz.func102.trans (congrArg some (by kernel_rfl))⟩
 f17:=⟨Tryz.f103.name,by decide,Tryz.func103.trans (congrArg some (by kernel_rfl))⟩
 f18:=⟨Tryz.f104.name,by decide,Tryz.func104.trans (congrArg some (by kernel_rfl))⟩
 f19:=Tryz.func105.trans (congrArg some (by kernel_rfl))
 f20:=Tryz.func106.trans (congrArg some (by kernel_rfl))
 f30:=⟨Tryz.f120.name,by decide,Tryz.func120.trans (congrArg some (by kernel_rfl))⟩
 f31:=Tryz.func121.trans (congrArg some (by kernel_rfl))
 f32:=Tryz.func122.trans (congrArg some (by kernel_rfl))
 f33:=⟨Tryz.f123.name,by decide,Tryz.func123.trans (congrArg some (by kernel_rfl))⟩
 f34:=⟨Tryz.f124.name,by decide,Tryz.func124.trans (congrArg some (by kernel_rfl))⟩
 f35:=⟨Tryz.f125.name,by decide,Tryz.func125.trans (congrArg some (by kernel_rfl))⟩
 f40:=⟨Tryz.f135.name,by decide,Tryz.func135.trans (congrArg some (by kernel_rfl))⟩
 t0:=Tryz.underlying0
 a0:=Tryz.isAgg0
 z0:=Tryz.sizeOf0
 v0:=Tryz.zeroValue0
 t3:=Tryz.underlying3
 a3:=Tryz.isAgg3
 z3:=Tryz.sizeOf3
 v3:=Tryz.zeroValue3
 t4:=Tryz.underlying4
 a4:=Tryz.isAgg4
 z4:=Tryz.sizeOf4
 v4:=Tryz.zeroValue4
 t5:=Tryz.underlying5
 a5:=Tryz.isAgg5
 z5:=Tryz.sizeOf5
 v5:=Tryz.zeroValue5
 t9:=Tryz.underlying9
 a9:=Tryz.isAgg9
 z9:=Tryz.sizeOf9
 v9:=Tryz.zeroValue9
 t22:=Tryz.underlying27
 a22:=Tryz.isAgg27
 z22:=Tryz.sizeOf27
 v22:=Tryz.zeroValue27
 t23:=Tryz.underlying27
 a23:=Tryz.isAgg27
 z23:=Tryz.sizeOf27
 v23:=Tryz.zeroValue27
 t25:=Tryz.underlying3
 a25:=Tryz.isAgg3
 z25:=Tryz.sizeOf3
 v25:=Tryz.zeroValue3
 t32:=Tryz.underlying115
 a32:=Tryz.isAgg115
 z32:=Tryz.sizeOf115
 v32:=Tryz.zeroValue115
 t35:=Tryz.underlying133
 a35:=Tryz.isAgg133
 z35:=Tryz.sizeOf133
 v35:=Tryz.zeroValue133
 t36:=Tryz.underlying134
 a36:=Tryz.isAgg134
 z36:=Tryz.sizeOf134
 v36:=Tryz.zeroValue134
 t41:=Tryz.underlying101
 a41:=Tryz.isAgg101
 z41:=Tryz.sizeOf101
 v41:=Tryz.zeroValue101
 t44:=Tryz.underlying141
 a44:=Tryz.isAgg141
 z44:=Tryz.sizeOf141
 v44:=Tryz.zeroValue141
 t46:=Tryz.underlying143
 a46:=Tryz.isAgg143
 z46:=Tryz.sizeOf143
 v46:=Tryz.zeroValue143
 t53:=Tryz.underlying155
 a53:=Tryz.isAgg155
 z53:=Tryz.sizeOf155
 v53:=Tryz.zeroValue155
 t57:=Tryz.underlying159
 a57:=Tryz.isAgg159
 z57:=Tryz.sizeOf159
 v57:=Tryz.zeroValue159
 t63:=Tryz.underlying171
 a63:=Tryz.isAgg171
 z63:=Tryz.sizeOf171
 v63:=Tryz.zeroValue171
 t64:=Tryz.underlying172
 a64:=Tryz.isAgg172
 z64:=Tryz.sizeOf172
 v64:=Tryz.zeroValue172 }
end
end Go.Proofs.YtickdehehcmfbaaGreatDoor.Am
set_option linter.unusedVariables false
set_option linter.unusedSimpArgs false
namespace Go.Proofs.YtickdehehcmfbaaGreatDoor.Am
open Go Go.Proofs Go.Shelf
noncomputable section
def HH:Go.Shelf.Ren:=⟨fun | 156=>46 | 165=>72 | 166=>53 | 169=>54 | 240=>76 | 241=>90 | 276=>95 | 277=>117 | n=>n,fun | 31=>39 | 9=>9 | 3=>3 | 4=>4 | 0=>0 | 20=>20 | 72=>93 | 76=>98 | 70=>90 | 37=>91 | 75=>97 | 127=>116 | 164=>130 | 5=>5 | 80=>100 | n=>n,fun | n=>n⟩
theorem Ns:Go.Proofs.Lays.n156 Tryz.prog HH:={
 mixed:=by kernel_rfl
 f156:=Tryz.func46.trans (congrArg some (by kernel_rfl))
 f165:=Tryz.func72.trans (congrArg some (by kernel_rfl))
 f166:=Tryz.func53.trans (congrArg some (by kernel_rfl))
 f169:=Tryz.func54.trans (congrArg some (by kernel_rfl))
 f240:=Tryz.func76.trans (congrArg some (by kernel_rfl))
 f241:=Tryz.func90.trans (congrArg some (by kernel_rfl))
 f276:=Tryz.func95.trans (congrArg some (by kernel_rfl))
 f277:=Tryz.func117.trans (congrArg some (by kernel_rfl))
 t0:=Tryz.underlying0
 a0:=Tryz.isAgg0
 z0:=Tryz.sizeOf0
 v0:=Tryz.zeroValue0
 t3:=Tryz.underlying3
 a3:=Tryz.isAgg3
 z3:=Tryz.sizeOf3
 v3:=Tryz.zeroValue3
 t4:=Tryz.underlying4
 a4:=Tryz.isAgg4
 z4:=Tryz.sizeOf4
 v4:=Tryz.zeroValue4
 t9:=Tryz.underlying9
 a9:=Tryz.isAgg9
 z9:=Tryz.sizeOf9
 v9:=Tryz.zeroValue9
 t20:=Tryz.underlying20
 a20:=Tryz.isAgg20
 z20:=Tryz.sizeOf20
 v20:=Tryz.zeroValue20
 t31:=Tryz.underlying39
 a31:=Tryz.isAgg39
 z31:=Tryz.sizeOf39
 v31:=Tryz.zeroValue39
 t37:=Tryz.underlying91
 a37:=Tryz.isAgg91
 z37:=Tryz.sizeOf91
 v37:=Tryz.zeroValue91
 t70:=Tryz.underlying90
 a70:=Tryz.isAgg90
 z70:=Tryz.sizeOf90
 v70:=Tryz.zeroValue90
 t72:=Tryz.underlying93
 a72:=Tryz.isAgg93
 z72:=Tryz.sizeOf93
 v72:=Tryz.zeroValue93
 t75:=Tryz.underlying97
 a75:=Tryz.isAgg97
 z75:=Tryz.sizeOf97
 v75:=Tryz.zeroValue97
 t76:=Tryz.underlying98
 a76:=Tryz.isAgg98
 z76:=Tryz.sizeOf98
 v76:=Tryz.zeroValue98
 t127:=Tryz.underlying116
 a127:=Tryz.isAgg116
 z127:=Tryz.sizeOf116
 v127:=Tryz.zeroValue116
 t164:=Tryz.underlying130
 a164:=Tryz.isAgg130
 z164:=Tryz.sizeOf130
 v164:=Tryz.zeroValue130 }
theorem Ia:Builder.Extra Tryz.prog HH:={
 sizeBuilder:=by kernel_rfl
 liesBuilder:=by kernel_rfl
 t5:=Tryz.underlying5
 a5:=Tryz.isAgg5
 z5:=Tryz.sizeOf5
 v5:=Tryz.zeroValue5
 infoByte:=by kernel_rfl
 cellsByte:=by kernel_rfl
 sizeByte:=by kernel_rfl
 neB5:=by decide }
def GY:List AV→Option (List (List Nat))
 | []=>some []
 | .str x::l=>(GY l).bind fun r=>some (x::r)
 | _=>none
def Bc(sep:List Nat)(r:List (List Nat)):List Nat:=(r.map (sep++·)).flatten
def CU(xs:List (List Nat))(sep:List Nat):List Nat:=match xs with
 | []=>[]
 | x::r=>x++Bc sep r
def Gn(s:AE):List AV→Option (AV×AE)
 | [.slice (some (i,o)) n c,.str sep]=>(A9 s i o n).bind fun cs=>(GY cs).bind fun xs=>AF (Nat.ble (CU xs sep).length 1000000 && Nat.ble n 1000000) (some (.str (CU xs sep),s))
 | _=>none
theorem OU        {a b : ByteArray} (h : (a.data.toList.map fun (c : UInt8) => c.toNat) = b.data.toList.map fun (c : UInt8) => c.toNat) : a = b := by
  have key:∀ {l m:List UInt8},(l.map fun(c:UInt8)=>c.toNat)=m.map (fun(c:UInt8)=>c.toNat)→l=m:=by
    intro l
    induction l with
    | nil=>intro m h;cases m with | nil=>rfl | cons=>cases h
    | cons x l ih =>
      intro m h
      cases m with
      | nil=>cases h
      | cons y m =>
        rw[ZV,ZV]at h
        injection h with h1 h2
        rw[ih h2,UInt8.toNat_inj.1 h1]
  have:=key h
  exact ByteArray.ext (Array.toList_inj.1 this)
theorem AI.back{ρ:Aq}:∀ {l:List AV}{l':List Value},AI ρ l l'→∀ {k:Nat}{v':Value},l'[k]? = some v'→∃u,l[k]? = some u∧AJ ρ u v'
 | _,_,.nil,k,v',h=>by simp at h
 | _,_,.cons hv hs,0,v',h=>by simp at h;subst h;exact⟨_,rfl,hv⟩
 | _,_,.cons hv hs,k+1,v',h=>by simpa using hs.back (by simpa using h)
theorem G2{ρ:Aq}:∀ {l:List AV}{xs:List (List Nat)}{l':List Value},GY l=some xs→AI ρ l l'→∃bs:List ByteArray,l'=bs.map Value.string∧xs=bs.map fun b=>b.data.toList.map fun(c:UInt8)=>c.toNat
  | [],xs,l',h,hr=>by cases hr;injection h with h;exact⟨[],rfl,h.symm⟩
  | v::l,xs,l',h,hr=>by
    cases hr with
    | cons hv hs =>
      cases v<;>try (simp[GY]at h;done)
      rename_i x
      simp only[GY,ZA]at h
      obtain⟨r,h1,h2⟩:=h
      injection h2 with h2
      subst h2
      obtain⟨bs,rfl,rfl⟩:=G2 h1 hs
      cases hv with
      | str e=>rename_i b;exact⟨b::bs,rfl,by rw[ZV,e]⟩
theorem JA(sep:List UInt8)(r:List (List UInt8)):Bc (sep.map fun(c:UInt8)=>c.toNat) (r.map fun b=>b.map fun(c:UInt8)=>c.toNat)=(Go.Lib.joinTail sep r).map fun(c:UInt8)=>c.toNat:=by
 induction r with
 | nil=>rfl
 | cons x r ih =>
  have h1:Bc (sep.map fun(c:UInt8)=>c.toNat) ((x::r).map fun b=>b.map fun(c:UInt8)=>c.toNat)=(sep.map fun(c:UInt8)=>c.toNat)++x.map (fun(c:UInt8)=>c.toNat)++Bc (sep.map fun(c:UInt8)=>c.toNat) (r.map fun b=>b.map fun(c:UInt8)=>c.toNat):=by simp[Bc]
  have h2:Go.Lib.joinTail sep (x::r)=sep++x++Go.Lib.joinTail sep r:=by simp[Go.Lib.joinTail]
  rw[h1,h2,ih];simp
theorem Ok(bs:List ByteArray)(sep:ByteArray):CU (bs.map fun b=>b.data.toList.map fun(c:UInt8)=>c.toNat) (sep.data.toList.map fun(c:UInt8)=>c.toNat)=(Go.Lib.join (bs.map (·.data.toList)) sep.data.toList).map fun(c:UInt8)=>c.toNat:=by
 cases bs with
 | nil=>rfl
 | cons b bs =>
  rw[ZV,ZV,Go.Lib.join_cons,Zz]
  show _++Bc _ _=_
  have:=JA sep.data.toList (bs.map (·.data.toList))
  rw[Zx]at this
  rw[← this];rfl
section
variable{ρ:Aq}{s s1:AE}{w:World}
theorem Ol        (h : Al  Tryz.prog ρ s w) {ys : List AV} {as' : Array Value} {v : AV} (hs : Gn     s ys = some (v, s1)) (has : AI    ρ ys as'.toList) : CallsIn Fence.wide 0 Tryz.prog 46 as' w (Cq     Tryz.prog ρ s w v s1) := by
  refine callsIn_wide.2 ?_
  unfold Gn at hs
  split at hs<;>first | (cases hs;done) | skip
  rename_i i o n c sep
  simp only[ZA]at hs
  obtain⟨cs,hl,xs,hx,hs⟩:=hs
  obtain⟨hg,hs⟩:=AA hs
  simp only[Bool.and_eq_true,ZN]at hg
  injection hs with hs
  injection hs with q1 q2
  subst q1;subst q2
  obtain⟨l0⟩:=as'
  cases has with
  | cons h1 h2 =>
  cases h2 with
  | cons h2 h3 =>
  cases h3
  cases h2 with
  | str hsep =>
  rename_i sb
  have main:∀ {rb:RB} {cap:Nat},ρ i=some rb→n≤cap→Calls Tryz.prog 46 #[.slice (some ⟨rb.b,rb.off+o,none⟩) n cap,.string sb] w (Cq Tryz.prog ρ s w (.str (CU xs sep)) s):=by
    intro rb cap hr hcap
    obtain⟨l',hv,hl2,_⟩:=Bb h hr hl
    have hcell:∀k u,cs[k]? = some u→∃v',AJ ρ u v'∧w.cell? ⟨rb.b,rb.off+(o+k),none⟩=some v':=fun k u hk=>by
      obtain⟨r,hrow⟩:∃r,rowAt s i=some r:=by
        unfold A9 at hl
        cases hrw:rowAt s i with
        | none=>rw[hrw]at hl;cases hl
        | some r=>exact⟨r,rfl⟩
      obtain⟨g1,g2⟩:=E9 hrow hl
      have hkn:k<n:=by
        have:=AG.take_length g2
        rcases ZO k n with h' | h'
        · exact h'
        · rw[ZT (by omega)]at hk;cases hk
      have g3:=AG.take_get g2 k hkn
      have:B9 s i (o+k)=some u:=by
        unfold B9
        rw[hrow,Option.bind_some,g3,hk]
        have:Nat.blt (o+k) r.n=true:=by rw[ZX];omega
        rw[this];rfl
      exact Ev h hr this
    obtain⟨bs,rfl,rfl⟩:=G2 hx hv
    subst hsep
    rw[Ok]at hg ⊢
    rw[ZY]at hg
    have hlen:bs.length=n:=by rw[ZY]at hl2;exact hl2
    subst hlen
    have hcj:∀ (j:Nat) x,bs[j]? = some x→w.cell? ⟨rb.b,rb.off+o+j,none⟩=some (.string x):=fun j x hj=>by
      obtain⟨u,hu,hux⟩:∃u,cs[j]? = some u∧AJ ρ u (.string x):=by
        obtain⟨u,hu1,hu2⟩:=hv.back (k:=j) (v':=.string x) (by rw[Zg,hj];rfl)
        exact⟨u,hu1,hu2⟩
      obtain⟨v',k1,k2⟩:=hcell j u hu
      cases hux with
      | str e1 =>
        cases k1 with
        | str e2 =>
          rename_i b'
          have:b'=x:=OU (e2.trans e1.symm)
          rw[show rb.off+o+j=rb.off+(o+j)from by omega,k2,this]
    have:=Any.strings_Join Ns Ia rb.b (rb.off+o) cap bs sb w hcj (h.lt i rb hr) (by omega) hcap (by omega)
    refine Calls.mono this ?_
    rintro e w' ⟨rfl,hb⟩
    obtain⟨g1,g2⟩:=h.grown (w1:=w') ⟨hb.os,hb.tape,hb.output,hb.size,fun k hk _=>hb.block k hk⟩
    exact⟨ρ,.str rfl,g1,g2⟩
  cases h1 with
  | slice hr hle=>exact main hr hle
  | sliceOpen hr h0 hle hN1 hN2=>exact main hr hle
  | sliceEnd hr h0 hN1 hN2 =>
    rename_i rb a
    obtain⟨l',hv,hl2,_⟩:=Bb h hr hl
    obtain⟨bs,rfl,rfl⟩:=G2 hx hv
    have hb0:bs=[]:=Zr (by rw[ZY]at hl2;exact hl2)
    subst hb0
    refine Calls.mono (Any.strings_Join_none Ns Ia _ _ sb w) ?_
    rintro e w' ⟨rfl,rfl⟩
    exact⟨ρ,.str rfl,h,Fr.refl _ _ _⟩
end
end
end Go.Proofs.YtickdehehcmfbaaGreatDoor.Am
set_option linter.unusedVariables false
set_option linter.unusedSimpArgs false
namespace Go.Proofs.YtickdehehcmfbaaGreatDoor.Am
open Go Go.RowKit
noncomputable section
def Mc(x:Int):List Int→List Int
 | []=>[x]
 | y::l=>bif KP x y then x::y::l else y::Mc x l
def IX:List Int→List Int
 | []=>[]
 | x::l=>Mc x (IX l)
theorem Gj(x:Int):∀l:List Int,(Mc x l).Perm (x::l)
 | []=>.refl _
 | y::l=>by
  unfold Mc
  cases KP x y with
  | true=>exact .refl _
  | false=>exact((Gj x l).cons y).trans (.swap x y l)
theorem Fn:∀l:List Int,(IX l).Perm l
 | []=>.refl _
 | x::l=>(Gj x _).trans ((Fn l).cons x)
theorem HE(x:Int):∀l:List Int,l.Pairwise (·≤·)→(Mc x l).Pairwise (·≤·)
 | [],_=>by simp[Mc]
 | y::l,h=>by
  unfold Mc
  have hl:=List.pairwise_cons.1 h
  rw[Cg]
  by_cases hxy:x<y
  ·simp only[hxy,decide_true,cond_true]
   refine List.pairwise_cons.2 ⟨fun z hz=>?_,h⟩
   rcases Zd.1 hz with rfl | hz
   ·omega
   ·have:=hl.1 z hz;omega
  ·simp only[hxy,decide_false,cond_false]
   refine List.pairwise_cons.2 ⟨fun z hz=>?_,HE x l hl.2⟩
   rcases Zd.1 ((Gj x l).mem_iff.1 hz)with rfl | hz
   ·omega
   ·exact hl.1 z hz
theorem GJ:∀l:List Int,(IX l).Pairwise (·≤·)
 | []=>.nil
 | x::l=>HE x _ (GJ l)
theorem PU        {l m : List Int} (hp : l.Perm m) (hl : l.Pairwise (· ≤ ·)) (hm : m.Pairwise (· ≤ ·)) : l = m := by
  induction l generalizing m with
  | nil=>exact(List.nil_perm.1 hp).symm
  | cons a l ih =>
    cases m with
    | nil=>exact absurd hp.length_eq (by simp)
    | cons b m =>
      have hl':=List.pairwise_cons.1 hl
      have hm':=List.pairwise_cons.1 hm
      have hab:a=b:=by
        have h1:a∈b::m:=hp.mem_iff.1 ZU
        have h2:b∈a::l:=hp.mem_iff.2 ZU
        rcases Zd.1 h1 with e | h1
        · exact e
        · rcases Zd.1            h2 with e | h2
          · exact e.symm
          · have:=hm'.1 a h1;have:=hl'.1 b h2;omega
      subst hab
      rw[ih hp.cons_inv hl'.2 hm'.2]
theorem LL{l m:List Int}(h:l.Perm m):m.mergeSort (fun x y=>decide (x≤y))=IX l:=by
 refine PU ((List.mergeSort_perm _ _).trans (h.symm.trans (Fn l).symm)) ?_ (GJ l)
 have:=List.pairwise_mergeSort (le:=fun(x y:Int)=>decide (x≤y)) (by intro a b c;simp;omega) (by intro a b;simp;omega) m
 exact this.imp (by intro a b h;simpa using h)
def JS:List (AV×AV)→Option (List Int)
 | []=>some []
 | (.int .i64 n,_)::l=>(JS l).bind fun r=>some (n::r)
 | _=>none
def Xz(n:Int):AV:=.int .i64 n
def G1(tI:TypeId)(ks:List Int)(s:AE):Option (AV×AE):=match ks with
 | []=>some (.slice none 0 (some 0),s)
 | k::ks=>AF (Nat.ble (k::ks).length 1000000) (some (.slice (some (s.next,0)) (k::ks).length none,newObj s (CM tI 1 (AG.fill .leaf 0 ((IX (k::ks)).map Xz)) (k::ks).length none true)))
def E4(g:FuncId)(kt tI:TypeId)(s:AE):List AV→Option (AV×AE)
 | [.func f [] [.ptr (some (i,o))]]=>AF (Nat.beq f g && Nat.beq o 0) <| (rowAt s i).bind fun r=>AF r.bytes <| (B9 s i o).bind fun m=>match m with
  | .map none=>some (.slice none 0 (some 0),s)
  | .map (some j)=>(FZ s kt j).bind fun es=>(JS es).bind fun ks=>G1 tI ks s
  | _=>none
 | _=>none
section
variable{P:Program}{ρ ρ1 ρ2:Aq}{s s1 s2:AE}{w w1 w2:World}
def NE(P:Program)(f g:FuncId)(kt tI:TypeId):Prop:=
 (∀ (Bm b nn:Nat) (D0:DataW Value) (w:World),Bm<w.heap.size→w.cell? ⟨Bm,0,none⟩=some (.map (some b))→w.ownsMap P kt Rv b nn D0→Maps.size D0≤1000000 →
  Calls P f #[.func (.func g) #[] #[.pointer (some ⟨Bm,0,none⟩)]] w fun e w'=>∃ (v:Value) (ss:List Int),e=.returned v∧ss.Perm (intKeys D0) ∧
   w'.ownsRow w.heap.size tI 1 v ss.length ((ss.mergeSort (fun x y=>decide (x≤y))).map fun n=>.int .i64 n)∧(v=.slice none 0 0↔ss=[])∧Below w.heap.size w w') ∧
 ∀ (Bm:Nat) (w:World),Bm<w.heap.size→w.cell? ⟨Bm,0,none⟩=some (.map none) →
  Calls P f #[.func (.func g) #[] #[.pointer (some ⟨Bm,0,none⟩)]] w fun e w'=>e=.returned (.slice none 0 0)∧Below w.heap.size w w'
theorem JT:∀ {es:List (AV×AV)}{ks:List Int}{l:List MapEntry},JS es=some ks→B1 ρ es l→l.map (·.key)=ks.map fun n=>Value.int .i64 n
  | [],ks,l,h,he=>by cases he;injection h with h;subst h;rfl
  | (k,v)::es,ks,l,h,he=>by
    cases he with
    | cons hk hv hs =>
      cases k<;>try (simp[JS]at h;done)
      rename_i q n
      cases q<;>try (simp[JS]at h;done)
      simp only[JS,ZA]at h
      obtain⟨r,h1,h2⟩:=h
      injection h2 with h2
      subst h2
      have:=JT h1 hs
      generalize hkk:(_:MapEntry).key=kk at hk
      cases hk
      simp[this,hkk]
theorem Ek(h:Below w.heap.size w w1):w.grownBy w1 none:=⟨h.os,h.tape,h.output,h.size,fun k hk _=>h.block k hk⟩
theorem Ls          {f g : FuncId} {kt tI : TypeId} (hko : Do     P kt = true) (hu : P.underlying kt = some (.int .i64)) (hc : NE      P f g kt tI) (h : Al  P ρ s w) (hf : Av     ρ s) {aS : List AV} {as' : Array Value} {v : AV} (hs : E4       g kt tI s aS = some (v, s1)) (has : AI    ρ aS as'.toList) :
    CallsIn Fence.wide 0 P f as' w (Cq P ρ s w v s1):=by
  refine callsIn_wide.2 ?_
  unfold E4 at hs
  split at hs<;>first | (cases hs;done) | skip
  rename_i f' i o
  obtain⟨hg,hs⟩:=AA hs
  simp only[ZA,Bool.and_eq_true]at hs hg
  obtain⟨r,hrow,hs⟩:=hs
  obtain⟨hby,hs⟩:=AA hs
  simp only[ZA]at hs
  obtain⟨m,hm,hs⟩:=hs
  have e1:=ZR hg.1
  have e2:=ZR hg.2
  subst e1;subst e2
  obtain⟨l0⟩:=as'
  cases has with
  | cons h1 h2 =>
  cases h2
  cases h1 with
  | func ha hcap =>
  rename_i a' c'
  obtain⟨la⟩:=a'
  obtain⟨lc⟩:=c'
  cases ha
  cases hcap with
  | cons hp hn =>
  cases hn
  cases hp with
  | ptr hr =>
  rename_i rb
  have hok:BF ρ w r rb:=h.obj i _ rb (Aj hrow) hr
  have hoff:=hok.base hby
  obtain⟨m',hvm,hcell⟩:=Ev h hr hm
  rw[hoff]at hcell ⊢
  have hlt:=h.lt i rb hr
  cases m<;>try (simp at hs;done)
  rename_i mj
  have nilDone:∀ (hs:some ((.slice none 0 (some 0),s):AV×AE)=some (v,s1)) (w':World),Below w.heap.size w w'→Cq P ρ s w v s1 (.returned (.slice none 0 0)) w':=by
    intro hs w' hb
    injection hs with hs
    injection hs with q1 q2
    subst q1;subst q2
    obtain⟨g1,g2⟩:=h.grown (Ek hb)
    exact⟨ρ,.sliceNil,g1,g2⟩
  cases mj with
  | none =>
    cases hvm
    refine(hc.2 rb.b w hlt hcell).mono ?_
    rintro e w' ⟨rfl,hb⟩
    exact nilDone hs w' hb
  | some j =>
    simp only[ZA]at hs
    obtain⟨es,hes,ks,hks,hs⟩:=hs
    cases hvm with
    | map hrj =>
    rename_i rj
    obtain⟨ed,cd,d1,d2,⟨ld,d3,d4⟩,d5⟩:=(show G6 P ρ w kt es rj from h.obj j _ rj (DI hes) hrj).ex
    have hkl:=JT hks d4
    have hlenk:ks.length=ed.size:=by have:=congrArg List.length hkl;have:=d3.length_eq;simp at *;omega
    have hk6:ks.length≤1000000:=by
      cases ks with
      | nil=>simp
      | cons k ks =>
        simp only[G1]at hs
        have:=(AA hs).1
        simpa[ZN]using this
    have hmax:(1000000:Nat)≤maxLen:=by unfold maxLen;omega
    have od:=Kb d1 d2 d5 (by omega)
    have hsz:Maps.size (DataW.map ((ed.toList.map (WideElems.rg P kt Rv)).foldr DataW.insert []))=ed.size:=by
      show((ed.toList.map (WideElems.rg P kt Rv)).foldr DataW.insert []).length=_
      rw[(Go.WideShapes.sorted_perm _).length_eq]
      simp
    have hints:(intKeys (DataW.map ((ed.toList.map (WideElems.rg P kt Rv)).foldr DataW.insert []))).Perm ks:=by
      show(((ed.toList.map (WideElems.rg P kt Rv)).foldr DataW.insert []).map fun p=>Go.intOf p.1).Perm ks
      refine((Go.WideShapes.sorted_perm _).map _).trans ?_
      rw[Zx]
      have:((ld.map fun e=>Go.intOf (WideElems.rg P kt Rv e).1))=ks:=by
        have:∀ (L:List MapEntry) (K:List Int),(∀e∈L,∃l,keyOf P kt e.key=some l)→L.map (·.key)=K.map (fun n=>Value.int .i64 n)→(L.map fun e=>Go.intOf (WideElems.rg P kt Rv e).1)=K:=by
          intro L
          induction L with
          | nil=>intro K _ hK;cases K with | nil=>rfl | cons=>simp at hK
          | cons e L ih =>
            intro K hty hK
            cases K with
            | nil=>simp at hK
            | cons n K =>
              simp only[ZV,List.cons.injEq]at hK
              obtain⟨l,hl⟩:=hty e ZU
              rw[ZV,ih K (fun x hx=>hty x (ZQ _ hx)) hK.2,Si hl]
              congr 1
              rw[hK.1]at hl
              simp only[keyOf,hu,mapKey]at hl
              split at hl
              · injection hl with hl;subst hl;rfl
              · cases hl
        exact this ld ks (fun e he=>d5 e (d3.mem_iff.1 he)) hkl
      rw[← this]
      exact d3.symm.map _
    refine(hc.1 rb.b rj.b _ _ w hlt hcell od (by rw[hsz];omega)).mono ?_
    rintro e w' ⟨v',ss,rfl,hperm,hrow',hnil,hb⟩
    have hss:ss.Perm ks:=hperm.trans hints
    cases ks with
    | nil =>
      have:ss=[]:=List.perm_nil.1 hss
      rw[hnil.2 this]
      exact nilDone hs w' hb
    | cons k ks =>
      simp only[G1]at hs
      obtain⟨_,hs⟩:=AA hs
      injection hs with hs
      injection hs with q1 q2
      subst q1;subst q2
      have hne:ss≠[]:=fun e=>by subst e;exact absurd (List.nil_perm.1 hss) (by simp)
      rw[LL hss.symm]at hrow'
      have hl:ss.length=(k::ks).length:=hss.length_eq
      rcases hrow'.2 with⟨q,_⟩ | ⟨gb,cap,cur,rfl,hbase,hgb,r1,r2,r3,r4⟩
      · exact absurd (hnil.1 q) hne
      · rw[hl]at r1 r4 ⊢
        have hilen:(IX (k::ks)).length=(k::ks).length:=(Fn _).length_eq
        generalize hn:(k::ks).length=n at r1 r4 hilen ⊢
        have hglt:gb<w'.heap.size:=(Array.getElem?_eq_some_iff.1 hgb).1
        obtain⟨g1,g2⟩:=h.grown (Ek hb)
        let rbn:RB:=⟨gb,0,cap,1⟩
        have hfn:=(hf s.next (Y9 _)).1
        have hle:=BL (rb:=rbn) hfn
        have hrok:BF (BJ ρ s.next rbn) w' { elem:=tI,sz:=1,n:=n,c:=AG.fill .leaf 0 ((IX (k::ks)).map Xz),spare:=true,mode:=.own,par:=none,bytes:=true } rbn:=by
          refine⟨?_,r1,rfl,(fun hh=>by cases hh),fun _=>⟨cur,hgb,by simp only[rbn];omega⟩,fun _=>rfl,(fun g hg=>by cases hg),fun p hp=>by cases hp⟩
          intro q u hq hu'
          simp only at hq
          simp only[AG.get_fill,ZW,ZB,true_and,Nat.sub_zero,ZY,hilen]at hu'
          rw[if_pos hq,Zg]at hu'
          obtain⟨x,hx,hx2⟩:=Option.map_eq_some_iff.1 hu'
          subst hx2
          refine⟨.int .i64 x,?_,.int _ _⟩
          have:(cur.toList.take (n * 1))[q]? = some (Value.int .i64 x):=by rw[r4,Zg,hx];rfl
          rw[Zy (by omega)]at this
          simp only[World.cell?,rbn,ZB,hgb]
          simpa using this
        refine⟨BJ ρ s.next rbn,.sliceOpen (AM _ _) (Nat.one_pos) r1 (by simp[rbn]) (by simp[rbn]),⟨?_,?_,?_,?_⟩,?_⟩
        · intro x ox rx hx hrx
          rw[Ak]at hx
          by_cases e:x=s.next
          · subst e
            rw[if_pos rfl]at hx
            injection hx with hx
            rw[AM]at hrx
            injection hrx with hrx
            subst hx;subst hrx
            exact hrok
          · rw [if_neg e] at hx
            rw[AL rbn e]at hrx
            exact(g1.obj x ox rx hx hrx).mono hle rfl
        · intro x rx hrx
          by_cases e:x=s.next
          · subst e
            rw[AM]at hrx
            injection hrx with hrx
            subst hrx
            exact hglt
          · rw[AL rbn e]at hrx
            exact g1.lt x rx hrx
        · intro x y ox oy rx ry hxy hx hy hrx hry hbb hw
          rw[Ak]at hx hy
          by_cases ex:x=s.next
          · subst ex
            have ey:y≠s.next:=fun e=>hxy e.symm
            rw[AM]at hrx
            injection hrx with hrx
            subst hrx
            rw[AL rbn ey]at hry
            have:=h.lt y ry hry
            simp only[rbn]at hbb
            omega
          · by_cases ey : y = s.next
            · subst ey
              rw[AM]at hry
              injection hry with hry
              subst hry
              rw[AL rbn ex]at hrx
              have:=h.lt x rx hrx
              simp only[rbn]at hbb
              omega
            · rw [if_neg ex] at hx
              rw[if_neg ey]at hy
              rw[AL rbn ex]at hrx
              rw[AL rbn ey]at hry
              exact g1.sep x y ox oy rx ry hxy hx hy hrx hry hbb hw
        · intro x ox g hx hgo
          rw[Ak]at hx
          by_cases e:x=s.next
          · subst e;exact⟨_,AM _ _⟩
          · rw[if_neg e]at hx
            obtain⟨r',hr'⟩:=h.glb x ox g hx hgo
            exact⟨r',hle _ _ hr'⟩
        · refine ⟨hle, ?_, by simp [newObj], hb.size, hb.os, hb.tape, hb.output, fun b hb' _ => hb.block b hb', ?_, ?_⟩
          · intro x hx hxr
            have:x≠s.next:=by simp[newObj]at hxr;omega
            rw[AL rbn this];exact hx
          · rintro b ⟨x, ox, rx, hx, hw, hrx, rfl⟩
            rw[Ak]at hx
            by_cases e:x=s.next
            · subst e
              rw[AM]at hrx
              injection hrx with hrx
              subst hrx
              exact .inr hbase
            · rw [if_neg e] at hx
              rw[AL rbn e]at hrx
              exact .inl ⟨x,ox,rx,hx,hw,hrx,rfl⟩
          · intro x _ hx
            rw[Ak,if_neg (by simp[newObj]at hx;omega)]
end
end
end Go.Proofs.YtickdehehcmfbaaGreatDoor.Am
set_option linter.unusedVariables false
set_option linter.unusedSimpArgs false
namespace Go.Proofs.YtickdehehcmfbaaGreatDoor.Am
open Go Go.Proofs Go.RowKit
noncomputable section
theorem XY:UI Tryz.prog 55 3:=by
 refine⟨fun bd bs nd ns Dd Ds w hd hs hne hroom=>AnyX.maps_Copy (ρ:=EJ) LM (Go.Maps.int_keyed Tryz.underlying3) Rv bd bs nd ns Dd Ds w hd hs hne hroom,fun pd w=>AnyX.maps_Copy_nil (ρ:=EJ) LM pd w⟩
theorem Sz(m:Nat):AnyZI.SortsIn Tryz.prog Er Fence.wide m:=
  ⟨fun blk off cap ss W hH hblk hsz=>callsIn_wide.2 (AnyM.slices_Sort_int LO blk off cap ss W hH hblk hsz),
   fun p cap W=>callsIn_wide.2 (AnyM.slices_Sort_int_none LO p cap W)⟩
theorem T5:NE Tryz.prog 37 59 3 3:=by
  refine⟨fun Bm b nn D0 w hBm hm hown hsz=>?_,fun Bm w hBm hm=>?_⟩
  · have hseq := AnyZI.keys_gives (ρ := EK)           { LN       with } Fence.wide 2 trivial rfl (by omega) Bm b nn D0 w hBm hm hown
    have cS:=AnyZI.sorted_in Ib Fence.wide 5 trivial trivial trivial trivial rfl (by omega) (Sz _) (enters_of Tryz.func58 (by kernel_rfl) rfl) 59 #[.pointer (some ⟨Bm,0,none⟩)] trivial (enters_of Tryz.func59 (by kernel_rfl) rfl) _ _ (Za hsz (by unfold maxLen;omega)) (by omega) _ hseq
    exact callsIn_wide.1 cS
  · have hseq := AnyZI.keys_gives_nil (ρ := EK)           { LN       with } Fence.wide 2 trivial rfl Bm w hBm hm
    have cS:=AnyZI.sorted_in Ib Fence.wide 5 trivial trivial trivial trivial rfl (by omega) (Sz _) (enters_of Tryz.func58 (by kernel_rfl) rfl) 59 #[.pointer (some ⟨Bm,0,none⟩)] trivial (enters_of Tryz.func59 (by kernel_rfl) rfl) _ 0 (ZW _) (by omega) _ hseq
    refine(callsIn_wide.1 cS).mono ?_
    rintro e w' ⟨v,ss,rfl,hS,_,hnil,hb⟩
    rw[hnil.2 hS]
    exact⟨rfl,hb⟩
def Oz:L0:=fun f xs s=>bif Nat.beq f 55 then IC 3 s xs else bif Nat.beq f 37 then E4 59 3 3 s xs else bif Nat.beq f 46 then Gn s xs else none
theorem Nv      : DN     Tryz.prog Oz   := by
  intro ρ s w f xs v s1 as' hc hi hf ha
  unfold Oz at hc
  cases h1:Nat.beq f 55 with
  | true =>
    rw[h1]at hc
    have:=ZR h1
    subst this
    exact⟨⟨_,_,Tryz.func55,rfl⟩,Od (by kernel_rfl) XY hi hc ha⟩
  | false =>
    rw[h1]at hc
    simp only[cond_false]at hc
    cases h2:Nat.beq f 37 with
    | true =>
      rw[h2]at hc
      have:=ZR h2
      subst this
      exact⟨⟨_,_,Tryz.func37,rfl⟩,Ls (by kernel_rfl) Tryz.underlying3 T5 hi hf hc ha⟩
    | false =>
      rw[h2]at hc
      simp only[cond_false]at hc
      cases h3:Nat.beq f 46 with
      | true =>
        rw[h3]at hc
        have:=ZR h3
        subst this
        exact⟨⟨_,_,Tryz.func46,rfl⟩,Ol hi hc ha⟩
      | false=>rw[h3]at hc;cases hc
def Xx:Bt:=⟨Tryz.prog,Oz⟩
end
end Go.Proofs.YtickdehehcmfbaaGreatDoor.Am
