/- The abstract machine runs as the model does: all of it, by the fuel; conditions: the drawn order is followed; no function counts goroutines; what is given for a function is so. -/
import Derived.Test.YtilhhmkdcoajnaaAmSim2
set_option linter.unusedVariables false
set_option linter.unusedSimpArgs false
namespace Go.Proofs.Ytilhhmkdcoajnaa.Am
open Go
noncomputable section
section
variable{P:Program}{ρ ρ1 ρ2:Rho}{s s1 s2:ASt}{w w1 w2:World}
theorem Z8(hng:Ef P){F:Fns}(hcall:HY P F.call){f:FuncId}{fn:Func}{g:Operand}{x:CX}{ps:Array Tmp}{assign body:Code}{rnd r:Option Nat}{var:List AV}{marks:List Nat}{s:ASt}{res:A6}{ρ:Rho}{w:World}{a:Act}{Q:Exit→Act→World→Prop}
    (hf:P.funcs[f]? = some fn) (hx:FN (BN P fn) ⟨[],0⟩ g=some x) (hc:Kt F rnd f (cev [] var x) ps assign body var marks s=some res) (hb:Iq P fn ρ s w var marks rnd r a)
    (hq:∀a' w' ρ',Hw P fn ρ s w res a' w' ρ'→Q (Hv res.exit) a' w'):(Code.rangeFunc g ps assign body).wpIn (fen r) 0 P Q a w:=by
  have hgv:Aa ρ (cev [] var x) (a.eval g):=Pa hb.vars hx
  have res1:∀l:Nat,(resolve a.eval (rangeCall g l) 0:Sem Deferred)=Deferred.ofValue (a.eval g) #[.func (.yield l) #[] #[]]:=by
    intro l
    simp[resolve,rangeCall,Act.eval]
  refine wpIn_rangeFunc fun fn' _=>?_
  unfold Kt at hc
  cases rnd with
  | some l =>
    simp only[oE]at hc
    obtain⟨al,hl,hc⟩:=hc
    obtain⟨rb,h1,h2⟩:=hb.rnd
    subst h2
    have hgl:=E8 hl
    obtain⟨L,h0,_,_,_,_,_,⟨rd,hd1,hd2⟩,_⟩:=(hb.inv.obj _ _ _ hgl h1:GP P ρ w al rb).ex
    have hent:=HL (P:=P) h0 fn' a.tmps ps assign body
    rw[hd2]at hent
    obtain⟨d,f0,args,k1,k2,k3⟩:=Ll (r:=some rb.b) (Q:=Q) hng hcall hf hc hb.inv hb.fresh hb.vars hb.marks hgv hd1 fn' fun w' ρ' h=>hq a w' ρ' h
    refine⟨_,_,_,d,_,f0,args,_,hent,?_,fun _ _=>trivial,k2 _,(fun e=>by cases e),k3⟩
    rw[res1,k1]
    rfl
  | none =>
    have hr:r=none:=hb.rnd
    subst hr
    let rb:RB:=⟨w.heap.size,0,0,0⟩
    have hn0:=(hb.fresh _ (oD s.next)).1
    have hle:=Co (rb:=rb) hn0
    obtain⟨hi1,hfr1⟩:=hb.inv.new (o:=.mark) (o':=.deferred (some [])) (rb:=rb) hn0 rfl (World.alloc_heap_new w _)
    have hff:=hb.fresh.new .mark rb
    have hd1:Cr ρ s.next rb s.next=some rb:=A4 _ _
    obtain⟨d,f0,args,k1,k2,k3⟩:=Ll (r:=none) (Q:=Q) (a:={ a with defers:=[{ target:=.collected w.heap.size,args:=#[] }]++a.defers }) hng hcall hf hc hi1 hff (hb.vars.mono hle)
      ⟨rb,a.defers,hd1,rfl,hb.marks.mono hle⟩ (hgv.mono hle) hd1 fn' fun w' ρ' h=>hq _ w' ρ' (Hw.trans (r1:=res) (a1:=a) hfr1 h)
    have hsz:(w.alloc (.deferred (some []))).heap.size=w.heap.size+1:=by simp
    rw[hsz]at k1 k3
    refine⟨_,_,_,d,_,f0,args,_,run_enterLoop_outer fn' a.tmps ps assign body,?_,fun _ _=>trivial,k2 _,(fun e=>by cases e),k3⟩
    rw[res1,k1]
    rfl
theorem UR        (hm : P.follows .mixedOrders = true) (hng : Ef      P) {F : Fns} {n : Nat} (h : OS    P F n) {call : FuncId → List AV → ASt → Option (AV × ASt)} {round : Nat → List AV → ASt → Option (AV × ASt)} : NE     P ⟨DC    F, call, round⟩ := by
  intro f fn c
  have hF:=h.fok hng
  induction c with
  | skip =>
    intro rnd r var marks s res ρ w a Q hf hc hb hq
    injection (show some (⟨.normal,var,marks,s⟩:A6)=some res from hc)with hc
    subst hc
    exact wpIn_skip (hq a w ρ ⟨hb.inv,hb.fresh,Fr.refl _ _ _,hb.vars,hb.marks⟩)
  | label l =>
    intro rnd r var marks s res ρ w a Q hf hc hb hq
    injection (show some (⟨.normal,var,marks,s⟩:A6)=some res from hc)with hc
    subst hc
    exact wpIn_label (hq a w ρ ⟨hb.inv,hb.fresh,Fr.refl _ _ _,hb.vars,hb.marks⟩)
  | ret =>
    intro rnd r var marks s res ρ w a Q hf hc hb hq
    injection (show some (⟨.ret,var,marks,s⟩:A6)=some res from hc)with hc
    subst hc
    exact wpIn_ret (hq a w ρ ⟨hb.inv,hb.fresh,Fr.refl _ _ _,hb.vars,hb.marks⟩)
  | exit id =>
    intro rnd r var marks s res ρ w a Q hf hc hb hq
    injection (show some (⟨.exit id,var,marks,s⟩:A6)=some res from hc)with hc
    subst hc
    exact wpIn_exit (hq a w ρ ⟨hb.inv,hb.fresh,Fr.refl _ _ _,hb.vars,hb.marks⟩)
  | goto l=>intro rnd r var marks s res ρ w a Q hf hc;cases hc
  | refuse u=>intro rnd r var marks s res ρ w a Q hf hc;cases hc
  | region id ops draw =>
    intro rnd r var marks s res ρ w a Q hf hc hb hq
    exact lT hm hF hc hb hq
  | seq x y ihx ihy =>
    intro rnd r var marks s res ρ w a Q hf hc hb hq
    have hc:IE F rnd (BG P f fn.ntmps (BN P fn) y) (F.code rnd (BG P f fn.ntmps (BN P fn) x) var marks s)=some res:=hc
    unfold IE at hc
    split at hc<;>first | (cases hc;done) | skip
    rename_i r1 h1
    refine wpIn_seq (h.code f fn x rnd r var marks s r1 ρ w a _ hf h1 hb ?_)
    intro a' w' ρ' g
    unfold HQ at hc
    cases he:r1.exit with
    | normal =>
      rw[he]at hc
      refine h.code f fn y rnd r _ _ _ res ρ' w' a' Q hf hc (g.begins hb) ?_
      intro a2 w2 ρ2 g2
      exact hq a2 w2 ρ2 (Hw.trans (r1:=r1) (a1:=a') g.fr g2)
    | exit id =>
      rw[he]at hc
      injection hc with hc
      subst hc
      have:=hq a' w' ρ' g
      rw[he]at this
      exact this
    | ret =>
      rw[he]at hc
      injection hc with hc
      subst hc
      have:=hq a' w' ρ' g
      rw[he]at this
      exact this
  | cond o x y ihx ihy =>
    intro rnd r var marks s res ρ w a Q hf hc hb hq
    simp only[BG]at hc
    cases ho:FN (BN P fn) ⟨[],0⟩ o with
    | none=>rw[ho]at hc;cases hc
    | some z =>
      rw[ho]at hc
      have hc:Ov F rnd (BG P f fn.ntmps (BN P fn) x) (BG P f fn.ntmps (BN P fn) y) var marks s (cev [] var z)=some res:=hc
      have hz:=Pa hb.vars ho
      unfold Ov at hc
      split at hc<;>first | (cases hc;done) | skip
      rename_i t ht
      rw[ht]at hz
      have hev:a.eval o=.bool t:=by
        generalize a.eval o=y at hz
        cases hz;rfl
      refine wpIn_cond hev ?_
      cases t with
      | true=>exact h.code f fn x rnd r var marks s res ρ w a Q hf hc hb hq
      | false=>exact h.code f fn y rnd r var marks s res ρ w a Q hf hc hb hq
  | block id c ih =>
    intro rnd r var marks s res ρ w a Q hf hc hb hq
    have hc:Ks id (F.code rnd (BG P f fn.ntmps (BN P fn) c) var marks s)=some res:=hc
    unfold Ks at hc
    split at hc<;>first | (cases hc;done) | skip
    rename_i r1 h1
    refine wpIn_block (h.code f fn c rnd r var marks s r1 ρ w a _ hf h1 hb ?_)
    intro a' w' ρ' g
    unfold J7 at hc
    split at hc
    · rename_i id' he
      rw[he]
      simp only[Hv,Exit.inBlock]
      cases hbq:Nat.beq id' id with
      | true =>
        rw[hbq]at hc
        injection hc with hc
        subst hc
        rw[if_pos (A5 hbq)]
        exact hq a' w' ρ' ⟨g.inv,g.fresh,g.fr,g.vars,g.marks⟩
      | false =>
        rw[hbq]at hc
        injection hc with hc
        subst hc
        have:=hq a' w' ρ' g
        rw[he]at this
        rw[if_neg (fun e=>by subst e;simp at hbq)]
        exact this
    · rename_i hne
      injection hc with hc
      subst hc
      have:=hq a' w' ρ' g
      cases he:r1.exit with
      | normal=>rw[he]at this;exact this
      | ret=>rw[he]at this;exact this
      | exit id'=>exact absurd he (hne id')
  | loop c ih =>
    intro rnd r var marks s res ρ w a Q hf hc hb hq
    have hc:IE F rnd (.loop (BG P f fn.ntmps (BN P fn) c)) (F.code rnd (BG P f fn.ntmps (BN P fn) c) var marks s)=some res:=hc
    refine wpIn_loop_rounds (n+1) ?_
    rw[roundsIn_succ]
    unfold IE at hc
    split at hc<;>first | (cases hc;done) | skip
    rename_i r1 h1
    refine h.code f fn c rnd r var marks s r1 ρ w a _ hf h1 hb ?_
    intro a' w' ρ' g
    unfold HQ at hc
    cases he:r1.exit with
    | normal =>
      rw[he]at hc
      refine h.loop f fn c rnd r _ _ _ res ρ' w' a' Q hf hc (g.begins hb) ?_
      intro a2 w2 ρ2 g2
      exact hq a2 w2 ρ2 (Hw.trans (r1:=r1) (a1:=a') g.fr g2)
    | exit id =>
      rw[he]at hc
      injection hc with hc
      subst hc
      have:=hq a' w' ρ' g
      rw[he]at this
      exact this
    | ret =>
      rw[he]at hc
      injection hc with hc
      subst hc
      have:=hq a' w' ρ' g
      rw[he]at this
      exact this
  | scope c ih =>
    intro rnd r var marks s res ρ w a Q hf hc hb hq
    refine TB (ih rnd r var marks s res ρ w a _ hf hc hb ?_)
    intro a' w' ρ' g
    have:=hq a' w' ρ' g
    cases he:res.exit with
    | normal=>rw[he]at this;exact this
    | ret=>rw[he]at this;exact this
    | exit id'=>rw[he]at this;exact this
  | rangeFunc g ps x y ihx ihy =>
    intro rnd r var marks s res ρ w a Q hf hc hb hq
    simp only[BG]at hc
    cases ho:FN (BN P fn) ⟨[],0⟩ g with
    | none=>rw[ho]at hc;cases hc
    | some z =>
      rw[ho]at hc
      exact Z8 hng h.call hf ho hc hb hq
theorem Uu{F:Fns}{n:Nat}(h:OS P F n){call:FuncId→List AV→ASt→Option (AV×ASt)}{round:Nat→List AV→ASt→Option (AV×ASt)}:TI P ⟨DC F,call,round⟩ (n+1):=by
  intro f fn c rnd r var marks s res ρ w a Q hf hc hb hq
  have hc:IE F rnd (.loop (BG P f fn.ntmps (BN P fn) c)) (F.code rnd (BG P f fn.ntmps (BN P fn) c) var marks s)=some res:=hc
  rw[roundsIn_succ]
  unfold IE at hc
  split at hc<;>first | (cases hc;done) | skip
  rename_i r1 h1
  refine h.code f fn c rnd r var marks s r1 ρ w a _ hf h1 hb ?_
  intro a' w' ρ' g
  unfold HQ at hc
  cases he:r1.exit with
  | normal =>
    rw[he]at hc
    refine h.loop f fn c rnd r _ _ _ res ρ' w' a' Q hf hc (g.begins hb) ?_
    intro a2 w2 ρ2 g2
    exact hq a2 w2 ρ2 (Hw.trans (r1:=r1) (a1:=a') g.fr g2)
  | exit id =>
    rw[he]at hc
    injection hc with hc
    subst hc
    have:=hq a' w' ρ' g
    rw[he]at this
    exact this
  | ret =>
    rw[he]at hc
    injection hc with hc
    subst hc
    have:=hq a' w' ρ' g
    rw[he]at this
    exact this
theorem bE{F:Fns}(hcode:NE P F){f:FuncId}{as:List AV}{v:AV}{as':Array Value}(hc:GW P F as s (AQ P f)=some (v,s1))(hi:Inv P ρ s w)(hfr:Bb ρ s)(ha:AU ρ as as'.toList):
    (∃fn c,P.funcs[f]? = some fn∧fn.body=some c)∧CallsIn Fence.wide 0 P f as' w (Fu P ρ s w v s1):=by
  unfold GW at hc
  simp only[oE]at hc
  obtain⟨cf,h1,hc⟩:=hc
  unfold AQ at h1
  simp only[oE]at h1
  obtain⟨fn,h2,c,h3,h4⟩:=h1
  obtain⟨h5,h6⟩:=AJ h4
  simp only[oE]at h6
  obtain⟨cr,h7,h8⟩:=h6
  injection h8 with h8
  subst h8
  simp only at hc
  cases hb:Nat.beq as.length (DS fn)with
  | false=>rw[hb]at hc;cases hc
  | true =>
    rw[hb]at hc
    simp only[cond_true]at hc
    refine⟨⟨fn,c,h2,h3⟩,callsIn_of_wp_marks h2 h3 trivial ?_⟩
    unfold J8 at hc
    simp only[oE]at hc
    obtain⟨res,hr,hc⟩:=hc
    have hend:Tu res.exit=true∧((unmark res.st res.marks).bind fun s=>(Br P s res.var cr).bind fun l=>some (Bf l,s))=some (v,s1):=by
      cases he:Tu res.exit with
      | true=>rw[he]at hc;exact⟨rfl,hc⟩
      | false=>rw[he]at hc;cases hc
    obtain⟨he,hc⟩:=hend
    simp only[oE]at hc
    obtain⟨s2,hu,l,hl,hv⟩:=hc
    injection hv with hv
    injection hv with hv1 hv2
    subst hv1
    subst hv2
    have hvars:DN P ρ fn (Ql as (BN P fn).length) (as'++Array.replicate (fn.ntmps - as'.size) undef):=dU ha (A5 hb) (by simpa[oQ]using h5)
    refine hcode f fn c none none _ [] s res ρ w _ _ h2 hr ⟨hi,hfr,hvars,rfl,rfl⟩ ?_
    intro a' w' ρ' g
    have hlv:LeavesInM Fence.wide 0 P fn a'.tmps (Fu P ρ s w (Bf l) s2) a'.defers .returning w':=by
      refine Ny g.marks hu g.inv fun w2 k1 k2=>?_
      obtain⟨v',k3,k4⟩:=Sr k1 g.vars.rel h7 hl
      exact⟨v',k3,ρ',k4,k1,g.fr.trans k2⟩
    cases hx:res.exit with
    | normal=>exact hlv
    | ret=>exact hlv
    | exit id=>rw[hx]at he;cases he
theorem aG       (hng : Ef      P) {E : Env} (hE : E.P = P) {F : Fns} (hcode : NE     P F) {l : Nat} {rb : RB} {as : List AV} {v : AV} {as' : Array Value} (hc : Jq    E F l as s = some (v, s1)) (hi : Inv P ρ s w) (hfr : Bb     ρ s) (hl : ρ l = some rb) (ha : AU    ρ as as'.toList) :
    Dj P ρ s w v s1 ((Instr.yield rb.b as').run P w):=by
  unfold Jq at hc
  rw[hE]at hc
  simp only[oE]at hc
  obtain⟨al,h1,var,h2,ca,h3,cb,h4,hc⟩:=hc
  have hg:=E8 h1
  obtain⟨L,h0,_,_,e1,e2,e3,_,hrel,hsz,hlen⟩:=(hi.obj _ _ _ hg hl:GP P ρ w al rb).ex
  unfold E0 at h3 h4
  simp only[oE]at h3 h4
  obtain⟨fn,hf,h3⟩:=h3
  obtain⟨fn2,hf2,h4⟩:=h4
  rw[hf]at hf2
  injection hf2 with hf2
  subst hf2
  injection h3 with h3
  injection h4 with h4
  subst h3
  subst h4
  have hvi:DV P al.fn=BN P fn:=by unfold DV;rw[hf]
  rw[hvi]at hrel hlen h2
  obtain⟨z1,z2,z3,z4⟩:=OQ (tmps:=L.tmps) h2 hrel hlen ha
  have hps:as'.size=L.params.size:=by rw[e1];simpa using z4.symm
  rw[run_yield h0 hps]
  refine .round (roundIn_of_wpIn trivial ?_)
  have hfold:(L.params.zip as').foldl (fun tmps (x:Tmp×Value)=>match x with | (t,a)=>tmps.setIfInBounds t a) L.tmps=(al.params.toList.zip as'.toList).foldl (fun tmps (p:Tmp×Value)=>tmps.setIfInBounds p.1 p.2) L.tmps:=by
    rw[← Array.foldl_toList,Array.toList_zip,e1]
  have hfold':(L.params.zip as').foldl (fun tmps (x:Tmp×Value)=>tmps.setIfInBounds x.1 x.2) L.tmps=(al.params.toList.zip as'.toList).foldl (fun tmps (p:Tmp×Value)=>tmps.setIfInBounds p.1 p.2) L.tmps:=hfold
  have hvars:DN P ρ fn var ((al.params.toList.zip as'.toList).foldl (fun tmps (p:Tmp×Value)=>tmps.setIfInBounds p.1 p.2) L.tmps):=⟨z2,z1,by rw[z3];exact hsz fn hf⟩
  unfold HD at hc
  simp only[oE]at hc
  obtain⟨q,hq1,hc⟩:=hc
  cases hn:IT q.exit with
  | false=>rw[hn]at hc;cases hc
  | true =>
    rw[hn]at hc
    simp only[cond_true,oE]at hc
    obtain⟨r2,hr2,hc⟩:=hc
    cases hrd:KD r2.state with
    | false=>rw[hrd]at hc;cases hc
    | true =>
      rw[hrd]at hc
      simp only[cond_true]at hc
      unfold Ii at hc
      simp only[oE]at hc
      obtain⟨q2,hq2,r3,hr3,hc⟩:=hc
      injection hc with hc
      injection hc with hv hs
      subst hv
      subst hs
      have hqn:q.exit=.normal:=by cases he:q.exit<;>rw[he]at hn<;>first | rfl | cases hn
      have hst:r2.state=.ready:=by
        cases he:r2.state<;>rw[he]at hrd<;>first | rfl | cases hrd
      rw[e2,e3]
      refine hcode al.fn fn al.assign (some l) (some rb.b) var [] s q ρ w _ _ hf hq1 ⟨hi,hfr,by first | exact hvars | (simp only[];rw[hfold];exact hvars),rfl,⟨rb,hl,rfl⟩⟩ ?_
      intro a1 w1 ρ1 g1
      rw[hqn]
      have hl1:ρ1 l=some rb:=g1.fr.le _ _ hl
      have hg2:=E8 hr2
      obtain⟨L1,k0,k1,_⟩:=(g1.inv.obj _ _ _ hg2 hl1:GP P ρ1 w1 r2 rb).ex
      obtain⟨i2,f2⟩:=LZ g1.inv hg2 hl1 (st:=.busy) (pd:=r2.pending) k0
      refine⟨_,run_beginRound k0 (by rw[k1,hst]),?_⟩
      have hpd:L1.pending=r2.pending:=by
        obtain⟨L1',k0',_,k2',_⟩:=(g1.inv.obj _ _ _ hg2 hl1:GP P ρ1 w1 r2 rb).ex
        rw[k0]at k0';injection k0' with k0';injection k0' with k0';subst k0';exact k2'
      have hL1:({ L1 with state:=.busy }:Loop)={ L1 with state:=.busy,pending:=r2.pending }:=by rw[← hpd]
      rw[hL1]
      have hal:({ r2 with state:=.busy }:FE)={ r2 with state:=.busy,pending:=r2.pending }:=rfl
      refine hcode al.fn fn al.body (some l) (some rb.b) q.var q.marks _ q2 ρ1 _ a1 _ hf hq2 ⟨i2,g1.fresh.step f2,g1.vars,g1.marks,⟨rb,hl1,rfl⟩⟩ ?_
      intro a3 w3 ρ3 g3
      have hl3:ρ3 l=some rb:=g3.fr.le _ _ hl1
      have hg3:=E8 hr3
      obtain⟨L3,m0,m1,_⟩:=(g3.inv.obj _ _ _ hg3 hl3:GP P ρ3 w3 r3 rb).ex
      have tot:=g1.fr.trans (f2.trans g3.fr)
      have fin:∀jump:Option Code,DG q2.exit=jump→∃v w',(Instr.endRound rb.b jump).run P w3=.ok v w'∧Fu P ρ s w (.bool (DG q2.exit).isNone) (setObj q2.st l (.loop { r3 with state:=HF (DG q2.exit),pending:=DG q2.exit })) (.returned v) w':=by
        intro jump hj
        obtain⟨i4,f4⟩:=LZ g3.inv hg3 hl3 (st:=HF jump) (pd:=jump) m0
        refine⟨_,_,run_endRound jump m0,ρ3,?_,?_,?_⟩
        · rw[hj];exact .bool _
        · rw[hj]
          have:(if jump.isNone=true then LoopState.ready else .done)=HF jump:=by cases jump<;>rfl
          rw[this]
          exact i4
        · rw[hj]
          have:(if jump.isNone=true then LoopState.ready else .done)=HF jump:=by cases jump<;>rfl
          rw[this]
          exact tot.trans f4
      cases he:q2.exit with
      | normal=>have:=fin none (by rw[he];rfl);rw[he]at this;exact this
      | ret=>have:=fin (some .ret) (by rw[he];rfl);rw[he]at this;exact this
      | exit id=>have:=fin (some (.exit id)) (by rw[he];rfl);rw[he]at this;exact this
theorem sim (hm : P.follows .mixedOrders = true) (hng : Ef      P) {E : Env} (hE : E.P = P) (hnat : HY     P E.nat) : ∀ n, OS    P (D9   E n) n := by
  intro n
  induction n with
  | zero =>
    refine⟨?_,?_,?_,?_⟩
    · intro f fn c rnd r var marks s res ρ w a Q hf hc;cases hc
    · intro f fn c rnd r var marks s res ρ w a Q hf hc;cases hc
    · intro ρ s w f as v s1 as' hc;cases hc
    · intro ρ s w l rb as v s1 as' hc;cases hc
  | succ n ih =>
    refine⟨UR hm hng ih,Uu ih,?_,?_⟩
    · intro ρ s w f as v s1 as' hc hi hfr ha
      have hc:HW E (D9 E n) f as s=some (v,s1):=hc
      unfold HW at hc
      split at hc
      · rename_i p hp
        injection hc with hc
        subst hc
        exact hnat ρ s w f as _ _ as' hp hi hfr ha
      · rw[hE]at hc
        exact bE ih.code hc hi hfr ha
    · intro ρ s w l rb as v s1 as' hc hi hfr hl ha
      exact aG hng hE ih.code hc hi hfr hl ha
end
end
end Go.Proofs.Ytilhhmkdcoajnaa.Am
