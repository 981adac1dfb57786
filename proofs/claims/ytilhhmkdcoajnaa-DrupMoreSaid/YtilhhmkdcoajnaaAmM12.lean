/- What the solver learns follows from its clauses by unit propagation; conditions: sizes fit. -/
import Derived.Test.YtilhhmkdcoajnaaAmM11
import Derived.Test.YtilhhmkdcoajnaaAmM06
set_option linter.unusedVariables false
set_option linter.unusedSimpArgs false
set_option maxRecDepth 16000
namespace Go.Proofs.Ytilhhmkdcoajnaa.Am
open Go Go.Proofs
noncomputable section
def Ii(cl:Nat→Option B3)(P:Int→Prop):Prop:=∀c ls b,cl c=some (ls,b)→(∃y∈ls,¬ P (-y))∧∀x∈ls,(∀y∈ls,y≠x→P (-y))→P x
theorem CT.zeroP {n : Nat} {v : Sv} (h : CT n v) {P : Int → Prop} (hP : Ii      v.cl P) : ∀ (i : Nat) (x : Int), v.trail[i]? = some x → lv v x = 0 → P x := by
  intro i
  induction i using Nat.strongRecOn with
  | _ i ih =>
    intro x hx hl
    have hlev:=h.lev i x hx
    have hl0:Hj v.limits i=0:=by
      have:lv v x=(Hj v.limits i:Int):=hlev
      omega
    rcases h.why i x hx with⟨q1,q2⟩ | ⟨c,ls,b,q1,q2,q3,q4⟩
    · obtain⟨k,hk⟩:=Cj.1 q2
      have:=MN h.sorted hk (re _)
      omega
    · obtain⟨_,hne,_,_⟩:=h.cls c ls b q2
      have hmem:x∈ls:=by
        rw[← q3]
        exact qj (AT (List.length_pos_iff.2 hne))
      refine(hP c ls b q2).2 x hmem fun y hy e=>?_
      obtain⟨j,hj,ej⟩:=B5.1 (q4 y hy e)
      have hjl:lv v (-y)=0:=by
        have h1:lv v (-y)=(Hj v.limits j:Int):=h.lev j _ ej
        have h2:=QP (L:=v.limits) (Nat.le_of_lt hj)
        omega
      exact ih j hj (-y) ej hjl
theorem Vt        {n : Nat} {v : Sv} (h : CT n v) {t : Int} (ht : v.limits[v.limits.length - 1]? = some t) {P : Int → Prop} (hP : Ii      v.cl P) : ∀ (at_ : Nat) (c : Nat) (l : Int) (a : EI)  (ls : List Int) (b : Bool × Bool), at_ ≤ v.trail.length → LI v t.toNat a at_ → v.cl c = some (ls, b) → (∀ y ∈ rest l ls, ∃ j, j < at_ ∧ v.trail[j]? = some (-y)) → 1 ≤ ((rest l ls).foldl (BQ     v) a).opn →
    ((∃y∈rest l ls,¬ P (-y))∨(∃q∈a.lits,¬ P (-q))∨∃ (j:Nat) (x:Int),j<at_∧t.toNat≤j∧v.trail[j]? = some x∧x.natAbs∈a.seen∧¬ P x) →
    ∃r,CJ v c a at_ l r∧(¬ P (-r.hd)∨∃q∈r.lits,¬ P (-q)):=by
  intro at_
  induction at_ using Nat.strongRecOn with
  | _ at_ ih =>
  intro c l a ls b hat hL hc hr ho hpre
  obtain⟨f1,f2,f3,f4⟩:=hL.fold h ht (rest l ls) hr
  generalize ha:(rest l ls).foldl (BQ v) a=a' at *
  have hQ : (∃ q ∈ a'.lits, ¬ P (-q)) ∨ ∃ (j : Nat) (x : Int), j < at_ ∧ t.toNat ≤ j ∧ v.trail[j]? = some x ∧ x.natAbs ∈ a'.seen ∧ ¬ P x := by
    rcases hpre with⟨y,hy,hs⟩ | ⟨q,hq,hsq⟩ | ⟨j,x,j1,j2,j3,j4,j5⟩
    · obtain ⟨j, j1, j2⟩ := hr y hy
      obtain⟨hlast,hle,hge⟩:=h.last ht j2
      rw[Ci]at hlast hle hge
      rcases f3 y hy with z | z
      · exact(hs (h.zeroP hP j (-y) j2 (by rw[Ci];exact z))).elim
      · by_cases hd : lv v y = (v.limits.length : Int)
        · exact .inr ⟨j,-y,j1,hlast.1 hd,j2,by rw[rE];exact z,hs⟩
        · have:=f1.litsC (-y) (qj j2) (by rw[rE];exact z) (by rw[Ci];omega)
          rw[rD]at this
          exact .inl ⟨y,this,hs⟩
    · obtain⟨g1,g2,g3,g4⟩:=hL.lits q hq
      have:=f1.litsC (-q) g1 (by rw[rE];exact f2 _ g2) (by rw[Ci];exact g4)
      rw[rD]at this
      exact .inl ⟨q,this,hsq⟩
    · exact .inr ⟨j,x,j1,j2,j3,f2 _ j4,j5⟩
  have hcn:1≤cnt v.trail a'.seen t.toNat at_:=by have:=f1.opn;omega
  obtain⟨i,k1,k2,k3,k4,k5,k6⟩:=Ma hat hcn
  have hil:i<v.trail.length:=by omega
  have hg:=AT (d:=(0:Int)) hil
  generalize hu:v.trail.getD i 0=u at *
  have hlu:lv v u=(v.limits.length:Int):=(h.last ht hg).1.2 k2
  have hQ':(∃q∈a'.lits,¬ P (-q))∨(∃ (j:Nat) (x:Int),j<i∧t.toNat≤j∧v.trail[j]? = some x∧x.natAbs∈a'.seen∧¬ P x)∨¬ P u:=by
    rcases hQ with q | ⟨j,x,j1,j2,j3,j4,j5⟩
    · exact .inl q
    · rcases rx                j i with z | z | z
      · exact .inr (.inl ⟨j,x,z,j2,j3,j4,j5⟩)
      · subst z
        rw[hg]at j3
        injection j3 with j3
        rw[j3]
        exact .inr (.inr j5)
      · exact absurd j4 (by have:=k6 j z j1;rw[FA j3]at this;exact this)
  by_cases h1:a'.opn=1
  · have hci:cnt v.trail a'.seen t.toNat i=0:=by have:=f1.opn;omega
    refine⟨{ a' with opn:=0,hd:=-u },?_,?_⟩
    · have:=CJ.last (v:=v) (at_:=at_) hc ha k1 h1
      rw[hu]at this
      exact this
    · rcases hQ' with q | ⟨j, x, j1, j2, j3, j4, j5⟩ | q
      · exact .inr q
      · exact absurd j4 (Lm hci j1 j2 j3)
      · left
        show ¬ P (- -u)
        rw[rD]
        exact q
  · have hci : 1 ≤ cnt v.trail a'.seen t.toNat i := by have := f1.opn; omega
    have hmi:t.toNat<i:=by
      rcases qk t.toNat i with z | z
      · exact z
      · rw[NO _ _ z]at hci;omega
    have hil':(i:Int) ∉ v.limits:=fun q=>by
      obtain⟨p,hp⟩:=Cj.1 q
      have hpl:=AZ hp
      have ht0:=h.lim t (qj ht)
      by_cases e:p=v.limits.length - 1
      · rw[e,ht]at hp
        injection hp with hp
        omega
      · have:=(CZ h.sorted ht).1 (i:Int) (B5.2 ⟨p,by omega,hp⟩)
        omega
    rcases h.why i u hg with⟨_,q⟩ | ⟨c',ls',b',w1,w2,w3,w4⟩
    · exact absurd q hil'
    · have hL2 : LI v t.toNat { a' with opn := a'.opn - 1 } i := ⟨f1.seenA, f1.nd, f1.lits, f1.litsC, f1.litsnd, by show a'.opn - 1 = (cnt v.trail a'.seen t.toNat i : Int); have := f1.opn; omega, f1.lev⟩
      have hr2:∀y∈rest u ls',∃j,j<i∧v.trail[j]? = some (-y):=fun y hy=>by
        obtain⟨y1,y2⟩:=DX.1 hy
        exact B5.1 (w4 y y1 y2)
      obtain⟨g1,g2,g3,g4⟩:=hL2.fold h ht (rest u ls') hr2
      have hop2:1≤((rest u ls').foldl (BQ v) { a' with opn:=a'.opn - 1 }).opn:=by
        have e1:=g1.opn
        have e2:=Pw (tr:=v.trail) (seen:=a'.seen) (seen':=((rest u ls').foldl (BQ v) { a' with opn:=a'.opn - 1 }).seen) g2 t.toNat i
        omega
      obtain⟨_,hne,_,_⟩:=h.cls c' ls' b' w2
      have humem:u∈ls':=by
        rw[← w3]
        exact qj (AT (List.length_pos_iff.2 hne))
      obtain⟨r,r1,r2⟩:=ih i k3 c' u { a' with opn:=a'.opn - 1 } ls' b' (by omega) hL2 w2 hr2 hop2 (by
        rcases hQ' with q | q | q
        · exact .inr (.inl q)
        · exact .inr (.inr q)
        · left
          apply Classical.byContradiction
          intro hno
          refine q ((hP c' ls' b' w2).2 u humem fun y hy hyu=>?_)
          apply Classical.byContradiction
          intro hyP
          exact hno ⟨y,DX.2 ⟨hy,hyu⟩,hyP⟩)
      refine⟨r,?_,r2⟩
      have hw:v.why.getD (v.trail.getD i 0).natAbs none=some c':=by rw[hu];exact w1
      have:=CJ.more (v:=v) (at_:=at_) (r:=r) hc ha k1 (by omega) hw
      rw[hu]at this
      exact this r1
theorem Om{n:Nat}{v:Sv}(h:CT n v)(hlim:v.limits≠[]){c:Nat}{l:Int}(hf:F3 v c l)(hl:lv v l=(v.limits.length:Int)){P:Int→Prop}(hP:Ii v.cl P){r:EI}(hr:CJ v c Gj v.trail.length 0 r):¬ P (-r.hd)∨∃q∈r.lits,¬ P (-q):=by
 obtain⟨ls,b,hc,h2,hfalse,hmem⟩:=hf
 have hpos:0<v.limits.length:=List.length_pos_iff.2 hlim
 have ht:=AT (d:=(0:Int)) (show v.limits.length - 1<v.limits.length by omega)
 generalize v.limits.getD (v.limits.length - 1) 0=t at ht
 have hrr:∀y∈rest 0 ls,∃j,j<v.trail.length∧v.trail[j]? = some (-y):=fun y hy=>by
  obtain⟨j,hj⟩:=Cj.1 (hfalse y (DX.1 hy).1)
  exact⟨j,AZ hj,hj⟩
 have hL0:LI v t.toNat Gj v.trail.length:=LI.start
 obtain⟨f1,f2,f3,f4⟩:=hL0.fold h ht (rest 0 ls) hrr
 have hls:=(h.cls c ls b hc).1.1
 have hl0:l≠0:=(hls l hmem).1
 obtain⟨r',r1,r2⟩:=Vt h ht hP v.trail.length c 0 Gj ls b (qg _) hL0 hc hrr (by
  have hlr:l∈rest 0 ls:=DX.2 ⟨hmem,hl0⟩
  obtain⟨j,j1,j2⟩:=hrr l hlr
  have hm:=(h.last ht j2).1.1 (by rw[Ci];exact hl)
  rcases f3 l hlr with z | z
  ·omega
  ·have:=Up j1 hm j2 (by rw[rE];exact z)
   rw[f1.opn]
   omega) (.inl (by
  obtain⟨y,hy,hyP⟩:=(hP c ls b hc).1
  exact⟨y,DX.2 ⟨hy,(hls y hy).1⟩,hyP⟩))
 rw[hr.det r1]
 exact r2
structure JR(n:Nat)(F:List (List Int))(v:Sv):Prop where
 tr:VO n v.trace
 sets:∀c ls b,v.cl c=some (ls,b)→∃M∈F++v.trace.map Prod.snd,∀x,x∈ls↔x∈M
 rup:∀k L,v.trace[k]? = some (false,L)→Jg (F++(v.trace.take k).map Prod.snd) L
 fin:v.broken=true→∃x∈v.trace,x.2=[]
 nof:v.broken=false→∀x∈v.trace,x.2≠[]
theorem Jv{cl:Nat→Option B3}{cs:List (List Int)}{c:List Int}(hs:∀d ls b,cl d=some (ls,b)→∃M∈cs,∀x,x∈ls↔x∈M)(hno:¬ Jg cs c):Ii cl (UP cs c):=fun d ls b hd=>by
 obtain⟨M,h1,h2⟩:=hs d ls b hd
 refine⟨?_,fun x hx hy=>.unit h1 ((h2 x).1 hx) fun y hy' hne=>hy y ((h2 y).2 hy') hne⟩
 apply Classical.byContradiction
 intro hn
 refine hno (.inr ⟨M,h1,fun y hy=>?_⟩)
 apply Classical.byContradiction
 intro hyn
 exact hn ⟨y,(h2 y).2 hy,hyn⟩
theorem JR.same{n:Nat}{F:List (List Int)}{v v':Sv}(h:JR n F v)(hc:CQ v.cl v'.cl)(ht:v'.trace=v.trace)(hb:v'.broken=v.broken):JR n F v':=by
 refine⟨by rw[ht];exact h.tr,fun c ls b q=>?_,by rw[ht];exact h.rup,by rw[ht,hb];exact h.fin,by rw[ht,hb];exact h.nof⟩
 obtain⟨ls',q1,q2⟩:=hc.back q
 obtain⟨M,m1,m2⟩:=h.sets c ls' b q1
 rw[ht]
 exact⟨M,m1,fun x=>(q2.mem_iff).trans (m2 x)⟩
theorem cA{F:List (List Int)}{T:Aa}{L:List Int}(h:∀k M,T[k]? = some (false,M)→Jg (F++(T.take k).map Prod.snd) M)(hL:Jg (F++T.map Prod.snd) L):
    ∀k M,(T++[(false,L)])[k]? = some (false,M)→Jg (F++((T++[(false,L)]).take k).map Prod.snd) M:=fun k M hk=>by
  rcases qk k T.length with q | q
  · rw [qv                        q] at hk
    rw[rM (by omega)]
    exact h k M hk
  · rw[qy q]at hk
    have hk0:k - T.length=0:=by
      have:=AZ hk
      simp at this
      omega
    rw[hk0]at hk
    simp only[List.getElem?_cons_zero]at hk
    injection hk with hk
    injection hk with _ hk
    rw[← hk,show k=T.length by omega,rM (qg _),rR]
    exact hL
theorem JR.line{n:Nat}{F:List (List Int)}{v:Sv}(h:JR n F v){L:List Int}(h1:∀y∈L,VL n y)(h2:L.length≤n)(hL:Jg (F++v.trace.map Prod.snd) L):
  VO n (v.trace++[(false,L)])∧(∀c ls b,v.cl c=some (ls,b)→∃M∈F++(v.trace++[(false,L)]).map Prod.snd,∀x,x∈ls↔x∈M)∧∀k M,(v.trace++[(false,L)])[k]? = some (false,M)→Jg (F++((v.trace++[(false,L)]).take k).map Prod.snd) M:=by
 refine⟨h.tr.snoc h1 h2,fun c ls b q=>?_,cA h.rup hL⟩
 obtain⟨M,m1,m2⟩:=h.sets c ls b q
 refine⟨M,?_,m2⟩
 rcases sE.1 m1 with z | z
 ·exact qt _ z
 ·rw[rN]
  exact rH _ (qt _ z)
theorem JR.failed{n:Nat}{F:List (List Int)}{v:Sv}(h:JR n F v)(hL:v.broken=false→Jg (F++v.trace.map Prod.snd) []):JR n F (EZ v):=by
 cases hb:v.broken with
 | true =>
  have hf:EZ v=v:=by unfold EZ;rw[if_pos hb]
  rw[hf];exact h
 | false =>
  rw[I3 hb]
  obtain⟨a,b,c⟩:=h.line (L:=[]) (fun y hy=>by cases hy) (qm _) (hL hb)
  exact⟨a,b,c,fun _=>⟨(false,[]),by simp,rfl⟩,fun q=>by cases q⟩
theorem cK       (n : Nat) (F : List (List Int)) : UU    n F (JR n F) := by
  refine⟨fun h=>h.same,fun {v hh d l} h hct hci hlim hf hl=>?_,fun {v hh d l r cn} h hct hci hlim hf hl hr hL hcn=>?_⟩
  · refine h.failed fun _=>?_
    apply Classical.byContradiction
    intro hno
    have hP:=Jv h.sets hno
    obtain⟨ls,b,hc,h2,hfalse,hmem⟩:=hf
    obtain⟨y,hy,hyP⟩:=(hP d ls b hc).1
    obtain⟨j,hj⟩:=Cj.1 (hfalse y hy)
    refine hyP (hct.zeroP hP j (-y) hj ?_)
    have:=hct.lev j _ hj
    unfold lv
    rw[this,hlim];rfl
  · have hlist := hL.list hct
    have hup:Jg (F++v.trace.map Prod.snd) (Al v r):=by
      apply Classical.byContradiction
      intro hno
      have hP:=Jv h.sets hno
      rcases Om hct hlim hf hl hP hr with q | ⟨q,q1,q2⟩
      · exact q (.ass ((hlist.mem _).2 (.inl rfl)))
      · exact q2 (.ass ((hlist.mem _).2 (.inr q1)))
    obtain⟨a,b,c⟩:=h.line (L:=Al v r) hlist.ok.1 (di hlist.ok hlist.nd) hup
    refine⟨a,fun e ls t q=>?_,c,fun q=>?_,fun q x hx=>?_⟩
    · have q:Aj v.cl cn (Al v r,true,false) e=some (ls,t):=q
      rcases B9 q with⟨_,q2,_⟩ | ⟨_,q2⟩
      · refine⟨Al v r,?_,fun x=>by rw[q2]⟩
        show _∈F++(v.trace++[_]).map Prod.snd
        rw[rN]
        exact rH _ (rH _ (si.2 rfl))
      · exact b e ls t q2
    · obtain⟨x,x1,x2⟩:=h.fin q
      exact⟨x,qt _ x1,x2⟩
    · rcases sE.1              hx with z | z
      · exact h.nof q x z
      · rw[si.1 z];exact hlist.ne
theorem JR.more{n:Nat}{F:List (List Int)}{v:Sv}(h:JR n F v)(f:List Int):JR n (F++[f]) v:=by
 have sub:∀T:List (List Int),Dz (F++T) (F++[f]++T):=fun T=>Dz.app (fun L hL=>⟨L,qt _ hL,fun _=>Iff.rfl⟩) (Dz.refl T)
 refine⟨h.tr,fun c ls b q=>?_,fun k L hk=>(h.rup k L hk).mono (sub _) (fun _ q=>q),h.fin,h.nof⟩
 obtain⟨M,m1,m2⟩:=h.sets c ls b q
 refine⟨M,?_,m2⟩
 rcases sE.1 m1 with z | z
 ·exact qt _ (qt _ z)
 ·exact rH _ z
theorem Mv.jr   {n A M h : Nat} {F : List (List Int)} {v v' : Sv} {f : List Int} (hr : Mv   v f v') (hI : SI n A F M v) (hf : ∀ q ∈ f, VL n q) (h : JR n F v) : JR n (F ++ [f]) v' := by
  obtain⟨ho1,ho2⟩:=Nj f
  cases hr with
  | none _=>exact h.more f
  | nil ht hb he =>
    have hfe:f=[]:=by
      cases f with
      | nil=>rfl
      | cons x l=>have:=(ho2 x).2 (ql ..);rw[he]at this;cases this
    subst hfe
    refine(h.more []).failed fun _=>.inr ⟨[],qt _ (rH _ (si.2 rfl)),fun y hy=>by cases hy⟩
  | @put c ht hb he hc =>
    have hp:(CN v f).Perm (Ep f):=Mf _ _
    have hm:∀z,z∈CN v f↔z∈f:=fun z=>by rw[hp.mem_iff];exact ho2 z
    have hdesc:(CN v f).Pairwise fun a b=>isV v.value b≤isV v.value a:=Me (isV v.value) (Ep f)
    generalize hO:CN v f=O at *
    have hput:JR n (F++[f]) (GE v c O):=by
      have h0:=h.more f
      obtain⟨ws,e,_⟩:=JO v c O
      rw[e]
      refine⟨h0.tr,fun d ls b q=>?_,h0.rup,h0.fin,h0.nof⟩
      have q:Aj v.cl c (O,false,false) d=some (ls,b):=q
      rcases B9 q with⟨_,q2,_⟩ | ⟨_,q2⟩
      · exact⟨f,qt _ (rH _ (si.2 rfl)),fun x=>by rw[q2];exact hm x⟩
      · exact h0.sets d ls b q2
    have htr:(GE v c O).trace=v.trace:=fA _ _ _
    unfold N7
    split
    · rename_i hneg
      refine hput.failed fun _=>?_
      rcases hI with⟨C,g1,g2,g3⟩ | g
      · have k := g1.ci
        have hi:=k.ct.inv
        have hl0:∀ {x:Int},x∈v.trail→lv v x=0:=fun {x} hx=>by
          obtain⟨i,e⟩:=Cj.1 hx
          have:=k.ct.lev i x e
          unfold lv
          rw[this,g2];rfl
        apply Classical.byContradiction
        intro hno
        have hP:=Jv hput.sets hno
        have hP0:Ii v.cl (UP (F++[f]++(GE v c O).trace.map Prod.snd) []):=fun d ls b hd=>hP d ls b (by
          obtain⟨ws,e,_⟩:=JO v c O
          rw[e]
          show Aj v.cl c _ d=_
          unfold Aj
          rw[if_neg fun e=>by rw[e,hc]at hd;cases hd]
          exact hd)
        obtain⟨y,hy,hyP⟩:=(hP c O (false,false) (by
          obtain⟨ws,e,_⟩:=JO v c O
          rw[e]
          exact BJ _ _ _)).1
        have hfirst:isV v.value y≤isV v.value (O.getD 0 0):=by
          cases hOc:O with
          | nil=>rw[hOc]at hy;cases hy
          | cons x l =>
            rw[hOc]at hdesc hy
            rcases rI.1 hy with e | e
            · rw[e];exact re _
            · exact(sj.1 hdesc).1 y e
        have hy0:=(hf y ((hm y).1 hy)).1
        have hny:-y∈v.trail:=(hi.neg hy0).1 (by omega)
        obtain⟨i,e⟩:=Cj.1 hny
        exact hyP (k.ct.zeroP hP0 i (-y) e (hl0 hny))
      · rw[g.brk]at hb;cases hb
    · split
      · exact hput.same (CQ.refl _) rfl rfl
      · exact hput
theorem ml{n:Nat}(hn:n≤1000000){x:Int}(h:VL n x):Lit x:=by
 obtain⟨h0,h1⟩:=h
 exact⟨h0,by omega,by omega⟩
theorem PI{n:Nat}(hn:n≤1000000){L:List Int}(h:∀y∈L,VL n y):CK L:=fun y hy=>ml hn (h y hy)
theorem VE{L:List Int}(h:Jf L):(∀x∈L,VL 6 x)∧L.length≤12:=⟨fun x hx=>by have:=h.1 x hx;exact⟨this.2.2,by omega⟩,by have:=h.2;omega⟩
theorem UI{T:Aa}(h:VO 6 T)(hl:T.length≤900):FL T:=⟨hl,fun x hx=>by
 obtain⟨_,h1,h2⟩:=h x hx
 refine⟨(PI (n:=6) (by decide) h1).i64,fun y hy=>?_,by omega⟩
 obtain⟨g0,g1⟩:=h1 y hy
 unfold DY
 exact decide_eq_false (by omega)⟩
theorem bB{n:Nat}{v:Sv}(h1:v.trace=[])(h2:v.cl=fun _=>none)(h3:v.broken=false):JR n [] v:=
 ⟨(by rw[h1];intro x hx;cases hx),fun c ls b q=>(by rw[h2]at q;cases q),fun k L hk=>(by rw[h1]at hk;simp at hk),fun q=>(by rw[h3]at q;cases q),fun _ x hx=>(by rw[h1]at hx;cases hx)⟩
theorem fB{s:AE}{a b:Nat}(hb:0<b):AN Try.prog .rem 3 (iv (a:Int)) (iv (b:Int))=some (iv ((a % b:Nat):Int)):=by
 rw[Int.natCast_emod]
 exact Kq (P:=Try.prog) (t:=3) (k:=.i64) (by omega) (by omega)
theorem fK{b:Nat}{s:AE}{v:AV}{cs:List AV}(h:AJ b s v cs)(e:TypeId):∃a cap,v=.slice a cs.length cap∧Bg Try.prog s e 1 v=some (cs.length,cs):=by
 obtain⟨a,cap,rfl,hc⟩:=h
 refine⟨a,cap,rfl,?_⟩
 cases cs with
 | nil =>
  cases a with
  | none=>rfl
  | some io=>obtain⟨i,o⟩:=io;rfl
 | cons x cs=>exact AJ.src hc rfl (by simp)
theorem bv{b:Nat}{s:AE}{w:AV}{L:List Int}(h:AJ b s w (A3 L)){j:Nat}{x:Int}(hj:L[j]? = some x):∃a,AD Try.prog 23 w (iv (j:Int))=some a∧AC Try.prog s 3 a=some (iv x):=by
 obtain⟨a,cap,rfl,hc⟩:=h
 obtain⟨i,o,rfl,hi,hl⟩:=hc j _ (A6 hj)
 have hlt:=AZ hj
 exact⟨_,At Try.underlying23 Br (by rw[qi];exact hlt),A0 Do (by rw[rC];exact hl)⟩
theorem RowsIn.old{s s':AE}{v:AV}{cs:List (List Int)}{B:Nat→Prop}(h:RowsIn B s v cs)(hB:∀j,B j→j<s.next)(ho:Ao s.next s s'):RowsIn B s' v cs:=h.keep ⟨ho.1,fun j hj=>ho.2 j (hB j hj)⟩
theorem aX{L:List Int}{r:Nat}{x:Int}(h:L[r]? = some x):(L.drop r).reverse=(L.drop (r+1)).reverse++[x]:=by
 have hlt:=AZ h
 rw[qp hlt]at h
 injection h with h
 rw[sO hlt,List.reverse_cons,h]
theorem bI(s:AE)(d:Bool){u:AV}(hu:u.isCell=true):∃s2,AP Try.prog (newObj s (AL 27 0 [.bool false,.slice none 0 (some 0)])) 27 (.ptr (some (s.next,0))) (.agg [.bool d,u])=some s2∧FJ s2 s.next (.bool d) u∧Ao s.next s s2∧s2.next=s.next+1:=by
 generalize hs1:newObj s (AL 27 0 [.bool false,.slice none 0 (some 0)])=s1
 have n1:s1.next=s.next+1:=by rw[← hs1];rfl
 have o1:Ao s.next s s1:=by rw[← hs1];exact Ao.new s _
 have bx1:FJ s1 s.next (.bool false) (.slice none 0 (some 0)):=by
  obtain⟨r,h1,h2,h3,h4,h5,h6⟩:=BN 27 0 [.bool false,.slice none 0 (some 0)]
  exact⟨r,by rw[← hs1,AK,if_pos rfl,h1],h2,h5,h6⟩
 obtain⟨s2,g1,g2,g3,g4⟩:=bx1.store (d0:=.bool d) (d1:=u) rfl hu
 exact⟨s2,g1,g2,⟨by omega,fun x hx=>by rw[g4 x (by omega),o1.2 x hx]⟩,by omega⟩
def fk:List AA:=[
 ⟨none,.mk (fun l=>match l with | []=>BF Try.prog 27 | _=>none),[],(.set 1),[]⟩]
def fl:List AA:=[
 ⟨none,.p (fun l=>Bu Try.prog 27 (zipIdx [1] l)),[.var 0],.push,[]⟩,
 ⟨none,.e (fun s=>BW (fun a x=>AS (AP Try.prog s 27 a x))),[.var 1,.loc 0],.push,[]⟩]
def p8:Aw:=⟨1,2,(.seq (.ops fk) (.seq (.ops fl) .ret)),[((.var 1),some 27)]⟩
theorem lG:AQ Try.prog 19=some p8:=by kernel_rfl
theorem PS{E:BI}(hE:Aq E){s:AE}{u:AV}(hu:u.isCell=true)(hc:u.cells=[u]):WF E 19 [u] (fun r s'=>r=.agg [.bool false,u]∧Ao s.next s s') s:=by
 have hmv:∀i,Made.val i .ptr=.ptr (some (i,0)):=fun _=>rfl
 obtain⟨s2,g1,g2,g3,g4⟩:=bI s false hu
 refine hE.go lG (by decide) rfl ?_
 simp only[p8,fk,fl,N9,hmv,LF hc,BW,g1,AS,Cr,g2.loads,Qa,Qb,Qc,Qd,Qe,Qf,Qg,Qh,Qi,Qj,Qk,Ql,Qm,Qn,true_and,and_true,Qo,Qp,Qq,Qr,Qs,Qt,Qu,Qv,Qw,Qx,Qy,Qz,Ra,Rb,Rc,Rd,Re,Rf,Rg,Rh,Ri,Rj,Rk,Rl,Rm,Ya,Yb,Yc,Rn,Ro,Rp,Yd,Ye,Rq,Rs,Rt,Ru,Rv,Rw,Rx]
 exact g3
structure R4(s:AE)(tr:AV)(us:List AV)(T:Aa):Prop where
 dest:∃O,Bz s tr T.length 2 us O
 rows:BH s.next s us T
 nil:T=[]→∃a,tr=.slice a 0 (some 0)
theorem R4.old{s s':AE}{tr:AV}{us:List AV}{T:Aa}(h:R4 s tr us T)(k:Ao s.next s s'):R4 s' tr us T:=by
 obtain⟨O,hd⟩:=h.dest
 refine⟨⟨O,hd.frame k.1 fun j hj=>k.2 j (hd.slot_lt j hj)⟩,⟨h.rows.1,fun j d L hj=>?_⟩,h.nil⟩
 obtain⟨h0,u,h1,h2⟩:=h.rows.2 j d L hj
 exact⟨h0,u,h1,(h2.old k (qg _)).mono k.1⟩
theorem R4.trace{s:AE}{tr:AV}{us:List AV}{T:Aa}(h:R4 s tr us T):Cq s.next s tr T:=by
 obtain⟨O,hd⟩:=h.dest
 obtain⟨a,cap,hv,hc⟩:=hd.cells
 refine⟨a,cap,hv,fun k d L hk=>?_⟩
 obtain⟨h0,u,h1,h2⟩:=h.rows.2 k d L hk
 obtain⟨i,o,e,hi,hl⟩:=hc _ _ h0
 obtain⟨i',o',e',hi',hl'⟩:=hc _ _ h1
 rw[e]at e'
 injection e' with e'
 injection e' with e1 e2
 subst e1 e2
 exact⟨i,o,u,e,hi,hl,by rw[rU];exact hl',h2⟩
theorem R4.len{s:AE}{tr:AV}{us:List AV}{T:Aa}(h:R4 s tr us T)(s':AE):As Try.prog s' 33 tr=some (iv (T.length:Int)):=by
 obtain⟨a,cap,rfl,_⟩:=h.trace
 exact AW Try.underlying33
set_option maxRecDepth 4000 in
theorem R4.full  {s : AE}  {tr : AV} {us : List AV} {T : Aa}      (h : R4  s tr us T) :
    ∃a,AU Try.prog 33 false true true s [tr,iv (T.length:Int),iv (T.length:Int)]=some (.slice a T.length (some T.length))∧Bz s (.slice a T.length (some T.length)) T.length 2 us []:=by
  have hb:∀n:Nat,T.length≤n→Au (iv (T.length:Int)) n=some T.length:=fun n hn=>by simp[Au,Cx,Bc,AG,A2 hn]
  have hb':=hb T.length (qg _)
  obtain⟨O,hd⟩:=h.dest
  rcases hd with⟨a,rfl,rfl,h3,h4,h5⟩ | ⟨i,p,rfl,h6,h7⟩
  · refine⟨a,?_,.inl ⟨a,rfl,rfl,h3,h4,h5⟩⟩
    show An Try.prog s 33 (.slice a T.length (some T.length)) none (some (iv (T.length:Int))) (some (iv (T.length:Int)))=_
    cases a with
    | none=>simp[An,Try.underlying33,HS,hb',AG]
    | some io =>
      obtain⟨i,o⟩:=io
      cases hz:Nat.beq T.length 0<;>simp[An,Try.underlying33,HS,hb',AG,hz]
  · by_cases hT : T = []
    · obtain⟨a,e⟩:=h.nil hT
      injection e with _ _ e
      cases e
    · have hpos:0<T.length:=List.length_pos_iff.2 hT
      rcases h6.ex with⟨e',_⟩ | ⟨_,q1,q2,q3,r,q4,q5,q6,q7,q8,q9⟩
      · cases e'
      · have hrn : r.n = T.length * 2 := by rw [q5.1, h6.len]
        have hfar:(r.n - 0) / 2=T.length:=by omega
        refine⟨some (i,0),?_,.inl ⟨_,rfl,rfl,h6.len,(fun e=>by cases e),fun i' o' e=>?_⟩⟩
        · show An Try.prog s 33 (.slice (some (i,0)) T.length none) none (some (iv (T.length:Int))) (some (iv (T.length:Int)))=_
          have hrow:rowAt s i=some r:=by simp[rowAt,q4]
          have hz:Nat.beq T.length 0=false:=D0 (by omega)
          simp[An,Try.underlying33,HS,hrow,q8,AG,A2 (qm r.n),show Nat.beq 2 0=false from rfl,Dj,hfar,hb',LG hpos,hz,hrn,A2 (qm (T.length * 2))]
        · injection e with e
          injection e with e1 e2
          subst e1;subst e2
          have:=CY q4 q5 0 us (by simp) (fun j u hj=>by rw[qq];exact hj)
          rw[← h6.len]
          exact⟨q2,this⟩
theorem R4.push{s s1:AE}{w:AV}{us:List AV}{T:Aa}{a:Option (Nat×Nat)}(hd:Bz s (.slice a T.length (some T.length)) T.length 2 us [])(hr:BH s.next s us T)(hT:T.length≤1000){u1 u2:AV}{L1 L2:List Int}(ho:Ao s.next s s1)(h1:AJ s1.next s1 u1 (A3 L1))(h2:AJ s1.next s1 u2 (A3 L2)):
  ∃v' s',AY Try.prog (newObj s1 (AL 27 2 [.bool false,u1,.bool false,u2])) [33,33] [.slice a T.length (some T.length),.slice (some (s1.next,0)) 2 (some 2)]=some (v',s')∧R4 s' v' (us++[.bool false,u1,.bool false,u2]) (T++[(false,L1),(false,L2)])∧Ao s1.next s1 s':=by
 have c1:=EU (P:=Try.prog) (e:=27) (s:=newObj s1 (AL 27 2 [.bool false,u1,.bool false,u2])) (n:=2) (cap:=some 2) (sz:=2) 27 2 (by rw[AK,if_pos rfl]) rfl
 have Mu:Bz s1 (.slice a T.length (some T.length)) T.length 2 us []:=hd.frame ho.1 fun j hj=>ho.2 j (hd.slot_lt j hj)
 have hcell:Ae [.bool false,u1,.bool false,u2]=true:=by
  have a1:=h1.isCell.1
  have a2:=h2.isCell.1
  simp[Ae,a1,a2]
  rfl
 obtain⟨v',s',O',g1,g2,g3,g4,g5,g6,g7⟩:=(Mu.new (AL 27 2 [.bool false,u1,.bool false,u2])).append (P:=Try.prog) (st:=33) (xt:=33) Try.underlying33 HS c7 (by decide) (HR 33 27 Try.underlying33) PL c1 rfl hcell (by omega) (by omega)
 have hn:(newObj s1 (AL 27 2 [.bool false,u1,.bool false,u2])).next=s1.next+1:=rfl
 have hos:Ao s1.next s1 s':=⟨by omega,fun j hj=>by rw[g5 j (by omega) (fun q=>by cases q),AK,if_neg (by omega)]⟩
 have hlen:(T++[(false,L1),(false,L2)]).length=T.length+2:=by simp
 refine⟨v',s',g1,⟨⟨O',by rw[hlen];exact g2⟩,?_,fun e=>by simp at e⟩,hos⟩
 have r0:BH s'.next s' us T:=⟨hr.1,fun j d L hj=>let ⟨h0,u,k1,k2⟩:=hr.2 j d L hj;⟨h0,u,k1,(k2.old (ho.trans (hos.mono ho.1)) (qg _)).mono (qs ho.1 hos.1)⟩⟩
 have r1:=r0.snoc (d:=false) ((h1.old hos (qg _)).mono hos.1)
 have r2:=r1.snoc (d:=false) ((h2.old hos (qg _)).mono hos.1)
 rw[rZ,rZ]at r2
 exact r2
def E7(L:List Int):List Int:=L.flatMap fun x=>[x,x]
theorem Vc(L:List Int)(x:Int):E7 (L++[x])=E7 L++[x,x]:=by simp[E7]
theorem P2(L:List Int):(E7 L).length=2 * L.length:=by
 induction L with
 | nil=>rfl
 | cons x L ih =>
  show(x::x::E7 L).length=_
  simp only[qx,ih]
  omega
theorem P3{L:List Int}{x:Int}:x∈E7 L↔x∈L:=by simp[E7]
theorem bk{s:AE}{v:AV}{L:List Int}{O:List Nat}(hd:Bz s v L.length 1 (A3 L) O)(hl:L.length≤1000000000)(x y:Int):
  ∃v' s' O',AY Try.prog (newObj s (AL 3 1 [iv x,iv y])) [23,23] [v,.slice (some (s.next,0)) 2 (some 2)]=some (v',s')∧Bz s' v' (L++[x,y]).length 1 (A3 (L++[x,y])) O'∧s.next≤s'.next ∧
   (∀j,j<s.next→j ∉ O→s'.heap.get j=s.heap.get j)∧(∀j∈O',j∈O∨s.next≤j)∧(∀j,slot v'=some j→slot v=some j∨s.next≤j):=by
 have c1:=EU (P:=Try.prog) (e:=3) (s:=newObj s (AL 3 1 [iv x,iv y])) (n:=2) (cap:=some 2) (sz:=1) 3 1 (by rw[AK,if_pos rfl]) rfl
 obtain⟨v',s',O',h1,h2,h3,h4,h5,h6,h7⟩:=(hd.new (AL 3 1 [iv x,iv y])).append (P:=Try.prog) (st:=23) (xt:=23) Try.underlying23 Br W9 (by decide) (HR 23 3 Try.underlying23) IE c1 rfl rfl (by omega) (by omega)
 have hn:(newObj s (AL 3 1 [iv x,iv y])).next=s.next+1:=rfl
 refine⟨v',s',O',h1,?_,by omega,?_,?_,?_⟩
 ·simpa using h2
 ·intro j hj ho
  rw[h5 j (by omega) ho,AK,if_neg (by omega)]
 ·intro j hj
  exact(h6 j hj).imp id (fun h=>by omega)
 ·intro j hj
  exact(h7 j hj).imp id (fun h=>by omega)
theorem aY{E:BI}{s1:AE}{B:Nat→Prop}{ms:List (List Int)}{u:AV}(hr:RowsIn B s1 u ms)(hB:∀j,B j→j<s1.next){k:Nat}{L:List Int}(hk:ms[k]? = some L)(hL:L.length≤12)
  (v0 v1 v2 v3 v5 v6 v7 v8 v9 v10 v14 v15 v16 v17 v18 v19 v20 v22:AV) {Q:A9→Prop}
  (hq:∀s' v' O' y13 y21,Bz s' v' (E7 L.reverse).length 1 (A3 (E7 L.reverse)) O'→Ao s1.next s1 s'→Q ⟨.exit 4,[v0,v1,v2,v3,u,v5,v6,v7,v8,v9,v10,iv (k:Int),v',y13,v14,v15,v16,v17,v18,v19,v20,y21,v22],[],s'⟩):
  ∀ (r:Nat) (s:AE) (v:AV) (O:List Nat) (x21:AV),r≤L.length→Bz s v (E7 (L.drop r).reverse).length 1 (A3 (E7 (L.drop r).reverse)) O→(∀j∈O,s1.next≤j)→Ao s1.next s1 s →
   WC E none (.loop LQ) Q [v0,v1,v2,v3,u,v5,v6,v7,v8,v9,v10,iv (k:Int),v,iv ((r:Int) - 1),v14,v15,v16,v17,v18,v19,v20,x21,v22] [] s:=by
 intro r
 induction r with
 | zero =>
  intro s v O x21 hr' hd hO hold
  have hdd:decide ((0:Int)≤((0:Nat):Int) - 1)=false:=by decide
  refine WC.loop' ?_
  simp only[LQ,SW,hdd,Qa,Qb,Qc,Qd,Qe,Qf,Qg,Qh,Qi,Qj,Qk,Ql,Qm,Qn,true_and,and_true,Qo,Qp,Qq,Qr,Qs,Qt,Qu,Qv,Qw,Qx,Qy,Qz,Ra,Rb,Rc,Rd,Re,Rf,Rg,Rh,Ri,Rj,Rk,Rl,Rm,Ya,Yb,Yc,Rn,Ro,Rp,Yd,Ye,Rq,Rs,Rt,Ru,Rv,Rw,Rx]
  exact hq s v O _ _ hd hold
 | succ r ih =>
  intro s v O x21 hr' hd hO hold
  have hlt:r<L.length:=hr'
  have hx:L[r]? = some L[r]:=qp hlt
  generalize L[r]=x at hx
  have hcast:(((r+1:Nat):Int) - 1)=(r:Int):=by omega
  have hdd:decide ((0:Int)≤(r:Int))=true:=decide_eq_true (by omega)
  obtain⟨a,w,e1,e2,hu,_⟩:=(hr.old hB hold).row hk
  obtain⟨a2,e3,e4⟩:=bv hu hx
  have e5:=CV Try.prog 3 (r:Int) 1 ⟨by omega,by omega⟩
  have b1:=W7 x x
  have hmv:∀ (m:Nat) (i:Nat),Made.val i (.slice m)=.slice (some (i,0)) m (some m):=fun _ _=>rfl
  have hlen:(E7 (L.drop (r+1)).reverse).length≤24:=by rw[P2];simp;omega
  obtain⟨v',s',O',p1,p2,p3,p4,p5,p6⟩:=bk hd (by omega) x x
  rw[← Vc,← aX hx]at p2
  refine WC.loop' ?_
  generalize hW:WC E none (Ac.loop LQ) Q=W at ih ⊢
  simp only[LQ,SW,hcast,hdd,YB,e1,e2,e3,e4,b1,hmv,p1,YC,e5,Qa,Qb,Qc,Qd,Qe,Qf,Qg,Qh,Qi,Qj,Qk,Ql,Qm,Qn,true_and,and_true,Qo,Qp,Qq,Qr,Qs,Qt,Qu,Qv,Qw,Qx,Qy,Qz,Ra,Rb,Rc,Rd,Re,Rf,Rg,Rh,Ri,Rj,Rk,Rl,Rm,Ya,Yb,Yc,Rn,Ro,Rp,Yd,Ye,Rq,Rs,Rt,Ru,Rv,Rw,Rx]
  exact ih s' v' O' _ (by omega) p2 (fun j hj=>(p5 j hj).elim (hO j) fun h=>qs hold.1 h) (hold.trans ⟨p3,fun j hj=>p4 j (qw hj hold.1) fun hm=>by have:=hO j hm;omega⟩)
theorem Tu{s:AE}{c o:AV}{us:List AV}(hc:c.isCell=true)(ho:AJ s.next s o us)(hus:Ae us=true)(hl:us.length≤1000):
  ∃v' s',AY Try.prog (newObj s (AL 23 1 [c])) [22,22] [.slice (some (s.next,0)) 1 (some 1),o]=some (v',s')∧AJ s'.next s' v' (c::us)∧Ao s.next s s':=by
 have hd0:Bz (newObj s (AL 23 1 [c])) (.slice (some (s.next,0)) 1 (some 1)) 1 1 [c] []:=by
  obtain⟨r,h1,h2,_⟩:=BN 23 1 [c]
  refine .inl ⟨_,rfl,rfl,rfl,(fun e=>by cases e),fun i o e=>?_⟩
  injection e with e
  injection e with e1 e2
  subst e1;subst e2
  exact⟨rP _,CY (by rw[AK,if_pos rfl,h1]) h2 0 [c] (by simp) (fun j u hj=>by rw[qq];exact hj)⟩
 have ho1:=ho.old (Ao.new s (AL 23 1 [c])) (qg _)
 obtain⟨a,cap,rfl,hsrc⟩:=fK ho1 23
 obtain⟨v',s',O',h1,h2,h3,h4,h5,h6,h7⟩:=hd0.append (P:=Try.prog) (st:=22) (xt:=22) Try.underlying22 Ba OG (by decide) (HR 22 23 Try.underlying22) Mt hsrc (by simp) hus (by omega) (by omega)
 have hn:(newObj s (AL 23 1 [c])).next=s.next+1:=rfl
 refine⟨v',s',h1,?_,⟨by omega,fun j hj=>by rw[h5 j (by omega) (fun q=>by cases q),AK,if_neg (by omega)]⟩⟩
 exact h2.slice
theorem OW{us:List AV}(h:∀u∈us,u.isCell=true):Ae us=true:=by
 induction us with
 | nil=>rfl
 | cons u us ih =>
  have h1:=h u (ql ..)
  have h2:=ih fun w hw=>h w (qo _ hw)
  show(u.isCell && Ae us)=true
  rw[h1,h2]
  rfl
theorem TK         {cs ds : List (List Int)} {T X : Aa}      (hs : Dz     cs ds) (hc : ∀ L ∈ cs, CK    L) (hd : ∀ L ∈ ds, CK    L) (hT : ∀ x ∈ T, CK    x.2) : ∀ (t : Aa)      (k : Nat), T.drop k = t → k ≤ T.length →
    ((Bl fol cs T t k).2=true→(Bl fol ds (T++X) (t++X) k).2=true∧(Bl fol ds (T++X) (t++X) k).1≤(Bl fol cs T t k).1) ∧
    ((Bl fol cs T t k).2=false→(Bl fol ds (T++X) (t++X) k).2=true∨(Bl fol cs T t k).1≤(Bl fol ds (T++X) (t++X) k).1):=by
  intro t
  induction t with
  | nil =>
    intro k hd' hk
    have hkT:=Cw hd' hk
    subst hkT
    simp only[Bl,rL]
    refine⟨fun h=>(by cases h),fun _=>.inr ?_⟩
    obtain⟨m,r,hmr⟩:∃m r,Bl fol ds (T++X) X T.length=(m,r):=⟨_,_,rfl⟩
    have:=(Pv (f:=fol) (cs:=ds) (T:=T++X) X T.length (by simp) (by simp) m r hmr).1
    rw[hmr]
    exact this
  | cons x t ih =>
    intro k hdr hk
    obtain⟨d,L⟩:=x
    obtain⟨hlt,hx,hd'⟩:=B0 hdr
    have hih:=ih (k+1) hd' hlt
    cases d with
    | true =>
      simp only[Bl,rY]
      exact hih
    | false =>
      have etk:(T++X).take k=T.take k:=rM (by omega)
      have hLk:∀M∈Bo (T.take k),CK M:=fun M hM=>by
        obtain⟨b,hb⟩:=IW hM
        exact hT _ (rF hb)
      have hL:=hT _ (qj hx)
      simp only[Bl,rY,etk]
      cases hf:fol (cs++Bo (T.take k)) L with
      | false =>
        dsimp only
        refine⟨fun h=>(by cases h),fun _=>.inr ?_⟩
        cases hf':fol (ds++Bo (T.take k)) L with
        | false=>exact qg _
        | true =>
          dsimp only
          by_cases hcl:(Ah [] L).length=0
          · rw[if_pos hcl];exact qg _
          · rw[if_neg hcl]
            obtain⟨m,r,hmr⟩:∃m r,Bl fol ds (T++X) (t++X) (k+1)=(m,r):=⟨_,_,rfl⟩
            have:=(Pv (f:=fol) (cs:=ds) (T:=T++X) (t++X) (k+1) (by rw[sm (by omega),hd']) (by simp;omega) m r hmr).1
            rw[hmr]
            show k≤m
            omega
      | true =>
        have hf':fol (ds++Bo (T.take k)) L=true:=by
          rw[ai (fun M hM=>(sE.1 hM).elim (hd M) (hLk M)) hL]
          rw[ai (fun M hM=>(sE.1 hM).elim (hc M) (hLk M)) hL]at hf
          exact hf.mono (hs.app (Dz.refl _)) fun _ q=>q
        rw[hf']
        dsimp only
        by_cases hcl:(Ah [] L).length=0
        · simp only[if_pos hcl]
          exact⟨fun _=>⟨trivial,qg _⟩,fun h=>by cases h⟩
        · simp only[if_neg hcl]
          exact hih
theorem UF(cs more:List (List Int)):Dz cs ((cs.reverse.map fun L=>E7 L.reverse)++more):=fun L hL =>
 ⟨E7 L.reverse,qt _ (List.mem_map.2 ⟨L,sX.2 hL,rfl⟩),fun x=>by rw[P3,sX]⟩
theorem Wm        {E : BI}  {s0 : AE}  {B : Nat → Prop} {cs : List (List Int)} {u : AV} (hr : RowsIn B s0 u cs) (hB : ∀ j, B j → j < s0.next) (hL : ∀ L ∈ cs, L.length ≤ 12) (hlen : cs.length ≤ 100) {more : List (List Int)} (hmore : more.length ≤ 100)
    (v0 v1 v2 v3 v5 v6 v7 v8 v9 v14 v15 v16 v17 v18 v19 v22:AV) {Q:A9→Prop}
    (hq:∀s' o us y12 y13 y20 y21,AJ s'.next s' o us→Ag s'.next s' us ((cs.reverse.map fun L=>E7 L.reverse)++more)→Ao s0.next s0 s'→Q ⟨.exit 2,[v0,v1,v2,v3,u,v5,v6,v7,v8,v9,o,iv (cs.length:Int),y12,y13,v14,v15,v16,v17,v18,v19,y20,y21,v22],[],s'⟩):
    ∀ (t:List (List Int)) (k:Nat) (s:AE) (o:AV) (us:List AV) (x12 x13 x20 x21:AV),cs.drop k=t→k≤cs.length→AJ s.next s o us→Ag s.next s us (((cs.take k).reverse.map fun L=>E7 L.reverse)++more)→Ao s0.next s0 s →
      WC E none (.loop Eh) Q [v0,v1,v2,v3,u,v5,v6,v7,v8,v9,o,iv (k:Int),x12,x13,v14,v15,v16,v17,v18,v19,x20,x21,v22] [] s:=by
  intro t
  induction t with
  | nil =>
    intro k s o us x12 x13 x20 x21 hd hk ho hrc hold
    have:=Cw hd hk
    subst this
    rw[rR]at hrc
    have hr':=hr.old hB hold
    refine WC.loop' ?_
    simp only[Eh,SV,hr'.len,rG,decide_false,Qa,Qb,Qc,Qd,Qe,Qf,Qg,Qh,Qi,Qj,Qk,Ql,Qm,Qn,true_and,and_true,Qo,Qp,Qq,Qr,Qs,Qt,Qu,Qv,Qw,Qx,Qy,Qz,Ra,Rb,Rc,Rd,Re,Rf,Rg,Rh,Ri,Rj,Rk,Rl,Rm,Ya,Yb,Yc,Rn,Ro,Rp,Yd,Ye,Rq,Rs,Rt,Ru,Rv,Rw,Rx]
    exact hq s o us _ _ _ _ ho hrc hold
  | cons L t ih =>
    intro k s o us x12 x13 x20 x21 hd hk ho hrc hold
    obtain⟨hlt,hx,hd'⟩:=B0 hd
    have hkk:decide ((k:Int)<(cs.length:Int))=true:=decide_eq_true (by omega)
    have e3:=Ay Try.prog 3 (k:Int) 1 ⟨by omega,by omega⟩
    have hcast:((k:Int)+1)=((k+1:Nat):Int):=by omega
    have hr':=hr.old hB hold
    obtain⟨a,w,e1,e2,hu,_⟩:=hr'.row hx
    have hLl:=hL L (qj hx)
    have ln:∀s',As Try.prog s' 23 w=some (iv (L.length:Int)):=fun s'=>by
      have:=hu.len Try.underlying23 s'
      rw[qi]at this
      exact this
    have e5:=CV Try.prog 3 (L.length:Int) 1 ⟨by omega,by omega⟩
    have hB1:∀j,B j→j<s.next:=fun j hj=>qw (hB j hj) hold.1
    have hdr:L.drop L.length=[]:=se (qg _)
    have hin:=aY (E:=E) (s1:=s) (u:=u) hr' hB1 hx hLl v0 v1 v2 v3 v5 v6 v7 v8 v9 o v14 v15 v16 v17 v18 v19 (.bool true) v22
      (Q:=CS 4 (D7 (Qa E none (.ops SX) (CS 3 (D7 (Qa E none (.ops ON) (D7 (WC E none (.loop Eh) Q) Q)) (D7 (WC E none (.loop Eh) Q) Q)))) (CS 3 (D7 (Qa E none (.ops ON) (D7 (WC E none (.loop Eh) Q) Q)) (D7 (WC E none (.loop Eh) Q) Q))))) (fun s' c' O' y13 y21 hc' ho'=>by
        have hcs:=hc'.slice
        have husl:us.length=((cs.take k).reverse.map fun L=>E7 L.reverse).length+more.length:=by rw[hrc.1,qn]
        have husl2:us.length≤1000:=by
          rw[husl]
          simp
          omega
        have hcell:Ae us=true:=OW fun x hx=>by
          obtain⟨j,hj⟩:=List.mem_iff_getElem?.1 hx
          have hjl:=AZ hj
          obtain⟨x',q1,q2⟩:=hrc.2 j _ (qp (show j<(((cs.take k).reverse.map fun L=>E7 L.reverse)++more).length by rw[← hrc.1];exact hjl))
          rw[hj]at q1
          injection q1 with q1
          subst q1
          exact q2.isCell.1
        have ho2:AJ s'.next s' o us:=(ho.old ho' (qg _)).mono ho'.1
        obtain⟨o',s'',p1,p2,p3⟩:=Tu (c:=c') hcs.isCell.1 ho2 hcell husl2
        have b1:=CO (P:=Try.prog) (t:=22) (v:=c') Try.underlying22 Ba RY rfl hcs.isCell.2
        have hms:∀ (m:Nat) (i:Nat),Made.val i (.slice m)=.slice (some (i,0)) m (some m):=fun _ _=>rfl
        simp only[if_true,SX,b1,hms,p1,ON,e3,hcast,Qa,Qb,Qc,Qd,Qe,Qf,Qg,Qh,Qi,Qj,Qk,Ql,Qm,Qn,true_and,and_true,Qo,Qp,Qq,Qr,Qs,Qt,Qu,Qv,Qw,Qx,Qy,Qz,Ra,Rb,Rc,Rd,Re,Rf,Rg,Rh,Ri,Rj,Rk,Rl,Rm,Ya,Yb,Yc,Rn,Ro,Rp,Yd,Ye,Rq,Rs,Rt,Ru,Rv,Rw,Rx]
        refine ih (k+1) s'' o' (c'::us) _ _ _ _ hd' hlt p2 ?_ (hold.trans ((ho'.mono hold.1).trans (p3.mono (qs hold.1 ho'.1))))
        have et:((cs.take (k+1)).reverse.map fun L=>E7 L.reverse)++more=E7 L.reverse::(((cs.take k).reverse.map fun L=>E7 L.reverse)++more):=by
          rw[Nu hx]
          simp
        rw[et]
        have hso:Ao s.next s s'':=ho'.trans (p3.mono ho'.1)
        refine⟨by rw[qx,qx,hrc.1],fun j M hj=>?_⟩
        cases j with
        | zero =>
          injection hj with hj
          subst hj
          exact⟨c',rfl,(hcs.old p3 (qg _)).mono p3.1⟩
        | succ j =>
          obtain⟨x,q1,q2⟩:=hrc.2 j M hj
          exact⟨x,q1,(q2.old hso (qg _)).mono hso.1⟩) L.length s (.slice none 0 (some 0)) [] x21 (qg _) (by rw[hdr];exact Bz.nil s 1) (fun j hj=>by cases hj) (Ao.refl _ _)
    refine WC.loop' ?_
    simp only[Qa,Qb,Qc,Qd,Qe,Qf,Qg,Qh,Qi,Qj,Qk,Ql,Qm,Qn,true_and,and_true,Qo,Qp,Qq,Qr,Qs,Qt,Qu,Qv,Qw,Qx,Qy,Qz,Ra,Rb,Rc,Rd,Re,Rf,Rg,Rh,Ri,Rj,Rk,Rl,Rm,Ya,Yb,Yc,Rn,Ro,Rp,Yd,Ye,Rq,Rs,Rt,Ru,Rv,Rw,Rx]at hin
    generalize hW:WC E none (Ac.loop Eh) Q=W at ih hin ⊢
    simp only[Eh,SV,hr'.len,hkk,X9,YA,e1,e2,ln,e5,Qa,Qb,Qc,Qd,Qe,Qf,Qg,Qh,Qi,Qj,Qk,Ql,Qm,Qn,true_and,and_true,Qo,Qp,Qq,Qr,Qs,Qt,Qu,Qv,Qw,Qx,Qy,Qz,Ra,Rb,Rc,Rd,Re,Rf,Rg,Rh,Ri,Rj,Rk,Rl,Rm,Ya,Yb,Yc,Rn,Ro,Rp,Yd,Ye,Rq,Rs,Rt,Ru,Rv,Rw,Rx]
    exact hin
theorem cC{E:BI}(hE:Aq E){B:Nat→Prop}{s0:AE}{V:Nat→Option Sv}{p:Nat}{cs:List (List Int)}(hcs:∀L∈cs,(∀x∈L,VL 6 x)∧L.length≤12)(hlen:cs.length≤1000){u:AV}(hr:RowsIn B s0 u cs)(v0 v1 v2 v3 v5 x8 x9 x10 x11 x12 x13 x14 x15 x16 x17 x19 x20 x21 x22:AV){Q:A9→Prop}
  (hq:∀s' v y7 y18,Io B s' (Kl V p v)→Ij B s0 s'→SI 6 cs.length cs 0 v→JR 6 cs v→Q ⟨.exit 0,[v0,v1,v2,v3,u,v5,AR p,y7,x8,x9,x10,x11,x12,x13,x14,x15,x16,x17,y18,x19,x20,x21,x22],[],s'⟩):
  ∀ (l:List (List Int)) (k:Nat) (s:AE) (v:Sv) (x18:AV),cs.drop k=l→k≤cs.length→Io B s (Kl V p v)→Ij B s0 s→SI 6 k (cs.take k) 0 v→JR 6 (cs.take k) v →
   WC E none (.loop LP) Q [v0,v1,v2,v3,u,v5,AR p,iv (k:Int),x8,x9,x10,x11,x12,x13,x14,x15,x16,x17,x18,x19,x20,x21,x22] [] s:=by
 have hne:AN Try.prog .neq 44 (.ptr (some (p,0))) (.ptr none)=some (.bool true):=rfl
 intro l
 induction l with
 | nil =>
  intro k s v x18 hd hk hS hK hI hm
  have:=Cw hd hk
  subst this
  rw[rR]at hI hm
  have hr':=hr.keep hK
  refine WC.loop' ?_
  simp only[LP,YE,AR,hne,hr'.len,rG,decide_false,Qa,Qb,Qc,Qd,Qe,Qf,Qg,Qh,Qi,Qj,Qk,Ql,Qm,Qn,true_and,and_true,Qo,Qp,Qq,Qr,Qs,Qt,Qu,Qv,Qw,Qx,Qy,Qz,Ra,Rb,Rc,Rd,Re,Rf,Rg,Rh,Ri,Rj,Rk,Rl,Rm,Ya,Yb,Yc,Rn,Ro,Rp,Yd,Ye,Rq,Rs,Rt,Ru,Rv,Rw,Rx]
  exact hq _ v _ _ hS hK hI hm
 | cons L l ih =>
  intro k s v x18 hd hk hS hK hI hm
  obtain⟨hlt,hx,hd'⟩:=B0 hd
  have hr':=hr.keep hK
  obtain⟨a,w,e1,e2,hu,hB⟩:=hr'.row hx
  have hkk:decide ((k:Int)<(cs.length:Int))=true:=decide_eq_true (by omega)
  have e3:=Ay Try.prog 3 (k:Int) 1 ⟨by omega,by omega⟩
  have hcast:((k:Int)+1)=((k+1:Nat):Int):=by omega
  obtain⟨h6,h7⟩:=hcs L (qj hx)
  have hadd:=Wb hE hS (GG V p v) (J:=JR 6 (cs.take k++[L])) hI (hbd:=⟨by decide,by omega,.inl (by decide)⟩) h6 h7 (fun v' hr=>hr.jr (h:=0) hI h6 hm) (qg _) hu hB
  simp only[AR]at hadd
  refine WC.loop' ?_
  generalize hW:WC E none (Ac.loop LP) Q=W at ih ⊢
  simp only[LP,YE,fZ,AR,hne,hr'.len,hkk,e1,e2,Qa,Qb,Qc,Qd,Qe,Qf,Qg,Qh,Qi,Qj,Qk,Ql,Qm,Qn,true_and,and_true,Qo,Qp,Qq,Qr,Qs,Qt,Qu,Qv,Qw,Qx,Qy,Qz,Ra,Rb,Rc,Rd,Re,Rf,Rg,Rh,Ri,Rj,Rk,Rl,Rm,Ya,Yb,Yc,Rn,Ro,Rp,Yd,Ye,Rq,Rs,Rt,Ru,Rv,Rw,Rx]
  refine hadd.mono ?_
  rintro _ s' ⟨rfl,v',g1,g2,g3,g4⟩
  rw[cD]at g3
  simp only[fa,e3,hcast,Qa,Qb,Qc,Qd,Qe,Qf,Qg,Qh,Qi,Qj,Qk,Ql,Qm,Qn,true_and,and_true,Qo,Qp,Qq,Qr,Qs,Qt,Qu,Qv,Qw,Qx,Qy,Qz,Ra,Rb,Rc,Rd,Re,Rf,Rg,Rh,Ri,Rj,Rk,Rl,Rm,Ya,Yb,Yc,Rn,Ro,Rp,Yd,Ye,Rq,Rs,Rt,Ru,Rv,Rw,Rx]
  refine ih (k+1) s' v' _ hd' hlt g3 (hK.trans g4) ?_ ?_
  all_goals rw[Nu hx]
  ·exact g1
  ·exact g2
theorem Te{E:BI}(hE:Aq E){s:AE}{b:Nat}{v:AV}(hv:Kn b s v []):WF E 23 [v] (fun r s'=>r=.slice none 0 (some 0)) s:=by
 obtain⟨a,cap,rfl,hc⟩:=hv
 refine hE.go aN (by decide) rfl ?_
 simp only[pU,YX,YY,YZ,Qa,Qb,Qc,Qd,Qe,Qf,Qg,Qh,Qi,Qj,Qk,Ql,Qm,Qn,true_and,and_true,Qo,Qp,Qq,Qr,Qs,Qt,Qu,Qv,Qw,Qx,Qy,Qz,Ra,Rb,Rc,Rd,Re,Rf,Rg,Rh,Ri,Rj,Rk,Rl,Rm,Ya,Yb,Yc,Rn,Ro,Rp,Yd,Ye,Rq,Rs,Rt,Ru,Rv,Rw,Rx]
 refine WC.loop' ?_
 have h0:decide ((0:Int)<((0:Nat):Int))=false:=rfl
 simp only[Gw,NH,rS,AW Try.underlying31,h0,Si,if_true,Qa,Qb,Qc,Qd,Qe,Qf,Qg,Qh,Qi,Qj,Qk,Ql,Qm,Qn,true_and,and_true,Qo,Qp,Qq,Qr,Qs,Qt,Qu,Qv,Qw,Qx,Qy,Qz,Ra,Rb,Rc,Rd,Re,Rf,Rg,Rh,Ri,Rj,Rk,Rl,Rm,Ya,Yb,Yc,Rn,Ro,Rp,Yd,Ye,Rq,Rs,Rt,Ru,Rv,Rw,Rx]
theorem Vw{E:BI}(hE:Aq E){b:Nat}{s:AE}{v0 v1:AV}{ls:List (List Int)}{ss:List Ca}(h:IG b s v0 v1 ls ss):WF E 23 [v1] (fun r s'=>∃us,R4 s' r us (FE ss)∧Ao s.next s s') s:=by
  by_cases hss:ss=[]
  · have st:=h.st
    rw[hss]at st
    refine(WF.both (QL hE h.le h.hss h.hsl h.st) (Te hE st)).mono ?_
    rintro r s' ⟨⟨us,O,hm,ho⟩,rfl⟩
    exact⟨us,⟨⟨O,hm.dest⟩,hm.rows,fun _=>⟨none,rfl⟩⟩,ho⟩
  · refine (QL       hE h.le h.hss h.hsl h.st).mono ?_
    rintro r s' ⟨us,O,hm,ho⟩
    refine⟨us,⟨⟨O,hm.dest⟩,hm.rows,fun e=>?_⟩,ho⟩
    have hl:(FE ss).length=0:=by rw[e];rfl
    unfold FE at hl
    rw[IX]at hl
    cases ss with
    | nil=>exact absurd rfl hss
    | cons x ss=>simp at hl
theorem ae(n:Nat):AN Try.prog .rem 3 (iv (n:Int)) (iv 2)=some (iv ((n % 2:Nat):Int)):=by
 have:=fB (s:={ next:=0,heap:=.leaf }) (a:=n) (b:=2) (by decide)
 exact this
theorem T3{s s':AE}{a:Option (Nat×Nat)}{n:Nat}{c:Option Nat}{x y:AV}(h:∀j,slot (.slice a n c)=some j→s'.heap.get j=s.heap.get j):AU Try.prog 33 false true true s' [.slice a n c,x,y]=AU Try.prog 33 false true true s [.slice a n c,x,y]:=by
 show An Try.prog s' 33 (.slice a n c) none (some x) (some y)=An Try.prog s 33 (.slice a n c) none (some x) (some y)
 cases a with
 | none=>rfl
 | some io =>
  obtain⟨i,o⟩:=io
  have hi:rowAt s' i=rowAt s i:=by unfold rowAt;rw[h i rfl]
  unfold An
  simp only[hi]
structure NB(b:Nat)(s:AE)(w cl tr:AV)(more cs:List (List Int))(T:Aa)(ms:List (List Int)):Prop where
 rows:RowsIn (fun j=>j<s.next) s cl cs
 tr:∃us,R4 s tr us T
 more:E0 b s w ms
 le:b≤s.next
theorem NB.old{b:Nat}{s s':AE}{w cl tr:AV}{more cs:List (List Int)}{T:Aa}{ms:List (List Int)}(h:NB b s w cl tr more cs T ms)(k:Ao s.next s s'):NB b s' w cl tr more cs T ms:=by
 obtain⟨us,hu⟩:=h.tr
 refine⟨(h.rows.keep ⟨k.1,fun j hj=>k.2 j hj⟩).more fun j hj=>qw hj k.1,⟨us,hu.old k⟩,?_,qs h.le k.1⟩
 obtain⟨a,cap,hv,hc⟩:=h.more
 refine⟨a,cap,hv,fun j L hj=>?_⟩
 obtain⟨i,o,u,h1,h2,h3,h4⟩:=hc j L hj
 exact⟨i,o,u,h1,h2,by rw[BU (k.2 i (qw h2 h.le))];exact h3,h4.old k h.le⟩
theorem RowsIn.rowsOf{B:Nat→Prop}{s:AE}{v:AV}{cs:List (List Int)}(h:RowsIn B s v cs):∃us,AJ s.next s v us∧Ag s.next s us cs:=by
 obtain⟨us,h1,_,h3,_⟩:=h
 exact⟨us,h1,h3⟩
theorem NW{cs:List (List Int)}{T:Aa}(hc:∀L∈cs,CK L)(hT:∀x∈T,CK x.2):∀k L,T[k]? = some (false,L)→∃n,D2 n (cs++Bo (T.take k)) L=some (fol (cs++Bo (T.take k)) L):=fun k L hk=>by
 refine⟨_,oU (fun M hM=>?_) (hT _ (qj hk)).i64⟩
 rcases sE.1 hM with h | h
 ·exact(hc M h).i64
 ·obtain⟨d,hd⟩:=IW h
  exact(hT _ (rF hd)).i64
theorem KE{L:List Int}(h:Jf L):CK L:=PI (n:=6) (by decide) (VE h).1
theorem V6        {E : BI}  (hE : Aq   E) {b : Nat} {s : AE}  {w cl tr : AV} {cs ms : List (List Int)} {T : Aa}      (h : NB    b s w cl tr [] cs T ms) (hc6 : ∀ L ∈ cs, Jf   L) (hcl : cs.length ≤ 20) (hTl : ∀ x ∈ T, CK    x.2) (hP : FL     T) (hT800 : T.length ≤ 800)
    (hms:∀L∈ms,cW L∧L.length<9223372036854775808) (hml:ms.length<9223372036854775808) (v0 v2 v3 x6 x7 x8 x9 x10 x11 x12 x13 x14 x15 x16 x17 x18 x19 x20 x21 x22:AV):
    Qa E none (.seq (.ops LR) (.seq (.ops LS) (.seq (.seq (.ops LT) (.block 2 (.loop Eh))) (.seq (.ops Jl) (.seq (.seq (.ops Gu) (.cond (.var 22) (.seq (.ops Jm) .ret) .skip)) (.seq (.ops IN) .ret)))))) (Ends Try.prog OM.results (fun r _=>r=.bool true))
      [v0,w,v2,v3,cl,tr,x6,x7,x8,x9,x10,x11,x12,x13,x14,x15,x16,x17,x18,x19,x20,x21,x22] [] s:=by
  have hcL:∀L∈cs,CK L:=fun L hL=>KE (hc6 L hL)
  have hfitR:PP cs:=⟨by omega,fun L hL=>⟨(hcL L hL).i64,by have:=(hc6 L hL).2;omega⟩⟩
  obtain⟨us0,hus0⟩:=h.tr
  obtain⟨usc,r1,r3⟩:=h.rows.rowsOf
  obtain⟨n,r,hnr⟩:∃n r,G2 fol cs T=(n,r):=⟨_,_,rfl⟩
  simp only[LR,Qa,Qb,Qc,Qd,Qe,Qf,Qg,Qh,Qi,Qj,Qk,Ql,Qm,Qn,true_and,and_true,Qo,Qp,Qq,Qr,Qs,Qt,Qu,Qv,Qw,Qx,Qy,Qz,Ra,Rb,Rc,Rd,Re,Rf,Rg,Rh,Ri,Rj,Rk,Rl,Rm,Ya,Yb,Yc,Rn,Ro,Rp,Yd,Ye,Rq,Rs,Rt,Ru,Rv,Rw,Rx]
  refine(Pt hE (b:=s.next) (qg _) r1 r3 hfitR hus0.trace hP (fol:=fol) (NW hcL hTl)).mono ?_
  rintro _ s1 ⟨rfl,ho1⟩
  rw[hnr]
  have h1:=h.old ho1
  simp only[LS,Qa,Qb,Qc,Qd,Qe,Qf,Qg,Qh,Qi,Qj,Qk,Ql,Qm,Qn,true_and,and_true,Qo,Qp,Qq,Qr,Qs,Qt,Qu,Qv,Qw,Qx,Qy,Qz,Ra,Rb,Rc,Rd,Re,Rf,Rg,Rh,Ri,Rj,Rk,Rl,Rm,Ya,Yb,Yc,Rn,Ro,Rp,Yd,Ye,Rq,Rs,Rt,Ru,Rv,Rw,Rx]
  refine(IQ hE h1.le hms hml h1.more).mono ?_
  rintro o s2 ⟨us2,O2,hm2,ho2⟩
  have h2:=h1.old ho2
  have hmore6:∀L∈Bv ms,Jf L:=JV
  have hmorel:=(H6 ms).2
  generalize Bv ms=more at *
  have hturn:=Wm (E:=E) (s0:=s2) (u:=cl) h2.rows (fun j hj=>hj) (fun L hL=>by have:=(hc6 L hL).2;omega) (by omega) (more:=more) (by omega) v0 w v2 v3 tr x6 x7 (iv (n:Int)) (.bool r) x14 x15 x16 x17 x18 x19 x22
    (Q:=CS 2 (D7 (Qa E none (.seq (.ops Jl) (.seq (.seq (.ops Gu) (.cond (.var 22) (.seq (.ops Jm) .ret) .skip)) (.seq (.ops IN) .ret))) (Ends Try.prog OM.results (fun r _=>r=.bool true))) (Ends Try.prog OM.results (fun r _=>r=.bool true)))) ?_ cs 0 s2 o us2 x12 x13 x20 x21 rfl (qm _) hm2.dest.slice hm2.rows (Ao.refl _ _)
  · simp only [OM,  Qa, Qb, Qc, Qd, Qe, Qf, Qg, Qh, Qi, Qj, Qk, Ql, Qm, Qn, true_and, and_true, Qo, Qp, Qq, Qr, Qs, Qt, Qu, Qv, Qw, Qx, Qy, Qz, Ra, Rb, Rc, Rd, Re, Rf, Rg, Rh, Ri, Rj, Rk, Rl, Rm, Ya, Yb, Yc, Rn, Ro, Rp, Yd, Ye, Rq, Rs, Rt, Ru, Rv, Rw, Rx] at hturn
    simp only[LT,OM,Qa,Qb,Qc,Qd,Qe,Qf,Qg,Qh,Qi,Qj,Qk,Ql,Qm,Qn,true_and,and_true,Qo,Qp,Qq,Qr,Qs,Qt,Qu,Qv,Qw,Qx,Qy,Qz,Ra,Rb,Rc,Rd,Re,Rf,Rg,Rh,Ri,Rj,Rk,Rl,Rm,Ya,Yb,Yc,Rn,Ro,Rp,Yd,Ye,Rq,Rs,Rt,Ru,Rv,Rw,Rx]
    exact hturn
  intro s3 oo us3 y12 y13 y20 y21 k1 k2 ho3
  have h3:=h2.old ho3
  obtain⟨us3t,ht3⟩:=h3.tr
  obtain⟨at3,f1,f2⟩:=ht3.full
  have hds6:∀L∈(cs.reverse.map fun L=>E7 L.reverse)++more,CK L∧L.length≤10:=fun L hL=>by
    rcases sE.1 hL with q | q
    · obtain⟨M,hM,rfl⟩:=List.mem_map.1 q
      have hM:=sX.1 hM
      refine⟨fun x hx=>hcL M hM x ?_,by rw[P2,sW];have:=(hc6 M hM).2;omega⟩
      rw[P3,sX]at hx
      exact hx
    · exact⟨KE (hmore6 L q),by have:=(hmore6 L q).2;omega⟩
  have hsub:=UF cs more
  have hdl:((cs.reverse.map fun L=>E7 L.reverse)++more).length≤40:=by
    rw[qn,qi,sW]
    omega
  generalize (cs.reverse.map fun L=>E7 L.reverse)++more=ds at *
  have hfitD:PP ds:=⟨by omega,fun L hL=>⟨(hds6 L hL).1.i64,by have:=(hds6 L hL).2;omega⟩⟩
  have hms':∀ (m:Nat) (i:Nat),Made.val i (.slice m)=.slice (some (i,0)) m (some m):=fun _ _=>rfl
  have b1:=CO (P:=Try.prog) (t:=23) (v:=iv 1) Try.underlying23 Br RZ rfl rfl
  have ho4:=Ao.new s3 (AL 3 1 [iv 1])
  have hu1:AJ (newObj s3 (AL 3 1 [iv 1])).next (newObj s3 (AL 3 1 [iv 1])) (.slice (some (s3.next,0)) 1 (some 1)) (A3 [1]):=(bz (s:=s3) (L:=[1]) (by simp)).1
  have hln:=ht3.len
  have e1:∀s,As Try.prog s 33 tr=some (iv (T.length:Int)):=hln
  generalize hs4:newObj s3 (AL 3 1 [iv 1])=s4 at ho4 hu1
  have n4:s4.next=s3.next+1:=by rw[← hs4];rfl
  have eqS:∀ (a:Option (Nat×Nat)) (n:Nat) (c:Option Nat),E8 (.slice a n c) (.slice a n c)=true:=fun a n c=>Lt
  have f1':∀s',Ao s3.next s3 s'→AU Try.prog 33 false true true s' [tr,iv (T.length:Int),iv (T.length:Int)]=some (.slice at3 T.length (some T.length)):=fun s' ho=>by
    obtain⟨O3,hd3⟩:=ht3.dest
    have hsl:=hd3.slot_lt
    obtain⟨at_,ct,et,_⟩:=hd3.cells
    rw[← f1]
    rw[et]at hsl ⊢
    exact T3 fun j hj=>ho.2 j (hsl j hj)
  simp only[if_true,Jl,e1,f1,b1,hms',hs4,Qa,Qb,Qc,Qd,Qe,Qf,Qg,Qh,Qi,Qj,Qk,Ql,Qm,Qn,true_and,and_true,Qo,Qp,Qq,Qr,Qs,Qt,Qu,Qv,Qw,Qx,Qy,Qz,Ra,Rb,Rc,Rd,Re,Rf,Rg,Rh,Ri,Rj,Rk,Rl,Rm,Ya,Yb,Yc,Rn,Ro,Rp,Yd,Ye,Rq,Rs,Rt,Ru,Rv,Rw,Rx]
  refine(PS hE hu1.isCell.1 hu1.isCell.2).mono ?_
  rintro _ s5 ⟨rfl,ho5⟩
  have ho45:=ho4.trans (ho5.mono ho4.1)
  have hnil:AJ s5.next s5 (.slice none 0 (some 0)) (A3 []):=⟨none,some 0,rfl,BA.nil⟩
  simp only[HY,e1,f1' s5 ho45,Az,eqS,Jw,Qa,Qb,Qc,Qd,Qe,Qf,Qg,Qh,Qi,Qj,Qk,Ql,Qm,Qn,true_and,and_true,Qo,Qp,Qq,Qr,Qs,Qt,Qu,Qv,Qw,Qx,Qy,Qz,Ra,Rb,Rc,Rd,Re,Rf,Rg,Rh,Ri,Rj,Rk,Rl,Rm,Ya,Yb,Yc,Rn,Ro,Rp,Yd,Ye,Rq,Rs,Rt,Ru,Rv,Rw,Rx]
  refine(PS hE (u:=.slice none 0 (some 0)) rfl rfl).mono ?_
  rintro _ s6 ⟨rfl,ho6⟩
  have ho46:=ho45.trans (ho6.mono ho45.1)
  have hu16:AJ s6.next s6 (.slice (some (s3.next,0)) 1 (some 1)) (A3 [1]):=by
    have:=(hu1.old ho5 (qg _)).old (ho6.mono ho5.1) (qg _)
    exact this.mono (qs ho5.1 ho6.1)
  have hu26:AJ s6.next s6 (.slice none 0 (some 0)) (A3 []):=⟨none,some 0,rfl,BA.nil⟩
  obtain⟨t',s7,p1,p2,p3⟩:=R4.push (w:=tr) f2 ht3.rows (by omega) ho46 hu16 hu26
  have b2:Ab Try.prog 33 2 (zipIdx [0,1] [.agg [.bool false,.slice (some (s3.next,0)) 1 (some 1)],.agg [.bool false,.slice none 0 (some 0)]])=some (AL 27 2 [.bool false,.slice (some (s3.next,0)) 1 (some 1),.bool false,.slice none 0 (some 0)]):=by
    simp[Ab,Try.underlying33,HS,AG,PN,zipIdx,DO,AV.cells,Ht]
    rfl
  have ho37:Ao s3.next s3 s7:=ho46.trans (p3.mono ho46.1)
  have k1':AJ s7.next s7 oo us3:=(k1.old ho37 (qg _)).mono ho37.1
  have k2':Ag s7.next s7 us3 ds:=(k2.old ho37).mono ho37.1
  have hTl':∀x∈T++[(false,[1]),(false,[])],CK x.2:=fun x hx=>by
    rcases sE.1 hx with q | q
    · exact hTl x q
    · simp only[rI,List.not_mem_nil,or_false]at q
      rcases q with rfl | rfl
      · intro y hy
        rw[si.1 hy]
        exact⟨by decide,by decide,by decide⟩
      · intro y hy;cases hy
  have hP':FL (T++[(false,[1]),(false,[])]):=⟨by simp;omega,fun x hx=>by
    rcases sE.1 hx with q | q
    · exact hP.2 x q
    · simp only[rI,List.not_mem_nil,or_false]at q
      rcases q with rfl | rfl
      · exact⟨fun y hy=>(by rw[si.1 hy];exact⟨by decide,by decide⟩),fun y hy=>(by rw[si.1 hy];rfl),by simp⟩
      · exact⟨fun y hy=>(by cases hy),fun y hy=>(by cases hy),by simp⟩⟩
  obtain⟨m,q,hmq⟩:∃m q,G2 fol ds (T++[(false,[1]),(false,[])])=(m,q):=⟨_,_,rfl⟩
  obtain⟨z1,z2⟩:=TK (X:=[(false,[1]),(false,[])]) hsub hcL (fun L hL=>(hds6 L hL).1) hTl T 0 rfl (qm _)
  have hck:=Pt hE (b:=s7.next) (qg _) k1' k2' hfitD p2.trace hP' (fol:=fol) (NW (fun L hL=>(hds6 L hL).1) hTl')
  unfold G2 at hnr hmq
  rw[hnr,hmq]at z1 z2
  simp only[HY,e1,f1' s6 ho46,Az,eqS,Jw,b2,hms',p1,Qa,Qb,Qc,Qd,Qe,Qf,Qg,Qh,Qi,Qj,Qk,Ql,Qm,Qn,true_and,and_true,Qo,Qp,Qq,Qr,Qs,Qt,Qu,Qv,Qw,Qx,Qy,Qz,Ra,Rb,Rc,Rd,Re,Rf,Rg,Rh,Ri,Rj,Rk,Rl,Rm,Ya,Yb,Yc,Rn,Ro,Rp,Yd,Ye,Rq,Rs,Rt,Ru,Rv,Rw,Rx]
  refine hck.mono ?_
  rintro _ s8 ⟨rfl,ho8⟩
  unfold G2
  rw[hmq]
  cases r with
  | true =>
    obtain⟨z3,z4⟩:=z1 rfl
    have z3:q=true:=z3
    have z4:m≤n:=z4
    subst z3
    have d1:decide ((m:Int)≤(n:Int))=true:=decide_eq_true (by omega)
    simp only[Gu,Jm,d1,OM,Qa,Qb,Qc,Qd,Qe,Qf,Qg,Qh,Qi,Qj,Qk,Ql,Qm,Qn,true_and,and_true,Qo,Qp,Qq,Qr,Qs,Qt,Qu,Qv,Qw,Qx,Qy,Qz,Ra,Rb,Rc,Rd,Re,Rf,Rg,Rh,Ri,Rj,Rk,Rl,Rm,Ya,Yb,Yc,Rn,Ro,Rp,Yd,Ye,Rq,Rs,Rt,Ru,Rv,Rw,Rx]
  | false =>
    cases q with
    | true=>simp only[Gu,IN,OM,Qa,Qb,Qc,Qd,Qe,Qf,Qg,Qh,Qi,Qj,Qk,Ql,Qm,Qn,true_and,and_true,Qo,Qp,Qq,Qr,Qs,Qt,Qu,Qv,Qw,Qx,Qy,Qz,Ra,Rb,Rc,Rd,Re,Rf,Rg,Rh,Ri,Rj,Rk,Rl,Rm,Ya,Yb,Yc,Rn,Ro,Rp,Yd,Ye,Rq,Rs,Rt,Ru,Rv,Rw,Rx]
    | false =>
      have z5:n≤m:=(z2 rfl).resolve_left (fun e=>by cases e)
      have d1:decide ((n:Int)≤(m:Int))=true:=decide_eq_true (by omega)
      simp only[Gu,IN,d1,OM,Qa,Qb,Qc,Qd,Qe,Qf,Qg,Qh,Qi,Qj,Qk,Ql,Qm,Qn,true_and,and_true,Qo,Qp,Qq,Qr,Qs,Qt,Qu,Qv,Qw,Qx,Qy,Qz,Ra,Rb,Rc,Rd,Re,Rf,Rg,Rh,Ri,Rj,Rk,Rl,Rm,Ya,Yb,Yc,Rn,Ro,Rp,Yd,Ye,Rq,Rs,Rt,Ru,Rv,Rw,Rx]
theorem E0.old{b:Nat}{s s':AE}{v:AV}{ls:List (List Int)}(h:E0 b s v ls)(k:Ao b s s'):E0 b s' v ls:=by
 obtain⟨a,cap,hv,hc⟩:=h
 refine⟨a,cap,hv,fun j L hj=>?_⟩
 obtain⟨i,o,u,h1,h2,h3,h4⟩:=hc j L hj
 exact⟨i,o,u,h1,h2,by rw[BU (k.2 i h2)];exact h3,h4.old k (qg _)⟩
theorem eX      {E : BI}  (hE : Aq   E) (hW : ∀ s, E.nat 21 [] s = some (.bool true, s)) {b : Nat} {s : AE}  {v0 w v1 : AV} {ls ms : List (List Int)} {ss : List Ca}     (h : IG     b s v0 v1 ls ss) (hw : E0      b s w ms)
    (hms:∀L∈ms,cW L∧L.length<9223372036854775808) (hml:ms.length<9223372036854775808):
    WF E 16 [v0,w,v1] (fun r _=>r=.bool true) s:=by
  have hc6:∀L∈Bv ls,Jf L:=JV
  have hcv:∀L∈Bv ls,(∀x∈L,VL 6 x)∧L.length≤12:=fun L hL=>VE (hc6 L hL)
  have hF:∀f∈Bv ls,∀y∈f,VL 6 y:=fun f hf=>(hcv f hf).1
  have hcf:=H6 ls
  have e729:iv ((729:Nat):Int)=iv 729:=rfl
  have e6:iv ((6:Nat):Int)=iv 6:=rfl
  obtain⟨a0,c0,hv1,_⟩:=h.st
  have lss:∀s',As Try.prog s' 31 v1=some (iv (ss.length:Int)):=fun s'=>by rw[hv1];exact AW Try.underlying31
  have hev:=ae ss.length
  refine hE.go lE (by decide) rfl ?_
  simp only[OM,fU,fV,Qa,Qb,Qc,Qd,Qe,Qf,Qg,Qh,Qi,Qj,Qk,Ql,Qm,Qn,true_and,and_true,Qo,Qp,Qq,Qr,Qs,Qt,Qu,Qv,Qw,Qx,Qy,Qz,Ra,Rb,Rc,Rd,Re,Rf,Rg,Rh,Ri,Rj,Rk,Rl,Rm,Ya,Yb,Yc,Rn,Ro,Rp,Yd,Ye,Rq,Rs,Rt,Ru,Rv,Rw,Rx]
  refine WF.nat (hW s) ?_
  simp only[Bool.not_true,fW,Qa,Qb,Qc,Qd,Qe,Qf,Qg,Qh,Qi,Qj,Qk,Ql,Qm,Qn,true_and,and_true,Qo,Qp,Qq,Qr,Qs,Qt,Qu,Qv,Qw,Qx,Qy,Qz,Ra,Rb,Rc,Rd,Re,Rf,Rg,Rh,Ri,Rj,Rk,Rl,Rm,Ya,Yb,Yc,Rn,Ro,Rp,Yd,Ye,Rq,Rs,Rt,Ru,Rv,Rw,Rx]
  refine(IQ hE h.le h.hls h.hll h.r8).mono ?_
  rintro cl s1 ⟨us,O,hmd,ho1⟩
  have h1:=h.old (ho1.mono h.le)
  simp only[Qa,Qb,Qc,Qd,Qe,Qf,Qg,Qh,Qi,Qj,Qk,Ql,Qm,Qn,true_and,and_true,Qo,Qp,Qq,Qr,Qs,Qt,Qu,Qv,Qw,Qx,Qy,Qz,Ra,Rb,Rc,Rd,Re,Rf,Rg,Rh,Ri,Rj,Rk,Rl,Rm,Ya,Yb,Yc,Rn,Ro,Rp,Yd,Ye,Rq,Rs,Rt,Ru,Rv,Rw,Rx]
  refine(Vw hE h1).mono ?_
  rintro tr s2 ⟨ust,ht2,ho2⟩
  have hT6:=Kf ss
  have hTl:=Ke ss
  have hR2:RowsIn (fun j=>j<s2.next) s2 cl (Bv ls):=(hmd.rowsIn.keep ⟨ho2.1,fun j hj=>ho2.2 j hj⟩).more fun j hj=>qw hj ho2.1
  have hA2:NB b s2 w cl tr [] (Bv ls) (FE ss) ms:=⟨hR2,⟨ust,ht2⟩,(hw.old (ho1.mono h.le)).old (ho2.mono h1.le),qs h1.le ho2.1⟩
  have hPs:=NA ss
  generalize FE ss=T at *
  generalize Bv ls=cs at *
  have hTlits:∀x∈T,CK x.2:=fun x hx=>KE (hT6 x hx)
  have fin:=fun(s':AE) (tr':AV) (T':Aa) (hA:NB b s' w cl tr' [] cs T' ms) (hl:∀x∈T',CK x.2) (hP:FL T') (h8:T'.length≤800)=>V6 hE hA hc6 hcf.2 hl hP h8 hms hml
  simp only[OM,Qa,Qb,Qc,Qd,Qe,Qf,Qg,Qh,Qi,Qj,Qk,Ql,Qm,Qn,true_and,and_true,Qo,Qp,Qq,Qr,Qs,Qt,Qu,Qv,Qw,Qx,Qy,Qz,Ra,Rb,Rc,Rd,Re,Rf,Rg,Rh,Ri,Rj,Rk,Rl,Rm,Ya,Yb,Yc,Rn,Ro,Rp,Yd,Ye,Rq,Rs,Rt,Ru,Rv,Rw,Rx]at fin
  have z0:decide (((0:Nat):Int)=0)=true:=rfl
  have z1:decide (((1:Nat):Int)=0)=false:=rfl
  rcases Nat.mod_two_eq_zero_or_one ss.length with hm | hm
  · rw[hm]at hev
    have hnew:=Wc hE (Wd s2) (n:=6) (by decide)
    rw[e6]at hnew
    simp only[YD,lss,hev,z0,fX,Qa,Qb,Qc,Qd,Qe,Qf,Qg,Qh,Qi,Qj,Qk,Ql,Qm,Qn,true_and,and_true,Qo,Qp,Qq,Qr,Qs,Qt,Qu,Qv,Qw,Qx,Qy,Qz,Ra,Rb,Rc,Rd,Re,Rf,Rg,Rh,Ri,Rj,Rk,Rl,Rm,Ya,Yb,Yc,Rn,Ro,Rp,Yd,Ye,Rq,Rs,Rt,Ru,Rv,Rw,Rx]
    refine hnew.mono ?_
    rintro _ s3 ⟨v,rfl,hV,g1,g2,g3,g4a,g4b,g4c⟩
    generalize hp:s2.next=p at *
    have hloop:=cC hE (V:=fun _=>none) (p:=p) hcv (by omega) (hR2.keep g2) v0 w v1 (.bool false) tr Ar Ar Ar Ar Ar Ar Ar Ar (.bool false) (.bool true) Ar Ar Ar Ar
      (Q:=CS 0 (D7 (Qa E none (.seq (.ops ST) (.cond (.var 19) (.ops SU) .skip)) (D7 (Qa E none (.seq (.ops LR) (.seq (.ops LS) (.seq (.seq (.ops LT) (.block 2 (.loop Eh))) (.seq (.ops Jl) (.seq (.seq (.ops Gu) (.cond (.var 22) (.seq (.ops Jm) .ret) .skip)) (.seq (.ops IN) .ret)))))) (Ends Try.prog OM.results (fun r _=>r=.bool true))) (Ends Try.prog OM.results (fun r _=>r=.bool true)))) (D7 (Qa E none (.seq (.ops LR) (.seq (.ops LS) (.seq (.seq (.ops LT) (.block 2 (.loop Eh))) (.seq (.ops Jl) (.seq (.seq (.ops Gu) (.cond (.var 22) (.seq (.ops Jm) .ret) .skip)) (.seq (.ops IN) .ret)))))) (Ends Try.prog OM.results (fun r _=>r=.bool true))) (Ends Try.prog OM.results (fun r _=>r=.bool true))))) ?_ cs 0 s3 v Ar rfl (qm _) g1 (Ij.refl _ _) g3 (bB g4a g4b g4c)
    · simp only [AR]   at hloop
      simp only[OM,Qa,Qb,Qc,Qd,Qe,Qf,Qg,Qh,Qi,Qj,Qk,Ql,Qm,Qn,true_and,and_true,Qo,Qp,Qq,Qr,Qs,Qt,Qu,Qv,Qw,Qx,Qy,Qz,Ra,Rb,Rc,Rd,Re,Rf,Rg,Rh,Ri,Rj,Rk,Rl,Rm,Ya,Yb,Yc,Rn,Ro,Rp,Yd,Ye,Rq,Rs,Rt,Ru,Rv,Rw,Rx]at hloop
      simp only[fY,AR,Qa,Qb,Qc,Qd,Qe,Qf,Qg,Qh,Qi,Qj,Qk,Ql,Qm,Qn,true_and,and_true,Qo,Qp,Qq,Qr,Qs,Qt,Qu,Qv,Qw,Qx,Qy,Qz,Ra,Rb,Rc,Rd,Re,Rf,Rg,Rh,Ri,Rj,Rk,Rl,Rm,Ya,Yb,Yc,Rn,Ro,Rp,Yd,Ye,Rq,Rs,Rt,Ru,Rv,Rw,Rx]
      exact hloop
    intro s4 v4 y7 y18 k1 k2 k3 k4
    have hK24:=g2.trans k2
    have hs:=RI hE k1 (GG _ p v4) (cK 6 cs) k4 k3 (hbd:=⟨by decide,by have:=hcf.2;omega,.inl (by decide)⟩) (most:=729) (by decide) hF
    simp only[AR,e729]at hs
    simp only[if_true,ST,AR,Qa,Qb,Qc,Qd,Qe,Qf,Qg,Qh,Qi,Qj,Qk,Ql,Qm,Qn,true_and,and_true,Qo,Qp,Qq,Qr,Qs,Qt,Qu,Qv,Qw,Qx,Qy,Qz,Ra,Rb,Rc,Rd,Re,Rf,Rg,Rh,Ri,Rj,Rk,Rl,Rm,Ya,Yb,Yc,Rn,Ro,Rp,Yd,Ye,Rq,Rs,Rt,Ru,Rv,Rw,Rx]
    refine hs.mono ?_
    rintro _ s5 ⟨c,v5,rfl,i5,j5,hc,k5,k6⟩
    have hK25:=hK24.trans k6
    have ho25:Ao s2.next s2 s5:=by rw[hp];exact⟨hK25.1,fun j hj=>hK25.2 j hj⟩
    have hA5:=hA2.old ho25
    rcases hc with⟨rfl,hno,hbk⟩ | ⟨rfl,hmo,hbk⟩ | ⟨_,q⟩
    · have d0 : decide ((0 : Int) = 0) = true := rfl
      have hT800:v5.trace.length≤800:=by have:=i5.trc;omega
      have htr:=T4 hE k5 (GG _ p v5) (by omega) (fun x hx=>by have:=(j5.tr x hx).2.2;omega)
      simp only[AR]at htr
      simp only[decide_true,SU,Qa,Qb,Qc,Qd,Qe,Qf,Qg,Qh,Qi,Qj,Qk,Ql,Qm,Qn,true_and,and_true,Qo,Qp,Qq,Qr,Qs,Qt,Qu,Qv,Qw,Qx,Qy,Qz,Ra,Rb,Rc,Rd,Re,Rf,Rg,Rh,Ri,Rj,Rk,Rl,Rm,Ya,Yb,Yc,Rn,Ro,Rp,Yd,Ye,Rq,Rs,Rt,Ru,Rv,Rw,Rx]
      refine htr.mono ?_
      rintro tr' s6 ⟨us6,O6,hm6,ho6⟩
      have hA6:=hA5.old ho6
      have htd:R4 s6 tr' us6 v5.trace:=⟨⟨O6,hm6.dest⟩,hm6.rows,fun e=>by
        obtain⟨x,x1,_⟩:=j5.fin hbk
        rw[e]at x1
        cases x1⟩
      have:=fin s6 tr' v5.trace ⟨hA6.rows,⟨us6,htd⟩,hA6.more,hA6.le⟩ (fun x hx=>PI (n:=6) (by decide) (j5.tr x hx).2.1) (UI j5.tr (by omega)) hT800
      simp only[OM,Qa,Qb,Qc,Qd,Qe,Qf,Qg,Qh,Qi,Qj,Qk,Ql,Qm,Qn,true_and,and_true,Qo,Qp,Qq,Qr,Qs,Qt,Qu,Qv,Qw,Qx,Qy,Qz,Ra,Rb,Rc,Rd,Re,Rf,Rg,Rh,Ri,Rj,Rk,Rl,Rm,Ya,Yb,Yc,Rn,Ro,Rp,Yd,Ye,Rq,Rs,Rt,Ru,Rv,Rw,Rx]
      exact this _ _ _ _ _ _ _ _ _ _ _ _ _ _ _ _ _ _ _ _
    · have d1 : decide ((1 : Int) = 0) = false := rfl
      have:=fin s5 tr T hA5 hTlits hPs (by omega)
      simp only[d1,OM,Qa,Qb,Qc,Qd,Qe,Qf,Qg,Qh,Qi,Qj,Qk,Ql,Qm,Qn,true_and,and_true,Qo,Qp,Qq,Qr,Qs,Qt,Qu,Qv,Qw,Qx,Qy,Qz,Ra,Rb,Rc,Rd,Re,Rf,Rg,Rh,Ri,Rj,Rk,Rl,Rm,Ya,Yb,Yc,Rn,Ro,Rp,Yd,Ye,Rq,Rs,Rt,Ru,Rv,Rw,Rx]
      exact this _ _ _ _ _ _ _ _ _ _ _ _ _ _ _ _ _ _ _ _
    · exact absurd (q (by decide)) (by decide)
  · rw[hm]at hev
    have:=fin s2 tr T hA2 hTlits hPs (by omega)
    simp only[YD,lss,hev,z1,OM,Qa,Qb,Qc,Qd,Qe,Qf,Qg,Qh,Qi,Qj,Qk,Ql,Qm,Qn,true_and,and_true,Qo,Qp,Qq,Qr,Qs,Qt,Qu,Qv,Qw,Qx,Qy,Qz,Ra,Rb,Rc,Rd,Re,Rf,Rg,Rh,Ri,Rj,Rk,Rl,Rm,Ya,Yb,Yc,Rn,Ro,Rp,Yd,Ye,Rq,Rs,Rt,Ru,Rv,Rw,Rx]
    exact this _ _ _ _ _ _ _ _ _ _ _ _ _ _ _ _ _ _ _ _
theorem more20_true{H:Type}{enc:TypeId×Value→H}{W:World}{base:Nat}{v0 v1 v2:Value}(h0:Value.okWide Try.prog W .any base 30 v0)(h1:Value.okWide Try.prog W .any base 30 v1)(h2:Value.okWide Try.prog W .any base 31 v2)
  {d0 d1 d2:DataW H} {p0 p1 p2:List MemPlace} (t0:DataW.Trod enc Try.prog W 0 (fun _=>true) true 30 v0 d0 p0) (t1:DataW.Trod enc Try.prog W 0 (fun _=>true) true 30 v1 d1 p1) (t2:DataW.Trod enc Try.prog W 0 (fun _=>true) true 31 v2 d2 p2):
  Calls Try.prog 16 #[v0,v1,v2] W fun e W'=>e=.returned (.bool true)∧Mw W W':=by
 obtain⟨ρ,s,a0,a2,ls,ss,hd,r0,r2,hargs⟩:=Ve h0 h2 t0 t2
 obtain⟨n1,t1⟩:=t1
 obtain⟨ρ3,s3,us3,ms,j1,j2,j3,j4,j5⟩:=Ls (q:=i8) Try.underlying30 Try.underlying76 Try.underlying77 lC lD (fun n h=>cU h) t1 (fun a ha=>Mb Try.underlying30 h1 a ha) hd
 obtain⟨a,cap,rfl,q1,q2,q3⟩:=No j5
 have hargs3:=hargs.old j3
 have hw:E0 s3.next s3 (.slice a ms.length cap) ms:=⟨a,cap,rfl,q1⟩
 have hargs4:IG s3.next s3 a0 a2 ls ss:=by
  refine⟨qg _,hargs3.hls,hargs3.hll,hargs3.hss,hargs3.hsl,?_,?_⟩
  ·obtain⟨a',c',e,hc⟩:=hargs3.r8
   refine⟨a',c',e,fun k L hk=>?_⟩
   obtain⟨i,o,u,g1,g2,g3,g4⟩:=hc k L hk
   exact⟨i,o,u,g1,qw g2 j3.1,g3,g4.mono j3.1⟩
  ·obtain⟨a',c',e,hc⟩:=hargs3.st
   refine⟨a',c',e,fun k d w L hk=>?_⟩
   obtain⟨i,o,u,g1,g2,g3,g4,g5,g6⟩:=hc k d w L hk
   exact⟨i,o,u,g1,qw g2 j3.1,g3,g4,g5,g6.mono j3.1⟩
 exact VS j1 (.cons (OB Try.underlying30 h0 (r0.mono j2)) (.cons (OB Try.underlying30 h1 j4) (.cons (OB Try.underlying31 h2 (r2.mono j2)) .nil))) (eX Vk TU hargs4 hw q2 q3)
end
end Go.Proofs.Ytilhhmkdcoajnaa.Am
