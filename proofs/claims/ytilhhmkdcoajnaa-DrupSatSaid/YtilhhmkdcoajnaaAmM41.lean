/- What the solver learns follows from its clauses by unit propagation; conditions: sizes fit. -/
import Derived.Test.YtilhhmkdcoajnaaAmM40
import Derived.Test.YtilhhmkdcoajnaaAmM36
set_option linter.unusedVariables false
set_option linter.unusedSimpArgs false
set_option maxRecDepth 16000
namespace Go.Proofs.Ytilhhmkdcoajnaa.Am
open Go Go.Proofs
noncomputable section
def Hx(cl:Nat→Option Bm)(P:Int→Prop):Prop:=∀c ls b,cl c=some (ls,b)→(∃y∈ls,¬ P (-y))∧∀x∈ls,(∀y∈ls,y≠x→P (-y))→P x
theorem CT.zeroP {n : Nat} {v : Sv} (h : CT n v) {P : Int → Prop} (hP : Hx      v.cl P) : ∀ (i : Nat) (x : Int), v.trail[i]? = some x → lv v x = 0 → P x := by
  intro i
  induction i using Nat.strongRecOn with
  | _ i ih =>
    intro x hx hl
    have hlev:=h.lev i x hx
    have hl0:lvl v.limits i=0:=by
      have:lv v x=(lvl v.limits i:Int):=hlev
      omega
    rcases h.why i x hx with⟨q1,q2⟩ | ⟨c,ls,b,q1,q2,q3,q4⟩
    · obtain⟨k,hk⟩:=CR.1 q2
      have:=La h.sorted hk (pM _)
      omega
    · obtain⟨_,hne,_,_⟩:=h.cls c ls b q2
      have hmem:x∈ls:=by
        rw[← q3]
        exact oG (AS (List.length_pos_iff.2 hne))
      refine(hP c ls b q2).2 x hmem fun y hy e=>?_
      obtain⟨j,hj,ej⟩:=Bp.1 (q4 y hy e)
      have hjl:lv v (-y)=0:=by
        have h1:lv v (-y)=(lvl v.limits j:Int):=h.lev j _ ej
        have h2:=PP (L:=v.limits) (Nat.le_of_lt hj)
        omega
      exact ih j hj (-y) ej hjl
theorem Uo        {n : Nat} {v : Sv} (h : CT n v) {t : Int} (ht : v.limits[v.limits.length - 1]? = some t) {P : Int → Prop} (hP : Hx      v.cl P) : ∀ (at_ : Nat) (c : Nat) (l : Int) (a : Lst) (ls : List Int) (b : Bool × Bool), at_ ≤ v.trail.length → LI v t.toNat a at_ → v.cl c = some (ls, b) → (∀ y ∈ rest l ls, ∃ j, j < at_ ∧ v.trail[j]? = some (-y)) → 1 ≤ ((rest l ls).foldl (BL     v) a).opn →
    ((∃y∈rest l ls,¬ P (-y))∨(∃q∈a.lits,¬ P (-q))∨∃ (j:Nat) (x:Int),j<at_∧t.toNat≤j∧v.trail[j]? = some x∧x.natAbs∈a.seen∧¬ P x) →
    ∃r,B5 v c a at_ l r∧(¬ P (-r.hd)∨∃q∈r.lits,¬ P (-q)):=by
  intro at_
  induction at_ using Nat.strongRecOn with
  | _ at_ ih =>
  intro c l a ls b hat hL hc hr ho hpre
  obtain⟨f1,f2,f3,f4⟩:=hL.fold h ht (rest l ls) hr
  generalize ha:(rest l ls).foldl (BL v) a=a' at *
  have hQ : (∃ q ∈ a'.lits, ¬ P (-q)) ∨ ∃ (j : Nat) (x : Int), j < at_ ∧ t.toNat ≤ j ∧ v.trail[j]? = some x ∧ x.natAbs ∈ a'.seen ∧ ¬ P x := by
    rcases hpre with⟨y,hy,hs⟩ | ⟨q,hq,hsq⟩ | ⟨j,x,j1,j2,j3,j4,j5⟩
    · obtain ⟨j, j1, j2⟩ := hr y hy
      obtain⟨hlast,hle,hge⟩:=h.last ht j2
      rw[CQ]at hlast hle hge
      rcases f3 y hy with z | z
      · exact(hs (h.zeroP hP j (-y) j2 (by rw[CQ];exact z))).elim
      · by_cases hd : lv v y = (v.limits.length : Int)
        · exact .inr ⟨j,-y,j1,hlast.1 hd,j2,by rw[oY];exact z,hs⟩
        · have:=f1.litsC (-y) (oG j2) (by rw[oY];exact z) (by rw[CQ];omega)
          rw[oX]at this
          exact .inl ⟨y,this,hs⟩
    · obtain⟨g1,g2,g3,g4⟩:=hL.lits q hq
      have:=f1.litsC (-q) g1 (by rw[oY];exact f2 _ g2) (by rw[CQ];exact g4)
      rw[oX]at this
      exact .inl ⟨q,this,hsq⟩
    · exact .inr ⟨j,x,j1,j2,j3,f2 _ j4,j5⟩
  have hcn:1≤cnt v.trail a'.seen t.toNat at_:=by have:=f1.opn;omega
  obtain⟨i,k1,k2,k3,k4,k5,k6⟩:=Lo hat hcn
  have hil:i<v.trail.length:=by omega
  have hg:=AS (d:=(0:Int)) hil
  generalize hu:v.trail.getD i 0=u at *
  have hlu:lv v u=(v.limits.length:Int):=(h.last ht hg).1.2 k2
  have hQ':(∃q∈a'.lits,¬ P (-q))∨(∃ (j:Nat) (x:Int),j<i∧t.toNat≤j∧v.trail[j]? = some x∧x.natAbs∈a'.seen∧¬ P x)∨¬ P u:=by
    rcases hQ with q | ⟨j,x,j1,j2,j3,j4,j5⟩
    · exact .inl q
    · rcases pY                j i with z | z | z
      · exact .inr (.inl ⟨j,x,z,j2,j3,j4,j5⟩)
      · subst z
        rw[hg]at j3
        injection j3 with j3
        rw[j3]
        exact .inr (.inr j5)
      · exact absurd j4 (by have:=k6 j z j1;rw[En j3]at this;exact this)
  by_cases h1:a'.opn=1
  · have hci:cnt v.trail a'.seen t.toNat i=0:=by have:=f1.opn;omega
    refine⟨{ a' with opn:=0,hd:=-u },?_,?_⟩
    · have:=B5.last (v:=v) (at_:=at_) hc ha k1 h1
      rw[hu]at this
      exact this
    · rcases hQ' with q | ⟨j, x, j1, j2, j3, j4, j5⟩ | q
      · exact .inr q
      · exact absurd j4 (Ky hci j1 j2 j3)
      · left
        show ¬ P (- -u)
        rw[oX]
        exact q
  · have hci : 1 ≤ cnt v.trail a'.seen t.toNat i := by have := f1.opn; omega
    have hmi:t.toNat<i:=by
      rcases oI t.toNat i with z | z
      · exact z
      · rw[Mc _ _ z]at hci;omega
    have hil':(i:Int) ∉ v.limits:=fun q=>by
      obtain⟨p,hp⟩:=CR.1 q
      have hpl:=Ab hp
      have ht0:=h.lim t (oG ht)
      by_cases e:p=v.limits.length - 1
      · rw[e,ht]at hp
        injection hp with hp
        omega
      · have:=(CF h.sorted ht).1 (i:Int) (Bp.2 ⟨p,by omega,hp⟩)
        omega
    rcases h.why i u hg with⟨_,q⟩ | ⟨c',ls',b',w1,w2,w3,w4⟩
    · exact absurd q hil'
    · have hL2 : LI v t.toNat { a' with opn := a'.opn - 1 } i := ⟨f1.seenA, f1.nd, f1.lits, f1.litsC, f1.litsnd, by show a'.opn - 1 = (cnt v.trail a'.seen t.toNat i : Int); have := f1.opn; omega, f1.lev⟩
      have hr2:∀y∈rest u ls',∃j,j<i∧v.trail[j]? = some (-y):=fun y hy=>by
        obtain⟨y1,y2⟩:=DI.1 hy
        exact Bp.1 (w4 y y1 y2)
      obtain⟨g1,g2,g3,g4⟩:=hL2.fold h ht (rest u ls') hr2
      have hop2:1≤((rest u ls').foldl (BL v) { a' with opn:=a'.opn - 1 }).opn:=by
        have e1:=g1.opn
        have e2:=Oz (tr:=v.trail) (seen:=a'.seen) (seen':=((rest u ls').foldl (BL v) { a' with opn:=a'.opn - 1 }).seen) g2 t.toNat i
        omega
      obtain⟨_,hne,_,_⟩:=h.cls c' ls' b' w2
      have humem:u∈ls':=by
        rw[← w3]
        exact oG (AS (List.length_pos_iff.2 hne))
      obtain⟨r,r1,r2⟩:=ih i k3 c' u { a' with opn:=a'.opn - 1 } ls' b' (by omega) hL2 w2 hr2 hop2 (by
        rcases hQ' with q | q | q
        · exact .inr (.inl q)
        · exact .inr (.inr q)
        · left
          apply Classical.byContradiction
          intro hno
          refine q ((hP c' ls' b' w2).2 u humem fun y hy hyu=>?_)
          apply Classical.byContradiction
          intro hyP
          exact hno ⟨y,DI.2 ⟨hy,hyu⟩,hyP⟩)
      refine⟨r,?_,r2⟩
      have hw:v.why.getD (v.trail.getD i 0).natAbs none=some c':=by rw[hu];exact w1
      have:=B5.more (v:=v) (at_:=at_) (r:=r) hc ha k1 (by omega) hw
      rw[hu]at this
      exact this r1
theorem Nx{n:Nat}{v:Sv}(h:CT n v)(hlim:v.limits≠[]){c:Nat}{l:Int}(hf:Fc v c l)(hl:lv v l=(v.limits.length:Int)){P:Int→Prop}(hP:Hx v.cl P){r:Lst}(hr:B5 v c GK v.trail.length 0 r):¬ P (-r.hd)∨∃q∈r.lits,¬ P (-q):=by
  obtain⟨ls,b,hc,h2,hfalse,hmem⟩:=hf
  have hpos:0<v.limits.length:=List.length_pos_iff.2 hlim
  have ht:=AS (d:=(0:Int)) (show v.limits.length - 1<v.limits.length by omega)
  generalize v.limits.getD (v.limits.length - 1) 0=t at ht
  have hrr:∀y∈rest 0 ls,∃j,j<v.trail.length∧v.trail[j]? = some (-y):=fun y hy=>by
    obtain⟨j,hj⟩:=CR.1 (hfalse y (DI.1 hy).1)
    exact⟨j,Ab hj,hj⟩
  have hL0:LI v t.toNat GK v.trail.length:=LI.start
  obtain⟨f1,f2,f3,f4⟩:=hL0.fold h ht (rest 0 ls) hrr
  have hls:=(h.cls c ls b hc).1.1
  have hl0:l≠0:=(hls l hmem).1
  obtain⟨r',r1,r2⟩:=Uo h ht hP v.trail.length c 0 GK ls b (oD _) hL0 hc hrr (by
    have hlr:l∈rest 0 ls:=DI.2 ⟨hmem,hl0⟩
    obtain⟨j,j1,j2⟩:=hrr l hlr
    have hm:=(h.last ht j2).1.1 (by rw[CQ];exact hl)
    rcases f3 l hlr with z | z
    · omega
    · have:=Tk j1 hm j2 (by rw[oY];exact z)
      rw[f1.opn]
      omega) (.inl (by
    obtain⟨y,hy,hyP⟩:=(hP c ls b hc).1
    exact⟨y,DI.2 ⟨hy,(hls y hy).1⟩,hyP⟩))
  rw[hr.det r1]
  exact r2
structure JR(n:Nat)(F:List (List Int))(v:Sv):Prop where
  tr:UI n v.trace
  sets:∀c ls b,v.cl c=some (ls,b)→∃M∈F++v.trace.map Prod.snd,∀x,x∈ls↔x∈M
  rup:∀k L,v.trace[k]? = some (false,L)→Iw (F++(v.trace.take k).map Prod.snd) L
  fin:v.broken=true→∃x∈v.trace,x.2=[]
  nof:v.broken=false→∀x∈v.trace,x.2≠[]
theorem JD{cl:Nat→Option Bm}{cs:List (List Int)}{c:List Int}(hs:∀d ls b,cl d=some (ls,b)→∃M∈cs,∀x,x∈ls↔x∈M)(hno:¬ Iw cs c):Hx cl (UP cs c):=fun d ls b hd=>by
  obtain⟨M,h1,h2⟩:=hs d ls b hd
  refine⟨?_,fun x hx hy=>.unit h1 ((h2 x).1 hx) fun y hy' hne=>hy y ((h2 y).2 hy') hne⟩
  apply Classical.byContradiction
  intro hn
  refine hno (.inr ⟨M,h1,fun y hy=>?_⟩)
  apply Classical.byContradiction
  intro hyn
  exact hn ⟨y,(h2 y).2 hy,hyn⟩
theorem JR.same{n:Nat}{F:List (List Int)}{v v':Sv}(h:JR n F v)(hc:CB v.cl v'.cl)(ht:v'.trace=v.trace)(hb:v'.broken=v.broken):JR n F v':=by
  refine⟨by rw[ht];exact h.tr,fun c ls b q=>?_,by rw[ht];exact h.rup,by rw[ht,hb];exact h.fin,by rw[ht,hb];exact h.nof⟩
  obtain⟨ls',q1,q2⟩:=hc.back q
  obtain⟨M,m1,m2⟩:=h.sets c ls' b q1
  rw[ht]
  exact⟨M,m1,fun x=>(q2.mem_iff).trans (m2 x)⟩
theorem aI{F:List (List Int)}{T:As}{L:List Int}(h:∀k M,T[k]? = some (false,M)→Iw (F++(T.take k).map Prod.snd) M)(hL:Iw (F++T.map Prod.snd) L):
    ∀k M,(T++[(false,L)])[k]? = some (false,M)→Iw (F++((T++[(false,L)]).take k).map Prod.snd) M:=fun k M hk=>by
  rcases oI k T.length with q | q
  · rw [oR                        q] at hk
    rw[pA (by omega)]
    exact h k M hk
  · rw[oT q]at hk
    have hk0:k - T.length=0:=by
      have:=Ab hk
      simp at this
      omega
    rw[hk0]at hk
    simp only[List.getElem?_cons_zero]at hk
    injection hk with hk
    injection hk with _ hk
    rw[← hk,show k=T.length by omega,pA (oD _),pG]
    exact hL
theorem JR.line{n:Nat}{F:List (List Int)}{v:Sv}(h:JR n F v){L:List Int}(h1:∀y∈L,VL n y)(h2:L.length≤n)(hL:Iw (F++v.trace.map Prod.snd) L):
    UI n (v.trace++[(false,L)])∧(∀c ls b,v.cl c=some (ls,b)→∃M∈F++(v.trace++[(false,L)]).map Prod.snd,∀x,x∈ls↔x∈M)∧∀k M,(v.trace++[(false,L)])[k]? = some (false,M)→Iw (F++((v.trace++[(false,L)]).take k).map Prod.snd) M:=by
  refine⟨h.tr.snoc h1 h2,fun c ls b q=>?_,aI h.rup hL⟩
  obtain⟨M,m1,m2⟩:=h.sets c ls b q
  refine⟨M,?_,m2⟩
  rcases pg.1 m1 with z | z
  · exact oP _ z
  · rw[pB]
    exact ol _ (oP _ z)
theorem JR.failed{n:Nat}{F:List (List Int)}{v:Sv}(h:JR n F v)(hL:v.broken=false→Iw (F++v.trace.map Prod.snd) []):JR n F (EH v):=by
  cases hb:v.broken with
  | true =>
    have hf:EH v=v:=by unfold EH;rw[if_pos hb]
    rw[hf];exact h
  | false =>
    rw[IL hb]
    obtain⟨a,b,c⟩:=h.line (L:=[]) (fun y hy=>by cases hy) (oK _) (hL hb)
    exact⟨a,b,c,fun _=>⟨(false,[]),by simp,rfl⟩,fun q=>by cases q⟩
theorem aT       (n : Nat) (F : List (List Int)) : TM    n F (JR n F) := by
  refine⟨fun h=>h.same,fun {v hh d l} h hct hci hlim hf hl=>?_,fun {v hh d l r cn} h hct hci hlim hf hl hr hL hcn=>?_⟩
  · refine h.failed fun _=>?_
    apply Classical.byContradiction
    intro hno
    have hP:=JD h.sets hno
    obtain⟨ls,b,hc,h2,hfalse,hmem⟩:=hf
    obtain⟨y,hy,hyP⟩:=(hP d ls b hc).1
    obtain⟨j,hj⟩:=CR.1 (hfalse y hy)
    refine hyP (hct.zeroP hP j (-y) hj ?_)
    have:=hct.lev j _ hj
    unfold lv
    rw[this,hlim];rfl
  · have hlist := hL.list hct
    have hup:Iw (F++v.trace.map Prod.snd) (Ak v r):=by
      apply Classical.byContradiction
      intro hno
      have hP:=JD h.sets hno
      rcases Nx hct hlim hf hl hP hr with q | ⟨q,q1,q2⟩
      · exact q (.ass ((hlist.mem _).2 (.inl rfl)))
      · exact q2 (.ass ((hlist.mem _).2 (.inr q1)))
    obtain⟨a,b,c⟩:=h.line (L:=Ak v r) hlist.ok.1 (bz hlist.ok hlist.nd) hup
    refine⟨a,fun e ls t q=>?_,c,fun q=>?_,fun q x hx=>?_⟩
    · have q:Ag v.cl cn (Ak v r,true,false) e=some (ls,t):=q
      rcases Bt q with⟨_,q2,_⟩ | ⟨_,q2⟩
      · refine⟨Ak v r,?_,fun x=>by rw[q2]⟩
        show _∈F++(v.trace++[_]).map Prod.snd
        rw[pB]
        exact ol _ (ol _ (List.mem_singleton.2 rfl))
      · exact b e ls t q2
    · obtain⟨x,x1,x2⟩:=h.fin q
      exact⟨x,oP _ x1,x2⟩
    · rcases pg.1              hx with z | z
      · exact h.nof q x z
      · rw[List.mem_singleton.1 z];exact hlist.ne
theorem JR.more{n:Nat}{F:List (List Int)}{v:Sv}(h:JR n F v)(f:List Int):JR n (F++[f]) v:=by
  have sub:∀T:List (List Int),Ex (F++T) (F++[f]++T):=fun T=>Ex.app (fun L hL=>⟨L,oP _ hL,fun _=>Iff.rfl⟩) (Ex.refl T)
  refine⟨h.tr,fun c ls b q=>?_,fun k L hk=>(h.rup k L hk).mono (sub _) (fun _ q=>q),h.fin,h.nof⟩
  obtain⟨M,m1,m2⟩:=h.sets c ls b q
  refine⟨M,?_,m2⟩
  rcases pg.1 m1 with z | z
  · exact oP _ (oP _ z)
  · exact ol _ z
theorem L8.jr   {n A M h : Nat} {F : List (List Int)} {v v' : Sv} {f : List Int} (hr : L8   v f v') (hI : SI n A F M v) (hf : ∀ q ∈ f, VL n q) (h : JR n F v) : JR n (F ++ [f]) v' := by
  obtain⟨ho1,ho2⟩:=Mx f
  cases hr with
  | none _=>exact h.more f
  | nil ht hb he =>
    have hfe:f=[]:=by
      cases f with
      | nil=>rfl
      | cons x l=>have:=(ho2 x).2 (oH ..);rw[he]at this;cases this
    subst hfe
    refine(h.more []).failed fun _=>.inr ⟨[],oP _ (ol _ (List.mem_singleton.2 rfl)),fun y hy=>by cases hy⟩
  | @put c ht hb he hc =>
    have hp:(B8 v f).Perm (EW f):=Ls _ _
    have hm:∀z,z∈B8 v f↔z∈f:=fun z=>by rw[hp.mem_iff];exact ho2 z
    have hdesc:(B8 v f).Pairwise fun a b=>isV v.value b≤isV v.value a:=Lr (isV v.value) (EW f)
    generalize hO:B8 v f=O at *
    have hput:JR n (F++[f]) (Fo v c O):=by
      have h0:=h.more f
      obtain⟨ws,e,_⟩:=If v c O
      rw[e]
      refine⟨h0.tr,fun d ls b q=>?_,h0.rup,h0.fin,h0.nof⟩
      have q:Ag v.cl c (O,false,false) d=some (ls,b):=q
      rcases Bt q with⟨_,q2,_⟩ | ⟨_,q2⟩
      · exact⟨f,oP _ (ol _ (List.mem_singleton.2 rfl)),fun x=>by rw[q2];exact hm x⟩
      · exact h0.sets d ls b q2
    have htr:(Fo v c O).trace=v.trace:=dI _ _ _
    unfold NJ
    split
    · rename_i hneg
      refine hput.failed fun _=>?_
      rcases hI with⟨C,g1,g2,g3⟩ | g
      · have k := g1.ci
        have hi:=k.ct.inv
        have hl0:∀ {x:Int},x∈v.trail→lv v x=0:=fun {x} hx=>by
          obtain⟨i,e⟩:=CR.1 hx
          have:=k.ct.lev i x e
          unfold lv
          rw[this,g2];rfl
        apply Classical.byContradiction
        intro hno
        have hP:=JD hput.sets hno
        have hP0:Hx v.cl (UP (F++[f]++(Fo v c O).trace.map Prod.snd) []):=fun d ls b hd=>hP d ls b (by
          obtain⟨ws,e,_⟩:=If v c O
          rw[e]
          show Ag v.cl c _ d=_
          unfold Ag
          rw[if_neg fun e=>by rw[e,hc]at hd;cases hd]
          exact hd)
        obtain⟨y,hy,hyP⟩:=(hP c O (false,false) (by
          obtain⟨ws,e,_⟩:=If v c O
          rw[e]
          exact BF _ _ _)).1
        have hfirst:isV v.value y≤isV v.value (O.getD 0 0):=by
          cases hOc:O with
          | nil=>rw[hOc]at hy;cases hy
          | cons x l =>
            rw[hOc]at hdesc hy
            rcases ov.1 hy with e | e
            · rw[e];exact pM _
            · exact(List.pairwise_cons.1 hdesc).1 y e
        have hy0:=(hf y ((hm y).1 hy)).1
        have hny:-y∈v.trail:=(hi.neg hy0).1 (by omega)
        obtain⟨i,e⟩:=CR.1 hny
        exact hyP (k.ct.zeroP hP0 i (-y) e (hl0 hny))
      · rw[g.brk]at hb;cases hb
    · split
      · exact hput.same (CB.refl _) rfl rfl
      · exact hput
theorem Um:∀ (T:As),(∀x∈T,x.1=false)→∀acc:List (List Int),T.foldl Il acc=acc++T.map Prod.snd:=by
  intro T
  induction T with
  | nil=>intro _ acc;simp
  | cons x T ih =>
    intro h acc
    rw[pE,ih fun y hy=>h y (oJ _ hy)]
    have hx:=h x oH
    unfold Il
    rw[hx]
    simp
theorem LU{T:As}(h:∀x∈T,x.1=false):Bx T=T.map Prod.snd:=by
  unfold Bx
  rw[Um T h []]
  rfl
theorem lf{n:Nat}(hn:n≤1000000){x:Int}(h:VL n x):Lit x:=by
  obtain⟨h0,h1⟩:=h
  exact⟨h0,by omega,by omega⟩
theorem HH{n:Nat}(hn:n≤1000000){L:List Int}(h:∀y∈L,VL n y):Dh L:=fun y hy=>lf hn (h y hy)
theorem UO{f:List (List Int)→List Int→Bool}{cs:List (List Int)}{T:As}(hadd:∀x∈T,x.1=false)(hf:∀k L,T[k]? = some (false,L)→f (cs++Bx (T.take k)) L=true):∀ (t:As)(k:Nat),T.drop k=t→k≤T.length →
    ((C4 f cs T t k).2=true↔∃x∈t,(Ae [] x.2).length=0)∧((C4 f cs T t k).2=false→(C4 f cs T t k).1=T.length):=by
  intro t
  induction t with
  | nil =>
    intro k hd hk
    have:=Ck hd hk
    simp only[C4]
    exact⟨⟨fun h=>(by cases h),fun⟨x,hx,_⟩=>by cases hx⟩,fun _=>by omega⟩
  | cons x t ih =>
    intro k hd hk
    obtain⟨d,L⟩:=x
    obtain⟨hlt,hx,hd'⟩:=Bk hd
    have hdf:d=false:=hadd _ (oG hx)
    subst hdf
    obtain⟨i1,i2⟩:=ih (k+1) hd' hlt
    simp only[C4,hf k L hx]
    by_cases hc:(Ae [] L).length=0
    · simp only[if_pos hc]
      exact⟨⟨fun _=>⟨(false,L),oH,hc⟩,fun _=>trivial⟩,fun h=>by cases h⟩
    · simp only[if_neg hc]
      refine⟨i1.trans ⟨fun⟨y,hy,h0⟩=>⟨y,oJ _ hy,h0⟩,fun⟨y,hy,h0⟩=>?_⟩,i2⟩
      rcases ov.1 hy with e | e
      · rw[e]at h0;exact absurd h0 hc
      · exact⟨y,e,h0⟩
theorem Tx{n:Nat}{F:List (List Int)}{v:Sv}(h:JR n F v)(hn:n≤1000000)(hF:∀f∈F,∀y∈f,VL n y)(k:Nat):∀L∈F++Bx (v.trace.take k),Dh L:=fun L hL=>by
  have hadd:∀x∈v.trace.take k,x.1=false:=fun x hx=>(h.tr x (oW hx)).1
  rw[LU hadd]at hL
  rcases pg.1 hL with q | q
  · exact HH hn (hF L q)
  · obtain⟨x,hx,rfl⟩:=List.mem_map.1 q
    exact HH hn (h.tr x (oW hx)).2.1
theorem lO{n:Nat}{F:List (List Int)}{v:Sv}(h:JR n F v)(hn:n≤1000000)(hF:∀f∈F,∀y∈f,VL n y):∀k L,v.trace[k]? = some (false,L)→fol (F++Bx (v.trace.take k)) L=true:=fun k L hk=>by
  have hadd:∀x∈v.trace.take k,x.1=false:=fun x hx=>(h.tr x (oW hx)).1
  rw[lM (Tx h hn hF k) (HH hn (h.tr _ (oG hk)).2.1)]
  rw[LU hadd]
  exact h.rup k L hk
theorem Zb       {n : Nat} {F : List (List Int)} {v : Sv} (h : JR n F v) (hn : n ≤ 1000000) (hF : ∀ f ∈ F, ∀ y ∈ f, VL n y) : ((F0     fol F v.trace).2 = v.broken) ∧ (v.broken = false → (F0     fol F v.trace).1 = v.trace.length) := by
  obtain⟨c1,c2⟩:=UO (f:=fol) (cs:=F) (fun x hx=>(h.tr x hx).1) (lO h hn hF) v.trace 0 rfl (oK _)
  have hcl:∀x∈v.trace,(Ae [] x.2).length=0↔x.2=[]:=fun x hx=>by
    have hl:=HH hn (h.tr x hx).2.1
    constructor
    · intro h0
      cases hx2:x.2 with
      | nil=>rfl
      | cons y l =>
        have:y∈Ae [] x.2:=(D1 hl y).2 (by rw[hx2];exact oH)
        rw[List.length_eq_zero_iff.1 h0]at this
        cases this
    · intro e;rw[e];rfl
  have e:(F0 fol F v.trace).2=v.broken:=by
    unfold F0
    cases hb:v.broken with
    | true =>
      obtain⟨x,x1,x2⟩:=h.fin hb
      exact c1.2 ⟨x,x1,(hcl x x1).2 x2⟩
    | false =>
      cases hr:(C4 fol F v.trace v.trace 0).2 with
      | false=>rfl
      | true =>
        obtain⟨x,x1,x2⟩:=c1.1 hr
        exact absurd ((hcl x x1).1 x2) (h.nof hb x x1)
  exact⟨e,fun hb=>c2 (e.trans hb)⟩
theorem cv{b:Nat}{x:Int}(hx:VL 6 x):Mq b x=Zj b x:=by
  obtain⟨h0,h1⟩:=hx
  have hbit:∀n,Vs b n=b.testBit n:=fun n=>by rw[Py];rfl
  unfold Mq Zj
  by_cases hp:0<x
  · rw[if_pos hp,if_pos hp,hbit]
  · rw[if_neg hp,if_neg hp,if_pos (by omega),hbit]
theorem MS{α:Type}{f g:α→Bool}:∀ {l:List α},(∀x∈l,f x=g x)→l.any f=l.any g
  | [],_=>rfl
  | x::l,h=>by
    rw[List.any_cons,List.any_cons,h x oH,MS fun y hy=>h y (oJ _ hy)]
theorem MR{α:Type}{f g:α→Bool}:∀ {l:List α},(∀x∈l,f x=g x)→l.all f=l.all g
  | [],_=>rfl
  | x::l,h=>by
    rw[List.all_cons,List.all_cons,h x oH,MR fun y hy=>h y (oJ _ hy)]
theorem Uw{cs:List (List Int)}(h:∀L∈cs,∀x∈L,VL 6 x):F4 cs=K1 cs (2 ^ 6):=by
  unfold F4 K1
  have e:∀b,cs.all (CP b)=cs.all (LL b):=fun b=>MR fun L hL=>MS fun x hx=>cv (h L hL x hx)
  simp only[e]
theorem dM{L:List Int}(h:UG L):(∀x∈L,VL 6 x)∧L.length≤12:=⟨fun x hx=>by have:=h.1 x hx;exact⟨this.2.2,by omega⟩,by have:=h.2;omega⟩
theorem S8{T:As}(h:UI 6 T)(hl:T.length≤900):Ha T:=⟨hl,fun x hx=>by
  obtain⟨_,h1,h2⟩:=h x hx
  refine⟨(HH (n:=6) (by decide) h1).i64,fun y hy=>?_,by omega⟩
  obtain⟨g0,g1⟩:=h1 y hy
  unfold Dd
  exact decide_eq_false (by omega)⟩
theorem UY{E:Env}(hE:An E){B:Nat→Prop}{s0:ASt}{V:Nat→Option Sv}{p:Nat}{cs:List (List Int)}(hcs:∀L∈cs,(∀x∈L,VL 6 x)∧L.length≤12)(hlen:cs.length≤1000){u:AV}(hr:Fv B s0 u cs)(v0 v1 x5 x6 x7 x8 x9 x10 x13:AV){Q:A6→Prop}
    (hq:∀s' v y4 y11 y12,Hc B s' (J2 V p v)→GO B s0 s'→SI 6 cs.length cs 0 v→JR 6 cs v→Q ⟨.exit 0,[v0,v1,u,AR p,y4,x5,x6,x7,x8,x9,x10,y11,y12,x13],[],s'⟩):
    ∀ (l:List (List Int)) (k:Nat) (s:ASt) (v:Sv) (x11 x12:AV),cs.drop k=l→k≤cs.length→Hc B s (J2 V p v)→GO B s0 s→SI 6 k (cs.take k) 0 v→JR 6 (cs.take k) v →
      WC E none (.loop Ke) Q [v0,v1,u,AR p,iv (k:Int),x5,x6,x7,x8,x9,x10,x11,x12,x13] [] s:=by
  intro l
  induction l with
  | nil =>
    intro k s v x11 x12 hd hk hS hK hI hm
    have:=Ck hd hk
    subst this
    rw[pG]at hI hm
    have hr':=hr.keep hK
    refine WC.loop' ?_
    simp only[Ke,W3,hr'.len,om,decide_false,Qa,Qb,Qc,Qd,Qe,Qf,Qg,Qh,Qi,Qj,Qk,Ql,Qm,Qn,true_and,and_true,Qo,Qp,Qq,Qr,Qs,Qt,Qu,Qv,Qw,Qx,Qy,Qz,Ra,Rb,Rc,Rd,Re,Rf,Rg,Rh,Ri,Rj,Rk,Rl,Rm,Ya,Yb,Yc,Rn,Ro,Rp,Yd,Ye,Rq,Rs,Rt,Ru,Rv,Rw,Rx]
    exact hq _ v _ _ _ hS hK hI hm
  | cons L l ih =>
    intro k s v x11 x12 hd hk hS hK hI hm
    obtain⟨hlt,hx,hd'⟩:=Bk hd
    have hr':=hr.keep hK
    obtain⟨a,w,e1,e2,hu,hB⟩:=hr'.row hx
    have hkk:decide ((k:Int)<(cs.length:Int))=true:=decide_eq_true (by omega)
    have e3:=Aq Try.prog 3 (k:Int) 1 ⟨by omega,by omega⟩
    have hcast:((k:Int)+1)=((k+1:Nat):Int):=by omega
    obtain⟨h6,h7⟩:=hcs L (oG hx)
    have hadd:=VN hE hS (Fq V p v) (J:=JR 6 (cs.take k++[L])) hI (hbd:=⟨by decide,by omega,.inl (by decide)⟩) h6 h7 (fun v' hr=>hr.jr (h:=0) hI h6 hm) (oD _) hu hB
    simp only[AR]at hadd
    refine WC.loop' ?_
    generalize hW:WC E none (AX.loop Ke) Q=W at ih ⊢
    simp only[Ke,W3,di,AR,hr'.len,hkk,e1,e2,Qa,Qb,Qc,Qd,Qe,Qf,Qg,Qh,Qi,Qj,Qk,Ql,Qm,Qn,true_and,and_true,Qo,Qp,Qq,Qr,Qs,Qt,Qu,Qv,Qw,Qx,Qy,Qz,Ra,Rb,Rc,Rd,Re,Rf,Rg,Rh,Ri,Rj,Rk,Rl,Rm,Ya,Yb,Yc,Rn,Ro,Rp,Yd,Ye,Rq,Rs,Rt,Ru,Rv,Rw,Rx]
    refine hadd.mono ?_
    rintro _ s' ⟨rfl,v',g1,g2,g3,g4⟩
    rw[aK]at g3
    have hd0:decide ((0:Int)≠0)=false:=by decide
    simp only[hd0,W1,e3,hcast,Qa,Qb,Qc,Qd,Qe,Qf,Qg,Qh,Qi,Qj,Qk,Ql,Qm,Qn,true_and,and_true,Qo,Qp,Qq,Qr,Qs,Qt,Qu,Qv,Qw,Qx,Qy,Qz,Ra,Rb,Rc,Rd,Re,Rf,Rg,Rh,Ri,Rj,Rk,Rl,Rm,Ya,Yb,Yc,Rn,Ro,Rp,Yd,Ye,Rq,Rs,Rt,Ru,Rv,Rw,Rx]
    refine ih (k+1) s' v' _ _ hd' hlt g3 (hK.trans g4) ?_ ?_
    all_goals rw[VX hx]
    · exact g1
    · exact g2
theorem Zc{n:Nat}{v:Sv}(h1:v.trace=[])(h2:v.cl=fun _=>none)(h3:v.broken=false):JR n [] v:=
  ⟨(by rw[h1];intro x hx;cases hx),fun c ls b q=>(by rw[h2]at q;cases q),fun k L hk=>(by rw[h1]at hk;simp at hk),fun q=>(by rw[h3]at q;cases q),fun _ x hx=>(by rw[h1]at hx;cases hx)⟩
theorem TR(x y:Bool):AI Try.prog .neq 4 (.bool x) (.bool y)=some (.bool (x != y)):=by cases x<;>cases y<;>rfl
theorem cU      {E : Env} (hE : An   E) (hW : ∀ s, E.nat 21 [] s = some (.bool true, s)) {b : Nat} {s : ASt} (hb : b ≤ s.next) {v0 : AV} {ls : List (List Int)} (hls : ∀ L ∈ ls, I8s L ∧ L.length < 9223372036854775808) (hll : ls.length < 9223372036854775808) (hv : TK      b s v0 ls) :
    WF E 15 [v0] (fun r _=>r=.bool true) s:=by
  have hc6:∀L∈CN ls,UG L:=OF
  have hcv:∀L∈CN ls,(∀x∈L,VL 6 x)∧L.length≤12:=fun L hL=>dM (hc6 L hL)
  have hF:∀f∈CN ls,∀y∈f,VL 6 y:=fun f hf=>(hcv f hf).1
  have hcf:=ME ls
  have e729:iv ((729:Nat):Int)=iv 729:=rfl
  have e6:iv ((6:Nat):Int)=iv 6:=rfl
  refine hE.go kG (by decide) rfl ?_
  simp only[c15,db,dc,Qa,Qb,Qc,Qd,Qe,Qf,Qg,Qh,Qi,Qj,Qk,Ql,Qm,Qn,true_and,and_true,Qo,Qp,Qq,Qr,Qs,Qt,Qu,Qv,Qw,Qx,Qy,Qz,Ra,Rb,Rc,Rd,Re,Rf,Rg,Rh,Ri,Rj,Rk,Rl,Rm,Ya,Yb,Yc,Rn,Ro,Rp,Yd,Ye,Rq,Rs,Rt,Ru,Rv,Rw,Rx]
  refine WF.nat (hW s) ?_
  simp only[Bool.not_true,de,Qa,Qb,Qc,Qd,Qe,Qf,Qg,Qh,Qi,Qj,Qk,Ql,Qm,Qn,true_and,and_true,Qo,Qp,Qq,Qr,Qs,Qt,Qu,Qv,Qw,Qx,Qy,Qz,Ra,Rb,Rc,Rd,Re,Rf,Rg,Rh,Ri,Rj,Rk,Rl,Rm,Ya,Yb,Yc,Rn,Ro,Rp,Yd,Ye,Rq,Rs,Rt,Ru,Rv,Rw,Rx]
  refine(R8 hE hb hls hll hv).mono ?_
  rintro cl s1 ⟨us,O,hmd,ho1⟩
  have hR:=hmd.rowsIn
  generalize CN ls=cs at *
  have hcl:cs.length≤1000:=by have:=hcf.2;omega
  have hnew:=VO hE (VP s1) (n:=6) (by decide)
  rw[e6]at hnew
  simp only[df,Qa,Qb,Qc,Qd,Qe,Qf,Qg,Qh,Qi,Qj,Qk,Ql,Qm,Qn,true_and,and_true,Qo,Qp,Qq,Qr,Qs,Qt,Qu,Qv,Qw,Qx,Qy,Qz,Ra,Rb,Rc,Rd,Re,Rf,Rg,Rh,Ri,Rj,Rk,Rl,Rm,Ya,Yb,Yc,Rn,Ro,Rp,Yd,Ye,Rq,Rs,Rt,Ru,Rv,Rw,Rx]
  refine hnew.mono ?_
  rintro _ s2 ⟨v,rfl,hV,g1,g2,g3,g4a,g4b,g4c⟩
  generalize s1.next=p at *
  have he:=Fj p
  simp only[AR]at he
  simp only[dg,AR,he,dh,Qa,Qb,Qc,Qd,Qe,Qf,Qg,Qh,Qi,Qj,Qk,Ql,Qm,Qn,true_and,and_true,Qo,Qp,Qq,Qr,Qs,Qt,Qu,Qv,Qw,Qx,Qy,Qz,Ra,Rb,Rc,Rd,Re,Rf,Rg,Rh,Ri,Rj,Rk,Rl,Rm,Ya,Yb,Yc,Rn,Ro,Rp,Yd,Ye,Rq,Rs,Rt,Ru,Rv,Rw,Rx]
  have hloop:=UY hE (V:=fun _=>none) (p:=p) hcv hcl (hR.keep g2) v0 (.bool false) Au Au Au Au (.bool false) (.bool false) Au
    (Q:=DM 0 (HM (Qa E none (.seq (.ops QW) (.seq (.ops QX) (.seq (.ops QY) (.seq (.seq (.ops NW) (.cond (.var 13) (.seq (.ops W2) .ret) .skip)) (.seq (.ops NX) .ret))))) (Jw Try.prog c15.results (fun r _=>r=.bool true))) (Jw Try.prog c15.results (fun r _=>r=.bool true)))) ?_ cs 0 s2 v Au Au rfl (oK _) g1 (GO.refl _ _) g3 (Zc g4a g4b g4c)
  · simp only [AR]   at hloop
    simp only[c15,Qa,Qb,Qc,Qd,Qe,Qf,Qg,Qh,Qi,Qj,Qk,Ql,Qm,Qn,true_and,and_true,Qo,Qp,Qq,Qr,Qs,Qt,Qu,Qv,Qw,Qx,Qy,Qz,Ra,Rb,Rc,Rd,Re,Rf,Rg,Rh,Ri,Rj,Rk,Rl,Rm,Ya,Yb,Yc,Rn,Ro,Rp,Yd,Ye,Rq,Rs,Rt,Ru,Rv,Rw,Rx]at hloop ⊢
    exact hloop
  intro s3 v3 y4 y11 y12 k1 k2 k3 k4
  have hR3:=(hR.keep g2).keep k2
  have hs:=Pr hE k1 (Fq _ p v3) (aT 6 cs) k4 k3 (hbd:=⟨by decide,by omega,.inl (by decide)⟩) (most:=729) (by decide) hF
  simp only[AR,e729]at hs
  simp only[if_true,QW,AR,Qa,Qb,Qc,Qd,Qe,Qf,Qg,Qh,Qi,Qj,Qk,Ql,Qm,Qn,true_and,and_true,Qo,Qp,Qq,Qr,Qs,Qt,Qu,Qv,Qw,Qx,Qy,Qz,Ra,Rb,Rc,Rd,Re,Rf,Rg,Rh,Ri,Rj,Rk,Rl,Rm,Ya,Yb,Yc,Rn,Ro,Rp,Yd,Ye,Rq,Rs,Rt,Ru,Rv,Rw,Rx]
  refine hs.mono ?_
  rintro _ s4 ⟨c,v4,rfl,i4,j4,hc,k5,k6⟩
  have hR4:=hR3.keep k6
  have hT900:v4.trace.length≤900:=by have:=i4.trc;omega
  have htr:=Sw hE k5 (Fq _ p v4) (by omega) (fun x hx=>by have:=(j4.tr x hx).2.2;omega)
  simp only[AR]at htr
  simp only[QX,Qa,Qb,Qc,Qd,Qe,Qf,Qg,Qh,Qi,Qj,Qk,Ql,Qm,Qn,true_and,and_true,Qo,Qp,Qq,Qr,Qs,Qt,Qu,Qv,Qw,Qx,Qy,Qz,Ra,Rb,Rc,Rd,Re,Rf,Rg,Rh,Ri,Rj,Rk,Rl,Rm,Ya,Yb,Yc,Rn,Ro,Rp,Yd,Ye,Rq,Rs,Rt,Ru,Rv,Rw,Rx]
  refine htr.mono ?_
  rintro tr s5 ⟨us5,O5,hm5,ho5⟩
  have hR5:=hR4.keep (GO.old k5 ho5)
  obtain⟨usr,r1,r2,r3,r4⟩:=hR5
  obtain⟨q1,q2⟩:=Zb j4 (by decide) hF
  obtain⟨m,r,hmr⟩:∃m r,F0 fol cs v4.trace=(m,r):=⟨_,_,rfl⟩
  rw[hmr]at q1 q2
  have q1:r=v4.broken:=q1
  have q2:v4.broken=false→m=v4.trace.length:=q2
  simp only[QY,Qa,Qb,Qc,Qd,Qe,Qf,Qg,Qh,Qi,Qj,Qk,Ql,Qm,Qn,true_and,and_true,Qo,Qp,Qq,Qr,Qs,Qt,Qu,Qv,Qw,Qx,Qy,Qz,Ra,Rb,Rc,Rd,Re,Rf,Rg,Rh,Ri,Rj,Rk,Rl,Rm,Ya,Yb,Yc,Rn,Ro,Rp,Yd,Ye,Rq,Rs,Rt,Ru,Rv,Rw,Rx]
  refine(ZB hE (b:=s5.next) (oD _) r1 r3 hcf.1 hm5.trace (S8 j4.tr hT900) (fol:=fol) fun k L hk=>⟨_,nl (fun M hM=>(Tx j4 (by decide) hF k M hM).i64) (HH (n:=6) (by decide) (j4.tr _ (oG hk)).2.1).i64⟩).mono ?_
  rintro _ s6 ⟨rfl,ho6⟩
  rw[hmr]
  have hrows:KR s6.next s6 cl cs:=Zp ((r1.old ho6 (oD _)).mono ho6.1) ((r3.old ho6).mono ho6.1) (oD _)
  have hmod:=Uw hF
  have hpos:=SC hF
  have hmok:=Uy hE (fun L hL=>⟨(hc6 L hL).six,by have:=(hcv L hL).2;omega⟩) (by omega) hrows
  obtain⟨at5,cap5,hv5,_⟩:=hm5.dest.cells
  have ln:∀s',Ao Try.prog s' 33 tr=some (iv (v4.trace.length:Int)):=fun s'=>by rw[hv5];exact AZ Try.underlying33
  have d00:decide ((0:Int)=0)=true:=rfl
  have d10:decide ((1:Int)=0)=false:=rfl
  rcases hc with⟨rfl,hno,hbk⟩ | ⟨rfl,hmo,hbk⟩ | ⟨_,q⟩
  · have hr:r=true:=q1.trans hbk
    subst hr
    have hz:F4 cs=0:=by
      rw[hmod]
      have:¬ 0<K1 cs (2 ^ 6):=fun q=>by
        obtain⟨σ,hσ⟩:=hpos.1 q
        exact hno σ hσ
      omega
    rw[hz]at hmok
    simp only[NW,TR,bne_self_eq_false,decide_true,decide_false,d00,Qa,Qb,Qc,Qd,Qe,Qf,Qg,Qh,Qi,Qj,Qk,Ql,Qm,Qn,true_and,and_true,Qo,Qp,Qq,Qr,Qs,Qt,Qu,Qv,Qw,Qx,Qy,Qz,Ra,Rb,Rc,Rd,Re,Rf,Rg,Rh,Ri,Rj,Rk,Rl,Rm,Ya,Yb,Yc,Rn,Ro,Rp,Yd,Ye,Rq,Rs,Rt,Ru,Rv,Rw,Rx]
    refine hmok.mono ?_
    rintro _ _ ⟨rfl,rfl⟩
    have dz:decide (((0:Nat):Int)=0)=true:=rfl
    simp only[TR,bne_self_eq_false,dz,decide_true,NX,c15,Qa,Qb,Qc,Qd,Qe,Qf,Qg,Qh,Qi,Qj,Qk,Ql,Qm,Qn,true_and,and_true,Qo,Qp,Qq,Qr,Qs,Qt,Qu,Qv,Qw,Qx,Qy,Qz,Ra,Rb,Rc,Rd,Re,Rf,Rg,Rh,Ri,Rj,Rk,Rl,Rm,Ya,Yb,Yc,Rn,Ro,Rp,Yd,Ye,Rq,Rs,Rt,Ru,Rv,Rw,Rx]
  · have hr:r=false:=q1.trans hbk
    subst hr
    have hm:=q2 hbk
    subst hm
    have hz:0<F4 cs:=by rw[hmod];exact hpos.2 ⟨_,hmo⟩
    simp only[NW,TR,bne_self_eq_false,decide_true,decide_false,d10,Qa,Qb,Qc,Qd,Qe,Qf,Qg,Qh,Qi,Qj,Qk,Ql,Qm,Qn,true_and,and_true,Qo,Qp,Qq,Qr,Qs,Qt,Qu,Qv,Qw,Qx,Qy,Qz,Ra,Rb,Rc,Rd,Re,Rf,Rg,Rh,Ri,Rj,Rk,Rl,Rm,Ya,Yb,Yc,Rn,Ro,Rp,Yd,Ye,Rq,Rs,Rt,Ru,Rv,Rw,Rx]
    refine hmok.mono ?_
    rintro _ _ ⟨rfl,rfl⟩
    have dz:decide ((F4 cs:Int)=0)=false:=decide_eq_false (by omega)
    simp only[TR,bne_self_eq_false,dz,decide_false,NX,ln,decide_true,c15,Qa,Qb,Qc,Qd,Qe,Qf,Qg,Qh,Qi,Qj,Qk,Ql,Qm,Qn,true_and,and_true,Qo,Qp,Qq,Qr,Qs,Qt,Qu,Qv,Qw,Qx,Qy,Qz,Ra,Rb,Rc,Rd,Re,Rf,Rg,Rh,Ri,Rj,Rk,Rl,Rm,Ya,Yb,Yc,Rn,Ro,Rp,Yd,Ye,Rq,Rs,Rt,Ru,Rv,Rw,Rx]
  · exact absurd (q (by decide)) (by decide)
theorem dsat_true{H:Type}{enc:TypeId×Value→H}{W:World}{base:Nat}{v0:Value}(h0:Value.okWide Try.prog W .any base 30 v0)
    {d0:DataW H} {p0:List MemPlace} (t0:DataW.Trod enc Try.prog W 0 (fun _=>true) true 30 v0 d0 p0):
    Calls Try.prog 15 #[v0] W fun e W'=>e=.returned (.bool true)∧L9 W W':=by
  obtain⟨n0,t0⟩:=t0
  obtain⟨ρ1,s1,us1,ls,g1,g2,g3,g4,g5⟩:=SK (q:=i8) Try.underlying30 Try.underlying76 Try.underlying77 co76 co77 (fun n h=>nz h) t0 (fun a ha=>aP Try.underlying30 h0 a ha) (nk Try.prog W)
  obtain⟨a,cap,rfl,q1,q2,q3⟩:=VJ g5
  exact UM g1 (.cons (ar Try.underlying30 h0 g4) .nil) (cU Ue SL (oD _) q2 q3 ⟨a,cap,rfl,q1⟩)
end
end Go.Proofs.Ytilhhmkdcoajnaa.Am
