/- What the program's dropped computes: a row of clauses without the last one of the same literals; conditions: short clauses, none null. -/
import Derived.Test.YtilhhmkdcoajnaaAmM05
import Derived.Test.YtilhhmkdcoajnaaAmM04
import Derived.WideKeyArgs
set_option linter.unusedVariables false
set_option linter.unusedSimpArgs false
namespace Go.Proofs.Ytilhhmkdcoajnaa.Am
open Go Go.Proofs
noncomputable section
def Hy(L:List Int):Prop:=DF L∧(∀x∈L,DY x=false)∧L.length≤12
theorem Ds{s s':AE}{l:Nat}(h:s'.heap.get l=s.heap.get l):A7 s' l=A7 s l:=by unfold A7;rw[h]
theorem CM(s:AE)(l:Nat)(r:Fg):A7 (setObj s l (.loop r)) l=some r:=by unfold A7;rw[Ai,if_pos rfl]
theorem BZ(s:AE)(loc var:List AV)(f:AE→AV→Option AV)(x a:CX):GL s loc var ⟨none,.r1 f,[x],a⟩=VD (f s (Dw loc var x)) (Dw loc var a):=rfl
def K7 (v u:AV) (n0 q:Nat) (x5 x6 x8 x9 x10:AV):List AV:=[v,u,.ptr (some (n0,0)),.ptr (some (n0+1,0)),.ptr (some (q,0)),x5,x6,.func 116 [] [.ptr (some (q+1,0))],x8,x9,x10]
def FX (v u:AV) (n0 q:Nat) (x5 x6 x8 x9 x10:AV):Fg:=Hi 83 (K7 v u n0 q x5 x6 x8 x9 x10) #[12,13] pO pS (q+2)
set_option maxRecDepth 16000 in
theorem TQ{E:BI}(hE:Aq E){s0 s8:AE}{n0 q b:Nat}{v u w d:AV}{us:List AV}{cs:List (List Int)}{c:List Int}{x5 x6 x8 x9 x10:AV}(hn0:s0.next=n0)(hq:n0+2≤q)(hb:b≤n0)
    (hv:AJ n0 s0 v us) (hr:Ag b s0 us cs) (hcs:∀L∈cs,Hy L) (hlen:us.length≤1000) (h8:Ao n0 s0 s8)
    (hbx:Ap s8 n0 v) (hrb:Ap s8 (n0+1) d) (hwb:Ap s8 q w) (hw:AJ q s8 w (A3 (Ah [] c))) (heq:E8 w w=true) (hmk:s8.heap.get (q+2)=some .mark)
    {k:Nat} {s:AE} {K:AV→AE→Prop} (hold:Ao (q+3) s8 s) (hlp:A7 s (q+3)=some (FX v u n0 q x5 x6 x8 x9 x10)) (hnx:q+3<s.next) {uk:AV} {L:List Int} (huk:us[k]? = some uk) (hLk:cs[k]? = some L)
    (hmiss:Ah [] L≠Ah [] c→∀s',Ao (q+3) s8 s'→A7 s' (q+3)=some (FX v u n0 q x5 x6 x8 x9 x10)→q+3<s'.next→K (.bool true) s')
    (hhit:Ah [] L=Ah [] c→∀s' i Z,Z≠[]→Ao n0 s0 s'→Ap s' (n0+1) (.slice (some (i,0)) (us.take k++us.drop (k+1)).length none)→q+3<i→i<s'.next→BG s' i ((us.take k++us.drop (k+1))++Z)→s'.heap.get (q+2)=some .mark →
      A7 s' (q+3)=some { FX v u n0 q x5 x6 x8 x9 x10 with state:=.done,pending:=some .ret }→K (.bool false) s'):
    WR E (q+3) [iv (k:Int),uk] K s:=by
  have hk:k<us.length:=AZ huk
  have hz:DN (Dl E.P 83) (K7 v u n0 q x5 x6 x8 x9 x10) [12,13] [iv (k:Int),uk]=some (K7 v u n0 q x5 x6 (iv (k:Int)) uk x10):=by
    rw[hE.P,mj];rfl
  refine WR.round hlp hz (by rw[hE.P];exact pj) (by rw[hE.P];exact pl) ?_
  refine EW ?_
  simp only[oH,jd,je,K7,Qa,Qb,Qc,Qd,Qe,Qf,Qg,Qh,Qi,Qj,Qk,Ql,Qm,Qn,true_and,and_true,Qo,Qp,Qq,Qr,Qs,Qt,Qu,Qv,Qw,Qx,Qy,Qz,Ra,Rb,Rc,Rd,Re,Rf,Rg,Rh,Ri,Rj,Rk,Rl,Rm,Ya,Yb,Yc,Rn,Ro,Rp,Yd,Ye,Rq,Rs,Rt,Ru,Rv,Rw,Rx]
  refine⟨_,hlp,rfl,EW ?_⟩
  have hLp:Hy L:=hcs L (qj hLk)
  obtain⟨uk',huk',hLs⟩:=hr.2 k L hLk
  rw[huk]at huk'
  injection huk' with huk'
  subst huk'
  generalize hs1:setObj s (q+3) _=s1
  have n1:s1.next=s.next:=by rw[← hs1];rfl
  have l1:A7 s1 (q+3)=some { FX v u n0 q x5 x6 x8 x9 x10 with state:=.busy }:=by rw[← hs1,CM]
  have o1:∀x,x≠q+3→s1.heap.get x=s.heap.get x:=fun x hx=>by rw[← hs1,Ai,if_neg hx]
  have hold1:Ao (q+3) s8 s1:=hold.trans ⟨by omega,fun x hx=>o1 x (by omega)⟩
  have h81:Ao n0 s0 s1:=h8.trans (hold1.mono (by omega))
  have hnx0:=hold.1
  have w1:Ap s1 q w:=hwb.keep (hold1.2 q (by omega))
  have ld:=w1.load DA
  simp only[oI,jf,ld,Qa,Qb,Qc,Qd,Qe,Qf,Qg,Qh,Qi,Qj,Qk,Ql,Qm,Qn,true_and,and_true,Qo,Qp,Qq,Qr,Qs,Qt,Qu,Qv,Qw,Qx,Qy,Qz,Ra,Rb,Rc,Rd,Re,Rf,Rg,Rh,Ri,Rj,Rk,Rl,Rm,Ya,Yb,Yc,Rn,Ro,Rp,Yd,Ye,Rq,Rs,Rt,Ru,Rv,Rw,Rx]
  refine(Ll hE hLp.1 hLp.2.1 hLp.2.2 (b:=b) (by omega) (hLs.old h81 hb)).mono ?_
  rintro v2 s2 ⟨hv2,ho2,_⟩
  rw[Lk hLp.2.1]at hv2
  have hold2:Ao (q+3) s8 s2:=hold1.trans (ho2.mono (by omega))
  have l2:A7 s2 (q+3)=some { FX v u n0 q x5 x6 x8 x9 x10 with state:=.busy }:=by rw[Ds (ho2.2 _ (by omega))];exact l1
  have ld2:=(hwb.keep (hold2.2 q (by omega))).load DA
  have hws:AJ q s2 w (A3 (Ah [] c)):=hw.old (hold2.mono (by omega)) (qg _)
  simp only[BZ,Az,ld2,heq,Qa,Qb,Qc,Qd,Qe,Qf,Qg,Qh,Qi,Qj,Qk,Ql,Qm,Qn,true_and,and_true,Qo,Qp,Qq,Qr,Qs,Qt,Qu,Qv,Qw,Qx,Qy,Qz,Ra,Rb,Rc,Rd,Re,Rf,Rg,Rh,Ri,Rj,Rk,Rl,Rm,Ya,Yb,Yc,Rn,Ro,Rp,Yd,Ye,Rq,Rs,Rt,Ru,Rv,Rw,Rx]
  refine(ac hE ?_ hv2 (hws.mono (by have:=ho2.1;omega))).mono ?_
  · have := IR         L []
    have:=hLp.2.2
    simp at *;omega
  rintro _ _ ⟨rfl,rfl⟩
  by_cases h:Ah [] L=Ah [] c
  · have hk1 := Ay      Try.prog 3 (k : Int) 1 ⟨by omega, by omega⟩
    have hk1':((k:Int)+1)=((k+1:Nat):Int):=by omega
    have ldx:=(hbx.keep (hold2.2 n0 (by omega))).load Mx
    simp only[h,decide_true,jg,ldx,Qa,Qb,Qc,Qd,Qe,Qf,Qg,Qh,Qi,Qj,Qk,Ql,Qm,Qn,true_and,and_true,Qo,Qp,Qq,Qr,Qs,Qt,Qu,Qv,Qw,Qx,Qy,Qz,Ra,Rb,Rc,Rd,Re,Rf,Rg,Rh,Ri,Rj,Rk,Rl,Rm,Ya,Yb,Yc,Rn,Ro,Rp,Yd,Ye,Rq,Rs,Rt,Ru,Rv,Rw,Rx]
    have h82:Ao n0 s0 s2:=h8.trans (hold2.mono (by omega))
    refine(TL hE (b:=n0) (by have:=ho2.1;omega) (hv.old h82 (qg _)) hr.cells (by omega)).mono ?_
    rintro v3 s3 ⟨hv3,ho3⟩
    have hold3:Ao (q+3) s8 s3:=hold2.trans (ho3.mono (by have:=hold2.1;have:=ho2.1;omega))
    have l3:A7 s3 (q+3)=some { FX v u n0 q x5 x6 x8 x9 x10 with state:=.busy }:=by rw[Ds (ho3.2 _ (by have:=ho2.1;omega))];exact l2
    rcases hv3 with⟨a,rfl,e⟩ | ⟨i,rfl,hi1,hi2,hi3⟩
    · subst e;simp at hk
    simp only[hk1,hk1',Qa,Qb,Qc,Qd,Qe,Qf,Qg,Qh,Qi,Qj,Qk,Ql,Qm,Qn,true_and,and_true,Qo,Qp,Qq,Qr,Qs,Qt,Qu,Qv,Qw,Qx,Qy,Qz,Ra,Rb,Rc,Rd,Re,Rf,Rg,Rh,Ri,Rj,Rk,Rl,Rm,Ya,Yb,Yc,Rn,Ro,Rp,Yd,Ye,Rq,Rs,Rt,Ru,Rv,Rw,Rx]
    refine(P1 hE hi3 hk hr.cells (by omega)).mono ?_
    rintro _ s4 ⟨Z,hZ,rfl,hz4,n4,o4⟩
    have hin:q+3<i:=by have:=ho2.1;omega
    obtain⟨s5,g1,g2,g3,g4⟩:=(hrb.keep ((o4 (n0+1) (by omega)).trans (hold3.2 (n0+1) (by omega)))).store (d:=.slice (some (i,0)) (us.take k++us.drop (k+1)).length none) cN rfl rfl
    simp only[BW,g1,AS,Qa,Qb,Qc,Qd,Qe,Qf,Qg,Qh,Qi,Qj,Qk,Ql,Qm,Qn,true_and,and_true,Qo,Qp,Qq,Qr,Qs,Qt,Qu,Qv,Qw,Qx,Qy,Qz,Ra,Rb,Rc,Rd,Re,Rf,Rg,Rh,Ri,Rj,Rk,Rl,Rm,Ya,Yb,Yc,Rn,Ro,Rp,Yd,Ye,Rq,Rs,Rt,Ru,Rv,Rw,Rx]
    have l5:A7 s5 (q+3)=some { FX v u n0 q x5 x6 x8 x9 x10 with state:=.busy }:=by rw[Ds ((g4 _ (by omega)).trans (o4 _ (by omega)))];exact l3
    refine⟨_,l5,?_⟩
    refine hhit h _ i Z hZ ?_ ?_ hin ?_ ?_ ?_ ?_
    · refine (h8.trans ((hold3.mono (by omega)))).trans ⟨by show s3.next ≤ s5.next; omega, fun x hx => ?_⟩
      rw[Ai,if_neg (by omega),g4 x (by omega),o4 x (by omega)]
    · exact g2.keep (by rw[Ai,if_neg (by omega)])
    · show i<s5.next;omega
    · exact(hz4.keep (g4 i (by omega))).keep (by rw[Ai,if_neg (by omega)])
    · rw[Ai,if_neg (by omega),g4 _ (by omega),o4 _ (by omega),hold3.2 _ (by omega)];exact hmk
    · rw[CM];rfl
  · simp only[h,decide_false,Qa,Qb,Qc,Qd,Qe,Qf,Qg,Qh,Qi,Qj,Qk,Ql,Qm,Qn,true_and,and_true,Qo,Qp,Qq,Qr,Qs,Qt,Qu,Qv,Qw,Qx,Qy,Qz,Ra,Rb,Rc,Rd,Re,Rf,Rg,Rh,Ri,Rj,Rk,Rl,Rm,Ya,Yb,Yc,Rn,Ro,Rp,Yd,Ye,Rq,Rs,Rt,Ru,Rv,Rw,Rx]
    refine⟨_,l2,?_⟩
    refine hmiss h _ ?_ ?_ ?_
    · exact hold2.trans ⟨qg _,fun x hx=>by rw[Ai,if_neg (by omega)]⟩
    · rw[CM];rfl
    · show q+3<s2.next
      have:=ho2.1;omega
set_option maxRecDepth 16000 in
theorem VQ        {E : BI}  (hE : Aq   E) {s0 s8 : AE}  {n0 q b : Nat} {v u w d : AV} {us : List AV} {cs : List (List Int)} {c : List Int} {x5 x6 x8 x9 x10 : AV} (hn0 : s0.next = n0) (hq : n0 + 2 ≤ q) (hb : b ≤ n0)
    (hv:AJ n0 s0 v us) (hr:Ag b s0 us cs) (hcs:∀L∈cs,Hy L) (hlen:us.length≤1000) (h8:Ao n0 s0 s8)
    (hbx:Ap s8 n0 v) (hrb:Ap s8 (n0+1) d) (hwb:Ap s8 q w) (hw:AJ q s8 w (A3 (Ah [] c))) (heq:E8 w w=true) (hmk:s8.heap.get (q+2)=some .mark) (hbb:Ap s8 (q+1) v) {Q:A9→Prop}:
    ∀ (k : Nat) (s : AE)  (x3 x4 : AV), k ≤ cs.length → Ao  (q + 3) s8 s → A7     s (q + 3) = some (FX     v u n0 q x5 x6 x8 x9 x10) → q + 3 < s.next → JG    cs c cs.length = JG    cs c k →
      (JG cs c cs.length=none→∀s' y2 y3 y4,Ao (q+3) s8 s'→A7 s' (q+3)=some (FX v u n0 q x5 x6 x8 x9 x10)→q+3<s'.next→Q ⟨.exit 0,[.yield (q+3),.ptr (some (q+1,0)),y2,y3,y4],[],s'⟩) →
      (∀k,k<us.length→JG cs c cs.length=some k→∀s' i Z y2 y3 y4,Z≠[]→Ao n0 s0 s'→Ap s' (n0+1) (.slice (some (i,0)) (us.take k++us.drop (k+1)).length none)→q+3<i→i<s'.next→BG s' i ((us.take k++us.drop (k+1))++Z)→s'.heap.get (q+2)=some .mark →
        A7 s' (q+3)=some { FX v u n0 q x5 x6 x8 x9 x10 with state:=.done,pending:=some .ret }→Q ⟨.ret,[.yield (q+3),.ptr (some (q+1,0)),y2,y3,y4],[],s'⟩) →
      WC E none (.loop LM) Q [.yield (q+3),.ptr (some (q+1,0)),iv ((k:Int) - 1),x3,x4] [] s:=by
  intro k
  induction k with
  | zero =>
    intro s x3 x4 hk hold hlp hnx hl hend hhit
    refine WC.loop' ?_
    simp only[LM,SR,show((0:Nat):Int) - 1=-1 from rfl,show decide ((0:Int)≤-1)=false from rfl,Qa,Qb,Qc,Qd,Qe,Qf,Qg,Qh,Qi,Qj,Qk,Ql,Qm,Qn,true_and,and_true,Qo,Qp,Qq,Qr,Qs,Qt,Qu,Qv,Qw,Qx,Qy,Qz,Ra,Rb,Rc,Rd,Re,Rf,Rg,Rh,Ri,Rj,Rk,Rl,Rm,Ya,Yb,Yc,Rn,Ro,Rp,Yd,Ye,Rq,Rs,Rt,Ru,Rv,Rw,Rx]
    exact hend hl s _ _ _ hold hlp hnx
  | succ k ih =>
    intro s x3 x4 hk hold hlp hnx hl hend hhit
    have hL:cs[k]? = some cs[k]:=qp hk
    obtain⟨uk,huk,hus⟩:=hr.2 k _ hL
    have hkl:k<us.length:=AZ huk
    have hgd:cs.getD k []=cs[k]:=by simp[rB,hL]
    have hk1:((k+1:Nat):Int) - 1=(k:Int):=by omega
    have hge:decide ((0:Int)≤(k:Int))=true:=decide_eq_true (by omega)
    have e3:=CV Try.prog 3 (k:Int) 1 ⟨by omega,by omega⟩
    have ld:=(hbb.keep (hold.2 (q+1) (by omega))).load Mx
    obtain⟨a,cap,hve,hcells⟩:=hv
    have hcells':BA n0 s a us:=hcells.old (h8.trans (hold.mono (by omega))) (qg _)
    obtain⟨i,o,hae,hi,hload⟩:=hcells' k uk huk
    have e1:AD Try.prog 22 v (iv (k:Int))=some (.ptr (some (i,o+k * 1))):=by rw[hve,hae];exact At Try.underlying22 Ba hkl
    have e2:AC Try.prog s 23 (.ptr (some (i,o+k * 1)))=some uk:=A0 DA (by rw[rC];exact hload)
    refine WC.loop' ?_
    generalize hW:WC E none (Ac.loop LM) Q=WW
    rw[hk1]
    simp only[LM,SR,Xu,hge,ld,e1,e2,Qa,Qb,Qc,Qd,Qe,Qf,Qg,Qh,Qi,Qj,Qk,Ql,Qm,Qn,true_and,and_true,Qo,Qp,Qq,Qr,Qs,Qt,Qu,Qv,Qw,Qx,Qy,Qz,Ra,Rb,Rc,Rd,Re,Rf,Rg,Rh,Ri,Rj,Rk,Rl,Rm,Ya,Yb,Yc,Rn,Ro,Rp,Yd,Ye,Rq,Rs,Rt,Ru,Rv,Rw,Rx]
    refine TQ hE hn0 hq hb ⟨a,cap,hve,hcells⟩ hr hcs hlen h8 hbx hrb hwb hw heq hmk hold hlp hnx huk hL ?_ ?_
    · intro hne s' g1 g2 g3
      simp only[Xv,e3,Qa,Qb,Qc,Qd,Qe,Qf,Qg,Qh,Qi,Qj,Qk,Ql,Qm,Qn,true_and,and_true,Qo,Qp,Qq,Qr,Qs,Qt,Qu,Qv,Qw,Qx,Qy,Qz,Ra,Rb,Rc,Rd,Re,Rf,Rg,Rh,Ri,Rj,Rk,Rl,Rm,Ya,Yb,Yc,Rn,Ro,Rp,Yd,Ye,Rq,Rs,Rt,Ru,Rv,Rw,Rx]
      rw[← hW]
      refine ih s' _ _ (by omega) g1 g2 g3 ?_ hend hhit
      rw[hl]
      show(if Ah [] (cs.getD k [])=Ah [] c then some k else JG cs c k)=JG cs c k
      rw[hgd,if_neg hne]
    · intro he s' i Z g0 g1 g2 g3 g4 g5 g6 g7
      simp only[Qa,Qb,Qc,Qd,Qe,Qf,Qg,Qh,Qi,Qj,Qk,Ql,Qm,Qn,true_and,and_true,Qo,Qp,Qq,Qr,Qs,Qt,Qu,Qv,Qw,Qx,Qy,Qz,Ra,Rb,Rc,Rd,Re,Rf,Rg,Rh,Ri,Rj,Rk,Rl,Rm,Ya,Yb,Yc,Rn,Ro,Rp,Yd,Ye,Rq,Rs,Rt,Ru,Rv,Rw,Rx]
      refine hhit k hkl ?_ s' i Z _ _ _ g0 g1 g2 g3 g4 g5 g6 g7
      rw[hl]
      show(if Ah [] (cs.getD k [])=Ah [] c then some k else JG cs c k)=some k
      rw[hgd,if_pos he]
theorem cq{E:BI}(hE:Aq E){s:AE}{v:AV}(hv:v.cells=[v]):WF E 104 [v] (fun r s'=>r=.func 116 [] [.ptr (some (s.next,0))]∧s'=newObj s (AL 22 0 [v])) s:=by
 refine hE.go dp (by decide) rfl ?_
 have hptr:∀i,Made.val i .ptr=.ptr (some (i,0)):=fun _=>rfl
 have hbox:Ce 22 v=some (AL 22 0 [v],.ptr):=by simp[Ce,hv]
 simp only[ng,XL,XM,hbox,hptr,rn,rf,Qa,Qb,Qc,Qd,Qe,Qf,Qg,Qh,Qi,Qj,Qk,Ql,Qm,Qn,true_and,and_true,Qo,Qp,Qq,Qr,Qs,Qt,Qu,Qv,Qw,Qx,Qy,Qz,Ra,Rb,Rc,Rd,Re,Rf,Rg,Rh,Ri,Rj,Rk,Rl,Rm,Ya,Yb,Yc,Rn,Ro,Rp,Yd,Ye,Rq,Rs,Rt,Ru,Rv,Rw,Rx]
theorem Cr(P:Program)(s:AE)(v:List AV)(x:CX)(t:TypeId)(l:List (CX×Option TypeId)):B7 P s v ((x,some t)::l)=(AC P s t (Dw [] v x)).bind fun u=>(B7 P s v l).bind fun r=>some (u::r):=rfl
theorem cm:BF Try.prog 22=some (AL 22 0 [.slice none 0 (some 0)],.ptr):=by simp[BF,oz,AV.cells]
theorem N8:BF Try.prog 23=some (AL 23 0 [.slice none 0 (some 0)],.ptr):=by simp[BF,RY,AV.cells]
set_option maxRecDepth 16000 in
theorem TR{E:BI}(hE:Aq E){s:AE}{b:Nat}{v u:AV}{us:List AV}{cs:List (List Int)}{c:List Int}(hb:b≤s.next)(hv:AJ s.next s v us)(hr:Ag b s us cs)(hcs:∀L∈cs,Hy L)(hlen:us.length≤1000)(hc:Hy c)(hu:AJ b s u (A3 c)):
  WF E 83 [v,u] (fun r s'=>∃us',Ag b s' us' (NS cs c)∧(r=v∧us'=us∨∃i Z,r=.slice (some (i,0)) us'.length none∧BG s' i (us'++Z)∧Z≠[]∧s.next≤i∧i<s'.next)∧Ao s.next s s') s:=by
 have hvc:=hv.isCell
 have hptr:∀i,Made.val i .ptr=.ptr (some (i,0)):=fun _=>rfl
 have hbox:Ce 22 v=some (AL 22 0 [v],.ptr):=by simp[Ce,hvc.2]
 refine hE.go mC (by decide) rfl ?_
 generalize hn0:s.next=n0 at hv
 generalize hs1:newObj s (AL 22 0 [v])=s1
 have n1:s1.next=n0+1:=by rw[← hs1,← hn0];rfl
 have o1:Ao n0 s s1:=by rw[← hs1,← hn0];exact Ao.new s _
 have b1:Ap s1 n0 v:=by rw[← hs1,← hn0];exact Ap.new
 generalize hs2:newObj s1 (AL 22 0 [.slice none 0 (some 0)])=s2
 have n2:s2.next=n0+2:=by rw[← hs2];show s1.next+1=_;omega
 have o2:Ao (n0+1) s1 s2:=by rw[← hs2,← n1];exact Ao.new s1 _
 have b2:Ap s2 (n0+1) (.slice none 0 (some 0)):=by rw[← hs2,← n1];exact Ap.new
 simp only[qY,ja,jb,hbox,hn0,hs1,hptr,cm,hs2,n1,Qa,Qb,Qc,Qd,Qe,Qf,Qg,Qh,Qi,Qj,Qk,Ql,Qm,Qn,true_and,and_true,Qo,Qp,Qq,Qr,Qs,Qt,Qu,Qv,Qw,Qx,Qy,Qz,Ra,Rb,Rc,Rd,Re,Rf,Rg,Rh,Ri,Rj,Rk,Rl,Rm,Ya,Yb,Yc,Rn,Ro,Rp,Yd,Ye,Rq,Rs,Rt,Ru,Rv,Rw,Rx]
 refine(Ll hE hc.1 hc.2.1 hc.2.2 (b:=b) (by omega) (hu.old (o1.trans (o2.mono (by omega))) (by omega))).mono ?_
 rintro w s3 ⟨hw,o3,heq⟩
 rw[Lk hc.2.1]at hw
 have n3:n0+2≤s3.next:=by have:=o3.1;omega
 generalize hq:s3.next=q at n3 hw
 generalize hs4:newObj s3 (AL 23 0 [.slice none 0 (some 0)])=s4
 have n4:s4.next=q+1:=by rw[← hs4,← hq];rfl
 have o4:Ao q s3 s4:=by rw[← hs4,← hq];exact Ao.new s3 _
 have b4:Ap s4 q (.slice none 0 (some 0)):=by rw[← hs4,← hq];exact Ap.new
 obtain⟨s5,g1,g2,g3,g4⟩:=b4.store (d:=w) Ba hw.isCell.1 hw.isCell.2
 have o5:Ao q s3 s5:=o4.trans ⟨by omega,fun x hx=>g4 x (by omega)⟩
 have b1':Ap s5 n0 v:=((b1.keep (o2.2 n0 (by omega))).keep (o3.2 n0 (by omega))).keep (o5.2 n0 (by omega))
 have b2':Ap s5 (n0+1) (.slice none 0 (some 0)):=(b2.keep (o3.2 _ (by omega))).keep (o5.2 _ (by omega))
 simp only[jc,N8,hq,hs4,BW,g1,AS,b1'.load Mx,hptr,Qa,Qb,Qc,Qd,Qe,Qf,Qg,Qh,Qi,Qj,Qk,Ql,Qm,Qn,true_and,and_true,Qo,Qp,Qq,Qr,Qs,Qt,Qu,Qv,Qw,Qx,Qy,Qz,Ra,Rb,Rc,Rd,Re,Rf,Rg,Rh,Ri,Rj,Rk,Rl,Rm,Ya,Yb,Yc,Rn,Ro,Rp,Yd,Ye,Rq,Rs,Rt,Ru,Rv,Rw,Rx]
 refine(cq hE hvc.2).mono ?_
 rintro _ _ ⟨rfl,rfl⟩
 rw[show s5.next=q+1 by omega]
 simp only[Qa,Qb,Qc,Qd,Qe,Qf,Qg,Qh,Qi,Qj,Qk,Ql,Qm,Qn,true_and,and_true,Qo,Qp,Qq,Qr,Qs,Qt,Qu,Qv,Qw,Qx,Qy,Qz,Ra,Rb,Rc,Rd,Re,Rf,Rg,Rh,Ri,Rj,Rk,Rl,Rm,Ya,Yb,Yc,Rn,Ro,Rp,Yd,Ye,Rq,Rs,Rt,Ru,Rv,Rw,Rx]
 generalize hs6:newObj s5 (AL 22 0 [v])=s6
 have n6:s6.next=q+2:=by rw[← hs6];show s5.next+1=_;omega
 have o6:Ao (q+1) s5 s6:=by rw[← hs6,show q+1=s5.next by omega];exact Ao.new s5 _
 have b6:Ap s6 (q+1) v:=by rw[← hs6,show q+1=s5.next by omega];exact Ap.new
 refine WC.range rfl ?_
 rw[n6]
 generalize hs7:newObj s6 .mark=s7
 have n7:s7.next=q+3:=by rw[← hs7];show s6.next+1=_;omega
 have o7:Ao (q+2) s6 s7:=by rw[← hs7,← n6];exact Ao.new s6 _
 have m7:s7.heap.get (q+2)=some .mark:=by rw[← hs7,AK,if_pos n6.symm]
 generalize hs8:newObj s7 _=s8
 have n8:s8.next=q+4:=by rw[← hs8];show s7.next+1=_;omega
 have o8:Ao (q+3) s7 s8:=by rw[← hs8,← n7];exact Ao.new s7 _
 have l8:A7 s8 (q+3)=some (FX v u n0 q Ar Ar Ar Ar Ar):=by
  unfold A7;rw[← hs8,AK,if_pos n7.symm];rfl
 have o58:Ao (q+1) s5 s8:=o6.trans ((o7.mono (by omega)).trans (o8.mono (by omega)))
 have h8:Ao n0 s s8:=(o1.trans (o2.mono (by omega))).trans ((o3.mono (by omega)).trans ((o5.mono (by omega)).trans (o58.mono (by omega))))
 have hbx:=b1'.keep (o58.2 n0 (by omega))
 have hrb:=b2'.keep (o58.2 (n0+1) (by omega))
 have hwb:=g2.keep (o58.2 q (by omega))
 have hbb:=(b6.keep (o7.2 (q+1) (by omega))).keep (o8.2 (q+1) (by omega))
 have hmk:s8.heap.get (q+2)=some .mark:=by rw[o8.2 _ (by omega)];exact m7
 have hw8:AJ q s8 w (A3 (Ah [] c)):=hw.old (o5.trans (o58.mono (by omega))) (qg _)
 have hlv:As Try.prog s8 22 v=some (iv (us.length:Int)):=by obtain⟨a,cap,rfl,_⟩:=hv;exact AW Try.underlying22
 have hsub:=CV Try.prog 3 (us.length:Int) 1 ⟨by omega,by omega⟩
 have huc:us.length=cs.length:=hr.1
 refine hE.go d7 (by decide) rfl ?_
 simp only[nn,Xt,rL,rY,hbb.load Mx,hlv,hsub,Qa,Qb,Qc,Qd,Qe,Qf,Qg,Qh,Qi,Qj,Qk,Ql,Qm,Qn,true_and,and_true,Qo,Qp,Qq,Qr,Qs,Qt,Qu,Qv,Qw,Qx,Qy,Qz,Ra,Rb,Rc,Rd,Re,Rf,Rg,Rh,Ri,Rj,Rk,Rl,Rm,Ya,Yb,Yc,Rn,Ro,Rp,Yd,Ye,Rq,Rs,Rt,Ru,Rv,Rw,Rx]
 rw[huc]
 refine VQ hE hn0 n3 (by omega) hv hr hcs hlen h8 hbx hrb hwb hw8 heq hmk hbb cs.length s8 _ _ (qg _) (Ao.refl _ _) l8 (by omega) rfl ?_ ?_
 ·intro hnone s' y2 y3 y4 h1 h2 h3
  have hdr:NS cs c=cs:=by unfold NS;rw[hnone];rfl
  simp only[if_true,Qa,Qb,Qc,Qd,Qe,Qf,Qg,Qh,Qi,Qj,Qk,Ql,Qm,Qn,true_and,and_true,Qo,Qp,Qq,Qr,Qs,Qt,Qu,Qv,Qw,Qx,Qy,Qz,Ra,Rb,Rc,Rd,Re,Rf,Rg,Rh,Ri,Rj,Rk,Rl,Rm,Ya,Yb,Yc,Rn,Ro,Rp,Yd,Ye,Rq,Rs,Rt,Ru,Rv,Rw,Rx]
  refine⟨_,h2,rfl,?_⟩
  generalize hs9:setObj s' (q+3) _=s9
  have n9:s9.next=s'.next:=by rw[← hs9];rfl
  have o9:Ao (q+3) s8 s9:=h1.trans ⟨by omega,fun x hx=>by rw[← hs9,Ai,if_neg (by omega)]⟩
  obtain⟨t1,k1,k2,k3,k4⟩:=(hrb.keep (o9.2 (n0+1) (by omega))).store (d:=v) cN hvc.1 hvc.2
  have mk1:t1.heap.get (q+2)=some .mark:=by rw[k4 _ (by omega),o9.2 _ (by omega)];exact hmk
  show F4 _ _ _ _ none
  simp only[F4,jh,(hbx.keep (o9.2 n0 (by omega))).load Mx,BW,k1,AS,GZ mk1,Qa,Qb,Qc,Qd,Qe,Qf,Qg,Qh,Qi,Qj,Qk,Ql,Qm,Qn,true_and,and_true,Qo,Qp,Qq,Qr,Qs,Qt,Qu,Qv,Qw,Qx,Qy,Qz,Ra,Rb,Rc,Rd,Re,Rf,Rg,Rh,Ri,Rj,Rk,Rl,Rm,Ya,Yb,Yc,Rn,Ro,Rp,Yd,Ye,Rq,Rs,Rt,Ru,Rv,Rw,Rx]
  have k2':Ap (Bm t1 (q+2)) (n0+1) v:=k2.keep (by rw[Bw,if_neg (by omega)])
  simp only[Cr,k2'.load Mx,Qa,Qb,Qc,Qd,Qe,Qf,Qg,Qh,Qi,Qj,Qk,Ql,Qm,Qn,true_and,and_true,Qo,Qp,Qq,Qr,Qs,Qt,Qu,Qv,Qw,Qx,Qy,Qz,Ra,Rb,Rc,Rd,Re,Rf,Rg,Rh,Ri,Rj,Rk,Rl,Rm,Ya,Yb,Yc,Rn,Ro,Rp,Yd,Ye,Rq,Rs,Rt,Ru,Rv,Rw,Rx]
  have hfin:Ao n0 s (Bm t1 (q+2)):=h8.trans ((o9.mono (by omega)).trans ⟨by show s9.next≤t1.next;omega,fun x hx=>by rw[Bw,if_neg (by omega),k4 x (by omega)]⟩)
  exact⟨us,by rw[hdr];exact hr.old (hfin.mono (by omega)),.inl (by simp),hfin⟩
 ·intro k hk hsome s' i Z y2 y3 y4 hZ h1 h2 h3 h4 h5 h6 h7
  have hdr:NS cs c=cs.take k++cs.drop (k+1):=by unfold NS;rw[hsome];rfl
  simp only[Qa,Qb,Qc,Qd,Qe,Qf,Qg,Qh,Qi,Qj,Qk,Ql,Qm,Qn,true_and,and_true,Qo,Qp,Qq,Qr,Qs,Qt,Qu,Qv,Qw,Qx,Qy,Qz,Ra,Rb,Rc,Rd,Re,Rf,Rg,Rh,Ri,Rj,Rk,Rl,Rm,Ya,Yb,Yc,Rn,Ro,Rp,Yd,Ye,Rq,Rs,Rt,Ru,Rv,Rw,Rx]
  refine⟨_,h7,rfl,?_⟩
  generalize hs9:setObj s' (q+3) _=s9
  have n9:s9.next=s'.next:=by rw[← hs9];rfl
  have e9:∀x,x≠q+3→s9.heap.get x=s'.heap.get x:=fun x hx=>by rw[← hs9,Ai,if_neg hx]
  have mk1:s9.heap.get (q+2)=some .mark:=by rw[e9 _ (by omega)];exact h6
  show F4 _ _ _ _ (some .ret)
  simp only[F4,GZ mk1,Qa,Qb,Qc,Qd,Qe,Qf,Qg,Qh,Qi,Qj,Qk,Ql,Qm,Qn,true_and,and_true,Qo,Qp,Qq,Qr,Qs,Qt,Qu,Qv,Qw,Qx,Qy,Qz,Ra,Rb,Rc,Rd,Re,Rf,Rg,Rh,Ri,Rj,Rk,Rl,Rm,Ya,Yb,Yc,Rn,Ro,Rp,Yd,Ye,Rq,Rs,Rt,Ru,Rv,Rw,Rx]
  have k2':Ap (Bm s9 (q+2)) (n0+1) _:=(h2.keep (e9 _ (by omega))).keep (by rw[Bw,if_neg (by omega)])
  simp only[Cr,k2'.load Mx,Qa,Qb,Qc,Qd,Qe,Qf,Qg,Qh,Qi,Qj,Qk,Ql,Qm,Qn,true_and,and_true,Qo,Qp,Qq,Qr,Qs,Qt,Qu,Qv,Qw,Qx,Qy,Qz,Ra,Rb,Rc,Rd,Re,Rf,Rg,Rh,Ri,Rj,Rk,Rl,Rm,Ya,Yb,Yc,Rn,Ro,Rp,Yd,Ye,Rq,Rs,Rt,Ru,Rv,Rw,Rx]
  have hfin:Ao n0 s (Bm s9 (q+2)):=h1.trans ⟨by show s'.next≤s9.next;omega,fun x hx=>by rw[Bw,if_neg (by omega),e9 x (by omega)]⟩
  have hr9:BG (Bm s9 (q+2)) i ((us.take k++us.drop (k+1))++Z):=(h5.keep (e9 i (by omega))).keep (by rw[Bw,if_neg (by omega)])
  refine⟨us.take k++us.drop (k+1),?_,.inr ⟨i,Z,rfl,hr9,hZ,by omega,by show i<s9.next;omega⟩,hfin⟩
  rw[hdr]
  have:=hr.old (hfin.mono (show b≤n0 by omega))
  exact(this.take k).append (this.drop (k+1))
def Cq(b:Nat)(s:AE)(v:AV)(T:Aa):Prop:=∃a cap,v=.slice a T.length cap∧∀k d L,T[k]? = some (d,L) →
 ∃i o u,a=some (i,o)∧i<b∧load1 s i (o+k * 2)=some (.bool d)∧load1 s i (o+k * 2+1)=some u∧AJ b s u (A3 L)
theorem Cq.old{b b':Nat}{s s':AE}{v:AV}{T:Aa}(h:Cq b s v T)(k:Ao b' s s')(hb:b≤b'):Cq b s' v T:=by
 obtain⟨a,cap,hv,hc⟩:=h
 refine⟨a,cap,hv,fun j d L hj=>?_⟩
 obtain⟨i,o,u,h1,h2,h3,h4,h5⟩:=hc j d L hj
 exact⟨i,o,u,h1,h2,by rw[BU (k.2 i (by omega))];exact h3,by rw[BU (k.2 i (by omega))];exact h4,h5.old k hb⟩
theorem Cq.isCell{b:Nat}{s:AE}{v:AV}{T:Aa}(h:Cq b s v T):v.isCell=true∧v.cells=[v]:=by
 obtain⟨a,cap,rfl,_⟩:=h
 exact⟨rfl,rfl⟩
theorem QN{s:AE}{i o:Nat}{c0 c1:AV}(h0:load1 s i o=some c0)(h1:load1 s i (o+1)=some c1):loadN s i o 2=some [c0,c1]:=by
 unfold load1 at h0 h1
 cases hr:rowAt s i with
 | none=>rw[hr]at h0;cases h0
 | some r =>
  rw[hr]at h0 h1
  simp only[Option.bind_some]at h0 h1
  obtain⟨g0,h0⟩:=AI h0
  obtain⟨g1,h1⟩:=AI h1
  have hlt:o+1<r.n:=by simpa[rJ]using g1
  simp[loadN,hr,AG,A2 (show o+2≤r.n by omega),Ak.take,h0,h1]
def stepT(cs:List (List Int))(x:Bool×List Int):List (List Int):=if x.1 then NS cs x.2 else cs++[x.2]
def Bo(T:Aa):List (List Int):=T.foldl stepT []
theorem KT{T:Aa}{k:Nat}{x:Bool×List Int}(h:T[k]? = some x):Bo (T.take (k+1))=stepT (Bo (T.take k)) x:=by
 unfold Bo
 have hlt:=AZ h
 have:T.take (k+1)=T.take k++[x]:=by
  rw[sG hlt]
  congr 2
  rw[qp hlt]at h
  injection h
 rw[this,List.foldl_append];rfl
theorem RX{α:Type}{l:List α}{o:Option Nat}{x:α}(h:x∈PK l o):x∈l:=by
 cases o with
 | none=>exact h
 | some k =>
  rcases sE.1 h with h | h
  ·exact rF h
  ·exact sY h
theorem RW{α:Type}{l:List α}{o:Option Nat}:(PK l o).length≤l.length:=by
 cases o with
 | none=>exact qg _
 | some k=>show(l.take k++l.drop (k+1)).length≤_;simp;omega
theorem IW         : ∀ {T : Aa}      {L : List Int}, L ∈ Bo     T → ∃ d, (d, L) ∈ T := by
  have:∀ (T:Aa) (cs:List (List Int)) (L:List Int),L∈T.foldl stepT cs→L∈cs∨∃d,(d,L)∈T:=by
    intro T
    induction T with
    | nil=>intro cs L h;exact .inl h
    | cons x T ih =>
      intro cs L h
      rcases ih _ L h with h | ⟨d,h⟩
      · obtain⟨d,M⟩:=x
        unfold stepT at h
        cases d with
        | true=>exact .inl (RX h)
        | false =>
          rcases sE.1 h with h | h
          · exact .inl h
          · have:L=M:=by simpa using h
            exact .inr ⟨false,by rw[this];exact ql⟩
      · exact .inr ⟨d,qo _ h⟩
  intro T L h
  exact(this T [] L h).resolve_left (fun h=>by cases h)
theorem Tb         : ∀ {T : Aa},      (Bo     T).length ≤ T.length := by
  have:∀ (T:Aa) (cs:List (List Int)),(T.foldl stepT cs).length≤cs.length+T.length:=by
    intro T
    induction T with
    | nil=>intro cs;exact qg _
    | cons x T ih =>
      intro cs
      refine qs (ih _) ?_
      have:(stepT cs x).length≤cs.length+1:=by
        unfold stepT
        split
        · exact qs RW (by omega)
        · simp
      simp only[qx]
      omega
  intro T
  have:=this T []
  rw[rS,qq]at this
  exact this
def ED(s:AE)(v:AV)(us:List AV):Prop:=(∃a,v=.slice a us.length (some us.length)∧Bz s v us.length 1 us []) ∨
 (∃i Z r,v=.slice (some (i,0)) us.length none∧s.heap.get i=some (.row r)∧Hw r (us++Z)∧r.sz=1∧0<(us++Z).length∧i<s.next)
theorem ED.nil(s:AE):ED s (.slice none 0 (some 0)) []:=.inl ⟨none,rfl,Bz.nil s 1⟩
theorem ED.frame{s s':AE}{v:AV}{us:List AV}(h:ED s v us)(hn:s.next≤s'.next)(k:∀j,j<s.next→slot v=some j→s'.heap.get j=s.heap.get j):ED s' v us:=by
 rcases h with⟨a,rfl,h2⟩ | ⟨i,Z,r,rfl,h2,h3,h4,h5,h6⟩
 ·exact .inl ⟨a,rfl,h2.frame hn fun j hj=>k j (h2.slot_lt j hj) hj⟩
 ·exact .inr ⟨i,Z,r,rfl,by rw[k i h6 rfl];exact h2,h3,h4,h5,by omega⟩
theorem ED.slice{s:AE}{v:AV}{us:List AV}(h:ED s v us):AJ s.next s v us:=by
 rcases h with⟨a,rfl,h2⟩ | ⟨i,Z,r,rfl,h2,h3,h4,h5,h6⟩
 ·obtain⟨a',cap,e,hc⟩:=h2.cells
  exact⟨a',cap,e,hc⟩
 ·refine⟨_,_,rfl,fun k u hk=>⟨i,0,rfl,h6,?_⟩⟩
  have hlt:=AZ hk
  rw[qq]
  exact BX h2 (by rw[h3.1];simp;omega) (h3.2 k u (by rw[qv hlt];exact hk))
theorem ED.len{s:AE}{v:AV}{us:List AV}(h:ED s v us)(s':AE):As Try.prog s' 22 v=some (iv (us.length:Int)):=by
 obtain⟨a,cap,rfl,_⟩:=h.slice
 exact AW Try.underlying22
set_option maxRecDepth 4000 in
theorem ED.full{s:AE}{v:AV}{us:List AV}(h:ED s v us):
    ∃a,AU Try.prog 22 false true true s [v,iv (us.length:Int),iv (us.length:Int)]=some (.slice a us.length (some us.length))∧Bz s (.slice a us.length (some us.length)) us.length 1 us []∧slot (.slice a us.length (some us.length))=slot v:=by
  have hb:∀n:Nat,us.length≤n→Au (iv (us.length:Int)) n=some us.length:=fun n hn=>by simp[Au,Cx,Bc,AG,A2 hn]
  have hb':=hb us.length (qg _)
  rcases h with⟨a,rfl,h2⟩ | ⟨i,Z,r,rfl,h2,h3,h4,h5,h6⟩
  · refine⟨a,?_,h2,rfl⟩
    show An Try.prog s 22 (.slice a us.length (some us.length)) none (some (iv (us.length:Int))) (some (iv (us.length:Int)))=_
    cases a with
    | none=>simp[An,Try.underlying22,Ba,hb',AG]
    | some io =>
      obtain⟨i,o⟩:=io
      cases hz:Nat.beq us.length 0<;>simp[An,Try.underlying22,Ba,hb',AG,hz]
  · refine ⟨some (i, 0), ?_, .inl ⟨_, rfl, rfl, by omega, (fun e => by cases e), fun i' o' e => ?_⟩, rfl⟩
    · show An Try.prog s 22 (.slice (some (i,0)) us.length none) none (some (iv (us.length:Int))) (some (iv (us.length:Int)))=_
      have hn:r.n=us.length+Z.length:=by rw[h3.1];simp
      have hb0:=hb r.n (by omega)
      have hpos:0<r.n:=by simp at h5;omega
      cases hz:Nat.beq us.length 0<;>simp[An,Try.underlying22,Ba,rowAt,h2,h4,hb',hb0,AG,A2 (qm r.n),show Nat.beq 1 0=false from rfl,LG hpos,hz]
    · injection e with e
      injection e with e1 e2
      subst e1;subst e2
      refine⟨h6,?_⟩
      have:=CY h2 h3 0 us (by simp) (fun j u hj=>by rw[qq,qv (AZ hj)];exact hj)
      rw[rC];exact this
theorem ED.of_dest{s:AE}{v:AV}{us:List AV}{O:List Nat}(h:Bz s v us.length 1 us O)(h0:0<us.length):ED s v us:=by
  rcases h with⟨a,rfl,rfl,h3,h4,h5⟩ | ⟨i,p,rfl,h6,h7⟩
  · exact .inl ⟨a,rfl,.inl ⟨a,rfl,rfl,h3,h4,h5⟩⟩
  · rcases h6.ex with ⟨e', _⟩ | ⟨_, q1, q2, q3, r, q4, q5, q6, q7, q8, q9⟩
    · cases e'
    · exact .inr ⟨i,[],r,rfl,q4,by rw[rl];exact q5,q8,by simpa using h0,q2⟩
def Dg(l:Nat)(s s':AE):Prop:=s.next≤s'.next∧∀x,x<s.next→x≠l→s'.heap.get x=s.heap.get x
theorem Dg.old{l:Nat}{s s':AE}(h:Dg l s s')(hl:l≤s.next):Ao l s s':=⟨h.1,fun x hx=>h.2 x (by omega) (by omega)⟩
theorem Ao.but{l:Nat}{s s':AE}(h:Ao s.next s s'):Dg l s s':=⟨h.1,fun x hx _=>h.2 x hx⟩
theorem Dg.trans{l:Nat}{s s1 s2:AE}(h:Dg l s s1)(k:Dg l s1 s2):Dg l s s2:=⟨qs h.1 k.1,fun x hx hl=>(k.2 x (qw hx h.1) hl).trans (h.2 x hx hl)⟩
def FL(T:Aa):Prop:=T.length≤900∧∀x∈T,Hy x.2
theorem FL.learn{T:Aa}(h:FL T)(k:Nat):(∀L∈Bo (T.take k),Hy L)∧(Bo (T.take k)).length≤900:=by
  refine⟨fun L hL=>?_,?_⟩
  · obtain⟨d,hd⟩:=IW hL
    exact h.2 _ (rF hd)
  · have := Tb         (T := T.take k)
    have h1:=h.1
    have:(T.take k).length≤T.length:=by simp;omega
    omega
structure Fh(b l:Nat)(s0 s:AE)(T:Aa)(k:Nat)(v:AV):Prop where
 ex:∃us,ED s v us∧Ag b s us (Bo (T.take k))∧slot v≠some l
 old:Ao l s0 s
 lt:l<s.next
theorem bj{s:AE}{v:AV}{n:Nat}{us:List AV}{O:List Nat}(hd:Bz s v n 1 us O)(hl:n≤1000000000){x:AV}(hc:x.isCell=true):
  ∃v' s' O',AY Try.prog (newObj s (AL 23 1 [x])) [22,22] [v,.slice (some (s.next,0)) 1 (some 1)]=some (v',s')∧Bz s' v' (n+1) 1 (us++[x]) O'∧s.next≤s'.next ∧
   (∀j,j<s.next→j ∉ O→s'.heap.get j=s.heap.get j)∧(∀j∈O',j∈O∨s.next<j)∧(∀j,slot v'=some j→slot v=some j∨s.next<j):=by
 have c1:=EU (P:=Try.prog) (e:=23) (s:=newObj s (AL 23 1 [x])) (n:=1) (cap:=some 1) (sz:=1) 23 1 (by rw[AK,if_pos rfl]) rfl
 obtain⟨v',s',O',h1,h2,h3,h4,h5,h6,h7⟩:=(hd.new (AL 23 1 [x])).append (P:=Try.prog) (st:=22) (xt:=22) Try.underlying22 Ba OG (by decide) (HR 22 23 Try.underlying22) Mt c1 rfl (by simp[Ae,hc]) (by omega) (by omega)
 have hn:(newObj s (AL 23 1 [x])).next=s.next+1:=rfl
 refine⟨v',s',O',h1,h2,by omega,?_,?_,?_⟩
 ·intro j hj ho
  rw[h5 j (by omega) ho,AK,if_neg (by omega)]
 ·intro j hj
  exact(h6 j hj).imp id (fun h=>by omega)
 ·intro j hj
  exact(h7 j hj).imp id (fun h=>by omega)
set_option maxRecDepth 16000 in
theorem RM          {E : BI}  (hE : Aq   E) {b l bx : Nat} {s0 : AE}  {v : AV} {T : Aa}      (hT : Cq      b s0 v T) (hP : FL     T) (hbl : b ≤ l) (hbx : Ap   s0 bx v) (hbxl : bx < l) {LI : Nat → AE  → Prop} {Fin : AE  → Prop}
    (hframe:∀k s s',LI k s→Dg l s s'→l<s.next→s'.heap.get l=s.heap.get l→LI k s')
    (hround:∀ (k:Nat) (s:AE) (w:AV) (K:AV→AE→Prop),k<T.length→Fh b l s0 s T k w→LI k s→(∀s',Dg l s s'→LI (k+1) s'→K (.bool true) s')→(∀s',Fin s'→K (.bool false) s')→WR E l [iv (k:Int),w] K s)
    {Q:A9→Prop}:
    ∀ (t : List (Bool × List Int)) (k : Nat) (s : AE)  (w x3 x4 x8 x9 x10 : AV), T.drop k = t → k ≤ T.length → Fh      b l s0 s T k w → LI k s →
      (∀s' w' y3 y4 y8 y9 y10,Fh b l s0 s' T T.length w'→LI T.length s'→Q ⟨.exit 0,[.yield l,.ptr (some (bx,0)),w',y3,y4,v,iv (T.length:Int),iv (T.length:Int),y8,y9,y10],[],s'⟩) →
      (∀s' y2 y3 y4 y7 y8 y9 y10,Fin s'→Q ⟨.ret,[.yield l,.ptr (some (bx,0)),y2,y3,y4,v,iv (T.length:Int),y7,y8,y9,y10],[],s'⟩) →
      WC E none (.loop Pn) Q [.yield l,.ptr (some (bx,0)),w,x3,x4,v,iv (T.length:Int),iv (k:Int),x8,x9,x10] [] s:=by
  intro t
  induction t with
  | nil =>
    intro k s w x3 x4 x8 x9 x10 hd hk hat hli hend hret
    have:=Cw hd hk
    subst this
    refine WC.loop' ?_
    simp only[Pn,Zm,rG,decide_false,Qa,Qb,Qc,Qd,Qe,Qf,Qg,Qh,Qi,Qj,Qk,Ql,Qm,Qn,true_and,and_true,Qo,Qp,Qq,Qr,Qs,Qt,Qu,Qv,Qw,Qx,Qy,Qz,Ra,Rb,Rc,Rd,Re,Rf,Rg,Rh,Ri,Rj,Rk,Rl,Rm,Ya,Yb,Yc,Rn,Ro,Rp,Yd,Ye,Rq,Rs,Rt,Ru,Rv,Rw,Rx]
    exact hend s w _ _ _ _ _ hat hli
  | cons x t ih =>
    intro k s w x3 x4 x8 x9 x10 hd hk hat hli hend hret
    obtain⟨d,L⟩:=x
    obtain⟨hlt,hx,hd'⟩:=B0 hd
    have hT1:=hP.1
    have hkk:decide ((k:Int)<(T.length:Int))=true:=decide_eq_true (by omega)
    have e3:=Ay Try.prog 3 (k:Int) 1 ⟨by omega,by omega⟩
    have hcast:((k:Int)+1)=((k+1:Nat):Int):=by omega
    obtain⟨a,cap,hv,hc⟩:=hT.old hat.old hbl
    obtain⟨i,o,u,ha,hi,hl1,hl2,hu⟩:=hc k d L hx
    have e1:AD Try.prog 33 v (iv (k:Int))=some (.ptr (some (i,o+k * 2))):=by rw[hv,ha];exact At Try.underlying33 HS hlt
    have e2:AC Try.prog s 27 (.ptr (some (i,o+k * 2)))=some (.agg [.bool d,u]):=by simp[AC,kN,HS,QN hl1 hl2]
    have hal:BF Try.prog 27=some (AL 27 0 [.bool false,.slice none 0 (some 0)],.ptr):=by simp[BF,PN,AV.cells]
    have hmv:∀i,Made.val i .ptr=.ptr (some (i,0)):=fun _=>rfl
    generalize hs1:newObj s (AL 27 0 [.bool false,.slice none 0 (some 0)])=s1
    have n1:s1.next=s.next+1:=by rw[← hs1];rfl
    have o1:Ao s.next s s1:=by rw[← hs1];exact Ao.new s _
    have bx1:FJ s1 s.next (.bool false) (.slice none 0 (some 0)):=by
      obtain⟨r,h1,h2,h3,h4,h5,h6⟩:=BN 27 0 [.bool false,.slice none 0 (some 0)]
      exact⟨r,by rw[← hs1,AK,if_pos rfl,h1],h2,h5,h6⟩
    obtain⟨s2,g1,g2,g3,g4⟩:=bx1.store (d0:=.bool d) (d1:=u) rfl hu.isCell.1
    have o2:Dg l s s2:=⟨by omega,fun x hx _=>by rw[g4 x (by omega),o1.2 x hx]⟩
    have hltl:=hat.lt
    have l2:LI k s2:=hframe k s s2 hli o2 hltl (by rw[g4 l (by omega),o1.2 l hltl])
    have at2:Fh b l s0 s2 T k w:=by
      obtain⟨us,h1,h2,h3⟩:=hat.ex
      exact⟨⟨us,h1.frame o2.1 fun j hj hs=>by rw[g4 j (by omega),o1.2 j hj],h2.old ((o2.old (by omega)).mono hbl),h3⟩,hat.old.trans (o2.old (by omega)),by omega⟩
    refine WC.loop' ?_
    generalize hW:WC E none (Ac.loop Pn) Q=W
    simp only[Pn,Zm,jW,hkk,e1,e2,hal,hmv,hs1,BW,g1,AS,jX,Qe,Qa,Qb,Qc,Qd,Qe,Qf,Qg,Qh,Qi,Qj,Qk,Ql,Qm,Qn,true_and,and_true,Qo,Qp,Qq,Qr,Qs,Qt,Qu,Qv,Qw,Qx,Qy,Qz,Ra,Rb,Rc,Rd,Re,Rf,Rg,Rh,Ri,Rj,Rk,Rl,Rm,Ya,Yb,Yc,Rn,Ro,Rp,Yd,Ye,Rq,Rs,Rt,Ru,Rv,Rw,Rx]
    refine hround k s2 w _ hlt at2 l2 ?_ ?_
    · intro s3 o3 l3
      have hlb:FJ s3 s.next (.bool d) u:=g2.keep (o3.2 s.next (by omega) (by omega))
      have ld0:AC Try.prog s3 4 (.ptr (some (s.next,0)))=some (.bool d):=A0 Wy hlb.load0
      have ld1:AC Try.prog s3 23 (.ptr (some (s.next,0+1)))=some u:=A0 DA hlb.load1
      have old3:Ao l s0 s3:=at2.old.trans (o3.old (by omega))
      have hu3:AJ b s3 u (A3 L):=hu.old ((o2.old (by omega)).trans (o3.old (by omega))) hbl
      obtain⟨us,h1,h2,h3⟩:=at2.ex
      have k1:ED s3 w us:=h1.frame o3.1 fun j hj hs=>o3.2 j hj (fun e=>h3 (by rw[hs,e]))
      have k2:Ag b s3 us (Bo (T.take k)):=h2.old ((o3.old (by omega)).mono hbl)
      have hlen:us.length≤900:=by rw[k2.1];exact(hP.learn k).2
      have hlt3:l<s3.next:=by have:=o3.1;omega
      have hPL:Hy L:=hP.2 _ (qj hx)
      cases d with
      | true =>
        simp only[Bool.not_true,Zn,GR,ld0,jY,IS,ld1,Qa,Qb,Qc,Qd,Qe,Qf,Qg,Qh,Qi,Qj,Qk,Ql,Qm,Qn,true_and,and_true,Qo,Qp,Qq,Qr,Qs,Qt,Qu,Qv,Qw,Qx,Qy,Qz,Ra,Rb,Rc,Rd,Re,Rf,Rg,Rh,Ri,Rj,Rk,Rl,Rm,Ya,Yb,Yc,Rn,Ro,Rp,Yd,Ye,Rq,Rs,Rt,Ru,Rv,Rw,Rx]
        refine(TR hE (b:=b) (by omega) k1.slice k2 (hP.learn k).1 (by omega) hPL hu3).mono ?_
        rintro r s4 ⟨us',hr',hdis,ho4⟩
        simp only[Zo,e3,hcast,Qa,Qb,Qc,Qd,Qe,Qf,Qg,Qh,Qi,Qj,Qk,Ql,Qm,Qn,true_and,and_true,Qo,Qp,Qq,Qr,Qs,Qt,Qu,Qv,Qw,Qx,Qy,Qz,Ra,Rb,Rc,Rd,Re,Rf,Rg,Rh,Ri,Rj,Rk,Rl,Rm,Ya,Yb,Yc,Rn,Ro,Rp,Yd,Ye,Rq,Rs,Rt,Ru,Rv,Rw,Rx]
        rw[← hW]
        have hn4:=ho4.1
        refine ih (k+1) s4 r _ _ _ _ _ hd' hlt ⟨⟨us',?_,by rw[KT hx];exact hr',?_⟩,old3.trans (ho4.mono (by omega)),by omega⟩ (hframe (k+1) s3 s4 l3 ho4.but hlt3 (ho4.2 l hlt3)) hend hret
        · rcases hdis with ⟨rfl, rfl⟩ | ⟨i, Z, rfl, ⟨rw1, q1, q2, q3, q4, q5⟩, hZ, hi1, hi2⟩
          · exact k1.frame hn4 fun j hj _=>ho4.2 j hj
          · refine .inr ⟨i,Z,rw1,rfl,q1,q2,q5,?_,hi2⟩
            have:=List.length_pos_iff.2 hZ
            simp;omega
        · rcases hdis with ⟨rfl, rfl⟩ | ⟨i, Z, rfl, hz, hZ, hi1, hi2⟩
          · exact h3
          · intro e
            simp only[slot]at e
            injection e with e
            omega
      | false =>
        obtain⟨a',f1,f2,f3⟩:=k1.full
        have hln:=k1.len s3
        have b1:=CO (P:=Try.prog) (t:=22) (v:=u) Try.underlying22 Ba RY rfl hu.isCell.2
        have hms:∀ (m:Nat) (i:Nat),Made.val i (.slice m)=.slice (some (i,0)) m (some m):=fun _ _=>rfl
        obtain⟨v',s4,O',p1,p2,p3,p4,p5,p6⟩:=bj f2 (by omega) hu.isCell.1
        simp only[Bool.not_true,Zn,GR,ld0,jZ,hln,f1,IS,ld1,b1,hms,p1,Zo,e3,hcast,Qa,Qb,Qc,Qd,Qe,Qf,Qg,Qh,Qi,Qj,Qk,Ql,Qm,Qn,true_and,and_true,Qo,Qp,Qq,Qr,Qs,Qt,Qu,Qv,Qw,Qx,Qy,Qz,Ra,Rb,Rc,Rd,Re,Rf,Rg,Rh,Ri,Rj,Rk,Rl,Rm,Ya,Yb,Yc,Rn,Ro,Rp,Yd,Ye,Rq,Rs,Rt,Ru,Rv,Rw,Rx]
        rw[← hW]
        have ho4:Ao s3.next s3 s4:=⟨p3,fun x hx=>p4 x hx (fun h=>by cases h)⟩
        have hn4:=ho4.1
        have k4:Ag b s4 us (Bo (T.take k)):=k2.old (ho4.mono (by omega))
        refine ih (k+1) s4 v' _ _ _ _ _ hd' hlt ⟨⟨us++[u],?_,?_,?_⟩,old3.trans (ho4.mono (by omega)),by omega⟩ (hframe (k+1) s3 s4 l3 ho4.but hlt3 (ho4.2 l hlt3)) hend hret
        · exact ED.of_dest (by simpa using p2) (by simp)
        · rw[KT hx]
          exact k4.append (Ag.one (hu3.old (ho4.mono (by omega)) (qg _)))
        · intro e
          rcases p6 l e with h | h
          · rw[f3]at h;exact h3 h
          · omega
    · intro s3 hf
      simp only[Bool.not_false,Qa,Qb,Qc,Qd,Qe,Qf,Qg,Qh,Qi,Qj,Qk,Ql,Qm,Qn,true_and,and_true,Qo,Qp,Qq,Qr,Qs,Qt,Qu,Qv,Qw,Qx,Qy,Qz,Ra,Rb,Rc,Rd,Re,Rf,Rg,Rh,Ri,Rj,Rk,Rl,Rm,Ya,Yb,Yc,Rn,Ro,Rp,Yd,Ye,Rq,Rs,Rt,Ru,Rv,Rw,Rx]
      exact hret s3 _ _ _ _ _ _ _ hf
set_option maxRecDepth 16000 in
theorem Wi{E:BI}(hE:Aq E){b l bx:Nat}{s0:AE}{v:AV}{T:Aa}(hT:Cq b s0 v T)(hP:FL T)(hbl:b≤l)(hbx:Ap s0 bx v)(hbxl:bx<l)(hl:l<s0.next){LI:Nat→AE→Prop}{Fin:AE→Prop}
  (hframe:∀k s s',LI k s→Dg l s s'→l<s.next→s'.heap.get l=s.heap.get l→LI k s') (hli:LI 0 s0)
  (hround:∀ (k:Nat) (s:AE) (w:AV) (K:AV→AE→Prop),k<T.length→Fh b l s0 s T k w→LI k s→(∀s',Dg l s s'→LI (k+1) s'→K (.bool true) s')→(∀s',Fin s'→K (.bool false) s')→WR E l [iv (k:Int),w] K s)
  (hlast:∀ (s:AE) (w:AV) (K:AV→AE→Prop),Fh b l s0 s T T.length w→LI T.length s→(∀c s',Fin s'→K (.bool c) s')→WR E l [iv (T.length:Int),w] K s):
  WF E 82 [.yield l,.ptr (some (bx,0))] (fun _ s'=>Fin s') s0:=by
 have ln:∀s,As Try.prog s 33 v=some (iv (T.length:Int)):=fun s=>by obtain⟨a,cap,rfl,_⟩:=hT;exact AW Try.underlying33
 have ld:=hbx.load My
 refine hE.go mB (by decide) rfl ?_
 simp only[qX,jU,jV,ld,ln,Qa,Qb,Qc,Qd,Qe,Qf,Qg,Qh,Qi,Qj,Qk,Ql,Qm,Qn,true_and,and_true,Qo,Qp,Qq,Qr,Qs,Qt,Qu,Qv,Qw,Qx,Qy,Qz,Ra,Rb,Rc,Rd,Re,Rf,Rg,Rh,Ri,Rj,Rk,Rl,Rm,Ya,Yb,Yc,Rn,Ro,Rp,Yd,Ye,Rq,Rs,Rt,Ru,Rv,Rw,Rx]
 refine RM hE hT hP hbl hbx hbxl hframe hround T 0 s0 _ _ _ _ _ _ rfl (qm _) ⟨⟨[],ED.nil s0,Ag.nil _ _,fun h=>by cases h⟩,Ao.refl _ _,hl⟩ hli ?_ ?_
 ·intro s' w' y3 y4 y8 y9 y10 hat hl'
  have ld':=(hbx.keep (hat.old.2 bx hbxl)).load My
  simp only[if_true,Zl,ld',ln,Qe,Qa,Qb,Qc,Qd,Qe,Qf,Qg,Qh,Qi,Qj,Qk,Ql,Qm,Qn,true_and,and_true,Qo,Qp,Qq,Qr,Qs,Qt,Qu,Qv,Qw,Qx,Qy,Qz,Ra,Rb,Rc,Rd,Re,Rf,Rg,Rh,Ri,Rj,Rk,Rl,Rm,Ya,Yb,Yc,Rn,Ro,Rp,Yd,Ye,Rq,Rs,Rt,Ru,Rv,Rw,Rx]
  refine hlast s' w' _ hat hl' fun c s1 h1=>?_
  simp only[Qa,Qb,Qc,Qd,Qe,Qf,Qg,Qh,Qi,Qj,Qk,Ql,Qm,Qn,true_and,and_true,Qo,Qp,Qq,Qr,Qs,Qt,Qu,Qv,Qw,Qx,Qy,Qz,Ra,Rb,Rc,Rd,Re,Rf,Rg,Rh,Ri,Rj,Rk,Rl,Rm,Ya,Yb,Yc,Rn,Ro,Rp,Yd,Ye,Rq,Rs,Rt,Ru,Rv,Rw,Rx]
  exact h1
 ·intro s' y2 y3 y4 y7 y8 y9 y10 h1
  simp only[Qa,Qb,Qc,Qd,Qe,Qf,Qg,Qh,Qi,Qj,Qk,Ql,Qm,Qn,true_and,and_true,Qo,Qp,Qq,Qr,Qs,Qt,Qu,Qv,Qw,Qx,Qy,Qz,Ra,Rb,Rc,Rd,Re,Rf,Rg,Rh,Ri,Rj,Rk,Rl,Rm,Ya,Yb,Yc,Rn,Ro,Rp,Yd,Ye,Rq,Rs,Rt,Ru,Rv,Rw,Rx]
  exact h1
theorem UA{E:BI}(hE:Aq E){s:AE}{v:AV}(hv:v.cells=[v]):WF E 54 [v] (fun r s'=>r=.func 82 [] [.ptr (some (s.next,0))]∧s'=newObj s (AL 33 0 [v])) s:=by
 refine hE.go lU (by decide) rfl ?_
 have hptr:∀i,Made.val i .ptr=.ptr (some (i,0)):=fun _=>rfl
 have hbox:Ce 33 v=some (AL 33 0 [v],.ptr):=by simp[Ce,hv]
 simp only[qI,hH,hY,hbox,hptr,rn,rf,Qa,Qb,Qc,Qd,Qe,Qf,Qg,Qh,Qi,Qj,Qk,Ql,Qm,Qn,true_and,and_true,Qo,Qp,Qq,Qr,Qs,Qt,Qu,Qv,Qw,Qx,Qy,Qz,Ra,Rb,Rc,Rd,Re,Rf,Rg,Rh,Ri,Rj,Rk,Rl,Rm,Ya,Yb,Yc,Rn,Ro,Rp,Yd,Ye,Rq,Rs,Rt,Ru,Rv,Rw,Rx]
theorem Wf{s:AE}{a:Option (Nat×Nat)}{cap:Option Nat}:Bg Try.prog s 23 1 (.slice a 0 cap)=some (0,[]):=by
 cases a with
 | none=>rfl
 | some io=>obtain⟨i,o⟩:=io;rfl
theorem AJ.src0{b:Nat}{s:AE}{v:AV}{cs:List AV}(h:AJ b s v cs):∃a cap,v=.slice a cs.length cap∧Bg Try.prog s 23 1 v=some (cs.length,cs):=by
 obtain⟨a,cap,rfl,hc⟩:=h
 refine⟨a,cap,rfl,?_⟩
 cases cs with
 | nil=>exact Wf
 | cons x cs=>exact AJ.src hc rfl (by simp)
theorem VC{s:AE}{i b:Nat}{A Z add:List AV}{u:AV}(h:BG s i (A++Z))(hu:AJ b s u add)(hfit:add.length≤Z.length)(hc:Ae add=true)(hl:A.length+add.length≤1000000):
  ∃s',AY Try.prog s [22,22] [.slice (some (i,0)) A.length none,u]=some (.slice (some (i,0)) (A++add).length none,s')∧BG s' i ((A++add)++Z.drop add.length)∧s'.next=s.next∧∀x,x≠i→s'.heap.get x=s.heap.get x:=by
 obtain⟨a,cap,rfl,hsrc⟩:=hu.src0
 have hx:BC Try.prog 22=true:=HR 22 23 Try.underlying22
 rw[BT Try.underlying22 Ba OG (by decide) hx hsrc hc (by omega) (by omega)]
 obtain⟨r,q1,q2,q3,q4,q5⟩:=h
 have hrow:rowAt s i=some r:=by simp[rowAt,q1]
 have h:BG s i (A++Z):=⟨r,q1,q2,q3,q4,q5⟩
 have hfit':Nat.ble (0+(A.length+add.length) * 1) r.n=true:=A2 (by rw[q2.1];simp;omega)
 simp only[appTo,hrow,Option.bind_some,DG,q5,Dj rfl,AG,cond_true,hfit',qn]
 cases hd:add with
 | nil=>exact⟨s,rfl,by simpa using h,rfl,fun _ _=>rfl⟩
 | cons y T =>
  rw[← hd]
  obtain⟨s1,g1,g2,g3,g4⟩:=h.fill (o:=0+A.length * 1) (vs:=add) (by rw[hd];simp) (by simp;omega) hc
  refine⟨s1,by rw[g1];rfl,?_,g3,g4⟩
  have e1:0+A.length * 1=A.length:=by omega
  rw[e1,sU rfl,← rv,List.drop_left' rfl]at g2
  exact g2
theorem U6{s:AE}{b:Nat}{u:AV}(hu:AJ b s u []):AY Try.prog s [22,22] [.slice none 0 (some 0),u]=some (.slice none 0 (some 0),s):=by
 obtain⟨a,cap,rfl,hsrc⟩:=hu.src0
 rw[BT Try.underlying22 Ba OG (by decide) (HR 22 23 Try.underlying22) hsrc rfl (by simp) (by simp)]
 rfl
theorem Ip(n:Nat):Ae (Ht [AV.slice none 0 (some 0)] n)=true:=by
 induction n with
 | zero=>rfl
 | succ n ih=>exact Ge rfl ih
theorem O7(n:Nat):(Ht [AV.slice none 0 (some 0)] n).length=n:=by
 induction n with
 | zero=>rfl
 | succ n ih=>show([_]++Ht _ n).length=_;rw[qn,ih];simp;omega
set_option maxRecDepth 8000 in
theorem Vl{E:BI}(hE:Aq E){s:AE}{n:Nat}(hn:n≤1000000):
  WF E 84 [.slice none 0 (some 0),iv (n:Int)] (fun r s'=>(n=0∧r=.slice none 0 (some 0)∧s'=s∨∃i Z,0<n∧r=.slice (some (i,0)) 0 none∧BG s' i Z∧Z.length=n∧s.next≤i∧i<s'.next∧Ae Z=true)∧Ao s.next s s') s:=by
 refine hE.go mD (by decide) rfl ?_
 have h0:decide ((n:Int)<0)=false:=decide_eq_false (by omega)
 have hcap:∀s,Mz Try.prog s 22 (.slice none 0 (some 0))=some (iv 0):=fun s=>by simp[Mz,Try.underlying22]
 have hln:∀s,As Try.prog s 22 (.slice none 0 (some 0))=some (iv 0):=fun s=>by simp[As,Try.underlying22]
 have e1:=CV Try.prog 3 0 0 ⟨by decide,by decide⟩
 have e2:=CV Try.prog 3 (n:Int) 0 ⟨by omega,by omega⟩
 have e0:(0:Int) - 0=0:=rfl
 have en:(n:Int) - 0=(n:Int):=by omega
 cases rh n with
 | inl hz =>
  subst hz
  have h1:decide ((0:Int)<((0:Nat):Int))=false:=rfl
  simp only[pZ,Zp,Zq,Zr,Zs,Zt,h0,hcap,hln,e1,e0,e2,en,h1,Qa,Qb,Qc,Qd,Qe,Qf,Qg,Qh,Qi,Qj,Qk,Ql,Qm,Qn,true_and,and_true,Qo,Qp,Qq,Qr,Qs,Qt,Qu,Qv,Qw,Qx,Qy,Qz,Ra,Rb,Rc,Rd,Re,Rf,Rg,Rh,Ri,Rj,Rk,Rl,Rm,Ya,Yb,Yc,Rn,Ro,Rp,Yd,Ye,Rq,Rs,Rt,Ru,Rv,Rw,Rx]
  exact⟨.inl trivial,Ao.refl _ _⟩
 | inr hp =>
  have h1:decide ((0:Int)<(n:Int))=true:=decide_eq_true (by omega)
  have hb0:∀m,Au (iv 0) m=some 0:=fun m=>by simp[Au,Cx,Nd,AG,A2 (qm m)]
  have hs0:AU Try.prog 22 false true false s [.slice none 0 (some 0),iv 0]=some (.slice none 0 (some 0)):=by
   show An Try.prog s 22 (.slice none 0 (some 0)) none (some (iv 0)) none=_
   simp[An,Try.underlying22,Ba,hb0]
  have hint:ME Try.prog 3=true:=by simp[ME,Try.underlying3]
  have hsrc:Bg Try.prog s 23 1 (iv (n:Int))=some (n,Ht [AV.slice none 0 (some 0)] n):=by
   show AG (Nat.ble n 1099511627776 && Nat.blt 0 n) ((CF Try.prog 23).bind fun z=>AG (Nat.beq z.cells.length 1) (some (n,Ht z.cells n)))=_
   simp[A2 (show n≤1099511627776 by omega),LG hp,AG,RY,AV.cells]
  have happ:AY Try.prog s [22,3] [.slice none 0 (some 0),iv (n:Int)]=some (.slice (some (s.next,0)) n none,newObj s (CL 23 1 (Ak.fill .leaf 0 (Ht [AV.slice none 0 (some 0)] n)) n none)):=by
   simp[AY,Try.underlying22,Ba,OG,AG,hint,hsrc,Ip,A2 (show n≤1099511627776 by omega),A2 (show n * 24≤1099511627776 by omega),appTo,D0 (show n≠0 by omega),Bf,Mt,O7,show Nat.beq 1 0=false from rfl]
  generalize hs1:newObj s (CL 23 1 (Ak.fill .leaf 0 (Ht [AV.slice none 0 (some 0)] n)) n none)=s1 at happ
  have n1:s1.next=s.next+1:=by rw[← hs1];rfl
  have o1:Ao s.next s s1:=by rw[← hs1];exact Ao.new s _
  have hrow:BG s1 s.next (Ht [AV.slice none 0 (some 0)] n):=by
   refine⟨{ elem:=23,sz:=1,n,c:=Ak.fill .leaf 0 (Ht [AV.slice none 0 (some 0)] n),spare:=true,mode:=.own,par:=none,bytes:=false },by rw[← hs1,AK,if_pos rfl];rfl,⟨(O7 n).symm,fun k u hk=>?_⟩,rfl,rfl,rfl⟩
   have hlt:=AZ hk
   show(Ak.fill .leaf 0 _).get k=some u
   rw[Ak.get_fill,if_pos ⟨qm _,by omega⟩]
   simpa using hk
  have h2:=U8 Try.underlying22 Ba (n:=n) (k:=0) hrow (qm _)
  have h2':AU Try.prog 22 false true false s1 [.slice (some (s.next,0)) n none,iv 0]=some (.slice (some (s.next,0)) 0 none):=h2
  simp only[pZ,Zp,Zq,Zr,Zs,ji,Zt,h0,hcap,hln,e1,e0,e2,en,h1,hs0,happ,h2',Qa,Qb,Qc,Qd,Qe,Qf,Qg,Qh,Qi,Qj,Qk,Ql,Qm,Qn,true_and,and_true,Qo,Qp,Qq,Qr,Qs,Qt,Qu,Qv,Qw,Qx,Qy,Qz,Ra,Rb,Rc,Rd,Re,Rf,Rg,Rh,Ri,Rj,Rk,Rl,Rm,Ya,Yb,Yc,Rn,Ro,Rp,Yd,Ye,Rq,Rs,Rt,Ru,Rv,Rw,Rx]
  exact⟨.inr ⟨s.next,_,hp,rfl,hrow,O7 n,qg _,by omega,Ip n⟩,o1⟩
set_option maxRecDepth 16000 in
theorem VY{E:BI}(hE:Aq E){s:AE}{q b:Nat}{u1 u2:AV}{A B:List AV}(hq:q<s.next)(h1:load1 s q 0=some u1)(h2:load1 s q 1=some u2)(hb:b≤s.next)(hA:AJ b s u1 A)(hB:AJ b s u2 B)(hcA:Ae A=true)(hcB:Ae B=true)(hlA:A.length≤1000)(hlB:B.length≤1000):
    WF E 55 [.slice (some (q,0)) 2 (some 2)] (fun r s'=>AJ s'.next s' r (A++B)∧(∀j,slot r=some j→s.next≤j)∧Ao s.next s s') s:=by
  refine hE.go lV (by decide) rfl ?_
  have len1:∀s',As Try.prog s' 22 u1=some (iv (A.length:Int)):=fun s'=>by obtain⟨a,cap,rfl,_⟩:=hA;exact AW Try.underlying22
  have len2:∀s',As Try.prog s' 22 u2=some (iv (B.length:Int)):=fun s'=>by obtain⟨a,cap,rfl,_⟩:=hB;exact AW Try.underlying22
  have i0:=At (P:=Try.prog) (t:=110) (cap:=some 2) (i:=q) (o:=0) (len:=2) (k:=0) Try.underlying110 cN (by decide)
  have i1:=At (P:=Try.prog) (t:=110) (cap:=some 2) (i:=q) (o:=0) (len:=2) (k:=1) Try.underlying110 cN (by decide)
  have i0':AD Try.prog 110 (.slice (some (q,0)) 2 (some 2)) (iv 0)=some (.ptr (some (q,0))):=i0
  have i1':AD Try.prog 110 (.slice (some (q,0)) 2 (some 2)) (iv 1)=some (.ptr (some (q,1))):=i1
  have l1:∀s',Ao s.next s s'→AC Try.prog s' 22 (.ptr (some (q,0)))=some u1:=fun s' h=>A0 Mx (by rw[BU (h.2 q hq)];exact h1)
  have l2:∀s',Ao s.next s s'→AC Try.prog s' 22 (.ptr (some (q,1)))=some u2:=fun s' h=>A0 Mx (by rw[BU (h.2 q hq)];exact h2)
  have c01:decide ((0:Int)<2)=true:=rfl
  have c12:decide ((1:Int)<2)=true:=rfl
  have mp:decide ((2:Int)<2)=false:=rfl
  have a01:=Ay Try.prog 3 0 1 ⟨by decide,by decide⟩
  have a11:=Ay Try.prog 3 1 1 ⟨by decide,by decide⟩
  have t01:(0:Int)+1=1:=rfl
  have t11:(1:Int)+1=2:=rfl
  have t2:((2:Nat):Int)=2:=rfl
  have aA:=Ay Try.prog 3 0 (A.length:Int) ⟨by omega,by omega⟩
  have tA:(0:Int)+(A.length:Int)=(A.length:Int):=by omega
  have aB:=Ay Try.prog 3 (A.length:Int) (B.length:Int) ⟨by omega,by omega⟩
  have tB:(A.length:Int)+(B.length:Int)=((A.length+B.length:Nat):Int):=by omega
  have nA:decide ((A.length:Int)<0)=false:=decide_eq_false (by omega)
  have nB:decide (((A.length+B.length:Nat):Int)<0)=false:=decide_eq_false (by omega)
  have r0:=l1 s (Ao.refl _ _)
  have r1:=l2 s (Ao.refl _ _)
  simp only[qJ,iA,iB,iC,AW Try.underlying110,t2,Qa,Qb,Qc,Qd,Qe,Qf,Qg,Qh,Qi,Qj,Qk,Ql,Qm,Qn,true_and,and_true,Qo,Qp,Qq,Qr,Qs,Qt,Qu,Qv,Qw,Qx,Qy,Qz,Ra,Rb,Rc,Rd,Re,Rf,Rg,Rh,Ri,Rj,Rk,Rl,Rm,Ya,Yb,Yc,Rn,Ro,Rp,Yd,Ye,Rq,Rs,Rt,Ru,Rv,Rw,Rx]
  refine WC.loop' ?_
  generalize hW:WC E none (Ac.loop Pk) _=W
  simp only[Pk,Ud,ZE,ZF,ZG,ZH,c01,i0',r0,len1,aA,tA,nA,a01,t01,Qa,Qb,Qc,Qd,Qe,Qf,Qg,Qh,Qi,Qj,Qk,Ql,Qm,Qn,true_and,and_true,Qo,Qp,Qq,Qr,Qs,Qt,Qu,Qv,Qw,Qx,Qy,Qz,Ra,Rb,Rc,Rd,Re,Rf,Rg,Rh,Ri,Rj,Rk,Rl,Rm,Ya,Yb,Yc,Rn,Ro,Rp,Yd,Ye,Rq,Rs,Rt,Ru,Rv,Rw,Rx]
  rw[← hW]
  refine WC.loop' ?_
  rw[hW]
  simp only[Pk,Ud,ZE,ZF,ZG,ZH,c12,i1',r1,len2,aB,tB,nB,a11,t11,Qa,Qb,Qc,Qd,Qe,Qf,Qg,Qh,Qi,Qj,Qk,Ql,Qm,Qn,true_and,and_true,Qo,Qp,Qq,Qr,Qs,Qt,Qu,Qv,Qw,Qx,Qy,Qz,Ra,Rb,Rc,Rd,Re,Rf,Rg,Rh,Ri,Rj,Rk,Rl,Rm,Ya,Yb,Yc,Rn,Ro,Rp,Yd,Ye,Rq,Rs,Rt,Ru,Rv,Rw,Rx]
  rw[← hW]
  refine WC.loop' ?_
  rw[hW]
  simp only[Pk,Ud,mp,if_true,iD,Qa,Qb,Qc,Qd,Qe,Qf,Qg,Qh,Qi,Qj,Qk,Ql,Qm,Qn,true_and,and_true,Qo,Qp,Qq,Qr,Qs,Qt,Qu,Qv,Qw,Qx,Qy,Qz,Ra,Rb,Rc,Rd,Re,Rf,Rg,Rh,Ri,Rj,Rk,Rl,Rm,Ya,Yb,Yc,Rn,Ro,Rp,Yd,Ye,Rq,Rs,Rt,Ru,Rv,Rw,Rx]
  refine(Vl hE (n:=A.length+B.length) (by omega)).mono ?_
  rintro w s1 ⟨hw,ho1⟩
  simp only[ZD,AW Try.underlying110,t2,Qa,Qb,Qc,Qd,Qe,Qf,Qg,Qh,Qi,Qj,Qk,Ql,Qm,Qn,true_and,and_true,Qo,Qp,Qq,Qr,Qs,Qt,Qu,Qv,Qw,Qx,Qy,Qz,Ra,Rb,Rc,Rd,Re,Rf,Rg,Rh,Ri,Rj,Rk,Rl,Rm,Ya,Yb,Yc,Rn,Ro,Rp,Yd,Ye,Rq,Rs,Rt,Ru,Rv,Rw,Rx]
  have k1:=l1 s1 ho1
  have hA1:AJ b s1 u1 A:=hA.old ho1 hb
  rcases hw with⟨hz,rfl,rfl⟩ | ⟨i,Z,hp,rfl,hz,hzl,hi1,hi2,hzc⟩
  · have hA0 : A = [] := List.length_eq_zero_iff.1 (by omega)
    have hB0:B=[]:=List.length_eq_zero_iff.1 (by omega)
    subst hA0;subst hB0
    have p1:=U6 hA
    have p2:=U6 hB
    refine WC.loop' ?_
    generalize hV:WC E none (Ac.loop GO) _=V
    simp only[GO,IP,La,Lb,Lc,c01,i0',r0,p1,a01,t01,Qa,Qb,Qc,Qd,Qe,Qf,Qg,Qh,Qi,Qj,Qk,Ql,Qm,Qn,true_and,and_true,Qo,Qp,Qq,Qr,Qs,Qt,Qu,Qv,Qw,Qx,Qy,Qz,Ra,Rb,Rc,Rd,Re,Rf,Rg,Rh,Ri,Rj,Rk,Rl,Rm,Ya,Yb,Yc,Rn,Ro,Rp,Yd,Ye,Rq,Rs,Rt,Ru,Rv,Rw,Rx]
    rw[← hV]
    refine WC.loop' ?_
    rw[hV]
    simp only[GO,IP,La,Lb,Lc,c12,i1',r1,p2,a11,t11,Qa,Qb,Qc,Qd,Qe,Qf,Qg,Qh,Qi,Qj,Qk,Ql,Qm,Qn,true_and,and_true,Qo,Qp,Qq,Qr,Qs,Qt,Qu,Qv,Qw,Qx,Qy,Qz,Ra,Rb,Rc,Rd,Re,Rf,Rg,Rh,Ri,Rj,Rk,Rl,Rm,Ya,Yb,Yc,Rn,Ro,Rp,Yd,Ye,Rq,Rs,Rt,Ru,Rv,Rw,Rx]
    rw[← hV]
    refine WC.loop' ?_
    simp only[GO,IP,mp,if_true,Ss,Qa,Qb,Qc,Qd,Qe,Qf,Qg,Qh,Qi,Qj,Qk,Ql,Qm,Qn,true_and,and_true,Qo,Qp,Qq,Qr,Qs,Qt,Qu,Qv,Qw,Qx,Qy,Qz,Ra,Rb,Rc,Rd,Re,Rf,Rg,Rh,Ri,Rj,Rk,Rl,Rm,Ya,Yb,Yc,Rn,Ro,Rp,Yd,Ye,Rq,Rs,Rt,Ru,Rv,Rw,Rx]
    exact⟨⟨none,some 0,rfl,BA.nil⟩,(fun j h=>by cases h),Ao.refl _ _⟩
  · obtain⟨s2,p1,p2,p3,p4⟩:=VC (A:=[]) (Z:=Z) (by simpa using hz) hA1 (by omega) hcA (by simp;omega)
    have ho2:Ao s.next s s2:=ho1.trans ⟨by omega,fun x hx=>p4 x (by omega)⟩
    have hB2:AJ b s2 u2 B:=hB.old ho2 hb
    obtain⟨s3,g1,g2,g3,g4⟩:=VC p2 hB2 (by simp;omega) hcB (by simp;omega)
    have ho3:Ao s.next s s3:=ho2.trans ⟨by omega,fun x hx=>g4 x (by omega)⟩
    have k2:=l2 s2 ho2
    rw[rS]at p1
    refine WC.loop' ?_
    generalize hV:WC E none (Ac.loop GO) _=V
    simp only[GO,IP,La,Lb,Lc,c01,i0',k1,p1,a01,t01,Qa,Qb,Qc,Qd,Qe,Qf,Qg,Qh,Qi,Qj,Qk,Ql,Qm,Qn,true_and,and_true,Qo,Qp,Qq,Qr,Qs,Qt,Qu,Qv,Qw,Qx,Qy,Qz,Ra,Rb,Rc,Rd,Re,Rf,Rg,Rh,Ri,Rj,Rk,Rl,Rm,Ya,Yb,Yc,Rn,Ro,Rp,Yd,Ye,Rq,Rs,Rt,Ru,Rv,Rw,Rx]
    rw[← hV]
    refine WC.loop' ?_
    rw[hV]
    simp only[GO,IP,La,Lb,Lc,c12,i1',k2,g1,a11,t11,Qa,Qb,Qc,Qd,Qe,Qf,Qg,Qh,Qi,Qj,Qk,Ql,Qm,Qn,true_and,and_true,Qo,Qp,Qq,Qr,Qs,Qt,Qu,Qv,Qw,Qx,Qy,Qz,Ra,Rb,Rc,Rd,Re,Rf,Rg,Rh,Ri,Rj,Rk,Rl,Rm,Ya,Yb,Yc,Rn,Ro,Rp,Yd,Ye,Rq,Rs,Rt,Ru,Rv,Rw,Rx]
    rw[← hV]
    refine WC.loop' ?_
    simp only[GO,IP,mp,if_true,Ss,Qa,Qb,Qc,Qd,Qe,Qf,Qg,Qh,Qi,Qj,Qk,Ql,Qm,Qn,true_and,and_true,Qo,Qp,Qq,Qr,Qs,Qt,Qu,Qv,Qw,Qx,Qy,Qz,Ra,Rb,Rc,Rd,Re,Rf,Rg,Rh,Ri,Rj,Rk,Rl,Rm,Ya,Yb,Yc,Rn,Ro,Rp,Yd,Ye,Rq,Rs,Rt,Ru,Rv,Rw,Rx]
    refine⟨⟨some (i,0),none,rfl,fun k u hk=>⟨i,0,rfl,by omega,?_⟩⟩,(fun j h=>by simp only[slot]at h;injection h with h;omega),ho3⟩
    rw[qq]
    rw[rL]at g2
    exact g2.load1 (by rw[qv (AZ hk)];exact hk)
def Bl(fol:List (List Int)→List Int→Bool)(cs:List (List Int))(T:Aa):Aa→Nat→Nat×Bool
 | [],_=>(T.length,false)
 | (d,L)::t,k=>match d with
  | true=>Bl fol cs T t (k+1)
  | false=>match fol (cs++Bo (T.take k)) L with
   | false=>(k,false)
   | true=>if (Ah [] L).length=0 then (k,true)else Bl fol cs T t (k+1)
def G2(fol:List (List Int)→List Int→Bool)(cs:List (List Int))(T:Aa):Nat×Bool:=Bl fol cs T T 0
theorem Lt{a:Option (Nat×Nat)}{n:Nat}{cx:Option Nat}:E8 (.slice a n cx) (.slice a n cx)=true:=by
 cases a with
 | none=>cases cx<;>simp[E8]
 | some io=>obtain⟨i,o⟩:=io;cases cx<;>simp[E8]
theorem AJ.self{b:Nat}{s:AE}{u:AV}{cs:List AV}(h:AJ b s u cs):E8 u u=true:=by
 obtain⟨a,cap,rfl,_⟩:=h
 exact Lt
theorem Cq.self{b:Nat}{s:AE}{v:AV}{T:Aa}(h:Cq b s v T):E8 v v=true:=by
 obtain⟨a,cap,rfl,_⟩:=h
 exact Lt
theorem mU{b c:Nat}{s:AE}{v:AV}{us:List AV}{cs:List (List Int)}(h:AJ c s v us)(hr:Ag b s us cs)(hb:b≤c):R3 c s v cs:=by
 obtain⟨a,cap,rfl,hc⟩:=h
 exact⟨a,cap,by rw[hr.1],hr.rows hc hb⟩
theorem cz{b c:Nat}{s s':AE}{v w:AV}{us us':List AV}(hv:AJ b s v us)(hw:AJ c s' w us'):Ab Try.prog 110 2 (zipIdx [0,1] [v,w])=some (AL 22 1 [v,w]):=by
 obtain⟨a,cap,rfl,_⟩:=hv
 obtain⟨a',cap',rfl,_⟩:=hw
 simp[Ab,Try.underlying110,cN,AG,oz,zipIdx,DO,AV.cells,Ht]
 rfl
def Ga (v tr:AV) (n0:Nat) (x6 x7 x9 x10 x11 x12 x13:AV):List AV:=[v,tr,.ptr (some (n0,0)),.ptr (some (n0+1,0)),.ptr (some (n0+2,0)),.ptr (some (n0+3,0)),x6,x7,.func 82 [] [.ptr (some (n0+4,0))],x9,x10,x11,x12,x13]
def HG (v tr:AV) (n0:Nat) (x6 x7 x9 x10 x11 x12 x13:AV):Fg:=Hi 24 (Ga v tr n0 x6 x7 x9 x10 x11 x12 x13) #[10,11] pM pQ (n0+5)
structure Hx(v tr:AV)(n0:Nat)(s:AE):Prop where
 bc:Ap s n0 v
 bt:Ap s (n0+1) tr
 bi:Ap s (n0+2) (iv 0)
 bb:Ap s (n0+3) (.bool false)
 mrk:s.heap.get (n0+5)=some .mark
theorem Hx.old{v tr:AV}{n0 l:Nat}{s s':AE}(h:Hx v tr n0 s)(k:Ao l s s')(hl:n0+6≤l):Hx v tr n0 s':=
 ⟨h.bc.keep (k.2 _ (by omega)),h.bt.keep (k.2 _ (by omega)),h.bi.keep (k.2 _ (by omega)),h.bb.keep (k.2 _ (by omega)),(k.2 _ (by omega)).trans h.mrk⟩
def UQ(v tr:AV)(n0:Nat)(s0:AE)(R:Nat×Bool)(len:Nat)(s':AE):Prop:=Ao n0 s0 s'∧n0+6<s'.next∧s'.heap.get (n0+5)=some .mark∧∃r,A7 s' (n0+6)=some r∧MD r.state=false ∧
 ((r.pending=some .ret∧Ap s' (n0+2) (iv (R.1:Int))∧Ap s' (n0+3) (.bool R.2))∨(r.pending=none∧R=(len,false)∧Hx v tr n0 s'))
def cd(fol:List (List Int)→List Int→Bool)(cs:List (List Int))(T:Aa)(v tr:AV)(n0:Nat)(R:Nat×Bool)(k:Nat)(s:AE):Prop:=Bl fol cs T (T.drop k) k=R∧∃x6 x7 x9 x10 x11 x12 x13,A7 s (n0+6)=some (HG v tr n0 x6 x7 x9 x10 x11 x12 x13)
set_option maxRecDepth 16000 in
theorem Pu          {E : BI}  (hE : Aq   E) {sa s0 : AE}  {n0 b : Nat} {v tr : AV} {us : List AV} {cs : List (List Int)} {T : Aa}      (hn0 : sa.next = n0) (hb : b ≤ n0) (hv : AJ      n0 sa v us) (hr : Ag       b sa us cs) (hcs : PP    cs)
    (hT:Cq b sa tr T) (hP:FL T) {fol:List (List Int)→List Int→Bool} (hfol:∀k L,T[k]? = some (false,L)→∃n,D2 n (cs++Bo (T.take k)) L=some (fol (cs++Bo (T.take k)) L))
    (h0:Ao n0 sa s0) (hmem:Hx v tr n0 s0) {R:Nat×Bool} {k:Nat} {s:AE} {w:AV} {K:AV→AE→Prop} (hk:k<T.length) (hat:Fh b (n0+6) s0 s T k w) (hli:cd fol cs T v tr n0 R k s)
    (hgo:∀s',Dg (n0+6) s s'→cd fol cs T v tr n0 R (k+1) s'→K (.bool true) s') (hend:∀s',UQ v tr n0 sa R T.length s'→K (.bool false) s'):WR E (n0+6) [iv (k:Int),w] K s:=by
  obtain⟨hR,x6,x7,x9,x10,x11,x12,x13,hlp⟩:=hli
  have hz:DN (Dl E.P 24) (Ga v tr n0 x6 x7 x9 x10 x11 x12 x13) [10,11] [iv (k:Int),w]=some (Ga v tr n0 x6 x7 (iv (k:Int)) w x11 x12 x13):=by
    rw[hE.P,cT];rfl
  refine WR.round hlp hz (by rw[hE.P];exact oQ) (by rw[hE.P];exact oR) ?_
  refine EW ?_
  simp only[kv,Yh,Yi,Ga,Qa,Qb,Qc,Qd,Qe,Qf,Qg,Qh,Qi,Qj,Qk,Ql,Qm,Qn,true_and,and_true,Qo,Qp,Qq,Qr,Qs,Qt,Qu,Qv,Qw,Qx,Qy,Qz,Ra,Rb,Rc,Rd,Re,Rf,Rg,Rh,Ri,Rj,Rk,Rl,Rm,Ya,Yb,Yc,Rn,Ro,Rp,Yd,Ye,Rq,Rs,Rt,Ru,Rv,Rw,Rx]
  refine⟨_,hlp,rfl,EW ?_⟩
  generalize hs1:setObj s (n0+6) _=s1
  have n1:s1.next=s.next:=by rw[← hs1];rfl
  have l1:A7 s1 (n0+6)=some { HG v tr n0 x6 x7 x9 x10 x11 x12 x13 with state:=.busy }:=by rw[← hs1,CM]
  have hlt:=hat.lt
  have o1:Dg (n0+6) s s1:=⟨by omega,fun x _ hx=>by rw[← hs1,Ai,if_neg hx]⟩
  have old1:Ao (n0+6) s0 s1:=hat.old.trans (o1.old (by omega))
  have olda:Ao n0 sa s1:=h0.trans (old1.mono (by omega))
  have m1:=hmem.old old1 (qg _)
  obtain⟨a,cap,htv,hc⟩:=hT.old olda hb
  have hP1:=hP.1
  have hx:T[k]? = some T[k]:=qp hk
  generalize hdl:T[k]=dl at hx
  obtain⟨d,L⟩:=dl
  have hdrop:T.drop k=(d,L)::T.drop (k+1):=by rw[sO hk,hdl]
  obtain⟨i,o,u,ha,hi,hl1,hl2,hu⟩:=hc k d L hx
  have hln:∀s,As Try.prog s 33 tr=some (iv (T.length:Int)):=fun s=>by rw[htv];exact AW Try.underlying33
  have e1:AD Try.prog 33 tr (iv (k:Int))=some (.ptr (some (i,o+k * 2))):=by rw[htv,ha];exact At Try.underlying33 HS hk
  have e2:AC Try.prog s1 4 (.ptr (some (i,o+k * 2)))=some (.bool d):=A0 Wy hl1
  have ltr:=m1.bt.load My
  have hne:decide ((k:Int)=(T.length:Int))=false:=decide_eq_false (by omega)
  have hPL:Hy L:=hP.2 _ (qj hx)
  cases d with
  | true =>
    simp only[de,Ub,ltr,hln,hne,e1,GR,e2,if_true,Qa,Qb,Qc,Qd,Qe,Qf,Qg,Qh,Qi,Qj,Qk,Ql,Qm,Qn,true_and,and_true,Qo,Qp,Qq,Qr,Qs,Qt,Qu,Qv,Qw,Qx,Qy,Qz,Ra,Rb,Rc,Rd,Re,Rf,Rg,Rh,Ri,Rj,Rk,Rl,Rm,Ya,Yb,Yc,Rn,Ro,Rp,Yd,Ye,Rq,Rs,Rt,Ru,Rv,Rw,Rx]
    refine⟨_,l1,?_⟩
    refine hgo _ ?_ ⟨?_,x6,x7,x9,x10,x11,x12,x13,?_⟩
    · exact o1.trans ⟨qg _,fun x _ hx=>by rw[Ai,if_neg hx]⟩
    · rw[← hR,hdrop];rfl
    · rw[CM];rfl
  | false =>
    obtain⟨us2,hw1,hw2,hw3⟩:=hat.ex
    have hw1:ED s1 w us2:=hw1.frame o1.1 fun j hj hs=>o1.2 j hj (fun e=>hw3 (by rw[hs,e]))
    have hw2:Ag b s1 us2 (Bo (T.take k)):=hw2.old ((o1.old (by omega)).mono (by omega))
    have lcl:=m1.bc.load Mx
    have hv1:AJ n0 s1 v us:=hv.old olda (qg _)
    have hr1:Ag b s1 us cs:=hr.old (olda.mono hb)
    have hb2:=cz hv hw1.slice
    have hms:∀ (m:Nat) (i:Nat),Made.val i (.slice m)=.slice (some (i,0)) m (some m):=fun _ _=>rfl
    have e3:∀s',Ao n0 s1 s'→AC Try.prog s' 23 (.ptr (some (i,o+k * 2+1)))=some u:=fun s' h=>A0 DA (by rw[BU (h.2 i (by omega))];exact hl2)
    generalize hs2:newObj s1 (AL 22 1 [v,w])=s2
    have n2:s2.next=s1.next+1:=by rw[← hs2];rfl
    have o2:Ao s1.next s1 s2:=by rw[← hs2];exact Ao.new s1 _
    obtain⟨rr,q1,q2,_⟩:=BN 22 1 [v,w]
    have g0:load1 s2 s1.next 0=some v:=BX (by rw[← hs2,AK,if_pos rfl,q1]) (by rw[q2.1];simp) (q2.2 0 v rfl)
    have g1:load1 s2 s1.next 1=some w:=BX (by rw[← hs2,AK,if_pos rfl,q1]) (by rw[q2.1];simp) (q2.2 1 w rfl)
    have ltr2:=(m1.bt.keep (o2.2 _ (by omega))).load My
    have lcs:=hcs.1
    have hlen2:us2.length≤900:=by rw[hw2.1];exact(hP.learn k).2
    simp only[de,Ub,gA,ltr,hln,hne,e1,GR,IS,e2,lcl,hb2,hs2,hms,ltr2,e3 s2 (o2.mono (by omega)),Qa,Qb,Qc,Qd,Qe,Qf,Qg,Qh,Qi,Qj,Qk,Ql,Qm,Qn,true_and,and_true,Qo,Qp,Qq,Qr,Qs,Qt,Qu,Qv,Qw,Qx,Qy,Qz,Ra,Rb,Rc,Rd,Re,Rf,Rg,Rh,Ri,Rj,Rk,Rl,Rm,Ya,Yb,Yc,Rn,Ro,Rp,Yd,Ye,Rq,Rs,Rt,Ru,Rv,Rw,Rx]
    refine(VY hE (q:=s1.next) (b:=s1.next) (by omega) g0 g1 (by omega) ((hv1.mono (by omega)).old o2 (qg _)) (hw1.slice.old o2 (qg _)) hr1.cells hw2.cells (by rw[hr1.1];omega) (by omega)).mono ?_
    rintro r s3 ⟨hr3,_,ho3⟩
    have o13:Ao s1.next s1 s3:=o2.trans (ho3.mono (by omega))
    have ltr3:=(m1.bt.keep (o13.2 _ (by omega))).load My
    have hrows:Ag b s3 (us++us2) (cs++Bo (T.take k)):=(hr1.append hw2).old (o13.mono (by omega))
    have hu3:AJ b s3 u (A3 L):=hu.old (o13.mono (by omega)) (qg _)
    have hselfT:E8 tr tr=true:=hT.self
    have n13:=o13.1
    obtain⟨n,hn⟩:=hfol k L hx
    have hfits:VM (cs++Bo (T.take k)):=by
      refine⟨by have:=(hP.learn k).2;simp;omega,fun M hM=>?_⟩
      rcases sE.1 hM with h | h
      · have:=hcs.2 M h
        exact⟨this.1,by omega⟩
      · have:=(hP.learn k).1 M h
        exact⟨this.1,by have:=this.2.2;omega⟩
    simp only[BZ,Az,e3 s3 (o13.mono (by omega)),hu.self,ltr3,hselfT,Qa,Qb,Qc,Qd,Qe,Qf,Qg,Qh,Qi,Qj,Qk,Ql,Qm,Qn,true_and,and_true,Qo,Qp,Qq,Qr,Qs,Qt,Qu,Qv,Qw,Qx,Qy,Qz,Ra,Rb,Rc,Rd,Re,Rf,Rg,Rh,Ri,Rj,Rk,Rl,Rm,Ya,Yb,Yc,Rn,Ro,Rp,Yd,Ye,Rq,Rs,Rt,Ru,Rv,Rw,Rx]
    refine(L8 hE hfits hPL.1 (by have:=hPL.2.2;omega) (mU hr3 hrows (by omega)) (hu3.mono (by omega)) hn).mono ?_
    rintro _ s4 ⟨rfl,ho4⟩
    have o14:Ao s1.next s1 s4:=o13.trans (ho4.1.mono (by omega))
    have n14:=o14.1
    have l4:A7 s4 (n0+6)=some { HG v tr n0 x6 x7 x9 x10 x11 x12 x13 with state:=.busy }:=by rw[Ds (o14.2 _ (by omega))];exact l1
    have m4:Hx v tr n0 s4:=m1.old (o14.mono (show n0+6≤s1.next by omega)) (qg _)
    have fin:∀ (s5:AE) (c:Bool),Hx v tr n0 s5→Ao s1.next s1 s5→A7 s5 (n0+6)=some { HG v tr n0 x6 x7 x9 x10 x11 x12 x13 with state:=.busy }→R=(k,c) →
        ∃s6 s7,AP Try.prog s5 3 (.ptr (some (n0+2,0))) (iv (k:Int))=some s6∧AP Try.prog s6 4 (.ptr (some (n0+3,0))) (.bool c)=some s7∧A7 s7 (n0+6)=some { HG v tr n0 x6 x7 x9 x10 x11 x12 x13 with state:=.busy } ∧
          ∀ (r':Fg),MD r'.state=false→r'.pending=some .ret→UQ v tr n0 sa R T.length (setObj s7 (n0+6) (.loop r')):=by
      intro s5 c m5 o5 l5 hRk
      obtain⟨s6,p1,p2,p3,p4⟩:=m5.bi.store (d:=iv (k:Int)) Br rfl rfl
      obtain⟨s7,r1,r2,r3,r4⟩:=(m5.bb.keep (p4 _ (by omega))).store (d:=.bool c) JX rfl rfl
      refine⟨s6,s7,p1,r1,by rw[Ds ((r4 _ (by omega)).trans (p4 _ (by omega)))];exact l5,fun r' h1 h2=>?_⟩
      have n5:=o5.1
      refine⟨?_,by show n0+6<s7.next;omega,by rw[Ai,if_neg (by omega),r4 _ (by omega),p4 _ (by omega)];exact m5.mrk,r',CM _ _ _,h1,.inl ⟨h2,?_,?_⟩⟩
      · refine olda.trans ⟨by show s1.next ≤ s7.next; omega, fun x hx => ?_⟩
        rw[Ai,if_neg (by omega),r4 x (by omega),p4 x (by omega),o5.2 x (by omega)]
      · rw[hRk]
        exact(p2.keep (r4 _ (by omega))).keep (by rw[Ai,if_neg (by omega)])
      · rw[hRk]
        exact r2.keep (by rw[Ai,if_neg (by omega)])
    by_cases hf:fol (cs++Bo (T.take k)) L=true
    · have e34 := e3 s4 (o14.mono (by omega))
      have ltr4:=m4.bt.load My
      have hu4:AJ b s4 u (A3 L):=hu.old (o14.mono (by omega)) (qg _)
      simp only[hf,Bool.not_true,gC,ltr4,e1,IS,e34,Qa,Qb,Qc,Qd,Qe,Qf,Qg,Qh,Qi,Qj,Qk,Ql,Qm,Qn,true_and,and_true,Qo,Qp,Qq,Qr,Qs,Qt,Qu,Qv,Qw,Qx,Qy,Qz,Ra,Rb,Rc,Rd,Re,Rf,Rg,Rh,Ri,Rj,Rk,Rl,Rm,Ya,Yb,Yc,Rn,Ro,Rp,Yd,Ye,Rq,Rs,Rt,Ru,Rv,Rw,Rx]
      refine(Ll hE hPL.1 hPL.2.1 hPL.2.2 (b:=b) (by omega) hu4).mono ?_
      rintro q s5 ⟨hq1,hq2,_⟩
      rw[Lk hPL.2.1]at hq1
      have n5:=hq2.1
      have o15:Ao s1.next s1 s5:=o14.trans (hq2.mono (by omega))
      have hlq:As Try.prog s5 23 q=some (iv ((Ah [] L).length:Int)):=by
        obtain⟨qa,qc,rfl,_⟩:=hq1
        rw[AW Try.underlying23,C7]
      have l5:A7 s5 (n0+6)=some { HG v tr n0 x6 x7 x9 x10 x11 x12 x13 with state:=.busy }:=by rw[Ds (hq2.2 _ (by omega))];exact l4
      by_cases hcl:(Ah [] L).length=0
      · have hd0:decide (((Ah [] L).length:Int)=0)=true:=decide_eq_true (by omega)
        obtain⟨s6,s7,p1,p2,p3,p4⟩:=fin s5 true (m4.old (hq2.mono (show n0+6≤s4.next by omega)) (qg _)) o15 l5 (by rw[← hR,hdrop];simp only[Bl,hf,hcl,if_true])
        simp only[hlq,hd0,gD,BW,p1,p2,AS,Qa,Qb,Qc,Qd,Qe,Qf,Qg,Qh,Qi,Qj,Qk,Ql,Qm,Qn,true_and,and_true,Qo,Qp,Qq,Qr,Qs,Qt,Qu,Qv,Qw,Qx,Qy,Qz,Ra,Rb,Rc,Rd,Re,Rf,Rg,Rh,Ri,Rj,Rk,Rl,Rm,Ya,Yb,Yc,Rn,Ro,Rp,Yd,Ye,Rq,Rs,Rt,Ru,Rv,Rw,Rx]
        exact⟨_,p3,hend _ (p4 _ rfl rfl)⟩
      · have hd0:decide (((Ah [] L).length:Int)=0)=false:=decide_eq_false (by omega)
        simp only[hlq,hd0,Qa,Qb,Qc,Qd,Qe,Qf,Qg,Qh,Qi,Qj,Qk,Ql,Qm,Qn,true_and,and_true,Qo,Qp,Qq,Qr,Qs,Qt,Qu,Qv,Qw,Qx,Qy,Qz,Ra,Rb,Rc,Rd,Re,Rf,Rg,Rh,Ri,Rj,Rk,Rl,Rm,Ya,Yb,Yc,Rn,Ro,Rp,Yd,Ye,Rq,Rs,Rt,Ru,Rv,Rw,Rx]
        refine⟨_,l5,?_⟩
        refine hgo _ ?_ ⟨?_,x6,x7,x9,x10,x11,x12,x13,?_⟩
        · refine o1.trans ⟨by show s1.next ≤ s5.next; omega, fun x hx hne => ?_⟩
          rw[Ai,if_neg hne,o15.2 x hx]
        · rw[← hR,hdrop];simp only[Bl,hf,hcl,if_false]
        · rw[CM];rfl
    · have hf:fol (cs++Bo (T.take k)) L=false:=by simpa using hf
      obtain⟨s6,s7,p1,p2,p3,p4⟩:=fin s4 false m4 o14 l4 (by rw[← hR,hdrop];simp only[Bl,hf])
      simp only[hf,Bool.not_false,gB,BW,p1,p2,AS,Qa,Qb,Qc,Qd,Qe,Qf,Qg,Qh,Qi,Qj,Qk,Ql,Qm,Qn,true_and,and_true,Qo,Qp,Qq,Qr,Qs,Qt,Qu,Qv,Qw,Qx,Qy,Qz,Ra,Rb,Rc,Rd,Re,Rf,Rg,Rh,Ri,Rj,Rk,Rl,Rm,Ya,Yb,Yc,Rn,Ro,Rp,Yd,Ye,Rq,Rs,Rt,Ru,Rv,Rw,Rx]
      exact⟨_,p3,hend _ (p4 _ rfl rfl)⟩
set_option maxRecDepth 16000 in
theorem TJ{E:BI}(hE:Aq E){sa s0:AE}{n0 b:Nat}{v tr:AV}{cs:List (List Int)}{T:Aa}(hn0:sa.next=n0)(hb:b≤n0)
  (hT:Cq b sa tr T) {fol:List (List Int)→List Int→Bool} (h0:Ao n0 sa s0) (hmem:Hx v tr n0 s0) {R:Nat×Bool} {s:AE} {w:AV} {K:AV→AE→Prop} (hat:Fh b (n0+6) s0 s T T.length w) (hli:cd fol cs T v tr n0 R T.length s)
  (hend:∀c s',UQ v tr n0 sa R T.length s'→K (.bool c) s'):WR E (n0+6) [iv (T.length:Int),w] K s:=by
 obtain⟨hR,x6,x7,x9,x10,x11,x12,x13,hlp⟩:=hli
 have hz:DN (Dl E.P 24) (Ga v tr n0 x6 x7 x9 x10 x11 x12 x13) [10,11] [iv (T.length:Int),w]=some (Ga v tr n0 x6 x7 (iv (T.length:Int)) w x11 x12 x13):=by
  rw[hE.P,cT];rfl
 refine WR.round hlp hz (by rw[hE.P];exact oQ) (by rw[hE.P];exact oR) ?_
 refine EW ?_
 simp only[kv,Yh,Yi,Ga,Qa,Qb,Qc,Qd,Qe,Qf,Qg,Qh,Qi,Qj,Qk,Ql,Qm,Qn,true_and,and_true,Qo,Qp,Qq,Qr,Qs,Qt,Qu,Qv,Qw,Qx,Qy,Qz,Ra,Rb,Rc,Rd,Re,Rf,Rg,Rh,Ri,Rj,Rk,Rl,Rm,Ya,Yb,Yc,Rn,Ro,Rp,Yd,Ye,Rq,Rs,Rt,Ru,Rv,Rw,Rx]
 refine⟨_,hlp,rfl,EW ?_⟩
 generalize hs1:setObj s (n0+6) _=s1
 have n1:s1.next=s.next:=by rw[← hs1];rfl
 have l1:A7 s1 (n0+6)=some { HG v tr n0 x6 x7 x9 x10 x11 x12 x13 with state:=.busy }:=by rw[← hs1,CM]
 have hlt:=hat.lt
 have o1:Dg (n0+6) s s1:=⟨by omega,fun x _ hx=>by rw[← hs1,Ai,if_neg hx]⟩
 have old1:Ao (n0+6) s0 s1:=hat.old.trans (o1.old (by omega))
 have m1:=hmem.old old1 (qg _)
 have hln:∀s,As Try.prog s 33 tr=some (iv (T.length:Int)):=fun s=>by obtain⟨a,cap,rfl,_⟩:=hT;exact AW Try.underlying33
 have ltr:=m1.bt.load My
 simp only[de,Ub,ltr,hln,decide_true,if_true,Qa,Qb,Qc,Qd,Qe,Qf,Qg,Qh,Qi,Qj,Qk,Ql,Qm,Qn,true_and,and_true,Qo,Qp,Qq,Qr,Qs,Qt,Qu,Qv,Qw,Qx,Qy,Qz,Ra,Rb,Rc,Rd,Re,Rf,Rg,Rh,Ri,Rj,Rk,Rl,Rm,Ya,Yb,Yc,Rn,Ro,Rp,Yd,Ye,Rq,Rs,Rt,Ru,Rv,Rw,Rx]
 refine⟨_,l1,hend _ _ ⟨?_,by show n0+6<s1.next;omega,?_,_,CM _ _ _,rfl,.inr ⟨rfl,?_,?_⟩⟩⟩
 ·refine(h0.trans (old1.mono (by omega))).trans ⟨qg _,fun x hx=>by rw[Ai,if_neg (by omega)]⟩
 ·rw[Ai,if_neg (by omega)];exact m1.mrk
 ·rw[← hR,List.drop_length];rfl
 ·exact m1.old (l:=n0+6) ⟨qg _,fun x hx=>by rw[Ai,if_neg (by omega)]⟩ (qg _)
theorem kP:BF Try.prog 3=some (AL 3 0 [iv 0],.ptr):=by simp[BF,RZ,AV.cells]
theorem kQ:BF Try.prog 4=some (AL 4 0 [.bool false],.ptr):=by simp[BF,zr4,AV.cells]
set_option maxRecDepth 16000 in
theorem Pt{E:BI}(hE:Aq E){s:AE}{b:Nat}{v tr:AV}{us:List AV}{cs:List (List Int)}{T:Aa}(hb:b≤s.next)(hv:AJ s.next s v us)(hr:Ag b s us cs)(hcs:PP cs)
    (hT:Cq b s tr T) (hP:FL T) {fol:List (List Int)→List Int→Bool} (hfol:∀k L,T[k]? = some (false,L)→∃n,D2 n (cs++Bo (T.take k)) L=some (fol (cs++Bo (T.take k)) L)):
    WF E 24 [v,tr] (fun r s'=>r=.tuple [iv ((G2 fol cs T).1:Int),.bool (G2 fol cs T).2]∧Ao s.next s s') s:=by
  have hvc:=hv.isCell
  have htc:=hT.isCell
  have hptr:∀i,Made.val i .ptr=.ptr (some (i,0)):=fun _=>rfl
  have hbox:Ce 22 v=some (AL 22 0 [v],.ptr):=by simp[Ce,hvc.2]
  have hbox2:Ce 33 tr=some (AL 33 0 [tr],.ptr):=by simp[Ce,htc.2]
  refine hE.go lI (by decide) rfl ?_
  generalize hn0:s.next=n0 at hv hb
  generalize hs1:newObj s (AL 22 0 [v])=s1
  have n1:s1.next=n0+1:=by rw[← hs1,← hn0];rfl
  have o1:Ao n0 s s1:=by rw[← hs1,← hn0];exact Ao.new s _
  have b1:Ap s1 n0 v:=by rw[← hs1,← hn0];exact Ap.new
  generalize hs2:newObj s1 (AL 33 0 [tr])=s2
  have n2:s2.next=n0+2:=by rw[← hs2];show s1.next+1=_;omega
  have o2:Ao (n0+1) s1 s2:=by rw[← hs2,← n1];exact Ao.new s1 _
  have b2:Ap s2 (n0+1) tr:=by rw[← hs2,← n1];exact Ap.new
  generalize hs3:newObj s2 (AL 3 0 [iv 0])=s3
  have n3:s3.next=n0+3:=by rw[← hs3];show s2.next+1=_;omega
  have o3:Ao (n0+2) s2 s3:=by rw[← hs3,← n2];exact Ao.new s2 _
  have b3:Ap s3 (n0+2) (iv 0):=by rw[← hs3,← n2];exact Ap.new
  generalize hs4:newObj s3 (AL 4 0 [.bool false])=s4
  have n4:s4.next=n0+4:=by rw[← hs4];show s3.next+1=_;omega
  have o4:Ao (n0+3) s3 s4:=by rw[← hs4,← n3];exact Ao.new s3 _
  have b4:Ap s4 (n0+3) (.bool false):=by rw[← hs4,← n3];exact Ap.new
  have b2':Ap s4 (n0+1) tr:=(b2.keep (o3.2 _ (by omega))).keep (o4.2 _ (by omega))
  have ltr:=b2'.load My
  simp only[p9,fz,f9,hbox,hbox2,hn0,hs1,hs2,hs3,hs4,n1,n2,n3,hptr,kP,kQ,ltr,Qa,Qb,Qc,Qd,Qe,Qf,Qg,Qh,Qi,Qj,Qk,Ql,Qm,Qn,true_and,and_true,Qo,Qp,Qq,Qr,Qs,Qt,Qu,Qv,Qw,Qx,Qy,Qz,Ra,Rb,Rc,Rd,Re,Rf,Rg,Rh,Ri,Rj,Rk,Rl,Rm,Ya,Yb,Yc,Rn,Ro,Rp,Yd,Ye,Rq,Rs,Rt,Ru,Rv,Rw,Rx]
  refine(UA hE htc.2).mono ?_
  rintro _ _ ⟨rfl,rfl⟩
  rw[n4]
  simp only[Qa,Qb,Qc,Qd,Qe,Qf,Qg,Qh,Qi,Qj,Qk,Ql,Qm,Qn,true_and,and_true,Qo,Qp,Qq,Qr,Qs,Qt,Qu,Qv,Qw,Qx,Qy,Qz,Ra,Rb,Rc,Rd,Re,Rf,Rg,Rh,Ri,Rj,Rk,Rl,Rm,Ya,Yb,Yc,Rn,Ro,Rp,Yd,Ye,Rq,Rs,Rt,Ru,Rv,Rw,Rx]
  generalize hs5:newObj s4 (AL 33 0 [tr])=s5
  have n5:s5.next=n0+5:=by rw[← hs5];show s4.next+1=_;omega
  have o5:Ao (n0+4) s4 s5:=by rw[← hs5,← n4];exact Ao.new s4 _
  have b5:Ap s5 (n0+4) tr:=by rw[← hs5,← n4];exact Ap.new
  refine WC.range rfl ?_
  rw[n5]
  generalize hs6:newObj s5 .mark=s6
  have n6:s6.next=n0+6:=by rw[← hs6];show s5.next+1=_;omega
  have o6:Ao (n0+5) s5 s6:=by rw[← hs6,← n5];exact Ao.new s5 _
  have m6:s6.heap.get (n0+5)=some .mark:=by rw[← hs6,AK,if_pos n5.symm]
  generalize hs7:newObj s6 _=s7
  have n7:s7.next=n0+7:=by rw[← hs7];show s6.next+1=_;omega
  have o7:Ao (n0+6) s6 s7:=by rw[← hs7,← n6];exact Ao.new s6 _
  have l7:A7 s7 (n0+6)=some (HG v tr n0 Ar Ar Ar Ar Ar Ar Ar):=by
    unfold A7;rw[← hs7,AK,if_pos n6.symm];rfl
  have o57:Ao (n0+5) s5 s7:=o6.trans (o7.mono (by omega))
  have o47:Ao (n0+4) s4 s7:=o5.trans (o57.mono (by omega))
  have h07:Ao n0 s s7:=(o1.trans (o2.mono (by omega))).trans (((o3.mono (by omega)).trans (o4.mono (by omega))).trans (o47.mono (by omega)))
  have mem:Hx v tr n0 s7:=⟨(((b1.keep (o2.2 _ (by omega))).keep (o3.2 _ (by omega))).keep (o4.2 _ (by omega))).keep (o47.2 _ (by omega)),b2'.keep (o47.2 _ (by omega)),(b3.keep (o4.2 _ (by omega))).keep (o47.2 _ (by omega)),b4.keep (o47.2 _ (by omega)),by rw[o7.2 _ (by omega)];exact m6⟩
  have hb5:Ap s7 (n0+4) tr:=b5.keep (o57.2 _ (by omega))
  refine(Wi hE (b:=b) (l:=n0+6) (bx:=n0+4) (LI:=cd fol cs T v tr n0 (G2 fol cs T)) (Fin:=UQ v tr n0 s (G2 fol cs T) T.length) (hT.old h07 hb) hP (by omega) hb5 (by omega) (by omega) ?_ ?_ ?_ ?_).mono ?_
  · rintro k s' s'' ⟨q1,x6,x7,x9,x10,x11,x12,x13,q2⟩ _ _ he
    exact⟨q1,x6,x7,x9,x10,x11,x12,x13,by rw[Ds he];exact q2⟩
  · exact⟨rfl,_,_,_,_,_,_,_,l7⟩
  · intro k s' w K hk hat hli hgo hend
    exact Pu hE hn0 hb hv hr hcs hT hP hfol h07 mem hk hat hli hgo hend
  · intro s' w K hat hli hend
    exact TJ hE hn0 hb hT h07 mem hat hli hend
  · rintro _ s8 ⟨h1, h2, h3, r, h4, h5, h6⟩
    refine⟨r,h4,h5,?_⟩
    generalize hs9:setObj s8 (n0+6) _=s9
    have n9:s9.next=s8.next:=by rw[← hs9];rfl
    have e9:∀x,x≠n0+6→s9.heap.get x=s8.heap.get x:=fun x hx=>by rw[← hs9,Ai,if_neg hx]
    have mk9:s9.heap.get (n0+5)=some .mark:=by rw[e9 _ (by omega)];exact h3
    have hnn:=h1.1
    rcases h6 with⟨p1,p2,p3⟩ | ⟨p1,p2,p3⟩
    · rw[p1]
      show F4 _ _ _ _ (some .ret)
      simp only[F4,GZ mk9,Qa,Qb,Qc,Qd,Qe,Qf,Qg,Qh,Qi,Qj,Qk,Ql,Qm,Qn,true_and,and_true,Qo,Qp,Qq,Qr,Qs,Qt,Qu,Qv,Qw,Qx,Qy,Qz,Ra,Rb,Rc,Rd,Re,Rf,Rg,Rh,Ri,Rj,Rk,Rl,Rm,Ya,Yb,Yc,Rn,Ro,Rp,Yd,Ye,Rq,Rs,Rt,Ru,Rv,Rw,Rx]
      have k2:Ap (Bm s9 (n0+5)) (n0+2) _:=(p2.keep (e9 _ (by omega))).keep (by rw[Bw,if_neg (by omega)])
      have k3:Ap (Bm s9 (n0+5)) (n0+3) _:=(p3.keep (e9 _ (by omega))).keep (by rw[Bw,if_neg (by omega)])
      simp only[Cr,k2.load Do,k3.load Wy,Qa,Qb,Qc,Qd,Qe,Qf,Qg,Qh,Qi,Qj,Qk,Ql,Qm,Qn,true_and,and_true,Qo,Qp,Qq,Qr,Qs,Qt,Qu,Qv,Qw,Qx,Qy,Qz,Ra,Rb,Rc,Rd,Re,Rf,Rg,Rh,Ri,Rj,Rk,Rl,Rm,Ya,Yb,Yc,Rn,Ro,Rp,Yd,Ye,Rq,Rs,Rt,Ru,Rv,Rw,Rx]
      exact h1.trans ⟨by show s8.next≤s9.next;omega,fun x hx=>by rw[Bw,if_neg (by omega),e9 x (by omega)]⟩
    · rw[p1]
      show F4 _ _ _ _ none
      have m9:Hx v tr n0 s9:=p3.old (l:=n0+6) ⟨by omega,fun x hx=>e9 x (by omega)⟩ (qg _)
      have hln:∀s,As Try.prog s 33 tr=some (iv (T.length:Int)):=fun s=>by obtain⟨a,cap,rfl,_⟩:=hT;exact AW Try.underlying33
      obtain⟨sa,k1,k2,k3,k4⟩:=m9.bi.store (d:=iv (T.length:Int)) Br rfl rfl
      obtain⟨sb,j1,j2,j3,j4⟩:=(m9.bb.keep (k4 _ (by omega))).store (d:=.bool false) JX rfl rfl
      have mk1:sb.heap.get (n0+5)=some .mark:=by rw[j4 _ (by omega),k4 _ (by omega)];exact mk9
      simp only[F4,Yg,m9.bt.load My,hln,BW,k1,j1,AS,GZ mk1,Qa,Qb,Qc,Qd,Qe,Qf,Qg,Qh,Qi,Qj,Qk,Ql,Qm,Qn,true_and,and_true,Qo,Qp,Qq,Qr,Qs,Qt,Qu,Qv,Qw,Qx,Qy,Qz,Ra,Rb,Rc,Rd,Re,Rf,Rg,Rh,Ri,Rj,Rk,Rl,Rm,Ya,Yb,Yc,Rn,Ro,Rp,Yd,Ye,Rq,Rs,Rt,Ru,Rv,Rw,Rx]
      have i2:Ap (Bm sb (n0+5)) (n0+2) _:=(k2.keep (j4 _ (by omega))).keep (by rw[Bw,if_neg (by omega)])
      have i3:Ap (Bm sb (n0+5)) (n0+3) _:=j2.keep (by rw[Bw,if_neg (by omega)])
      simp only[Cr,i2.load Do,i3.load Wy,Qa,Qb,Qc,Qd,Qe,Qf,Qg,Qh,Qi,Qj,Qk,Ql,Qm,Qn,true_and,and_true,Qo,Qp,Qq,Qr,Qs,Qt,Qu,Qv,Qw,Qx,Qy,Qz,Ra,Rb,Rc,Rd,Re,Rf,Rg,Rh,Ri,Rj,Rk,Rl,Rm,Ya,Yb,Yc,Rn,Ro,Rp,Yd,Ye,Rq,Rs,Rt,Ru,Rv,Rw,Rx]
      rw[p2]
      exact⟨rfl,h1.trans ⟨by show s8.next≤sb.next;omega,fun x hx=>by rw[Bw,if_neg (by omega),j4 x (by omega),k4 x (by omega),e9 x (by omega)]⟩⟩
def Jf(L:List Int):Prop:=(∀x∈L,-6≤x∧x≤6∧x≠0)∧L.length≤5
theorem Jf.plain{L:List Int}(h:Jf L):Hy L:=by
 refine⟨fun x hx=>?_,fun x hx=>?_,by have:=h.2;omega⟩
 ·have:=h.1 x hx;exact⟨by omega,by omega⟩
 ·have:=h.1 x hx;unfold DY;exact decide_eq_false (by omega)
theorem RG(l:List Int):Jf (GW l):=by
 refine⟨fun x hx=>?_,(Nn l).2⟩
 obtain⟨y,_,rfl⟩:=List.mem_map.1 hx
 exact MJ
theorem JV{l:List (List Int)}:∀L∈Bv l,Jf L:=by
 intro L hL
 obtain⟨y,_,rfl⟩:=List.mem_map.1 hL
 exact RG y
theorem T1         : ∀ (l : List Ca)     (out : Aa),      (∀ x ∈ out, Jf   x.2) → ∀ x ∈ Em     out l, Jf   x.2 := by
  intro l
  induction l with
  | nil=>intro out h;exact h
  | cons y l ih =>
    obtain⟨d,w,L⟩:=y
    intro out h
    refine ih _ fun x hx=>?_
    rcases sE.1 hx with hx | hx
    · exact h x hx
    · have hx:x=Fx out d w L:=by simpa using hx
      subst hx
      unfold Fx
      split
      · show Jf (out.getD _ _).2
        rw[rB]
        cases hg:out[(w % (out.length:Int)).toNat]? with
        | none=>exact⟨(fun x hx=>by cases hx),by simp⟩
        | some z=>exact h z (qj hg)
      · exact RG L
def FE(ss:List Ca):Aa:=Em [] (ss.take 20)
theorem Kf(ss:List Ca):∀x∈FE ss,Jf x.2:=T1 _ _ (fun x hx=>by cases hx)
theorem Ke(ss:List Ca):(FE ss).length≤20:=by
 unfold FE
 rw[IX]
 simp
 omega
theorem NA(ss:List Ca):FL (FE ss):=⟨by have:=Ke ss;omega,fun x hx=>(Kf ss x hx).plain⟩
structure IG(b:Nat)(s:AE)(v0 v1:AV)(ls:List (List Int))(ss:List Ca):Prop where
 le:b≤s.next
 hls:∀L∈ls,cW L∧L.length<9223372036854775808
 hll:ls.length<9223372036854775808
 hss:∀x∈ss,u8 x.2.1∧cW x.2.2∧x.2.2.length<9223372036854775808
 hsl:ss.length<9223372036854775808
 r8:E0 b s v0 ls
 st:Kn b s v1 ss
theorem IG.old{b:Nat}{s s':AE}{v0 v1:AV}{ls:List (List Int)}{ss:List Ca}(h:IG b s v0 v1 ls ss)(k:Ao b s s'):IG b s' v0 v1 ls ss:=by
 refine⟨qs h.le k.1,h.hls,h.hll,h.hss,h.hsl,?_,?_⟩
 ·obtain⟨a,cap,hv,hc⟩:=h.r8
  refine⟨a,cap,hv,fun j L hj=>?_⟩
  obtain⟨i,o,u,h1,h2,h3,h4⟩:=hc j L hj
  exact⟨i,o,u,h1,h2,by rw[BU (k.2 i h2)];exact h3,h4.old k (qg _)⟩
 ·obtain⟨a,cap,hv,hc⟩:=h.st
  refine⟨a,cap,hv,fun j d w L hj=>?_⟩
  obtain⟨i,o,u,h1,h2,h3,h4,h5,h6⟩:=hc j d w L hj
  exact⟨i,o,u,h1,h2,by rw[BU (k.2 i h2)];exact h3,by rw[BU (k.2 i h2)];exact h4,by rw[BU (k.2 i h2)];exact h5,h6.old k (qg _)⟩
theorem WF.both{E:BI}{f:FuncId}{xs:List AV}{K K':AV→AE→Prop}{s:AE}(h:WF E f xs K s)(h':WF E f xs K' s):WF E f xs (fun v s'=>K v s'∧K' v s') s:=by
 obtain⟨n,p,h1,h2⟩:=h
 obtain⟨m,q,h3,h4⟩:=h'
 have e1:=(FB E (Nat.le_max_left n m)).call h1
 have e2:=(FB E (Nat.le_max_right n m)).call h3
 rw[e1]at e2
 injection e2 with e2
 subst e2
 exact⟨_,p,e1,h2,h4⟩
def Lit(x:Int):Prop:=x≠0∧-9223372036854775808<x∧x<9223372036854775808
theorem Lit.neg{x:Int}(h:Lit x):Lit (-x):=by obtain⟨h1,h2,h3⟩:=h;exact⟨by omega,by omega,by omega⟩
theorem Hh{x:Int}(h:i64 x):DY x=false↔Lit x:=by
 obtain⟨h1,h2⟩:=h
 unfold DY Lit
 rw[decide_eq_false_iff_not]
 omega
theorem QO(M:CH)(k v j:Int):look (Ib M k v) j=if j=k then v else look M j:=by
 induction M with
 | nil=>simp only[Ib,look];by_cases h:k=j<;>by_cases h':j=k<;>simp_all
 | cons p M ih =>
  obtain⟨a,b⟩:=p
  simp only[Ib]
  by_cases h:a=k
  ·rw[if_pos h]
   simp only[look]
   by_cases h2:a=j<;>by_cases h3:j=k<;>simp_all
  ·rw[if_neg h]
   simp only[look]
   by_cases h2:a=j
   ·rw[if_pos h2,if_pos h2,if_neg (by omega)]
   ·rw[if_neg h2,if_neg h2,ih]
theorem KD{x:Int}(h:Lit x):(0<x∧B2 x=(x,1))∨(x<0∧B2 x=(-x,-1)):=by
 obtain⟨h1,h2,h3⟩:=h
 unfold B2
 by_cases hp:0<x
 ·rw[if_pos hp];exact .inl ⟨hp,rfl⟩
 ·rw[if_neg hp,if_pos ⟨by omega,by omega⟩];exact .inr ⟨by omega,rfl⟩
theorem bW{M:CH}{x:Int}(h:DY x=true):KV M x=-1:=by
 unfold DY at h
 rw[decide_eq_true_iff]at h
 have:B2 x=(0,0):=by
  unfold B2
  rcases h with rfl | rfl
  ·rfl
  ·rfl
 unfold KV
 rw[this];rfl
theorem O0{M:CH}{x:Int}(h:Lit x):KV M x=if 0<x then look M x else -look M (-x):=by
 unfold KV
 rcases KD h with⟨h1,h2⟩ | ⟨h1,h2⟩
 ·rw[h2,if_pos h1];simp
 ·rw[h2,if_neg (show ¬ 0<x by omega)];simp
theorem Tp{M:CH}{x y:Int}(hx:Lit x)(hy:Lit y):KV (En M y) x=if x=y then 1 else if x=-y then -1 else KV M x:=by
 rw[O0 hx,O0 hx]
 unfold En
 have hx0:=hx.1
 have hy0:=hy.1
 rcases KD hy with⟨h1,h2⟩ | ⟨h1,h2⟩
 ·rw[h2]
  simp only[QO]
  by_cases hp:0<x
  ·rw[if_pos hp,if_pos hp]
   by_cases he:x=y
   ·rw[if_pos he,if_pos he]
   ·rw[if_neg he,if_neg he,if_neg (by omega)]
  ·rw[if_neg hp,if_neg hp,if_neg (show ¬ x=y by omega)]
   by_cases he:x=-y
   ·rw[if_pos (show -x=y by omega),if_pos he]
   ·rw[if_neg (show ¬ -x=y by omega),if_neg he]
 ·rw[h2]
  simp only[QO]
  by_cases hp:0<x
  ·rw[if_pos hp,if_pos hp,if_neg (show ¬ x=y by omega)]
  ·rw[if_neg hp,if_neg hp]
   by_cases he:x=y
   ·rw[if_pos (show -x=-y by omega),if_pos he];rfl
   ·rw[if_neg (show ¬ -x=-y by omega),if_neg he,if_neg (show ¬ x=-y by omega)]
structure Gr(M:CH)(K:List Int):Prop where
 pos:∀x,Lit x→(KV M x=1↔x∈K)
 neg:∀x,Lit x→(KV M x=-1↔-x∈K)
 tri:∀x,Lit x→KV M x=1∨KV M x=0∨KV M x=-1
 lits:∀x∈K,Lit x
theorem Gr.nil:Gr [] []:=by
 have:∀x,Lit x→KV [] x=0:=fun x hx=>by rw[O0 hx];simp[look]
 exact⟨fun x hx=>by rw[this x hx];simp,fun x hx=>by rw[this x hx];simp,fun x hx=>.inr (.inl (this x hx)),fun x hx=>by cases hx⟩
theorem Gr.con{M:CH}{K:List Int}(h:Gr M K){x:Int}(hx:x∈K):-x ∉ K:=fun hn=>by
 have h1:=(h.pos x (h.lits x hx)).2 hx
 have h2:=(h.neg x (h.lits x hx)).2 hn
 omega
theorem Gr.put   {M : CH}   {K : List Int} (h : Gr   M K) {y : Int} (hy : Lit y) (hn : -y ∉ K) : Gr   (En     M y) (K ++ [y]) := by
  have hy0:=hy.1
  refine⟨fun x hx=>?_,fun x hx=>?_,fun x hx=>?_,fun x hx=>?_⟩
  · rw[Tp hx hy,sE,si]
    by_cases h1:x=y
    · simp[h1]
    · rw[if_neg h1]
      by_cases h2:x=-y
      · rw[if_pos h2]
        subst h2
        simp[hn,h1]
      · rw[if_neg h2,h.pos x hx]
        simp[h1]
  · rw[Tp hx hy,sE,si]
    by_cases h1:x=y
    · rw[if_pos h1]
      subst h1
      simp[hn]
      omega
    · rw[if_neg h1]
      by_cases h2:x=-y
      · rw[if_pos h2]
        subst h2
        simp
      · rw[if_neg h2,h.neg x hx]
        have:¬ -x=y:=by omega
        simp[this]
  · rw[Tp hx hy]
    split
    · exact .inl rfl
    · split
      · exact .inr (.inr rfl)
      · exact h.tri x hx
  · rcases sE.1              hx with hx | hx
    · exact h.lits x hx
    · rw[si.1 hx];exact hy
theorem Gr.same{M:CH}{K K':List Int}(h:Gr M K)(he:∀z,z∈K'↔z∈K):Gr M K':=
 ⟨fun x hx=>by rw[he];exact h.pos x hx,fun x hx=>by rw[he];exact h.neg x hx,h.tri,fun x hx=>h.lits x ((he x).1 hx)⟩
def nM(K:List Int)(x:Int):Prop:=Lit x∧-x ∉ K∧x ∉ K
def N5(M:CH)(K L:List Int)(lit left:Int):Prop:=
 ((Be M L lit left).2=2∧((∃x∈L,Lit x∧x∈K)∨∃x∈L,nM K x∧∃y,(y∈L∧nM K y∨left=1∧y=lit)∧x≠y)) ∨
 (Be M L lit left=(lit,left)∧∀x∈L,Lit x→-x∈K∨(left=1∧x=lit)) ∨
 (left=0∧∃y,Be M L lit left=(y,1)∧y∈L∧nM K y∧∀x∈L,Lit x→-x∈K∨x=y)
theorem Wp        {M : CH}   {K : List Int} (h : Gr   M K) : ∀ (L : List Int) (lit left : Int), DF   L → (left = 0 ∨ left = 1) → (left = 1 → nM  K lit) → N5     M K L lit left := by
  intro L
  induction L with
  | nil=>intro lit left _ _ _;exact .inr (.inl ⟨rfl,fun x hx=>by cases hx⟩)
  | cons x l ih =>
    intro lit left hL hl hop
    have hLl:DF l:=fun z hz=>hL z (qo _ hz)
    have hxi:=hL x ql
    have skip:KV M x<0∨(left=1∧x=lit)→¬ 0<KV M x→(Lit x→-x∈K∨(left=1∧x=lit))→N5 M K (x::l) lit left:=fun h1 h2 h3=>by
      have hu:Be M (x::l) lit left=Be M l lit left:=by simp only[Be];rw[if_neg h2,if_pos h1]
      unfold N5
      rw[hu]
      rcases ih lit left hLl hl hop with⟨g1,g2⟩ | ⟨g1,g2⟩ | ⟨g1,y,g2,g3,g4,g5⟩
      · refine .inl ⟨g1, ?_⟩
        rcases g2 with⟨z,k1,k2⟩ | ⟨z,k1,k2,y,k3,k4⟩
        · exact .inl ⟨z,qo _ k1,k2⟩
        · exact .inr ⟨z,qo _ k1,k2,y,k3.imp (fun q=>⟨qo _ q.1,q.2⟩) id,k4⟩
      · refine .inr (.inl ⟨g1, fun z hz => ?_⟩)
        rcases rI.1 hz with rfl | hz
        · exact h3
        · exact g2 z hz
      · refine .inr (.inr ⟨g1, y, g2, qo                   _ g3, g4, fun z hz hzl => ?_⟩)
        rcases rI.1 hz with rfl | hz
        · rcases h3 hzl with q | q
          · exact .inl q
          · omega
        · exact g5 z hz hzl
    cases hnull:DY x with
    | true =>
      have ho:=bW (M:=M) hnull
      exact skip (.inl (by omega)) (by omega) (fun hx=>by rw[(Hh hxi).2 hx]at hnull;cases hnull)
    | false =>
      have hx:Lit x:=(Hh hxi).1 hnull
      rcases h.tri x hx with ho | ho | ho
      · refine .inl ⟨?_,.inl ⟨x,ql,hx,(h.pos x hx).1 ho⟩⟩
        simp only[Be];rw[if_pos (by omega)]
      · have hox:nM K x:=⟨hx,fun q=>by have:=(h.neg x hx).2 q;omega,fun q=>by have:=(h.pos x hx).2 q;omega⟩
        rcases hl with rfl | rfl
        · have hu:Be M (x::l) lit 0=Be M l x 1:=by simp only[Be];rw[if_neg (by omega),if_neg (by omega),if_neg (by omega)];rfl
          unfold N5
          rw[hu]
          rcases ih x 1 hLl (.inr rfl) (fun _=>hox)with⟨g1,g2⟩ | ⟨g1,g2⟩ | ⟨g1,_⟩
          · refine .inl ⟨g1, ?_⟩
            rcases g2 with⟨z,k1,k2⟩ | ⟨z,k1,k2,y,k3,k4⟩
            · exact .inl ⟨z,qo _ k1,k2⟩
            · refine .inr ⟨z, qo                   _ k1, k2, y, .inl ?_, k4⟩
              rcases k3 with q | ⟨_,rfl⟩
              · exact⟨qo _ q.1,q.2⟩
              · exact⟨ql,hox⟩
          · refine .inr (.inr ⟨rfl, x, g1, ql,                 hox, fun z hz hzl => ?_⟩)
            rcases rI.1 hz with rfl | hz
            · exact .inr rfl
            · exact(g2 z hz hzl).imp id (fun q=>q.2)
          · omega
        · by_cases he : x = lit
          · exact skip (.inr ⟨rfl,he⟩) (by omega) (fun _=>.inr ⟨rfl,he⟩)
          · refine .inl ⟨?_,.inr ⟨x,ql,hox,lit,.inr ⟨rfl,rfl⟩,he⟩⟩
            simp only[Be];rw[if_neg (by omega),if_neg (by omega),if_pos (by omega)]
      · exact skip (.inl (by omega)) (by omega) (fun _=>.inl ((h.neg x hx).1 ho))
theorem Cy{L:List Int}(hL:DF L)(z:Int):z∈Ah [] L↔z∈L∧Lit z:=by
  rw[Fj]
  constructor
  · rintro (h | ⟨h1, h2⟩)
    · cases h
    · exact⟨h1,(Hh (hL z h1)).1 h2⟩
  · rintro⟨h1,h2⟩
    exact .inr ⟨h1,(Hh (hL z h1)).2 h2⟩
theorem Ee{K L:List Int}(hL:DF L)(z:Int):z∈Ed K (Ah [] L)↔z∈L∧Lit z∧-z ∉ K:=by
 unfold Ed
 rw[List.mem_filter,Cy hL,decide_eq_true_iff,and_assoc]
theorem Hg{K L:List Int}(hL:DF L):FV K (Ah [] L)=true↔∃x∈L,Lit x∧x∈K:=by
 unfold FV
 rw[List.any_eq_true]
 constructor
 ·rintro⟨x,h1,h2⟩
  obtain⟨h3,h4⟩:=(Cy hL x).1 h1
  exact⟨x,h3,h4,by simpa using h2⟩
 ·rintro⟨x,h1,h2,h3⟩
  exact⟨x,(Cy hL x).2 ⟨h1,h2⟩,by simpa using h3⟩
theorem br{l:List Int}{y:Int}(hr:l.Pairwise (·<·))(hy:y∈l)(ha:∀z∈l,z=y):l=[y]:=by
 cases l with
 | nil=>cases hy
 | cons a l =>
  have ha0:=ha a ql
  subst ha0
  cases l with
  | nil=>rfl
  | cons b l =>
   have hb:=ha b (qo _ ql)
   have:=(sj.1 hr).1 b ql
   omega
theorem WO        : ∀ (cs : List (List Int)) (M : CH)   (K : List Int) (more : Bool), Gr   M K → (∀ L ∈ cs, DF   L) →
    (DZ M cs more=none∧CE K cs more=none)∨∃M' K' m,DZ M cs more=some (M',m)∧CE K cs more=some (K',m)∧Gr M' K':=by
  intro cs
  induction cs with
  | nil=>intro M K more h _;exact .inr ⟨M,K,more,rfl,rfl,h⟩
  | cons L cs ih =>
    intro M K more h hcs
    have hL:=hcs L ql
    have hcs':∀L∈cs,DF L:=fun L hL=>hcs L (qo _ hL)
    rcases Wp h L 0 0 hL (.inl rfl) (fun e=>by omega)with⟨g1,g2⟩ | ⟨g1,g2⟩ | ⟨_,y,g1,g2,g3,g4⟩
    · have hv : DZ    M (L :: cs) more = DZ    M cs more := by simp only [DZ];    rw [if_neg (by omega), if_neg (by omega)]
      have hr:CE K (L::cs) more=CE K cs more:=by
        simp only[CE]
        rcases g2 with⟨x,k1,k2,k3⟩ | ⟨x,k1,k2,y,k3,k4⟩
        · have hh := (Hg        (K := K) hL).2 ⟨x, k1, k2, k3⟩
          have hx:x∈Ed K (Ah [] L):=(Ee hL x).2 ⟨k1,k2,h.con k3⟩
          split
          · rename_i e;rw[e]at hx;cases hx
          · rw[hh];rfl
          · rfl
        · have hx : x ∈ Ed    K (Ah     [] L) := (Ee       hL x).2 ⟨k1, k2.1, k2.2.1⟩
          have hy:y∈Ed K (Ah [] L):=by
            rcases k3 with⟨q1,q2⟩ | ⟨q,_⟩
            · exact(Ee hL y).2 ⟨q1,q2.1,q2.2.1⟩
            · omega
          split
          · rename_i e;rw[e]at hx;cases hx
          · rename_i z e
            rw[e]at hx hy
            exact absurd ((si.1 hx).trans (si.1 hy).symm) k4
          · rfl
      rw[hv,hr]
      exact ih M K more h hcs'
    · refine .inl ⟨by simp only[DZ];rw[if_pos (by rw[g1])],?_⟩
      have:Ed K (Ah [] L)=[]:=by
        rw[List.eq_nil_iff_forall_not_mem]
        intro z hz
        obtain⟨q1,q2,q3⟩:=(Ee hL z).1 hz
        rcases g2 z q1 q2 with q | ⟨q,_⟩
        · exact q3 q
        · omega
      simp only[CE]
      rw[this]
    · have hv : DZ    M (L :: cs) more = DZ    (En     M y) cs true := by simp only [DZ];    rw [g1, if_neg (show ¬ ((1 : Int) = 0) by decide), if_pos rfl]
      have hop:Ed K (Ah [] L)=[y]:=by
        refine br ((EY L List.Pairwise.nil).filter _) ((Ee hL y).2 ⟨g2,g3.1,g3.2.1⟩) fun z hz=>?_
        obtain⟨q1,q2,q3⟩:=(Ee hL z).1 hz
        exact(g4 z q1 q2).resolve_left q3
      have hh:FV K (Ah [] L)=false:=by
        cases hb:FV K (Ah [] L)with
        | false=>rfl
        | true =>
          obtain⟨x,k1,k2,k3⟩:=(Hg hL).1 hb
          rcases g4 x k1 k2 with q | q
          · exact absurd q (h.con k3)
          · subst q;exact absurd k3 g3.2.2
      have hr:CE K (L::cs) more=CE (K++[y]) cs true:=by simp only[CE];rw[hop,hh];rfl
      rw[hv,hr]
      exact ih _ _ true (h.put g3.1 g3.2.1) hcs'
theorem V2{cs:List (List Int)}(hcs:∀L∈cs,DF L):∀ (n:Nat)(M:CH)(K:List Int),Gr M K→ML cs n M=JI cs n K:=by
 intro n
 induction n with
 | zero=>intro M K _;rfl
 | succ n ih =>
  intro M K h
  simp only[ML,JI]
  rcases WO cs M K false h hcs with⟨g1,g2⟩ | ⟨M',K',m,g1,g2,g3⟩
  ·rw[g1,g2]
  ·rw[g1,g2]
   cases m with
   | true=>exact ih M' K' g3
   | false=>rfl
theorem TZ         : ∀ (c : List Int) (M : CH)   (K : List Int), Gr   M K → DF   c →
    (DP M c=none∧∃x∈c,Lit x∧(x∈K∨-x∈c))∨∃M' K',DP M c=some M'∧Gr M' K'∧∀z,z∈K'↔z∈K∨(Lit z∧-z∈c):=by
  intro c
  induction c with
  | nil=>intro M K h _;exact .inr ⟨M,K,rfl,h,fun z=>by simp⟩
  | cons x l ih =>
    intro M K h hc
    have hcl:DF l:=fun z hz=>hc z (qo _ hz)
    have hxi:=hc x ql
    cases hnull:DY x with
    | true =>
      have hs:(B2 x).2=0:=by
        unfold DY at hnull
        rw[decide_eq_true_iff]at hnull
        unfold B2
        rcases hnull with rfl | rfl<;>rfl
      have hi:DP M (x::l)=DP M l:=by simp only[DP];rw[if_pos hs]
      have hnl:¬ Lit x:=fun q=>by rw[(Hh hxi).2 q]at hnull;cases hnull
      rw[hi]
      rcases ih M K h hcl with⟨g1,z,g2,g3,g4⟩ | ⟨M',K',g1,g2,g3⟩
      · exact .inl ⟨g1,z,qo _ g2,g3,g4.imp id (qo _)⟩
      · refine .inr ⟨M', K', g1, g2, fun z => ?_⟩
        rw[g3 z]
        constructor
        · exact fun q=>q.imp id fun q=>⟨q.1,qo _ q.2⟩
        · rintro (q | ⟨q1, q2⟩)
          · exact .inl q
          · rcases rI.1            q2 with q2 | q2
            · exact absurd (by rw[← q2];exact q1.neg) hnl
            · exact .inr ⟨q1,q2⟩
    | false =>
      have hx:Lit x:=(Hh hxi).1 hnull
      have hs:¬ (B2 x).2=0:=by rcases KD hx with⟨_,e⟩ | ⟨_,e⟩<;>rw[e]<;>simp
      by_cases hp:0<KV M x
      · refine .inl ⟨by simp only [DP];    rw [if_neg hs, if_pos hp], x, ql,                 hx, .inl ?_⟩
        refine(h.pos x hx).1 ?_
        rcases h.tri x hx with q | q | q<;>omega
      · have hi : DP    M (x :: l) = DP    (En     M (-x)) l := by simp only [DP];    rw [if_neg hs, if_neg hp]
        have hxk:x ∉ K:=fun q=>by have:=(h.pos x hx).2 q;omega
        rw[hi]
        rcases ih (En M (-x)) (K++[-x]) (h.put hx.neg (by rw[rD];exact hxk)) hcl with⟨g1,z,g2,g3,g4⟩ | ⟨M',K',g1,g2,g3⟩
        · refine .inl ⟨g1, z, qo                   _ g2, g3, ?_⟩
          rcases g4 with q | q
          · rcases sE.1              q with q | q
            · exact .inl q
            · rw[si.1 q,rD];exact .inr ql
          · exact .inr (qo _ q)
        · refine .inr ⟨M', K', g1, g2, fun z => ?_⟩
          rw[g3 z,sE,si,rI]
          constructor
          · rintro ((q | q) | ⟨q1, q2⟩)
            · exact .inl q
            · subst q;exact .inr ⟨hx.neg,.inl (by omega)⟩
            · exact .inr ⟨q1,.inr q2⟩
          · rintro (q | ⟨q1, q2 | q2⟩)
            · exact .inl (.inl q)
            · exact .inl (.inr (by omega))
            · exact .inr ⟨q1,q2⟩
theorem IV         (C : List Int) : ∀ (l K : List Int), (JA    C K l = none ∧ ∃ x ∈ l, -x ∈ C) ∨ ((∀ x ∈ l, -x ∉ C) ∧ JA    C K l = some (K ++ l.map (fun x => -x))) := by
  intro l
  induction l with
  | nil=>intro K;exact .inr ⟨fun x hx=>(by cases hx),by simp[JA]⟩
  | cons x l ih =>
    intro K
    by_cases h:-x∈C
    · exact .inl ⟨by simp[JA,h],x,ql,h⟩
    · have hi:JA C K (x::l)=JA C (K++[-x]) l:=by simp[JA,h]
      rw[hi]
      rcases ih (K++[-x])with⟨g1,z,g2,g3⟩ | ⟨g1,g2⟩
      · exact .inl ⟨g1,z,qo _ g2,g3⟩
      · refine .inr ⟨fun z hz => ?_, by rw [g2]; simp⟩
        rcases rI.1 hz with rfl | hz
        · exact h
        · exact g1 z hz
theorem Oe           {cs : List (List Int)} (hcs : ∀ L ∈ cs, DF   L) {c : List Int} (hc : DF   c) (n : Nat) : D2       n cs c = FU       n cs c := by
  unfold D2 FU
  rcases TZ c [] [] Gr.nil hc with⟨g1,x,g2,g3,g4⟩ | ⟨M',K',g1,g2,g3⟩
  · rw[g1]
    have hx:-x∈c:=g4.resolve_left (fun q=>by cases q)
    rcases IV (Ah [] c) (Ah [] c) []with⟨k1,_⟩ | ⟨k1,_⟩
    · rw[k1]
    · exact absurd ((Cy hc (-x)).2 ⟨hx,g3.neg⟩) (k1 x ((Cy hc x).2 ⟨g2,g3⟩))
  · rw [g1]
    rcases IV (Ah [] c) (Ah [] c) []with⟨k1,x,k2,k3⟩ | ⟨k1,k2⟩
    · obtain ⟨q1, q2⟩ := (Cy        hc x).1 k2
      obtain⟨q3,q4⟩:=(Cy hc (-x)).1 k3
      have p1:-x∈K':=(g3 (-x)).2 (.inr ⟨q4,by rw[rD];exact q1⟩)
      have p2:x∈K':=(g3 x).2 (.inr ⟨q2,q3⟩)
      exact absurd p1 (g2.con p2)
    · rw [k2]
      refine V2 hcs n M' _ (g2.same fun z=>?_)
      rw[g3 z,rL,List.mem_map]
      constructor
      · rintro⟨x,hx,rfl⟩
        obtain⟨q1,q2⟩:=(Cy hc x).1 hx
        exact .inr ⟨q2.neg,by rw[rD];exact q1⟩
      · rintro (q | ⟨q1, q2⟩)
        · cases q
        · exact⟨-z,(Cy hc (-z)).2 ⟨q2,q1.neg⟩,rD z⟩
theorem Vh        {α : Type} {p q : α → Bool} (h : ∀ x, p x = true → q x = true) {y : α} (hq : q y = true) (hp : p y = false) : ∀ {l : List α}, y ∈ l → (l.filter p).length < (l.filter q).length := by
  have le:∀l:List α,(l.filter p).length≤(l.filter q).length:=by
    intro l
    induction l with
    | nil=>exact qg _
    | cons x l ih =>
      cases hx:p x with
      | true=>rw[rz hx,rz (h x hx)];simp only[qx];omega
      | false =>
        rw[sP (by simp[hx])]
        cases hx':q x with
        | true=>rw[rz hx'];simp only[qx];omega
        | false=>rw[sP (by simp[hx'])];exact ih
  intro l
  induction l with
  | nil=>intro hy;cases hy
  | cons x l ih =>
    intro hy
    rcases rI.1 hy with rfl | hy
    · rw[sP (by simp[hp]),rz hq]
      have:=le l
      simp only[qx]
      omega
    · have:=ih hy
      cases hx:p x with
      | true=>rw[rz hx,rz (h x hx)];simp only[qx];omega
      | false =>
        rw[sP (by simp[hx])]
        cases hx':q x with
        | true=>rw[rz hx'];simp only[qx];omega
        | false=>rw[sP (by simp[hx'])];exact this
theorem WN        : ∀ (cs : List (List Int)) (K K' : List Int) (more m : Bool), (∀ L ∈ cs, DF   L) → CE    K cs more = some (K', m) →
    (∀z∈K,z∈K')∧(m=true→more=true∨∃y∈cs.flatten,y ∉ K∧y∈K'):=by
  intro cs
  induction cs with
  | nil =>
    intro K K' more m _ h
    simp only[CE]at h
    injection h with h
    injection h with h1 h2
    subst h1;subst h2
    exact⟨fun z hz=>hz,fun h=>.inl h⟩
  | cons L cs ih =>
    intro K K' more m hcs h
    have hL:=hcs L ql
    have hcs':∀L∈cs,DF L:=fun L hL=>hcs L (qo _ hL)
    have keep:CE K cs more=some (K',m)→_:=fun h=>by
      obtain⟨g1,g2⟩:=ih K K' more m hcs' h
      exact(⟨g1,fun hm=>(g2 hm).imp id fun⟨y,q1,q2⟩=>⟨y,by rw[List.flatten_cons];exact rH _ q1,q2⟩⟩:(∀z∈K,z∈K')∧(m=true→more=true∨∃y∈(L::cs).flatten,y ∉ K∧y∈K'))
    simp only[CE]at h
    split at h
    · cases h
    · rename_i y e
      cases hh:FV K (Ah [] L)with
      | true=>rw[hh]at h;exact keep h
      | false =>
        rw[hh]at h
        have h:CE (K++[y]) cs true=some (K',m):=h
        obtain⟨g1,_⟩:=ih (K++[y]) K' true m hcs' h
        have hy:y∈Ed K (Ah [] L):=by rw[e];exact ql
        obtain⟨k1,k2,_⟩:=(Ee hL y).1 hy
        refine⟨fun z hz=>g1 z (qt _ hz),fun _=>.inr ⟨y,by rw[List.flatten_cons];exact qt _ k1,fun hyK=>?_,g1 y (rH _ ql)⟩⟩
        rw[(Hg hL).2 ⟨y,k1,k2,hyK⟩]at hh
        cases hh
    · exact keep h
theorem Vz        {cs : List (List Int)} (hcs : ∀ L ∈ cs, DF   L) : ∀ (n : Nat) (K : List Int), (cs.flatten.filter fun x => decide (x ∉ K)).length < n → ∃ b, JI    cs n K = some b := by
  intro n
  induction n with
  | zero=>intro K h;omega
  | succ n ih =>
    intro K h
    simp only[JI]
    cases hp:CE K cs false with
    | none=>exact⟨true,rfl⟩
    | some p =>
      obtain⟨K',m⟩:=p
      cases m with
      | false=>exact⟨false,rfl⟩
      | true =>
        obtain⟨g1,g2⟩:=WN cs K K' false true hcs hp
        obtain⟨y,k1,k2,k3⟩:=(g2 rfl).resolve_left (by decide)
        refine ih K' ?_
        have:=Vh (p:=fun x=>decide (x ∉ K')) (q:=fun x=>decide (x ∉ K)) (y:=y) (fun x hx=>by
          rw[decide_eq_true_iff]at hx ⊢
          exact fun q=>hx (g1 x q)) (by rw[decide_eq_true_iff];exact k2) (by rw[decide_eq_false_iff_not];exact fun q=>q k3) k1
        omega
def fol(cs:List (List Int))(c:List Int):Bool:=(FU (cs.flatten.length+1) cs c).getD false
theorem j9{cs:List (List Int)}(hcs:∀L∈cs,DF L)(c:List Int):FU (cs.flatten.length+1) cs c=some (fol cs c):=by
 unfold fol
 have:∃b,FU (cs.flatten.length+1) cs c=some b:=by
  unfold FU
  split
  ·exact⟨true,rfl⟩
  ·exact Vz hcs _ _ (Nat.lt_succ_of_le (List.length_filter_le _ _))
 obtain⟨b,hb⟩:=this
 rw[hb];rfl
theorem oU{cs:List (List Int)}(hcs:∀L∈cs,DF L){c:List Int}(hc:DF c):D2 (cs.flatten.length+1) cs c=some (fol cs c):=by
 rw[Oe hcs hc]
 exact j9 hcs c
theorem Pv       {f : List (List Int) → List Int → Bool} {cs : List (List Int)} {T : Aa}      : ∀ (t : Aa)      (k : Nat), T.drop k = t → k ≤ T.length → ∀ n r, Bl      f cs T t k = (n, r) →
    k≤n∧n≤T.length∧(∀j L,k≤j→j<n→T[j]? = some (false,L)→f (cs++Bo (T.take j)) L=true)∧(r=true→∃L,T[n]? = some (false,L)∧f (cs++Bo (T.take n)) L=true∧(Ah [] L).length=0):=by
  intro t
  induction t with
  | nil =>
    intro k hd hk n r h
    have:=Cw hd hk
    simp only[Bl]at h
    injection h with h1 h2
    subst h1;subst h2
    exact⟨hk,qg _,fun j L h1 h2 _=>by omega,fun h=>by cases h⟩
  | cons x t ih =>
    intro k hd hk n r h
    obtain⟨d,L⟩:=x
    obtain⟨hlt,hx,hd'⟩:=B0 hd
    cases d with
    | true =>
      obtain⟨g1,g2,g3,g4⟩:=ih (k+1) hd' hlt n r h
      refine⟨by omega,g2,fun j M h1 h2 h3=>?_,g4⟩
      by_cases e:j=k
      · subst e;rw[hx]at h3;cases h3
      · exact g3 j M (by omega) h2 h3
    | false =>
      simp only[Bl]at h
      cases hf:f (cs++Bo (T.take k)) L with
      | false =>
        rw[hf]at h
        injection h with h1 h2
        subst h1;subst h2
        exact⟨qg _,by omega,fun j M h1 h2 _=>by omega,fun h=>by cases h⟩
      | true =>
        rw[hf]at h
        simp only at h
        by_cases hc:(Ah [] L).length=0
        · rw[if_pos hc]at h
          injection h with h1 h2
          subst h1;subst h2
          exact⟨qg _,by omega,fun j M h1 h2 _=>by omega,fun _=>⟨L,hx,hf,hc⟩⟩
        · rw[if_neg hc]at h
          obtain⟨g1,g2,g3,g4⟩:=ih (k+1) hd' hlt n r h
          refine⟨by omega,g2,fun j M h1 h2 h3=>?_,g4⟩
          by_cases e:j=k
          · subst e
            rw[hx]at h3
            injection h3 with h3
            injection h3 with _ h3
            subst h3
            exact hf
          · exact g3 j M (by omega) h2 h3
theorem co4:Try.prog.cellsOf 4=1:=by kernel_rfl
theorem co5:Try.prog.cellsOf 5=1:=by kernel_rfl
theorem lC:Try.prog.cellsOf 76=1:=by kernel_rfl
theorem lD:Try.prog.cellsOf 77=1:=by kernel_rfl
theorem oS:Try.prog.cellsOf 79=3:=by kernel_rfl
section
variable{H:Type}{enc:TypeId×Value→H}{w:World}{held:Bool}
theorem cU{n:Int}(h:(Lit.int .i8 n).wf=true):i8 n:=by
 simp only[Lit.wf,Bool.and_eq_true,decide_eq_true_eq]at h
 exact h
theorem ou{n:Int}(h:(Lit.int .u8 n).wf=true):u8 n:=by
 simp only[Lit.wf,Bool.and_eq_true,decide_eq_true_eq]at h
 exact h
def Q0(f:Int→AV)(q:Int→Prop)(_:AE)(us:List AV)(x:Int):Prop:=us=[f x]∧q x
theorem JN(f:Int→AV)(q:Int→Prop)(s s':AE)(us:List AV)(x:Int)(h:Q0 f q s us x)(_:Ao s.next s s'):Q0 f q s' us x:=h
theorem Vd{t:TypeId}{k:IntKind}(ht:Try.prog.underlying t=some (.int k)){q:Int→Prop}(hq:∀n,(Lit.int k n).wf=true→q n)(n:Nat)(cs:List Value)(y:DataW H×List MemPlace)
  (h:DataW.trod enc Try.prog w 0 (fun _=>true) held n t cs=some y) (ρ:Bq) (s:AE) (hd:GJ Try.prog w ρ s):KL Try.prog w (Q0 (fun n=>.int k n) q) cs ρ s:=by
 obtain⟨m,rfl,_,h3⟩:=DataW.trod_int ht h
 exact⟨ρ,s,[.int k m],m,hd,Bq.le_refl ρ,Ao.refl _ _,.cons (.int k m) .nil,rfl,hq m h3⟩
theorem Lr{t e:TypeId}{k:IntKind}(ht:Try.prog.underlying t=some (.slice e))(he:Try.prog.underlying e=some (.int k))(hc:Try.prog.cellsOf e=1){q:Int→Prop}(hq:∀n,(Lit.int k n).wf=true→q n){n:Nat}{cs:List Value}{y:DataW H×List MemPlace}
  (h:DataW.trod enc Try.prog w 0 (fun _=>true) held n t cs=some y) (hw:∀a,cs=[.slice (some a) 0 0]→0<w.heap.size) {ρ:Bq} {s:AE} (hd:GJ Try.prog w ρ s):KL Try.prog w (CU (Q0 (fun n=>.int k n) q) 1) cs ρ s:=
 G6 (JN _ _) ht hc (by decide) (fun _ n cs y h _=>Vd he hq n cs y h) h hw hd
theorem Fd{f:Int→AV}{q:Int→Prop}{s:AE}{us:List AV}{L:List Int}(h:CU (Q0 f q) 1 s us L):∃u,us=[u]∧AJ s.next s u (L.map f)∧(∀x∈L,q x)∧L.length<9223372036854775808:=by
  obtain⟨a,cap,rfl,hl,hcap,h2⟩:=h
  have hm:maxLen=9223372036854775807:=rfl
  refine⟨_,rfl,⟨a,cap,by rw[qi],fun k u hk=>?_⟩,fun x hx=>?_,by omega⟩
  · rw[rX]at hk
    cases hx:L[k]? with
    | none=>rw[hx]at hk;cases hk
    | some x =>
      rw[hx]at hk
      injection hk with hk
      subst hk
      obtain⟨i,o,vs,g1,g2,g3,g4,g5,g6⟩:=h2 k x hx
      subst g5
      exact⟨i,o,g1,g2,by simpa using g4 0 (f x) rfl⟩
  · obtain ⟨k, hk⟩ := List.mem_iff_getElem?.1 hx
    obtain⟨i,o,vs,g1,g2,g3,g4,g5,g6⟩:=h2 k x hk
    exact g6
set_option maxRecDepth 16000
theorem Ls{t e e':TypeId}{k:IntKind}(ht:Try.prog.underlying t=some (.slice e))(hte:Try.prog.underlying e=some (.slice e'))(he:Try.prog.underlying e'=some (.int k))(hce:Try.prog.cellsOf e=1)(hc:Try.prog.cellsOf e'=1){q:Int→Prop}(hq:∀n,(Lit.int k n).wf=true→q n){n:Nat}{cs:List Value}{y:DataW H×List MemPlace}
  (h:DataW.trod enc Try.prog w 0 (fun _=>true) held n t cs=some y) (hw:∀a,cs=[.slice (some a) 0 0]→0<w.heap.size) {ρ:Bq} {s:AE} (hd:GJ Try.prog w ρ s):KL Try.prog w (CU (CU (Q0 (fun n=>.int k n) q) 1) 1) cs ρ s:=
 G6 (CU.old (JN _ _)) ht hce (by decide) (fun hw n cs y h _ ρ s hd=>Lr hte he hc hq h (fun _ _=>hw) hd) h hw hd
theorem No{f:Int→AV}{q:Int→Prop}{s:AE}{us:List AV}{ls:List (List Int)}(h:CU (CU (Q0 f q) 1) 1 s us ls):
    ∃a cap,us=[.slice a ls.length cap]∧(∀k L,ls[k]? = some L→∃i o u,a=some (i,o)∧i<s.next∧load1 s i (o+k)=some u∧AJ s.next s u (L.map f))∧(∀L∈ls,(∀x∈L,q x)∧L.length<9223372036854775808)∧ls.length<9223372036854775808:=by
  obtain⟨a,cap,rfl,hl,hcap,h2⟩:=h
  have hm:maxLen=9223372036854775807:=rfl
  refine⟨a,cap,rfl,fun k L hk=>?_,fun L hL=>?_,by omega⟩
  · obtain ⟨i, o, vs, g1, g2, g3, g4, g5⟩ := h2 k L hk
    obtain⟨u,rfl,k2,k3,k4⟩:=Fd g5
    exact⟨i,o,u,g1,g2,by simpa using g4 0 u rfl,k2⟩
  · obtain ⟨k, hk⟩ := List.mem_iff_getElem?.1 hL
    obtain⟨i,o,vs,g1,g2,g3,g4,g5⟩:=h2 k L hk
    obtain⟨u,_,_,k3,k4⟩:=Fd g5
    exact⟨k3,k4⟩
def Q1(s:AE)(us:List AV)(x:Ca):Prop:=∃u,us=[.bool x.1,.int .u8 x.2.1,u]∧u8 x.2.1∧CU (Q0 oV i8) 1 s [u] x.2.2
theorem WK(s s':AE)(us:List AV)(x:Ca)(h:Q1 s us x)(k:Ao s.next s s'):Q1 s' us x:=by
 obtain⟨u,h1,h2,h3⟩:=h
 exact⟨u,h1,h2,CU.old (JN _ _) s s' _ _ h3 k⟩
theorem TT(hw:0<w.heap.size)(n:Nat)(cs:List Value)(y:DataW H×List MemPlace)(h:DataW.trod enc Try.prog w 0 (fun _=>true) held n 79 cs=some y)(ρ:Bq)(s:AE)(hd:GJ Try.prog w ρ s):KL Try.prog w Q1 cs ρ s:=by
 obtain⟨xs,m,rfl,_,h3,h4,h5⟩:=DataW.trod_struct Try.underlying79 h
 rw[oS]at h3
 have h4:xs.length=3:=h4
 match cs,h3 with
 | [c0,c1,c2],_ =>
  have e0:DataW.trod enc Try.prog w 0 (fun _=>true) held m 4 (([c0,c1,c2].drop 0).take (Try.prog.cellsOf 4))=xs[0]? := h5 0 _ rfl
  have e1:DataW.trod enc Try.prog w 0 (fun _=>true) held m 5 (([c0,c1,c2].drop 1).take (Try.prog.cellsOf 5))=xs[1]? := h5 1 _ rfl
  have e2:DataW.trod enc Try.prog w 0 (fun _=>true) held m 76 (([c0,c1,c2].drop 2).take (Try.prog.cellsOf 76))=xs[2]? := h5 2 _ rfl
  rw[co4]at e0
  rw[co5]at e1
  rw[lC]at e2
  rw[qp (show 0<xs.length by omega)]at e0
  rw[qp (show 1<xs.length by omega)]at e1
  rw[qp (show 2<xs.length by omega)]at e2
  obtain⟨d,q0,_⟩:=DataW.trod_bool Try.underlying4 e0
  obtain⟨wh,q1,_,q1'⟩:=DataW.trod_int Try.underlying5 e1
  injection q0 with q0
  injection q1 with q1
  subst q0;subst q1
  obtain⟨ρ',s',us,L,g1,g2,g3,g4,g5⟩:=Lr (q:=i8) Try.underlying76 Try.underlying77 lD (fun n h=>cU h) e2 (fun _ _=>hw) hd
  obtain⟨u,rfl,_⟩:=Fd g5
  exact⟨ρ',s',[.bool d,.int .u8 wh,u],(d,wh,L),g1,g2,g3,.cons (.bool d) (.cons (.int .u8 wh) g4),u,rfl,ou q1',g5⟩
theorem P5{n:Nat}{cs:List Value}{y:DataW H×List MemPlace}(h:DataW.trod enc Try.prog w 0 (fun _=>true) held n 31 cs=some y)(hw:∀a,cs=[.slice (some a) 0 0]→0<w.heap.size){ρ:Bq}{s:AE}(hd:GJ Try.prog w ρ s):KL Try.prog w (CU Q1 3) cs ρ s:=
 G6 WK Try.underlying31 oS (by decide) (fun hw n cs y h _=>TT hw n cs y h) h hw hd
theorem UE{s:AE}{us:List AV}{ss:List Ca}(h:CU Q1 3 s us ss):∃v,us=[v]∧Kn s.next s v ss∧(∀x∈ss,u8 x.2.1∧cW x.2.2∧x.2.2.length<9223372036854775808)∧ss.length<9223372036854775808:=by
  obtain⟨a,cap,rfl,hl,hcap,h2⟩:=h
  have hm:maxLen=9223372036854775807:=rfl
  refine⟨_,rfl,⟨a,cap,rfl,fun k d wh L hk=>?_⟩,fun x hx=>?_,by omega⟩
  · obtain⟨i,o,vs,g1,g2,g3,g4,u,g5,g6,g7⟩:=h2 k _ hk
    subst g5
    obtain⟨u',e,k2,k3,k4⟩:=Fd g7
    injection e with e
    subst e
    exact⟨i,o,u,g1,g2,g4 0 _ rfl,g4 1 _ rfl,g4 2 _ rfl,k2⟩
  · obtain ⟨k, hk⟩ := List.mem_iff_getElem?.1 hx
    obtain⟨i,o,vs,g1,g2,g3,g4,u,g5,g6,g7⟩:=h2 k _ hk
    obtain⟨u',e,k2,k3,k4⟩:=Fd g7
    exact⟨g6,k3,k4⟩
theorem Mb{t e:TypeId}(ht:Try.prog.underlying t=some (.slice e)){W:World}{base:Nat}{v:Value}(h:Value.okWide Try.prog W .any base t v)(a:Addr)(ha:v.cells.toList=[.slice (some a) 0 0]):0<W.heap.size:=by
 have hv:v=.slice (some a) 0 0:=by
  cases v with
  | agg cs =>
   simp[Value.okWide,ht,Cell.okWide,Cell.ok]at h
  | _ =>
   simp[Value.cells]at ha
   try (obtain⟨e1,e2,e3⟩:=ha;rw[e1,e2,e3])
 subst hv
 simp only[Value.okWide,ht,Cell.okWide,Cell.ok]at h
 obtain⟨_,_,_,_,row,cells,hs,_⟩:=h
 unfold World.shape? at hs
 cases hb:W.heap[a.block]? with
 | none=>rw[hb]at hs;cases hs
 | some o =>
  rcases qk a.block W.heap.size with h' | h'
  ·omega
  ·rw[Array.getElem?_eq_none h']at hb;cases hb
theorem Ve{W:World}{base:Nat}{v0 v1:Value}(h0:Value.okWide Try.prog W .any base 30 v0)(h1:Value.okWide Try.prog W .any base 31 v1)
  {d0 d1:DataW H} {p0 p1:List MemPlace} (t0:DataW.Trod enc Try.prog W 0 (fun _=>true) true 30 v0 d0 p0) (t1:DataW.Trod enc Try.prog W 0 (fun _=>true) true 31 v1 d1 p1):
  ∃ (ρ:Bq) (s:AE) (a0 a1:AV) (ls:List (List Int)) (ss:List Ca),GJ Try.prog W ρ s∧AX ρ [a0] v0.cells.toList∧AX ρ [a1] v1.cells.toList∧IG s.next s a0 a1 ls ss:=by
 obtain⟨n0,t0⟩:=t0
 obtain⟨n1,t1⟩:=t1
 obtain⟨ρ1,s1,us1,ls,g1,g2,g3,g4,g5⟩:=Ls (q:=i8) Try.underlying30 Try.underlying76 Try.underlying77 lC lD (fun n h=>cU h) t0 (fun a ha=>Mb Try.underlying30 h0 a ha) (oT Try.prog W)
 obtain⟨ρ2,s2,us2,ss,k1,k2,k3,k4,k5⟩:=P5 t1 (fun a ha=>Mb Try.underlying31 h1 a ha) g1
 have g5:=CU.old (CU.old (JN _ _)) s1 s2 _ _ g5 k3
 obtain⟨a,cap,rfl,q1,q2,q3⟩:=No g5
 obtain⟨v,rfl,r1,r2,r3⟩:=UE k5
 exact⟨ρ2,s2,_,v,ls,ss,k1,g4.mono k2,k4,qg _,q2,q3,r2,r3,⟨a,cap,rfl,q1⟩,r1⟩
end
end
end Go.Proofs.Ytilhhmkdcoajnaa.Am
set_option linter.unusedVariables false
set_option linter.unusedSimpArgs false
set_option maxRecDepth 16000
namespace Go.Proofs.Ytilhhmkdcoajnaa.Am
open Go Go.Proofs
noncomputable section
theorem VS{W:World}{ρ:Bq}{s:AE}{f:FuncId}{xs:List AV}{args:Array Value}(hd:GJ Try.prog W ρ s)(ha:AX ρ xs args.toList)(h:WF mO f xs (fun r _=>r=.bool true) s):
  Calls Try.prog f args W fun e W'=>e=.returned (.bool true)∧Mw W W':=by
 obtain⟨n,p,h1,h2⟩:=h
 have:=((pq MS (IZ J4) rfl eb n).call ρ s W f xs p.1 p.2 args h1 hd.inv hd.fresh ha).2
 refine callsIn_wide.1 (CallsIn.mono this ?_)
 intro e w' he
 cases e with
 | panicked c=>exact he.elim
 | outgrown=>exact he.elim
 | returned v' =>
  obtain⟨ρ',k1,k2,k3⟩:=he
  rw[h2]at k1
  cases k1
  exact⟨rfl,U2 k3 hd.notOwned⟩
theorem OB{t e:TypeId}(ht:Try.prog.underlying t=some (.slice e)){W:World}{base:Nat}{v:Value}(h:Value.okWide Try.prog W .any base t v){ρ:Bq}{a:AV}(hr:AX ρ [a] v.cells.toList):Ad ρ a v:=by
 have hv:v.cells.toList=[v]:=by
  cases v with
  | agg cs=>simp[Value.okWide,ht,Cell.okWide,Cell.ok]at h
  | _=>rfl
 rw[hv]at hr
 cases hr with
 | cons h _=>exact h
theorem reads_again{H:Type}{enc:TypeId×Value→H}{P:Program}{t:TypeId}(hl:laidOutB P=true)(hr:P.readableRec t=true)(hrow:t<P.types.size){W W':World}{v:Value}{d:DataW H}{ps:List MemPlace}{sp:Nat→Bool}
  (h:DataW.Trod enc P W 0 (fun _=>true) true t v d ps) (hk:Mw W W') (hlt:∀x∈ps,x.block<W.heap.size) (hs:∀x∈ps,sp x.block=true):DataW.Trod enc P W' 0 sp true t v d ps:=
 WideElems.Trod_stays hl hr hrow h (fun x hx=>by
  have:=hlt x hx
  cases x with
  | cell b o=>exact World.cell?_of_block (w:=W) (hk.heap b this)
  | map b=>exact hk.heap b this) hs
end
end Go.Proofs.Ytilhhmkdcoajnaa.Am
