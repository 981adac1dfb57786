/- Are two terms of the reference alike: walked (just if they are the same); conditions: none. -/
import Derived.Test.YtickdehehcmfbaaGreatDoorAmM06
set_option linter.unusedVariables false
set_option linter.unusedSimpArgs false
namespace Go.Proofs.YtickdehehcmfbaaGreatDoor.Am
open Go Go.Proofs
noncomputable section
def RT.pl(t:RT):Int×Int×Nat×List Int:=(t.kind,t.id,t.con,t.kids)
theorem RT.ten{t:RT}(h:t.con<11):∃c0 c1 c2 c3 c4 c5 c6,(Tm.con t.con).cells=[c0,c1,c2,c3,c4,c5,c6]∧t.cells=[iv t.kind,iv t.id,c0,c1,c2,c3,c4,c5,c6,t.kv]:=by
 obtain⟨tag,c1,c2,c3,c5,c6,hc,_⟩:=BM _ (cF h (by omega:11<13))
 refine⟨_,_,_,_,_,_,_,hc,?_⟩
 show [iv t.kind,iv t.id]++(Tm.con t.con).cells++_=_
 rw[hc];rfl
set_option maxRecDepth 20000 in
theorem QS       {E : Bl}  (hE : Ai    E) {s : AD}  (hg : CV   s 1 A7    = true) (h1 : 1 < s.next) {t u : RT} (ht : t.con < 11) (hu : u.con < 11) (rt : A0     s t.kv t.kids) (ru : A0     s u.kv u.kids) (hl : t.kids.length ≤ 1000) {K : AV → AD  → Prop}
    (hK:∀s',BD s.next s s'→K (.bool (decide (t.pl=u.pl))) s'):WF E 108 [.agg t.cells,.agg u.cells] K s:=by
  obtain⟨c0,c1,c2,c3,c4,c5,c6,hc,hct⟩:=t.ten ht
  obtain⟨e0,e1,e2,e3,e4,e5,e6,he,heu⟩:=u.ten hu
  rw[hct,heu]
  have hsame:=fun os (K:AV→AD→Prop)=>QA (K:=K) hE (s:=ext s os) (by rw[BN (Wh h1)];exact hg) ht hu
  rw[hc,he]at hsame
  have lt:=rt.len
  have lu:=ru.len
  refine hE.go UB (by decide) rfl ?_
  have hend:∀os b,b=decide (t.pl=u.pl)→K (.bool b) (ext s os):=fun os b hb=>hb▸hK _ AS
  generalize hs:s.next=b
  have hs0:s=ext s []:=(Af s).symm
  rw[hs0]
  by_cases hk:t.kind=u.kind
  · have dk : decide (t.kind ≠ u.kind) = false := by simp [hk]
    by_cases hi:t.id=u.id
    · have di : decide (t.id ≠ u.id) = false := by simp [hi]
      simp only[T6,KN,KO,Qa,Qb,Qc,Qd,Qe,Qf,Qg,Qh,Qi,Qj,Qk,Ql,Qm,Qn,true_and,and_true,Qo,Qp,Qq,Qr,Qs,Qt,Qu,Qv,Qw,Qx,Qy,Qz,Ra,Rb,Rc,Rd,Re,Rf,Rg,Rh,Ri,Rj,Rk,Rl,Rm,Ya,Yb,Yc,Rn,Ro,Xv,Yd,Ye,Rq,Rs,Rt,Ru,Rw,Rx,Ry,hs,Rx,dk,di,C3,Hl,HF,Kb,OQ,UM,De,Rz,Wa,Wb,Wc,Wd,We,Wf,Wg,Wh,Wi,Wj,Wl,Wm,Wn,Wp,Wq,Wr,Ws,Wt,Wu,Wv,Ww,Wx,Wy,Wz,Xa,Xb,Xc,Xd,Xe,Xf,Xg,Xh,Xi,Xj,Xk,Xl,Xm,Xn,Xo,Xp,Xq,Xr,bO,bT,bS,bP,bU,bV,List.getElem?_cons_zero,List.getElem?_cons_succ,bR,bX,bW,bY,bN,Nat.reduceAdd,Nat.reduceLT,Nat.reduceLeDiff,decide_true,decide_false,Bool.true_and,Bool.and_true,bZ,bM,Option.some.injEq,Xs,Xt,Xu,Xv]
      refine hsame _ _ ?_
      by_cases hcn:t.con=u.con
      · have dc : decide (t.con = u.con) = true := decide_eq_true hcn
        by_cases hln:t.kids.length=u.kids.length
        · have dl:decide ((t.kids.length:Int)≠(u.kids.length:Int))=false:=by simp[hln]
          simp only[dc,Q1,Qa,Qb,Qc,Qd,Qe,Qf,Qg,Qh,Qi,Qj,Qk,Ql,Qm,Qn,true_and,and_true,Qo,Qp,Qq,Qr,Qs,Qt,Qu,Qv,Qw,Qx,Qy,Qz,Ra,Rb,Rc,Rd,Re,Rf,Rg,Rh,Ri,Rj,Rk,Rl,Rm,Ya,Yb,Yc,Rn,Ro,Xv,Yd,Ye,Rq,Rs,Rt,Ru,Rw,Rx,Ry,hs,Ry,Bool.not_true,Md,De,lt,lu,Rx,dl,Rz,Wa,Wb,Wc,Wd,We,Wf,Wg,Wh,Wi,Wj,Wl,Wm,Wn,Wp,Wq,Wr,Ws,Wt,Wu,Wv,Ww,Wx,Wy,Wz,Xa,Xb,Xc,Xd,Xe,Xf,Xg,Xh,Xi,Xj,Xk,Xl,Xm,Xn,Xo,Xp,Xq,Xr,bO,bT,bS,bP,bU,bV,List.getElem?_cons_zero,List.getElem?_cons_succ,bR,bX,bW,bY,bN,Nat.reduceAdd,Nat.reduceLT,Nat.reduceLeDiff,decide_true,decide_false,Bool.true_and,Bool.and_true,bZ,bM,Option.some.injEq,Xs,Xt,Xu,Xv]
          have hgen:∀os,∃s2,s2=ext s os:=fun os=>⟨_,rfl⟩
          have key:∀ (m i:Nat) (a7 a8:AV),m+i=t.kids.length→t.kids.take i=u.kids.take i →
              WC E none (AU.loop Gm) (AT 0 (G9 (fun x x_1 x_2=>Qb E Mh (fun v s'=>Kx (CU s' x_1) fun s'=>K (JG v 4) s') [] x x_2) (Ends Tryz.prog [(CX.var 4,none)] K)))
                [.agg [iv t.kind,iv t.id,c0,c1,c2,c3,c4,c5,c6,t.kv],.agg [iv u.kind,iv u.id,e0,e1,e2,e3,e4,e5,e6,u.kv],.ptr (some (nid b 0,0)),.ptr (some (nid b 1,0)),.bool false,iv (i:Int),.bool false,a7,a8] []
                (ext s [R 122 0 false [iv t.kind,iv t.id,c0,c1,c2,c3,c4,c5,c6,t.kv],R 122 0 false [iv u.kind,iv u.id,e0,e1,e2,e3,e4,e5,e6,u.kv]]):=by
            intro m
            induction m with
            | zero =>
              intro i a7 a8 hi2 hpre
              refine WC.loop' ?_
              have hlt:¬ ((i:Int)<(t.kids.length:Int)):=by omega
              simp only[Gm,KP,Qa,Qb,Qc,Qd,Qe,Qf,Qg,Qh,Qi,Qj,Qk,Ql,Qm,Qn,true_and,and_true,Qo,Qp,Qq,Qr,Qs,Qt,Qu,Qv,Qw,Qx,Qy,Qz,Ra,Rb,Rc,Rd,Re,Rf,Rg,Rh,Ri,Rj,Rk,Rl,Rm,Ya,Yb,Yc,Rn,Ro,Xv,Yd,Ye,Rq,Rs,Rt,Ru,Rw,Rx,Ry,hs,Md,De,lt,Rq,hlt,decide_false,Rz,Wa,Wb,Wc,Wd,We,Wf,Wg,Wh,Wi,Wj,Wl,Wm,Wn,Wp,Wq,Wr,Ws,Wt,Wu,Wv,Ww,Wx,Wy,Wz,Xa,Xb,Xc,Xd,Xe,Xf,Xg,Xh,Xi,Xj,Xk,Xl,Xm,Xn,Xo,Xp,Xq,Xr,bO,bT,bS,bP,bU,bV,List.getElem?_cons_zero,List.getElem?_cons_succ,bR,bX,bW,bY,bN,Nat.reduceAdd,Nat.reduceLT,Nat.reduceLeDiff,decide_true,decide_false,Bool.true_and,Bool.and_true,bZ,bM,Option.some.injEq,Xs,Xt,Xu,Xv]
              rw[if_pos trivial]
              simp only[Mh,Qa,Qb,Qc,Qd,Qe,Qf,Qg,Qh,Qi,Qj,Qk,Ql,Qm,Qn,true_and,and_true,Qo,Qp,Qq,Qr,Qs,Qt,Qu,Qv,Qw,Qx,Qy,Qz,Ra,Rb,Rc,Rd,Re,Rf,Rg,Rh,Ri,Rj,Rk,Rl,Rm,Ya,Yb,Yc,Rn,Ro,Xv,Yd,Ye,Rq,Rs,Rt,Ru,Rw,Rx,Ry]
              rw[bw (by omega),bw (by omega)]at hpre
              exact hend _ _ (Eq.symm (decide_eq_true (by unfold RT.pl;rw[hk,hi,hcn,hpre])))
            | succ m ih =>
              intro i a7 a8 hi2 hpre
              refine WC.loop' ?_
              obtain⟨W,hW⟩:∃W,W=AU.loop Gm:=⟨_,rfl⟩
              rw[← hW]
              have hlt:((i:Int)<(t.kids.length:Int)):=by omega
              have hadd:i64 ((i:Int)+1):=by unfold i64;omega
              have hit:i<t.kids.length:=by omega
              have hiu:i<u.kids.length:=by omega
              obtain⟨j,q,cap,hv,hj,hld⟩:=rt.at (k:=i) (bc hit)
              obtain⟨j2,q2,cap2,hv2,hj2,hld2⟩:=ru.at (k:=i) (bc hiu)
              rw[hs]at hj hj2
              have hih:=fun hp=>ih (i+1) (.bool true) (.bool false) (by omega) hp
              rw[← hW,show((i+1:Nat):Int)=(i:Int)+1 from by omega,hv,hv2]at hih
              rw[hv]at lt
              by_cases hne:t.kids[i]=u.kids[i]
              · have dn:decide (t.kids[i]≠u.kids[i])=false:=by simp[hne]
                simp only[Gm,KP,Mg,Q3,hv,hv2,Qa,Qb,Qc,Qd,Qe,Qf,Qg,Qh,Qi,Qj,Qk,Ql,Qm,Qn,true_and,and_true,Qo,Qp,Qq,Qr,Qs,Qt,Qu,Qv,Qw,Qx,Qy,Qz,Ra,Rb,Rc,Rd,Re,Rf,Rg,Rh,Ri,Rj,Rk,Rl,Rm,Ya,Yb,Yc,Rn,Ro,Xv,Yd,Ye,Rq,Rs,Rt,Ru,Rw,Rx,Ry,hs,Md,C3,De,lt,Rq,Rx,hlt,decide_true,Ac Tryz.underlying27 Fy hit,Ac Tryz.underlying27 Fy hiu,b0,hj,hj2,hld,hld2,dn,A9 _ _ _ _ hadd,Rz,Wa,Wb,Wc,Wd,We,Wf,Wg,Wh,Wi,Wj,Wl,Wm,Wn,Wp,Wq,Wr,Ws,Wt,Wu,Wv,Ww,Wx,Wy,Wz,Xa,Xb,Xc,Xd,Xe,Xf,Xg,Xh,Xi,Xj,Xk,Xl,Xm,Xn,Xo,Xp,Xq,Xr,bO,bT,bS,bP,bU,bV,List.getElem?_cons_zero,List.getElem?_cons_succ,bR,bX,bW,bY,bN,Nat.reduceAdd,Nat.reduceLT,Nat.reduceLeDiff,decide_true,decide_false,Bool.true_and,Bool.and_true,bZ,bM,Option.some.injEq,Xs,Xt,Xu,Xv]
                exact hih (by rw[cG hit,cG hiu,hpre,hne])
              · have dn:decide (t.kids[i]≠u.kids[i])=true:=by simp[hne]
                simp only[Gm,KP,Mg,Q2,hv,hv2,Qa,Qb,Qc,Qd,Qe,Qf,Qg,Qh,Qi,Qj,Qk,Ql,Qm,Qn,true_and,and_true,Qo,Qp,Qq,Qr,Qs,Qt,Qu,Qv,Qw,Qx,Qy,Qz,Ra,Rb,Rc,Rd,Re,Rf,Rg,Rh,Ri,Rj,Rk,Rl,Rm,Ya,Yb,Yc,Rn,Ro,Xv,Yd,Ye,Rq,Rs,Rt,Ru,Rw,Rx,Ry,hs,Md,C3,De,lt,Rq,Rx,hlt,decide_true,Ac Tryz.underlying27 Fy hit,Ac Tryz.underlying27 Fy hiu,b0,hj,hj2,hld,hld2,dn,Rz,Wa,Wb,Wc,Wd,We,Wf,Wg,Wh,Wi,Wj,Wl,Wm,Wn,Wp,Wq,Wr,Ws,Wt,Wu,Wv,Ww,Wx,Wy,Wz,Xa,Xb,Xc,Xd,Xe,Xf,Xg,Xh,Xi,Xj,Xk,Xl,Xm,Xn,Xo,Xp,Xq,Xr,bO,bT,bS,bP,bU,bV,List.getElem?_cons_zero,List.getElem?_cons_succ,bR,bX,bW,bY,bN,Nat.reduceAdd,Nat.reduceLT,Nat.reduceLeDiff,decide_true,decide_false,Bool.true_and,Bool.and_true,bZ,bM,Option.some.injEq,Xs,Xt,Xu,Xv]
                exact hend _ _ (Eq.symm (decide_eq_false fun e=>hne (by have:t.kids=u.kids:=congrArg (fun x=>x.2.2.2) e;simp[this])))
          exact key t.kids.length 0 _ _ (by omega) (by simp)
        · have dl:decide ((t.kids.length:Int)≠(u.kids.length:Int))=true:=by simp;omega
          simp only[dc,H9,Qa,Qb,Qc,Qd,Qe,Qf,Qg,Qh,Qi,Qj,Qk,Ql,Qm,Qn,true_and,and_true,Qo,Qp,Qq,Qr,Qs,Qt,Qu,Qv,Qw,Qx,Qy,Qz,Ra,Rb,Rc,Rd,Re,Rf,Rg,Rh,Ri,Rj,Rk,Rl,Rm,Ya,Yb,Yc,Rn,Ro,Xv,Yd,Ye,Rq,Rs,Rt,Ru,Rw,Rx,Ry,hs,Ry,Bool.not_true,Md,De,lt,lu,Rx,dl,Rz,Wa,Wb,Wc,Wd,We,Wf,Wg,Wh,Wi,Wj,Wl,Wm,Wn,Wp,Wq,Wr,Ws,Wt,Wu,Wv,Ww,Wx,Wy,Wz,Xa,Xb,Xc,Xd,Xe,Xf,Xg,Xh,Xi,Xj,Xk,Xl,Xm,Xn,Xo,Xp,Xq,Xr,bO,bT,bS,bP,bU,bV,List.getElem?_cons_zero,List.getElem?_cons_succ,bR,bX,bW,bY,bN,Nat.reduceAdd,Nat.reduceLT,Nat.reduceLeDiff,decide_true,decide_false,Bool.true_and,Bool.and_true,bZ,bM,Option.some.injEq,Xs,Xt,Xu,Xv]
          exact hend _ _ (Eq.symm (decide_eq_false fun e=>hln (congrArg (fun x=>x.2.2.2.length) e)))
      · have dc:decide (t.con=u.con)=false:=decide_eq_false hcn
        simp only[dc,H9,Qa,Qb,Qc,Qd,Qe,Qf,Qg,Qh,Qi,Qj,Qk,Ql,Qm,Qn,true_and,and_true,Qo,Qp,Qq,Qr,Qs,Qt,Qu,Qv,Qw,Qx,Qy,Qz,Ra,Rb,Rc,Rd,Re,Rf,Rg,Rh,Ri,Rj,Rk,Rl,Rm,Ya,Yb,Yc,Rn,Ro,Xv,Yd,Ye,Rq,Rs,Rt,Ru,Rw,Rx,Ry,hs,Ry,Bool.not_false,Rz,Wa,Wb,Wc,Wd,We,Wf,Wg,Wh,Wi,Wj,Wl,Wm,Wn,Wp,Wq,Wr,Ws,Wt,Wu,Wv,Ww,Wx,Wy,Wz,Xa,Xb,Xc,Xd,Xe,Xf,Xg,Xh,Xi,Xj,Xk,Xl,Xm,Xn,Xo,Xp,Xq,Xr,bO,bT,bS,bP,bU,bV,List.getElem?_cons_zero,List.getElem?_cons_succ,bR,bX,bW,bY,bN,Nat.reduceAdd,Nat.reduceLT,Nat.reduceLeDiff,decide_true,decide_false,Bool.true_and,Bool.and_true,bZ,bM,Option.some.injEq,Xs,Xt,Xu,Xv]
        exact hend _ _ (Eq.symm (decide_eq_false fun e=>hcn (congrArg (fun x=>x.2.2.1) e)))
    · have di:decide (t.id≠u.id)=true:=by simp[hi]
      simp only[T6,KN,KO,H9,Qa,Qb,Qc,Qd,Qe,Qf,Qg,Qh,Qi,Qj,Qk,Ql,Qm,Qn,true_and,and_true,Qo,Qp,Qq,Qr,Qs,Qt,Qu,Qv,Qw,Qx,Qy,Qz,Ra,Rb,Rc,Rd,Re,Rf,Rg,Rh,Ri,Rj,Rk,Rl,Rm,Ya,Yb,Yc,Rn,Ro,Xv,Yd,Ye,Rq,Rs,Rt,Ru,Rw,Rx,Ry,hs,Rx,dk,di,C3,Kb,OQ,Rz,Wa,Wb,Wc,Wd,We,Wf,Wg,Wh,Wi,Wj,Wl,Wm,Wn,Wp,Wq,Wr,Ws,Wt,Wu,Wv,Ww,Wx,Wy,Wz,Xa,Xb,Xc,Xd,Xe,Xf,Xg,Xh,Xi,Xj,Xk,Xl,Xm,Xn,Xo,Xp,Xq,Xr,bO,bT,bS,bP,bU,bV,List.getElem?_cons_zero,List.getElem?_cons_succ,bR,bX,bW,bY,bN,Nat.reduceAdd,Nat.reduceLT,Nat.reduceLeDiff,decide_true,decide_false,Bool.true_and,Bool.and_true,bZ,bM,Option.some.injEq,Xs,Xt,Xu,Xv]
      exact hend _ _ (Eq.symm (decide_eq_false fun e=>hi (congrArg (fun x=>x.2.1) e)))
  · have dk:decide (t.kind≠u.kind)=true:=by simp[hk]
    simp only[T6,KN,KO,H9,Qa,Qb,Qc,Qd,Qe,Qf,Qg,Qh,Qi,Qj,Qk,Ql,Qm,Qn,true_and,and_true,Qo,Qp,Qq,Qr,Qs,Qt,Qu,Qv,Qw,Qx,Qy,Qz,Ra,Rb,Rc,Rd,Re,Rf,Rg,Rh,Ri,Rj,Rk,Rl,Rm,Ya,Yb,Yc,Rn,Ro,Xv,Yd,Ye,Rq,Rs,Rt,Ru,Rw,Rx,Ry,hs,Rx,dk,C3,Kb,Rz,Wa,Wb,Wc,Wd,We,Wf,Wg,Wh,Wi,Wj,Wl,Wm,Wn,Wp,Wq,Wr,Ws,Wt,Wu,Wv,Ww,Wx,Wy,Wz,Xa,Xb,Xc,Xd,Xe,Xf,Xg,Xh,Xi,Xj,Xk,Xl,Xm,Xn,Xo,Xp,Xq,Xr,bO,bT,bS,bP,bU,bV,List.getElem?_cons_zero,List.getElem?_cons_succ,bR,bX,bW,bY,bN,Nat.reduceAdd,Nat.reduceLT,Nat.reduceLeDiff,decide_true,decide_false,Bool.true_and,Bool.and_true,bZ,bM,Option.some.injEq,Xs,Xt,Xu,Xv]
    exact hend _ _ (Eq.symm (decide_eq_false fun e=>hk (congrArg (fun x=>x.1) e)))
theorem HP{α:Type} [BEq α] [LawfulBEq α]{a:α}:∀ {l:List α}{i:Nat},a ∉ l.take i→l[i]? = some a→l.idxOf a=i
 | [],i,_,h=>by simp at h
 | b::l,0,_,h=>by simp at h;subst h;exact List.idxOf_cons_self
 | b::l,i+1,hn,h=>by
  rw[bW,bv,not_or]at hn
  have:=HP hn.2 (by simpa using h)
  have hb:(b == a)=false:=by
   rw[beq_eq_false_iff_ne];exact fun e=>hn.1 e.symm
  rw[cX,hb,this];rfl
set_option maxRecDepth 20000 in
theorem P8{E:Bl}(hE:Ai E){q:Nat}{T:List RT}{O:List Nat}(hT:T.length≤1000){u:RT}(hu:u.con<11){s0:AD}(h0:Nt s0 q T O)(hg0:CV s0 1 A7=true)(h10:1<s0.next)(hru:A0 s0 u.kv u.kids)(hkl:∀t∈T,t.kids.length≤3){bx:Nat}(hbx:s0.heap.get bx=some (R 122 0 false u.cells))(hbl:bx<s0.next)(a1:AV){Q:Au→Prop}{marks:List Nat}
    (hfound:∀ (i:Nat) (y5 y6:AV) s',i<T.length→(T.map RT.pl).idxOf u.pl=i→u.pl∈T.map RT.pl→BD s0.next s0 s'→Q ⟨.ret,[.ptr (some (q,0)),a1,.ptr (some (bx,0)),iv (i:Int),iv (i:Int),y5,y6],marks,s'⟩)
    (hnot:∀ (y4 y5 y6:AV) s',u.pl ∉ T.map RT.pl→BD s0.next s0 s'→AT 0 Q ⟨.exit 0,[.ptr (some (q,0)),a1,.ptr (some (bx,0)),iv 0,y4,y5,y6],marks,s'⟩):
    ∀ (m i:Nat) (s:AD) (a5 a6:AV),m+i=T.length→u.pl ∉ (T.map RT.pl).take i→BD s0.next s0 s→WC E none (AU.loop LU) (AT 0 Q) [.ptr (some (q,0)),a1,.ptr (some (bx,0)),iv 0,iv (i:Int),a5,a6] marks s:=by
  obtain⟨c0,c1,c2,c3,c4,c5,c6,hc,huc⟩:=u.ten hu
  intro m
  induction m with
  | zero =>
    intro i s a5 a6 hi hpre ho
    rw[bw (by rw[bp];omega)]at hpre
    have h:=h0.old ho
    obtain⟨tv,OT,hobj,hbuf,_⟩:=h.ex
    obtain⟨a,c,rfl,_⟩:=hbuf.slice
    refine WC.loop' ?_
    have hlt:¬ ((i:Int)<(T.length:Int)):=by omega
    simp only[LU,SC,Qa,Qb,Qc,Qd,Qe,Qf,Qg,Qh,Qi,Qj,Qk,Ql,Qm,Qn,true_and,and_true,Qo,Qp,Qq,Qr,Qs,Qt,Qu,Qv,Qw,Qx,Qy,Qz,Ra,Rb,Rc,Rd,Re,Rf,Rg,Rh,Ri,Rj,Rk,Rl,Rm,Ya,Yb,Yc,Rn,Ro,Xv,Yd,Ye,Rq,Rs,Rt,Ru,Rw,Rx,Ry,hobj,Ci,Gk,AZ Tryz.underlying78,Rq,hlt,decide_false,Rz,Wa,Wb,Wc,Wd,We,Wf,Wg,Wh,Wi,Wj,Wl,Wm,Wn,Wp,Wq,Wr,Ws,Wt,Wu,Wv,Ww,Wx,Wy,Wz,Xa,Xb,Xc,Xd,Xe,Xf,Xg,Xh,Xi,Xj,Xk,Xl,Xm,Xn,Xo,Xp,Xq,Xr,bO,bT,bS,bP,bU,bV,List.getElem?_cons_zero,List.getElem?_cons_succ,bR,bX,bW,bY,bN,Nat.reduceAdd,Nat.reduceLT,Nat.reduceLeDiff,decide_true,decide_false,Bool.true_and,Bool.and_true,bZ,bM,Option.some.injEq,Xs,Xt,Xu,Xv]
    exact hnot _ _ _ _ hpre ho
  | succ m ih =>
    intro i s a5 a6 hi hpre ho
    have h:=h0.old ho
    obtain⟨tv,OT,hobj,hbuf,hk,hO,_⟩:=h.ex
    have hil:i<T.length:=by omega
    have ht:T[i]? = some T[i]:=bc hil
    have htm:T[i]∈T:=List.getElem_mem _
    have hTc:∀t∈T,t.con<11:=fun t ht=>(hk t ht).1
    obtain⟨hat,hle⟩:=G6 hTc ht
    rcases hbuf.row with⟨_,hz,_⟩ | ⟨j,r,rfl,hjO,hjr,hh⟩
    · omega
    have hln:A1 (s.heap.get j) (i * 10) 10=some T[i].cells:=by rw[hjr,Df hh hle,hat]
    have hlt:((i:Int)<(T.length:Int)):=by omega
    have hadd:i64 ((i:Int)+1):=by unfold i64;omega
    have hbx1:s.heap.get bx=some (R 122 0 false u.cells):=by rw[ho.2 bx hbl];exact hbx
    have hlb:A1 (some (R 122 0 false u.cells)) 0 10=some u.cells:=by
      rw[Wj (by rw[RT.len hu];exact bM _),bR,bw (by rw[RT.len hu];exact bM _)]
    have hal:=fun(K:AV→AD→Prop)=>QS (K:=K) hE (s:=s) (by rw[BN (ho.2 1 h10)];exact hg0) (bi h10 ho.1) (hTc _ htm) hu ((hk _ htm).2.rd h.lt) (hru.old ho) (by have:=hkl _ htm;omega)
    refine WC.loop' ?_
    obtain⟨W,hW⟩:∃W,W=AU.loop LU:=⟨_,rfl⟩
    rw[← hW]
    simp only[LU,SC,XJ,Qa,Qb,Qc,Qd,Qe,Qf,Qg,Qh,Qi,Qj,Qk,Ql,Qm,Qn,true_and,and_true,Qo,Qp,Qq,Qr,Qs,Qt,Qu,Qv,Qw,Qx,Qy,Qz,Ra,Rb,Rc,Rd,Re,Rf,Rg,Rh,Ri,Rj,Rk,Rl,Rm,Ya,Yb,Yc,Rn,Ro,Xv,Yd,Ye,Rq,Rs,Rt,Ru,Rw,Rx,Ry,hobj,Ci,Gk,Ny,I5,AZ Tryz.underlying78,Rq,hlt,decide_true,Ac Tryz.underlying78 I5 hil,hln,hbx1,hlb,Rz,Wa,Wb,Wc,Wd,We,Wf,Wg,Wh,Wi,Wj,Wl,Wm,Wn,Wp,Wq,Wr,Ws,Wt,Wu,Wv,Ww,Wx,Wy,Wz,Xa,Xb,Xc,Xd,Xe,Xf,Xg,Xh,Xi,Xj,Xk,Xl,Xm,Xn,Xo,Xp,Xq,Xr,bO,bT,bS,bP,bU,bV,List.getElem?_cons_zero,List.getElem?_cons_succ,bR,bX,bW,bY,bN,Nat.reduceAdd,Nat.reduceLT,Nat.reduceLeDiff,decide_true,decide_false,Bool.true_and,Bool.and_true,bZ,bM,Option.some.injEq,Xs,Xt,Xu,Xv]
    refine hal _ fun s' ho'=>?_
    have ho2:BD s0.next s0 s':=ho.trans (ho'.mono ho.1)
    have hTi:(T.map RT.pl)[i]? = some T[i].pl:=by rw[b3,ht];rfl
    have hilm:i<(T.map RT.pl).length:=by rw[bp];exact hil
    by_cases hpl:T[i].pl=u.pl
    · have hb:decide (T[i].pl=u.pl)=true:=decide_eq_true hpl
      simp only[hb,Qa,Qb,Qc,Qd,Qe,Qf,Qg,Qh,Qi,Qj,Qk,Ql,Qm,Qn,true_and,and_true,Qo,Qp,Qq,Qr,Qs,Qt,Qu,Qv,Qw,Qx,Qy,Qz,Ra,Rb,Rc,Rd,Re,Rf,Rg,Rh,Ri,Rj,Rk,Rl,Rm,Ya,Yb,Yc,Rn,Ro,Xv,Yd,Ye,Rq,Rs,Rt,Ru,Rw,Rx,Ry,XK]
      refine hfound i _ _ s' hil ?_ (by rw[← hpl];exact bn hTi) ho2
      rw[HP hpre (by rw[hTi,hpl])]
    · have hb : decide (T[i].pl = u.pl) = false := decide_eq_false hpl
      have:=ih (i+1) s' (.bool true) (.bool false) (by omega) (by rw[cG hilm,List.mem_append,List.mem_singleton];rintro(h' | h');exact hpre h';exact hpl (by rw[h'];simp)) ho2
      rw[← hW,show((i+1:Nat):Int)=(i:Int)+1 from by omega]at this
      simp only[hb,Qa,Qb,Qc,Qd,Qe,Qf,Qg,Qh,Qi,Qj,Qk,Ql,Qm,Qn,true_and,and_true,Qo,Qp,Qq,Qr,Qs,Qt,Qu,Qv,Qw,Qx,Qy,Qz,Ra,Rb,Rc,Rd,Re,Rf,Rg,Rh,Ri,Rj,Rk,Rl,Rm,Ya,Yb,Yc,Rn,Ro,Xv,Yd,Ye,Rq,Rs,Rt,Ru,Rw,Rx,Ry,XL,A9 _ _ _ _ hadd]
      exact this
def GT(Tp:List (Int×Int×Nat×List Int))(u:Int×Int×Nat×List Int):List (Int×Int×Nat×List Int):=if u∈Tp then Tp else Tp++[u]
theorem TH(c0 c1 c2 c3 c4 c5 c6 c7 c8 c9:AV):Aa Tryz.prog 78 1 (zipIdx [0] [.agg [c0,c1,c2,c3,c4,c5,c6,c7,c8,c9]])=some (R 122 10 false [c0,c1,c2,c3,c4,c5,c6,c7,c8,c9]):=by kernel_rfl
theorem Uz:Bv Tryz.prog 122 10=true:=by kernel_rfl
theorem Tn:BH Tryz.prog 78=true:=by kernel_rfl
set_option maxRecDepth 20000 in
theorem Ol      {E : Bl}  (hE : Ai    E) {s : AD}  {q : Nat} {T : List RT} {O : List Nat} (h : Nt  s q T O) (hg : CV   s 1 A7    = true) (h1 : 1 < s.next) (hT : T.length ≤ 900) (hkl : ∀ t ∈ T, t.kids.length ≤ 3) {u : RT} (hu : u.con < 11) (hul : u.kids.length ≤ 3)
    (hrow:(u.kids=[]∧u.kv=.slice none 0 (some 0))∨∃j,u.kv=.slice (some (j,0)) u.kids.length none∧j<s.next∧j ∉ O∧A1 (s.heap.get j) 0 u.kids.length=some (C8 u.kids)) (hlow:∀k∈u.kids,0≤k∧k<(T.length:Int)) {K:AV→AD→Prop}
    (hK:∀ (i:Nat) s' O' T',T'.map RT.pl=GT (T.map RT.pl) u.pl→i=(GT (T.map RT.pl) u.pl).idxOf u.pl→(T'=T∨T'=T++[u])→i<T'.length→Nt s' q T' O'→DG O s s'→(∀j∈O',j∈O∨s.next≤j∨K6 u.kv=some j)→K (iv (i:Int)) s'):
    WF E 81 [.ptr (some (q,0)),.agg u.cells] K s:=by
  obtain⟨c0,c1,c2,c3,c4,c5,c6,hc,huc⟩:=u.ten hu
  have hru:A0 s u.kv u.kids:=by
    rcases hrow with⟨e1,e2⟩ | ⟨j,e1,e2,e3,e4⟩
    · exact .inl ⟨e1,e2⟩
    · exact .inr ⟨j,0,none,e1,e2,e4⟩
  rw[huc]
  refine hE.go Yf (by decide) rfl ?_
  have hlt:=h.lt
  have hql:q<s.next:=by obtain⟨_,_,_,_,_,hO,_⟩:=h.ex;exact hlt q (hO q (by simp))
  generalize hs:s.next=b at hql
  have hs0:s=ext s []:=(Af s).symm
  have hold:BD s.next s (ext s [R 122 0 false u.cells]):=AS
  have hr1:=h.old hold
  have hbx:(ext s [R 122 0 false u.cells]).heap.get (nid b 0)=some (R 122 0 false u.cells):=by rw[Wg hs (by simp)];rfl
  have hnx:(ext s [R 122 0 false u.cells]).next=b+1:=by rw[Wm,hs,AG];rfl
  have hloop:=fun a1 Q marks hf hn m i s' a5 a6=>P8 (Q:=Q) (marks:=marks) hE (by omega) hu hr1 (by rw[BN (Wh h1)];exact hg) (by rw[hnx];omega) (hru.old hold) hkl hbx (by rw[hnx,AG];omega) a1 hf hn m i s' a5 a6
  rw[huc]at hloop
  rw[hs0]
  simp only[bI,XH,XI,Qa,Qb,Qc,Qd,Qe,Qf,Qg,Qh,Qi,Qj,Qk,Ql,Qm,Qn,true_and,and_true,Qo,Qp,Qq,Qr,Qs,Qt,Qu,Qv,Qw,Qx,Qy,Qz,Ra,Rb,Rc,Rd,Re,Rf,Rg,Rh,Ri,Rj,Rk,Rl,Rm,Ya,Yb,Yc,Rn,Ro,Xv,Yd,Ye,Rq,Rs,Rt,Ru,Rw,Rx,Ry,hs,Rz,Wa,Wb,Wc,Wd,We,Wf,Wg,Wh,Wi,Wj,Wl,Wm,Wn,Wp,Wq,Wr,Ws,Wt,Wu,Wv,Ww,Wx,Wy,Wz,Xa,Xb,Xc,Xd,Xe,Xf,Xg,Xh,Xi,Xj,Xk,Xl,Xm,Xn,Xo,Xp,Xq,Xr,bO,bT,bS,bP,bU,bV,List.getElem?_cons_zero,List.getElem?_cons_succ,bR,bX,bW,bY,bN,Nat.reduceAdd,Nat.reduceLT,Nat.reduceLeDiff,decide_true,decide_false,Bool.true_and,Bool.and_true,bZ,bM,Option.some.injEq,Xs,Xt,Xu,Xv]
  refine hloop _ _ _ (fun i y5 y6 s' hi hix hmem ho=>?_) (fun y4 y5 y6 s' hnm ho=>?_) T.length 0 _ _ _ (by omega) (by simp) (BD.refl _ _)
  · simp only[Qa,Qb,Qc,Qd,Qe,Qf,Qg,Qh,Qi,Qj,Qk,Ql,Qm,Qn,true_and,and_true,Qo,Qp,Qq,Qr,Qs,Qt,Qu,Qv,Qw,Qx,Qy,Qz,Ra,Rb,Rc,Rd,Re,Rf,Rg,Rh,Ri,Rj,Rk,Rl,Rm,Ya,Yb,Yc,Rn,Ro,Xv,Yd,Ye,Rq,Rs,Rt,Ru,Rw,Rx,Ry]
    rw[← huc]at ho
    have ho2:BD s.next s s':=hold.trans (ho.mono hold.1)
    have hpp:GT (T.map RT.pl) u.pl=T.map RT.pl:=if_pos hmem
    exact hK i s' O T hpp.symm (by rw[hpp,hix]) (.inl rfl) hi (h.old ho2) (ho2.frO O) fun j hj=>.inl hj
  · simp only[Qa,Qb,Qc,Qd,Qe,Qf,Qg,Qh,Qi,Qj,Qk,Ql,Qm,Qn,true_and,and_true,Qo,Qp,Qq,Qr,Qs,Qt,Qu,Qv,Qw,Qx,Qy,Qz,Ra,Rb,Rc,Rd,Re,Rf,Rg,Rh,Ri,Rj,Rk,Rl,Rm,Ya,Yb,Yc,Rn,Ro,Xv,Yd,Ye,Rq,Rs,Rt,Ru,Rw,Rx,Ry]
    rw[if_pos trivial]
    rw[← huc]at ho
    have ho2:BD s.next s s':=hold.trans (ho.mono hold.1)
    have h2:=h.old ho2
    obtain⟨tv,OT,hobj,hbuf,hk,hO,hqT⟩:=h2.ex
    have hTc:∀t∈T,t.con<11:=fun t ht=>(hk t ht).1
    have hbx2:s'.heap.get (nid b 0)=some (R 122 0 false [iv u.kind,iv u.id,c0,c1,c2,c3,c4,c5,c6,u.kv]):=by
      rw[ho.2 _ (by rw[hnx,AG];omega),hbx,huc]
    have hsb:b+1≤s'.next:=by have:=ho.1;rw[hnx]at this;exact this
    generalize hs':s'.next=b' at hsb
    have hs0':s'=ext s' []:=(Af s').symm
    have hucl:u.cells.length=10:=RT.len hu
    have hsrc:B3 Tryz.prog (ext s' [R 122 10 false u.cells]) 122 10 (.slice (some (nid b' 0,0)) 1 (some 1))=some (1,u.cells):=by
      show(I2 _ (nid b' 0) 0 1 10).bind _=_
      rw[FG (l:=u.cells) (by rw[Co,Wg hs' (by simp)];show A1 (some (R 122 10 false u.cells)) _ _=_;rw[Wj (by rw[hucl];exact bM _),bR,bw (by rw[hucl];exact bM _)])]
      rfl
    have hkv:u.kv.isCell=true:=by rcases hrow with⟨_,e⟩ | ⟨_,e,_⟩<;>rw[e]<;>rfl
    have hac:AW u.cells=true:=by
      obtain⟨tag,d1,d2,d3,d5,d6,hd,_,q1,q2,q3,q5,q6⟩:=BM _ (cF hu (by omega:11<13))
      show AW ([iv u.kind,iv u.id]++(Tm.con u.con).cells++[u.kv])=true
      rw[hd]
      simp only[bS,bP,AW,Xl,Xq,q1,q2,q3,q5,q6,hkv,Bool.and_self]
    have hbuf2:=hbuf.frame (s':=ext s' [R 122 10 false u.cells]) (by rw[Wm,AG];omega) fun j hj=>Wh (hbuf.lt j hj)
    obtain⟨v2,s2,OB2,happ,hb2,hn2,hf2,hO2,hsl⟩:=hbuf2.append (xt:=78) (m:=1) Tryz.underlying78 I5 ZQ (by omega) Tn Uz (by omega) hsrc (by rw[hucl]) hac (by omega) (by omega)
    have hnx2:(ext s' [R 122 10 false u.cells]).next=b'+1:=by rw[Wm,hs',AG];rfl
    rw[hnx2]at hn2 hf2 hO2
    obtain⟨av,cv,hv2⟩:∃a c,v2=.slice a (T.length+1) c:=let ⟨a,c,h,_⟩:=hb2.slice;⟨a,c,h⟩
    subst hv2
    have hql':q<b':=by omega
    have gq:s2.heap.get q=some (R 80 0 false [tv]):=by rw[hf2 q (by omega) hqT,Wh (by omega)];exact hobj
    have hne:newObj s' (R 122 10 false [iv u.kind,iv u.id,c0,c1,c2,c3,c4,c5,c6,u.kv])=ext s' [R 122 10 false u.cells]:=by
      have:=Wl s' [] (R 122 10 false u.cells)
      rw[Af,huc]at this
      rw[huc];exact this
    have hge:∀j,j<b'→(ext s' [R 122 10 false u.cells]).heap.get j=s'.heap.get j:=fun j hj=>Wh (by omega)
    have gobj:(ext s' [R 122 10 false u.cells]).heap.get q=some (R 80 0 false [tv]):=by rw[hge q hql'];exact hobj
    have hsub:i64 (((T.length+1:Nat):Int) - 1):=by unfold i64;omega
    have hsub2:((T.length+1:Nat):Int) - 1=(T.length:Int):=by omega
    simp only[XM,XN,Qa,Qb,Qc,Qd,Qe,Qf,Qg,Qh,Qi,Qj,Qk,Ql,Qm,Qn,true_and,and_true,Qo,Qp,Qq,Qr,Qs,Qt,Qu,Qv,Qw,Qx,Qy,Qz,Ra,Rb,Rc,Rd,Re,Rf,Rg,Rh,Ri,Rj,Rk,Rl,Rm,Ya,Yb,Yc,Rn,Ro,Xv,Yd,Ye,Rq,Rs,Rt,Ru,Rw,Rx,Ry,hobj,hbx2,Ci,Gk,aB,Ny,I5,TH,hne,hs',Rz,Wa,Wb,Wc,Wd,We,Wf,Wg,Wh,Wi,Wj,Wl,Wm,Wn,Wp,Wq,Wr,Ws,Wt,Wu,Wv,Ww,Wx,Wy,Wz,Xa,Xb,Xc,Xd,Xe,Xf,Xg,Xh,Xi,Xj,Xk,Xl,Xm,Xn,Xo,Xp,Xq,Xr,bO,bT,bS,bP,bU,bV,List.getElem?_cons_zero,List.getElem?_cons_succ,bR,bX,bW,bY,bN,Nat.reduceAdd,Nat.reduceLT,Nat.reduceLeDiff,decide_true,decide_false,Bool.true_and,Bool.and_true,bZ,bM,Option.some.injEq,Xs,Xt,Xu,Xv]
    rw[Eo]at happ
    simp only[Qa,Qb,Qc,Qd,Qe,Qf,Qg,Qh,Qi,Qj,Qk,Ql,Qm,Qn,true_and,and_true,Qo,Qp,Qq,Qr,Qs,Qt,Qu,Qv,Qw,Qx,Qy,Qz,Ra,Rb,Rc,Rd,Re,Rf,Rg,Rh,Ri,Rj,Rk,Rl,Rm,Ya,Yb,Yc,Rn,Ro,Xv,Yd,Ye,Rq,Rs,Rt,Ru,Rw,Rx,Ry,happ,gq,gobj,Ci,Gk,aB,AZ Tryz.underlying78,F4 _ _ _ _ hsub,hsub2,Rz,Wa,Wb,Wc,Wd,We,Wf,Wg,Wh,Wi,Wj,Wl,Wm,Wn,Wp,Wq,Wr,Ws,Wt,Wu,Wv,Ww,Wx,Wy,Wz,Xa,Xb,Xc,Xd,Xe,Xf,Xg,Xh,Xi,Xj,Xk,Xl,Xm,Xn,Xo,Xp,Xq,Xr,bO,bT,bS,bP,bU,bV,List.getElem?_cons_zero,List.getElem?_cons_succ,bR,bX,bW,bY,bN,Nat.reduceAdd,Nat.reduceLT,Nat.reduceLeDiff,decide_true,decide_false,Bool.true_and,Bool.and_true,bZ,bM,Option.some.injEq,Xs,Xt,Xu,Xv]
    have hOT:∀j∈OT,j∈O:=fun j hj=>hO j (by simp[hj])
    have hqO:q∈O:=hO q (by simp)
    have hqB:q ∉ OB2:=fun hm=>(hO2 q hm).elim hqT (fun h=>by omega)
    have hlt':∀j∈O,j<b':=fun j hj=>by have:=h2.lt j hj;omega
    have hget:∀j,j<b'→j≠q→j ∉ OT→(setObj s2 q (R 80 0 false [.slice av (T.length+1) cv])).heap.get j=s'.heap.get j:=fun j hj hq hT=>by
      rw[Wr _ hq,hf2 j (by omega) hT,hge j hj]
    have hnx3:(setObj s2 q (R 80 0 false [.slice av (T.length+1) cv])).next=b'+2:=by rw[Wp,hn2]
    have hob:∀j,s.heap.get j=s.heap.get j:=fun _=>rfl
    have hpp:GT (T.map RT.pl) u.pl=T.map RT.pl++[u.pl]:=if_neg hnm
    refine hK T.length _ (O++(OB2++(K6 u.kv).toList)) (T++[u]) (by rw[hpp];simp) (by rw[hpp,cW,if_neg hnm];simp) (.inr rfl) (by simp) ⟨⟨.slice av (T.length+1) cv,OB2,Wq _ _ _,?_,?_,?_,hqB⟩,?_,?_⟩ ⟨?_,?_⟩ ?_
    · rw[bu,show Ex (T++[u])=Ex T++u.cells from by simp[Ex]]
      exact hb2.frame (bM _) fun j hj=>Wr _ fun e=>hqB (e▸hj)
    · intro t ht
      rcases List.mem_append.1 ht with ht | ht
      · refine ⟨(hk t ht).1, ?_⟩
        rcases(hk t ht).2 with h3 | ⟨j,g1,g2,g3,g4⟩
        · exact .inl h3
        · have hjq : j ≠ q := fun e => g3 (by simp [e])
          have hjT:j ∉ OT:=fun hm=>g3 (by simp[hm])
          refine .inr ⟨j,g1,b5 _ g2,fun hm=>?_,by rw[hget j (hlt' j g2) hjq hjT];exact g4⟩
          rcases bv.1 hm with hm | hm
          · exact hjq hm
          · exact(hO2 j hm).elim hjT (fun h=>by have:=hlt' j g2;omega)
      · rw [List.mem_singleton.1 ht]
        refine⟨hu,?_⟩
        rcases hrow with h3 | ⟨j,g1,g2,g3,g4⟩
        · exact .inl h3
        · have hjq : j ≠ q := fun e => g3 (e ▸ hqO)
          have hjT:j ∉ OT:=fun hm=>g3 (hOT j hm)
          have hjb:j<b':=by omega
          refine .inr ⟨j,g1,cM _ (cM _ (by rw[g1];simp[K6])),fun hm=>?_,by rw[hget j hjb hjq hjT,ho2.2 j g2];exact g4⟩
          rcases bv.1 hm with hm | hm
          · exact hjq hm
          · exact(hO2 j hm).elim hjT (fun h=>by omega)
    · intro j hj
      rcases bv.1 hj with rfl | hj
      · exact b5 _ hqO
      · exact cM _ (b5 _ hj)
    · intro i t hi k hkk
      rcases be i T.length with hl | hl
      · rw[bt hl]at hi
        exact h.low i t hi k hkk
      · rw[bz hl]at hi
        have:t=u:=by
          cases hz:i - T.length with
          | zero=>rw[hz]at hi;simpa using hi.symm
          | succ n=>rw[hz]at hi;simp at hi
        subst this
        have:=hlow k hkk
        omega
    · intro j hj
      rw[hnx3]
      rcases List.mem_append.1 hj with hj | hj
      · have:=hlt' j hj;omega
      · rcases List.mem_append.1 hj with hj | hj
        · have:=hb2.lt j hj;omega
        · rcases hrow with ⟨_, e⟩ | ⟨j', e, g2, _⟩
          · rw[e]at hj;simp[K6]at hj
          · rw[e]at hj
            simp[K6]at hj
            omega
    · rw[hnx3];omega
    · intro j hj hjO
      rw[hget j (by omega) (fun e=>hjO (e▸hqO)) (fun hm=>hjO (hOT j hm)),ho2.2 j hj]
    · intro j hj
      rcases List.mem_append.1 hj with hj | hj
      · exact .inl hj
      · rcases List.mem_append.1 hj with hj | hj
        · exact(hO2 j hj).imp (hOT j) (fun h=>.inl (by omega))
        · refine .inr (.inr ?_)
          cases hz:K6 u.kv with
          | none=>rw[hz]at hj;simp at hj
          | some y=>rw[hz]at hj;simp at hj;rw[hj]
structure RS(s:AD)(q:Nat)(T:List RT)(O:List Nat):Prop where
 at_:Nt s q T O
 gl:By s O
 kl:∀t∈T,t.kids.length≤3
theorem RS.old{s s':AD}{q:Nat}{T:List RT}{O:List Nat}(h:RS s q T O)(k:BD s.next s s'):RS s' q T O:=⟨h.at_.old k,h.gl.old k,h.kl⟩
abbrev RP:=Int×Int×Nat×List Int
def EQ(Tp:List RP)(u:RP):List RP×Nat:=(GT Tp u,(GT Tp u).idxOf u)
def Dt(Tp:List RP)(x:Int):List RP×Nat:=if x<0∨(Tp.length:Int)≤x then EQ Tp (2,0,0,[])else (Tp,x.toNat)
abbrev RK(k:Nat)(P:List RP×Nat)(s:AD)(q:Nat)(T:List RT)(O:List Nat)(K:AV→AD→Prop):Prop:=
 ∀ (i:Nat) s' O' T',(T'.map RT.pl,i)=P→RS s' q T' O'→DG O s s'→Aj O O' s→(∃x,T'=T++x)→T'.length≤T.length+k→i<T'.length→K (iv (i:Int)) s'
theorem Iw{E:Bl}(hE:Ai E){s s1:AD}{q:Nat}{T:List RT}{O:List Nat}(h:RS s q T O)(ho:BD s.next s s1)(hT:T.length≤900){kind id:Int}{n:Nat}(hn:n<11){K:AV→AD→Prop}
    (hK:RK 1 (EQ (T.map RT.pl) (kind,id,n,[])) s q T O K):
    WF E 81 [.ptr (some (q,0)),.agg ([iv kind,iv id]++(Tm.con n).cells++[.slice none 0 (some 0)])] K s1:=by
  have h1:=h.old ho
  refine Ol hE (u:=⟨kind,id,n,[],.slice none 0 (some 0)⟩) h1.at_ h1.gl.1 h1.gl.2.1 hT h.kl hn (bl _) (.inl ⟨rfl,rfl⟩) (fun k hk=>by cases hk) fun i s' O' T' p1 p2 g1 g2 g3 g4 g5=>?_
  have hgr:Aj O O' s1:=fun j hj=>by
    rcases g5 j hj with h' | h' | h'
    · exact .inl h'
    · exact .inr h'
    · cases h'
  have hfr:DG O s s':=(ho.frO O).trans g4 (Aj.refl O s)
  have hpre:∃x,T'=T++x:=by
    rcases g1 with rfl | rfl
    · exact⟨[],by simp⟩
    · exact⟨_,rfl⟩
  refine hK i s' O' T' (Prod.ext p1 p2) ⟨g3,h1.gl.step g4 hgr,fun t ht=>?_⟩ hfr (Aj.trans (Aj.refl O s) hgr ho.1) hpre ?_ g2
  · rcases g1 with rfl | rfl
    · exact h.kl t ht
    · rcases List.mem_append.1 ht with ht | ht
      · exact h.kl t ht
      · rw[List.mem_singleton.1 ht];exact bl _
  · rcases g1 with rfl | rfl<;>simp
theorem JQ(a b:Int):AR Tryz.prog 122 (zipIdx [0,1] [iv a,iv b])=some (.agg ([iv a,iv b]++Tm.nullC++[.slice none 0 (some 0)])):=by kernel_rfl
theorem PD(a:Int)(c0 c1 c2 c3 c4 c5 c6:AV):AR Tryz.prog 122 (zipIdx [0,2] [iv a,.agg [c0,c1,c2,c3,c4,c5,c6]])=some (.agg [iv a,iv 0,c0,c1,c2,c3,c4,c5,c6,.slice none 0 (some 0)]):=by kernel_rfl
section
variable{E:Bl}(hE:Ai E){s:AD}{q:Nat}{T:List RT}{O:List Nat}(h:RS s q T O)(hT:T.length≤900){K:AV→AD→Prop}
include hE h hT
theorem Uj{id:Int}(hK:RK 1 (EQ (T.map RT.pl) (0,id,0,[])) s q T O K):WF E 63 [.ptr (some (q,0)),iv id] K s:=by
 refine hE.go YU (by decide) rfl ?_
 simp only[bC,W1,W2,JQ,Qa,Qb,Qc,Qd,Qe,Qf,Qg,Qh,Qi,Qj,Qk,Ql,Qm,Qn,true_and,and_true,Qo,Qp,Qq,Qr,Qs,Qt,Qu,Qv,Qw,Qx,Qy,Qz,Ra,Rb,Rc,Rd,Re,Rf,Rg,Rh,Ri,Rj,Rk,Rl,Rm,Ya,Yb,Yc,Rn,Ro,Xv,Yd,Ye,Rq,Rs,Rt,Ru,Rw,Rx,Ry]
 refine Iw hE h (BD.refl _ _) hT (n:=0) (by omega) fun i s' O' T' g0 g1 g2 g3 g4 g5 g6=>?_
 simp only[Qa,Qb,Qc,Qd,Qe,Qf,Qg,Qh,Qi,Qj,Qk,Ql,Qm,Qn,true_and,and_true,Qo,Qp,Qq,Qr,Qs,Qt,Qu,Qv,Qw,Qx,Qy,Qz,Ra,Rb,Rc,Rd,Re,Rf,Rg,Rh,Ri,Rj,Rk,Rl,Rm,Ya,Yb,Yc,Rn,Ro,Xv,Yd,Ye,Rq,Rs,Rt,Ru,Rw,Rx,Ry]
 exact hK i s' O' T' g0 g1 g2 g3 g4 g5 g6
theorem Uf{id:Int}(hK:RK 1 (EQ (T.map RT.pl) (1,max id 0,0,[])) s q T O K):WF E 64 [.ptr (some (q,0)),iv id] K s:=by
 refine hE.go YV (by decide) rfl ?_
 simp only[bD,W3,W4,JQ,Lw,Qa,Qb,Qc,Qd,Qe,Qf,Qg,Qh,Qi,Qj,Qk,Ql,Qm,Qn,true_and,and_true,Qo,Qp,Qq,Qr,Qs,Qt,Qu,Qv,Qw,Qx,Qy,Qz,Ra,Rb,Rc,Rd,Re,Rf,Rg,Rh,Ri,Rj,Rk,Rl,Rm,Ya,Yb,Yc,Rn,Ro,Xv,Yd,Ye,Rq,Rs,Rt,Ru,Rw,Rx,Ry]
 refine Iw hE h (BD.refl _ _) hT (n:=0) (by omega) fun i s' O' T' g0 g1 g2 g3 g4 g5 g6=>?_
 simp only[Qa,Qb,Qc,Qd,Qe,Qf,Qg,Qh,Qi,Qj,Qk,Ql,Qm,Qn,true_and,and_true,Qo,Qp,Qq,Qr,Qs,Qt,Qu,Qv,Qw,Qx,Qy,Qz,Ra,Rb,Rc,Rd,Re,Rf,Rg,Rh,Ri,Rj,Rk,Rl,Rm,Ya,Yb,Yc,Rn,Ro,Xv,Yd,Ye,Rq,Rs,Rt,Ru,Rw,Rx,Ry]
 exact hK i s' O' T' g0 g1 g2 g3 g4 g5 g6
end
theorem K0{E:Bl}(hE:Ai E){s:AD}(hg:CV s 1 A7=true)(h1:1<s.next){n:Nat}(hn:n<11){K:AV→AD→Prop}(hK:∀s',BD s.next s s'→K (.agg (Tm.con n).cells) s'):WF E 82 [.agg (Tm.con n).cells] K s:=by
 obtain⟨tag,c1,c2,c3,c5,c6,hc,h5,d1,d2,d3,d5,d6⟩:=BM n (cF hn (by omega))
 have hr:=fun(K:AV→AD→Prop) os=>MK (K:=K) hE (s:=ext s os) (by rw[BN (Wh h1)];exact hg) hn
 rw[hc]at hr hK ⊢
 refine hE.go Yg (by decide) rfl ?_
 generalize hs:s.next=b at hK
 have hs0:s=ext s []:=(Af s).symm
 have hfin:∀os,K (.agg [iv tag,c1,c2,c3,.slice none 0 (some 0),c5,c6]) (ext s os):=fun os=>hK _ (by rw[← hs];exact AS)
 rw[hs0]
 simp only[bJ,XO,XP,ZC,hs,HF,Hl,Qa,Qb,Qc,Qd,Qe,Qf,Qg,Qh,Qi,Qj,Qk,Ql,Qm,Qn,true_and,and_true,Qo,Qp,Qq,Qr,Qs,Qt,Qu,Qv,Qw,Qx,Qy,Qz,Ra,Rb,Rc,Rd,Re,Rf,Rg,Rh,Ri,Rj,Rk,Rl,Rm,Ya,Yb,Yc,Rn,Ro,Xv,Yd,Ye,Rq,Rs,Rt,Ru,Rw,Rx,Ry,Rz,Wa,Wb,Wc,Wd,We,Wf,Wg,Wh,Wi,Wj,Wl,Wm,Wn,Wp,Wq,Wr,Ws,Wt,Wu,Wv,Ww,Wx,Wy,Wz,Xa,Xb,Xc,Xd,Xe,Xf,Xg,Xh,Xi,Xj,Xk,Xl,Xm,Xn,Xo,Xp,Xq,Xr,bO,bT,bS,bP,bU,bV,List.getElem?_cons_zero,List.getElem?_cons_succ,bR,bX,bW,bY,bN,Nat.reduceAdd,Nat.reduceLT,Nat.reduceLeDiff,decide_true,decide_false,Bool.true_and,Bool.and_true,bZ,bM,Option.some.injEq,Xs,Xt,Xu,Xv]
 refine hr _ _ ?_
 have hgt:decide ((0:Int)<((0:Nat):Int))=false:=rfl
 simp only[Ry,Bool.not_true,Bool.not_false,Rw,Rs,h5,hgt,XQ,C3,ZN,HF,Hl,SW,SX,hs,AZ Tryz.underlying39,Ag,d1,d2,d3,d5,d6,Qa,Qb,Qc,Qd,Qe,Qf,Qg,Qh,Qi,Qj,Qk,Ql,Qm,Qn,true_and,and_true,Qo,Qp,Qq,Qr,Qs,Qt,Qu,Qv,Qw,Qx,Qy,Qz,Ra,Rb,Rc,Rd,Re,Rf,Rg,Rh,Ri,Rj,Rk,Rl,Rm,Ya,Yb,Yc,Rn,Ro,Xv,Yd,Ye,Rq,Rs,Rt,Ru,Rw,Rx,Ry,Rz,Wa,Wb,Wc,Wd,We,Wf,Wg,Wh,Wi,Wj,Wl,Wm,Wn,Wp,Wq,Wr,Ws,Wt,Wu,Wv,Ww,Wx,Wy,Wz,Xa,Xb,Xc,Xd,Xe,Xf,Xg,Xh,Xi,Xj,Xk,Xl,Xm,Xn,Xo,Xp,Xq,Xr,bO,bT,bS,bP,bU,bV,List.getElem?_cons_zero,List.getElem?_cons_succ,bR,bX,bW,bY,bN,Nat.reduceAdd,Nat.reduceLT,Nat.reduceLeDiff,decide_true,decide_false,Bool.true_and,Bool.and_true,bZ,bM,Option.some.injEq,Xs,Xt,Xu,Xv]
 exact hfin _
section
variable{E:Bl}(hE:Ai E){s:AD}{q:Nat}{T:List RT}{O:List Nat}(h:RS s q T O)(hT:T.length≤900){K:AV→AD→Prop}
include hE h hT
theorem Jz{n:Nat}(hn:n<11)(hK:RK 1 (EQ (T.map RT.pl) (2,0,n,[])) s q T O K):WF E 65 [.ptr (some (q,0)),.agg (Tm.con n).cells] K s:=by
 obtain⟨tag,c1,c2,c3,c5,c6,hc,h5,d1,d2,d3,d5,d6⟩:=BM n (cF hn (by omega))
 have hg:=h.gl
 have hcs:=fun os (K:AV→AD→Prop)=>K0 (K:=K) hE (s:=ext s os) (by rw[BN (Wh hg.2.1)];exact hg.1) (bi hg.2.1 (AS (os:=os)).1) hn
 have hput:=fun s1 (ho:BD s.next s s1) (K:AV→AD→Prop)=>Iw (K:=K) hE h ho hT (kind:=2) (id:=0) hn
 rw[hc]at hcs hput ⊢
 simp only[bS,bP]at hput
 refine hE.go YW (by decide) rfl ?_
 generalize hs:s.next=b
 have hs0:s=ext s []:=(Af s).symm
 rw[hs0]
 simp only[bE,W5,W6,hs,HF,Hl,Qa,Qb,Qc,Qd,Qe,Qf,Qg,Qh,Qi,Qj,Qk,Ql,Qm,Qn,true_and,and_true,Qo,Qp,Qq,Qr,Qs,Qt,Qu,Qv,Qw,Qx,Qy,Qz,Ra,Rb,Rc,Rd,Re,Rf,Rg,Rh,Ri,Rj,Rk,Rl,Rm,Ya,Yb,Yc,Rn,Ro,Xv,Yd,Ye,Rq,Rs,Rt,Ru,Rw,Rx,Ry,Rz,Wa,Wb,Wc,Wd,We,Wf,Wg,Wh,Wi,Wj,Wl,Wm,Wn,Wp,Wq,Wr,Ws,Wt,Wu,Wv,Ww,Wx,Wy,Wz,Xa,Xb,Xc,Xd,Xe,Xf,Xg,Xh,Xi,Xj,Xk,Xl,Xm,Xn,Xo,Xp,Xq,Xr,bO,bT,bS,bP,bU,bV,List.getElem?_cons_zero,List.getElem?_cons_succ,bR,bX,bW,bY,bN,Nat.reduceAdd,Nat.reduceLT,Nat.reduceLeDiff,decide_true,decide_false,Bool.true_and,Bool.and_true,bZ,bM,Option.some.injEq,Xs,Xt,Xu,Xv]
 refine hcs _ _ fun s1 ho=>?_
 have ho1:BD s.next s s1:=AS.trans (ho.mono (by rw[Wm,AG];omega))
 simp only[PD,Qa,Qb,Qc,Qd,Qe,Qf,Qg,Qh,Qi,Qj,Qk,Ql,Qm,Qn,true_and,and_true,Qo,Qp,Qq,Qr,Qs,Qt,Qu,Qv,Qw,Qx,Qy,Qz,Ra,Rb,Rc,Rd,Re,Rf,Rg,Rh,Ri,Rj,Rk,Rl,Rm,Ya,Yb,Yc,Rn,Ro,Xv,Yd,Ye,Rq,Rs,Rt,Ru,Rw,Rx,Ry,Rz,Wa,Wb,Wc,Wd,We,Wf,Wg,Wh,Wi,Wj,Wl,Wm,Wn,Wp,Wq,Wr,Ws,Wt,Wu,Wv,Ww,Wx,Wy,Wz,Xa,Xb,Xc,Xd,Xe,Xf,Xg,Xh,Xi,Xj,Xk,Xl,Xm,Xn,Xo,Xp,Xq,Xr,bO,bT,bS,bP,bU,bV,List.getElem?_cons_zero,List.getElem?_cons_succ,bR,bX,bW,bY,bN,Nat.reduceAdd,Nat.reduceLT,Nat.reduceLeDiff,decide_true,decide_false,Bool.true_and,Bool.and_true,bZ,bM,Option.some.injEq,Xs,Xt,Xu,Xv]
 refine hput s1 ho1 _ fun i s' O' T' g0 g1 g2 g3 g4 g5 g6=>?_
 simp only[Qa,Qb,Qc,Qd,Qe,Qf,Qg,Qh,Qi,Qj,Qk,Ql,Qm,Qn,true_and,and_true,Qo,Qp,Qq,Qr,Qs,Qt,Qu,Qv,Qw,Qx,Qy,Qz,Ra,Rb,Rc,Rd,Re,Rf,Rg,Rh,Ri,Rj,Rk,Rl,Rm,Ya,Yb,Yc,Rn,Ro,Xv,Yd,Ye,Rq,Rs,Rt,Ru,Rw,Rx,Ry]
 exact hK i s' O' T' g0 g1 g2 g3 g4 g5 g6
theorem J5{x:Int}(hK:RK 1 (Dt (T.map RT.pl) x) s q T O K):WF E 110 [.ptr (some (q,0)),iv x] K s:=by
  obtain⟨tv,OT,hobj,hbuf,_⟩:=h.at_.ex
  obtain⟨a,c,rfl,_⟩:=hbuf.slice
  have hcon:=fun(K:AV→AD→Prop) hK=>Jz (K:=K) hE h hT (n:=0) (by omega) hK
  refine hE.go UC (by decide) rfl ?_
  by_cases h0:x<0
  · have hd:decide (x<0)=true:=decide_eq_true h0
    simp only[T7,KQ,KR,Mi,Qa,Qb,Qc,Qd,Qe,Qf,Qg,Qh,Qi,Qj,Qk,Ql,Qm,Qn,true_and,and_true,Qo,Qp,Qq,Qr,Qs,Qt,Qu,Qv,Qw,Qx,Qy,Qz,Ra,Rb,Rc,Rd,Re,Rf,Rg,Rh,Ri,Rj,Rk,Rl,Rm,Ya,Yb,Yc,Rn,Ro,Xv,Yd,Ye,Rq,Rs,Rt,Ru,Rw,Rx,Ry,Ru,Rq,hd,EZ,Rz,Wa,Wb,Wc,Wd,We,Wf,Wg,Wh,Wi,Wj,Wl,Wm,Wn,Wp,Wq,Wr,Ws,Wt,Wu,Wv,Ww,Wx,Wy,Wz,Xa,Xb,Xc,Xd,Xe,Xf,Xg,Xh,Xi,Xj,Xk,Xl,Xm,Xn,Xo,Xp,Xq,Xr,bO,bT,bS,bP,bU,bV,List.getElem?_cons_zero,List.getElem?_cons_succ,bR,bX,bW,bY,bN,Nat.reduceAdd,Nat.reduceLT,Nat.reduceLeDiff,decide_true,decide_false,Bool.true_and,Bool.and_true,bZ,bM,Option.some.injEq,Xs,Xt,Xu,Xv]
    refine hcon _ fun i s' O' T' g0 g1 g2 g3 g4 g5 g6=>?_
    simp only[Qa,Qb,Qc,Qd,Qe,Qf,Qg,Qh,Qi,Qj,Qk,Ql,Qm,Qn,true_and,and_true,Qo,Qp,Qq,Qr,Qs,Qt,Qu,Qv,Qw,Qx,Qy,Qz,Ra,Rb,Rc,Rd,Re,Rf,Rg,Rh,Ri,Rj,Rk,Rl,Rm,Ya,Yb,Yc,Rn,Ro,Xv,Yd,Ye,Rq,Rs,Rt,Ru,Rw,Rx,Ry]
    exact hK i s' O' T' (g0.trans (if_pos (.inl h0)).symm) g1 g2 g3 g4 g5 g6
  · have hd:decide (x<0)=false:=decide_eq_false h0
    by_cases h2:(T.length:Int)≤x
    · have Yt:decide ((T.length:Int)≤x)=true:=decide_eq_true h2
      simp only[T7,KQ,KR,Mi,Qa,Qb,Qc,Qd,Qe,Qf,Qg,Qh,Qi,Qj,Qk,Ql,Qm,Qn,true_and,and_true,Qo,Qp,Qq,Qr,Qs,Qt,Qu,Qv,Qw,Qx,Qy,Qz,Ra,Rb,Rc,Rd,Re,Rf,Rg,Rh,Ri,Rj,Rk,Rl,Rm,Ya,Yb,Yc,Rn,Ro,Xv,Yd,Ye,Rq,Rs,Rt,Ru,Rw,Rx,Ry,Ru,Rq,hd,Yt,hobj,Ci,Gk,AZ Tryz.underlying78,EZ,Rz,Wa,Wb,Wc,Wd,We,Wf,Wg,Wh,Wi,Wj,Wl,Wm,Wn,Wp,Wq,Wr,Ws,Wt,Wu,Wv,Ww,Wx,Wy,Wz,Xa,Xb,Xc,Xd,Xe,Xf,Xg,Xh,Xi,Xj,Xk,Xl,Xm,Xn,Xo,Xp,Xq,Xr,bO,bT,bS,bP,bU,bV,List.getElem?_cons_zero,List.getElem?_cons_succ,bR,bX,bW,bY,bN,Nat.reduceAdd,Nat.reduceLT,Nat.reduceLeDiff,decide_true,decide_false,Bool.true_and,Bool.and_true,bZ,bM,Option.some.injEq,Xs,Xt,Xu,Xv]
      refine hcon _ fun i s' O' T' g0 g1 g2 g3 g4 g5 g6=>?_
      simp only[Qa,Qb,Qc,Qd,Qe,Qf,Qg,Qh,Qi,Qj,Qk,Ql,Qm,Qn,true_and,and_true,Qo,Qp,Qq,Qr,Qs,Qt,Qu,Qv,Qw,Qx,Qy,Qz,Ra,Rb,Rc,Rd,Re,Rf,Rg,Rh,Ri,Rj,Rk,Rl,Rm,Ya,Yb,Yc,Rn,Ro,Xv,Yd,Ye,Rq,Rs,Rt,Ru,Rw,Rx,Ry]
      exact hK i s' O' T' (g0.trans (if_pos (.inr (by rw[bp];exact h2))).symm) g1 g2 g3 g4 g5 g6
    · have Yt  : decide ((T.length : Int) ≤ x) = false := decide_eq_false h2
      have hx:x=(x.toNat:Int):=by omega
      simp only[T7,KQ,KR,Q4,Qa,Qb,Qc,Qd,Qe,Qf,Qg,Qh,Qi,Qj,Qk,Ql,Qm,Qn,true_and,and_true,Qo,Qp,Qq,Qr,Qs,Qt,Qu,Qv,Qw,Qx,Qy,Qz,Ra,Rb,Rc,Rd,Re,Rf,Rg,Rh,Ri,Rj,Rk,Rl,Rm,Ya,Yb,Yc,Rn,Ro,Xv,Yd,Ye,Rq,Rs,Rt,Ru,Rw,Rx,Ry,Ru,Rq,hd,Yt,hobj,Ci,Gk,AZ Tryz.underlying78,Rz,Wa,Wb,Wc,Wd,We,Wf,Wg,Wh,Wi,Wj,Wl,Wm,Wn,Wp,Wq,Wr,Ws,Wt,Wu,Wv,Ww,Wx,Wy,Wz,Xa,Xb,Xc,Xd,Xe,Xf,Xg,Xh,Xi,Xj,Xk,Xl,Xm,Xn,Xo,Xp,Xq,Xr,bO,bT,bS,bP,bU,bV,List.getElem?_cons_zero,List.getElem?_cons_succ,bR,bX,bW,bY,bN,Nat.reduceAdd,Nat.reduceLT,Nat.reduceLeDiff,decide_true,decide_false,Bool.true_and,Bool.and_true,bZ,bM,Option.some.injEq,Xs,Xt,Xu,Xv]
      rw[hx]
      exact hK x.toNat s O T (if_neg (by rw[bp];omega)).symm h (DG.refl _ _) (Aj.refl _ _) ⟨[],by simp⟩ (by omega) (by omega)
end
theorem Hr{P:Program}{t:TypeId}{k:IntKind}{a b:Int}(ha:0≤a)(hb:0<b):AO P .rem t (.int k a) (.int k b)=some (.int k (a % b)):=by
 have hne:b≠0:=by omega
 have e1:a.tmod b=a % b:=Int.tmod_eq_emod_of_nonneg ha
 have hk:Bh k k=true:=by cases k<;>rfl
 show AF (Bh k k) ((Db P (Op.intDiv .rem k a b)).bind ofValue)=_
 rw[hk]
 unfold Op.intDiv
 rw[if_neg hne,e1]
 rfl
abbrev Cb(n:Nat):AV:=.int .u8 (n:Int)
theorem GB{s:AD}{n:Nat}(h:n<256):BJ Tryz.prog s 5 3 (Cb n)=some (iv (n:Int)):=by
 simp[BJ,Tryz.underlying5,Tryz.underlying3,I8 (n:=(n:Int)) ⟨by omega,by omega⟩]
def Gt:List AV:=(List.range 11).flatMap fun i=>(Tm.con i).cells
theorem TG:Aa Tryz.prog 41 11 (zipIdx [0,1,2,3,4,5,6,7,8,9,10] [.agg (Tm.con 0).cells,.agg (Tm.con 1).cells,.agg (Tm.con 2).cells,.agg (Tm.con 3).cells,.agg (Tm.con 4).cells,.agg (Tm.con 5).cells,.agg (Tm.con 6).cells,.agg (Tm.con 7).cells,.agg (Tm.con 8).cells,.agg (Tm.con 9).cells,.agg (Tm.con 10).cells])=some (R 43 7 false Gt):=by kernel_rfl
theorem bd0:AR Tryz.prog 43 (zipIdx [] [])=some (.agg (Tm.con 0).cells):=by kernel_rfl
theorem bd1:AR Tryz.prog 43 (zipIdx [0,1] [.int .i64 1,.bool true])=some (.agg (Tm.con 1).cells):=by kernel_rfl
theorem bd2:AR Tryz.prog 43 (zipIdx [0] [.int .i64 1])=some (.agg (Tm.con 2).cells):=by kernel_rfl
theorem bd3:AR Tryz.prog 43 (zipIdx [0,2] [.int .i64 2,.str [48]])=some (.agg (Tm.con 3).cells):=by kernel_rfl
theorem bd4:AR Tryz.prog 43 (zipIdx [0,2] [.int .i64 2,.str [49]])=some (.agg (Tm.con 4).cells):=by kernel_rfl
theorem bd5:AR Tryz.prog 43 (zipIdx [0,2] [.int .i64 2,.str [45,53]])=some (.agg (Tm.con 5).cells):=by kernel_rfl
theorem bd6:AR Tryz.prog 43 (zipIdx [0,2] [.int .i64 2,.str [49,56,52,52,54,55,52,52,48,55,51,55,48,57,53,53,49,54,49,54]])=some (.agg (Tm.con 6).cells):=by kernel_rfl
theorem bd7:AR Tryz.prog 43 (zipIdx [0,3] [.int .i64 3,.str [97]])=some (.agg (Tm.con 7).cells):=by kernel_rfl
theorem bd8:AR Tryz.prog 43 (zipIdx [0,3] [.int .i64 3,.str [98]])=some (.agg (Tm.con 8).cells):=by kernel_rfl
theorem bd9:AR Tryz.prog 43 (zipIdx [0] [.int .i64 3])=some (.agg (Tm.con 9).cells):=by kernel_rfl
theorem aL:AR Tryz.prog 43 (zipIdx [0] [.int .i64 4])=some (.agg (Tm.con 10).cells):=by kernel_rfl
theorem UG{k:Nat}(hk:k<11):A1 (some (R 43 7 false Gt)) (k * 7) 7=some (Tm.con k).cells:=by
 have hl:Gt.length=77:=by rfl
 rw[Wj (by rw[hl];omega)]
 congr 1
 have:k=0∨k=1∨k=2∨k=3∨k=4∨k=5∨k=6∨k=7∨k=8∨k=9∨k=10:=by omega
 rcases this with rfl | rfl | rfl | rfl | rfl | rfl | rfl | rfl | rfl | rfl | rfl<;>rfl
theorem UH{E:Bl}(hE:Ai E){s:AD}{n:Nat}(hn:n<256){K:AV→AD→Prop}(hK:∀s',BD s.next s s'→K (.agg (Tm.con (n % 11)).cells) s'):WF E 61 [Cb n] K s:=by
 have hm:n % 11<11:=cB _ (by omega)
 obtain⟨tag,c1,c2,c3,c5,c6,hc,h5,d1,d2,d3,d5,d6⟩:=BM (n % 11) (cF hm (by omega))
 have hat:=UG hm
 rw[hc]at hat hK
 have hrem:AO Tryz.prog .rem 3 (iv (n:Int)) (iv ((11:Nat):Int))=some (iv ((n % 11:Nat):Int)):=by
  have:=Hr (P:=Tryz.prog) (t:=3) (k:=.i64) (a:=(n:Int)) (b:=((11:Nat):Int)) (by omega) (by omega)
  rw[this];rfl
 refine hE.go YS (by decide) rfl ?_
 generalize hs:s.next=b at hK
 have hs0:s=ext s []:=(Af s).symm
 have hfin:∀os,K (.agg [iv tag,c1,c2,c3,.slice none 0 (some 0),c5,c6]) (ext s os):=fun os=>hK _ (by rw[← hs];exact AS)
 rw[hs0]
 simp only[bB,WY,WZ,Wk,ZC,hs,HF,Hl,bd0,bd1,bd2,bd3,bd4,bd5,bd6,bd7,bd8,bd9,aL,TG,GB hn,AZ Tryz.underlying41,hrem,Ac Tryz.underlying41 HF hm,hat,Ag,d1,d2,d3,d5,d6,Qa,Qb,Qc,Qd,Qe,Qf,Qg,Qh,Qi,Qj,Qk,Ql,Qm,Qn,true_and,and_true,Qo,Qp,Qq,Qr,Qs,Qt,Qu,Qv,Qw,Qx,Qy,Qz,Ra,Rb,Rc,Rd,Re,Rf,Rg,Rh,Ri,Rj,Rk,Rl,Rm,Ya,Yb,Yc,Rn,Ro,Xv,Yd,Ye,Rq,Rs,Rt,Ru,Rw,Rx,Ry,Rz,Wa,Wb,Wc,Wd,We,Wf,Wg,Wh,Wi,Wj,Wl,Wm,Wn,Wp,Wq,Wr,Ws,Wt,Wu,Wv,Ww,Wx,Wy,Wz,Xa,Xb,Xc,Xd,Xe,Xf,Xg,Xh,Xi,Xj,Xk,Xl,Xm,Xn,Xo,Xp,Xq,Xr,bO,bT,bS,bP,bU,bV,List.getElem?_cons_zero,List.getElem?_cons_succ,bR,bX,bW,bY,bN,Nat.reduceAdd,Nat.reduceLT,Nat.reduceLeDiff,decide_true,decide_false,Bool.true_and,Bool.and_true,bZ,bM,Option.some.injEq,Xs,Xt,Xu,Xv]
 exact hfin _
theorem Yx(a b:Int):B9 true (iv a) [iv b]=some (iv (max a b)):=by
 show AF true (some (AV.int .i64 (bif I9 a b then b else a)))=_
 rw[B1]
 show some (AV.int .i64 _)=_
 by_cases h:a<b
 ·simp only[h,decide_true,cond_true];rw[Int.max_eq_right (by omega)]
 ·simp only[h,decide_false,cond_false];rw[Int.max_eq_left (by omega)]
def HM(Tp:List RP):Nat→Nat→Int
 | 0,_=>0
 | n+1,x=>(match Tp[x]? with
  | some t=>t.2.2.2.foldl (fun d k=>max d (HM Tp n k.toNat)) 0
  | none=>0)+1
set_option maxRecDepth 20000 in
theorem S9       {E : Bl}  (hE : Ai    E) {q : Nat} {T : List RT} {O : List Nat} (hT : T.length ≤ 1000) (hkl : ∀ t ∈ T, t.kids.length ≤ 3) : ∀ (n x : Nat), x < n → x < T.length → ∀ (s : AD)  (K : AV → AD  → Prop), Nt  s q T O →
    (∀ (d:Int) s',d=HM (T.map RT.pl) n x→0≤d→d≤(x:Int)+1→BD s.next s s'→K (iv d) s')→WF E 80 [.ptr (some (q,0)),iv (x:Int)] K s:=by
  intro n
  induction n with
  | zero=>intro x h;omega
  | succ n ihn =>
    intro x hxn hx s K h hK
    have ht:T[x]? = some T[x]:=bc hx
    have htm:T[x]∈T:=List.getElem_mem _
    generalize htt:T[x]=t at ht htm
    have hlow:=h.low x t ht
    have hkl3:=hkl t htm
    obtain⟨tv,OT,_,_,hk,_⟩:=h.ex
    obtain⟨hcon,hkid⟩:=hk t htm
    have hrd:=hkid.rd h.lt
    have hlen:=hrd.len
    obtain⟨c0,c1,c2,c3,c4,c5,c6,hc,huc⟩:=t.ten hcon
    have hcall:AW t.cells=true:=by
      obtain⟨tag,d1,d2,d3,d5,d6,hd,_,q1,q2,q3,q5,q6⟩:=BM _ (cF hcon (by omega:11<13))
      show AW ([iv t.kind,iv t.id]++(Tm.con t.con).cells++[t.kv])=true
      have hkv:t.kv.isCell=true:=by rcases hkid with⟨_,e⟩ | ⟨_,e,_⟩<;>rw[e]<;>rfl
      rw[hd]
      simp only[bS,bP,AW,Xl,Xq,q1,q2,q3,q5,q6,hkv,Bool.and_self]
    rw[huc]at hcall
    simp only[AW,Bool.and_eq_true,and_true]at hcall
    obtain⟨_,_,p0,p1,p2,p3,p4,p5,p6,p7⟩:=hcall
    have hrat:=fun(K:AV→AD→Prop)=>Y1 (K:=K) hE h (x:=(x:Int)) (t:=t) (by omega) (by simpa using ht)
    rw[huc]at hrat
    refine hE.go YZ (by decide) rfl ?_
    simp only[bH,XB,XC,XD,Qa,Qb,Qc,Qd,Qe,Qf,Qg,Qh,Qi,Qj,Qk,Ql,Qm,Qn,true_and,and_true,Qo,Qp,Qq,Qr,Qs,Qt,Qu,Qv,Qw,Qx,Qy,Qz,Ra,Rb,Rc,Rd,Re,Rf,Rg,Rh,Ri,Rj,Rk,Rl,Rm,Ya,Yb,Yc,Rn,Ro,Xv,Yd,Ye,Rq,Rs,Rt,Ru,Rw,Rx,Ry]
    refine hrat _ fun s1 ho1=>?_
    generalize hs1:s1.next=b
    have hs10:s1=ext s1 []:=(Af s1).symm
    have hnx:(ext s1 [R 122 0 false t.cells]).next=b+1:=by rw[Wm,hs1,AG];rfl
    have hbox:(ext s1 [R 122 0 false t.cells]).heap.get (nid b 0)=some (R 122 0 false t.cells):=by rw[Wg hs1 (by simp)];rfl
    have hoe:BD s.next s (ext s1 [R 122 0 false t.cells]):=ho1.trans (AS.mono ho1.1)
    have hgenS:∃sB,sB=ext s1 [R 122 0 false t.cells]:=⟨_,rfl⟩
    obtain⟨sB,hsB⟩:=hgenS
    rw[← hsB]at hnx hbox hoe
    rw[huc]at hsB hbox
    have key:∀ (m i:Nat) (s2:AD) (d:Int) (a6:AV),m+i=t.kids.length→d=(t.kids.take i).foldl (fun d k=>max d (HM (T.map RT.pl) n k.toNat)) 0→BD sB.next sB s2→0≤d→d≤(x:Int) →
        WC E none (AU.loop LT) (AT 0 (G9 (fun x x_1 x_2=>Qb E SB (fun v s'=>Kx (CU s' x_1) fun s'=>K (JG v 2) s') [] x x_2) (Ends Tryz.prog [(CX.var 2,none)] K)))
          [.ptr (some (q,0)),iv (x:Int),iv 0,iv d,.ptr (some (nid b 0,0)),iv (i:Int),a6] [] s2:=by
      intro m
      induction m with
      | zero =>
        intro i s2 d a6 hi hdf ho2 hd0 Ma
        have hb2:s2.heap.get (nid b 0)=some (R 122 0 false [iv t.kind,iv t.id,c0,c1,c2,c3,c4,c5,c6,t.kv]):=by rw[ho2.2 _ (by rw[hnx,AG];omega)];exact hbox
        have hlt:¬ ((i:Int)<(t.kids.length:Int)):=by omega
        have hadd:i64 (d+1):=by unfold i64;omega
        refine WC.loop' ?_
        simp only[LT,SA,Qa,Qb,Qc,Qd,Qe,Qf,Qg,Qh,Qi,Qj,Qk,Ql,Qm,Qn,true_and,and_true,Qo,Qp,Qq,Qr,Qs,Qt,Qu,Qv,Qw,Qx,Qy,Qz,Ra,Rb,Rc,Rd,Re,Rf,Rg,Rh,Ri,Rj,Rk,Rl,Rm,Ya,Yb,Yc,Rn,Ro,Xv,Yd,Ye,Rq,Rs,Rt,Ru,Rw,Rx,Ry,hb2,Md,De,hlen,Rq,hlt,decide_false,Rz,Wa,Wb,Wc,Wd,We,Wf,Wg,Wh,Wi,Wj,Wl,Wm,Wn,Wp,Wq,Wr,Ws,Wt,Wu,Wv,Ww,Wx,Wy,Wz,Xa,Xb,Xc,Xd,Xe,Xf,Xg,Xh,Xi,Xj,Xk,Xl,Xm,Xn,Xo,Xp,Xq,Xr,bO,bT,bS,bP,bU,bV,List.getElem?_cons_zero,List.getElem?_cons_succ,bR,bX,bW,bY,bN,Nat.reduceAdd,Nat.reduceLT,Nat.reduceLeDiff,decide_true,decide_false,Bool.true_and,Bool.and_true,bZ,bM,Option.some.injEq,Xs,Xt,Xu,Xv]
        rw[if_pos trivial]
        simp only[SB,Qa,Qb,Qc,Qd,Qe,Qf,Qg,Qh,Qi,Qj,Qk,Ql,Qm,Qn,true_and,and_true,Qo,Qp,Qq,Qr,Qs,Qt,Qu,Qv,Qw,Qx,Qy,Qz,Ra,Rb,Rc,Rd,Re,Rf,Rg,Rh,Ri,Rj,Rk,Rl,Rm,Ya,Yb,Yc,Rn,Ro,Xv,Yd,Ye,Rq,Rs,Rt,Ru,Rw,Rx,Ry,A9 _ _ _ _ hadd]
        rw[bw (by omega)]at hdf
        exact hK (d+1) s2 (by rw[HM,b3,ht,hdf];rfl) (by omega) (by omega) (hoe.trans (ho2.mono hoe.1))
      | succ m ih =>
        intro i s2 d a6 hi hdf ho2 hd0 Ma
        have hb2:s2.heap.get (nid b 0)=some (R 122 0 false [iv t.kind,iv t.id,c0,c1,c2,c3,c4,c5,c6,t.kv]):=by rw[ho2.2 _ (by rw[hnx,AG];omega)];exact hbox
        have hlt:((i:Int)<(t.kids.length:Int)):=by omega
        have hadd:i64 ((i:Int)+1):=by unfold i64;omega
        have hit:i<t.kids.length:=by omega
        have hko:=hlow t.kids[i] (List.getElem_mem _)
        have hkn:t.kids[i]=((t.kids[i].toNat:Nat):Int):=by omega
        have hor:BD s.next s s2:=hoe.trans (ho2.mono hoe.1)
        obtain⟨j,qq,cap,hv,hj,hld⟩:=(hrd.old hor).at (k:=i) (bc hit)
        have hrec:=fun(K:AV→AD→Prop)=>ihn t.kids[i].toNat (by omega) (by omega) s2 K (h.old hor)
        rw[← hkn]at hrec
        obtain⟨W,hW⟩:∃W,W=AU.loop LT:=⟨_,rfl⟩
        refine WC.loop' ?_
        rw[← hW]
        rw[hv]at hb2 hlen
        simp only[LT,SA,XF,Qa,Qb,Qc,Qd,Qe,Qf,Qg,Qh,Qi,Qj,Qk,Ql,Qm,Qn,true_and,and_true,Qo,Qp,Qq,Qr,Qs,Qt,Qu,Qv,Qw,Qx,Qy,Qz,Ra,Rb,Rc,Rd,Re,Rf,Rg,Rh,Ri,Rj,Rk,Rl,Rm,Ya,Yb,Yc,Rn,Ro,Xv,Yd,Ye,Rq,Rs,Rt,Ru,Rw,Rx,Ry,hb2,Md,C3,De,hlen,Rq,hlt,decide_true,Ac Tryz.underlying27 Fy hit,b0,hld,Rz,Wa,Wb,Wc,Wd,We,Wf,Wg,Wh,Wi,Wj,Wl,Wm,Wn,Wp,Wq,Wr,Ws,Wt,Wu,Wv,Ww,Wx,Wy,Wz,Xa,Xb,Xc,Xd,Xe,Xf,Xg,Xh,Xi,Xj,Xk,Xl,Xm,Xn,Xo,Xp,Xq,Xr,bO,bT,bS,bP,bU,bV,List.getElem?_cons_zero,List.getElem?_cons_succ,bR,bX,bW,bY,bN,Nat.reduceAdd,Nat.reduceLT,Nat.reduceLeDiff,decide_true,decide_false,Bool.true_and,Bool.and_true,bZ,bM,Option.some.injEq,Xs,Xt,Xu,Xv]
        refine hrec _ fun d2 s3 e0 e1 e2 e3=>?_
        have:=ih (i+1) s3 (max d d2) (.bool true) (by omega) (by rw[cG hit,List.foldl_append,← hdf,e0];rfl) (ho2.trans (e3.mono ho2.1)) (by omega) (by omega)
        rw[← hW,show((i+1:Nat):Int)=(i:Int)+1 from by omega]at this
        simp only[Qa,Qb,Qc,Qd,Qe,Qf,Qg,Qh,Qi,Qj,Qk,Ql,Qm,Qn,true_and,and_true,Qo,Qp,Qq,Qr,Qs,Qt,Qu,Qv,Qw,Qx,Qy,Qz,Ra,Rb,Rc,Rd,Re,Rf,Rg,Rh,Ri,Rj,Rk,Rl,Rm,Ya,Yb,Yc,Rn,Ro,Xv,Yd,Ye,Rq,Rs,Rt,Ru,Rw,Rx,Ry,XG,Yx,A9 _ _ _ _ hadd]
        exact this
    rw[hs10]
    simp only[Qa,Qb,Qc,Qd,Qe,Qf,Qg,Qh,Qi,Qj,Qk,Ql,Qm,Qn,true_and,and_true,Qo,Qp,Qq,Qr,Qs,Qt,Qu,Qv,Qw,Qx,Qy,Qz,Ra,Rb,Rc,Rd,Re,Rf,Rg,Rh,Ri,Rj,Rk,Rl,Rm,Ya,Yb,Yc,Rn,Ro,Xv,Yd,Ye,Rq,Rs,Rt,Ru,Rw,Rx,Ry,hs1,X0,I5,Ny,p0,p1,p2,p3,p4,p5,p6,p7,XE,Rz,Wa,Wb,Wc,Wd,We,Wf,Wg,Wh,Wi,Wj,Wl,Wm,Wn,Wp,Wq,Wr,Ws,Wt,Wu,Wv,Ww,Wx,Wy,Wz,Xa,Xb,Xc,Xd,Xe,Xf,Xg,Xh,Xi,Xj,Xk,Xl,Xm,Xn,Xo,Xp,Xq,Xr,bO,bT,bS,bP,bU,bV,List.getElem?_cons_zero,List.getElem?_cons_succ,bR,bX,bW,bY,bN,Nat.reduceAdd,Nat.reduceLT,Nat.reduceLeDiff,decide_true,decide_false,Bool.true_and,Bool.and_true,bZ,bM,Option.some.injEq,Xs,Xt,Xu,Xv]
    rw[← hsB]
    exact key t.kids.length 0 sB 0 _ (by omega) rfl (BD.refl _ _) (by omega) (by omega)
theorem Sd(n m:Int):AO Tryz.prog .geq 5 (.int .u8 n) (.int .u8 m)=some (.bool (decide (m≤n))):=by
 show some (AV.bool (!I9 n m))=_
 rw[B1,← decide_not]
 congr 3
 exact propext Int.not_lt
theorem UW(a:Int):B9 false (iv a) [iv 6]=some (iv (min a 6)):=by
 show AF true (some (iv (bif I9 6 a then 6 else a)))=_
 rw[B1]
 show some (iv _)=_
 by_cases h:(6:Int)<a
 ·simp only[h,decide_true,cond_true];rw[Int.min_eq_right (by omega)]
 ·simp only[h,decide_false,cond_false];rw[Int.min_eq_left (by omega)]
def Bb(Tp:List RP)(n:Nat):Int:=
 if Tp.length=0 then 0 else
 let t:=if 128≤(n:Int)then Tp.length - 1 - n % min Tp.length 6 else n % Tp.length
 if 8<HM Tp Tp.length t then 0 else (t:Int)
set_option maxRecDepth 20000 in
theorem TT       {E : Bl}  (hE : Ai    E) {s : AD}  {q : Nat} {T : List RT} {O : List Nat} (h : Nt  s q T O) (hT : T.length ≤ 900) (hkl : ∀ t ∈ T, t.kids.length ≤ 3) {n : Nat} (hn : n < 256) {K : AV → AD  → Prop}
    (hK:∀s',BD s.next s s'→K (iv (Bb (T.map RT.pl) n)) s'):WF E 62 [.ptr (some (q,0)),Cb n] K s:=by
  obtain⟨tv,OT,hobj,hbuf,_⟩:=h.ex
  obtain⟨a,c,rfl,_⟩:=hbuf.slice
  refine hE.go YT (by decide) rfl ?_
  have hdeep:=fun(x:Nat) hx (K:AV→AD→Prop)=>S9 hE (by omega) hkl T.length x hx hx s K h
  by_cases h0:T.length=0
  · have hd:decide ((T.length:Int)=0)=true:=decide_eq_true (by omega)
    simp only[aG,OC,OD,Wo,Qa,Qb,Qc,Qd,Qe,Qf,Qg,Qh,Qi,Qj,Qk,Ql,Qm,Qn,true_and,and_true,Qo,Qp,Qq,Qr,Qs,Qt,Qu,Qv,Qw,Qx,Qy,Qz,Ra,Rb,Rc,Rd,Re,Rf,Rg,Rh,Ri,Rj,Rk,Rl,Rm,Ya,Yb,Yc,Rn,Ro,Xv,Yd,Ye,Rq,Rs,Rt,Ru,Rw,Rx,Ry,Rw,hobj,Ci,Gk,AZ Tryz.underlying78,hd,Rz,Wa,Wb,Wc,Wd,We,Wf,Wg,Wh,Wi,Wj,Wl,Wm,Wn,Wp,Wq,Wr,Ws,Wt,Wu,Wv,Ww,Wx,Wy,Wz,Xa,Xb,Xc,Xd,Xe,Xf,Xg,Xh,Xi,Xj,Xk,Xl,Xm,Xn,Xo,Xp,Xq,Xr,bO,bT,bS,bP,bU,bV,List.getElem?_cons_zero,List.getElem?_cons_succ,bR,bX,bW,bY,bN,Nat.reduceAdd,Nat.reduceLT,Nat.reduceLeDiff,decide_true,decide_false,Bool.true_and,Bool.and_true,bZ,bM,Option.some.injEq,Xs,Xt,Xu,Xv]
    have hp:Bb (T.map RT.pl) n=0:=if_pos (by rw[bp];exact h0)
    rw[hp]at hK
    exact hK s (BD.refl _ _)
  · have hd : decide ((T.length : Int) = 0) = false := decide_eq_false (by omega)
    have hr1:AO Tryz.prog .rem 3 (iv (n:Int)) (iv (T.length:Int))=some (iv (((n % T.length:Nat)):Int)):=by
      have:=Hr (P:=Tryz.prog) (t:=3) (k:=.i64) (a:=(n:Int)) (b:=(T.length:Int)) (by omega) (by omega)
      rw[this];rfl
    have hm1:n % T.length<T.length:=cB _ (by omega)
    have fin:∀ (x:Nat),x<T.length→WF E 80 [.ptr (some (q,0)),iv (x:Int)] (fun v s'=>∃d,d=HM (T.map RT.pl) T.length x∧v=iv d∧BD s.next s s') s:=fun x hx=>hdeep x hx _ fun d s' e _ _ ho=>⟨d,e,rfl,ho⟩
    by_cases hg:(128:Int)≤(n:Int)
    · have hdg : decide ((128 : Int) ≤ (n : Int)) = true := decide_eq_true hg
      have hs1:i64 ((T.length:Int) - 1):=by unfold i64;omega
      have hmin:(min (T.length:Int) 6)=((min T.length 6:Nat):Int):=by omega
      have hr2:AO Tryz.prog .rem 3 (iv (n:Int)) (iv ((min T.length 6:Nat):Int))=some (iv ((n % min T.length 6:Nat):Int)):=by
        have:=Hr (P:=Tryz.prog) (t:=3) (k:=.i64) (a:=(n:Int)) (b:=((min T.length 6:Nat):Int)) (by omega) (by omega)
        rw[this];rfl
      have hm2:n % min T.length 6<min T.length 6:=cB _ (by omega)
      have hs2:i64 (((T.length:Int) - 1) - ((n % min T.length 6:Nat):Int)):=by unfold i64;omega
      have he2:((T.length:Int) - 1) - ((n % min T.length 6:Nat):Int)=((T.length - 1 - n % min T.length 6:Nat):Int):=by omega
      simp only[aG,OC,OD,R5,R6,W0,Qa,Qb,Qc,Qd,Qe,Qf,Qg,Qh,Qi,Qj,Qk,Ql,Qm,Qn,true_and,and_true,Qo,Qp,Qq,Qr,Qs,Qt,Qu,Qv,Qw,Qx,Qy,Qz,Ra,Rb,Rc,Rd,Re,Rf,Rg,Rh,Ri,Rj,Rk,Rl,Rm,Ya,Yb,Yc,Rn,Ro,Xv,Yd,Ye,Rq,Rs,Rt,Ru,Rw,Rx,Ry,Rw,hobj,Ci,Gk,AZ Tryz.underlying78,hd,GB hn,hr1,Sd,hdg,F4 _ _ _ _ hs1,UW,hmin,hr2,F4 _ _ _ _ hs2,he2,R7,Rz,Wa,Wb,Wc,Wd,We,Wf,Wg,Wh,Wi,Wj,Wl,Wm,Wn,Wp,Wq,Wr,Ws,Wt,Wu,Wv,Ww,Wx,Wy,Wz,Xa,Xb,Xc,Xd,Xe,Xf,Xg,Xh,Xi,Xj,Xk,Xl,Xm,Xn,Xo,Xp,Xq,Xr,bO,bT,bS,bP,bU,bV,List.getElem?_cons_zero,List.getElem?_cons_succ,bR,bX,bW,bY,bN,Nat.reduceAdd,Nat.reduceLT,Nat.reduceLeDiff,decide_true,decide_false,Bool.true_and,Bool.and_true,bZ,bM,Option.some.injEq,Xs,Xt,Xu,Xv]
      refine(fin _ (by omega)).mono ?_
      rintro v s' ⟨d,hdd,rfl,ho⟩
      by_cases h8:(8:Int)<d
      · simp only[Qa,Qb,Qc,Qd,Qe,Qf,Qg,Qh,Qi,Qj,Qk,Ql,Qm,Qn,true_and,and_true,Qo,Qp,Qq,Qr,Qs,Qt,Qu,Qv,Qw,Qx,Qy,Qz,Ra,Rb,Rc,Rd,Re,Rf,Rg,Rh,Ri,Rj,Rk,Rl,Rm,Ya,Yb,Yc,Rn,Ro,Xv,Yd,Ye,Rq,Rs,Rt,Ru,Rw,Rx,Ry,Rs,h8,decide_true,R8]
        have hp:Bb (T.map RT.pl) n=0:=by unfold Bb;rw[if_neg (by rw[bp];exact h0),bp,if_pos hg];exact if_pos (hdd▸h8)
        rw[hp]at hK
        exact hK s' ho
      · simp only[Qa,Qb,Qc,Qd,Qe,Qf,Qg,Qh,Qi,Qj,Qk,Ql,Qm,Qn,true_and,and_true,Qo,Qp,Qq,Qr,Qs,Qt,Qu,Qv,Qw,Qx,Qy,Qz,Ra,Rb,Rc,Rd,Re,Rf,Rg,Rh,Ri,Rj,Rk,Rl,Rm,Ya,Yb,Yc,Rn,Ro,Xv,Yd,Ye,Rq,Rs,Rt,Ru,Rw,Rx,Ry,Rs,h8,decide_false,R9]
        have hp:Bb (T.map RT.pl) n=((T.length - 1 - n % min T.length 6:Nat):Int):=by unfold Bb;rw[if_neg (by rw[bp];exact h0),bp,if_pos hg];exact if_neg (hdd▸h8)
        rw[hp]at hK
        exact hK s' ho
    · have hdg:decide ((128:Int)≤(n:Int))=false:=decide_eq_false hg
      simp only[aG,OC,OD,R5,R6,Qa,Qb,Qc,Qd,Qe,Qf,Qg,Qh,Qi,Qj,Qk,Ql,Qm,Qn,true_and,and_true,Qo,Qp,Qq,Qr,Qs,Qt,Qu,Qv,Qw,Qx,Qy,Qz,Ra,Rb,Rc,Rd,Re,Rf,Rg,Rh,Ri,Rj,Rk,Rl,Rm,Ya,Yb,Yc,Rn,Ro,Xv,Yd,Ye,Rq,Rs,Rt,Ru,Rw,Rx,Ry,Rw,hobj,Ci,Gk,AZ Tryz.underlying78,hd,GB hn,hr1,Sd,hdg,R7,Rz,Wa,Wb,Wc,Wd,We,Wf,Wg,Wh,Wi,Wj,Wl,Wm,Wn,Wp,Wq,Wr,Ws,Wt,Wu,Wv,Ww,Wx,Wy,Wz,Xa,Xb,Xc,Xd,Xe,Xf,Xg,Xh,Xi,Xj,Xk,Xl,Xm,Xn,Xo,Xp,Xq,Xr,bO,bT,bS,bP,bU,bV,List.getElem?_cons_zero,List.getElem?_cons_succ,bR,bX,bW,bY,bN,Nat.reduceAdd,Nat.reduceLT,Nat.reduceLeDiff,decide_true,decide_false,Bool.true_and,Bool.and_true,bZ,bM,Option.some.injEq,Xs,Xt,Xu,Xv]
      refine(fin _ hm1).mono ?_
      rintro v s' ⟨d,hdd,rfl,ho⟩
      by_cases h8:(8:Int)<d
      · simp only[Qa,Qb,Qc,Qd,Qe,Qf,Qg,Qh,Qi,Qj,Qk,Ql,Qm,Qn,true_and,and_true,Qo,Qp,Qq,Qr,Qs,Qt,Qu,Qv,Qw,Qx,Qy,Qz,Ra,Rb,Rc,Rd,Re,Rf,Rg,Rh,Ri,Rj,Rk,Rl,Rm,Ya,Yb,Yc,Rn,Ro,Xv,Yd,Ye,Rq,Rs,Rt,Ru,Rw,Rx,Ry,Rs,h8,decide_true,R8]
        have hp:Bb (T.map RT.pl) n=0:=by unfold Bb;rw[if_neg (by rw[bp];exact h0),bp,if_neg hg];exact if_pos (hdd▸h8)
        rw[hp]at hK
        exact hK s' ho
      · simp only[Qa,Qb,Qc,Qd,Qe,Qf,Qg,Qh,Qi,Qj,Qk,Ql,Qm,Qn,true_and,and_true,Qo,Qp,Qq,Qr,Qs,Qt,Qu,Qv,Qw,Qx,Qy,Qz,Ra,Rb,Rc,Rd,Re,Rf,Rg,Rh,Ri,Rj,Rk,Rl,Rm,Ya,Yb,Yc,Rn,Ro,Xv,Yd,Ye,Rq,Rs,Rt,Ru,Rw,Rx,Ry,Rs,h8,decide_false,R9]
        have hp:Bb (T.map RT.pl) n=((n % T.length:Nat):Int):=by unfold Bb;rw[if_neg (by rw[bp];exact h0),bp,if_neg hg];exact if_neg (hdd▸h8)
        rw[hp]at hK
        exact hK s' ho
def BP(n0:Nat)(Tp:List RP)(l:List Int):List RP×List Int:=l.foldl (fun r x=>((Dt r.1 (if (n0:Int)≤x then -1 else x)).1,r.2++[((Dt r.1 (if (n0:Int)≤x then -1 else x)).2:Int)])) (Tp,[])
theorem HZ(n0:Nat)(Tp:List RP)(l:List Int)(x:Int):BP n0 Tp (l++[x])=((Dt (BP n0 Tp l).1 (if (n0:Int)≤x then -1 else x)).1,(BP n0 Tp l).2++[((Dt (BP n0 Tp l).1 (if (n0:Int)≤x then -1 else x)).2:Int)]):=by
 unfold BP
 rw[List.foldl_append];rfl
set_option maxRecDepth 20000 in
theorem MJ          {E : Bl}  (hE : Ai    E) {s : AD}  {q : Nat} {T : List RT} {O : List Nat} (hT : T.length ≤ 800) {l : List Int} {v : AV} (hv : Ce     s O v l) (hl : l.length ≤ 3) (a1 a3 : AV) {Q : Au   → Prop} {marks : List Nat} (hq1 : 1 < s.next)
    (hnot:∀ (y6 y7 y8 y9 vo:AV) s' O' T' ks OB,(T'.map RT.pl,ks)=BP T.length (T.map RT.pl) l→RS s' q T' O'→DG O s s'→Aj O O' s→T'.length≤T.length+l.length→(∃x,T'=T++x)→D6 3 1 s' vo l.length (C8 ks) OB→(∀k∈ks,0≤k∧k<(T'.length:Int))→(∀j∈OB,s.next≤j∧j ∉ O') →
      AT 0 Q ⟨.exit 0,[.ptr (some (q,0)),a1,v,a3,iv (T.length:Int),vo,y6,y7,y8,y9],marks,s'⟩):
    ∀ (l2 l1:List Int) (s1:AD) (O1:List Nat) (T1:List RT) (ks:List Int) (OB:List Nat) (vo a7 a8 a9:AV),l=l1++l2→(T1.map RT.pl,ks)=BP T.length (T.map RT.pl) l1→RS s1 q T1 O1→DG O s s1→Aj O O1 s→T1.length≤T.length+l1.length→(∃x,T1=T++x)→D6 3 1 s1 vo l1.length (C8 ks) OB→(∀k∈ks,0≤k∧k<(T1.length:Int))→(∀j∈OB,s.next≤j∧j ∉ O1) →
      WC E none (AU.loop Gp) (AT 0 Q) [.ptr (some (q,0)),a1,v,a3,iv (T.length:Int),vo,iv (l1.length:Int),a7,a8,a9] marks s1:=by
  intro l2
  induction l2 with
  | nil =>
    intro l1 s1 O1 T1 ks OB vo a7 a8 a9 hll h0 h1 h2 h3 h4 h5 h6 h7 h8
    have hll:l=l1:=by rw[hll];simp
    subst hll
    have hlen:=hv.rd.len
    refine WC.loop' ?_
    have hlt:¬ ((l.length:Int)<(l.length:Int)):=by omega
    simp only[Gp,OE,Qa,Qb,Qc,Qd,Qe,Qf,Qg,Qh,Qi,Qj,Qk,Ql,Qm,Qn,true_and,and_true,Qo,Qp,Qq,Qr,Qs,Qt,Qu,Qv,Qw,Qx,Qy,Qz,Ra,Rb,Rc,Rd,Re,Rf,Rg,Rh,Ri,Rj,Rk,Rl,Rm,Ya,Yb,Yc,Rn,Ro,Xv,Yd,Ye,Rq,Rs,Rt,Ru,Rw,Rx,Ry,hlen,Rq,hlt,decide_false]
    exact hnot _ _ _ _ vo s1 O1 T1 ks OB h0 h1 h2 h3 h4 h5 h6 h7 h8
  | cons x l2 ih =>
    intro l1 s1 O1 T1 ks OB vo a7 a8 a9 hll h0 h1 h2 h3 h4 h5 h6 h7 h8
    have hlen:=hv.rd.len
    have hvr:=(hv.step h2 h3).rd
    obtain⟨W,hW⟩:∃W,W=AU.loop Gp:=⟨_,rfl⟩
    have hlt:((l1.length:Int)<(l.length:Int)):=by rw[hll];simp;omega
    have hltn:l1.length<l.length:=by omega
    have hadd:i64 ((l1.length:Int)+1):=by unfold i64;omega
    have hll3:l1.length≤3:=by omega
    have hBlt:=h6.lt
    have hrest:∀ (i:Nat) s2 O2 T2 (b7 b8 b9:AV),(T2.map RT.pl,i)=Dt (T1.map RT.pl) (if (T.length:Int)≤x then -1 else x)→RS s2 q T2 O2→DG O1 s1 s2→Aj O1 O2 s1→(∃x,T2=T1++x)→T2.length≤T1.length+1→i<T2.length →
        ∃vo2 s3,Ay Tryz.prog (newObj s2 (R 3 1 false (C8 [(i:Int)]))) [27,27] [vo,.slice (some (s2.next,0)) 1 (some 1)]=some (vo2,s3) ∧
          WC E none W (AT 0 Q) [.ptr (some (q,0)),a1,v,a3,iv (T.length:Int),vo2,iv ((l1.length:Int)+1),b7,b8,b9] marks s3:=by
      intro i s2 O2 T2 b7 b8 b9 g0 g1 g2 g3 g4 g5 g6
      have hBO:∀j∈OB,j ∉ O2:=fun j hj hm=>(g3 j hm).elim (h8 j hj).2 (fun hl=>by have:=hBlt j hj;omega)
      have hbuf':=h6.frame (s':=s2) g2.1 fun j hj=>g2.2 j (hBlt j hj) (h8 j hj).2
      have hnx:(ext s2 [R 3 1 false (C8 [(i:Int)])]).next=s2.next+1:=by rw[Wm,AG];rfl
      have hrd:A0 (ext s2 [R 3 1 false (C8 [(i:Int)])]) (.slice (some (nid s2.next 0,0)) 1 (some 1)) [(i:Int)]:=.inr ⟨nid s2.next 0,0,some 1,rfl,by rw[hnx,AG];omega,by rw[Wg rfl (by simp)];exact Wj (bM _)⟩
      have hbuf2:=hbuf'.frame (s':=ext s2 [R 3 1 false (C8 [(i:Int)])]) (by rw[hnx];omega) fun j hj=>Wh (hbuf'.lt j hj)
      obtain⟨v2,s3,OB2,happ,hb2,hn2,hf2,hO2,hsl⟩:=hbuf2.append (xt:=27) (m:=1) Tryz.underlying27 Fy ab (by omega) O7 Tq (by omega) (MR hrd) rfl (OY _) (by omega) (by omega)
      rw[hnx]at hn2 hf2 hO2
      have hne:newObj s2 (R 3 1 false (C8 [(i:Int)]))=ext s2 [R 3 1 false (C8 [(i:Int)])]:=by
        have:=Wl s2 [] (R 3 1 false (C8 [(i:Int)]))
        rw[Af]at this;exact this
      rw[← hne,Eo]at happ
      rw[← NB]at hb2
      have hsn:s.next≤s2.next:=bo h2.1 g2.1
      have hsame:∀j,j<s2.next→j ∉ OB→s3.heap.get j=s2.heap.get j:=fun j hj hB=>by rw[hf2 j (by omega) hB,Wh (by omega)]
      have hlt2:=g1.at_.lt
      have hrs:RS s3 q T2 O2:=⟨g1.at_.frame (by rw[hn2];omega) (fun j hj=>hsame j (hlt2 j hj) fun hm=>hBO j hm hj),⟨by rw[BN (hsame 1 g1.gl.2.1 fun hm=>by have:=(h8 1 hm).1;omega)];exact g1.gl.1,by rw[hn2];have:=g1.gl.2.1;omega,g1.gl.2.2⟩,g1.kl⟩
      refine⟨v2,s3,happ,?_⟩
      have:=ih (l1++[x]) s3 O2 T2 (ks++[(i:Int)]) OB2 v2 b7 b8 b9 (by rw[hll];simp) (by rw[HZ,← h0,← g0]) hrs ⟨by rw[hn2];omega,fun j hj hjO=>?_⟩ (h3.trans g3 h2.1) (by simp;omega) (by obtain⟨y,rfl⟩:=h5;obtain⟨z,rfl⟩:=g4;exact⟨y++z,by simp⟩) (by rw[bu];exact hb2) ?_ ?_
      · rw [hW]
        rw[show((l1++[x]).length:Int)=(l1.length:Int)+1 from by simp]at this
        exact this
      · have hjB:j ∉ OB:=fun hm=>by have:=(h8 j hm).1;omega
        rw[hsame j (by omega) hjB,g2.2 j (by have:=h2.1;omega) fun hm=>(h3 j hm).elim hjO (fun hl=>by omega),h2.2 j hj hjO]
      · intro k hk
        obtain⟨z,rfl⟩:=g4
        rcases List.mem_append.1 hk with hk | hk
        · have:=h7 k hk;simp;omega
        · rw[List.mem_singleton.1 hk];omega
      · intro j hj
        rcases hO2 j hj with hj | hj
        · exact⟨(h8 j hj).1,hBO j hj⟩
        · exact⟨by omega,fun hm=>by have:=hlt2 j hm;omega⟩
    obtain⟨j,qq,cap,rfl,hj,hld⟩:=hvr.at (k:=l1.length) (x:=x) (by rw[hll];simp)
    refine WC.loop' ?_
    rw[← hW]
    by_cases hx:(T.length:Int)≤x
    · have hd:decide ((T.length:Int)≤x)=true:=decide_eq_true hx
      simp only[Gp,OE,SE,SF,XV,SG,Qa,Qb,Qc,Qd,Qe,Qf,Qg,Qh,Qi,Qj,Qk,Ql,Qm,Qn,true_and,and_true,Qo,Qp,Qq,Qr,Qs,Qt,Qu,Qv,Qw,Qx,Qy,Qz,Ra,Rb,Rc,Rd,Re,Rf,Rg,Rh,Ri,Rj,Rk,Rl,Rm,Ya,Yb,Yc,Rn,Ro,Xv,Yd,Ye,Rq,Rs,Rt,Ru,Rw,Rx,Ry,hlen,Rq,Ru,hlt,decide_true,Ac Tryz.underlying27 Fy hltn,C3,hld,b0,hd,Rz,Wa,Wb,Wc,Wd,We,Wf,Wg,Wh,Wi,Wj,Wl,Wm,Wn,Wp,Wq,Wr,Ws,Wt,Wu,Wv,Ww,Wx,Wy,Wz,Xa,Xb,Xc,Xd,Xe,Xf,Xg,Xh,Xi,Xj,Xk,Xl,Xm,Xn,Xo,Xp,Xq,Xr,bO,bT,bS,bP,bU,bV,List.getElem?_cons_zero,List.getElem?_cons_succ,bR,bX,bW,bY,bN,Nat.reduceAdd,Nat.reduceLT,Nat.reduceLeDiff,decide_true,decide_false,Bool.true_and,Bool.and_true,bZ,bM,Option.some.injEq,Xs,Xt,Xu,Xv]
      refine J5 hE h1 (by omega) fun i s2 O2 T2 g0 g1 g2 g3 g4 g5 g6=>?_
      obtain⟨vo2,s3,e1,e2⟩:=hrest i s2 O2 T2 (iv (-1)) (.bool true) (.bool true) (by rw[if_pos hx];exact g0) g1 g2 g3 g4 g5 g6
      simp only[Qa,Qb,Qc,Qd,Qe,Qf,Qg,Qh,Qi,Qj,Qk,Ql,Qm,Qn,true_and,and_true,Qo,Qp,Qq,Qr,Qs,Qt,Qu,Qv,Qw,Qx,Qy,Qz,Ra,Rb,Rc,Rd,Re,Rf,Rg,Rh,Ri,Rj,Rk,Rl,Rm,Ya,Yb,Yc,Rn,Ro,Xv,Yd,Ye,Rq,Rs,Rt,Ru,Rw,Rx,Ry,J1,e1,SH,A9 _ _ _ _ hadd,Rz,Wa,Wb,Wc,Wd,We,Wf,Wg,Wh,Wi,Wj,Wl,Wm,Wn,Wp,Wq,Wr,Ws,Wt,Wu,Wv,Ww,Wx,Wy,Wz,Xa,Xb,Xc,Xd,Xe,Xf,Xg,Xh,Xi,Xj,Xk,Xl,Xm,Xn,Xo,Xp,Xq,Xr,bO,bT,bS,bP,bU,bV,List.getElem?_cons_zero,List.getElem?_cons_succ,bR,bX,bW,bY,bN,Nat.reduceAdd,Nat.reduceLT,Nat.reduceLeDiff,decide_true,decide_false,Bool.true_and,Bool.and_true,bZ,bM,Option.some.injEq,Xs,Xt,Xu,Xv]
      exact e2
    · have hd:decide ((T.length:Int)≤x)=false:=decide_eq_false hx
      simp only[Gp,OE,SE,SF,SG,Qa,Qb,Qc,Qd,Qe,Qf,Qg,Qh,Qi,Qj,Qk,Ql,Qm,Qn,true_and,and_true,Qo,Qp,Qq,Qr,Qs,Qt,Qu,Qv,Qw,Qx,Qy,Qz,Ra,Rb,Rc,Rd,Re,Rf,Rg,Rh,Ri,Rj,Rk,Rl,Rm,Ya,Yb,Yc,Rn,Ro,Xv,Yd,Ye,Rq,Rs,Rt,Ru,Rw,Rx,Ry,hlen,Rq,Ru,hlt,decide_true,Ac Tryz.underlying27 Fy hltn,C3,hld,b0,hd,Rz,Wa,Wb,Wc,Wd,We,Wf,Wg,Wh,Wi,Wj,Wl,Wm,Wn,Wp,Wq,Wr,Ws,Wt,Wu,Wv,Ww,Wx,Wy,Wz,Xa,Xb,Xc,Xd,Xe,Xf,Xg,Xh,Xi,Xj,Xk,Xl,Xm,Xn,Xo,Xp,Xq,Xr,bO,bT,bS,bP,bU,bV,List.getElem?_cons_zero,List.getElem?_cons_succ,bR,bX,bW,bY,bN,Nat.reduceAdd,Nat.reduceLT,Nat.reduceLeDiff,decide_true,decide_false,Bool.true_and,Bool.and_true,bZ,bM,Option.some.injEq,Xs,Xt,Xu,Xv]
      refine J5 hE h1 (by omega) fun i s2 O2 T2 g0 g1 g2 g3 g4 g5 g6=>?_
      obtain⟨vo2,s3,e1,e2⟩:=hrest i s2 O2 T2 (iv x) (.bool true) (.bool false) (by rw[if_neg hx];exact g0) g1 g2 g3 g4 g5 g6
      simp only[Qa,Qb,Qc,Qd,Qe,Qf,Qg,Qh,Qi,Qj,Qk,Ql,Qm,Qn,true_and,and_true,Qo,Qp,Qq,Qr,Qs,Qt,Qu,Qv,Qw,Qx,Qy,Qz,Ra,Rb,Rc,Rd,Re,Rf,Rg,Rh,Ri,Rj,Rk,Rl,Rm,Ya,Yb,Yc,Rn,Ro,Xv,Yd,Ye,Rq,Rs,Rt,Ru,Rw,Rx,Ry,J1,e1,SH,A9 _ _ _ _ hadd,Rz,Wa,Wb,Wc,Wd,We,Wf,Wg,Wh,Wi,Wj,Wl,Wm,Wn,Wp,Wq,Wr,Ws,Wt,Wu,Wv,Ww,Wx,Wy,Wz,Xa,Xb,Xc,Xd,Xe,Xf,Xg,Xh,Xi,Xj,Xk,Xl,Xm,Xn,Xo,Xp,Xq,Xr,bO,bT,bS,bP,bU,bV,List.getElem?_cons_zero,List.getElem?_cons_succ,bR,bX,bW,bY,bN,Nat.reduceAdd,Nat.reduceLT,Nat.reduceLeDiff,decide_true,decide_false,Bool.true_and,Bool.and_true,bZ,bM,Option.some.injEq,Xs,Xt,Xu,Xv]
      exact e2
theorem PE(a:Int)(j n:Nat):AR Tryz.prog 122 (zipIdx [0,3] [iv a,.slice (some (j,0)) n none])=some (.agg ([iv a,iv 0]++Tm.nullC++[.slice (some (j,0)) n none])):=by kernel_rfl
set_option maxRecDepth 20000 in
theorem J4{E:Bl}(hE:Ai E){s:AD}{q:Nat}{T:List RT}{O:List Nat}(h:RS s q T O)(hT:T.length≤800){l:List Int}{v:AV}(hv:Ce s O v l)(h0:0<l.length)(hl:l.length≤3){kind:Int}{K:AV→AD→Prop}
    (hK:RK 4 (EQ (BP T.length (T.map RT.pl) l).1 (kind,0,0,(BP T.length (T.map RT.pl) l).2)) s q T O K):WF E 83 [.ptr (some (q,0)),iv kind,v] K s:=by
  obtain⟨tv,OT,hobj,hbuf,_⟩:=h.at_.ex
  obtain⟨a,c,rfl,_⟩:=hbuf.slice
  refine hE.go Yh (by decide) rfl ?_
  simp only[bK,XR,XS,XT,XU,Qa,Qb,Qc,Qd,Qe,Qf,Qg,Qh,Qi,Qj,Qk,Ql,Qm,Qn,true_and,and_true,Qo,Qp,Qq,Qr,Qs,Qt,Qu,Qv,Qw,Qx,Qy,Qz,Ra,Rb,Rc,Rd,Re,Rf,Rg,Rh,Ri,Rj,Rk,Rl,Rm,Ya,Yb,Yc,Rn,Ro,Xv,Yd,Ye,Rq,Rs,Rt,Ru,Rw,Rx,Ry,hobj,Ci,Gk,AZ Tryz.underlying78,Rz,Wa,Wb,Wc,Wd,We,Wf,Wg,Wh,Wi,Wj,Wl,Wm,Wn,Wp,Wq,Wr,Ws,Wt,Wu,Wv,Ww,Wx,Wy,Wz,Xa,Xb,Xc,Xd,Xe,Xf,Xg,Xh,Xi,Xj,Xk,Xl,Xm,Xn,Xo,Xp,Xq,Xr,bO,bT,bS,bP,bU,bV,List.getElem?_cons_zero,List.getElem?_cons_succ,bR,bX,bW,bY,bN,Nat.reduceAdd,Nat.reduceLT,Nat.reduceLeDiff,decide_true,decide_false,Bool.true_and,Bool.and_true,bZ,bM,Option.some.injEq,Xs,Xt,Xu,Xv]
  refine MJ hE hT hv hl _ _ h.gl.2.1 (fun y6 y7 y8 y9 vo s' O' T' ks OB g0 g1 g2 g3 g4 g5 g6 g7 g8=>?_) l [] s O T [] [] _ _ _ _ rfl rfl h (DG.refl _ _) (Aj.refl _ _) (by simp) ⟨[],by simp⟩ (D6.nil _ _ _) (fun _ h=>by cases h) (fun _ h=>by cases h)
  simp only[Qa,Qb,Qc,Qd,Qe,Qf,Qg,Qh,Qi,Qj,Qk,Ql,Qm,Qn,true_and,and_true,Qo,Qp,Qq,Qr,Qs,Qt,Qu,Qv,Qw,Qx,Qy,Qz,Ra,Rb,Rc,Rd,Re,Rf,Rg,Rh,Ri,Rj,Rk,Rl,Rm,Ya,Yb,Yc,Rn,Ro,Xv,Yd,Ye,Rq,Rs,Rt,Ru,Rw,Rx,Ry]
  rw[if_pos trivial]
  have hks:=g6.len
  rw[Dg,b0]at hks
  rcases g6.row with⟨_,hz,_⟩ | ⟨j,r,rfl,hj,hjr,hh⟩
  · omega
  simp only[SD,PE,Qa,Qb,Qc,Qd,Qe,Qf,Qg,Qh,Qi,Qj,Qk,Ql,Qm,Qn,true_and,and_true,Qo,Qp,Qq,Qr,Qs,Qt,Qu,Qv,Qw,Qx,Qy,Qz,Ra,Rb,Rc,Rd,Re,Rf,Rg,Rh,Ri,Rj,Rk,Rl,Rm,Ya,Yb,Yc,Rn,Ro,Xv,Yd,Ye,Rq,Rs,Rt,Ru,Rw,Rx,Ry]
  have hln:A1 (s'.heap.get j) 0 ks.length=some (C8 ks):=by
    rw[hjr,Df hh (by rw[Dg,bN];exact bM _),bR,bw (by rw[Dg];exact bM _)]
  have hu:(⟨kind,0,0,ks,.slice (some (j,0)) l.length none⟩:RT).cells=[iv kind,iv 0]++Tm.nullC++[.slice (some (j,0)) l.length none]:=rfl
  rw[← hu]
  refine Ol hE g1.at_ g1.gl.1 g1.gl.2.1 (by omega) g1.kl (u:=⟨kind,0,0,ks,.slice (some (j,0)) l.length none⟩) (by show 0<11;omega) (by show ks.length≤3;omega) (.inr ⟨j,by show _=AV.slice _ ks.length _;rw[hks],g6.lt j hj,(g8 j hj).2,hln⟩) g7 fun i s2 O2 T2 p1 p2 e1 e2 e3 e4 e5=>?_
  simp only[Qa,Qb,Qc,Qd,Qe,Qf,Qg,Qh,Qi,Qj,Qk,Ql,Qm,Qn,true_and,and_true,Qo,Qp,Qq,Qr,Qs,Qt,Qu,Qv,Qw,Qx,Qy,Qz,Ra,Rb,Rc,Rd,Re,Rf,Rg,Rh,Ri,Rj,Rk,Rl,Rm,Ya,Yb,Yc,Rn,Ro,Xv,Yd,Ye,Rq,Rs,Rt,Ru,Rw,Rx,Ry]
  have hgr:∀x∈O2,x∈O∨s.next≤x:=fun x hx=>by
    rcases e5 x hx with h' | h' | h'
    · exact g3 x h'
    · exact .inr (bo g2.1 h')
    · have:j=x:=by simpa[K6]using h'
      rw[← this];exact .inr (g8 j hj).1
  have h1O2:1 ∉ O2:=fun hm=>(hgr 1 hm).elim h.gl.2.2 (fun hl=>by have:=h.gl.2.1;omega)
  refine hK i s2 O2 T2 (by rw[← g0];exact Prod.ext p1 p2) ⟨e3,⟨by rw[BN (e4.2 1 g1.gl.2.1 g1.gl.2.2)];exact g1.gl.1,bi g1.gl.2.1 e4.1,h1O2⟩,fun t ht=>?_⟩ (g2.trans e4 g3) hgr ?_ ?_ e2
  · rcases e1 with rfl | rfl
    · exact g1.kl t ht
    · rcases List.mem_append.1 ht with ht | ht
      · exact g1.kl t ht
      · rw[List.mem_singleton.1 ht];show ks.length≤3;omega
  · obtain⟨y,rfl⟩:=g5
    rcases e1 with rfl | rfl
    · exact⟨y,rfl⟩
    · exact⟨_,cI _ _ _⟩
  · rcases e1 with rfl | rfl
    · omega
    · simp;omega
section
variable{E:Bl}(hE:Ai E){s:AD}{q:Nat}{T:List RT}{O:List Nat}(h:RS s q T O)(hT:T.length≤800){K:AV→AD→Prop}
include hE h hT
theorem Uh{a b:Int}(hK:RK 4 (EQ (BP T.length (T.map RT.pl) [a,b]).1 (3,0,0,(BP T.length (T.map RT.pl) [a,b]).2)) s q T O K):WF E 66 [.ptr (some (q,0)),iv a,iv b] K s:=by
 refine hE.go YX (by decide) rfl ?_
 have hlt:=h.at_.lt
 generalize hs:s.next=bb
 have hs0:s=ext s []:=(Af s).symm
 have hap:Ce (ext s [R 3 1 false (C8 [a,b])]) O (.slice (some (nid bb 0,0)) 2 (some 2)) [a,b]:=Ce.of (by rw[Wg hs (by simp)];rfl) (by rw[Wm,hs,AG,AG];simp) (fun hm=>by have:=hlt _ hm;rw[AG]at this;omega) (Wj (bM _))
 have hp:=fun(K:AV→AD→Prop) hK=>J4 (K:=K) hE (h.old AS) hT hap (by simp) (by simp) (kind:=3) hK
 rw[hs0]
 simp only[bF,W7,W8,J2,hs,Qa,Qb,Qc,Qd,Qe,Qf,Qg,Qh,Qi,Qj,Qk,Ql,Qm,Qn,true_and,and_true,Qo,Qp,Qq,Qr,Qs,Qt,Qu,Qv,Qw,Qx,Qy,Qz,Ra,Rb,Rc,Rd,Re,Rf,Rg,Rh,Ri,Rj,Rk,Rl,Rm,Ya,Yb,Yc,Rn,Ro,Xv,Yd,Ye,Rq,Rs,Rt,Ru,Rw,Rx,Ry,Rz,Wa,Wb,Wc,Wd,We,Wf,Wg,Wh,Wi,Wj,Wl,Wm,Wn,Wp,Wq,Wr,Ws,Wt,Wu,Wv,Ww,Wx,Wy,Wz,Xa,Xb,Xc,Xd,Xe,Xf,Xg,Xh,Xi,Xj,Xk,Xl,Xm,Xn,Xo,Xp,Xq,Xr,bO,bT,bS,bP,bU,bV,List.getElem?_cons_zero,List.getElem?_cons_succ,bR,bX,bW,bY,bN,Nat.reduceAdd,Nat.reduceLT,Nat.reduceLeDiff,decide_true,decide_false,Bool.true_and,Bool.and_true,bZ,bM,Option.some.injEq,Xs,Xt,Xu,Xv]
 refine hp _ fun i s' O' T' g0 g1 g2 g3 g4 g5 g6=>?_
 simp only[Qa,Qb,Qc,Qd,Qe,Qf,Qg,Qh,Qi,Qj,Qk,Ql,Qm,Qn,true_and,and_true,Qo,Qp,Qq,Qr,Qs,Qt,Qu,Qv,Qw,Qx,Qy,Qz,Ra,Rb,Rc,Rd,Re,Rf,Rg,Rh,Ri,Rj,Rk,Rl,Rm,Ya,Yb,Yc,Rn,Ro,Xv,Yd,Ye,Rq,Rs,Rt,Ru,Rw,Rx,Ry]
 exact hK i s' O' T' g0 g1 ((AS.frO O).trans g2 (Aj.refl O s)) (Aj.trans (Aj.refl O s) g3 (by rw[Wm,AG];omega)) g4 g5 g6
theorem Ui{a b c:Int}(hK:RK 4 (EQ (BP T.length (T.map RT.pl) [a,b,c]).1 (4,0,0,(BP T.length (T.map RT.pl) [a,b,c]).2)) s q T O K):WF E 67 [.ptr (some (q,0)),iv a,iv b,iv c] K s:=by
 refine hE.go YY (by decide) rfl ?_
 have hlt:=h.at_.lt
 generalize hs:s.next=bb
 have hs0:s=ext s []:=(Af s).symm
 have hap:Ce (ext s [R 3 1 false (C8 [a,b,c])]) O (.slice (some (nid bb 0,0)) 3 (some 3)) [a,b,c]:=Ce.of (by rw[Wg hs (by simp)];rfl) (by rw[Wm,hs,AG,AG];simp) (fun hm=>by have:=hlt _ hm;rw[AG]at this;omega) (Wj (bM _))
 have hp:=fun(K:AV→AD→Prop) hK=>J4 (K:=K) hE (h.old AS) hT hap (by simp) (by simp) (kind:=4) hK
 rw[hs0]
 simp only[bG,W9,XA,J3,hs,Qa,Qb,Qc,Qd,Qe,Qf,Qg,Qh,Qi,Qj,Qk,Ql,Qm,Qn,true_and,and_true,Qo,Qp,Qq,Qr,Qs,Qt,Qu,Qv,Qw,Qx,Qy,Qz,Ra,Rb,Rc,Rd,Re,Rf,Rg,Rh,Ri,Rj,Rk,Rl,Rm,Ya,Yb,Yc,Rn,Ro,Xv,Yd,Ye,Rq,Rs,Rt,Ru,Rw,Rx,Ry,Rz,Wa,Wb,Wc,Wd,We,Wf,Wg,Wh,Wi,Wj,Wl,Wm,Wn,Wp,Wq,Wr,Ws,Wt,Wu,Wv,Ww,Wx,Wy,Wz,Xa,Xb,Xc,Xd,Xe,Xf,Xg,Xh,Xi,Xj,Xk,Xl,Xm,Xn,Xo,Xp,Xq,Xr,bO,bT,bS,bP,bU,bV,List.getElem?_cons_zero,List.getElem?_cons_succ,bR,bX,bW,bY,bN,Nat.reduceAdd,Nat.reduceLT,Nat.reduceLeDiff,decide_true,decide_false,Bool.true_and,Bool.and_true,bZ,bM,Option.some.injEq,Xs,Xt,Xu,Xv]
 refine hp _ fun i s' O' T' g0 g1 g2 g3 g4 g5 g6=>?_
 simp only[Qa,Qb,Qc,Qd,Qe,Qf,Qg,Qh,Qi,Qj,Qk,Ql,Qm,Qn,true_and,and_true,Qo,Qp,Qq,Qr,Qs,Qt,Qu,Qv,Qw,Qx,Qy,Qz,Ra,Rb,Rc,Rd,Re,Rf,Rg,Rh,Ri,Rj,Rk,Rl,Rm,Ya,Yb,Yc,Rn,Ro,Xv,Yd,Ye,Rq,Rs,Rt,Ru,Rw,Rx,Ry]
 exact hK i s' O' T' g0 g1 ((AS.frO O).trans g2 (Aj.refl O s)) (Aj.trans (Aj.refl O s) g3 (by rw[Wm,AG];omega)) g4 g5 g6
end
def OJ(Tp:List RP)(o:DZ):List RP×Nat:=
 if o.kind=0 then EQ Tp (0,o.id,0,[])else if o.kind=1 then EQ Tp (1,max o.id 0,0,[])else if o.kind=2 then EQ Tp (2,0,o.con,[])
 else if o.kind=3 then EQ (BP Tp.length Tp [o.a,o.b]).1 (3,0,0,(BP Tp.length Tp [o.a,o.b]).2)
 else EQ (BP Tp.length Tp [o.a,o.b,o.c]).1 (4,0,0,(BP Tp.length Tp [o.a,o.b,o.c]).2)
set_option maxRecDepth 20000 in
theorem Y2{E:Bl}(hE:Ai E){s:AD}{q:Nat}{T:List RT}{O:List Nat}(h:RS s q T O)(hT:T.length≤800){o:DZ}(ho:o.ok)(hcon:o.con<11){K:AV→AD→Prop}
  (hK:RK 4 (OJ (T.map RT.pl) o) s q T O K):WF E 42 [.ptr (some (q,0)),.agg o.cells] K s:=by
 obtain⟨kind,id,n,a,b',c⟩:=o
 obtain⟨hkd,hn,_,_⟩:=ho
 obtain⟨tag,c1,c2,c3,c5,c6,hc,_,d1,d2,d3,d5,d6⟩:=BM n hn
 have hcells:DZ.cells ⟨kind,id,n,a,b',c⟩=[iv kind,iv id,iv tag,c1,c2,c3,.slice none 0 (some 0),c5,c6,iv a,iv b',iv c]:=by
  show [iv kind,iv id]++(Tm.con n).cells++_=_
  rw[hc];rfl
 have hkd:kind=0∨kind=1∨kind=2∨kind=3∨kind=4:=hkd
 have hst:=fun os=>h.old (AS (os:=os))
 have hend:∀os (i:Nat) s' O' T',(T'.map RT.pl,i)=OJ (T.map RT.pl) ⟨kind,id,n,a,b',c⟩→RS s' q T' O'→DG O (ext s os) s'→Aj O O' (ext s os)→(∃x,T'=T++x)→T'.length≤T.length+4→i<T'.length→K (iv (i:Int)) s':=fun os i s' O' T' g0 g1 g2 g3 g4 g5 g6 =>
  hK i s' O' T' g0 g1 ((AS.frO O).trans g2 (Aj.refl O s)) (Aj.trans (Aj.refl O s) g3 (by rw[Wm,AG];omega)) g4 g5 g6
 have hvar:=fun os (K:AV→AD→Prop) hK=>Uj (K:=K) hE (hst os) (by omega) (id:=id) hK
 have hbnd:=fun os (K:AV→AD→Prop) hK=>Uf (K:=K) hE (hst os) (by omega) (id:=id) hK
 have hcst:=fun os (K:AV→AD→Prop) hK=>Jz (K:=K) hE (hst os) (by omega) (n:=n) hcon hK
 have hsel:=fun os (K:AV→AD→Prop) hK=>Uh (K:=K) hE (hst os) hT (a:=a) (b:=b') hK
 have hupd:=fun os (K:AV→AD→Prop) hK=>Ui (K:=K) hE (hst os) hT (a:=a) (b:=b') (c:=c) hK
 rw[hc]at hcst
 rw[hcells]
 refine hE.go YR (by decide) rfl ?_
 generalize hs:s.next=b
 have hs0:s=ext s []:=(Af s).symm
 rw[hs0]
 rcases hkd with rfl | rfl | rfl | rfl | rfl
 ·simp only[ZE,JZ,Ja,Jb,V8,Qa,Qb,Qc,Qd,Qe,Qf,Qg,Qh,Qi,Qj,Qk,Ql,Qm,Qn,true_and,and_true,Qo,Qp,Qq,Qr,Qs,Qt,Qu,Qv,Qw,Qx,Qy,Qz,Ra,Rb,Rc,Rd,Re,Rf,Rg,Rh,Ri,Rj,Rk,Rl,Rm,Ya,Yb,Yc,Rn,Ro,Xv,Yd,Ye,Rq,Rs,Rt,Ru,Rw,Rx,Ry,hs,C3,BW,B0,Rw,Int.reduceEq,Rz,Wa,Wb,Wc,Wd,We,Wf,Wg,Wh,Wi,Wj,Wl,Wm,Wn,Wp,Wq,Wr,Ws,Wt,Wu,Wv,Ww,Wx,Wy,Wz,Xa,Xb,Xc,Xd,Xe,Xf,Xg,Xh,Xi,Xj,Xk,Xl,Xm,Xn,Xo,Xp,Xq,Xr,bO,bT,bS,bP,bU,bV,List.getElem?_cons_zero,List.getElem?_cons_succ,bR,bX,bW,bY,bN,Nat.reduceAdd,Nat.reduceLT,Nat.reduceLeDiff,decide_true,decide_false,Bool.true_and,Bool.and_true,bZ,bM,Option.some.injEq,Xs,Xt,Xu,Xv]
  refine hvar _ _ fun i s' O' T' g0 g1 g2 g3 g4 g5 g6=>?_
  simp only[Qa,Qb,Qc,Qd,Qe,Qf,Qg,Qh,Qi,Qj,Qk,Ql,Qm,Qn,true_and,and_true,Qo,Qp,Qq,Qr,Qs,Qt,Qu,Qv,Qw,Qx,Qy,Qz,Ra,Rb,Rc,Rd,Re,Rf,Rg,Rh,Ri,Rj,Rk,Rl,Rm,Ya,Yb,Yc,Rn,Ro,Xv,Yd,Ye,Rq,Rs,Rt,Ru,Rw,Rx,Ry]
  exact hend _ i s' O' T' (by simpa[OJ]using g0) g1 g2 g3 g4 (by omega) g6
 ·simp only[ZE,JZ,Ja,Jb,LO,V9,Qa,Qb,Qc,Qd,Qe,Qf,Qg,Qh,Qi,Qj,Qk,Ql,Qm,Qn,true_and,and_true,Qo,Qp,Qq,Qr,Qs,Qt,Qu,Qv,Qw,Qx,Qy,Qz,Ra,Rb,Rc,Rd,Re,Rf,Rg,Rh,Ri,Rj,Rk,Rl,Rm,Ya,Yb,Yc,Rn,Ro,Xv,Yd,Ye,Rq,Rs,Rt,Ru,Rw,Rx,Ry,hs,C3,BW,B0,Rw,Int.reduceEq,Rz,Wa,Wb,Wc,Wd,We,Wf,Wg,Wh,Wi,Wj,Wl,Wm,Wn,Wp,Wq,Wr,Ws,Wt,Wu,Wv,Ww,Wx,Wy,Wz,Xa,Xb,Xc,Xd,Xe,Xf,Xg,Xh,Xi,Xj,Xk,Xl,Xm,Xn,Xo,Xp,Xq,Xr,bO,bT,bS,bP,bU,bV,List.getElem?_cons_zero,List.getElem?_cons_succ,bR,bX,bW,bY,bN,Nat.reduceAdd,Nat.reduceLT,Nat.reduceLeDiff,decide_true,decide_false,Bool.true_and,Bool.and_true,bZ,bM,Option.some.injEq,Xs,Xt,Xu,Xv]
  refine hbnd _ _ fun i s' O' T' g0 g1 g2 g3 g4 g5 g6=>?_
  simp only[Qa,Qb,Qc,Qd,Qe,Qf,Qg,Qh,Qi,Qj,Qk,Ql,Qm,Qn,true_and,and_true,Qo,Qp,Qq,Qr,Qs,Qt,Qu,Qv,Qw,Qx,Qy,Qz,Ra,Rb,Rc,Rd,Re,Rf,Rg,Rh,Ri,Rj,Rk,Rl,Rm,Ya,Yb,Yc,Rn,Ro,Xv,Yd,Ye,Rq,Rs,Rt,Ru,Rw,Rx,Ry]
  exact hend _ i s' O' T' (by simpa[OJ]using g0) g1 g2 g3 g4 (by omega) g6
 ·simp only[ZE,JZ,Ja,Jb,LO,N7,WA,Qa,Qb,Qc,Qd,Qe,Qf,Qg,Qh,Qi,Qj,Qk,Ql,Qm,Qn,true_and,and_true,Qo,Qp,Qq,Qr,Qs,Qt,Qu,Qv,Qw,Qx,Qy,Qz,Ra,Rb,Rc,Rd,Re,Rf,Rg,Rh,Ri,Rj,Rk,Rl,Rm,Ya,Yb,Yc,Rn,Ro,Xv,Yd,Ye,Rq,Rs,Rt,Ru,Rw,Rx,Ry,hs,C3,Hl,HF,BW,B0,SY,Rw,Int.reduceEq,Rz,Wa,Wb,Wc,Wd,We,Wf,Wg,Wh,Wi,Wj,Wl,Wm,Wn,Wp,Wq,Wr,Ws,Wt,Wu,Wv,Ww,Wx,Wy,Wz,Xa,Xb,Xc,Xd,Xe,Xf,Xg,Xh,Xi,Xj,Xk,Xl,Xm,Xn,Xo,Xp,Xq,Xr,bO,bT,bS,bP,bU,bV,List.getElem?_cons_zero,List.getElem?_cons_succ,bR,bX,bW,bY,bN,Nat.reduceAdd,Nat.reduceLT,Nat.reduceLeDiff,decide_true,decide_false,Bool.true_and,Bool.and_true,bZ,bM,Option.some.injEq,Xs,Xt,Xu,Xv]
  refine hcst _ _ fun i s' O' T' g0 g1 g2 g3 g4 g5 g6=>?_
  simp only[Qa,Qb,Qc,Qd,Qe,Qf,Qg,Qh,Qi,Qj,Qk,Ql,Qm,Qn,true_and,and_true,Qo,Qp,Qq,Qr,Qs,Qt,Qu,Qv,Qw,Qx,Qy,Qz,Ra,Rb,Rc,Rd,Re,Rf,Rg,Rh,Ri,Rj,Rk,Rl,Rm,Ya,Yb,Yc,Rn,Ro,Xv,Yd,Ye,Rq,Rs,Rt,Ru,Rw,Rx,Ry]
  exact hend _ i s' O' T' (by simpa[OJ]using g0) g1 g2 g3 g4 (by omega) g6
 ·simp only[ZE,JZ,Ja,Jb,LO,N7,RQ,WB,Qa,Qb,Qc,Qd,Qe,Qf,Qg,Qh,Qi,Qj,Qk,Ql,Qm,Qn,true_and,and_true,Qo,Qp,Qq,Qr,Qs,Qt,Qu,Qv,Qw,Qx,Qy,Qz,Ra,Rb,Rc,Rd,Re,Rf,Rg,Rh,Ri,Rj,Rk,Rl,Rm,Ya,Yb,Yc,Rn,Ro,Xv,Yd,Ye,Rq,Rs,Rt,Ru,Rw,Rx,Ry,hs,C3,BW,Kc,OU,OV,Rw,Int.reduceEq,Rz,Wa,Wb,Wc,Wd,We,Wf,Wg,Wh,Wi,Wj,Wl,Wm,Wn,Wp,Wq,Wr,Ws,Wt,Wu,Wv,Ww,Wx,Wy,Wz,Xa,Xb,Xc,Xd,Xe,Xf,Xg,Xh,Xi,Xj,Xk,Xl,Xm,Xn,Xo,Xp,Xq,Xr,bO,bT,bS,bP,bU,bV,List.getElem?_cons_zero,List.getElem?_cons_succ,bR,bX,bW,bY,bN,Nat.reduceAdd,Nat.reduceLT,Nat.reduceLeDiff,decide_true,decide_false,Bool.true_and,Bool.and_true,bZ,bM,Option.some.injEq,Xs,Xt,Xu,Xv]
  refine hsel _ _ fun i s' O' T' g0 g1 g2 g3 g4 g5 g6=>?_
  simp only[Qa,Qb,Qc,Qd,Qe,Qf,Qg,Qh,Qi,Qj,Qk,Ql,Qm,Qn,true_and,and_true,Qo,Qp,Qq,Qr,Qs,Qt,Qu,Qv,Qw,Qx,Qy,Qz,Ra,Rb,Rc,Rd,Re,Rf,Rg,Rh,Ri,Rj,Rk,Rl,Rm,Ya,Yb,Yc,Rn,Ro,Xv,Yd,Ye,Rq,Rs,Rt,Ru,Rw,Rx,Ry]
  exact hend _ i s' O' T' (by simpa[OJ]using g0) g1 g2 g3 g4 g5 g6
 ·simp only[ZE,JZ,Ja,Jb,LO,N7,RQ,RO,Qa,Qb,Qc,Qd,Qe,Qf,Qg,Qh,Qi,Qj,Qk,Ql,Qm,Qn,true_and,and_true,Qo,Qp,Qq,Qr,Qs,Qt,Qu,Qv,Qw,Qx,Qy,Qz,Ra,Rb,Rc,Rd,Re,Rf,Rg,Rh,Ri,Rj,Rk,Rl,Rm,Ya,Yb,Yc,Rn,Ro,Xv,Yd,Ye,Rq,Rs,Rt,Ru,Rw,Rx,Ry,hs,C3,BW,Kc,OU,OV,XX,Rw,Int.reduceEq,Rz,Wa,Wb,Wc,Wd,We,Wf,Wg,Wh,Wi,Wj,Wl,Wm,Wn,Wp,Wq,Wr,Ws,Wt,Wu,Wv,Ww,Wx,Wy,Wz,Xa,Xb,Xc,Xd,Xe,Xf,Xg,Xh,Xi,Xj,Xk,Xl,Xm,Xn,Xo,Xp,Xq,Xr,bO,bT,bS,bP,bU,bV,List.getElem?_cons_zero,List.getElem?_cons_succ,bR,bX,bW,bY,bN,Nat.reduceAdd,Nat.reduceLT,Nat.reduceLeDiff,decide_true,decide_false,Bool.true_and,Bool.and_true,bZ,bM,Option.some.injEq,Xs,Xt,Xu,Xv]
  refine hupd _ _ fun i s' O' T' g0 g1 g2 g3 g4 g5 g6=>?_
  simp only[Qa,Qb,Qc,Qd,Qe,Qf,Qg,Qh,Qi,Qj,Qk,Ql,Qm,Qn,true_and,and_true,Qo,Qp,Qq,Qr,Qs,Qt,Qu,Qv,Qw,Qx,Qy,Qz,Ra,Rb,Rc,Rd,Re,Rf,Rg,Rh,Ri,Rj,Rk,Rl,Rm,Ya,Yb,Yc,Rn,Ro,Xv,Yd,Ye,Rq,Rs,Rt,Ru,Rw,Rx,Ry]
  exact hend _ i s' O' T' (by simpa[OJ]using g0) g1 g2 g3 g4 g5 g6
theorem F2:Da Tryz.prog 5=some false:=by kernel_rfl
theorem Cf(n m:Int):AO Tryz.prog .eql 5 (.int .u8 n) (.int .u8 m)=some (.bool (decide (n=m))):=by
 show some (AV.bool (OP n m))=_
 rw[DL]
 by_cases h:n=m<;>simp[h]
theorem Bk(k:IntKind)(n:Int):LC (.int k n) (.int k n)=true:=by
 cases k<;>simp[LC,Bh,DL]
theorem NT{n m:Nat}(hm:0<m):AO Tryz.prog .rem 5 (Cb n) (Cb m)=some (Cb (n % m)):=by
 have:=Hr (P:=Tryz.prog) (t:=5) (k:=.u8) (a:=(n:Int)) (b:=(m:Int)) (by omega) (by omega)
 rw[this];rfl
theorem T5(a b c:Int):AR Tryz.prog 44 (zipIdx [0,1,2] [iv a,iv b,iv c])=some (.agg [iv a,iv b,iv c]):=by kernel_rfl
theorem ZP(c0 c1 c2 c3 c4 c5 c6:AV)(i a b c:Int):AR Tryz.prog 46 (zipIdx [2,1,3] [.agg [c0,c1,c2,c3,c4,c5,c6],iv i,.agg [iv a,iv b,iv c]])=some (.agg [iv 0,iv i,c0,c1,c2,c3,c4,c5,c6,iv a,iv b,iv c]):=by kernel_rfl
def CZ(w:Nat):Int:=if w % 8<2 then 0 else if w % 8=2 then 1 else if w % 8<5 then 2 else if w % 8<7 then 3 else 4
def LD(w A:Nat):Int:=if w % 8=2 then ((A % 5:Nat):Int)else ((A % 7:Nat):Int) - 2
def Tt(Tp:List RP)(w A B C:Nat):DZ:=⟨CZ w,LD w A,A % 11,Bb Tp A,Bb Tp B,Bb Tp C⟩
theorem NP(Tp:List RP)(w A B C:Nat):(Tt Tp w A B C).ok∧(Tt Tp w A B C).con<11:=by
 have h5:=cB A (show 0<5 by omega)
 have h7:=cB A (show 0<7 by omega)
 have h11:=cB A (show 0<11 by omega)
 refine⟨⟨?_,cF h11 (by omega),?_⟩,h11⟩
 ·show CZ w=0∨CZ w=1∨CZ w=2∨CZ w=3∨CZ w=4
  unfold CZ
  repeat' split
  all_goals omega
 ·show -1000≤LD w A∧LD w A≤900
  unfold LD
  split<;>omega
def S2:List AV:=[iv 0,iv 0,iv 0,.bool false,.str [],.str [],.slice none 0 (some 0),.slice none 0 (some 0),iv 0,iv 0,iv 0,iv 0]
set_option maxRecDepth 20000 in
theorem Y4{E:Bl}(hE:Ai E){s:AD}{q:Nat}{T:List RT}{O:List Nat}(h:Nt s q T O)(hT:T.length≤900)(hkl:∀t∈T,t.kids.length≤3){w A B C:Nat}(hw:w<256)(hA:A<256)(hB:B<256)(hC:C<256){K:AV→AD→Prop}
  (hK:∀s',BD s.next s s'→K (.agg (Tt (T.map RT.pl) w A B C).cells) s'):WF E 41 [.agg [Cb w,Cb A,Cb B,Cb C],.ptr (some (q,0))] K s:=by
 obtain⟨tag,c1,c2,c3,c5,c6,hc,_,d1,d2,d3,d5,d6⟩:=BM (A % 11) (by omega)
 have hm7:=cB A (show 0<7 by omega)
 have hm5:=cB A (show 0<5 by omega)
 have hr7:AO Tryz.prog .rem 5 (Cb A) (.int .u8 7)=some (Cb (A % 7)):=NT (n:=A) (m:=7) (by omega)
 have hr5:AO Tryz.prog .rem 5 (Cb A) (.int .u8 5)=some (Cb (A % 5)):=NT (n:=A) (m:=5) (by omega)
 have hc7:=fun s=>GB (s:=s) (n:=A % 7) (by omega)
 have hc5:=fun s=>GB (s:=s) (n:=A % 5) (by omega)
 have hi2:i64 (((A % 7:Nat):Int) - 2):=by unfold i64;omega
 obtain⟨pa,hpa⟩:∃d,d=Bb (T.map RT.pl) A:=⟨_,rfl⟩
 obtain⟨pb,hpb⟩:∃d,d=Bb (T.map RT.pl) B:=⟨_,rfl⟩
 obtain⟨pc,hpc⟩:∃d,d=Bb (T.map RT.pl) C:=⟨_,rfl⟩
 have hend:∀ (kd:Int) (id:Int) s',kd=CZ w→id=LD w A→BD s.next s s'→K (.agg [iv kd,iv id,iv tag,c1,c2,c3,.slice none 0 (some 0),c5,c6,iv pa,iv pb,iv pc]) s':=by
  intro kd id s' h1 h2 h4
  have:=hK s' h4
  have hcells:DZ.cells (Tt (T.map RT.pl) w A B C)=[iv kd,iv id,iv tag,c1,c2,c3,.slice none 0 (some 0),c5,c6,iv pa,iv pb,iv pc]:=by
   show [iv (CZ w),iv (LD w A)]++(Tm.con (A % 11)).cells++[iv (Bb (T.map RT.pl) A),iv (Bb (T.map RT.pl) B),iv (Bb (T.map RT.pl) C)]=_
   rw[hc,h1,h2,hpa,hpb,hpc];rfl
  rwa[hcells]at this
 have hdata:=fun(s:AD) (K:AV→AD→Prop) hK=>UH (K:=K) hE (s:=s) (n:=A) hA hK
 rw[hc]at hdata
 have hpart:=fun(s':AD) (ho:BD s.next s s') (n:Nat) hn (K:AV→AD→Prop) hK=>TT (K:=K) hE (h.old ho) hT hkl (n:=n) hn hK
 refine hE.go YQ (by decide) rfl ?_
 generalize hs:s.next=b at hend hpart
 have hs0:s=ext s []:=(Af s).symm
 rw[hs0]
 simp only[bA,V4,V5,Qa,Qb,Qc,Qd,Qe,Qf,Qg,Qh,Qi,Qj,Qk,Ql,Qm,Qn,true_and,and_true,Qo,Qp,Qq,Qr,Qs,Qt,Qu,Qv,Qw,Qx,Qy,Qz,Ra,Rb,Rc,Rd,Re,Rf,Rg,Rh,Ri,Rj,Rk,Rl,Rm,Ya,Yb,Yc,Rn,Ro,Xv,Yd,Ye,Rq,Rs,Rt,Ru,Rw,Rx,Ry,hs,aE,F2,DN,Ym,Yn,hr7,hc7,F4 _ _ _ _ hi2,Rz,Wa,Wb,Wc,Wd,We,Wf,Wg,Wh,Wi,Wj,Wl,Wm,Wn,Wp,Wq,Wr,Ws,Wt,Wu,Wv,Ww,Wx,Wy,Wz,Xa,Xb,Xc,Xd,Xe,Xf,Xg,Xh,Xi,Xj,Xk,Xl,Xm,Xn,Xo,Xp,Xq,Xr,bO,bT,bS,bP,bU,bV,List.getElem?_cons_zero,List.getElem?_cons_succ,bR,bX,bW,bY,bN,Nat.reduceAdd,Nat.reduceLT,Nat.reduceLeDiff,decide_true,decide_false,Bool.true_and,Bool.and_true,bZ,bM,Option.some.injEq,Xs,Xt,Xu,Xv]
 have hstep:∀s1 s2,(BD b s s1∧s1.heap.get (nid b 0)=some (R 82 0 false [Cb w,Cb A,Cb B,Cb C])∧s1.heap.get (nid b 1)=some (R 46 0 false S2)∧s1.heap.get (nid b 2)=some (R 46 0 false S2)∧b+3≤s1.next)→BD s1.next s1 s2 →
   (BD b s s2∧s2.heap.get (nid b 0)=some (R 82 0 false [Cb w,Cb A,Cb B,Cb C])∧s2.heap.get (nid b 1)=some (R 46 0 false S2)∧s2.heap.get (nid b 2)=some (R 46 0 false S2)∧b+3≤s2.next):=by
  rintro s1 s2 ⟨h0,h1,h2,h3,h4⟩ ho
  exact⟨h0.trans (ho.mono (by omega)),by rw[ho.2 _ (by rw[AG];omega)];exact h1,by rw[ho.2 _ (by rw[AG];omega)];exact h2,by rw[ho.2 _ (by rw[AG];omega)];exact h3,bo h4 ho.1⟩
 have hfirst:(fun s1:AD=>BD b s s1∧s1.heap.get (nid b 0)=some (R 82 0 false [Cb w,Cb A,Cb B,Cb C])∧s1.heap.get (nid b 1)=some (R 46 0 false S2)∧s1.heap.get (nid b 2)=some (R 46 0 false S2)∧b+3≤s1.next) (ext s [R 82 0 false [Cb w,Cb A,Cb B,Cb C],R 46 0 false S2,R 46 0 false S2]):=
  ⟨by rw[← hs];exact AS,by rw[Wg hs (by simp)];rfl,by rw[Wg hs (by simp)];rfl,by rw[Wg hs (by simp)];rfl,by rw[Wm,hs,AG];exact bM _⟩
 refine hdata _ _ fun s1 e1=>?_
 have f1:=hstep _ s1 hfirst e1
 have g1:=f1.2.1
 refine⟨⟨BF ?_ (Bk _ _),BF ?_ (Bk _ _),BF ?_ (Bk _ _),BF ?_ (Bk _ _),BF ?_ (Bk _ _),trivial⟩,?_⟩
 ·simp only[Qa,Qb,Qc,Qd,Qe,Qf,Qg,Qh,Qi,Qj,Qk,Ql,Qm,Qn,true_and,and_true,Qo,Qp,Qq,Qr,Qs,Qt,Qu,Qv,Qw,Qx,Qy,Qz,Ra,Rb,Rc,Rd,Re,Rf,Rg,Rh,Ri,Rj,Rk,Rl,Rm,Ya,Yb,Yc,Rn,Ro,Xv,Yd,Ye,Rq,Rs,Rt,Ru,Rw,Rx,Ry,F2,g1,Rz,Wa,Wb,Wc,Wd,We,Wf,Wg,Wh,Wi,Wj,Wl,Wm,Wn,Wp,Wq,Wr,Ws,Wt,Wu,Wv,Ww,Wx,Wy,Wz,Xa,Xb,Xc,Xd,Xe,Xf,Xg,Xh,Xi,Xj,Xk,Xl,Xm,Xn,Xo,Xp,Xq,Xr,bO,bT,bS,bP,bU,bV,List.getElem?_cons_zero,List.getElem?_cons_succ,bR,bX,bW,bY,bN,Nat.reduceAdd,Nat.reduceLT,Nat.reduceLeDiff,decide_true,decide_false,Bool.true_and,Bool.and_true,bZ,bM,Option.some.injEq,Xs,Xt,Xu,Xv]
 ·simp only[Qa,Qb,Qc,Qd,Qe,Qf,Qg,Qh,Qi,Qj,Qk,Ql,Qm,Qn,true_and,and_true,Qo,Qp,Qq,Qr,Qs,Qt,Qu,Qv,Qw,Qx,Qy,Qz,Ra,Rb,Rc,Rd,Re,Rf,Rg,Rh,Ri,Rj,Rk,Rl,Rm,Ya,Yb,Yc,Rn,Ro,Xv,Yd,Ye,Rq,Rs,Rt,Ru,Rw,Rx,Ry,F2,g1,Rz,Wa,Wb,Wc,Wd,We,Wf,Wg,Wh,Wi,Wj,Wl,Wm,Wn,Wp,Wq,Wr,Ws,Wt,Wu,Wv,Ww,Wx,Wy,Wz,Xa,Xb,Xc,Xd,Xe,Xf,Xg,Xh,Xi,Xj,Xk,Xl,Xm,Xn,Xo,Xp,Xq,Xr,bO,bT,bS,bP,bU,bV,List.getElem?_cons_zero,List.getElem?_cons_succ,bR,bX,bW,bY,bN,Nat.reduceAdd,Nat.reduceLT,Nat.reduceLeDiff,decide_true,decide_false,Bool.true_and,Bool.and_true,bZ,bM,Option.some.injEq,Xs,Xt,Xu,Xv]
 ·simp only[Qa,Qb,Qc,Qd,Qe,Qf,Qg,Qh,Qi,Qj,Qk,Ql,Qm,Qn,true_and,and_true,Qo,Qp,Qq,Qr,Qs,Qt,Qu,Qv,Qw,Qx,Qy,Qz,Ra,Rb,Rc,Rd,Re,Rf,Rg,Rh,Ri,Rj,Rk,Rl,Rm,Ya,Yb,Yc,Rn,Ro,Xv,Yd,Ye,Rq,Rs,Rt,Ru,Rw,Rx,Ry,F2,g1,Rz,Wa,Wb,Wc,Wd,We,Wf,Wg,Wh,Wi,Wj,Wl,Wm,Wn,Wp,Wq,Wr,Ws,Wt,Wu,Wv,Ww,Wx,Wy,Wz,Xa,Xb,Xc,Xd,Xe,Xf,Xg,Xh,Xi,Xj,Xk,Xl,Xm,Xn,Xo,Xp,Xq,Xr,bO,bT,bS,bP,bU,bV,List.getElem?_cons_zero,List.getElem?_cons_succ,bR,bX,bW,bY,bN,Nat.reduceAdd,Nat.reduceLT,Nat.reduceLeDiff,decide_true,decide_false,Bool.true_and,Bool.and_true,bZ,bM,Option.some.injEq,Xs,Xt,Xu,Xv]
 ·exact hc7 _
 ·simp only[Qa,Qb,Qc,Qd,Qe,Qf,Qg,Qh,Qi,Qj,Qk,Ql,Qm,Qn,true_and,and_true,Qo,Qp,Qq,Qr,Qs,Qt,Qu,Qv,Qw,Qx,Qy,Qz,Ra,Rb,Rc,Rd,Re,Rf,Rg,Rh,Ri,Rj,Rk,Rl,Rm,Ya,Yb,Yc,Rn,Ro,Xv,Yd,Ye,Rq,Rs,Rt,Ru,Rw,Rx,Ry,F2,g1,Rz,Wa,Wb,Wc,Wd,We,Wf,Wg,Wh,Wi,Wj,Wl,Wm,Wn,Wp,Wq,Wr,Ws,Wt,Wu,Wv,Ww,Wx,Wy,Wz,Xa,Xb,Xc,Xd,Xe,Xf,Xg,Xh,Xi,Xj,Xk,Xl,Xm,Xn,Xo,Xp,Xq,Xr,bO,bT,bS,bP,bU,bV,List.getElem?_cons_zero,List.getElem?_cons_succ,bR,bX,bW,bY,bN,Nat.reduceAdd,Nat.reduceLT,Nat.reduceLeDiff,decide_true,decide_false,Bool.true_and,Bool.and_true,bZ,bM,Option.some.injEq,Xs,Xt,Xu,Xv]
 refine hpart s1 f1.1 A hA _ fun s2 e2=>?_
 rw[← hpa]
 have f2:=hstep _ s2 f1 e2
 have g2:=f2.2.1
 refine⟨⟨BF ?_ (Bk _ _),BF ?_ (Bk _ _),BF ?_ (Bk _ _),BF ?_ (Bk _ _),trivial⟩,?_⟩
 ·simp only[Qa,Qb,Qc,Qd,Qe,Qf,Qg,Qh,Qi,Qj,Qk,Ql,Qm,Qn,true_and,and_true,Qo,Qp,Qq,Qr,Qs,Qt,Qu,Qv,Qw,Qx,Qy,Qz,Ra,Rb,Rc,Rd,Re,Rf,Rg,Rh,Ri,Rj,Rk,Rl,Rm,Ya,Yb,Yc,Rn,Ro,Xv,Yd,Ye,Rq,Rs,Rt,Ru,Rw,Rx,Ry,F2,g2,Rz,Wa,Wb,Wc,Wd,We,Wf,Wg,Wh,Wi,Wj,Wl,Wm,Wn,Wp,Wq,Wr,Ws,Wt,Wu,Wv,Ww,Wx,Wy,Wz,Xa,Xb,Xc,Xd,Xe,Xf,Xg,Xh,Xi,Xj,Xk,Xl,Xm,Xn,Xo,Xp,Xq,Xr,bO,bT,bS,bP,bU,bV,List.getElem?_cons_zero,List.getElem?_cons_succ,bR,bX,bW,bY,bN,Nat.reduceAdd,Nat.reduceLT,Nat.reduceLeDiff,decide_true,decide_false,Bool.true_and,Bool.and_true,bZ,bM,Option.some.injEq,Xs,Xt,Xu,Xv]
 ·simp only[Qa,Qb,Qc,Qd,Qe,Qf,Qg,Qh,Qi,Qj,Qk,Ql,Qm,Qn,true_and,and_true,Qo,Qp,Qq,Qr,Qs,Qt,Qu,Qv,Qw,Qx,Qy,Qz,Ra,Rb,Rc,Rd,Re,Rf,Rg,Rh,Ri,Rj,Rk,Rl,Rm,Ya,Yb,Yc,Rn,Ro,Xv,Yd,Ye,Rq,Rs,Rt,Ru,Rw,Rx,Ry,F2,g2,Rz,Wa,Wb,Wc,Wd,We,Wf,Wg,Wh,Wi,Wj,Wl,Wm,Wn,Wp,Wq,Wr,Ws,Wt,Wu,Wv,Ww,Wx,Wy,Wz,Xa,Xb,Xc,Xd,Xe,Xf,Xg,Xh,Xi,Xj,Xk,Xl,Xm,Xn,Xo,Xp,Xq,Xr,bO,bT,bS,bP,bU,bV,List.getElem?_cons_zero,List.getElem?_cons_succ,bR,bX,bW,bY,bN,Nat.reduceAdd,Nat.reduceLT,Nat.reduceLeDiff,decide_true,decide_false,Bool.true_and,Bool.and_true,bZ,bM,Option.some.injEq,Xs,Xt,Xu,Xv]
 ·exact hc7 _
 ·simp only[Qa,Qb,Qc,Qd,Qe,Qf,Qg,Qh,Qi,Qj,Qk,Ql,Qm,Qn,true_and,and_true,Qo,Qp,Qq,Qr,Qs,Qt,Qu,Qv,Qw,Qx,Qy,Qz,Ra,Rb,Rc,Rd,Re,Rf,Rg,Rh,Ri,Rj,Rk,Rl,Rm,Ya,Yb,Yc,Rn,Ro,Xv,Yd,Ye,Rq,Rs,Rt,Ru,Rw,Rx,Ry,F2,g2,Rz,Wa,Wb,Wc,Wd,We,Wf,Wg,Wh,Wi,Wj,Wl,Wm,Wn,Wp,Wq,Wr,Ws,Wt,Wu,Wv,Ww,Wx,Wy,Wz,Xa,Xb,Xc,Xd,Xe,Xf,Xg,Xh,Xi,Xj,Xk,Xl,Xm,Xn,Xo,Xp,Xq,Xr,bO,bT,bS,bP,bU,bV,List.getElem?_cons_zero,List.getElem?_cons_succ,bR,bX,bW,bY,bN,Nat.reduceAdd,Nat.reduceLT,Nat.reduceLeDiff,decide_true,decide_false,Bool.true_and,Bool.and_true,bZ,bM,Option.some.injEq,Xs,Xt,Xu,Xv]
 refine hpart s2 f2.1 B hB _ fun s3 e3=>?_
 rw[← hpb]
 have f3:=hstep _ s3 f2 e3
 have g3:=f3.2.1
 refine⟨⟨BF ?_ (Bk _ _),BF ?_ (Bk _ _),BF ?_ (Bk _ _),trivial⟩,?_⟩
 ·simp only[Qa,Qb,Qc,Qd,Qe,Qf,Qg,Qh,Qi,Qj,Qk,Ql,Qm,Qn,true_and,and_true,Qo,Qp,Qq,Qr,Qs,Qt,Qu,Qv,Qw,Qx,Qy,Qz,Ra,Rb,Rc,Rd,Re,Rf,Rg,Rh,Ri,Rj,Rk,Rl,Rm,Ya,Yb,Yc,Rn,Ro,Xv,Yd,Ye,Rq,Rs,Rt,Ru,Rw,Rx,Ry,F2,g3,Rz,Wa,Wb,Wc,Wd,We,Wf,Wg,Wh,Wi,Wj,Wl,Wm,Wn,Wp,Wq,Wr,Ws,Wt,Wu,Wv,Ww,Wx,Wy,Wz,Xa,Xb,Xc,Xd,Xe,Xf,Xg,Xh,Xi,Xj,Xk,Xl,Xm,Xn,Xo,Xp,Xq,Xr,bO,bT,bS,bP,bU,bV,List.getElem?_cons_zero,List.getElem?_cons_succ,bR,bX,bW,bY,bN,Nat.reduceAdd,Nat.reduceLT,Nat.reduceLeDiff,decide_true,decide_false,Bool.true_and,Bool.and_true,bZ,bM,Option.some.injEq,Xs,Xt,Xu,Xv]
 ·exact hc7 _
 ·simp only[Qa,Qb,Qc,Qd,Qe,Qf,Qg,Qh,Qi,Qj,Qk,Ql,Qm,Qn,true_and,and_true,Qo,Qp,Qq,Qr,Qs,Qt,Qu,Qv,Qw,Qx,Qy,Qz,Ra,Rb,Rc,Rd,Re,Rf,Rg,Rh,Ri,Rj,Rk,Rl,Rm,Ya,Yb,Yc,Rn,Ro,Xv,Yd,Ye,Rq,Rs,Rt,Ru,Rw,Rx,Ry,F2,g3,Rz,Wa,Wb,Wc,Wd,We,Wf,Wg,Wh,Wi,Wj,Wl,Wm,Wn,Wp,Wq,Wr,Ws,Wt,Wu,Wv,Ww,Wx,Wy,Wz,Xa,Xb,Xc,Xd,Xe,Xf,Xg,Xh,Xi,Xj,Xk,Xl,Xm,Xn,Xo,Xp,Xq,Xr,bO,bT,bS,bP,bU,bV,List.getElem?_cons_zero,List.getElem?_cons_succ,bR,bX,bW,bY,bN,Nat.reduceAdd,Nat.reduceLT,Nat.reduceLeDiff,decide_true,decide_false,Bool.true_and,Bool.and_true,bZ,bM,Option.some.injEq,Xs,Xt,Xu,Xv]
 refine hpart s3 f3.1 C hC _ fun s4 e4=>?_
 rw[← hpc]
 obtain⟨o4,g40,g41,g42,n4⟩:=hstep _ s4 f3 e4
 refine⟨⟨BF ?_ (Bk _ _),BF ?_ (Bk _ _),trivial⟩,?_⟩
 ·exact hc7 _
 ·simp only[Qa,Qb,Qc,Qd,Qe,Qf,Qg,Qh,Qi,Qj,Qk,Ql,Qm,Qn,true_and,and_true,Qo,Qp,Qq,Qr,Qs,Qt,Qu,Qv,Qw,Qx,Qy,Qz,Ra,Rb,Rc,Rd,Re,Rf,Rg,Rh,Ri,Rj,Rk,Rl,Rm,Ya,Yb,Yc,Rn,Ro,Xv,Yd,Ye,Rq,Rs,Rt,Ru,Rw,Rx,Ry,F2,g40,Rz,Wa,Wb,Wc,Wd,We,Wf,Wg,Wh,Wi,Wj,Wl,Wm,Wn,Wp,Wq,Wr,Ws,Wt,Wu,Wv,Ww,Wx,Wy,Wz,Xa,Xb,Xc,Xd,Xe,Xf,Xg,Xh,Xi,Xj,Xk,Xl,Xm,Xn,Xo,Xp,Xq,Xr,bO,bT,bS,bP,bU,bV,List.getElem?_cons_zero,List.getElem?_cons_succ,bR,bX,bW,bY,bN,Nat.reduceAdd,Nat.reduceLT,Nat.reduceLeDiff,decide_true,decide_false,Bool.true_and,Bool.and_true,bZ,bM,Option.some.injEq,Xs,Xt,Xu,Xv]
 have l0:nid b 0<s4.next:=by rw[AG];omega
 have l1:nid b 1<s4.next:=by rw[AG];omega
 have l2:nid b 2<s4.next:=by rw[AG];omega
 have hs4:s4=ext s4 []:=(Af s4).symm
 have n01:nid b 0≠nid b 1:=by rw[AG,AG];omega
 have n02:nid b 0≠nid b 2:=by rw[AG,AG];omega
 have n12:nid b 1≠nid b 2:=by rw[AG,AG];omega
 have n21:nid b 2≠nid b 1:=by rw[AG,AG];omega
 have hw8:w % 8=0∨w % 8=1∨w % 8=2∨w % 8=3∨w % 8=4∨w % 8=5∨w % 8=6∨w % 8=7:=by omega
 have hr8:AO Tryz.prog .rem 5 (Cb w) (.int .u8 8)=some (Cb (w % 8)):=NT (n:=w) (m:=8) (by omega)
 have hold5:∀X,BD b s (setObj s4 (nid b 2) X)∧(setObj s4 (nid b 2) X).heap.get (nid b 0)=some (R 82 0 false [Cb w,Cb A,Cb B,Cb C])∧(setObj s4 (nid b 2) X).heap.get (nid b 1)=some (R 46 0 false S2)∧(setObj s4 (nid b 2) X).heap.get (nid b 2)=some X∧nid b 1<(setObj s4 (nid b 2) X).next∧nid b 2<(setObj s4 (nid b 2) X).next:=by
  intro X
  refine⟨⟨o4.1,fun j hj=>?_⟩,by rw[Wr _ n02];exact g40,by rw[Wr _ n12];exact g41,Wq _ _ _,l1,l2⟩
  rw[Wr _ (by rw[AG];omega)]
  exact o4.2 j hj
 simp only[T5,ZP,Qa,Qb,Qc,Qd,Qe,Qf,Qg,Qh,Qi,Qj,Qk,Ql,Qm,Qn,true_and,and_true,Qo,Qp,Qq,Qr,Qs,Qt,Qu,Qv,Qw,Qx,Qy,Qz,Ra,Rb,Rc,Rd,Re,Rf,Rg,Rh,Ri,Rj,Rk,Rl,Rm,Ya,Yb,Yc,Rn,Ro,Xv,Yd,Ye,Rq,Rs,Rt,Ru,Rw,Rx,Ry,g42,S2,l2,Ff,ER,d1,d2,d3,d5,d6,Rz,Wa,Wb,Wc,Wd,We,Wf,Wg,Wh,Wi,Wj,Wl,Wm,Wn,Wp,Wq,Wr,Ws,Wt,Wu,Wv,Ww,Wx,Wy,Wz,Xa,Xb,Xc,Xd,Xe,Xf,Xg,Xh,Xi,Xj,Xk,Xl,Xm,Xn,Xo,Xp,Xq,Xr,bO,bT,bS,bP,bU,bV,List.getElem?_cons_zero,List.getElem?_cons_succ,bR,bX,bW,bY,bN,Nat.reduceAdd,Nat.reduceLT,Nat.reduceLeDiff,decide_true,decide_false,Bool.true_and,Bool.and_true,bZ,bM,Option.some.injEq,Xs,Xt,Xu,Xv]
 have hX:=hold5 (R 46 0 false [iv 0,iv (((A % 7:Nat):Int) - 2),iv tag,c1,c2,c3,.slice none 0 (some 0),c5,c6,iv pa,iv pb,iv pc])
 generalize setObj s4 (nid b 2) (R 46 0 false [iv 0,iv (((A % 7:Nat):Int) - 2),iv tag,c1,c2,c3,.slice none 0 (some 0),c5,c6,iv pa,iv pb,iv pc])=s5 at hX ⊢
 obtain⟨o5,g50,g51,g52,l51,l52⟩:=hX
 rw[S2]at g51
 have hend':∀ (kd:Int) (id:Int) s' X Y,kd=CZ w→id=LD w A→s'=setObj (setObj s5 (nid b 2) X) (nid b 1) Y→K (.agg [iv kd,iv id,iv tag,c1,c2,c3,.slice none 0 (some 0),c5,c6,iv pa,iv pb,iv pc]) s':=by
  rintro kd id s' X Y h1 h2 rfl
  refine hend kd id _ h1 h2 ⟨o5.1,fun j hj=>?_⟩
  rw[Wr _ (by rw[AG];omega),Wr _ (by rw[AG];omega)]
  exact o5.2 j hj
 have g51s:∀X,(setObj s5 (nid b 2) X).heap.get (nid b 1)=some (R 46 0 false [iv 0,iv 0,iv 0,.bool false,.str [],.str [],.slice none 0 (some 0),.slice none 0 (some 0),iv 0,iv 0,iv 0,iv 0]):=fun X=>by rw[Wr _ n12];exact g51
 have g50s:∀X,(setObj s5 (nid b 2) X).heap.get (nid b 0)=some (R 82 0 false [Cb w,Cb A,Cb B,Cb C]):=fun X=>by rw[Wr _ n02];exact g50
 have g51t:∀X Y,(setObj (setObj s5 (nid b 2) X) (nid b 2) Y).heap.get (nid b 1)=some (R 46 0 false [iv 0,iv 0,iv 0,.bool false,.str [],.str [],.slice none 0 (some 0),.slice none 0 (some 0),iv 0,iv 0,iv 0,iv 0]):=fun X Y=>by rw[Wr _ n12,Wr _ n12];exact g51
 rcases hw8 with e | e | e | e | e | e | e | e
 ·rw[e]at hr8
  have hr8:AO Tryz.prog .rem 5 (Cb w) (.int .u8 8)=some (.int .u8 0):=hr8
  simp only[F5,Qa,Qb,Qc,Qd,Qe,Qf,Qg,Qh,Qi,Qj,Qk,Ql,Qm,Qn,true_and,and_true,Qo,Qp,Qq,Qr,Qs,Qt,Qu,Qv,Qw,Qx,Qy,Qz,Ra,Rb,Rc,Rd,Re,Rf,Rg,Rh,Ri,Rj,Rk,Rl,Rm,Ya,Yb,Yc,Rn,Ro,Xv,Yd,Ye,Rq,Rs,Rt,Ru,Rw,Rx,Ry,g50,F2,Ef,hr8,Rz,Wa,Wb,Wc,Wd,We,Wf,Wg,Wh,Wi,Wj,Wl,Wm,Wn,Wp,Wq,Wr,Ws,Wt,Wu,Wv,Ww,Wx,Wy,Wz,Xa,Xb,Xc,Xd,Xe,Xf,Xg,Xh,Xi,Xj,Xk,Xl,Xm,Xn,Xo,Xp,Xq,Xr,bO,bT,bS,bP,bU,bV,List.getElem?_cons_zero,List.getElem?_cons_succ,bR,bX,bW,bY,bN,Nat.reduceAdd,Nat.reduceLT,Nat.reduceLeDiff,decide_true,decide_false,Bool.true_and,Bool.and_true,bZ,bM,Option.some.injEq,Xs,Xt,Xu,Xv]
  simp only[F6,RN,D9,Qa,Qb,Qc,Qd,Qe,Qf,Qg,Qh,Qi,Qj,Qk,Ql,Qm,Qn,true_and,and_true,Qo,Qp,Qq,Qr,Qs,Qt,Qu,Qv,Qw,Qx,Qy,Qz,Ra,Rb,Rc,Rd,Re,Rf,Rg,Rh,Ri,Rj,Rk,Rl,Rm,Ya,Yb,Yc,Rn,Ro,Xv,Yd,Ye,Rq,Rs,Rt,Ru,Rw,Rx,Ry,g50,g50s,g51s,g51t,g52,l51,l52,n01,n02,n12,n21,F2,Ff,ER,C3,Fy,DN,BW,B0,d1,d2,d3,d5,d6,hr5,hc5,Cf,Int.reduceEq,Ag,Rz,Wa,Wb,Wc,Wd,We,Wf,Wg,Wh,Wi,Wj,Wl,Wm,Wn,Wp,Wq,Wr,Ws,Wt,Wu,Wv,Ww,Wx,Wy,Wz,Xa,Xb,Xc,Xd,Xe,Xf,Xg,Xh,Xi,Xj,Xk,Xl,Xm,Xn,Xo,Xp,Xq,Xr,bO,bT,bS,bP,bU,bV,List.getElem?_cons_zero,List.getElem?_cons_succ,bR,bX,bW,bY,bN,Nat.reduceAdd,Nat.reduceLT,Nat.reduceLeDiff,decide_true,decide_false,Bool.true_and,Bool.and_true,bZ,bM,Option.some.injEq,Xs,Xt,Xu,Xv]
  exact hend' 0 _ _ _ _ (by simp[CZ,e]) (by simp[LD,e]) rfl
 ·rw[e]at hr8
  have hr8:AO Tryz.prog .rem 5 (Cb w) (.int .u8 8)=some (.int .u8 1):=hr8
  simp only[F5,Qa,Qb,Qc,Qd,Qe,Qf,Qg,Qh,Qi,Qj,Qk,Ql,Qm,Qn,true_and,and_true,Qo,Qp,Qq,Qr,Qs,Qt,Qu,Qv,Qw,Qx,Qy,Qz,Ra,Rb,Rc,Rd,Re,Rf,Rg,Rh,Ri,Rj,Rk,Rl,Rm,Ya,Yb,Yc,Rn,Ro,Xv,Yd,Ye,Rq,Rs,Rt,Ru,Rw,Rx,Ry,g50,F2,Ef,hr8,Rz,Wa,Wb,Wc,Wd,We,Wf,Wg,Wh,Wi,Wj,Wl,Wm,Wn,Wp,Wq,Wr,Ws,Wt,Wu,Wv,Ww,Wx,Wy,Wz,Xa,Xb,Xc,Xd,Xe,Xf,Xg,Xh,Xi,Xj,Xk,Xl,Xm,Xn,Xo,Xp,Xq,Xr,bO,bT,bS,bP,bU,bV,List.getElem?_cons_zero,List.getElem?_cons_succ,bR,bX,bW,bY,bN,Nat.reduceAdd,Nat.reduceLT,Nat.reduceLeDiff,decide_true,decide_false,Bool.true_and,Bool.and_true,bZ,bM,Option.some.injEq,Xs,Xt,Xu,Xv]
  simp only[F6,HK,RN,D9,Qa,Qb,Qc,Qd,Qe,Qf,Qg,Qh,Qi,Qj,Qk,Ql,Qm,Qn,true_and,and_true,Qo,Qp,Qq,Qr,Qs,Qt,Qu,Qv,Qw,Qx,Qy,Qz,Ra,Rb,Rc,Rd,Re,Rf,Rg,Rh,Ri,Rj,Rk,Rl,Rm,Ya,Yb,Yc,Rn,Ro,Xv,Yd,Ye,Rq,Rs,Rt,Ru,Rw,Rx,Ry,g50,g50s,g51s,g51t,g52,l51,l52,n01,n02,n12,n21,F2,Ff,ER,C3,Fy,DN,BW,B0,d1,d2,d3,d5,d6,hr5,hc5,Cf,Int.reduceEq,Ag,Rz,Wa,Wb,Wc,Wd,We,Wf,Wg,Wh,Wi,Wj,Wl,Wm,Wn,Wp,Wq,Wr,Ws,Wt,Wu,Wv,Ww,Wx,Wy,Wz,Xa,Xb,Xc,Xd,Xe,Xf,Xg,Xh,Xi,Xj,Xk,Xl,Xm,Xn,Xo,Xp,Xq,Xr,bO,bT,bS,bP,bU,bV,List.getElem?_cons_zero,List.getElem?_cons_succ,bR,bX,bW,bY,bN,Nat.reduceAdd,Nat.reduceLT,Nat.reduceLeDiff,decide_true,decide_false,Bool.true_and,Bool.and_true,bZ,bM,Option.some.injEq,Xs,Xt,Xu,Xv]
  exact hend' 0 _ _ _ _ (by simp[CZ,e]) (by simp[LD,e]) rfl
 ·rw[e]at hr8
  have hr8:AO Tryz.prog .rem 5 (Cb w) (.int .u8 8)=some (.int .u8 2):=hr8
  simp only[F5,Qa,Qb,Qc,Qd,Qe,Qf,Qg,Qh,Qi,Qj,Qk,Ql,Qm,Qn,true_and,and_true,Qo,Qp,Qq,Qr,Qs,Qt,Qu,Qv,Qw,Qx,Qy,Qz,Ra,Rb,Rc,Rd,Re,Rf,Rg,Rh,Ri,Rj,Rk,Rl,Rm,Ya,Yb,Yc,Rn,Ro,Xv,Yd,Ye,Rq,Rs,Rt,Ru,Rw,Rx,Ry,g50,F2,Ef,hr8,Rz,Wa,Wb,Wc,Wd,We,Wf,Wg,Wh,Wi,Wj,Wl,Wm,Wn,Wp,Wq,Wr,Ws,Wt,Wu,Wv,Ww,Wx,Wy,Wz,Xa,Xb,Xc,Xd,Xe,Xf,Xg,Xh,Xi,Xj,Xk,Xl,Xm,Xn,Xo,Xp,Xq,Xr,bO,bT,bS,bP,bU,bV,List.getElem?_cons_zero,List.getElem?_cons_succ,bR,bX,bW,bY,bN,Nat.reduceAdd,Nat.reduceLT,Nat.reduceLeDiff,decide_true,decide_false,Bool.true_and,Bool.and_true,bZ,bM,Option.some.injEq,Xs,Xt,Xu,Xv]
  simp only[F6,HK,IC,V6,V7,D9,Qa,Qb,Qc,Qd,Qe,Qf,Qg,Qh,Qi,Qj,Qk,Ql,Qm,Qn,true_and,and_true,Qo,Qp,Qq,Qr,Qs,Qt,Qu,Qv,Qw,Qx,Qy,Qz,Ra,Rb,Rc,Rd,Re,Rf,Rg,Rh,Ri,Rj,Rk,Rl,Rm,Ya,Yb,Yc,Rn,Ro,Xv,Yd,Ye,Rq,Rs,Rt,Ru,Rw,Rx,Ry,g50,g50s,g51s,g51t,g52,l51,l52,n01,n02,n12,n21,F2,Ff,ER,C3,Fy,DN,BW,B0,d1,d2,d3,d5,d6,hr5,hc5,Cf,Int.reduceEq,Ag,Rz,Wa,Wb,Wc,Wd,We,Wf,Wg,Wh,Wi,Wj,Wl,Wm,Wn,Wp,Wq,Wr,Ws,Wt,Wu,Wv,Ww,Wx,Wy,Wz,Xa,Xb,Xc,Xd,Xe,Xf,Xg,Xh,Xi,Xj,Xk,Xl,Xm,Xn,Xo,Xp,Xq,Xr,bO,bT,bS,bP,bU,bV,List.getElem?_cons_zero,List.getElem?_cons_succ,bR,bX,bW,bY,bN,Nat.reduceAdd,Nat.reduceLT,Nat.reduceLeDiff,decide_true,decide_false,Bool.true_and,Bool.and_true,bZ,bM,Option.some.injEq,Xs,Xt,Xu,Xv]
  refine hend 1 _ (setObj (setObj (setObj s5 _ _) _ _) _ _) (by simp[CZ,e]) (by simp[LD,e]) ⟨o5.1,fun j hj=>?_⟩
  ·rw[Wr _ (by rw[AG];omega),Wr _ (by rw[AG];omega),Wr _ (by rw[AG];omega)]
   exact o5.2 j hj
 ·rw[e]at hr8
  have hr8:AO Tryz.prog .rem 5 (Cb w) (.int .u8 8)=some (.int .u8 3):=hr8
  simp only[F5,Qa,Qb,Qc,Qd,Qe,Qf,Qg,Qh,Qi,Qj,Qk,Ql,Qm,Qn,true_and,and_true,Qo,Qp,Qq,Qr,Qs,Qt,Qu,Qv,Qw,Qx,Qy,Qz,Ra,Rb,Rc,Rd,Re,Rf,Rg,Rh,Ri,Rj,Rk,Rl,Rm,Ya,Yb,Yc,Rn,Ro,Xv,Yd,Ye,Rq,Rs,Rt,Ru,Rw,Rx,Ry,g50,F2,Ef,hr8,Rz,Wa,Wb,Wc,Wd,We,Wf,Wg,Wh,Wi,Wj,Wl,Wm,Wn,Wp,Wq,Wr,Ws,Wt,Wu,Wv,Ww,Wx,Wy,Wz,Xa,Xb,Xc,Xd,Xe,Xf,Xg,Xh,Xi,Xj,Xk,Xl,Xm,Xn,Xo,Xp,Xq,Xr,bO,bT,bS,bP,bU,bV,List.getElem?_cons_zero,List.getElem?_cons_succ,bR,bX,bW,bY,bN,Nat.reduceAdd,Nat.reduceLT,Nat.reduceLeDiff,decide_true,decide_false,Bool.true_and,Bool.and_true,bZ,bM,Option.some.injEq,Xs,Xt,Xu,Xv]
  simp only[F6,HK,IC,Qa,Qb,Qc,Qd,Qe,Qf,Qg,Qh,Qi,Qj,Qk,Ql,Qm,Qn,true_and,and_true,Qo,Qp,Qq,Qr,Qs,Qt,Qu,Qv,Qw,Qx,Qy,Qz,Ra,Rb,Rc,Rd,Re,Rf,Rg,Rh,Ri,Rj,Rk,Rl,Rm,Ya,Yb,Yc,Rn,Ro,Xv,Yd,Ye,Rq,Rs,Rt,Ru,Rw,Rx,Ry,g50,g50s,g51s,g51t,g52,l51,l52,n01,n02,n12,n21,F2,Ff,ER,C3,Fy,DN,BW,B0,d1,d2,d3,d5,d6,hr5,hc5,Cf,Int.reduceEq,Ag,Rz,Wa,Wb,Wc,Wd,We,Wf,Wg,Wh,Wi,Wj,Wl,Wm,Wn,Wp,Wq,Wr,Ws,Wt,Wu,Wv,Ww,Wx,Wy,Wz,Xa,Xb,Xc,Xd,Xe,Xf,Xg,Xh,Xi,Xj,Xk,Xl,Xm,Xn,Xo,Xp,Xq,Xr,bO,bT,bS,bP,bU,bV,List.getElem?_cons_zero,List.getElem?_cons_succ,bR,bX,bW,bY,bN,Nat.reduceAdd,Nat.reduceLT,Nat.reduceLeDiff,decide_true,decide_false,Bool.true_and,Bool.and_true,bZ,bM,Option.some.injEq,Xs,Xt,Xu,Xv]
  simp only[JY,Qa,Qb,Qc,Qd,Qe,Qf,Qg,Qh,Qi,Qj,Qk,Ql,Qm,Qn,true_and,and_true,Qo,Qp,Qq,Qr,Qs,Qt,Qu,Qv,Qw,Qx,Qy,Qz,Ra,Rb,Rc,Rd,Re,Rf,Rg,Rh,Ri,Rj,Rk,Rl,Rm,Ya,Yb,Yc,Rn,Ro,Xv,Yd,Ye,Rq,Rs,Rt,Ru,Rw,Rx,Ry,-Qu,-Qv,Cf,Int.reduceEq,Rz,Wa,Wb,Wc,Wd,We,Wf,Wg,Wh,Wi,Wj,Wl,Wm,Wn,Wp,Wq,Wr,Ws,Wt,Wu,Wv,Ww,Wx,Wy,Wz,Xa,Xb,Xc,Xd,Xe,Xf,Xg,Xh,Xi,Xj,Xk,Xl,Xm,Xn,Xo,Xp,Xq,Xr,bO,bT,bS,bP,bU,bV,List.getElem?_cons_zero,List.getElem?_cons_succ,bR,bX,bW,bY,bN,Nat.reduceAdd,Nat.reduceLT,Nat.reduceLeDiff,decide_true,decide_false,Bool.true_and,Bool.and_true,bZ,bM,Option.some.injEq,Xs,Xt,Xu,Xv]
  rw[Qu]
  simp only[Qr,Qq]
  rw[Qu]
  simp only[Ms,D9,Qa,Qb,Qc,Qd,Qe,Qf,Qg,Qh,Qi,Qj,Qk,Ql,Qm,Qn,true_and,and_true,Qo,Qp,Qq,Qr,Qs,Qt,Qu,Qv,Qw,Qx,Qy,Qz,Ra,Rb,Rc,Rd,Re,Rf,Rg,Rh,Ri,Rj,Rk,Rl,Rm,Ya,Yb,Yc,Rn,Ro,Xv,Yd,Ye,Rq,Rs,Rt,Ru,Rw,Rx,Ry,g50,g50s,g51s,g51t,g52,l51,l52,n01,n02,n12,n21,F2,Ff,ER,C3,Fy,DN,BW,B0,d1,d2,d3,d5,d6,hr5,hc5,Cf,Int.reduceEq,Ag,Rz,Wa,Wb,Wc,Wd,We,Wf,Wg,Wh,Wi,Wj,Wl,Wm,Wn,Wp,Wq,Wr,Ws,Wt,Wu,Wv,Ww,Wx,Wy,Wz,Xa,Xb,Xc,Xd,Xe,Xf,Xg,Xh,Xi,Xj,Xk,Xl,Xm,Xn,Xo,Xp,Xq,Xr,bO,bT,bS,bP,bU,bV,List.getElem?_cons_zero,List.getElem?_cons_succ,bR,bX,bW,bY,bN,Nat.reduceAdd,Nat.reduceLT,Nat.reduceLeDiff,decide_true,decide_false,Bool.true_and,Bool.and_true,bZ,bM,Option.some.injEq,Xs,Xt,Xu,Xv]
  exact hend' 2 _ _ _ _ (by simp[CZ,e]) (by simp[LD,e]) rfl
 ·rw[e]at hr8
  have hr8:AO Tryz.prog .rem 5 (Cb w) (.int .u8 8)=some (.int .u8 4):=hr8
  simp only[F5,Qa,Qb,Qc,Qd,Qe,Qf,Qg,Qh,Qi,Qj,Qk,Ql,Qm,Qn,true_and,and_true,Qo,Qp,Qq,Qr,Qs,Qt,Qu,Qv,Qw,Qx,Qy,Qz,Ra,Rb,Rc,Rd,Re,Rf,Rg,Rh,Ri,Rj,Rk,Rl,Rm,Ya,Yb,Yc,Rn,Ro,Xv,Yd,Ye,Rq,Rs,Rt,Ru,Rw,Rx,Ry,g50,F2,Ef,hr8,Rz,Wa,Wb,Wc,Wd,We,Wf,Wg,Wh,Wi,Wj,Wl,Wm,Wn,Wp,Wq,Wr,Ws,Wt,Wu,Wv,Ww,Wx,Wy,Wz,Xa,Xb,Xc,Xd,Xe,Xf,Xg,Xh,Xi,Xj,Xk,Xl,Xm,Xn,Xo,Xp,Xq,Xr,bO,bT,bS,bP,bU,bV,List.getElem?_cons_zero,List.getElem?_cons_succ,bR,bX,bW,bY,bN,Nat.reduceAdd,Nat.reduceLT,Nat.reduceLeDiff,decide_true,decide_false,Bool.true_and,Bool.and_true,bZ,bM,Option.some.injEq,Xs,Xt,Xu,Xv]
  simp only[F6,HK,IC,Qa,Qb,Qc,Qd,Qe,Qf,Qg,Qh,Qi,Qj,Qk,Ql,Qm,Qn,true_and,and_true,Qo,Qp,Qq,Qr,Qs,Qt,Qu,Qv,Qw,Qx,Qy,Qz,Ra,Rb,Rc,Rd,Re,Rf,Rg,Rh,Ri,Rj,Rk,Rl,Rm,Ya,Yb,Yc,Rn,Ro,Xv,Yd,Ye,Rq,Rs,Rt,Ru,Rw,Rx,Ry,g50,g50s,g51s,g51t,g52,l51,l52,n01,n02,n12,n21,F2,Ff,ER,C3,Fy,DN,BW,B0,d1,d2,d3,d5,d6,hr5,hc5,Cf,Int.reduceEq,Ag,Rz,Wa,Wb,Wc,Wd,We,Wf,Wg,Wh,Wi,Wj,Wl,Wm,Wn,Wp,Wq,Wr,Ws,Wt,Wu,Wv,Ww,Wx,Wy,Wz,Xa,Xb,Xc,Xd,Xe,Xf,Xg,Xh,Xi,Xj,Xk,Xl,Xm,Xn,Xo,Xp,Xq,Xr,bO,bT,bS,bP,bU,bV,List.getElem?_cons_zero,List.getElem?_cons_succ,bR,bX,bW,bY,bN,Nat.reduceAdd,Nat.reduceLT,Nat.reduceLeDiff,decide_true,decide_false,Bool.true_and,Bool.and_true,bZ,bM,Option.some.injEq,Xs,Xt,Xu,Xv]
  simp only[JY,Qa,Qb,Qc,Qd,Qe,Qf,Qg,Qh,Qi,Qj,Qk,Ql,Qm,Qn,true_and,and_true,Qo,Qp,Qq,Qr,Qs,Qt,Qu,Qv,Qw,Qx,Qy,Qz,Ra,Rb,Rc,Rd,Re,Rf,Rg,Rh,Ri,Rj,Rk,Rl,Rm,Ya,Yb,Yc,Rn,Ro,Xv,Yd,Ye,Rq,Rs,Rt,Ru,Rw,Rx,Ry,-Qu,-Qv,Cf,Int.reduceEq,Rz,Wa,Wb,Wc,Wd,We,Wf,Wg,Wh,Wi,Wj,Wl,Wm,Wn,Wp,Wq,Wr,Ws,Wt,Wu,Wv,Ww,Wx,Wy,Wz,Xa,Xb,Xc,Xd,Xe,Xf,Xg,Xh,Xi,Xj,Xk,Xl,Xm,Xn,Xo,Xp,Xq,Xr,bO,bT,bS,bP,bU,bV,List.getElem?_cons_zero,List.getElem?_cons_succ,bR,bX,bW,bY,bN,Nat.reduceAdd,Nat.reduceLT,Nat.reduceLeDiff,decide_true,decide_false,Bool.true_and,Bool.and_true,bZ,bM,Option.some.injEq,Xs,Xt,Xu,Xv]
  rw[Qv]
  simp only[IB,Qa,Qb,Qc,Qd,Qe,Qf,Qg,Qh,Qi,Qj,Qk,Ql,Qm,Qn,true_and,and_true,Qo,Qp,Qq,Qr,Qs,Qt,Qu,Qv,Qw,Qx,Qy,Qz,Ra,Rb,Rc,Rd,Re,Rf,Rg,Rh,Ri,Rj,Rk,Rl,Rm,Ya,Yb,Yc,Rn,Ro,Xv,Yd,Ye,Rq,Rs,Rt,Ru,Rw,Rx,Ry,-Qu,-Qv,Cf,Int.reduceEq,Rz,Wa,Wb,Wc,Wd,We,Wf,Wg,Wh,Wi,Wj,Wl,Wm,Wn,Wp,Wq,Wr,Ws,Wt,Wu,Wv,Ww,Wx,Wy,Wz,Xa,Xb,Xc,Xd,Xe,Xf,Xg,Xh,Xi,Xj,Xk,Xl,Xm,Xn,Xo,Xp,Xq,Xr,bO,bT,bS,bP,bU,bV,List.getElem?_cons_zero,List.getElem?_cons_succ,bR,bX,bW,bY,bN,Nat.reduceAdd,Nat.reduceLT,Nat.reduceLeDiff,decide_true,decide_false,Bool.true_and,Bool.and_true,bZ,bM,Option.some.injEq,Xs,Xt,Xu,Xv]
  rw[Qu]
  simp only[Ms,D9,Qa,Qb,Qc,Qd,Qe,Qf,Qg,Qh,Qi,Qj,Qk,Ql,Qm,Qn,true_and,and_true,Qo,Qp,Qq,Qr,Qs,Qt,Qu,Qv,Qw,Qx,Qy,Qz,Ra,Rb,Rc,Rd,Re,Rf,Rg,Rh,Ri,Rj,Rk,Rl,Rm,Ya,Yb,Yc,Rn,Ro,Xv,Yd,Ye,Rq,Rs,Rt,Ru,Rw,Rx,Ry,g50,g50s,g51s,g51t,g52,l51,l52,n01,n02,n12,n21,F2,Ff,ER,C3,Fy,DN,BW,B0,d1,d2,d3,d5,d6,hr5,hc5,Cf,Int.reduceEq,Ag,Rz,Wa,Wb,Wc,Wd,We,Wf,Wg,Wh,Wi,Wj,Wl,Wm,Wn,Wp,Wq,Wr,Ws,Wt,Wu,Wv,Ww,Wx,Wy,Wz,Xa,Xb,Xc,Xd,Xe,Xf,Xg,Xh,Xi,Xj,Xk,Xl,Xm,Xn,Xo,Xp,Xq,Xr,bO,bT,bS,bP,bU,bV,List.getElem?_cons_zero,List.getElem?_cons_succ,bR,bX,bW,bY,bN,Nat.reduceAdd,Nat.reduceLT,Nat.reduceLeDiff,decide_true,decide_false,Bool.true_and,Bool.and_true,bZ,bM,Option.some.injEq,Xs,Xt,Xu,Xv]
  exact hend' 2 _ _ _ _ (by simp[CZ,e]) (by simp[LD,e]) rfl
 ·rw[e]at hr8
  have hr8:AO Tryz.prog .rem 5 (Cb w) (.int .u8 8)=some (.int .u8 5):=hr8
  simp only[F5,Qa,Qb,Qc,Qd,Qe,Qf,Qg,Qh,Qi,Qj,Qk,Ql,Qm,Qn,true_and,and_true,Qo,Qp,Qq,Qr,Qs,Qt,Qu,Qv,Qw,Qx,Qy,Qz,Ra,Rb,Rc,Rd,Re,Rf,Rg,Rh,Ri,Rj,Rk,Rl,Rm,Ya,Yb,Yc,Rn,Ro,Xv,Yd,Ye,Rq,Rs,Rt,Ru,Rw,Rx,Ry,g50,F2,Ef,hr8,Rz,Wa,Wb,Wc,Wd,We,Wf,Wg,Wh,Wi,Wj,Wl,Wm,Wn,Wp,Wq,Wr,Ws,Wt,Wu,Wv,Ww,Wx,Wy,Wz,Xa,Xb,Xc,Xd,Xe,Xf,Xg,Xh,Xi,Xj,Xk,Xl,Xm,Xn,Xo,Xp,Xq,Xr,bO,bT,bS,bP,bU,bV,List.getElem?_cons_zero,List.getElem?_cons_succ,bR,bX,bW,bY,bN,Nat.reduceAdd,Nat.reduceLT,Nat.reduceLeDiff,decide_true,decide_false,Bool.true_and,Bool.and_true,bZ,bM,Option.some.injEq,Xs,Xt,Xu,Xv]
  simp only[F6,HK,IC,JY,IB,KY,Mu,D9,Qa,Qb,Qc,Qd,Qe,Qf,Qg,Qh,Qi,Qj,Qk,Ql,Qm,Qn,true_and,and_true,Qo,Qp,Qq,Qr,Qs,Qt,Qu,Qv,Qw,Qx,Qy,Qz,Ra,Rb,Rc,Rd,Re,Rf,Rg,Rh,Ri,Rj,Rk,Rl,Rm,Ya,Yb,Yc,Rn,Ro,Xv,Yd,Ye,Rq,Rs,Rt,Ru,Rw,Rx,Ry,g50,g50s,g51s,g51t,g52,l51,l52,n01,n02,n12,n21,F2,Ff,ER,C3,Fy,DN,BW,B0,d1,d2,d3,d5,d6,hr5,hc5,Cf,Int.reduceEq,Ag,Rz,Wa,Wb,Wc,Wd,We,Wf,Wg,Wh,Wi,Wj,Wl,Wm,Wn,Wp,Wq,Wr,Ws,Wt,Wu,Wv,Ww,Wx,Wy,Wz,Xa,Xb,Xc,Xd,Xe,Xf,Xg,Xh,Xi,Xj,Xk,Xl,Xm,Xn,Xo,Xp,Xq,Xr,bO,bT,bS,bP,bU,bV,List.getElem?_cons_zero,List.getElem?_cons_succ,bR,bX,bW,bY,bN,Nat.reduceAdd,Nat.reduceLT,Nat.reduceLeDiff,decide_true,decide_false,Bool.true_and,Bool.and_true,bZ,bM,Option.some.injEq,Xs,Xt,Xu,Xv]
  exact hend' 3 _ _ _ _ (by simp[CZ,e]) (by simp[LD,e]) rfl
 ·rw[e]at hr8
  have hr8:AO Tryz.prog .rem 5 (Cb w) (.int .u8 8)=some (.int .u8 6):=hr8
  simp only[F5,Qa,Qb,Qc,Qd,Qe,Qf,Qg,Qh,Qi,Qj,Qk,Ql,Qm,Qn,true_and,and_true,Qo,Qp,Qq,Qr,Qs,Qt,Qu,Qv,Qw,Qx,Qy,Qz,Ra,Rb,Rc,Rd,Re,Rf,Rg,Rh,Ri,Rj,Rk,Rl,Rm,Ya,Yb,Yc,Rn,Ro,Xv,Yd,Ye,Rq,Rs,Rt,Ru,Rw,Rx,Ry,g50,F2,Ef,hr8,Rz,Wa,Wb,Wc,Wd,We,Wf,Wg,Wh,Wi,Wj,Wl,Wm,Wn,Wp,Wq,Wr,Ws,Wt,Wu,Wv,Ww,Wx,Wy,Wz,Xa,Xb,Xc,Xd,Xe,Xf,Xg,Xh,Xi,Xj,Xk,Xl,Xm,Xn,Xo,Xp,Xq,Xr,bO,bT,bS,bP,bU,bV,List.getElem?_cons_zero,List.getElem?_cons_succ,bR,bX,bW,bY,bN,Nat.reduceAdd,Nat.reduceLT,Nat.reduceLeDiff,decide_true,decide_false,Bool.true_and,Bool.and_true,bZ,bM,Option.some.injEq,Xs,Xt,Xu,Xv]
  simp only[F6,HK,IC,JY,IB,KY,Mt,Mu,D9,Qa,Qb,Qc,Qd,Qe,Qf,Qg,Qh,Qi,Qj,Qk,Ql,Qm,Qn,true_and,and_true,Qo,Qp,Qq,Qr,Qs,Qt,Qu,Qv,Qw,Qx,Qy,Qz,Ra,Rb,Rc,Rd,Re,Rf,Rg,Rh,Ri,Rj,Rk,Rl,Rm,Ya,Yb,Yc,Rn,Ro,Xv,Yd,Ye,Rq,Rs,Rt,Ru,Rw,Rx,Ry,g50,g50s,g51s,g51t,g52,l51,l52,n01,n02,n12,n21,F2,Ff,ER,C3,Fy,DN,BW,B0,d1,d2,d3,d5,d6,hr5,hc5,Cf,Int.reduceEq,Ag,Rz,Wa,Wb,Wc,Wd,We,Wf,Wg,Wh,Wi,Wj,Wl,Wm,Wn,Wp,Wq,Wr,Ws,Wt,Wu,Wv,Ww,Wx,Wy,Wz,Xa,Xb,Xc,Xd,Xe,Xf,Xg,Xh,Xi,Xj,Xk,Xl,Xm,Xn,Xo,Xp,Xq,Xr,bO,bT,bS,bP,bU,bV,List.getElem?_cons_zero,List.getElem?_cons_succ,bR,bX,bW,bY,bN,Nat.reduceAdd,Nat.reduceLT,Nat.reduceLeDiff,decide_true,decide_false,Bool.true_and,Bool.and_true,bZ,bM,Option.some.injEq,Xs,Xt,Xu,Xv]
  exact hend' 3 _ _ _ _ (by simp[CZ,e]) (by simp[LD,e]) rfl
 ·rw[e]at hr8
  have hr8:AO Tryz.prog .rem 5 (Cb w) (.int .u8 8)=some (.int .u8 7):=hr8
  simp only[F5,Qa,Qb,Qc,Qd,Qe,Qf,Qg,Qh,Qi,Qj,Qk,Ql,Qm,Qn,true_and,and_true,Qo,Qp,Qq,Qr,Qs,Qt,Qu,Qv,Qw,Qx,Qy,Qz,Ra,Rb,Rc,Rd,Re,Rf,Rg,Rh,Ri,Rj,Rk,Rl,Rm,Ya,Yb,Yc,Rn,Ro,Xv,Yd,Ye,Rq,Rs,Rt,Ru,Rw,Rx,Ry,g50,F2,Ef,hr8,Rz,Wa,Wb,Wc,Wd,We,Wf,Wg,Wh,Wi,Wj,Wl,Wm,Wn,Wp,Wq,Wr,Ws,Wt,Wu,Wv,Ww,Wx,Wy,Wz,Xa,Xb,Xc,Xd,Xe,Xf,Xg,Xh,Xi,Xj,Xk,Xl,Xm,Xn,Xo,Xp,Xq,Xr,bO,bT,bS,bP,bU,bV,List.getElem?_cons_zero,List.getElem?_cons_succ,bR,bX,bW,bY,bN,Nat.reduceAdd,Nat.reduceLT,Nat.reduceLeDiff,decide_true,decide_false,Bool.true_and,Bool.and_true,bZ,bM,Option.some.injEq,Xs,Xt,Xu,Xv]
  simp only[F6,HK,IC,JY,IB,KY,Mt,RM,D9,Qa,Qb,Qc,Qd,Qe,Qf,Qg,Qh,Qi,Qj,Qk,Ql,Qm,Qn,true_and,and_true,Qo,Qp,Qq,Qr,Qs,Qt,Qu,Qv,Qw,Qx,Qy,Qz,Ra,Rb,Rc,Rd,Re,Rf,Rg,Rh,Ri,Rj,Rk,Rl,Rm,Ya,Yb,Yc,Rn,Ro,Xv,Yd,Ye,Rq,Rs,Rt,Ru,Rw,Rx,Ry,g50,g50s,g51s,g51t,g52,l51,l52,n01,n02,n12,n21,F2,Ff,ER,C3,Fy,DN,BW,B0,d1,d2,d3,d5,d6,hr5,hc5,Cf,Int.reduceEq,Ag,Rz,Wa,Wb,Wc,Wd,We,Wf,Wg,Wh,Wi,Wj,Wl,Wm,Wn,Wp,Wq,Wr,Ws,Wt,Wu,Wv,Ww,Wx,Wy,Wz,Xa,Xb,Xc,Xd,Xe,Xf,Xg,Xh,Xi,Xj,Xk,Xl,Xm,Xn,Xo,Xp,Xq,Xr,bO,bT,bS,bP,bU,bV,List.getElem?_cons_zero,List.getElem?_cons_succ,bR,bX,bW,bY,bN,Nat.reduceAdd,Nat.reduceLT,Nat.reduceLeDiff,decide_true,decide_false,Bool.true_and,Bool.and_true,bZ,bM,Option.some.injEq,Xs,Xt,Xu,Xv]
  exact hend' 4 _ _ _ _ (by simp[CZ,e]) (by simp[LD,e]) rfl
abbrev Hk:=Nat×Nat×Nat×Nat
def Hk.cells(m:Hk):List AV:=[Cb m.1,Cb m.2.1,Cb m.2.2.1,Cb m.2.2.2]
def Hk.ok(m:Hk):Prop:=m.1<256∧m.2.1<256∧m.2.2.1<256∧m.2.2.2<256
def Cm(s:AD)(v:AV)(l:List Hk):Prop:=
 ∃a cap,v=.slice a l.length cap∧∀ (k:Nat) (m:Hk),l[k]? = some m→∃j q,a=some (j,q)∧j<s.next∧A1 (s.heap.get j) (q+k * 4) 4=some m.cells
theorem Cm.old{s s':AD}{v:AV}{l:List Hk}(h:Cm s v l)(k:BD s.next s s'):Cm s' v l:=by
 obtain⟨a,cap,h1,h2⟩:=h
 refine⟨a,cap,h1,fun i m hm=>?_⟩
 obtain⟨j,q,h3,h4,h5⟩:=h2 i m hm
 exact⟨j,q,h3,bi h4 k.1,by rw[k.2 j h4];exact h5⟩
theorem Cm.len{s:AD}{v:AV}{l:List Hk}(h:Cm s v l)(s':AD):BY Tryz.prog s' 22 v=some (iv (l.length:Int)):=by
 obtain⟨a,cap,rfl,_⟩:=h
 exact AZ Tryz.underlying22
theorem L8(o:DZ)(h:o.ok):∃ (tag:Int)(c1 c2 c3 c5 c6:AV),o.cells=[iv o.kind,iv o.id,iv tag,c1,c2,c3,.slice none 0 (some 0),c5,c6,iv o.a,iv o.b,iv o.c]∧c1.isCell=true∧c2.isCell=true∧c3.isCell=true∧c5.isCell=true∧c6.isCell=true:=by
 obtain⟨tag,c1,c2,c3,c5,c6,hc,_,d1,d2,d3,d5,d6⟩:=BM o.con h.2.1
 refine⟨tag,c1,c2,c3,c5,c6,?_,d1,d2,d3,d5,d6⟩
 show [iv o.kind,iv o.id]++(Tm.con o.con).cells++_=_
 rw[hc];rfl
theorem Y5(c0 c1 c2 c3 c4 c5 c6 c7 c8 c9 ZR ZU:AV):Aa Tryz.prog 36 1 (zipIdx [0] [.agg [c0,c1,c2,c3,c4,c5,c6,c7,c8,c9,ZR,ZU]])=some (R 46 12 false [c0,c1,c2,c3,c4,c5,c6,c7,c8,c9,ZR,ZU]):=by kernel_rfl
theorem aD:Bv Tryz.prog 46 12=true:=by kernel_rfl
theorem ZB:BH Tryz.prog 36=true:=by kernel_rfl
def BK(l:List Hk):List RP×List DZ:=l.foldl (fun r m=>((OJ r.1 (Tt r.1 m.1 m.2.1 m.2.2.1 m.2.2.2)).1,r.2++[Tt r.1 m.1 m.2.1 m.2.2.1 m.2.2.2])) ([],[])
theorem Ih(l:List Hk)(m:Hk):BK (l++[m])=((OJ (BK l).1 (Tt (BK l).1 m.1 m.2.1 m.2.2.1 m.2.2.2)).1,(BK l).2++[Tt (BK l).1 m.1 m.2.1 m.2.2.1 m.2.2.2]):=by
 unfold BK
 rw[List.foldl_append];rfl
set_option maxRecDepth 20000 in
theorem Pg        {E : Bl}  (hE : Ai    E) {s : AD}  (h1 : 1 < s.next) {v : AV} {l : List Hk}  (hv : Cm      s v l) (hu : ∀ m ∈ l, Hk.ok  m) (a1 a2 : AV) {q : Nat} {Q : Au   → Prop} {marks : List Nat}
    (hend:∀ (y6 y7 vo:AV) s' O' T' (ops:List DZ) OB,ops=(BK (l.take 40)).2→(∀o∈ops,o.ok)→ops.length≤40→RS s' q T' O'→BD s.next s s'→D6 46 12 s' vo ops.length (ops.flatMap DZ.cells) OB→(∀j∈OB,s.next≤j) →
      AT 0 Q ⟨.exit 0,[v,a1,a2,.ptr (some (q,0)),vo,iv (ops.length:Int),y6,y7],marks,s'⟩):
    ∀ (d:Nat) (ops:List DZ) s1 O1 T1 OB (vo a6 a7:AV),d+ops.length=min l.length 40→(T1.map RT.pl,ops)=BK (l.take ops.length)→(∀o∈ops,o.ok)→RS s1 q T1 O1→(∀j∈O1,s.next≤j)→BD s.next s s1→T1.length≤4 * ops.length→D6 46 12 s1 vo ops.length (ops.flatMap DZ.cells) OB→(∀j∈OB,s.next≤j∧j ∉ O1) →
      WC E none (AU.loop JR) (AT 0 Q) [v,a1,a2,.ptr (some (q,0)),vo,iv (ops.length:Int),a6,a7] marks s1:=by
  intro d
  induction d with
  | zero =>
    intro ops s1 O1 T1 OB vo a6 a7 hd hmp hok h h3 h4 h5 h6 h7
    have hlen:=hv.len
    have hops:ops=(BK (l.take 40)).2:=by
      have e:l.take 40=l.take ops.length:=by
        rcases Nat.le_total l.length 40 with h' | h'
        · rw[bw h',bw (by omega)]
        · rw[show ops.length=40 from by omega]
      rw[e,← hmp]
    refine WC.loop' ?_
    by_cases hlt:(ops.length:Int)<(l.length:Int)
    · have hlt2:¬ ((ops.length:Int)<40):=by omega
      simp only[JR,N2,Qa,Qb,Qc,Qd,Qe,Qf,Qg,Qh,Qi,Qj,Qk,Ql,Qm,Qn,true_and,and_true,Qo,Qp,Qq,Qr,Qs,Qt,Qu,Qv,Qw,Qx,Qy,Qz,Ra,Rb,Rc,Rd,Re,Rf,Rg,Rh,Ri,Rj,Rk,Rl,Rm,Ya,Yb,Yc,Rn,Ro,Xv,Yd,Ye,Rq,Rs,Rt,Ru,Rw,Rx,Ry,hlen,Rq,hlt,decide_true,hlt2,decide_false]
      exact hend _ _ vo s1 O1 T1 ops OB hops hok (by omega) h h4 h6 fun j hj=>(h7 j hj).1
    · simp only[JR,N2,Qa,Qb,Qc,Qd,Qe,Qf,Qg,Qh,Qi,Qj,Qk,Ql,Qm,Qn,true_and,and_true,Qo,Qp,Qq,Qr,Qs,Qt,Qu,Qv,Qw,Qx,Qy,Qz,Ra,Rb,Rc,Rd,Re,Rf,Rg,Rh,Ri,Rj,Rk,Rl,Rm,Ya,Yb,Yc,Rn,Ro,Xv,Yd,Ye,Rq,Rs,Rt,Ru,Rw,Rx,Ry,hlen,Rq,hlt,decide_false]
      exact hend _ _ vo s1 O1 T1 ops OB hops hok (by omega) h h4 h6 fun j hj=>(h7 j hj).1
  | succ d ih =>
    intro ops s1 O1 T1 OB vo a6 a7 hd hmp hok h h3 h4 h5 h6 h7
    have hlen:=hv.len
    have hltn:ops.length<l.length:=by omega
    have hlt:(ops.length:Int)<(l.length:Int):=by omega
    have hlt2:(ops.length:Int)<40:=by omega
    have hadd:i64 ((ops.length:Int)+1):=by unfold i64;omega
    obtain⟨m,hm⟩:∃m,l[ops.length]? = some m:=⟨_,bc hltn⟩
    have hmk:=hu m (bn hm)
    obtain⟨a,cap,rfl,hat⟩:=hv.old h4
    obtain⟨j,qq,rfl,hj,hld⟩:=hat _ m hm
    rw[Hk.cells]at hld
    have hrop:=fun(K:AV→AD→Prop) hK=>Y4 (K:=K) hE h.at_ (by omega) h.kl hmk.1 hmk.2.1 hmk.2.2.1 hmk.2.2.2 hK
    refine WC.loop' ?_
    obtain⟨W,hW⟩:∃W,W=AU.loop JR:=⟨_,rfl⟩
    rw[← hW]
    simp only[JR,N2,VE,Qa,Qb,Qc,Qd,Qe,Qf,Qg,Qh,Qi,Qj,Qk,Ql,Qm,Qn,true_and,and_true,Qo,Qp,Qq,Qr,Qs,Qt,Qu,Qv,Qw,Qx,Qy,Qz,Ra,Rb,Rc,Rd,Re,Rf,Rg,Rh,Ri,Rj,Rk,Rl,Rm,Ya,Yb,Yc,Rn,Ro,Xv,Yd,Ye,Rq,Rs,Rt,Ru,Rw,Rx,Ry,hlen,Rq,hlt,hlt2,decide_true,Ac Tryz.underlying22 aC hltn,hld,aJ,aC,Rz,Wa,Wb,Wc,Wd,We,Wf,Wg,Wh,Wi,Wj,Wl,Wm,Wn,Wp,Wq,Wr,Ws,Wt,Wu,Wv,Ww,Wx,Wy,Wz,Xa,Xb,Xc,Xd,Xe,Xf,Xg,Xh,Xi,Xj,Xk,Xl,Xm,Xn,Xo,Xp,Xq,Xr,bO,bT,bS,bP,bU,bV,List.getElem?_cons_zero,List.getElem?_cons_succ,bR,bX,bW,bY,bN,Nat.reduceAdd,Nat.reduceLT,Nat.reduceLeDiff,decide_true,decide_false,Bool.true_and,Bool.and_true,bZ,bM,Option.some.injEq,Xs,Xt,Xu,Xv]
    refine hrop _ fun s2 ho2=>?_
    obtain⟨o,hoe⟩:∃o,o=Tt (T1.map RT.pl) m.1 m.2.1 m.2.2.1 m.2.2.2:=⟨_,rfl⟩
    rw[← hoe]
    have ho:o.ok:=hoe▸(NP _ _ _ _ _).1
    have hcon:o.con<11:=hoe▸(NP _ _ _ _ _).2
    obtain⟨tag,c1,c2,c3,c5,c6,hoc,d1,d2,d3,d5,d6⟩:=L8 o ho
    have h2:=h.old ho2
    have hlt2':=h2.at_.lt
    have hol:o.cells.length=12:=by rw[hoc];rfl
    have hoa:AW o.cells=true:=by
      rw[hoc]
      simp only[AW,Xl,Xq,d1,d2,d3,d5,d6,Bool.and_self]
    have hbx:∀s3,DG O1 (ext s2 [R 46 0 false o.cells]) s3→s3.heap.get (nid s2.next 0)=some (R 46 0 false o.cells):=fun s3 hf=>by
      rw[hf.2 _ (by rw[Wm,AG,AG];simp) (fun hm=>by have:=hlt2' _ hm;rw[AG]at this;omega),Wg rfl (by simp)];rfl
    have hdo:=fun K hK=>Y2 (K:=K) hE (h2.old (AS (os:=[R 46 0 false o.cells]))) (by omega) ho hcon hK
    have hrest:∀ (s3:AD) O3 T3 (b6 b7:AV),T3.map RT.pl=(OJ (T1.map RT.pl) o).1→RS s3 q T3 O3→DG O1 (ext s2 [R 46 0 false o.cells]) s3→Aj O1 O3 (ext s2 [R 46 0 false o.cells])→T3.length≤T1.length+4 →
        ∃vo2 s4,Ay Tryz.prog (newObj s3 (R 46 12 false o.cells)) [36,36] [vo,.slice (some (s3.next,0)) 1 (some 1)]=some (vo2,s4) ∧
          WC E none W (AT 0 Q) [.slice (some (j,qq)) l.length cap,a1,a2,.ptr (some (q,0)),vo2,iv ((ops.length:Int)+1),b6,b7] marks s4:=by
      intro s3 O3 T3 b6 b7 g0 g1 g2 g3 g4
      have hB1:=h6.lt
      have hn12:s1.next≤s2.next:=ho2.1
      have hn23:s2.next+1≤s3.next:=by have:=g2.1;rw[Wm,AG]at this;exact this
      have hBO:∀x∈OB,x ∉ O3:=fun x hx hm=>(g3 x hm).elim (h7 x hx).2 (fun hl=>by have:=hB1 x hx;rw[Wm,AG]at hl;simp at hl;omega)
      have hsame13:∀x,x<s1.next→x ∉ O1→s3.heap.get x=s1.heap.get x:=fun x hx hxO=>by
        rw[g2.2 x (by rw[Wm,AG];omega) hxO,Wh (by omega),ho2.2 x hx]
      have hbuf':=h6.frame (s':=s3) (by omega) fun x hx=>hsame13 x (hB1 x hx) (h7 x hx).2
      have hnx:(ext s3 [R 46 12 false o.cells]).next=s3.next+1:=by rw[Wm,AG];rfl
      have hsrc:B3 Tryz.prog (ext s3 [R 46 12 false o.cells]) 46 12 (.slice (some (nid s3.next 0,0)) 1 (some 1))=some (1,o.cells):=by
        show(I2 _ (nid s3.next 0) 0 1 12).bind _=_
        rw[FG (l:=o.cells) (by rw[Co,Wg rfl (by simp)];show A1 (some (R 46 12 false o.cells)) _ _=_;rw[Wj (by rw[hol];exact bM _),bR,bw (by rw[hol];exact bM _)])]
        rfl
      have hbuf2:=hbuf'.frame (s':=ext s3 [R 46 12 false o.cells]) (by rw[hnx];omega) fun x hx=>Wh (hbuf'.lt x hx)
      obtain⟨v2,s4,OB2,happ,hb2,hn2,hf2,hO2,_⟩:=hbuf2.append (xt:=36) (m:=1) Tryz.underlying36 ER aM (by omega) ZB aD (by omega) hsrc (by rw[hol]) hoa (by omega) (by omega)
      rw[hnx]at hn2 hf2 hO2
      have hne:newObj s3 (R 46 12 false o.cells)=ext s3 [R 46 12 false o.cells]:=by
        have:=Wl s3 [] (R 46 12 false o.cells)
        rw[Af]at this;exact this
      rw[← hne,Eo]at happ
      have hsame:∀x,x<s3.next→x ∉ OB→s4.heap.get x=s3.heap.get x:=fun x hx hB=>by rw[hf2 x (by omega) hB,Wh (by omega)]
      have hlt3:=g1.at_.lt
      have hrs:RS s4 q T3 O3:=⟨g1.at_.frame (by rw[hn2];omega) (fun x hx=>hsame x (hlt3 x hx) fun hm=>hBO x hm hx),⟨by rw[BN (hsame 1 g1.gl.2.1 fun hm=>by have:=(h7 1 hm).1;omega)];exact g1.gl.1,by rw[hn2];have:=g1.gl.2.1;omega,g1.gl.2.2⟩,g1.kl⟩
      refine⟨v2,s4,happ,?_⟩
      have h41:=h4.1
      have:=ih (ops++[o]) s4 O3 T3 OB2 v2 b6 b7 (by simp;omega) (by rw[bu,List.length_singleton,cG hltn,Ih,← hmp,g0,show l[ops.length]=m from by rw[bc hltn]at hm;injection hm,← hoe]) (fun x hx=>?_) hrs (fun x hx=>?_) ⟨by rw[hn2];omega,fun x hx=>?_⟩ (by simp;omega) (by rw[bu,show(ops++[o]).flatMap DZ.cells=ops.flatMap DZ.cells++o.cells from by simp];exact hb2) (fun x hx=>?_)
      · rw [hW]
        rw[show((ops++[o]).length:Int)=(ops.length:Int)+1 from by simp]at this
        exact this
      · rcases List.mem_append.1 hx with hx | hx
        · exact hok x hx
        · rw[List.mem_singleton.1 hx];exact ho
      · exact(g3 x hx).elim (h3 x) (fun hl=>by rw[Wm,AG]at hl;omega)
      · rw[hsame x (by omega) (fun hm=>by have:=(h7 x hm).1;omega),hsame13 x (by omega) (fun hm=>by have:=h3 x hm;omega),h4.2 x hx]
      · rcases hO2 x hx with hx | hx
        · exact⟨(h7 x hx).1,hBO x hx⟩
        · exact⟨by omega,fun hm=>by have:=hlt3 x hm;omega⟩
    rw[hoc]at hdo hbx hrest ⊢
    generalize hs2:s2.next=b2 at hbx
    have hs20:s2=ext s2 []:=(Af s2).symm
    rw[hs20]
    simp only[VF,Qa,Qb,Qc,Qd,Qe,Qf,Qg,Qh,Qi,Qj,Qk,Ql,Qm,Qn,true_and,and_true,Qo,Qp,Qq,Qr,Qs,Qt,Qu,Qv,Qw,Qx,Qy,Qz,Ra,Rb,Rc,Rd,Re,Rf,Rg,Rh,Ri,Rj,Rk,Rl,Rm,Ya,Yb,Yc,Rn,Ro,Xv,Yd,Ye,Rq,Rs,Rt,Ru,Rw,Rx,Ry,hs2,aE,Ff,ER,d1,d2,d3,d5,d6,Rz,Wa,Wb,Wc,Wd,We,Wf,Wg,Wh,Wi,Wj,Wl,Wm,Wn,Wp,Wq,Wr,Ws,Wt,Wu,Wv,Ww,Wx,Wy,Wz,Xa,Xb,Xc,Xd,Xe,Xf,Xg,Xh,Xi,Xj,Xk,Xl,Xm,Xn,Xo,Xp,Xq,Xr,bO,bT,bS,bP,bU,bV,List.getElem?_cons_zero,List.getElem?_cons_succ,bR,bX,bW,bY,bN,Nat.reduceAdd,Nat.reduceLT,Nat.reduceLeDiff,decide_true,decide_false,Bool.true_and,Bool.and_true,bZ,bM,Option.some.injEq,Xs,Xt,Xu,Xv]
    refine hdo _ fun i s3 O3 T3 g0 g1 g2 g3 g4 g5 g6=>?_
    have gb:=hbx s3 g2
    obtain⟨vo2,s4,e1,e2⟩:=hrest s3 O3 T3 (.ptr (some (nid b2 0,0))) (.bool true) (congrArg (·.1) g0) g1 g2 g3 g5
    simp only[Qa,Qb,Qc,Qd,Qe,Qf,Qg,Qh,Qi,Qj,Qk,Ql,Qm,Qn,true_and,and_true,Qo,Qp,Qq,Qr,Qs,Qt,Qu,Qv,Qw,Qx,Qy,Qz,Ra,Rb,Rc,Rd,Re,Rf,Rg,Rh,Ri,Rj,Rk,Rl,Rm,Ya,Yb,Yc,Rn,Ro,Xv,Yd,Ye,Rq,Rs,Rt,Ru,Rw,Rx,Ry,VG,VH,gb,Ff,ER,Y5,e1,A9 _ _ _ _ hadd,Rz,Wa,Wb,Wc,Wd,We,Wf,Wg,Wh,Wi,Wj,Wl,Wm,Wn,Wp,Wq,Wr,Ws,Wt,Wu,Wv,Ww,Wx,Wy,Wz,Xa,Xb,Xc,Xd,Xe,Xf,Xg,Xh,Xi,Xj,Xk,Xl,Xm,Xn,Xo,Xp,Xq,Xr,bO,bT,bS,bP,bU,bV,List.getElem?_cons_zero,List.getElem?_cons_succ,bR,bX,bW,bY,bN,Nat.reduceAdd,Nat.reduceLT,Nat.reduceLeDiff,decide_true,decide_false,Bool.true_and,Bool.and_true,bZ,bM,Option.some.injEq,Xs,Xt,Xu,Xv]
    exact e2
def EU:Ao:=R 80 0 false [.slice none 0 (some 0)]
theorem PC:AR Tryz.prog 80 (zipIdx [] [])=some (.agg [.slice none 0 (some 0)]):=by kernel_rfl
set_option maxRecDepth 20000 in
theorem MH{E:Bl}(hE:Ai E){s:AD}(hg:CV s 1 A7=true)(h1:1<s.next){v:AV}{l:List Hk}(hv:Cm s v l)(hu:∀m∈l,Hk.ok m){K:AV→AD→Prop}
  (hK:∀ (q:Nat) (vo:AV) s' (ops:List DZ) OB,ops=(BK (l.take 40)).2→(∀o∈ops,o.ok)→ops.length≤40→BD s.next s s'→D6 46 12 s' vo ops.length (ops.flatMap DZ.cells) OB→(∀j∈OB,s.next≤j)→K (.tuple [.ptr (some (q,0)),vo]) s'):
  WF E 16 [v] K s:=by
 refine hE.go YB (by decide) rfl ?_
 generalize hs:s.next=b
 have hs0:s=ext s []:=(Af s).symm
 have hnx:(ext s [EU]).next=b+1:=by rw[Wm,hs,AG];rfl
 have hq:(ext s [EU]).heap.get (nid b 0)=some EU:=by rw[Wg hs (by simp)];rfl
 have hrs:RS (ext s [EU]) (nid b 0) [] [nid b 0]:=by
  refine⟨⟨⟨.slice none 0 (some 0),[],hq,D6.nil _ _ _,fun t ht=>absurd ht (by simp),fun j hj=>hj,(by simp)⟩,fun i t h=>absurd h (by simp),fun j hj=>?_⟩,⟨by rw[BN (Wh h1)];exact hg,by rw[hnx];omega,fun hm=>?_⟩,fun t ht=>absurd ht (by simp)⟩
  ·rw[List.mem_singleton.1 hj,hnx,AG];omega
  ·have:=List.mem_singleton.1 hm
   rw[AG]at this;omega
 rw[hs0]
 simp only[af,VA,VB,VC,VD,Qa,Qb,Qc,Qd,Qe,Qf,Qg,Qh,Qi,Qj,Qk,Ql,Qm,Qn,true_and,and_true,Qo,Qp,Qq,Qr,Qs,Qt,Qu,Qv,Qw,Qx,Qy,Qz,Ra,Rb,Rc,Rd,Re,Rf,Rg,Rh,Ri,Rj,Rk,Rl,Rm,Ya,Yb,Yc,Rn,Ro,Xv,Yd,Ye,Rq,Rs,Rt,Ru,Rw,Rx,Ry,hs,PC,Rz,Wa,Wb,Wc,Wd,We,Wf,Wg,Wh,Wi,Wj,Wl,Wm,Wn,Wp,Wq,Wr,Ws,Wt,Wu,Wv,Ww,Wx,Wy,Wz,Xa,Xb,Xc,Xd,Xe,Xf,Xg,Xh,Xi,Xj,Xk,Xl,Xm,Xn,Xo,Xp,Xq,Xr,bO,bT,bS,bP,bU,bV,List.getElem?_cons_zero,List.getElem?_cons_succ,bR,bX,bW,bY,bN,Nat.reduceAdd,Nat.reduceLT,Nat.reduceLeDiff,decide_true,decide_false,Bool.true_and,Bool.and_true,bZ,bM,Option.some.injEq,Xs,Xt,Xu,Xv]
 refine Pg hE h1 hv hu _ _ (q:=nid b 0) (fun y6 y7 vo s' O' T' ops OB e0 e1 e2 e3 e4 e5 e6=>?_) (min l.length 40) [] (ext s [EU]) [nid b 0] [] [] _ _ _ (by simp) rfl (fun o ho=>by cases ho) hrs (fun j hj=>?_) AS (bl _) (D6.nil _ _ _) (fun j hj=>by cases hj)
 ·simp only[Qa,Qb,Qc,Qd,Qe,Qf,Qg,Qh,Qi,Qj,Qk,Ql,Qm,Qn,true_and,and_true,Qo,Qp,Qq,Qr,Qs,Qt,Qu,Qv,Qw,Qx,Qy,Qz,Ra,Rb,Rc,Rd,Re,Rf,Rg,Rh,Ri,Rj,Rk,Rl,Rm,Ya,Yb,Yc,Rn,Ro,Xv,Yd,Ye,Rq,Rs,Rt,Ru,Rw,Rx,Ry]
  rw[if_pos trivial]
  simp only[Q5,Qa,Qb,Qc,Qd,Qe,Qf,Qg,Qh,Qi,Qj,Qk,Ql,Qm,Qn,true_and,and_true,Qo,Qp,Qq,Qr,Qs,Qt,Qu,Qv,Qw,Qx,Qy,Qz,Ra,Rb,Rc,Rd,Re,Rf,Rg,Rh,Ri,Rj,Rk,Rl,Rm,Ya,Yb,Yc,Rn,Ro,Xv,Yd,Ye,Rq,Rs,Rt,Ru,Rw,Rx,Ry]
  exact hK _ vo s' ops OB e0 e1 e2 (hs▸e4) e5 (hs▸e6)
 ·rw[List.mem_singleton.1 hj,hs,AG];omega
end
end Go.Proofs.YtickdehehcmfbaaGreatDoor.Am
