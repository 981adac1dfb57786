/- What put does to a store, walked; conditions: none. -/
import Derived.Test.YtickdehehcmfbaaGreatDoorAmM05
set_option linter.unusedVariables false
set_option linter.unusedSimpArgs false
namespace Go.Proofs.YtickdehehcmfbaaGreatDoor.Am
open Go Go.Proofs
noncomputable section
theorem AS{s:AD}{os:List Ao}:BD s.next s (ext s os):=⟨by rw[Wm,AG];omega,fun j hj=>Wh hj⟩
theorem BD.frO{s s':AD}(O:List Nat)(h:BD s.next s s'):DG O s s':=⟨h.1,fun j hj _=>h.2 j hj⟩
theorem Bd.old{s s':AD}{S l:List Tm}{v:AV}(h:Bd s S l v)(k:BD s.next s s'):Bd s' S l v:=by
 rcases h with h | ⟨j,q,cap,h1,h2,h3,h4⟩
 ·exact .inl h
 ·exact .inr ⟨j,q,cap,h1,h2,bi h3 k.1,by rw[k.2 j h3];exact h4⟩
theorem Y7(k:Int):CF Tryz.prog 3 (iv k)=BA .i64 k:=by kernel_rfl
theorem MX{s:AD}{i:Nat}{ks:List Int}{k:Int}(hg:s.heap.get i=some (.map 3 (BB ks)))(hk:i64 k):
  Cq Tryz.prog s 68 (.map (some i)) (iv k) (iv 1)=some (setObj s i (.map 3 (BB (Fe ks k)))):=by
 unfold Cq
 simp only[Tryz.underlying68,Y7,Br hk,Xa,H0,hg,GO,Option.bind_some,Jx]
set_option maxRecDepth 20000 in
theorem Ur      {E : Bl}  (hE : Ai    E) {s : AD}  {p : Nat} {S : List Tm} {O : List Nat} (h : AQ      s p S O) (hsm : S.length < 100000) (u : Tm) (hk : ∀ k ∈ u.kids, k ∈ S) (ho : u.ok) {pv : AV} (hp : Bd      s S u.kids pv) :
    WF E 32 [.ptr (some (p,0)),.agg [iv u.kind,iv u.id,iv 0,iv 0,iv 0,.str u.ktext],.agg u.cells,pv] (fun r s'=>r=iv (ix (push S u) u:Int)∧∃O',AQ s' p (push S u) O'∧DG O s s'∧Aj O O' s) s:=by
  obtain⟨tv,fi,vm,OT,e⟩:=h.ex
  have hc7:=Dc ho
  obtain⟨c0,c1,c2,c3,c4,c5,c6,hc,d0,d1,d2,d3,d4,d5,d6⟩:=u.cells7 ho
  refine hE.go YN (by decide) rfl ?_
  have hplt:=e.plt
  have hflt:=e.flt
  have hobj:=e.obj
  have hfnd:=e.fnd
  have hlen:=Pr hp
  generalize hs:s.next=b at hplt hflt
  have hs0:s=ext s []:=(Af s).symm
  have hcp:=fun s' (hh:Bd s' S u.kids pv) i o=>Mz (s:=s') (i:=i) (o:=o) (DQ u) hh
  have hpe:∀os,Bd (ext s os) S u.kids pv:=fun os=>hp.old AS
  generalize hK:(fun r s'=>r=iv (ix (push S u) u:Int)∧∃O',AQ s' p (push S u) O'∧DG O s s'∧Aj O O' s)=K
  rw[hs0]
  simp only[aw,Vp,Vq,hs,Qa,Qb,Qc,Qd,Qe,Qf,Qg,Qh,Qi,Qj,Qk,Ql,Qm,Qn,true_and,and_true,Qo,Qp,Qq,Qr,Qs,Qt,Qu,Qv,Qw,Qx,Qy,Qz,Ra,Rb,Rc,Rd,Re,Rf,Rg,Rh,Ri,Rj,Rk,Rl,Rm,Ya,Yb,Yc,Rn,Ro,Xv,Yd,Ye,Rq,Rs,Rt,Ru,Rw,Rx,Ry,Rz,Wa,Wb,Wc,Wd,We,Wf,Wg,Wh,Wi,Wj,Wl,Wm,Wn,Wp,Wq,Wr,Ws,Wt,Wu,Wv,Ww,Wx,Wy,Wz,Xa,Xb,Xc,Xd,Xe,Xf,Xg,Xh,Xi,Xj,Xk,Xl,Xm,Xn,Xo,Xp,Xq,Xr,bO,bT,bS,bP,bU,bV,List.getElem?_cons_zero,List.getElem?_cons_succ,bR,bX,bW,bY,bN,Nat.reduceAdd,Nat.reduceLT,Nat.reduceLeDiff,decide_true,decide_false,Bool.true_and,Bool.and_true,bZ,bM,Option.some.injEq,Xs,Xt,Xu,Xv,Kd,Un,hcp _ (hpe _),Sr hs]
  have hlk:∀os,Cp Tryz.prog (ext s os) 60 (.map (some fi)) (.agg (BI S u)) true=some (.tuple [if u∈S then iv (ix S u:Int)else iv 0,.bool (decide (u∈S))]):=fun os =>
    Kp (by rw[Wh (by rw[hs];exact hflt),hfnd]) h.ok hsm hk ho
  simp only[BI]at hlk
  simp only[Vr,SZ,ZO,X2,Y8,hplt,hobj,hs,hlk,BI,Qa,Qb,Qc,Qd,Qe,Qf,Qg,Qh,Qi,Qj,Qk,Ql,Qm,Qn,true_and,and_true,Qo,Qp,Qq,Qr,Qs,Qt,Qu,Qv,Qw,Qx,Qy,Qz,Ra,Rb,Rc,Rd,Re,Rf,Rg,Rh,Ri,Rj,Rk,Rl,Rm,Ya,Yb,Yc,Rn,Ro,Xv,Yd,Ye,Rq,Rs,Rt,Ru,Rw,Rx,Ry,Rz,Wa,Wb,Wc,Wd,We,Wf,Wg,Wh,Wi,Wj,Wl,Wm,Wn,Wp,Wq,Wr,Ws,Wt,Wu,Wv,Ww,Wx,Wy,Wz,Xa,Xb,Xc,Xd,Xe,Xf,Xg,Xh,Xi,Xj,Xk,Xl,Xm,Xn,Xo,Xp,Xq,Xr,bO,bT,bS,bP,bU,bV,List.getElem?_cons_zero,List.getElem?_cons_succ,bR,bX,bW,bY,bN,Nat.reduceAdd,Nat.reduceLT,Nat.reduceLeDiff,decide_true,decide_false,Bool.true_and,Bool.and_true,bZ,bM,Option.some.injEq,Xs,Xt,Xu,Xv]
  by_cases hu:u∈S
  · simp only [RG,    Vs,    hu, if_true, Qa, Qb, Qc, Qd, Qe, Qf, Qg, Qh, Qi, Qj, Qk, Ql, Qm, Qn, true_and, and_true, Qo, Qp, Qq, Qr, Qs, Qt, Qu, Qv, Qw, Qx, Qy, Qz, Ra, Rb, Rc, Rd, Re, Rf, Rg, Rh, Ri, Rj, Rk, Rl, Rm, Ya, Yb, Yc, Rn, Ro, Xv, Yd, Ye, Rq, Rs, Rt, Ru, Rw, Rx, Ry, Rz, Wa, Wb, Wc, Wd, We, Wf, Wg, Wh, Wi, Wj, Wl, Wm, Wn, Wp, Wq, Wr, Ws, Wt, Wu, Wv, Ww, Wx, Wy, Wz, Xa, Xb, Xc, Xd, Xe, Xf, Xg, Xh, Xi, Xj, Xk, Xl, Xm, Xn, Xo, Xp, Xq, Xr, bO,               bT,              bS,               bP,              bU,                 bV,                 List.getElem?_cons_zero, List.getElem?_cons_succ, bR,             bX,                  bW,                  bY,             bN,           Nat.reduceAdd, Nat.reduceLT, Nat.reduceLeDiff, decide_true, decide_false, Bool.true_and, Bool.and_true, bZ,             bM,          Option.some.injEq, Xs, Xt, Xu, Xv]
    subst hK
    have hpu:push S u=S:=if_pos hu
    rw[hpu]
    exact⟨rfl,O,h.old AS,AS.frO O,Aj.refl O s⟩
  · have hpu : push S u = S ++ [u] := if_neg hu
    have hfin:∀s' O',AQ s' p (S++[u]) O'→DG O s s'→Aj O O' s→K (iv (S.length:Int)) s':=fun s' O' h1 h2 h3=>by
      subst hK
      rw[hpu]
      exact⟨by rw[Sp hu],O',h1,h2,h3⟩
    simp only[RG,Vt,Vu,hu,if_false,hc,X2,Y8,Hl,HF,hlen,US,QV,Ts,JJ,PA,C3,Gu,d0,d1,d2,d3,d4,d5,d6,hs,Rw,Qa,Qb,Qc,Qd,Qe,Qf,Qg,Qh,Qi,Qj,Qk,Ql,Qm,Qn,true_and,and_true,Qo,Qp,Qq,Qr,Qs,Qt,Qu,Qv,Qw,Qx,Qy,Qz,Ra,Rb,Rc,Rd,Re,Rf,Rg,Rh,Ri,Rj,Rk,Rl,Rm,Ya,Yb,Yc,Rn,Ro,Xv,Yd,Ye,Rq,Rs,Rt,Ru,Rw,Rx,Ry,Rz,Wa,Wb,Wc,Wd,We,Wf,Wg,Wh,Wi,Wj,Wl,Wm,Wn,Wp,Wq,Wr,Ws,Wt,Wu,Wv,Ww,Wx,Wy,Wz,Xa,Xb,Xc,Xd,Xe,Xf,Xg,Xh,Xi,Xj,Xk,Xl,Xm,Xn,Xo,Xp,Xq,Xr,bO,bT,bS,bP,bU,bV,List.getElem?_cons_zero,List.getElem?_cons_succ,bR,bX,bW,bY,bN,Nat.reduceAdd,Nat.reduceLT,Nat.reduceLeDiff,decide_true,decide_false,Bool.true_and,Bool.and_true,bZ,bM,Option.some.injEq,Xs,Xt,Xu,Xv]
    have hpb:=fun os=>hpe os
    have hmain:∀ (ks:List Int) (a10 a12 a16:AV),ks.Nodup→ks.length≤100000→(∀x,(x∈ks∨∃t∈u.kids,t.has x=true)↔u.has x=true) →
        Qb E RH (fun v s'=>WC E none (AU.loop Gn) (AT 0 (G9 (fun x x_3 x_4=>Qb E KU (fun v s'=>Qb E KW (fun v s'=>Qb E KX (fun v s'=>Kx (CU s' x_3) fun s'=>K (JG v 6) s') [] v s') [] v s') [] x x_4) (Ends Tryz.prog [(CX.var 6,none)] K))) v [] s') []
          [.ptr (some (p,0)),.agg [iv u.kind,iv u.id,iv 0,iv 0,iv 0,.str u.ktext],.agg [c0,c1,c2,c3,c4,c5,c6],pv,.ptr (some (nid b 0,0)),.ptr (some (nid b 1,0)),.int .i64 0,iv 0,.bool false,.ptr (some (nid b 3,0)),a10,.bool false,a12,A5,A5,A5,a16]
          (ext s [R 65 0 false [iv u.kind,iv u.id,iv (part S u 0),iv (part S u 1),iv (part S u 2),.str u.ktext],R 43 0 false [c0,c1,c2,c3,c4,c5,c6],.map 3 (BB ks),
            R 70 0 false [iv u.kind,iv u.id,iv (part S u 0),iv (part S u 1),iv (part S u 2),.str u.ktext,c0,c1,c2,c3,c4,c5,c6,iv (u.kids.length:Int),iv ((1:Nat):Int),.map (some (nid b 2))]]):=by
      intro ks a10 a12 a16 hn hl hx
      simp only[RH,hlen,Qa,Qb,Qc,Qd,Qe,Qf,Qg,Qh,Qi,Qj,Qk,Ql,Qm,Qn,true_and,and_true,Qo,Qp,Qq,Qr,Qs,Qt,Qu,Qv,Qw,Qx,Qy,Qz,Ra,Rb,Rc,Rd,Re,Rf,Rg,Rh,Ri,Rj,Rk,Rl,Rm,Ya,Yb,Yc,Rn,Ro,Xv,Yd,Ye,Rq,Rs,Rt,Ru,Rw,Rx,Ry,Rz,Wa,Wb,Wc,Wd,We,Wf,Wg,Wh,Wi,Wj,Wl,Wm,Wn,Wp,Wq,Wr,Ws,Wt,Wu,Wv,Ww,Wx,Wy,Wz,Xa,Xb,Xc,Xd,Xe,Xf,Xg,Xh,Xi,Xj,Xk,Xl,Xm,Xn,Xo,Xp,Xq,Xr,bO,bT,bS,bP,bU,bV,List.getElem?_cons_zero,List.getElem?_cons_succ,bR,bX,bW,bY,bN,Nat.reduceAdd,Nat.reduceLT,Nat.reduceLeDiff,decide_true,decide_false,Bool.true_and,Bool.and_true,bZ,bM,Option.some.injEq,Xs,Xt,Xu,Xv]
      refine S7 hE e h.ok hp (DQ u) hk _ _ _ _ _ _ _ _ _ _ _ _ _ _ _ _ _ _ _ _ _ _ _ _ hs u.kids [] ks 1 _ _ rfl hn (by simp;omega) (by omega) ?_
      intro ks' b10 b15 b16 hn' hx'
      simp only[Qa,Qb,Qc,Qd,Qe,Qf,Qg,Qh,Qi,Qj,Qk,Ql,Qm,Qn,true_and,and_true,Qo,Qp,Qq,Qr,Qs,Qt,Qu,Qv,Qw,Qx,Qy,Qz,Ra,Rb,Rc,Rd,Re,Rf,Rg,Rh,Ri,Rj,Rk,Rl,Rm,Ya,Yb,Yc,Rn,Ro,Xv,Yd,Ye,Rq,Rs,Rt,Ru,Rw,Rx,Ry,Rz,Wa,Wb,Wc,Wd,We,Wf,Wg,Wh,Wi,Wj,Wl,Wm,Wn,Wp,Wq,Wr,Ws,Wt,Wu,Wv,Ww,Wx,Wy,Wz,Xa,Xb,Xc,Xd,Xe,Xf,Xg,Xh,Xi,Xj,Xk,Xl,Xm,Xn,Xo,Xp,Xq,Xr,bO,bT,bS,bP,bU,bV,List.getElem?_cons_zero,List.getElem?_cons_succ,bR,bX,bW,bY,bN,Nat.reduceAdd,Nat.reduceLT,Nat.reduceLeDiff,decide_true,decide_false,Bool.true_and,Bool.and_true,bZ,bM,Option.some.injEq,Xs,Xt,Xu,Xv]
      rw[if_pos trivial,Te]
      have:=Ud (E:=E) e h.ok hsm hk ho hu (.agg [iv u.kind,iv u.id,iv 0,iv 0,iv 0,.str u.ktext]) (.agg [c0,c1,c2,c3,c4,c5,c6]) pv (.ptr (some (nid b 1,0))) (.int .i64 0) (iv 0) (.bool false) b10 (.bool false) a12 pv (iv (u.kids.length:Int)) b15 b16 (R 43 0 false [c0,c1,c2,c3,c4,c5,c6]) hs hn' (fun x=>by rw[hx',hx]) hfin
      simp only[BV,BI,hc,bS,bP]at this
      exact this
    by_cases hu0:u.kind=0
    · have hv:∃i,u=.var i:=by
        cases u<;>first | exact⟨_,rfl⟩ | (cases hu0;done)
      have hid:i64 u.id:=by obtain⟨i,rfl⟩:=hv;exact ho
      have hup:∀os,(ext s os).heap.get (nid b 2)=some (.map 3 [])→Cq Tryz.prog (ext s os) 68 (.map (some (nid b 2))) (iv u.id) (iv 1)=some (setObj (ext s os) (nid b 2) (.map 3 (BB [u.id]))):=fun os hg=>MX (ks:=[]) hg hid
      have hd:decide (u.kind=0)=true:=decide_eq_true hu0
      rw[hd,Qu]
      simp only[Vv,X3,C3,Sa,M4,hs,Qa,Qb,Qc,Qd,Qe,Qf,Qg,Qh,Qi,Qj,Qk,Ql,Qm,Qn,true_and,and_true,Qo,Qp,Qq,Qr,Qs,Qt,Qu,Qv,Qw,Qx,Qy,Qz,Ra,Rb,Rc,Rd,Re,Rf,Rg,Rh,Ri,Rj,Rk,Rl,Rm,Ya,Yb,Yc,Rn,Ro,Xv,Yd,Ye,Rq,Rs,Rt,Ru,Rw,Rx,Ry,Rz,Wa,Wb,Wc,Wd,We,Wf,Wg,Wh,Wi,Wj,Wl,Wm,Wn,Wp,Wq,Wr,Ws,Wt,Wu,Wv,Ww,Wx,Wy,Wz,Xa,Xb,Xc,Xd,Xe,Xf,Xg,Xh,Xi,Xj,Xk,Xl,Xm,Xn,Xo,Xp,Xq,Xr,bO,bT,bS,bP,bU,bV,List.getElem?_cons_zero,List.getElem?_cons_succ,bR,bX,bW,bY,bN,Nat.reduceAdd,Nat.reduceLT,Nat.reduceLeDiff,decide_true,decide_false,Bool.true_and,Bool.and_true,bZ,bM,Option.some.injEq,Xs,Xt,Xu,Xv]
      rw[hup _ (by rw[Wg hs (by simp)];rfl),Wn _ hs (by simp)]
      refine hmain [u.id] _ _ _ (by simp) (by simp) (fun x=>?_)
      obtain⟨i,rfl⟩:=hv
      show(x∈[i]∨∃t∈[],_)↔decide (i=x)=true
      simp only[List.mem_singleton,b4,false_and,exists_false,or_false,decide_eq_true_eq]
      exact eq_comm
    · simp only[hu0,decide_false,Qa,Qb,Qc,Qd,Qe,Qf,Qg,Qh,Qi,Qj,Qk,Ql,Qm,Qn,true_and,and_true,Qo,Qp,Qq,Qr,Qs,Qt,Qu,Qv,Qw,Qx,Qy,Qz,Ra,Rb,Rc,Rd,Re,Rf,Rg,Rh,Ri,Rj,Rk,Rl,Rm,Ya,Yb,Yc,Rn,Ro,Xv,Yd,Ye,Rq,Rs,Rt,Ru,Rw,Rx,Ry,Rz,Wa,Wb,Wc,Wd,We,Wf,Wg,Wh,Wi,Wj,Wl,Wm,Wn,Wp,Wq,Wr,Ws,Wt,Wu,Wv,Ww,Wx,Wy,Wz,Xa,Xb,Xc,Xd,Xe,Xf,Xg,Xh,Xi,Xj,Xk,Xl,Xm,Xn,Xo,Xp,Xq,Xr,bO,bT,bS,bP,bU,bV,List.getElem?_cons_zero,List.getElem?_cons_succ,bR,bX,bW,bY,bN,Nat.reduceAdd,Nat.reduceLT,Nat.reduceLeDiff,decide_true,decide_false,Bool.true_and,Bool.and_true,bZ,bM,Option.some.injEq,Xs,Xt,Xu,Xv]
      refine hmain [] _ _ _ List.nodup_nil (by simp) (fun x=>?_)
      cases u<;>first | exact absurd rfl hu0 | simp[Tm.kids,Tm.has,or_assoc]
theorem C9(i o:Nat):AO Tryz.prog .eql 25 (.ptr (some (i,o))) (.ptr none)=some (.bool false):=by kernel_rfl
theorem Ag(P:Program)(s:AD)(v:List AV)(x:CX)(t:TypeId)(l:List (CX×Option TypeId)):BC P s v ((x,some t)::l)=(AK P s t (CB [] v x)).bind fun u=>(BC P s v l).bind fun r=>some (u::r):=rfl
theorem Yv{S:List Tm}{t:Tm}:decide ((ix S t:Int)<0)=false:=by simp
theorem Z4{S:List Tm}{t:Tm}(h:t∈S):decide ((S.length:Int)≤(ix S t:Int))=false:=by have:=GJ h;simp;omega
def ZJ(s:AD)(S:List Tm)(t:Tm)(r:AV):Prop:=∃m,r=.agg (BV S t m)∧H6 s m t∧m<s.next
theorem JP{E:Bl}(hE:Ai E){s:AD}{p:Nat}{S:List Tm}{O:List Nat}(h:AQ s p S O){t:Tm}(ht:t∈S){K:AV→AD→Prop}
  (hK:∀r s',BD s.next s s'→ZJ s' S t r→K r s'):WF E 39 [.ptr (some (p,0)),iv (ix S t:Int)] K s:=by
 obtain⟨tv,fi,vm,OT,e⟩:=h.ex
 obtain⟨m,j,r,hvm,rfl,hjO,hjr,hln,_⟩:=e.entry h.ok (DP ht)
 obtain⟨hva,hmb,_⟩:=e.vars _ _ _ (DP ht) hvm
 obtain⟨c0,c1,c2,c3,c4,c5,c6,hc,d0,d1,d2,d3,d4,d5,d6⟩:=t.cells7 (h.ok.ok t ht)
 rw[← hjr]at hln
 have hent:BV S t m=[iv t.kind,iv t.id,iv (part S t 0),iv (part S t 1),iv (part S t 2),.str t.ktext,c0,c1,c2,c3,c4,c5,c6,iv (t.kids.length:Int),iv (t.sz:Int),.map (some m)]:=by
  simp only[BV,BI,hc,bS,bP]
 rw[hent]at hln
 refine hE.go YP (by decide) rfl ?_
 have hplt:=e.plt
 have hjlt:=e.lt j hjO
 have hobj:=e.obj
 generalize hs:s.next=b at hplt hjlt hmb hK
 have hs0:s=ext s []:=(Af s).symm
 have hfin:∀os,K (.agg (BV S t m)) (ext s os):=fun os=>hK _ _ (by rw[← hs];exact AS) ⟨m,rfl,hva.frame (Wh (by omega)),by rw[Wm,AG];omega⟩
 rw[hent]at hfin
 rw[hs0]
 simp only[az,V0,V1,V2,V3,Ts,hs,C9,Rq,Ru,Yv,Z4 ht,hplt,hjlt,hobj,IM,QQ,PA,JJ,AZ Tryz.underlying59,Ac Tryz.underlying59 JJ (GJ ht),hln,Ag,d0,d1,d2,d3,d4,d5,d6,Qa,Qb,Qc,Qd,Qe,Qf,Qg,Qh,Qi,Qj,Qk,Ql,Qm,Qn,true_and,and_true,Qo,Qp,Qq,Qr,Qs,Qt,Qu,Qv,Qw,Qx,Qy,Qz,Ra,Rb,Rc,Rd,Re,Rf,Rg,Rh,Ri,Rj,Rk,Rl,Rm,Ya,Yb,Yc,Rn,Ro,Xv,Yd,Ye,Rq,Rs,Rt,Ru,Rw,Rx,Ry,Rz,Wa,Wb,Wc,Wd,We,Wf,Wg,Wh,Wi,Wj,Wl,Wm,Wn,Wp,Wq,Wr,Ws,Wt,Wu,Wv,Ww,Wx,Wy,Wz,Xa,Xb,Xc,Xd,Xe,Xf,Xg,Xh,Xi,Xj,Xk,Xl,Xm,Xn,Xo,Xp,Xq,Xr,bO,bT,bS,bP,bU,bV,List.getElem?_cons_zero,List.getElem?_cons_succ,bR,bX,bW,bY,bN,Nat.reduceAdd,Nat.reduceLT,Nat.reduceLeDiff,decide_true,decide_false,Bool.true_and,Bool.and_true,bZ,bM,Option.some.injEq,Xs,Xt,Xu,Xv]
 exact hfin _
section
variable{E:Bl}(hE:Ai E){s:AD}{p:Nat}{S:List Tm}{O:List Nat}(h:AQ s p S O){t:Tm}(ht:t∈S){K:AV→AD→Prop}
include hE h ht
theorem UR(hK:∀s',BD s.next s s'→K (iv t.kind) s'):WF E 19 [.ptr (some (p,0)),iv (ix S t:Int)] K s:=by
 refine hE.go YE (by decide) rfl ?_
 simp only[ai,VP,Qa,Qb,Qc,Qd,Qe,Qf,Qg,Qh,Qi,Qj,Qk,Ql,Qm,Qn,true_and,and_true,Qo,Qp,Qq,Qr,Qs,Qt,Qu,Qv,Qw,Qx,Qy,Qz,Ra,Rb,Rc,Rd,Re,Rf,Rg,Rh,Ri,Rj,Rk,Rl,Rm,Ya,Yb,Yc,Rn,Ro,Xv,Yd,Ye,Rq,Rs,Rt,Ru,Rw,Rx,Ry]
 simp only[VQ,Qa,Qb,Qc,Qd,Qe,Qf,Qg,Qh,Qi,Qj,Qk,Ql,Qm,Qn,true_and,and_true,Qo,Qp,Qq,Qr,Qs,Qt,Qu,Qv,Qw,Qx,Qy,Qz,Ra,Rb,Rc,Rd,Re,Rf,Rg,Rh,Ri,Rj,Rk,Rl,Rm,Ya,Yb,Yc,Rn,Ro,Xv,Yd,Ye,Rq,Rs,Rt,Ru,Rw,Rx,Ry]
 refine JP hE h ht fun r s' ho he=>?_
 obtain⟨m,rfl,_,_⟩:=he
 simp only[Qa,Qb,Qc,Qd,Qe,Qf,Qg,Qh,Qi,Qj,Qk,Ql,Qm,Qn,true_and,and_true,Qo,Qp,Qq,Qr,Qs,Qt,Qu,Qv,Qw,Qx,Qy,Qz,Ra,Rb,Rc,Rd,Re,Rf,Rg,Rh,Ri,Rj,Rk,Rl,Rm,Ya,Yb,Yc,Rn,Ro,Xv,Yd,Ye,Rq,Rs,Rt,Ru,Rw,Rx,Ry,BV,BI,Sb,Yo,Rz,Wa,Wb,Wc,Wd,We,Wf,Wg,Wh,Wi,Wj,Wl,Wm,Wn,Wp,Wq,Wr,Ws,Wt,Wu,Wv,Ww,Wx,Wy,Wz,Xa,Xb,Xc,Xd,Xe,Xf,Xg,Xh,Xi,Xj,Xk,Xl,Xm,Xn,Xo,Xp,Xq,Xr,bO,bT,bS,bP,bU,bV,List.getElem?_cons_zero,List.getElem?_cons_succ,bR,bX,bW,bY,bN,Nat.reduceAdd,Nat.reduceLT,Nat.reduceLeDiff,decide_true,decide_false,Bool.true_and,Bool.and_true,bZ,bM,Option.some.injEq,Xs,Xt,Xu,Xv]
 exact hK s' ho
theorem Z5(hK:∀s',BD s.next s s'→K (iv t.id) s'):WF E 20 [.ptr (some (p,0)),iv (ix S t:Int)] K s:=by
 refine hE.go YF (by decide) rfl ?_
 simp only[aj,VR,Qa,Qb,Qc,Qd,Qe,Qf,Qg,Qh,Qi,Qj,Qk,Ql,Qm,Qn,true_and,and_true,Qo,Qp,Qq,Qr,Qs,Qt,Qu,Qv,Qw,Qx,Qy,Qz,Ra,Rb,Rc,Rd,Re,Rf,Rg,Rh,Ri,Rj,Rk,Rl,Rm,Ya,Yb,Yc,Rn,Ro,Xv,Yd,Ye,Rq,Rs,Rt,Ru,Rw,Rx,Ry]
 simp only[VS,Qa,Qb,Qc,Qd,Qe,Qf,Qg,Qh,Qi,Qj,Qk,Ql,Qm,Qn,true_and,and_true,Qo,Qp,Qq,Qr,Qs,Qt,Qu,Qv,Qw,Qx,Qy,Qz,Ra,Rb,Rc,Rd,Re,Rf,Rg,Rh,Ri,Rj,Rk,Rl,Rm,Ya,Yb,Yc,Rn,Ro,Xv,Yd,Ye,Rq,Rs,Rt,Ru,Rw,Rx,Ry]
 refine JP hE h ht fun r s' ho he=>?_
 obtain⟨m,rfl,_,_⟩:=he
 simp only[Qa,Qb,Qc,Qd,Qe,Qf,Qg,Qh,Qi,Qj,Qk,Ql,Qm,Qn,true_and,and_true,Qo,Qp,Qq,Qr,Qs,Qt,Qu,Qv,Qw,Qx,Qy,Qz,Ra,Rb,Rc,Rd,Re,Rf,Rg,Rh,Ri,Rj,Rk,Rl,Rm,Ya,Yb,Yc,Rn,Ro,Xv,Yd,Ye,Rq,Rs,Rt,Ru,Rw,Rx,Ry,BV,BI,Sb,Yp,Rz,Wa,Wb,Wc,Wd,We,Wf,Wg,Wh,Wi,Wj,Wl,Wm,Wn,Wp,Wq,Wr,Ws,Wt,Wu,Wv,Ww,Wx,Wy,Wz,Xa,Xb,Xc,Xd,Xe,Xf,Xg,Xh,Xi,Xj,Xk,Xl,Xm,Xn,Xo,Xp,Xq,Xr,bO,bT,bS,bP,bU,bV,List.getElem?_cons_zero,List.getElem?_cons_succ,bR,bX,bW,bY,bN,Nat.reduceAdd,Nat.reduceLT,Nat.reduceLeDiff,decide_true,decide_false,Bool.true_and,Bool.and_true,bZ,bM,Option.some.injEq,Xs,Xt,Xu,Xv]
 exact hK s' ho
theorem Ul(hK:∀s',BD s.next s s'→K (iv (t.sz:Int)) s'):WF E 15 [.ptr (some (p,0)),iv (ix S t:Int)] K s:=by
 refine hE.go YA (by decide) rfl ?_
 simp only[ae,U8,Qa,Qb,Qc,Qd,Qe,Qf,Qg,Qh,Qi,Qj,Qk,Ql,Qm,Qn,true_and,and_true,Qo,Qp,Qq,Qr,Qs,Qt,Qu,Qv,Qw,Qx,Qy,Qz,Ra,Rb,Rc,Rd,Re,Rf,Rg,Rh,Ri,Rj,Rk,Rl,Rm,Ya,Yb,Yc,Rn,Ro,Xv,Yd,Ye,Rq,Rs,Rt,Ru,Rw,Rx,Ry]
 simp only[U9,Qa,Qb,Qc,Qd,Qe,Qf,Qg,Qh,Qi,Qj,Qk,Ql,Qm,Qn,true_and,and_true,Qo,Qp,Qq,Qr,Qs,Qt,Qu,Qv,Qw,Qx,Qy,Qz,Ra,Rb,Rc,Rd,Re,Rf,Rg,Rh,Ri,Rj,Rk,Rl,Rm,Ya,Yb,Yc,Rn,Ro,Xv,Yd,Ye,Rq,Rs,Rt,Ru,Rw,Rx,Ry]
 refine JP hE h ht fun r s' ho he=>?_
 obtain⟨m,rfl,_,_⟩:=he
 obtain⟨c0,c1,c2,c3,c4,c5,c6,hc,_⟩:=t.cells7 (h.ok.ok t ht)
 simp only[Qa,Qb,Qc,Qd,Qe,Qf,Qg,Qh,Qi,Qj,Qk,Ql,Qm,Qn,true_and,and_true,Qo,Qp,Qq,Qr,Qs,Qt,Qu,Qv,Qw,Qx,Qy,Qz,Ra,Rb,Rc,Rd,Re,Rf,Rg,Rh,Ri,Rj,Rk,Rl,Rm,Ya,Yb,Yc,Rn,Ro,Xv,Yd,Ye,Rq,Rs,Rt,Ru,Rw,Rx,Ry,BV,BI,hc,Yr,Rz,Wa,Wb,Wc,Wd,We,Wf,Wg,Wh,Wi,Wj,Wl,Wm,Wn,Wp,Wq,Wr,Ws,Wt,Wu,Wv,Ww,Wx,Wy,Wz,Xa,Xb,Xc,Xd,Xe,Xf,Xg,Xh,Xi,Xj,Xk,Xl,Xm,Xn,Xo,Xp,Xq,Xr,bO,bT,bS,bP,bU,bV,List.getElem?_cons_zero,List.getElem?_cons_succ,bR,bX,bW,bY,bN,Nat.reduceAdd,Nat.reduceLT,Nat.reduceLeDiff,decide_true,decide_false,Bool.true_and,Bool.and_true,bZ,bM,Option.some.injEq,Xs,Xt,Xu,Xv]
 exact hK s' ho
theorem Tj(hK:∀s',BD s.next s s'→K (.agg t.cells) s'):WF E 23 [.ptr (some (p,0)),iv (ix S t:Int)] K s:=by
 obtain⟨c0,c1,c2,c3,c4,c5,c6,hc,d0,d1,d2,d3,d4,d5,d6⟩:=t.cells7 (h.ok.ok t ht)
 rw[hc]at hK
 refine hE.go YI (by decide) rfl ?_
 generalize hs:s.next=b at hK
 have hs0:s=ext s []:=(Af s).symm
 have hat:=fun os (K:AV→AD→Prop)=>JP (K:=K) hE (h.old (AS (os:=os))) ht
 rw[hs0]
 simp only[ao,Va,Vb,ZC,hs,Qa,Qb,Qc,Qd,Qe,Qf,Qg,Qh,Qi,Qj,Qk,Ql,Qm,Qn,true_and,and_true,Qo,Qp,Qq,Qr,Qs,Qt,Qu,Qv,Qw,Qx,Qy,Qz,Ra,Rb,Rc,Rd,Re,Rf,Rg,Rh,Ri,Rj,Rk,Rl,Rm,Ya,Yb,Yc,Rn,Ro,Xv,Yd,Ye,Rq,Rs,Rt,Ru,Rw,Rx,Ry,Rz,Wa,Wb,Wc,Wd,We,Wf,Wg,Wh,Wi,Wj,Wl,Wm,Wn,Wp,Wq,Wr,Ws,Wt,Wu,Wv,Ww,Wx,Wy,Wz,Xa,Xb,Xc,Xd,Xe,Xf,Xg,Xh,Xi,Xj,Xk,Xl,Xm,Xn,Xo,Xp,Xq,Xr,bO,bT,bS,bP,bU,bV,List.getElem?_cons_zero,List.getElem?_cons_succ,bR,bX,bW,bY,bN,Nat.reduceAdd,Nat.reduceLT,Nat.reduceLeDiff,decide_true,decide_false,Bool.true_and,Bool.and_true,bZ,bM,Option.some.injEq,Xs,Xt,Xu,Xv]
 refine hat _ _ fun r s' ho he=>?_
 obtain⟨m,rfl,_,_⟩:=he
 have hg:s'.heap.get (nid b 0)=some (R 43 0 false [.int .i64 0,.bool false,.str [],.str [],.slice none 0 (some 0),.slice none 0 (some 0),.int .i64 0]):=by
  rw[ho.2 _ (by rw[Wm,hs,AG,AG];simp),Wg hs (by simp)];rfl
 have hb:BD b s (setObj s' (nid b 0) (R 43 0 false [c0,c1,c2,c3,c4,c5,c6])):=by
  refine⟨?_,fun j hj=>?_⟩
  ·have:=ho.1;rw[Wm,AG]at this;rw[Wp];omega
  ·rw[Wr _ (by rw[AG];omega),ho.2 j (by rw[Wm,AG];omega),Wh (by omega)]
 have:=hK _ hb
 simp only[Qa,Qb,Qc,Qd,Qe,Qf,Qg,Qh,Qi,Qj,Qk,Ql,Qm,Qn,true_and,and_true,Qo,Qp,Qq,Qr,Qs,Qt,Qu,Qv,Qw,Qx,Qy,Qz,Ra,Rb,Rc,Rd,Re,Rf,Rg,Rh,Ri,Rj,Rk,Rl,Rm,Ya,Yb,Yc,Rn,Ro,Xv,Yd,Ye,Rq,Rs,Rt,Ru,Rw,Rx,Ry,BV,BI,hc,Yq,HF,Hl,hg,d0,d1,d2,d3,d4,d5,d6,Ag,Rz,Wa,Wb,Wc,Wd,We,Wf,Wg,Wh,Wi,Wj,Wl,Wm,Wn,Wp,Wq,Wr,Ws,Wt,Wu,Wv,Ww,Wx,Wy,Wz,Xa,Xb,Xc,Xd,Xe,Xf,Xg,Xh,Xi,Xj,Xk,Xl,Xm,Xn,Xo,Xp,Xq,Xr,bO,bT,bS,bP,bU,bV,List.getElem?_cons_zero,List.getElem?_cons_succ,bR,bX,bW,bY,bN,Nat.reduceAdd,Nat.reduceLT,Nat.reduceLeDiff,decide_true,decide_false,Bool.true_and,Bool.and_true,bZ,bM,Option.some.injEq,Xs,Xt,Xu,Xv]
 exact this
end
def C8(l:List Int):List AV:=l.map iv
theorem OY(l:List Int):AW (C8 l)=true:=by
 induction l with
 | nil=>rfl
 | cons a l ih=>exact ih
theorem Dg(l:List Int):(C8 l).length=l.length:=bp ..
theorem OZ{l:List Int}{k:Nat}{x:Int}(h:l[k]? = some x):(C8 l)[k]? = some (iv x):=by rw[C8,b3,h];rfl
def A0(s:AD)(v:AV)(l:List Int):Prop:=
 (l=[]∧v=.slice none 0 (some 0))∨∃j q cap,v=.slice (some (j,q)) l.length cap∧j<s.next∧A1 (s.heap.get j) q l.length=some (C8 l)
theorem A0.old{s s':AD}{v:AV}{l:List Int}(h:A0 s v l)(k:BD s.next s s'):A0 s' v l:=by
 rcases h with h | ⟨j,q,cap,h2,h3,h4⟩
 ·exact .inl h
 ·exact .inr ⟨j,q,cap,h2,bi h3 k.1,by rw[k.2 j h3];exact h4⟩
theorem A0.at{s:AD}{l:List Int}{v:AV}(h:A0 s v l){k:Nat}{x:Int}(hk:l[k]? = some x):∃j q cap,v=.slice (some (j,q)) l.length cap∧j<s.next∧Cz (s.heap.get j) (q+k)=some (iv x):=by
 rcases h with⟨rfl,rfl⟩ | ⟨j,q,cap,rfl,h1,h2⟩
 ·simp at hk
 ·have hlt:k<l.length:=by
   rcases be k l.length with h' | h'
   ·exact h'
   ·rw[bh h']at hk;cases hk
  exact⟨j,q,cap,rfl,h1,by rw[Lr h2 hlt];exact OZ hk⟩
theorem A0.len{s:AD}{l:List Int}{v:AV}(h:A0 s v l)(s':AD):BY Tryz.prog s' 27 v=some (iv (l.length:Int)):=by
 rcases h with⟨rfl,rfl⟩ | ⟨j,q,cap,rfl,_⟩<;>exact AZ Tryz.underlying27
theorem A0.parts{s:AD}{S l:List Tm}{v:AV}(h:A0 s v (l.map fun t=>(ix S t:Int)))(h0:0<l.length):Bd s S l v:=by
 have he:C8 (l.map fun t=>(ix S t:Int))=Eu S l:=by simp[C8,Eu]
 rcases h with⟨h1,rfl⟩ | ⟨j,q,cap,rfl,h1,h2⟩
 ·exact .inl ⟨by simpa using h1,rfl⟩
 ·rw[he,bp]at h2
  exact .inr ⟨j,q,cap,by rw[bp],h0,h1,h2⟩
theorem J0:Aa Tryz.prog 27 0 (zipIdx [] [])=some (R 3 1 false []):=by kernel_rfl
theorem Lj(j q n:Nat)(cap:Option Nat):AO Tryz.prog .eql 27 (.slice (some (j,q)) n cap) (.slice none 0 (some 0))=some (.bool false):=by kernel_rfl
theorem Tq:Bv Tryz.prog 3 1=true:=by kernel_rfl
theorem O7:BH Tryz.prog 27=true:=by kernel_rfl
theorem MR{s:AD}{v:AV}{l:List Int}(h:A0 s v l):B3 Tryz.prog s 3 1 v=some (l.length,C8 l):=by
  rcases h with⟨rfl,rfl⟩ | ⟨j,q,cap,rfl,h1,h2⟩
  · rfl
  · show(I2 s j q l.length 1).bind _=_
    by_cases h0:l.length=0
    · have:l=[]:=cQ h0
      subst this
      rfl
    · rw [show I2   s j q l.length 1 = BG    s j q (l.length * 1) from by unfold I2;   rw [Hq      h0]; rfl, b0,          Co,      h2]
      rfl
theorem LH{s:AD}{i:Nat}{sp:Bool}{v:AV}{l:List Int}(hi:s.heap.get i=some (R 3 1 sp []))(h:A0 s v l)(h0:0<l.length)(hl:l.length≤1000000):
  Ay Tryz.prog s [27,27] [.slice (some (i,0)) 0 (some 0),v]=some (.slice (some (s.next,0)) l.length none,newObj s (R 3 1 true (C8 l))):=by
 have hsrc:=MR h
 have hv:∃a n c,v=.slice a n c:=by
  rcases h with⟨_,rfl⟩ | ⟨_,_,_,rfl,_⟩<;>exact⟨_,_,_,rfl⟩
 obtain⟨a,n,c,rfl⟩:=hv
 have h1:Nat.ble (l.length * 8) 1099511627776=true:=CM (by omega)
 have h2:Nat.ble l.length 1099511627776=true:=CM (by omega)
 have h3:Nat.ble l.length 0=false:=N0 (by omega)
 have h4:BG s i 0 (0 * 1)=some []:=by
  rw[Co,hi];rfl
 simp only[Ay,Tryz.underlying27,Fy,ab,Option.bind_some,hsrc,O7,OY,h1,h2,appTo,F3,h3,h4,cond_false,Bp,Tq,bP,Xa,Bool.and_self,bN]
 rfl
theorem LX{E:Bl}(hE:Ai E){s:AD}{v:AV}{l:List Int}(h:A0 s v l)(h0:0<l.length)(hl:l.length≤1000000){K:AV→AD→Prop}
  (hK:K (.slice (some (nid s.next 1,0)) l.length none) (ext s [R 3 1 false [],R 3 1 true (C8 l)])):WF E 43 [v] K s:=by
 refine hE.go SL (by decide) rfl ?_
 have hv:∃j q c,v=.slice (some (j,q)) l.length c:=by
  rcases h with⟨rfl,_⟩ | ⟨_,_,_,rfl,_⟩
  ·cases h0
  ·exact⟨_,_,_,rfl⟩
 obtain⟨j,q,c,rfl⟩:=hv
 generalize hs:s.next=b at hK
 have hs0:s=ext s []:=(Af s).symm
 have happ:=LH (s:=ext s [R 3 1 false []]) (i:=nid b 0) (by rw[Wg hs (by simp)];rfl) (h.old AS) h0 hl
 rw[Wm,hs,Wl]at happ
 rw[hs0]
 simp only[aO,RR,RU,RV,Lj,J0,hs,happ,Qa,Qb,Qc,Qd,Qe,Qf,Qg,Qh,Qi,Qj,Qk,Ql,Qm,Qn,true_and,and_true,Qo,Qp,Qq,Qr,Qs,Qt,Qu,Qv,Qw,Qx,Qy,Qz,Ra,Rb,Rc,Rd,Re,Rf,Rg,Rh,Ri,Rj,Rk,Rl,Rm,Ya,Yb,Yc,Rn,Ro,Xv,Yd,Ye,Rq,Rs,Rt,Ru,Rw,Rx,Ry,Rz,Wa,Wb,Wc,Wd,We,Wf,Wg,Wh,Wi,Wj,Wl,Wm,Wn,Wp,Wq,Wr,Ws,Wt,Wu,Wv,Ww,Wx,Wy,Wz,Xa,Xb,Xc,Xd,Xe,Xf,Xg,Xh,Xi,Xj,Xk,Xl,Xm,Xn,Xo,Xp,Xq,Xr,bO,bT,bS,bP,bU,bV,List.getElem?_cons_zero,List.getElem?_cons_succ,bR,bX,bW,bY,bN,Nat.reduceAdd,Nat.reduceLT,Nat.reduceLeDiff,decide_true,decide_false,Bool.true_and,Bool.and_true,bZ,bM,Option.some.injEq,Xs,Xt,Xu,Xv]
 exact hK
theorem Ta{s:AD}{i o n:Nat}(h:n=0∨n=2∨n=3):Ar Tryz.prog 44 false true false s [.ptr (some (i,o)),iv (n:Int)]=some (.slice (some (i,o)) n (some 3)):=by
 have h0:Ar Tryz.prog 44 false true false s [.ptr (some (i,o)),iv 0]=some (.slice (some (i,o+0 * 1)) 0 (some 3)):=by kernel_rfl
 have h2:Ar Tryz.prog 44 false true false s [.ptr (some (i,o)),iv 2]=some (.slice (some (i,o+0 * 1)) 2 (some 3)):=by kernel_rfl
 have h3:Ar Tryz.prog 44 false true false s [.ptr (some (i,o)),iv 3]=some (.slice (some (i,o+0 * 1)) 3 (some 3)):=by kernel_rfl
 rcases h with rfl | rfl | rfl
 ·exact h0
 ·exact h2
 ·exact h3
theorem ND(t:Tm):t.kids.length=0∨t.kids.length=2∨t.kids.length=3:=by cases t<;>simp[Tm.kids]
def GL(S:List Tm)(t:Tm):List Int:=t.kids.map fun u=>(ix S u:Int)
theorem CD(S:List Tm)(t:Tm):(GL S t).length=t.kids.length:=bp ..
theorem PN{E:Bl}(hE:Ai E){s:AD}{j q:Nat}{c:Option Nat}{K:AV→AD→Prop}
  (hK:K (.slice (some (nid s.next 0,0)) 0 (some 0)) (ext s [R 3 1 false []])):WF E 43 [.slice (some (j,q)) 0 c] K s:=by
 refine hE.go SL (by decide) rfl ?_
 generalize hs:s.next=b at hK
 have hs0:s=ext s []:=(Af s).symm
 have happ:∀ (s':AD) (i:Nat),Ay Tryz.prog s' [27,27] [.slice (some (i,0)) 0 (some 0),.slice (some (j,q)) 0 c]=some (.slice (some (i,0)) 0 (some 0),s'):=fun s' i=>by kernel_rfl
 rw[hs0]
 simp only[aO,RR,RU,RV,Lj,J0,hs,happ,Qa,Qb,Qc,Qd,Qe,Qf,Qg,Qh,Qi,Qj,Qk,Ql,Qm,Qn,true_and,and_true,Qo,Qp,Qq,Qr,Qs,Qt,Qu,Qv,Qw,Qx,Qy,Qz,Ra,Rb,Rc,Rd,Re,Rf,Rg,Rh,Ri,Rj,Rk,Rl,Rm,Ya,Yb,Yc,Rn,Ro,Xv,Yd,Ye,Rq,Rs,Rt,Ru,Rw,Rx,Ry,Rz,Wa,Wb,Wc,Wd,We,Wf,Wg,Wh,Wi,Wj,Wl,Wm,Wn,Wp,Wq,Wr,Ws,Wt,Wu,Wv,Ww,Wx,Wy,Wz,Xa,Xb,Xc,Xd,Xe,Xf,Xg,Xh,Xi,Xj,Xk,Xl,Xm,Xn,Xo,Xp,Xq,Xr,bO,bT,bS,bP,bU,bV,List.getElem?_cons_zero,List.getElem?_cons_succ,bR,bX,bW,bY,bN,Nat.reduceAdd,Nat.reduceLT,Nat.reduceLeDiff,decide_true,decide_false,Bool.true_and,Bool.and_true,bZ,bM,Option.some.injEq,Xs,Xt,Xu,Xv]
 exact hK
section
variable{E:Bl}(hE:Ai E){s:AD}{p:Nat}{S:List Tm}{O:List Nat}(h:AQ s p S O){t:Tm}(ht:t∈S){K:AV→AD→Prop}
include hE h ht
theorem UQ(hK:∀v s',BD s.next s s'→A0 s' v (GL S t)→K v s'):WF E 18 [.ptr (some (p,0)),iv (ix S t:Int)] K s:=by
  obtain⟨c0,c1,c2,c3,c4,c5,c6,hc,d0,d1,d2,d3,d4,d5,d6⟩:=t.cells7 (h.ok.ok t ht)
  refine hE.go YD (by decide) rfl ?_
  simp only[ah,VM,VN,Qa,Qb,Qc,Qd,Qe,Qf,Qg,Qh,Qi,Qj,Qk,Ql,Qm,Qn,true_and,and_true,Qo,Qp,Qq,Qr,Qs,Qt,Qu,Qv,Qw,Qx,Qy,Qz,Ra,Rb,Rc,Rd,Re,Rf,Rg,Rh,Ri,Rj,Rk,Rl,Rm,Ya,Yb,Yc,Rn,Ro,Xv,Yd,Ye,Rq,Rs,Rt,Ru,Rw,Rx,Ry,Rz,Wa,Wb,Wc,Wd,We,Wf,Wg,Wh,Wi,Wj,Wl,Wm,Wn,Wp,Wq,Wr,Ws,Wt,Wu,Wv,Ww,Wx,Wy,Wz,Xa,Xb,Xc,Xd,Xe,Xf,Xg,Xh,Xi,Xj,Xk,Xl,Xm,Xn,Xo,Xp,Xq,Xr,bO,bT,bS,bP,bU,bV,List.getElem?_cons_zero,List.getElem?_cons_succ,bR,bX,bW,bY,bN,Nat.reduceAdd,Nat.reduceLT,Nat.reduceLeDiff,decide_true,decide_false,Bool.true_and,Bool.and_true,bZ,bM,Option.some.injEq,Xs,Xt,Xu,Xv]
  refine JP hE h ht fun r s' ho he=>?_
  obtain⟨m,rfl,_,_⟩:=he
  generalize hs:s'.next=b
  have hs0:s'=ext s' []:=(Af s').symm
  rw[hs0]
  simp only[Qa,Qb,Qc,Qd,Qe,Qf,Qg,Qh,Qi,Qj,Qk,Ql,Qm,Qn,true_and,and_true,Qo,Qp,Qq,Qr,Qs,Qt,Qu,Qv,Qw,Qx,Qy,Qz,Ra,Rb,Rc,Rd,Re,Rf,Rg,Rh,Ri,Rj,Rk,Rl,Rm,Ya,Yb,Yc,Rn,Ro,Xv,Yd,Ye,Rq,Rs,Rt,Ru,Rw,Rx,Ry,VO,BV,BI,hc,Ts,JJ,PA,C3,Gv,M5,Kd,hs,d0,d1,d2,d3,d4,d5,d6,Ta (ND t),Rz,Wa,Wb,Wc,Wd,We,Wf,Wg,Wh,Wi,Wj,Wl,Wm,Wn,Wp,Wq,Wr,Ws,Wt,Wu,Wv,Ww,Wx,Wy,Wz,Xa,Xb,Xc,Xd,Xe,Xf,Xg,Xh,Xi,Xj,Xk,Xl,Xm,Xn,Xo,Xp,Xq,Xr,bO,bT,bS,bP,bU,bV,List.getElem?_cons_zero,List.getElem?_cons_succ,bR,bX,bW,bY,bN,Nat.reduceAdd,Nat.reduceLT,Nat.reduceLeDiff,decide_true,decide_false,Bool.true_and,Bool.and_true,bZ,bM,Option.some.injEq,Xs,Xt,Xu,Xv]
  generalize hs2:ext s' _=s2
  have hold:BD s'.next s' s2:=by rw[← hs2];exact AS
  have hn2:s2.next=nid b 1:=by rw[← hs2,Wm,hs];rfl
  have ho2:BD s.next s s2:=ho.trans (hold.mono ho.1)
  have hfin:∀os v,A0 (ext s2 os) v (GL S t)→K v (ext s2 os):=fun os v hv=>hK _ _ (ho2.trans (AS.mono ho2.1)) hv
  rcases cD t.kids.length with h0 | h0
  · have hk0:GL S t=[]:=cQ (by rw[CD];exact h0)
    rw[h0]
    refine PN hE ?_
    simp only[Qa,Qb,Qc,Qd,Qe,Qf,Qg,Qh,Qi,Qj,Qk,Ql,Qm,Qn,true_and,and_true,Qo,Qp,Qq,Qr,Qs,Qt,Qu,Qv,Qw,Qx,Qy,Qz,Ra,Rb,Rc,Rd,Re,Rf,Rg,Rh,Ri,Rj,Rk,Rl,Rm,Ya,Yb,Yc,Rn,Ro,Xv,Yd,Ye,Rq,Rs,Rt,Ru,Rw,Rx,Ry,Rz,Wa,Wb,Wc,Wd,We,Wf,Wg,Wh,Wi,Wj,Wl,Wm,Wn,Wp,Wq,Wr,Ws,Wt,Wu,Wv,Ww,Wx,Wy,Wz,Xa,Xb,Xc,Xd,Xe,Xf,Xg,Xh,Xi,Xj,Xk,Xl,Xm,Xn,Xo,Xp,Xq,Xr,bO,bT,bS,bP,bU,bV,List.getElem?_cons_zero,List.getElem?_cons_succ,bR,bX,bW,bY,bN,Nat.reduceAdd,Nat.reduceLT,Nat.reduceLeDiff,decide_true,decide_false,Bool.true_and,Bool.and_true,bZ,bM,Option.some.injEq,Xs,Xt,Xu,Xv]
    refine hfin _ _ (.inr ⟨nid s2.next 0,0,some 0,by rw[hk0];rfl,by rw[Wm,AG,AG];simp,by rw[Wg rfl (by simp),hk0];exact Wj (by simp)⟩)
  · refine LX       hE (l := GL    S t) (.inr ⟨nid b 0, 2, some 3, by rw [CD],        by rw [hn2, AG,     AG];     omega, ?_⟩) (by rw [CD];        exact h0) (by rw [CD];        have := DQ         t; omega) ?_
    · rw[← hs2,Wg hs (by simp),CD]
      show A1 (some (R _ _ _ _)) _ _=_
      rw[Wj (by simp;have:=DQ t;omega)]
      cases t<;>rfl
    · rw[CD]
      simp only[Qa,Qb,Qc,Qd,Qe,Qf,Qg,Qh,Qi,Qj,Qk,Ql,Qm,Qn,true_and,and_true,Qo,Qp,Qq,Qr,Qs,Qt,Qu,Qv,Qw,Qx,Qy,Qz,Ra,Rb,Rc,Rd,Re,Rf,Rg,Rh,Ri,Rj,Rk,Rl,Rm,Ya,Yb,Yc,Rn,Ro,Xv,Yd,Ye,Rq,Rs,Rt,Ru,Rw,Rx,Ry,Rz,Wa,Wb,Wc,Wd,We,Wf,Wg,Wh,Wi,Wj,Wl,Wm,Wn,Wp,Wq,Wr,Ws,Wt,Wu,Wv,Ww,Wx,Wy,Wz,Xa,Xb,Xc,Xd,Xe,Xf,Xg,Xh,Xi,Xj,Xk,Xl,Xm,Xn,Xo,Xp,Xq,Xr,bO,bT,bS,bP,bU,bV,List.getElem?_cons_zero,List.getElem?_cons_succ,bR,bX,bW,bY,bN,Nat.reduceAdd,Nat.reduceLT,Nat.reduceLeDiff,decide_true,decide_false,Bool.true_and,Bool.and_true,bZ,bM,Option.some.injEq,Xs,Xt,Xu,Xv]
      refine hfin _ _ (.inr ⟨nid s2.next 1,0,none,by rw[CD],by rw[Wm,AG,AG];simp,by rw[Wg rfl (by simp)];exact(Wj (by rw[Dg,bN];exact bM _)).trans (by rw[bR,bw (by rw[Dg];exact bM _)])⟩)
end
theorem Nk(l:List Nat):BX l l=true:=D5.2 rfl
theorem Yi:∀n,n<13→LC (.agg (Tm.con n).cells) (.agg (Tm.con n).cells)=true:=by
 intro n h
 have:n=0∨n=1∨n=2∨n=3∨n=4∨n=5∨n=6∨n=7∨n=8∨n=9∨n=10∨n=11∨n=12:=by omega
 rcases this with rfl | rfl | rfl | rfl | rfl | rfl | rfl | rfl | rfl | rfl | rfl | rfl | rfl<;>rfl
theorem BF{s:AD}{loc var:List AV}{f:AD→AV→Option AV}{x ans:CX}(h:f s (CB loc var x)=some (CB loc var ans))(he:LC (CB loc var ans) (CB loc var ans)=true):EW s loc var ⟨none,.r1 f,[x],ans⟩=true:=by
 unfold EW
 show(!true || Xz (f s (CB loc var x)) (CB loc var ans))=true
 rw[h]
 exact he
theorem BM:∀n,n<13→∃tag c1 c2 c3 c5 c6,(Tm.con n).cells=[iv tag,c1,c2,c3,.slice none 0 (some 0),c5,c6]∧decide (tag=5)=false∧c1.isCell=true∧c2.isCell=true∧c3.isCell=true∧c5.isCell=true∧c6.isCell=true:=by
 intro n h
 have:n=0∨n=1∨n=2∨n=3∨n=4∨n=5∨n=6∨n=7∨n=8∨n=9∨n=10∨n=11∨n=12:=by omega
 rcases this with rfl | rfl | rfl | rfl | rfl | rfl | rfl | rfl | rfl | rfl | rfl | rfl | rfl<;>exact⟨_,_,_,_,_,_,rfl,by decide,rfl,rfl,rfl,rfl,rfl⟩
theorem Le:∀n,n<13→CC CE 44 [.agg (Tm.con n).cells]=some (.bool true)∧CC CE 30 [.agg (Tm.con n).cells]=some (.str (Tm.con n).ktext):=by
 intro n h
 have:n=0∨n=1∨n=2∨n=3∨n=4∨n=5∨n=6∨n=7∨n=8∨n=9∨n=10∨n=11∨n=12:=by omega
 rcases this with rfl | rfl | rfl | rfl | rfl | rfl | rfl | rfl | rfl | rfl | rfl | rfl | rfl<;>exact⟨by kernel_rfl,by kernel_rfl⟩
def By(s:AD)(O:List Nat):Prop:=CV s 1 A7=true∧1<s.next∧1 ∉ O
theorem BN{s s':AD}{g:Nat}{cells:List AV}(h:s'.heap.get g=s.heap.get g):CV s' g cells=CV s g cells:=by unfold CV;rw[h]
theorem By.step{s s':AD}{O O':List Nat}(h:By s O)(f:DG O s s')(g:Aj O O' s):By s' O':=
 ⟨by rw[BN (f.2 1 h.2.1 h.2.2)];exact h.1,bi h.2.1 f.1,fun hm=>(g 1 hm).elim h.2.2 (fun hl=>by have:=h.2.1;omega)⟩
theorem By.old{s s':AD}{O:List Nat}(h:By s O)(k:BD s.next s s'):By s' O:=h.step (k.frO O) (Aj.refl O s)
theorem NW{E:Bl}(hE:Ai E){s:AD}(hg:CV s 1 A7=true){n:Nat}(hn:n<13){K:AV→AD→Prop}(hK:K (.bool true) s):WF E 44 [.agg (Tm.con n).cells] K s:=by
 refine WF.native (hE.tab _ _ _ (.bool true,s) ?_) hK
 have h1:=(Le n hn).1
 have h2:B5 44 [.agg (Tm.con n).cells] s=(CC CE 44 [.agg (Tm.con n).cells]).bind fun r=>AF (CV s 1 A7) (some (r,s)):=rfl
 unfold Fm
 rw[h2,h1,Option.bind_some,hg]
 rfl
theorem QH{E:Bl}(hE:Ai E){s:AD}(hg:CV s 1 A7=true){n:Nat}(hn:n<13){K:AV→AD→Prop}(hK:K (.str (Tm.con n).ktext) s):WF E 30 [.agg (Tm.con n).cells] K s:=by
 refine WF.native (hE.tab _ _ _ (.str (Tm.con n).ktext,s) ?_) hK
 have h1:=(Le n hn).2
 have h2:B5 30 [.agg (Tm.con n).cells] s=(CC CE 30 [.agg (Tm.con n).cells]).bind fun r=>AF (CV s 1 A7) (some (r,s)):=rfl
 unfold Fm
 rw[h2,h1,Option.bind_some,hg]
 rfl
theorem Ew{E:Bl}(hE:Ai E){s s1:AD}{p:Nat}{S:List Tm}{O:List Nat}(h:AQ s p S O)(hsm:S.length<100000)(ho1:BD s.next s s1)(u:Tm)(hk:∀k∈u.kids,k∈S)(ho:u.ok){pv:AV}(hp:Bd s1 S u.kids pv){K:AV→AD→Prop}
  (hK:∀s' O',AQ s' p (push S u) O'→DG O s s'→Aj O O' s→K (iv (ix (push S u) u:Int)) s'):
  WF E 32 [.ptr (some (p,0)),.agg [iv u.kind,iv u.id,iv 0,iv 0,iv 0,.str u.ktext],.agg u.cells,pv] K s1:=by
 refine(Ur hE (h.old ho1) hsm u hk ho hp).mono ?_
 rintro r s' ⟨rfl,O',h1,h2,h3⟩
 exact hK s' O' h1 ((ho1.frO O).trans h2 (Aj.refl O s)) (Aj.trans (Aj.refl O s) h3 ho1.1)
theorem ZN:Da Tryz.prog 39=some false:=by kernel_rfl
theorem LJ(a b:Int):AR Tryz.prog 65 (zipIdx [0,1] [iv a,iv b])=some (.agg [iv a,iv b,iv 0,iv 0,iv 0,.str []]):=by kernel_rfl
theorem N1(a:Int):AR Tryz.prog 65 (zipIdx [0] [iv a])=some (.agg [iv a,iv 0,iv 0,iv 0,iv 0,.str []]):=by kernel_rfl
theorem QW(a:Int)(l:List Nat):AR Tryz.prog 65 (zipIdx [0,3] [iv a,.str l])=some (.agg [iv a,iv 0,iv 0,iv 0,iv 0,.str l]):=by kernel_rfl
theorem EZ:AR Tryz.prog 43 (zipIdx [] [])=some (.agg Tm.nullC):=by kernel_rfl
theorem J2(a b:Int):Aa Tryz.prog 27 2 (zipIdx [0,1] [iv a,iv b])=some (R 3 1 false (C8 [a,b])):=by kernel_rfl
theorem J3(a b c:Int):Aa Tryz.prog 27 3 (zipIdx [0,1,2] [iv a,iv b,iv c])=some (R 3 1 false (C8 [a,b,c])):=by kernel_rfl
theorem J1(a:Int):Aa Tryz.prog 27 1 (zipIdx [0] [iv a])=some (R 3 1 false (C8 [a])):=by kernel_rfl
theorem Lw(a:Int):B9 true (iv a) [iv 0]=some (iv (max a 0)):=by
 show AF true (some (iv (bif I9 a 0 then 0 else a)))=_
 rw[B1]
 show some (iv _)=_
 by_cases h:a<(0:Int)
 ·simp only[h,decide_true,cond_true];rw[Int.max_eq_right (by omega)]
 ·simp only[h,decide_false,cond_false];rw[Int.max_eq_left (by omega)]
section
variable{E:Bl}(hE:Ai E){s:AD}{p:Nat}{S:List Tm}{O:List Nat}(h:AQ s p S O)(hsm:S.length<100000){K:AV→AD→Prop}
include hE h hsm
theorem Ox{i:Int}(hi:i64 i)(hK:∀s' O',AQ s' p (push S (.var i)) O'→DG O s s'→Aj O O' s→K (iv (ix (push S (.var i)) (.var i):Int)) s'):WF E 11 [.ptr (some (p,0)),iv i] K s:=by
 refine hE.go X9 (by decide) rfl ?_
 simp only[ZU,U5,U6,U7,C9,LJ,EZ,Qa,Qb,Qc,Qd,Qe,Qf,Qg,Qh,Qi,Qj,Qk,Ql,Qm,Qn,true_and,and_true,Qo,Qp,Qq,Qr,Qs,Qt,Qu,Qv,Qw,Qx,Qy,Qz,Ra,Rb,Rc,Rd,Re,Rf,Rg,Rh,Ri,Rj,Rk,Rl,Rm,Ya,Yb,Yc,Rn,Ro,Xv,Yd,Ye,Rq,Rs,Rt,Ru,Rw,Rx,Ry,Rz,Wa,Wb,Wc,Wd,We,Wf,Wg,Wh,Wi,Wj,Wl,Wm,Wn,Wp,Wq,Wr,Ws,Wt,Wu,Wv,Ww,Wx,Wy,Wz,Xa,Xb,Xc,Xd,Xe,Xf,Xg,Xh,Xi,Xj,Xk,Xl,Xm,Xn,Xo,Xp,Xq,Xr,bO,bT,bS,bP,bU,bV,List.getElem?_cons_zero,List.getElem?_cons_succ,bR,bX,bW,bY,bN,Nat.reduceAdd,Nat.reduceLT,Nat.reduceLeDiff,decide_true,decide_false,Bool.true_and,Bool.and_true,bZ,bM,Option.some.injEq,Xs,Xt,Xu,Xv]
 refine Ew hE h hsm (BD.refl _ _) (.var i) (fun _ h=>by cases h) hi (.inl ⟨rfl,rfl⟩) fun s' O' h1 h2 h3=>?_
 simp only[Qa,Qb,Qc,Qd,Qe,Qf,Qg,Qh,Qi,Qj,Qk,Ql,Qm,Qn,true_and,and_true,Qo,Qp,Qq,Qr,Qs,Qt,Qu,Qv,Qw,Qx,Qy,Qz,Ra,Rb,Rc,Rd,Re,Rf,Rg,Rh,Ri,Rj,Rk,Rl,Rm,Ya,Yb,Yc,Rn,Ro,Xv,Yd,Ye,Rq,Rs,Rt,Ru,Rw,Rx,Ry]
 exact hK s' O' h1 h2 h3
theorem Ou{i:Int}(hi:i64 i)(hK:∀s' O',AQ s' p (push S (.bnd (max i 0))) O'→DG O s s'→Aj O O' s→K (iv (ix (push S (.bnd (max i 0))) (.bnd (max i 0)):Int)) s'):WF E 21 [.ptr (some (p,0)),iv i] K s:=by
 refine hE.go YG (by decide) rfl ?_
 simp only[ak,VT,VU,VV,C9,LJ,EZ,Lw,Qa,Qb,Qc,Qd,Qe,Qf,Qg,Qh,Qi,Qj,Qk,Ql,Qm,Qn,true_and,and_true,Qo,Qp,Qq,Qr,Qs,Qt,Qu,Qv,Qw,Qx,Qy,Qz,Ra,Rb,Rc,Rd,Re,Rf,Rg,Rh,Ri,Rj,Rk,Rl,Rm,Ya,Yb,Yc,Rn,Ro,Xv,Yd,Ye,Rq,Rs,Rt,Ru,Rw,Rx,Ry,Rz,Wa,Wb,Wc,Wd,We,Wf,Wg,Wh,Wi,Wj,Wl,Wm,Wn,Wp,Wq,Wr,Ws,Wt,Wu,Wv,Ww,Wx,Wy,Wz,Xa,Xb,Xc,Xd,Xe,Xf,Xg,Xh,Xi,Xj,Xk,Xl,Xm,Xn,Xo,Xp,Xq,Xr,bO,bT,bS,bP,bU,bV,List.getElem?_cons_zero,List.getElem?_cons_succ,bR,bX,bW,bY,bN,Nat.reduceAdd,Nat.reduceLT,Nat.reduceLeDiff,decide_true,decide_false,Bool.true_and,Bool.and_true,bZ,bM,Option.some.injEq,Xs,Xt,Xu,Xv]
 refine Ew hE h hsm (BD.refl _ _) (.bnd (max i 0)) (fun _ h=>by cases h) ⟨by omega,by unfold i64 at *;omega⟩ (.inl ⟨rfl,rfl⟩) fun s' O' h1 h2 h3=>?_
 simp only[Qa,Qb,Qc,Qd,Qe,Qf,Qg,Qh,Qi,Qj,Qk,Ql,Qm,Qn,true_and,and_true,Qo,Qp,Qq,Qr,Qs,Qt,Qu,Qv,Qw,Qx,Qy,Qz,Ra,Rb,Rc,Rd,Re,Rf,Rg,Rh,Ri,Rj,Rk,Rl,Rm,Ya,Yb,Yc,Rn,Ro,Xv,Yd,Ye,Rq,Rs,Rt,Ru,Rw,Rx,Ry]
 exact hK s' O' h1 h2 h3
theorem K8{n:Nat}(hn:n<13)(hg:By s O)(hK:∀s' O',AQ s' p (push S (.con n)) O'→DG O s s'→Aj O O' s→K (iv (ix (push S (.con n)) (.con n):Int)) s'):WF E 22 [.ptr (some (p,0)),.agg (Tm.con n).cells] K s:=by
 obtain⟨tag,c1,c2,c3,c5,c6,hc,h5,d1,d2,d3,d5,d6⟩:=BM n hn
 have hp:=fun os (K:AV→AD→Prop)=>Ew (K:=K) hE h hsm (AS (os:=os)) (.con n) (fun _ h=>by cases h) hn (.inl ⟨rfl,rfl⟩)
 have hr:=fun(K:AV→AD→Prop) os=>NW (K:=K) hE (s:=ext s os) (hg.old AS).1 hn
 have ht:=fun(K:AV→AD→Prop) os=>QH (K:=K) hE (s:=ext s os) (hg.old AS).1 hn
 have hce:=Yi n hn
 rw[hc]at hr ht hce
 refine hE.go YH (by decide) rfl ?_
 generalize hs:s.next=b
 have hs0:s=ext s []:=(Af s).symm
 rw[hs0]
 simp only[am,VW,VX,VY,hc,C9,hs,HF,Hl,Qa,Qb,Qc,Qd,Qe,Qf,Qg,Qh,Qi,Qj,Qk,Ql,Qm,Qn,true_and,and_true,Qo,Qp,Qq,Qr,Qs,Qt,Qu,Qv,Qw,Qx,Qy,Qz,Ra,Rb,Rc,Rd,Re,Rf,Rg,Rh,Ri,Rj,Rk,Rl,Rm,Ya,Yb,Yc,Rn,Ro,Xv,Yd,Ye,Rq,Rs,Rt,Ru,Rw,Rx,Ry,Rz,Wa,Wb,Wc,Wd,We,Wf,Wg,Wh,Wi,Wj,Wl,Wm,Wn,Wp,Wq,Wr,Ws,Wt,Wu,Wv,Ww,Wx,Wy,Wz,Xa,Xb,Xc,Xd,Xe,Xf,Xg,Xh,Xi,Xj,Xk,Xl,Xm,Xn,Xo,Xp,Xq,Xr,bO,bT,bS,bP,bU,bV,List.getElem?_cons_zero,List.getElem?_cons_succ,bR,bX,bW,bY,bN,Nat.reduceAdd,Nat.reduceLT,Nat.reduceLeDiff,decide_true,decide_false,Bool.true_and,Bool.and_true,bZ,bM,Option.some.injEq,Xs,Xt,Xu,Xv]
 refine hr _ _ ?_
 simp only[Ry,Bool.not_true,Bool.not_false,Rw,Rs,h5,C3,ZN,SW,SX,hs,AZ Tryz.underlying39,Qa,Qb,Qc,Qd,Qe,Qf,Qg,Qh,Qi,Qj,Qk,Ql,Qm,Qn,true_and,and_true,Qo,Qp,Qq,Qr,Qs,Qt,Qu,Qv,Qw,Qx,Qy,Qz,Ra,Rb,Rc,Rd,Re,Rf,Rg,Rh,Ri,Rj,Rk,Rl,Rm,Ya,Yb,Yc,Rn,Ro,Xv,Yd,Ye,Rq,Rs,Rt,Ru,Rw,Rx,Ry,Rz,Wa,Wb,Wc,Wd,We,Wf,Wg,Wh,Wi,Wj,Wl,Wm,Wn,Wp,Wq,Wr,Ws,Wt,Wu,Wv,Ww,Wx,Wy,Wz,Xa,Xb,Xc,Xd,Xe,Xf,Xg,Xh,Xi,Xj,Xk,Xl,Xm,Xn,Xo,Xp,Xq,Xr,bO,bT,bS,bP,bU,bV,List.getElem?_cons_zero,List.getElem?_cons_succ,bR,bX,bW,bY,bN,Nat.reduceAdd,Nat.reduceLT,Nat.reduceLeDiff,decide_true,decide_false,Bool.true_and,Bool.and_true,bZ,bM,Option.some.injEq,Xs,Xt,Xu,Xv]
 have hgt:decide ((0:Int)<((0:Nat):Int))=false:=rfl
 simp only[hgt,VZ,HF,Hl,hs,Qa,Qb,Qc,Qd,Qe,Qf,Qg,Qh,Qi,Qj,Qk,Ql,Qm,Qn,true_and,and_true,Qo,Qp,Qq,Qr,Qs,Qt,Qu,Qv,Qw,Qx,Qy,Qz,Ra,Rb,Rc,Rd,Re,Rf,Rg,Rh,Ri,Rj,Rk,Rl,Rm,Ya,Yb,Yc,Rn,Ro,Xv,Yd,Ye,Rq,Rs,Rt,Ru,Rw,Rx,Ry,Rz,Wa,Wb,Wc,Wd,We,Wf,Wg,Wh,Wi,Wj,Wl,Wm,Wn,Wp,Wq,Wr,Ws,Wt,Wu,Wv,Ww,Wx,Wy,Wz,Xa,Xb,Xc,Xd,Xe,Xf,Xg,Xh,Xi,Xj,Xk,Xl,Xm,Xn,Xo,Xp,Xq,Xr,bO,bT,bS,bP,bU,bV,List.getElem?_cons_zero,List.getElem?_cons_succ,bR,bX,bW,bY,bN,Nat.reduceAdd,Nat.reduceLT,Nat.reduceLeDiff,decide_true,decide_false,Bool.true_and,Bool.and_true,bZ,bM,Option.some.injEq,Xs,Xt,Xu,Xv]
 refine ht _ _ ?_
 refine⟨⟨BF ?_ hce,trivial⟩,?_⟩
 ·simp only[Qa,Qb,Qc,Qd,Qe,Qf,Qg,Qh,Qi,Qj,Qk,Ql,Qm,Qn,true_and,and_true,Qo,Qp,Qq,Qr,Qs,Qt,Qu,Qv,Qw,Qx,Qy,Qz,Ra,Rb,Rc,Rd,Re,Rf,Rg,Rh,Ri,Rj,Rk,Rl,Rm,Ya,Yb,Yc,Rn,Ro,Xv,Yd,Ye,Rq,Rs,Rt,Ru,Rw,Rx,Ry,HF,Hl,hs,Rz,Wa,Wb,Wc,Wd,We,Wf,Wg,Wh,Wi,Wj,Wl,Wm,Wn,Wp,Wq,Wr,Ws,Wt,Wu,Wv,Ww,Wx,Wy,Wz,Xa,Xb,Xc,Xd,Xe,Xf,Xg,Xh,Xi,Xj,Xk,Xl,Xm,Xn,Xo,Xp,Xq,Xr,bO,bT,bS,bP,bU,bV,List.getElem?_cons_zero,List.getElem?_cons_succ,bR,bX,bW,bY,bN,Nat.reduceAdd,Nat.reduceLT,Nat.reduceLeDiff,decide_true,decide_false,Bool.true_and,Bool.and_true,bZ,bM,Option.some.injEq,Xs,Xt,Xu,Xv]
 simp only[QW,Qa,Qb,Qc,Qd,Qe,Qf,Qg,Qh,Qi,Qj,Qk,Ql,Qm,Qn,true_and,and_true,Qo,Qp,Qq,Qr,Qs,Qt,Qu,Qv,Qw,Qx,Qy,Qz,Ra,Rb,Rc,Rd,Re,Rf,Rg,Rh,Ri,Rj,Rk,Rl,Rm,Ya,Yb,Yc,Rn,Ro,Xv,Yd,Ye,Rq,Rs,Rt,Ru,Rw,Rx,Ry,Rz,Wa,Wb,Wc,Wd,We,Wf,Wg,Wh,Wi,Wj,Wl,Wm,Wn,Wp,Wq,Wr,Ws,Wt,Wu,Wv,Ww,Wx,Wy,Wz,Xa,Xb,Xc,Xd,Xe,Xf,Xg,Xh,Xi,Xj,Xk,Xl,Xm,Xn,Xo,Xp,Xq,Xr,bO,bT,bS,bP,bU,bV,List.getElem?_cons_zero,List.getElem?_cons_succ,bR,bX,bW,bY,bN,Nat.reduceAdd,Nat.reduceLT,Nat.reduceLeDiff,decide_true,decide_false,Bool.true_and,Bool.and_true,bZ,bM,Option.some.injEq,Xs,Xt,Xu,Xv]
 rw[← hc]
 refine hp _ _ fun s' O' h1 h2 h3=>?_
 simp only[Qa,Qb,Qc,Qd,Qe,Qf,Qg,Qh,Qi,Qj,Qk,Ql,Qm,Qn,true_and,and_true,Qo,Qp,Qq,Qr,Qs,Qt,Qu,Qv,Qw,Qx,Qy,Qz,Ra,Rb,Rc,Rd,Re,Rf,Rg,Rh,Ri,Rj,Rk,Rl,Rm,Ya,Yb,Yc,Rn,Ro,Xv,Yd,Ye,Rq,Rs,Rt,Ru,Rw,Rx,Ry]
 exact hK s' O' h1 h2 h3
theorem NF(hK:K (iv (S.length:Int)) s):WF E 10 [.ptr (some (p,0))] K s:=by
 have _hs:=hsm
 obtain⟨tv,fi,vm,OT,e⟩:=h.ex
 obtain⟨a,c,htv,_⟩:=e.buf.slice
 subst htv
 refine hE.go X8 (by decide) rfl ?_
 simp only[ZR,U2,U3,U4,C9,e.obj,QQ,IM,AZ Tryz.underlying59,Qa,Qb,Qc,Qd,Qe,Qf,Qg,Qh,Qi,Qj,Qk,Ql,Qm,Qn,true_and,and_true,Qo,Qp,Qq,Qr,Qs,Qt,Qu,Qv,Qw,Qx,Qy,Qz,Ra,Rb,Rc,Rd,Re,Rf,Rg,Rh,Ri,Rj,Rk,Rl,Rm,Ya,Yb,Yc,Rn,Ro,Xv,Yd,Ye,Rq,Rs,Rt,Ru,Rw,Rx,Ry,Rz,Wa,Wb,Wc,Wd,We,Wf,Wg,Wh,Wi,Wj,Wl,Wm,Wn,Wp,Wq,Wr,Ws,Wt,Wu,Wv,Ww,Wx,Wy,Wz,Xa,Xb,Xc,Xd,Xe,Xf,Xg,Xh,Xi,Xj,Xk,Xl,Xm,Xn,Xo,Xp,Xq,Xr,bO,bT,bS,bP,bU,bV,List.getElem?_cons_zero,List.getElem?_cons_succ,bR,bX,bW,bY,bN,Nat.reduceAdd,Nat.reduceLT,Nat.reduceLeDiff,decide_true,decide_false,Bool.true_and,Bool.and_true,bZ,bM,Option.some.injEq,Xs,Xt,Xu,Xv]
 exact hK
end
def Ae:Tm:=.con 0
def FM(n:Nat)(x:Int):Bool:=decide (0≤x) && decide (x<n)
def Ak(S:List Tm)(x:Int):Tm:=if FM S.length x then S.getD x.toNat Ae else Ae
def Ct(n:Nat):List Tm→List Int→List Tm
 | S,[]=>S
 | S,x::l=>Ct n (if FM n x then S else push S Ae) l
theorem GP{S:List Tm}{u:Tm}:u∈push S u:=by
 unfold push
 split
 ·assumption
 ·simp
theorem MC{S:List Tm}{u t:Tm}(h:t∈S):t∈push S u:=by
 unfold push
 split
 ·exact h
 ·exact b5 _ h
theorem Kl{S:List Tm}{u t:Tm}(h:t∈S):ix (push S u) t=ix S t:=by
 unfold push
 split
 ·rfl
 ·exact FA _ h
theorem En{S:List Tm}{u:Tm}:(push S u).length≤S.length+1:=by
 unfold push
 split<;>simp
theorem G3{S:List Tm}:push (push S Ae) Ae=push S Ae:=if_pos GP
theorem CS{n:Nat}{S:List Tm}:∀l,Ct n (push S Ae) l=push S Ae
 | []=>rfl
 | x::l=>by
  unfold Ct
  split
  ·exact CS l
  ·rw[G3];exact CS l
theorem E3{n:Nat}{S:List Tm}:∀l,Ct n S l=S∨Ct n S l=push S Ae
 | []=>.inl rfl
 | x::l=>by
  unfold Ct
  split
  ·exact E3 l
  ·exact .inr (CS l)
theorem I6{n:Nat}{S:List Tm}:∀ {l},(∀x∈l,FM n x=true)→Ct n S l=S
 | [],_=>rfl
 | x::l,h=>by
  unfold Ct
  rw[if_pos (h x bm)]
  exact I6 fun y hy=>h y (br _ hy)
theorem Uq{n:Nat}{S:List Tm}{l:List Int}{t:Tm}(h:t∈S):t∈Ct n S l:=by
 rcases E3 (n:=n) (S:=S) l with e | e<;>rw[e]
 ·exact h
 ·exact MC h
theorem Yu{n:Nat}{S:List Tm}{l:List Int}{t:Tm}(h:t∈S):ix (Ct n S l) t=ix S t:=by
 rcases E3 (n:=n) (S:=S) l with e | e<;>rw[e]
 exact Kl h
theorem Gc{S:List Tm}{x:Int}(h:FM S.length x=true):Ak S x∈S∧(S.Nodup→(ix S (Ak S x):Int)=x):=by
 unfold FM at h
 simp only[Bool.and_eq_true,decide_eq_true_eq]at h
 have hlt:x.toNat<S.length:=by omega
 have he:Ak S x=S[x.toNat]:=by
  unfold Ak FM
  simp only[h.1,h.2,decide_true,Bool.and_self,if_true]
  rw[ce,bc hlt];rfl
 refine⟨by rw[he];exact List.getElem_mem _,fun hn=>?_⟩
 rw[he,Ll hn (bc hlt)]
 omega
theorem Gd{S:List Tm}{t:Tm}(h:t∈S):Ak S (ix S t:Int)=t∧FM S.length (ix S t:Int)=true:=by
 have hl:=GJ h
 have h1:FM S.length (ix S t:Int)=true:=by simp[FM];omega
 refine⟨?_,h1⟩
 unfold Ak
 rw[if_pos h1,ce,Int.toNat_natCast,DP h];rfl
theorem E4       {n : Nat} {S : List Tm} : ∀ {l : List Int}, n = S.length → ∀ x ∈ l, Ak   S x ∈ Ct  n S l
  | [],_,x,h=>by cases h
  | y :: l, hn, x, h => by
    by_cases hi:FM S.length x=true
    · exact Uq (Gc hi).1
    · have ht:Ak S x=Ae:=by unfold Ak;rw[if_neg hi]
      rw[ht]
      have:∀l,x∈l→Ae∈Ct n S l:=by
        intro l
        induction l with
        | nil=>intro h;cases h
        | cons z l ih =>
          intro h
          unfold Ct
          rcases bv.1 h with rfl | h
          · rw[hn,if_neg hi,CS];exact GP
          · split
            · exact ih h
            · rw[CS];exact GP
      exact this _ h
theorem NB(l m:List Int):C8 (l++m)=C8 l++C8 m:=cK ..
theorem UO(done rest:List Int)(x y:Int):(C8 (done++x::rest)).set done.length (iv y)=C8 (done++y::rest):=by
 simp[C8,List.set_append]
section
variable{E:Bl}(hE:Ai E){s0:AD}{O:List Nat}{p:Nat}{S:List Tm}(hS:S.length<99990){j len:Nat}(hlen:len≤1000)(a1 a2:AV)(hj0:s0.next≤j)(hg0:1<s0.next)
include hE hS hlen hj0 hg0
theorem Nm         {Q : Au   → Prop} {marks : List Nat} : ∀ (rest done : List Int) (S1 : List Tm) (O1 : List Nat) (s1 : AD)  (x5 x6 x10 x11 : AV),
    (S1=S∨S1=push S Ae)→AQ s1 p S1 O1→By s1 O1→DG O s0 s1→Aj O O1 s0→s1.heap.get j=some (R 3 1 true (C8 (done++rest)))→j<s1.next→j ∉ O1→(done++rest).length=len →
    (∀ (s2:AD) (O2:List Nat) (y5 y6 y9 y10 y11:AV),AQ s2 p (Ct S.length S1 rest) O2→By s2 O2→DG O s0 s2→Aj O O2 s0 →
      s2.heap.get j=some (R 3 1 true (C8 (done++rest.map fun x=>(ix (Ct S.length S1 rest) (Ak S x):Int))))→j<s2.next→j ∉ O2 →
      AT 0 Q ⟨.exit 0,[.ptr (some (p,0)),a1,a2,iv (S.length:Int),.slice (some (j,0)) len none,y5,y6,.slice (some (j,0)) len none,iv (len:Int),y9,y10,y11],marks,s2⟩) →
    WC E none (AU.loop IA) (AT 0 Q) [.ptr (some (p,0)),a1,a2,iv (S.length:Int),.slice (some (j,0)) len none,x5,x6,.slice (some (j,0)) len none,iv (len:Int),iv (done.length:Int),x10,x11] marks s1:=by
  intro rest
  induction rest with
  | nil =>
    intro done S1 O1 s1 x5 x6 x10 x11 hS1 hst hg hf hgr hj hjl hjO hl hq
    refine WC.loop' ?_
    have hlt:¬ ((done.length:Int)<(len:Int)):=by rw[← hl];simp
    simp only[IA,LN,hlt,decide_false,Qa,Qb,Qc,Qd,Qe,Qf,Qg,Qh,Qi,Qj,Qk,Ql,Qm,Qn,true_and,and_true,Qo,Qp,Qq,Qr,Qs,Qt,Qu,Qv,Qw,Qx,Qy,Qz,Ra,Rb,Rc,Rd,Re,Rf,Rg,Rh,Ri,Rj,Rk,Rl,Rm,Ya,Yb,Yc,Rn,Ro,Xv,Yd,Ye,Rq,Rs,Rt,Ru,Rw,Rx,Ry,Rq]
    exact hq s1 O1 _ _ _ _ _ hst hg hf hgr hj hjl hjO
  | cons x rest ih =>
    intro done S1 O1 s1 x5 x6 x10 x11 hS1 hst hg hf hgr hj hjl hjO hl hq
    refine WC.loop' ?_
    obtain⟨L,hL⟩:∃L,L=AU.loop IA:=⟨_,rfl⟩
    rw[← hL]
    have hlt:((done.length:Int)<(len:Int)):=by rw[← hl];simp;omega
    have hltn:done.length<len:=by omega
    have hld:Cz (s1.heap.get j) done.length=some (iv x):=by
      rw[hj,Wi];exact OZ (by simp)
    have hadd:i64 ((done.length:Int)+1):=by unfold i64;omega
    have hlen1:(done++[x]).length=done.length+1:=by simp
    have hS1l:S1.length<99991:=by
      rcases hS1 with rfl | rfl
      · omega
      · have:=En (S:=S) (u:=Ae);omega
    have hsub:∀t∈S,t∈S1∧ix S1 t=ix S t:=fun t ht=>by
      rcases hS1 with rfl | rfl
      · exact⟨ht,rfl⟩
      · exact⟨MC ht,Kl ht⟩
    by_cases hi:FM S.length x=true
    · have h1 : decide (x < 0) = false := by unfold FM  at hi; simp only [Bool.and_eq_true, decide_eq_true_eq] at hi; simp; omega
      have h2:decide ((S.length:Int)≤x)=false:=by unfold FM at hi;simp only[Bool.and_eq_true,decide_eq_true_eq]at hi;simp;omega
      have hth:Ct S.length S1 (x::rest)=Ct S.length S1 rest:=by conv=>lhs;unfold Ct;rw[if_pos hi]
      have hSn:S.Nodup:=by
        rcases hS1 with rfl | rfl
        · exact hst.ok.nd
        · have := hst.ok.nd; unfold push at this; split at this
          · exact this
          · exact(List.nodup_append.1 this).1
      have hx:(ix (Ct S.length S1 rest) (Ak S x):Int)=x:=by
        rw[Yu (hsub _ (Gc hi).1).1,(hsub _ (Gc hi).1).2]
        exact(Gc hi).2 hSn
      have:=ih (done++[x]) S1 O1 s1 (iv (done.length:Int)) (iv x) (.bool true) (.bool false) hS1 hst hg hf hgr (by rw[hj];simp) hjl hjO (by rw[← hl];simp) (fun s2 O2 y5 y6 y9 y10 y11 g1 g2 g3 g4 g5 g6 g7=>hq s2 O2 y5 y6 y9 y10 y11 (by rw[hth];exact g1) g2 g3 g4 (by rw[g5,hth,bk,hx];simp) g6 g7)
      rw[← hL,hlen1]at this
      simp only[IA,LN,N4,N5,N6,hlt,decide_true,Qa,Qb,Qc,Qd,Qe,Qf,Qg,Qh,Qi,Qj,Qk,Ql,Qm,Qn,true_and,and_true,Qo,Qp,Qq,Qr,Qs,Qt,Qu,Qv,Qw,Qx,Qy,Qz,Ra,Rb,Rc,Rd,Re,Rf,Rg,Rh,Ri,Rj,Rk,Rl,Rm,Ya,Yb,Yc,Rn,Ro,Xv,Yd,Ye,Rq,Rs,Rt,Ru,Rw,Rx,Ry,Rq,Ru,h1,h2,Ac Tryz.underlying27 Fy hltn,C3,hld,b0,A9 _ _ _ _ hadd,Rz,Wa,Wb,Wc,Wd,We,Wf,Wg,Wh,Wi,Wj,Wl,Wm,Wn,Wp,Wq,Wr,Ws,Wt,Wu,Wv,Ww,Wx,Wy,Wz,Xa,Xb,Xc,Xd,Xe,Xf,Xg,Xh,Xi,Xj,Xk,Xl,Xm,Xn,Xo,Xp,Xq,Xr,bO,bT,bS,bP,bU,bV,List.getElem?_cons_zero,List.getElem?_cons_succ,bR,bX,bW,bY,bN,Nat.reduceAdd,Nat.reduceLT,Nat.reduceLeDiff,decide_true,decide_false,Bool.true_and,Bool.and_true,bZ,bM,Option.some.injEq,Xs,Xt,Xu,Xv]
      exact this
    · have h12:decide (x<0)=true∨decide (x<0)=false∧decide ((S.length:Int)≤x)=true:=by
        unfold FM at hi;simp only[Bool.and_eq_true,decide_eq_true_eq]at hi
        rcases Int.lt_or_le x 0 with h' | h'
        · exact .inl (decide_eq_true h')
        · exact .inr ⟨by simp;omega,by simp;omega⟩
      have hth:Ct S.length S1 (x::rest)=push S1 Ae:=by
        conv=>lhs;unfold Ct
        rw[if_neg hi]
        exact CS rest
      have hth2:Ct S.length (push S1 Ae) rest=push S1 Ae:=CS rest
      have htm:Ak S x=Ae:=by unfold Ak;rw[if_neg hi]
      have hS2:push S1 Ae=S∨push S1 Ae=push S Ae:=by
        rcases hS1 with rfl | rfl
        · exact .inr rfl
        · exact .inr G3
      have hcall:∀ (K:AV→AD→Prop),(∀s' O',AQ s' p (push S1 Ae) O'→DG O1 s1 s'→Aj O1 O' s1→K (iv (ix (push S1 Ae) Ae:Int)) s')→WF E 22 [.ptr (some (p,0)),.agg Tm.nullC] K s1:=fun K hK =>
        K8 hE hst (by omega) (n:=0) (by omega) hg hK
      have hafter:∀s' O' (g1:AQ s' p (push S1 Ae) O') (g2:DG O1 s1 s') (g3:Aj O1 O' s1) (y10:AV),
          WC E none L (AT 0 Q) [.ptr (some (p,0)),a1,a2,iv (S.length:Int),.slice (some (j,0)) len none,iv (done.length:Int),iv x,.slice (some (j,0)) len none,iv (len:Int),iv ((done.length:Int)+1),y10,.bool true] marks
            (setObj s' j (R 3 1 true (C8 (done++(ix (push S1 Ae) Ae:Int)::rest)))):=by
        intro s' O' g1 g2 g3 y10
        have hjO':j ∉ O':=fun hm=>(g3 j hm).elim hjO (fun hl=>by omega)
        have hfr:DG O s0 s':=hf.trans g2 hgr
        have hst2:AQ (setObj s' j (R 3 1 true (C8 (done++(ix (push S1 Ae) Ae:Int)::rest)))) p (push S1 Ae) O':=by
          refine g1.frame (bM _) fun k hk=>Wr _ fun e=>hjO' (e▸hk)
        have hg2:By (setObj s' j (R 3 1 true (C8 (done++(ix (push S1 Ae) Ae:Int)::rest)))) O':=by
          obtain⟨q1,q2,q3⟩:=hg.step g2 g3
          exact⟨by rw[BN (Wr _ (by omega))];exact q1,q2,q3⟩
        have:=ih (done++[(ix (push S1 Ae) Ae:Int)]) (push S1 Ae) O' _ (iv (done.length:Int)) (iv x) y10 (.bool true) hS2 hst2 hg2 ⟨hfr.1,fun k hk hkO=>by rw[Wr _ (by omega)];exact hfr.2 k hk hkO⟩ (hgr.trans g3 hf.1) (by rw[Wq];simp) (by rw[Wp];exact bi hjl g2.1) hjO' (by rw[← hl];simp) (fun s2 O2 y5 y6 y9 y10 y11 k1 k2 k3 k4 k5 k6 k7=>hq s2 O2 y5 y6 y9 y10 y11 (by rw[hth,← hth2];exact k1) k2 k3 k4 (by rw[k5,hth,hth2,bk,htm];simp) k6 k7)
        rw[← hL,show(done++[(ix (push S1 Ae) Ae:Int)]).length=done.length+1 from by simp]at this
        exact this
      have hrest:∀ (y10:AV) s' O',AQ s' p (push S1 Ae) O'→DG O1 s1 s'→Aj O1 O' s1 →
          Qd [] Gg.push [.agg Tm.nullC] [.ptr (some (p,0)),a1,a2,iv (S.length:Int),.slice (some (j,0)) len none,iv (done.length:Int),iv x,.slice (some (j,0)) len none,iv (len:Int),iv (done.length:Int),y10,.bool true]
            (fun x x_1 x_2=>Kx (AH Tryz.prog 27 (JG x_1 4) (JG x_1 5)) fun v =>
              Kx (match As Tryz.prog x_2 3 v (JG x 0)with | some s=>some (A5,s) | none=>none) fun p=>Qb E N6 (fun v s'=>WC E none L (AT 0 Q) v marks s') [] x_1 p.snd) (iv (ix (push S1 Ae) Ae:Int)) s':=by
        intro y10 s' O' g1 g2 g3
        have hgj:s'.heap.get j=some (R 3 1 true (C8 (done++x::rest))):=by rw[g2.2 j hjl hjO];exact hj
        have hble:decide (done.length+1≤(C8 (done++x::rest)).length)=true:=decide_eq_true (by rw[Dg,bu,bO];omega)
        have:=hafter s' O' g1 g2 g3 y10
        simp only[Qa,Qb,Qc,Qd,Qe,Qf,Qg,Qh,Qi,Qj,Qk,Ql,Qm,Qn,true_and,and_true,Qo,Qp,Qq,Qr,Qs,Qt,Qu,Qv,Qw,Qx,Qy,Qz,Ra,Rb,Rc,Rd,Re,Rf,Rg,Rh,Ri,Rj,Rk,Rl,Rm,Ya,Yb,Yc,Rn,Ro,Xv,Yd,Ye,Rq,Rs,Rt,Ru,Rw,Rx,Ry,N6,Ac Tryz.underlying27 Fy hltn,hgj,Fy,b0,hble,UO,A9 _ _ _ _ hadd,Rz,Wa,Wb,Wc,Wd,We,Wf,Wg,Wh,Wi,Wj,Wl,Wm,Wn,Wp,Wq,Wr,Ws,Wt,Wu,Wv,Ww,Wx,Wy,Wz,Xa,Xb,Xc,Xd,Xe,Xf,Xg,Xh,Xi,Xj,Xk,Xl,Xm,Xn,Xo,Xp,Xq,Xr,bO,bT,bS,bP,bU,bV,List.getElem?_cons_zero,List.getElem?_cons_succ,bR,bX,bW,bY,bN,Nat.reduceAdd,Nat.reduceLT,Nat.reduceLeDiff,decide_true,decide_false,Bool.true_and,Bool.and_true,bZ,bM,Option.some.injEq,Xs,Xt,Xu,Xv]
        exact this
      rcases h12 with h1 | ⟨h1,h2⟩
      · simp only[IA,LN,N4,N5,RL,hlt,decide_true,Qa,Qb,Qc,Qd,Qe,Qf,Qg,Qh,Qi,Qj,Qk,Ql,Qm,Qn,true_and,and_true,Qo,Qp,Qq,Qr,Qs,Qt,Qu,Qv,Qw,Qx,Qy,Qz,Ra,Rb,Rc,Rd,Re,Rf,Rg,Rh,Ri,Rj,Rk,Rl,Rm,Ya,Yb,Yc,Rn,Ro,Xv,Yd,Ye,Rq,Rs,Rt,Ru,Rw,Rx,Ry,Rq,Ru,h1,EZ,Ac Tryz.underlying27 Fy hltn,C3,hld,b0,A9 _ _ _ _ hadd,Rz,Wa,Wb,Wc,Wd,We,Wf,Wg,Wh,Wi,Wj,Wl,Wm,Wn,Wp,Wq,Wr,Ws,Wt,Wu,Wv,Ww,Wx,Wy,Wz,Xa,Xb,Xc,Xd,Xe,Xf,Xg,Xh,Xi,Xj,Xk,Xl,Xm,Xn,Xo,Xp,Xq,Xr,bO,bT,bS,bP,bU,bV,List.getElem?_cons_zero,List.getElem?_cons_succ,bR,bX,bW,bY,bN,Nat.reduceAdd,Nat.reduceLT,Nat.reduceLeDiff,decide_true,decide_false,Bool.true_and,Bool.and_true,bZ,bM,Option.some.injEq,Xs,Xt,Xu,Xv]
        exact hcall _ (hrest _)
      · simp only[IA,LN,N4,N5,RL,hlt,decide_true,Qa,Qb,Qc,Qd,Qe,Qf,Qg,Qh,Qi,Qj,Qk,Ql,Qm,Qn,true_and,and_true,Qo,Qp,Qq,Qr,Qs,Qt,Qu,Qv,Qw,Qx,Qy,Qz,Ra,Rb,Rc,Rd,Re,Rf,Rg,Rh,Ri,Rj,Rk,Rl,Rm,Ya,Yb,Yc,Rn,Ro,Xv,Yd,Ye,Rq,Rs,Rt,Ru,Rw,Rx,Ry,Rq,Ru,h1,h2,EZ,Ac Tryz.underlying27 Fy hltn,C3,hld,b0,A9 _ _ _ _ hadd,Rz,Wa,Wb,Wc,Wd,We,Wf,Wg,Wh,Wi,Wj,Wl,Wm,Wn,Wp,Wq,Wr,Ws,Wt,Wu,Wv,Ww,Wx,Wy,Wz,Xa,Xb,Xc,Xd,Xe,Xf,Xg,Xh,Xi,Xj,Xk,Xl,Xm,Xn,Xo,Xp,Xq,Xr,bO,bT,bS,bP,bU,bV,List.getElem?_cons_zero,List.getElem?_cons_succ,bR,bX,bW,bY,bN,Nat.reduceAdd,Nat.reduceLT,Nat.reduceLeDiff,decide_true,decide_false,Bool.true_and,Bool.and_true,bZ,bM,Option.some.injEq,Xs,Xt,Xu,Xv]
        exact hcall _ (hrest _)
end
def X1(s:AD)(O:List Nat)(b:Nat)(v:AV)(l:List Int):Prop:=∃j,v=.slice (some (j,0)) l.length none∧s.heap.get j=some (R 3 1 true (C8 l))∧j<s.next∧j ∉ O∧b≤j
theorem X1.rd{s:AD}{O:List Nat}{b:Nat}{v:AV}{l:List Int}(h:X1 s O b v l):A0 s v l:=by
 obtain⟨j,rfl,h1,h2,_⟩:=h
 exact .inr ⟨j,0,none,rfl,h2,by rw[h1];exact(Wj (by rw[Dg,bN];exact bM _)).trans (by rw[bR,bw (by rw[Dg];exact bM _)])⟩
section
variable{E:Bl}(hE:Ai E){s:AD}{p:Nat}{S:List Tm}{O:List Nat}(h:AQ s p S O)(hsm:S.length<99990)(hg:By s O){K:AV→AD→Prop}
include hE h hsm hg
theorem MV{v:AV}{l:List Int}(hv:A0 s v l)(h0:0<l.length)(hl:l.length≤1000)
  (hK:∀w s' O',AQ s' p (Ct S.length S l) O'→By s' O'→DG O s s'→Aj O O' s→X1 s' O' s.next w (l.map fun x=>(ix (Ct S.length S l) (Ak S x):Int))→K w s'):
  WF E 34 [.ptr (some (p,0)),v] K s:=by
 refine hE.go YO (by decide) rfl ?_
 simp only[ay,Vw,Vx,Qa,Qb,Qc,Qd,Qe,Qf,Qg,Qh,Qi,Qj,Qk,Ql,Qm,Qn,true_and,and_true,Qo,Qp,Qq,Qr,Qs,Qt,Qu,Qv,Qw,Qx,Qy,Qz,Ra,Rb,Rc,Rd,Re,Rf,Rg,Rh,Ri,Rj,Rk,Rl,Rm,Ya,Yb,Yc,Rn,Ro,Xv,Yd,Ye,Rq,Rs,Rt,Ru,Rw,Rx,Ry,Rz,Wa,Wb,Wc,Wd,We,Wf,Wg,Wh,Wi,Wj,Wl,Wm,Wn,Wp,Wq,Wr,Ws,Wt,Wu,Wv,Ww,Wx,Wy,Wz,Xa,Xb,Xc,Xd,Xe,Xf,Xg,Xh,Xi,Xj,Xk,Xl,Xm,Xn,Xo,Xp,Xq,Xr,bO,bT,bS,bP,bU,bV,List.getElem?_cons_zero,List.getElem?_cons_succ,bR,bX,bW,bY,bN,Nat.reduceAdd,Nat.reduceLT,Nat.reduceLeDiff,decide_true,decide_false,Bool.true_and,Bool.and_true,bZ,bM,Option.some.injEq,Xs,Xt,Xu,Xv]
 refine NF hE h (by omega) ?_
 simp only[Vy,Qa,Qb,Qc,Qd,Qe,Qf,Qg,Qh,Qi,Qj,Qk,Ql,Qm,Qn,true_and,and_true,Qo,Qp,Qq,Qr,Qs,Qt,Qu,Qv,Qw,Qx,Qy,Qz,Ra,Rb,Rc,Rd,Re,Rf,Rg,Rh,Ri,Rj,Rk,Rl,Rm,Ya,Yb,Yc,Rn,Ro,Xv,Yd,Ye,Rq,Rs,Rt,Ru,Rw,Rx,Ry,Rz,Wa,Wb,Wc,Wd,We,Wf,Wg,Wh,Wi,Wj,Wl,Wm,Wn,Wp,Wq,Wr,Ws,Wt,Wu,Wv,Ww,Wx,Wy,Wz,Xa,Xb,Xc,Xd,Xe,Xf,Xg,Xh,Xi,Xj,Xk,Xl,Xm,Xn,Xo,Xp,Xq,Xr,bO,bT,bS,bP,bU,bV,List.getElem?_cons_zero,List.getElem?_cons_succ,bR,bX,bW,bY,bN,Nat.reduceAdd,Nat.reduceLT,Nat.reduceLeDiff,decide_true,decide_false,Bool.true_and,Bool.and_true,bZ,bM,Option.some.injEq,Xs,Xt,Xu,Xv]
 refine LX hE hv h0 (by omega) ?_
 generalize hs:s.next=b
 have hgj:(ext s [R 3 1 false [],R 3 1 true (C8 l)]).heap.get (nid b 1)=some (R 3 1 true (C8 ([]++l))):=by rw[Wg hs (by simp)];rfl
 have hnx:(ext s [R 3 1 false [],R 3 1 true (C8 l)]).next=b+2:=by rw[Wm,hs,AG];rfl
 have hlt:=h.lt
 have hg1:=hg.2.1
 simp only[Vz,AZ Tryz.underlying27,hs,Qa,Qb,Qc,Qd,Qe,Qf,Qg,Qh,Qi,Qj,Qk,Ql,Qm,Qn,true_and,and_true,Qo,Qp,Qq,Qr,Qs,Qt,Qu,Qv,Qw,Qx,Qy,Qz,Ra,Rb,Rc,Rd,Re,Rf,Rg,Rh,Ri,Rj,Rk,Rl,Rm,Ya,Yb,Yc,Rn,Ro,Xv,Yd,Ye,Rq,Rs,Rt,Ru,Rw,Rx,Ry,Rz,Wa,Wb,Wc,Wd,We,Wf,Wg,Wh,Wi,Wj,Wl,Wm,Wn,Wp,Wq,Wr,Ws,Wt,Wu,Wv,Ww,Wx,Wy,Wz,Xa,Xb,Xc,Xd,Xe,Xf,Xg,Xh,Xi,Xj,Xk,Xl,Xm,Xn,Xo,Xp,Xq,Xr,bO,bT,bS,bP,bU,bV,List.getElem?_cons_zero,List.getElem?_cons_succ,bR,bX,bW,bY,bN,Nat.reduceAdd,Nat.reduceLT,Nat.reduceLeDiff,decide_true,decide_false,Bool.true_and,Bool.and_true,bZ,bM,Option.some.injEq,Xs,Xt,Xu,Xv]
 refine Nm hE hsm hl (s0:=s) (O:=O) (j:=nid b 1) _ _ (by rw[AG];omega) hg.2.1 l [] S O _ _ _ _ _ (.inl rfl) (h.old AS) (hg.old AS) (AS.frO O) (Aj.refl O s) hgj (by rw[hnx,AG];omega) (fun hm=>by have:=hlt _ hm;rw[AG]at this;omega) rfl ?_
 intro s2 O2 y5 y6 y9 y10 y11 g1 g2 g3 g4 g5 g6 g7
 simp only[Qa,Qb,Qc,Qd,Qe,Qf,Qg,Qh,Qi,Qj,Qk,Ql,Qm,Qn,true_and,and_true,Qo,Qp,Qq,Qr,Qs,Qt,Qu,Qv,Qw,Qx,Qy,Qz,Ra,Rb,Rc,Rd,Re,Rf,Rg,Rh,Ri,Rj,Rk,Rl,Rm,Ya,Yb,Yc,Rn,Ro,Xv,Yd,Ye,Rq,Rs,Rt,Ru,Rw,Rx,Ry]
 rw[if_pos trivial]
 simp only[RJ,Qa,Qb,Qc,Qd,Qe,Qf,Qg,Qh,Qi,Qj,Qk,Ql,Qm,Qn,true_and,and_true,Qo,Qp,Qq,Qr,Qs,Qt,Qu,Qv,Qw,Qx,Qy,Qz,Ra,Rb,Rc,Rd,Re,Rf,Rg,Rh,Ri,Rj,Rk,Rl,Rm,Ya,Yb,Yc,Rn,Ro,Xv,Yd,Ye,Rq,Rs,Rt,Ru,Rw,Rx,Ry]
 refine hK _ _ _ g1 g2 g3 g4 ⟨nid b 1,by rw[bp],by rw[g5];rfl,g6,g7,by rw[AG];omega⟩
theorem TV{d k:Int}(hK:∀s' O',AQ s' p (push (Ct S.length S [d,k]) (.sel (Ak S d) (Ak S k))) O'→By s' O'→DG O s s'→Aj O O' s→K (iv (ix (push (Ct S.length S [d,k]) (.sel (Ak S d) (Ak S k))) (.sel (Ak S d) (Ak S k)):Int)) s'):
  WF E 24 [.ptr (some (p,0)),iv d,iv k] K s:=by
 have hm:∀x∈([d,k]:List Int),Ak S x∈Ct S.length S [d,k]:=E4 rfl
 have hlt:(Ct S.length S [d,k]).length<100000:=by
  rcases E3 (n:=S.length) (S:=S) [d,k]with e | e<;>rw[e]
  ·omega
  ·have:=En (S:=S) (u:=Ae);omega
 refine hE.go YJ (by decide) rfl ?_
 generalize hs:s.next=b
 have hs0:s=ext s []:=(Af s).symm
 have hrd:A0 (ext s [R 3 1 false (C8 [d,k])]) (.slice (some (nid b 0,0)) 2 (some 2)) [d,k]:=.inr ⟨nid b 0,0,some 2,rfl,by rw[Wm,hs,AG,AG];simp,by rw[Wg hs (by simp)];exact Wj (bM _)⟩
 have hth:=fun(K:AV→AD→Prop)=>MV (K:=K) hE (h.old (AS (os:=[R 3 1 false (C8 [d,k])]))) hsm (hg.old AS) hrd (by simp) (by simp)
 rw[hs0]
 simp only[ap,Vc,Vd,Ve,C9,N1,EZ,J2,hs,Qa,Qb,Qc,Qd,Qe,Qf,Qg,Qh,Qi,Qj,Qk,Ql,Qm,Qn,true_and,and_true,Qo,Qp,Qq,Qr,Qs,Qt,Qu,Qv,Qw,Qx,Qy,Qz,Ra,Rb,Rc,Rd,Re,Rf,Rg,Rh,Ri,Rj,Rk,Rl,Rm,Ya,Yb,Yc,Rn,Ro,Xv,Yd,Ye,Rq,Rs,Rt,Ru,Rw,Rx,Ry,Rz,Wa,Wb,Wc,Wd,We,Wf,Wg,Wh,Wi,Wj,Wl,Wm,Wn,Wp,Wq,Wr,Ws,Wt,Wu,Wv,Ww,Wx,Wy,Wz,Xa,Xb,Xc,Xd,Xe,Xf,Xg,Xh,Xi,Xj,Xk,Xl,Xm,Xn,Xo,Xp,Xq,Xr,bO,bT,bS,bP,bU,bV,List.getElem?_cons_zero,List.getElem?_cons_succ,bR,bX,bW,bY,bN,Nat.reduceAdd,Nat.reduceLT,Nat.reduceLeDiff,decide_true,decide_false,Bool.true_and,Bool.and_true,bZ,bM,Option.some.injEq,Xs,Xt,Xu,Xv]
 refine hth _ fun w s' O' g1 g2 g3 g4 g5=>?_
 have hf:DG O s s':=(AS.frO O).trans g3 (Aj.refl O s)
 have hgr:Aj O O' s:=Aj.trans (Aj.refl O s) g4 (by rw[Wm,AG];omega)
 have hpa:Bd s' (Ct S.length S [d,k]) [Ak S d,Ak S k] w:=A0.parts (l:=[Ak S d,Ak S k]) g5.rd (by simp)
 simp only[Qa,Qb,Qc,Qd,Qe,Qf,Qg,Qh,Qi,Qj,Qk,Ql,Qm,Qn,true_and,and_true,Qo,Qp,Qq,Qr,Qs,Qt,Qu,Qv,Qw,Qx,Qy,Qz,Ra,Rb,Rc,Rd,Re,Rf,Rg,Rh,Ri,Rj,Rk,Rl,Rm,Ya,Yb,Yc,Rn,Ro,Xv,Yd,Ye,Rq,Rs,Rt,Ru,Rw,Rx,Ry]
 refine Ew hE g1 hlt (BD.refl _ _) (.sel (Ak S d) (Ak S k)) (fun k hk=>?_) trivial hpa fun s2 O2 k1 k2 k3=>?_
 ·simp only[Tm.kids,bv,b4,or_false]at hk
  rcases hk with rfl | rfl<;>exact hm _ (by simp)
 ·simp only[Qa,Qb,Qc,Qd,Qe,Qf,Qg,Qh,Qi,Qj,Qk,Ql,Qm,Qn,true_and,and_true,Qo,Qp,Qq,Qr,Qs,Qt,Qu,Qv,Qw,Qx,Qy,Qz,Ra,Rb,Rc,Rd,Re,Rf,Rg,Rh,Ri,Rj,Rk,Rl,Rm,Ya,Yb,Yc,Rn,Ro,Xv,Yd,Ye,Rq,Rs,Rt,Ru,Rw,Rx,Ry]
  exact hK _ _ k1 (g2.step k2 k3) (hf.trans k2 hgr) (hgr.trans k3 hf.1)
theorem Tg{d k a:Int}(hK:∀s' O',AQ s' p (push (Ct S.length S [d,k,a]) (.upd (Ak S d) (Ak S k) (Ak S a))) O'→By s' O'→DG O s s'→Aj O O' s→K (iv (ix (push (Ct S.length S [d,k,a]) (.upd (Ak S d) (Ak S k) (Ak S a))) (.upd (Ak S d) (Ak S k) (Ak S a)):Int)) s'):
  WF E 25 [.ptr (some (p,0)),iv d,iv k,iv a] K s:=by
 have hm:∀x∈([d,k,a]:List Int),Ak S x∈Ct S.length S [d,k,a]:=E4 rfl
 have hlt:(Ct S.length S [d,k,a]).length<100000:=by
  rcases E3 (n:=S.length) (S:=S) [d,k,a]with e | e<;>rw[e]
  ·omega
  ·have:=En (S:=S) (u:=Ae);omega
 refine hE.go YK (by decide) rfl ?_
 generalize hs:s.next=b
 have hs0:s=ext s []:=(Af s).symm
 have hrd:A0 (ext s [R 3 1 false (C8 [d,k,a])]) (.slice (some (nid b 0,0)) 3 (some 3)) [d,k,a]:=.inr ⟨nid b 0,0,some 3,rfl,by rw[Wm,hs,AG,AG];simp,by rw[Wg hs (by simp)];exact Wj (bM _)⟩
 have hth:=fun(K:AV→AD→Prop)=>MV (K:=K) hE (h.old (AS (os:=[R 3 1 false (C8 [d,k,a])]))) hsm (hg.old AS) hrd (by simp) (by simp)
 rw[hs0]
 simp only[aq,Vf,Vg,Vh,C9,N1,EZ,J3,hs,Qa,Qb,Qc,Qd,Qe,Qf,Qg,Qh,Qi,Qj,Qk,Ql,Qm,Qn,true_and,and_true,Qo,Qp,Qq,Qr,Qs,Qt,Qu,Qv,Qw,Qx,Qy,Qz,Ra,Rb,Rc,Rd,Re,Rf,Rg,Rh,Ri,Rj,Rk,Rl,Rm,Ya,Yb,Yc,Rn,Ro,Xv,Yd,Ye,Rq,Rs,Rt,Ru,Rw,Rx,Ry,Rz,Wa,Wb,Wc,Wd,We,Wf,Wg,Wh,Wi,Wj,Wl,Wm,Wn,Wp,Wq,Wr,Ws,Wt,Wu,Wv,Ww,Wx,Wy,Wz,Xa,Xb,Xc,Xd,Xe,Xf,Xg,Xh,Xi,Xj,Xk,Xl,Xm,Xn,Xo,Xp,Xq,Xr,bO,bT,bS,bP,bU,bV,List.getElem?_cons_zero,List.getElem?_cons_succ,bR,bX,bW,bY,bN,Nat.reduceAdd,Nat.reduceLT,Nat.reduceLeDiff,decide_true,decide_false,Bool.true_and,Bool.and_true,bZ,bM,Option.some.injEq,Xs,Xt,Xu,Xv]
 refine hth _ fun w s' O' g1 g2 g3 g4 g5=>?_
 have hf:DG O s s':=(AS.frO O).trans g3 (Aj.refl O s)
 have hgr:Aj O O' s:=Aj.trans (Aj.refl O s) g4 (by rw[Wm,AG];omega)
 have hpa:Bd s' (Ct S.length S [d,k,a]) [Ak S d,Ak S k,Ak S a] w:=A0.parts (l:=[Ak S d,Ak S k,Ak S a]) g5.rd (by simp)
 simp only[Qa,Qb,Qc,Qd,Qe,Qf,Qg,Qh,Qi,Qj,Qk,Ql,Qm,Qn,true_and,and_true,Qo,Qp,Qq,Qr,Qs,Qt,Qu,Qv,Qw,Qx,Qy,Qz,Ra,Rb,Rc,Rd,Re,Rf,Rg,Rh,Ri,Rj,Rk,Rl,Rm,Ya,Yb,Yc,Rn,Ro,Xv,Yd,Ye,Rq,Rs,Rt,Ru,Rw,Rx,Ry]
 refine Ew hE g1 hlt (BD.refl _ _) (.upd (Ak S d) (Ak S k) (Ak S a)) (fun k hk=>?_) trivial hpa fun s2 O2 k1 k2 k3=>?_
 ·simp only[Tm.kids,bv,b4,or_false]at hk
  rcases hk with rfl | rfl | rfl<;>exact hm _ (by simp)
 ·simp only[Qa,Qb,Qc,Qd,Qe,Qf,Qg,Qh,Qi,Qj,Qk,Ql,Qm,Qn,true_and,and_true,Qo,Qp,Qq,Qr,Qs,Qt,Qu,Qv,Qw,Qx,Qy,Qz,Ra,Rb,Rc,Rd,Re,Rf,Rg,Rh,Ri,Rj,Rk,Rl,Rm,Ya,Yb,Yc,Rn,Ro,Xv,Yd,Ye,Rq,Rs,Rt,Ru,Rw,Rx,Ry]
  exact hK _ _ k1 (g2.step k2 k3) (hf.trans k2 hgr) (hgr.trans k3 hf.1)
end
theorem Is{S:List Tm}{u:Tm}:∃x,push S u=S++x:=by
 unfold push;split
 ·exact⟨[],by simp⟩
 ·exact⟨[u],rfl⟩
theorem D2{A B C:List Tm}(h:∃x,B=A++x)(k:∃x,C=B++x):∃x,C=A++x:=by
 obtain⟨x,rfl⟩:=h
 obtain⟨y,rfl⟩:=k
 exact⟨x++y,by simp⟩
theorem Ow{n:Nat}{S:List Tm}{l:List Int}:(Ct n S l).length≤S.length+1:=by
 rcases E3 (n:=n) (S:=S) l with e | e<;>rw[e]
 ·omega
 ·exact En
theorem K9{n:Nat}{S:List Tm}{l:List Int}:∃x,Ct n S l=S++x:=by
 rcases E3 (n:=n) (S:=S) l with e | e<;>rw[e]
 ·exact⟨[],by simp⟩
 ·exact Is
def Ce(s:AD)(O:List Nat)(v:AV)(l:List Int):Prop:=∃Hv:List (Nat×Ao),(∀x∈Hv,s.heap.get x.1=some x.2∧x.1<s.next∧x.1 ∉ O)∧∀s':AD,(∀x∈Hv,s'.heap.get x.1=some x.2∧x.1<s'.next)→A0 s' v l
theorem Ce.step{s s':AD}{O O':List Nat}{v:AV}{l:List Int}(h:Ce s O v l)(f:DG O s s')(g:Aj O O' s):Ce s' O' v l:=by
 obtain⟨Hv,h1,h2⟩:=h
 refine⟨Hv,fun x hx=>?_,h2⟩
 obtain⟨q1,q2,q3⟩:=h1 x hx
 exact⟨by rw[f.2 _ q2 q3];exact q1,bi q2 f.1,fun hm=>(g _ hm).elim q3 (fun hl=>by omega)⟩
theorem Ce.rd{s:AD}{O:List Nat}{v:AV}{l:List Int}(h:Ce s O v l):A0 s v l:=by
 obtain⟨Hv,h1,h2⟩:=h
 exact h2 s fun x hx=>⟨(h1 x hx).1,(h1 x hx).2.1⟩
theorem Ce.of{s:AD}{O:List Nat}{j q:Nat}{cap:Option Nat}{ob:Ao}{l:List Int}(hg:s.heap.get j=some ob)(hl:j<s.next)(hO:j ∉ O)(hr:A1 (some ob) q l.length=some (C8 l)):Ce s O (.slice (some (j,q)) l.length cap) l:=
 ⟨[(j,ob)],fun x hx=>by rw[List.mem_singleton.1 hx];exact⟨hg,hl,hO⟩,fun s' h=>by
  have:=h (j,ob) (by simp)
  exact .inr ⟨j,q,cap,rfl,this.2,by rw[this.1];exact hr⟩⟩
end
end Go.Proofs.YtickdehehcmfbaaGreatDoor.Am
set_option linter.unusedVariables false
set_option linter.unusedSimpArgs false
set_option maxRecDepth 100000
namespace Go.Proofs.YtickdehehcmfbaaGreatDoor.Am
open Go Go.Proofs
noncomputable section
theorem Ci(i o:Nat):AA Tryz.prog 80 (.ptr (some (i,o))) 0=some (.ptr (some (i,o+0))):=by kernel_rfl
theorem I5:Ap Tryz.prog 122=some 10:=by kernel_rfl
theorem ZQ:Bz Tryz.prog 122=some 144:=by kernel_rfl
theorem Ny:Da Tryz.prog 122=some true:=by kernel_rfl
theorem X0:CI Tryz.prog 122=some (.agg [(.int .i64 (0)),(.int .i64 (0)),(.int .i64 (0)),(.bool false),(.str []),(.str []),(.slice none 0 (some 0)),(.slice none 0 (some 0)),(.int .i64 (0)),(.slice none 0 (some 0))]):=by kernel_rfl
theorem Kb(i o:Nat):AA Tryz.prog 122 (.ptr (some (i,o))) 0=some (.ptr (some (i,o+0))):=by kernel_rfl
theorem OQ(i o:Nat):AA Tryz.prog 122 (.ptr (some (i,o))) 1=some (.ptr (some (i,o+1))):=by kernel_rfl
theorem UM(i o:Nat):AA Tryz.prog 122 (.ptr (some (i,o))) 2=some (.ptr (some (i,o+2))):=by kernel_rfl
theorem De(i o:Nat):AA Tryz.prog 122 (.ptr (some (i,o))) 3=some (.ptr (some (i,o+9))):=by kernel_rfl
theorem aB:Ap Tryz.prog 78=some 1:=by kernel_rfl
theorem Gk:Da Tryz.prog 78=some false:=by kernel_rfl
theorem aC:Ap Tryz.prog 82=some 4:=by kernel_rfl
theorem aJ:Da Tryz.prog 82=some true:=by kernel_rfl
theorem Ef(i o:Nat):AA Tryz.prog 82 (.ptr (some (i,o))) 0=some (.ptr (some (i,o+0))):=by kernel_rfl
theorem DN(i o:Nat):AA Tryz.prog 82 (.ptr (some (i,o))) 1=some (.ptr (some (i,o+1))):=by kernel_rfl
theorem Ym(i o:Nat):AA Tryz.prog 82 (.ptr (some (i,o))) 2=some (.ptr (some (i,o+2))):=by kernel_rfl
theorem Yn(i o:Nat):AA Tryz.prog 82 (.ptr (some (i,o))) 3=some (.ptr (some (i,o+3))):=by kernel_rfl
theorem ER:Ap Tryz.prog 46=some 12:=by kernel_rfl
theorem aM:Bz Tryz.prog 46=some 144:=by kernel_rfl
theorem Ff:Da Tryz.prog 46=some true:=by kernel_rfl
theorem aE:CI Tryz.prog 46=some (.agg [(.int .i64 (0)),(.int .i64 (0)),(.int .i64 (0)),(.bool false),(.str []),(.str []),(.slice none 0 (some 0)),(.slice none 0 (some 0)),(.int .i64 (0)),(.int .i64 (0)),(.int .i64 (0)),(.int .i64 (0))]):=by kernel_rfl
theorem BW(i o:Nat):AA Tryz.prog 46 (.ptr (some (i,o))) 0=some (.ptr (some (i,o+0))):=by kernel_rfl
theorem B0(i o:Nat):AA Tryz.prog 46 (.ptr (some (i,o))) 1=some (.ptr (some (i,o+1))):=by kernel_rfl
theorem SY(i o:Nat):AA Tryz.prog 46 (.ptr (some (i,o))) 2=some (.ptr (some (i,o+2))):=by kernel_rfl
theorem Kc(i o:Nat):AA Tryz.prog 46 (.ptr (some (i,o))) 3=some (.ptr (some (i,o+9))):=by kernel_rfl
def Zq:List AC:=[
 ⟨none,.p1 some,[(.const (.ptr none))],(.set 1),[]⟩]
def Zr:List AC:=[
 ⟨none,.call 16,[.var 0],.push,[]⟩,
 ⟨none,.p1 (fun x=>Xv x 0),[.loc 0],.push,[]⟩,
 ⟨none,.p1 (fun x=>Xv x 1),[.loc 1],.push,[]⟩,
 ⟨none,.p1 some,[.loc 1],.push,[]⟩,
 ⟨none,.p1 some,[.loc 1],(.set 2),[]⟩]
def Zs:List AC:=[
 ⟨none,.call 28,[],.push,[]⟩,
 ⟨none,.p1 some,[.loc 0],(.set 3),[]⟩]
def Zt:List AC:=[
 ⟨none,.p1 some,[(.const (.int .i64 (0)))],(.set 4),[]⟩]
def X7:List AC:=[
 ⟨none,.r (fun s l=>match l with | [x]=>BY Tryz.prog s 36 x | _=>none),[.var 2],.push,[]⟩,
 ⟨none,.p2 (AO Tryz.prog .lss 3),[.var 4,.loc 0],(.set 5),[]⟩]
def Zu:List AC:=[
 ⟨none,.p2 (AH Tryz.prog 36),[.var 2,.var 4],.push,[]⟩,
 ⟨none,.r1 (fun s a=>AK Tryz.prog s 46 a),[.loc 0],.push,[]⟩,
 ⟨none,.call 17,[.var 3,.loc 0],.push,[]⟩]
def Zv:List AC:=[
 ⟨none,.p1 some,[.var 4],.push,[]⟩,
 ⟨none,.p2 (AO Tryz.prog .add 3),[(.loc 0),(.const (.int .i64 (1)))],.push,[]⟩,
 ⟨none,.p1 some,[.loc 0],(.set 4),[]⟩]
def SI:AU:=(.seq (.seq (.ops X7) (.cond (.var 5)
 .skip
 (.exit 0))) (.seq (.block 1 (.ops Zu)) (.ops Zv)))
def Zw:List AC:=[
 ⟨none,.p1 some,[.var 3],(.set 1),[]⟩]
def c8:At:=⟨1,6,(.seq (.ops Zq) (.seq (.ops Zr) (.seq (.ops Zs) (.seq (.seq (.ops Zt) (.block 0 (.loop SI))) (.seq (.ops Zw) .ret))))),[((.var 1),none)]⟩
def JS:List AC:=[
 ⟨none,.mk (fun l=>match l with | [v]=>EY 46 v | _=>none),[.var 1],(.set 2),[]⟩,
 ⟨none,.p1 some,[(.const (.int .i64 (0)))],(.set 3),[]⟩]
def JT:List AC:=[
 ⟨none,.p1 (fun x=>AA Tryz.prog 46 x 0),[.var 2],.push,[]⟩,
 ⟨none,.r1 (fun s a=>AK Tryz.prog s 3 a),[.loc 0],(.set 4),[]⟩]
def JU:List AC:=[
 ⟨none,.p2 (AO Tryz.prog .eql 3),[(.var 4),(.const (.int .i64 (0)))],.push,[]⟩,
 ⟨none,.p1 some,[.loc 0],(.set 5),[]⟩]
def VI:List AC:=[
 ⟨none,.p1 (fun x=>AA Tryz.prog 46 x 1),[.var 2],.push,[]⟩,
 ⟨none,.r1 (fun s a=>AK Tryz.prog s 3 a),[.loc 0],.push,[]⟩,
 ⟨none,.call 11,[.var 0,.loc 0],.push,[]⟩,
 ⟨none,.p1 some,[.loc 0],(.set 3),[]⟩]
def LL:List AC:=[
 ⟨none,.p2 (AO Tryz.prog .eql 3),[(.var 4),(.const (.int .i64 (1)))],.push,[]⟩,
 ⟨none,.p1 some,[.loc 0],(.set 6),[]⟩]
def VJ:List AC:=[
 ⟨none,.p1 (fun x=>AA Tryz.prog 46 x 1),[.var 2],.push,[]⟩,
 ⟨none,.r1 (fun s a=>AK Tryz.prog s 3 a),[.loc 0],.push,[]⟩,
 ⟨none,.call 21,[.var 0,.loc 0],.push,[]⟩,
 ⟨none,.p1 some,[.loc 0],(.set 3),[]⟩]
def N3:List AC:=[
 ⟨none,.p2 (AO Tryz.prog .eql 3),[(.var 4),(.const (.int .i64 (2)))],.push,[]⟩,
 ⟨none,.p1 some,[.loc 0],(.set 7),[]⟩]
def VK:List AC:=[
 ⟨none,.p1 (fun x=>AA Tryz.prog 46 x 2),[.var 2],.push,[]⟩,
 ⟨none,.r1 (fun s a=>AK Tryz.prog s 43 a),[.loc 0],.push,[]⟩,
 ⟨none,.call 22,[.var 0,.loc 0],.push,[]⟩,
 ⟨none,.p1 some,[.loc 0],(.set 3),[]⟩]
def Q7:List AC:=[
 ⟨none,.p2 (AO Tryz.prog .eql 3),[(.var 4),(.const (.int .i64 (3)))],.push,[]⟩,
 ⟨none,.p1 some,[.loc 0],(.set 8),[]⟩]
def VL:List AC:=[
 ⟨none,.p1 (fun x=>AA Tryz.prog 46 x 3),[.var 2],.push,[]⟩,
 ⟨none,.p2 (AH Tryz.prog 44),[(.loc 0),(.const (.int .i64 (0)))],.push,[]⟩,
 ⟨none,.r1 (fun s a=>AK Tryz.prog s 3 a),[.loc 0],.push,[]⟩,
 ⟨none,.p1 (fun x=>AA Tryz.prog 46 x 3),[.var 2],.push,[]⟩,
 ⟨none,.p2 (AH Tryz.prog 44),[(.loc 0),(.const (.int .i64 (1)))],.push,[]⟩,
 ⟨none,.r1 (fun s a=>AK Tryz.prog s 3 a),[.loc 0],.push,[]⟩,
 ⟨none,.call 24,[.var 0,.loc 3,.loc 0],.push,[]⟩,
 ⟨none,.p1 some,[.loc 0],(.set 3),[]⟩]
def Q6:List AC:=[
 ⟨none,.p1 (fun x=>AA Tryz.prog 46 x 3),[.var 2],.push,[]⟩,
 ⟨none,.p2 (AH Tryz.prog 44),[(.loc 0),(.const (.int .i64 (0)))],.push,[]⟩,
 ⟨none,.r1 (fun s a=>AK Tryz.prog s 3 a),[.loc 0],.push,[]⟩,
 ⟨none,.p1 (fun x=>AA Tryz.prog 46 x 3),[.var 2],.push,[]⟩,
 ⟨none,.p2 (AH Tryz.prog 44),[(.loc 0),(.const (.int .i64 (1)))],.push,[]⟩,
 ⟨none,.r1 (fun s a=>AK Tryz.prog s 3 a),[.loc 0],.push,[]⟩,
 ⟨none,.p1 (fun x=>AA Tryz.prog 46 x 3),[.var 2],.push,[]⟩,
 ⟨none,.p2 (AH Tryz.prog 44),[(.loc 0),(.const (.int .i64 (2)))],.push,[]⟩,
 ⟨none,.r1 (fun s a=>AK Tryz.prog s 3 a),[.loc 0],.push,[]⟩,
 ⟨none,.call 25,[.var 0,.loc 6,.loc 3,.loc 0],.push,[]⟩,
 ⟨none,.p1 some,[.loc 0],(.set 3),[]⟩]
def ZD:At:=⟨2,9,(.seq (.ops JS) (.seq (.seq (.ops JT) (.block 0 (.seq (.ops JU) (.cond (.var 5)
 (.seq (.ops VI) .ret)
 (.seq (.ops LL) (.cond (.var 6)
 (.seq (.ops VJ) .ret)
 (.seq (.ops N3) (.cond (.var 7)
 (.seq (.ops VK) .ret)
 (.seq (.ops Q7) (.cond (.var 8)
 (.seq (.ops VL) .ret)
 .skip)))))))))) (.seq (.ops Q6) .ret))),[((.var 3),none)]⟩
def VA:List AC:=[
 ⟨none,.p1 some,[(.const (.ptr none))],(.set 1),[]⟩,
 ⟨none,.p1 some,[(.const (.slice none 0 (some 0)))],(.set 2),[]⟩]
def VB:List AC:=[
 ⟨none,.p (fun l=>AR Tryz.prog 80 (zipIdx [] l)),[],.push,[]⟩,
 ⟨none,.mk (fun l=>match l with | [v]=>EY 80 v | _=>none),[.loc 0],.push,[]⟩,
 ⟨none,.p1 some,[.loc 0],(.set 3),[]⟩]
def VC:List AC:=[
 ⟨none,.p1 some,[(.const (.slice none 0 (some 0)))],(.set 4),[]⟩]
def VD:List AC:=[
 ⟨none,.p1 some,[(.const (.int .i64 (0)))],(.set 5),[]⟩]
def N2:List AC:=[
 ⟨none,.r (fun s l=>match l with | [x]=>BY Tryz.prog s 22 x | _=>none),[.var 0],.push,[]⟩,
 ⟨none,.p2 (AO Tryz.prog .lss 3),[.var 5,.loc 0],.push,[]⟩,
 ⟨(some ((.loc 0),true)),.p1 some,[.var 5],.push,[]⟩,
 ⟨(some ((.loc 1),true)),.p2 (AO Tryz.prog .lss 3),[(.loc 0),(.const (.int .i64 (40)))],.push,[]⟩,
 ⟨none,.p Rn,[(.loc 2),(.loc 0),(.const (.bool false))],(.set 7),[]⟩]
def VE:List AC:=[
 ⟨none,.p2 (AH Tryz.prog 22),[.var 0,.var 5],.push,[]⟩,
 ⟨none,.r1 (fun s a=>AK Tryz.prog s 82 a),[.loc 0],.push,[]⟩,
 ⟨none,.call 41,[.loc 0,.var 3],.push,[]⟩,
 ⟨none,.mk (fun l=>match l with | []=>Bo Tryz.prog 46 | _=>none),[],(.set 6),[]⟩,
 ⟨none,.e (fun s=>Xs (fun a x=>Xu (As Tryz.prog s 46 a x))),[.var 6,.loc 0],.push,[]⟩]
def VF:List AC:=[
 ⟨none,.r1 (fun s a=>AK Tryz.prog s 46 a),[.var 6],.push,[]⟩,
 ⟨none,.call 42,[.var 3,.loc 0],.push,[]⟩]
def VG:List AC:=[
 ⟨none,.p1 some,[.var 4],.push,[]⟩,
 ⟨none,.r1 (fun s a=>AK Tryz.prog s 46 a),[.var 6],.push,[]⟩,
 ⟨none,.mk (fun l=>(Aa Tryz.prog 36 1 (zipIdx [0] l)).bind fun r=>some (r,.slice 1)),[.loc 0],.push,[]⟩,
 ⟨none,.e (fun s l=>Ay Tryz.prog s [36,36] l),[.loc 2,.loc 0],.push,[]⟩,
 ⟨none,.p1 some,[.loc 0],(.set 4),[]⟩]
def VH:List AC:=[
 ⟨none,.p1 some,[.var 5],.push,[]⟩,
 ⟨none,.p2 (AO Tryz.prog .add 3),[(.loc 0),(.const (.int .i64 (1)))],.push,[]⟩,
 ⟨none,.p1 some,[.loc 0],(.set 5),[]⟩]
def JR:AU:=(.seq (.seq (.ops N2) (.cond (.var 7)
 .skip
 (.exit 0))) (.seq (.block 1 (.seq (.ops VE) (.seq (.ops VF) (.ops VG)))) (.ops VH)))
def Q5:List AC:=[
 ⟨none,.p1 some,[.var 3],(.set 1),[]⟩,
 ⟨none,.p1 some,[.var 4],(.set 2),[]⟩]
def af:At:=⟨1,8,(.seq (.ops VA) (.seq (.ops VB) (.seq (.ops VC) (.seq (.seq (.ops VD) (.block 0 (.loop JR))) (.seq (.ops Q5) .ret))))),[((.var 1),none),((.var 2),none)]⟩
def V4:List AC:=[
 ⟨none,.mk (fun l=>match l with | [v]=>EY 82 v | _=>none),[.var 0],(.set 2),[]⟩,
 ⟨none,.mk (fun l=>match l with | []=>Bo Tryz.prog 46 | _=>none),[],(.set 3),[]⟩]
def V5:List AC:=[
 ⟨none,.p1 (fun x=>AA Tryz.prog 82 x 1),[.var 2],.push,[]⟩,
 ⟨none,.r1 (fun s a=>AK Tryz.prog s 5 a),[.loc 0],.push,[]⟩,
 ⟨none,.p1 (fun x=>AA Tryz.prog 82 x 1),[.var 2],.push,[]⟩,
 ⟨none,.r1 (fun s a=>AK Tryz.prog s 5 a),[.loc 0],.push,[]⟩,
 ⟨none,.p2 (AO Tryz.prog .rem 5),[(.loc 0),(.const (.int .u8 (7)))],.push,[]⟩,
 ⟨none,.r1 (fun s x=>BJ Tryz.prog s 5 3 x),[.loc 0],.push,[]⟩,
 ⟨none,.p2 (AO Tryz.prog .sub 3),[(.loc 0),(.const (.int .i64 (2)))],.push,[]⟩,
 ⟨none,.p1 (fun x=>AA Tryz.prog 82 x 1),[.var 2],.push,[]⟩,
 ⟨none,.r1 (fun s a=>AK Tryz.prog s 5 a),[.loc 0],.push,[]⟩,
 ⟨none,.p1 (fun x=>AA Tryz.prog 82 x 2),[.var 2],.push,[]⟩,
 ⟨none,.r1 (fun s a=>AK Tryz.prog s 5 a),[.loc 0],.push,[]⟩,
 ⟨none,.p1 (fun x=>AA Tryz.prog 82 x 3),[.var 2],.push,[]⟩,
 ⟨none,.r1 (fun s a=>AK Tryz.prog s 5 a),[.loc 0],.push,[]⟩,
 ⟨none,.mk (fun l=>match l with | []=>Bo Tryz.prog 46 | _=>none),[],(.set 4),[]⟩,
 ⟨none,.call 61,[.loc 11],.push,[⟨none,.r1 (fun s a=>AK Tryz.prog s 5 a),[.loc 2],(.loc 1)⟩,⟨none,.r1 (fun s a=>AK Tryz.prog s 5 a),[.loc 4],(.loc 3)⟩,⟨none,.r1 (fun s a=>AK Tryz.prog s 5 a),[.loc 6],(.loc 5)⟩,⟨none,.r1 (fun s x=>BJ Tryz.prog s 5 3 x),[.loc 9],(.loc 8)⟩,⟨none,.r1 (fun s a=>AK Tryz.prog s 5 a),[.loc 11],(.loc 10)⟩]⟩,
 ⟨none,.call 62,[.var 1,.loc 5],.push,[⟨none,.r1 (fun s a=>AK Tryz.prog s 5 a),[.loc 3],(.loc 2)⟩,⟨none,.r1 (fun s a=>AK Tryz.prog s 5 a),[.loc 5],(.loc 4)⟩,⟨none,.r1 (fun s x=>BJ Tryz.prog s 5 3 x),[.loc 10],(.loc 9)⟩,⟨none,.r1 (fun s a=>AK Tryz.prog s 5 a),[.loc 12],(.loc 11)⟩]⟩,
 ⟨none,.call 62,[.var 1,.loc 4],.push,[⟨none,.r1 (fun s a=>AK Tryz.prog s 5 a),[.loc 4],(.loc 3)⟩,⟨none,.r1 (fun s x=>BJ Tryz.prog s 5 3 x),[.loc 11],(.loc 10)⟩,⟨none,.r1 (fun s a=>AK Tryz.prog s 5 a),[.loc 13],(.loc 12)⟩]⟩,
 ⟨none,.call 62,[.var 1,.loc 3],.push,[⟨none,.r1 (fun s x=>BJ Tryz.prog s 5 3 x),[.loc 12],(.loc 11)⟩,⟨none,.r1 (fun s a=>AK Tryz.prog s 5 a),[.loc 14],(.loc 13)⟩]⟩,
 ⟨none,.p (fun l=>AR Tryz.prog 44 (zipIdx [0,1,2] l)),[.loc 2,.loc 1,.loc 0],.push,[]⟩,
 ⟨none,.p (fun l=>AR Tryz.prog 46 (zipIdx [2,1,3] l)),[.loc 4,.loc 11,.loc 0],.push,[]⟩,
 ⟨none,.e (fun s=>Xs (fun a x=>Xu (As Tryz.prog s 46 a x))),[.var 4,.loc 0],.push,[]⟩]
def F5:List AC:=[
 ⟨none,.p1 (fun x=>AA Tryz.prog 82 x 0),[.var 2],.push,[]⟩,
 ⟨none,.r1 (fun s a=>AK Tryz.prog s 5 a),[.loc 0],.push,[]⟩,
 ⟨none,.p2 (AO Tryz.prog .rem 5),[(.loc 0),(.const (.int .u8 (8)))],(.set 5),[]⟩]
def F6:List AC:=[
 ⟨none,.p2 (AO Tryz.prog .eql 5),[(.var 5),(.const (.int .u8 (0)))],.push,[]⟩,
 ⟨none,.p1 some,[.loc 0],(.set 6),[]⟩]
def HK:List AC:=[
 ⟨none,.p2 (AO Tryz.prog .eql 5),[(.var 5),(.const (.int .u8 (1)))],.push,[]⟩,
 ⟨none,.p1 some,[.loc 0],(.set 6),[]⟩]
def RN:List AC:=[
 ⟨none,.p1 (fun x=>AA Tryz.prog 46 x 0),[.var 4],.push,[]⟩,
 ⟨none,.e (fun s=>Xs (fun a x=>Xu (As Tryz.prog s 3 a x))),[(.loc 0),(.const (.int .i64 (0)))],.push,[]⟩]
def IC:List AC:=[
 ⟨none,.p2 (AO Tryz.prog .eql 5),[(.var 5),(.const (.int .u8 (2)))],.push,[]⟩,
 ⟨none,.p1 some,[.loc 0],(.set 7),[]⟩]
def V6:List AC:=[
 ⟨none,.p1 (fun x=>AA Tryz.prog 46 x 0),[.var 4],.push,[]⟩,
 ⟨none,.e (fun s=>Xs (fun a x=>Xu (As Tryz.prog s 3 a x))),[(.loc 0),(.const (.int .i64 (1)))],.push,[]⟩]
def V7:List AC:=[
 ⟨none,.p1 (fun x=>AA Tryz.prog 82 x 1),[.var 2],.push,[]⟩,
 ⟨none,.r1 (fun s a=>AK Tryz.prog s 5 a),[.loc 0],.push,[]⟩,
 ⟨none,.p2 (AO Tryz.prog .rem 5),[(.loc 0),(.const (.int .u8 (5)))],.push,[]⟩,
 ⟨none,.r1 (fun s x=>BJ Tryz.prog s 5 3 x),[.loc 0],.push,[]⟩,
 ⟨none,.p1 (fun x=>AA Tryz.prog 46 x 1),[.var 4],.push,[]⟩,
 ⟨none,.e (fun s=>Xs (fun a x=>Xu (As Tryz.prog s 3 a x))),[.loc 0,.loc 1],.push,[]⟩]
def JY:List AC:=[
 ⟨none,.p2 (AO Tryz.prog .eql 5),[(.var 5),(.const (.int .u8 (3)))],.push,[]⟩,
 ⟨none,.p1 some,[.loc 0],(.set 8),[]⟩]
def IB:List AC:=[
 ⟨none,.p2 (AO Tryz.prog .eql 5),[(.var 5),(.const (.int .u8 (4)))],.push,[]⟩,
 ⟨none,.p1 some,[.loc 0],(.set 8),[]⟩]
def Ms:List AC:=[
 ⟨none,.p1 (fun x=>AA Tryz.prog 46 x 0),[.var 4],.push,[]⟩,
 ⟨none,.e (fun s=>Xs (fun a x=>Xu (As Tryz.prog s 3 a x))),[(.loc 0),(.const (.int .i64 (2)))],.push,[]⟩]
def KY:List AC:=[
 ⟨none,.p2 (AO Tryz.prog .eql 5),[(.var 5),(.const (.int .u8 (5)))],.push,[]⟩,
 ⟨none,.p1 some,[.loc 0],(.set 9),[]⟩]
def Mt:List AC:=[
 ⟨none,.p2 (AO Tryz.prog .eql 5),[(.var 5),(.const (.int .u8 (6)))],.push,[]⟩,
 ⟨none,.p1 some,[.loc 0],(.set 9),[]⟩]
def Mu:List AC:=[
 ⟨none,.p1 (fun x=>AA Tryz.prog 46 x 0),[.var 4],.push,[]⟩,
 ⟨none,.e (fun s=>Xs (fun a x=>Xu (As Tryz.prog s 3 a x))),[(.loc 0),(.const (.int .i64 (3)))],.push,[]⟩]
def RM:List AC:=[
 ⟨none,.p1 (fun x=>AA Tryz.prog 46 x 0),[.var 4],.push,[]⟩,
 ⟨none,.e (fun s=>Xs (fun a x=>Xu (As Tryz.prog s 3 a x))),[(.loc 0),(.const (.int .i64 (4)))],.push,[]⟩]
def D9:List AC:=[
 ⟨none,.r1 (fun s a=>AK Tryz.prog s 46 a),[.var 4],.push,[]⟩,
 ⟨none,.e (fun s=>Xs (fun a x=>Xu (As Tryz.prog s 46 a x))),[.var 3,.loc 0],.push,[]⟩]
def bA:At:=⟨2,10,(.seq (.ops V4) (.seq (.ops V5) (.seq (.seq (.ops F5) (.block 0 (.seq (.seq (.ops F6) (.cond (.var 6)
 .skip
 (.ops HK))) (.cond (.var 6)
 (.ops RN)
 (.seq (.ops IC) (.cond (.var 7)
 (.seq (.ops V6) (.ops V7))
 (.seq (.seq (.ops JY) (.cond (.var 8)
 .skip
 (.ops IB))) (.cond (.var 8)
 (.ops Ms)
 (.seq (.seq (.ops KY) (.cond (.var 9)
 .skip
 (.ops Mt))) (.cond (.var 9)
 (.ops Mu)
 (.ops RM))))))))))) (.seq (.ops D9) .ret)))),[((.var 3),some 46)]⟩
def JZ:List AC:=[
 ⟨none,.mk (fun l=>match l with | [v]=>EY 46 v | _=>none),[.var 1],(.set 2),[]⟩,
 ⟨none,.p1 some,[(.const (.int .i64 (0)))],(.set 3),[]⟩]
def Ja:List AC:=[
 ⟨none,.p1 (fun x=>AA Tryz.prog 46 x 0),[.var 2],.push,[]⟩,
 ⟨none,.r1 (fun s a=>AK Tryz.prog s 3 a),[.loc 0],(.set 4),[]⟩]
def Jb:List AC:=[
 ⟨none,.p2 (AO Tryz.prog .eql 3),[(.var 4),(.const (.int .i64 (0)))],.push,[]⟩,
 ⟨none,.p1 some,[.loc 0],(.set 5),[]⟩]
def V8:List AC:=[
 ⟨none,.p1 (fun x=>AA Tryz.prog 46 x 1),[.var 2],.push,[]⟩,
 ⟨none,.r1 (fun s a=>AK Tryz.prog s 3 a),[.loc 0],.push,[]⟩,
 ⟨none,.call 63,[.var 0,.loc 0],.push,[]⟩,
 ⟨none,.p1 some,[.loc 0],(.set 3),[]⟩]
def LO:List AC:=[
 ⟨none,.p2 (AO Tryz.prog .eql 3),[(.var 4),(.const (.int .i64 (1)))],.push,[]⟩,
 ⟨none,.p1 some,[.loc 0],(.set 6),[]⟩]
def V9:List AC:=[
 ⟨none,.p1 (fun x=>AA Tryz.prog 46 x 1),[.var 2],.push,[]⟩,
 ⟨none,.r1 (fun s a=>AK Tryz.prog s 3 a),[.loc 0],.push,[]⟩,
 ⟨none,.call 64,[.var 0,.loc 0],.push,[]⟩,
 ⟨none,.p1 some,[.loc 0],(.set 3),[]⟩]
def N7:List AC:=[
 ⟨none,.p2 (AO Tryz.prog .eql 3),[(.var 4),(.const (.int .i64 (2)))],.push,[]⟩,
 ⟨none,.p1 some,[.loc 0],(.set 7),[]⟩]
def WA:List AC:=[
 ⟨none,.p1 (fun x=>AA Tryz.prog 46 x 2),[.var 2],.push,[]⟩,
 ⟨none,.r1 (fun s a=>AK Tryz.prog s 43 a),[.loc 0],.push,[]⟩,
 ⟨none,.call 65,[.var 0,.loc 0],.push,[]⟩,
 ⟨none,.p1 some,[.loc 0],(.set 3),[]⟩]
def RQ:List AC:=[
 ⟨none,.p2 (AO Tryz.prog .eql 3),[(.var 4),(.const (.int .i64 (3)))],.push,[]⟩,
 ⟨none,.p1 some,[.loc 0],(.set 8),[]⟩]
def WB:List AC:=[
 ⟨none,.p1 (fun x=>AA Tryz.prog 46 x 3),[.var 2],.push,[]⟩,
 ⟨none,.p2 (AH Tryz.prog 44),[(.loc 0),(.const (.int .i64 (0)))],.push,[]⟩,
 ⟨none,.r1 (fun s a=>AK Tryz.prog s 3 a),[.loc 0],.push,[]⟩,
 ⟨none,.p1 (fun x=>AA Tryz.prog 46 x 3),[.var 2],.push,[]⟩,
 ⟨none,.p2 (AH Tryz.prog 44),[(.loc 0),(.const (.int .i64 (1)))],.push,[]⟩,
 ⟨none,.r1 (fun s a=>AK Tryz.prog s 3 a),[.loc 0],.push,[]⟩,
 ⟨none,.call 66,[.var 0,.loc 3,.loc 0],.push,[]⟩,
 ⟨none,.p1 some,[.loc 0],(.set 3),[]⟩]
def RO:List AC:=[
 ⟨none,.p1 (fun x=>AA Tryz.prog 46 x 3),[.var 2],.push,[]⟩,
 ⟨none,.p2 (AH Tryz.prog 44),[(.loc 0),(.const (.int .i64 (0)))],.push,[]⟩,
 ⟨none,.r1 (fun s a=>AK Tryz.prog s 3 a),[.loc 0],.push,[]⟩,
 ⟨none,.p1 (fun x=>AA Tryz.prog 46 x 3),[.var 2],.push,[]⟩,
 ⟨none,.p2 (AH Tryz.prog 44),[(.loc 0),(.const (.int .i64 (1)))],.push,[]⟩,
 ⟨none,.r1 (fun s a=>AK Tryz.prog s 3 a),[.loc 0],.push,[]⟩,
 ⟨none,.p1 (fun x=>AA Tryz.prog 46 x 3),[.var 2],.push,[]⟩,
 ⟨none,.p2 (AH Tryz.prog 44),[(.loc 0),(.const (.int .i64 (2)))],.push,[]⟩,
 ⟨none,.r1 (fun s a=>AK Tryz.prog s 3 a),[.loc 0],.push,[]⟩,
 ⟨none,.call 67,[.var 0,.loc 6,.loc 3,.loc 0],.push,[]⟩,
 ⟨none,.p1 some,[.loc 0],(.set 3),[]⟩]
def ZE:At:=⟨2,9,(.seq (.ops JZ) (.seq (.seq (.ops Ja) (.block 0 (.seq (.ops Jb) (.cond (.var 5)
 (.seq (.ops V8) .ret)
 (.seq (.ops LO) (.cond (.var 6)
 (.seq (.ops V9) .ret)
 (.seq (.ops N7) (.cond (.var 7)
 (.seq (.ops WA) .ret)
 (.seq (.ops RQ) (.cond (.var 8)
 (.seq (.ops WB) .ret)
 .skip)))))))))) (.seq (.ops RO) .ret))),[((.var 3),none)]⟩
def WY:List AC:=[
 ⟨none,.mk (fun l=>match l with | []=>Bo Tryz.prog 43 | _=>none),[],(.set 1),[]⟩]
def WZ:List AC:=[
 ⟨none,.p (fun l=>AR Tryz.prog 43 (zipIdx [] l)),[],.push,[]⟩,
 ⟨none,.p (fun l=>AR Tryz.prog 43 (zipIdx [0,1] l)),[(.const (.int .i64 (1))),(.const (.bool true))],.push,[]⟩,
 ⟨none,.p (fun l=>AR Tryz.prog 43 (zipIdx [0] l)),[(.const (.int .i64 (1)))],.push,[]⟩,
 ⟨none,.p (fun l=>AR Tryz.prog 43 (zipIdx [0,2] l)),[(.const (.int .i64 (2))),(.const (.str [48]))],.push,[]⟩,
 ⟨none,.p (fun l=>AR Tryz.prog 43 (zipIdx [0,2] l)),[(.const (.int .i64 (2))),(.const (.str [49]))],.push,[]⟩,
 ⟨none,.p (fun l=>AR Tryz.prog 43 (zipIdx [0,2] l)),[(.const (.int .i64 (2))),(.const (.str [45,53]))],.push,[]⟩,
 ⟨none,.p (fun l=>AR Tryz.prog 43 (zipIdx [0,2] l)),[(.const (.int .i64 (2))),(.const (.str [49,56,52,52,54,55,52,52,48,55,51,55,48,57,53,53,49,54,49,54]))],.push,[]⟩,
 ⟨none,.p (fun l=>AR Tryz.prog 43 (zipIdx [0,3] l)),[(.const (.int .i64 (3))),(.const (.str [97]))],.push,[]⟩,
 ⟨none,.p (fun l=>AR Tryz.prog 43 (zipIdx [0,3] l)),[(.const (.int .i64 (3))),(.const (.str [98]))],.push,[]⟩,
 ⟨none,.p (fun l=>AR Tryz.prog 43 (zipIdx [0] l)),[(.const (.int .i64 (3)))],.push,[]⟩,
 ⟨none,.p (fun l=>AR Tryz.prog 43 (zipIdx [0] l)),[(.const (.int .i64 (4)))],.push,[]⟩,
 ⟨none,.mk (fun l=>(Aa Tryz.prog 41 11 (zipIdx [0,1,2,3,4,5,6,7,8,9,10] l)).bind fun r=>some (r,.slice 11)),[.loc 10,.loc 9,.loc 8,.loc 7,.loc 6,.loc 5,.loc 4,.loc 3,.loc 2,.loc 1,.loc 0],.push,[]⟩,
 ⟨none,.p1 some,[.loc 0],(.set 2),[]⟩]
def Wk:List AC:=[
 ⟨none,.r1 (fun s x=>BJ Tryz.prog s 5 3 x),[.var 0],.push,[]⟩,
 ⟨none,.r (fun s l=>match l with | [x]=>BY Tryz.prog s 41 x | _=>none),[.var 2],.push,[]⟩,
 ⟨none,.p2 (AO Tryz.prog .rem 3),[.loc 1,.loc 0],.push,[]⟩,
 ⟨none,.p2 (AH Tryz.prog 41),[.var 2,.loc 0],.push,[]⟩,
 ⟨none,.r1 (fun s a=>AK Tryz.prog s 43 a),[.loc 0],.push,[]⟩,
 ⟨none,.e (fun s=>Xs (fun a x=>Xu (As Tryz.prog s 43 a x))),[.var 1,.loc 0],.push,[]⟩]
def bB:At:=⟨1,3,(.seq (.ops WY) (.seq (.ops WZ) (.seq (.ops Wk) .ret))),[((.var 1),some 43)]⟩
def OC:List AC:=[
 ⟨none,.p1 some,[(.const (.int .i64 (0)))],(.set 2),[]⟩]
def OD:List AC:=[
 ⟨none,.p1 AY,[.var 0],.push,[]⟩,
 ⟨none,.p1 (fun x=>AA Tryz.prog 80 x 0),[.loc 0],.push,[]⟩,
 ⟨none,.r1 (fun s a=>AK Tryz.prog s 78 a),[.loc 0],.push,[]⟩,
 ⟨none,.r (fun s l=>match l with | [x]=>BY Tryz.prog s 78 x | _=>none),[.loc 0],.push,[]⟩,
 ⟨none,.p2 (AO Tryz.prog .eql 3),[(.loc 0),(.const (.int .i64 (0)))],(.set 4),[]⟩]
def Wo:List AC:=[
 ⟨none,.p1 some,[(.const (.int .i64 (0)))],(.set 2),[]⟩]
def R5:List AC:=[
 ⟨none,.r1 (fun s x=>BJ Tryz.prog s 5 3 x),[.var 1],.push,[]⟩,
 ⟨none,.p1 AY,[.var 0],.push,[]⟩,
 ⟨none,.p1 (fun x=>AA Tryz.prog 80 x 0),[.loc 0],.push,[]⟩,
 ⟨none,.r1 (fun s a=>AK Tryz.prog s 78 a),[.loc 0],.push,[]⟩,
 ⟨none,.r (fun s l=>match l with | [x]=>BY Tryz.prog s 78 x | _=>none),[.loc 0],.push,[]⟩,
 ⟨none,.p2 (AO Tryz.prog .rem 3),[.loc 4,.loc 0],.push,[]⟩,
 ⟨none,.p1 some,[.loc 0],(.set 3),[]⟩]
def R6:List AC:=[
 ⟨none,.p2 (AO Tryz.prog .geq 5),[(.var 1),(.const (.int .u8 (128)))],(.set 5),[]⟩]
def W0:List AC:=[
 ⟨none,.p1 AY,[.var 0],.push,[]⟩,
 ⟨none,.p1 (fun x=>AA Tryz.prog 80 x 0),[.loc 0],.push,[]⟩,
 ⟨none,.r1 (fun s a=>AK Tryz.prog s 78 a),[.loc 0],.push,[]⟩,
 ⟨none,.r (fun s l=>match l with | [x]=>BY Tryz.prog s 78 x | _=>none),[.loc 0],.push,[]⟩,
 ⟨none,.p2 (AO Tryz.prog .sub 3),[(.loc 0),(.const (.int .i64 (1)))],.push,[]⟩,
 ⟨none,.r1 (fun s x=>BJ Tryz.prog s 5 3 x),[.var 1],.push,[]⟩,
 ⟨none,.p1 AY,[.var 0],.push,[]⟩,
 ⟨none,.p1 (fun x=>AA Tryz.prog 80 x 0),[.loc 0],.push,[]⟩,
 ⟨none,.r1 (fun s a=>AK Tryz.prog s 78 a),[.loc 0],.push,[]⟩,
 ⟨none,.r (fun s l=>match l with | [x]=>BY Tryz.prog s 78 x | _=>none),[.loc 0],.push,[]⟩,
 ⟨none,.p (fun l=>match l with | v::l=>B9 false v l | []=>none),[(.loc 0),(.const (.int .i64 (6)))],.push,[]⟩,
 ⟨none,.p2 (AO Tryz.prog .rem 3),[.loc 5,.loc 0],.push,[]⟩,
 ⟨none,.p2 (AO Tryz.prog .sub 3),[.loc 7,.loc 0],.push,[]⟩,
 ⟨none,.p1 some,[.loc 0],(.set 3),[]⟩]
def R7:List AC:=[
 ⟨none,.call 80,[.var 0,.var 3],.push,[]⟩,
 ⟨none,.p2 (AO Tryz.prog .gtr 3),[(.loc 0),(.const (.int .i64 (8)))],(.set 6),[]⟩]
def R8:List AC:=[
 ⟨none,.p1 some,[(.const (.int .i64 (0)))],(.set 2),[]⟩]
def R9:List AC:=[
 ⟨none,.p1 some,[.var 3],(.set 2),[]⟩]
def aG:At:=⟨2,7,(.seq (.ops OC) (.seq (.seq (.ops OD) (.cond (.var 4)
 (.seq (.ops Wo) .ret)
 .skip)) (.seq (.ops R5) (.seq (.seq (.ops R6) (.cond (.var 5)
 (.ops W0)
 .skip)) (.seq (.seq (.ops R7) (.cond (.var 6)
 (.seq (.ops R8) .ret)
 .skip)) (.seq (.ops R9) .ret)))))),[((.var 2),none)]⟩
def W1:List AC:=[
 ⟨none,.p1 some,[(.const (.int .i64 (0)))],(.set 2),[]⟩]
def W2:List AC:=[
 ⟨none,.p (fun l=>AR Tryz.prog 122 (zipIdx [0,1] l)),[(.const (.int .i64 (0))),(.var 1)],.push,[]⟩,
 ⟨none,.call 81,[.var 0,.loc 0],.push,[]⟩,
 ⟨none,.p1 some,[.loc 0],(.set 2),[]⟩]
def bC:At:=⟨2,3,(.seq (.ops W1) (.seq (.ops W2) .ret)),[((.var 2),none)]⟩
def W3:List AC:=[
 ⟨none,.p1 some,[(.const (.int .i64 (0)))],(.set 2),[]⟩]
def W4:List AC:=[
 ⟨none,.p (fun l=>match l with | v::l=>B9 true v l | []=>none),[(.var 1),(.const (.int .i64 (0)))],.push,[]⟩,
 ⟨none,.p (fun l=>AR Tryz.prog 122 (zipIdx [0,1] l)),[(.const (.int .i64 (1))),(.loc 0)],.push,[]⟩,
 ⟨none,.call 81,[.var 0,.loc 0],.push,[]⟩,
 ⟨none,.p1 some,[.loc 0],(.set 2),[]⟩]
def bD:At:=⟨2,3,(.seq (.ops W3) (.seq (.ops W4) .ret)),[((.var 2),none)]⟩
def W5:List AC:=[
 ⟨none,.mk (fun l=>match l with | [v]=>EY 43 v | _=>none),[.var 1],(.set 2),[]⟩,
 ⟨none,.p1 some,[(.const (.int .i64 (0)))],(.set 3),[]⟩]
def W6:List AC:=[
 ⟨none,.r1 (fun s a=>AK Tryz.prog s 43 a),[.var 2],.push,[]⟩,
 ⟨none,.call 82,[.loc 0],.push,[]⟩,
 ⟨none,.p (fun l=>AR Tryz.prog 122 (zipIdx [0,2] l)),[(.const (.int .i64 (2))),(.loc 0)],.push,[]⟩,
 ⟨none,.call 81,[.var 0,.loc 0],.push,[]⟩,
 ⟨none,.p1 some,[.loc 0],(.set 3),[]⟩]
def bE:At:=⟨2,4,(.seq (.ops W5) (.seq (.ops W6) .ret)),[((.var 3),none)]⟩
def W7:List AC:=[
 ⟨none,.p1 some,[(.const (.int .i64 (0)))],(.set 3),[]⟩]
def W8:List AC:=[
 ⟨none,.mk (fun l=>(Aa Tryz.prog 27 2 (zipIdx [0,1] l)).bind fun r=>some (r,.slice 2)),[.var 1,.var 2],.push,[]⟩,
 ⟨none,.call 83,[(.var 0),(.const (.int .i64 (3))),(.loc 0)],.push,[]⟩,
 ⟨none,.p1 some,[.loc 0],(.set 3),[]⟩]
def bF:At:=⟨3,4,(.seq (.ops W7) (.seq (.ops W8) .ret)),[((.var 3),none)]⟩
def W9:List AC:=[
 ⟨none,.p1 some,[(.const (.int .i64 (0)))],(.set 4),[]⟩]
def XA:List AC:=[
 ⟨none,.mk (fun l=>(Aa Tryz.prog 27 3 (zipIdx [0,1,2] l)).bind fun r=>some (r,.slice 3)),[.var 1,.var 2,.var 3],.push,[]⟩,
 ⟨none,.call 83,[(.var 0),(.const (.int .i64 (4))),(.loc 0)],.push,[]⟩,
 ⟨none,.p1 some,[.loc 0],(.set 4),[]⟩]
def bG:At:=⟨4,5,(.seq (.ops W9) (.seq (.ops XA) .ret)),[((.var 4),none)]⟩
def XB:List AC:=[
 ⟨none,.p1 some,[(.const (.int .i64 (0)))],(.set 2),[]⟩]
def XC:List AC:=[
 ⟨none,.p1 some,[(.const (.int .i64 (0)))],(.set 3),[]⟩]
def XD:List AC:=[
 ⟨none,.call 107,[.var 0,.var 1],.push,[]⟩,
 ⟨none,.mk (fun l=>match l with | []=>Bo Tryz.prog 122 | _=>none),[],(.set 4),[]⟩,
 ⟨none,.e (fun s=>Xs (fun a x=>Xu (As Tryz.prog s 122 a x))),[.var 4,.loc 0],.push,[]⟩]
def XE:List AC:=[
 ⟨none,.p1 some,[(.const (.int .i64 (0)))],(.set 5),[]⟩]
def SA:List AC:=[
 ⟨none,.p1 (fun x=>AA Tryz.prog 122 x 3),[.var 4],.push,[]⟩,
 ⟨none,.r1 (fun s a=>AK Tryz.prog s 27 a),[.loc 0],.push,[]⟩,
 ⟨none,.r (fun s l=>match l with | [x]=>BY Tryz.prog s 27 x | _=>none),[.loc 0],.push,[]⟩,
 ⟨none,.p2 (AO Tryz.prog .lss 3),[.var 5,.loc 0],(.set 6),[]⟩]
def XF:List AC:=[
 ⟨none,.p1 some,[.var 3],.push,[]⟩,
 ⟨none,.p1 (fun x=>AA Tryz.prog 122 x 3),[.var 4],.push,[]⟩,
 ⟨none,.r1 (fun s a=>AK Tryz.prog s 27 a),[.loc 0],.push,[]⟩,
 ⟨none,.p2 (AH Tryz.prog 27),[.loc 0,.var 5],.push,[]⟩,
 ⟨none,.r1 (fun s a=>AK Tryz.prog s 3 a),[.loc 0],.push,[]⟩,
 ⟨none,.call 80,[.var 0,.loc 0],.push,[]⟩,
 ⟨none,.p (fun l=>match l with | v::l=>B9 true v l | []=>none),[.loc 5,.loc 0],.push,[]⟩,
 ⟨none,.p1 some,[.loc 0],(.set 3),[]⟩]
def XG:List AC:=[
 ⟨none,.p1 some,[.var 5],.push,[]⟩,
 ⟨none,.p2 (AO Tryz.prog .add 3),[(.loc 0),(.const (.int .i64 (1)))],.push,[]⟩,
 ⟨none,.p1 some,[.loc 0],(.set 5),[]⟩]
def LT:AU:=(.seq (.seq (.ops SA) (.cond (.var 6)
 .skip
 (.exit 0))) (.seq (.block 1 (.ops XF)) (.ops XG)))
def SB:List AC:=[
 ⟨none,.p2 (AO Tryz.prog .add 3),[(.var 3),(.const (.int .i64 (1)))],.push,[]⟩,
 ⟨none,.p1 some,[.loc 0],(.set 2),[]⟩]
def bH:At:=⟨2,7,(.seq (.ops XB) (.seq (.ops XC) (.seq (.ops XD) (.seq (.seq (.ops XE) (.block 0 (.loop LT))) (.seq (.ops SB) .ret))))),[((.var 2),none)]⟩
def XH:List AC:=[
 ⟨none,.mk (fun l=>match l with | [v]=>EY 122 v | _=>none),[.var 1],(.set 2),[]⟩,
 ⟨none,.p1 some,[(.const (.int .i64 (0)))],(.set 3),[]⟩]
def XI:List AC:=[
 ⟨none,.p1 some,[(.const (.int .i64 (0)))],(.set 4),[]⟩]
def SC:List AC:=[
 ⟨none,.p1 AY,[.var 0],.push,[]⟩,
 ⟨none,.p1 (fun x=>AA Tryz.prog 80 x 0),[.loc 0],.push,[]⟩,
 ⟨none,.r1 (fun s a=>AK Tryz.prog s 78 a),[.loc 0],.push,[]⟩,
 ⟨none,.r (fun s l=>match l with | [x]=>BY Tryz.prog s 78 x | _=>none),[.loc 0],.push,[]⟩,
 ⟨none,.p2 (AO Tryz.prog .lss 3),[.var 4,.loc 0],(.set 5),[]⟩]
def XJ:List AC:=[
 ⟨none,.p1 AY,[.var 0],.push,[]⟩,
 ⟨none,.p1 (fun x=>AA Tryz.prog 80 x 0),[.loc 0],.push,[]⟩,
 ⟨none,.r1 (fun s a=>AK Tryz.prog s 78 a),[.loc 0],.push,[]⟩,
 ⟨none,.p2 (AH Tryz.prog 78),[.loc 0,.var 4],.push,[]⟩,
 ⟨none,.r1 (fun s a=>AK Tryz.prog s 122 a),[.loc 0],.push,[]⟩,
 ⟨none,.r1 (fun s a=>AK Tryz.prog s 122 a),[.var 2],.push,[]⟩,
 ⟨none,.call 108,[.loc 1,.loc 0],(.set 6),[]⟩]
def XK:List AC:=[
 ⟨none,.p1 some,[.var 4],(.set 3),[]⟩]
def XL:List AC:=[
 ⟨none,.p1 some,[.var 4],.push,[]⟩,
 ⟨none,.p2 (AO Tryz.prog .add 3),[(.loc 0),(.const (.int .i64 (1)))],.push,[]⟩,
 ⟨none,.p1 some,[.loc 0],(.set 4),[]⟩]
def LU:AU:=(.seq (.seq (.ops SC) (.cond (.var 5)
 .skip
 (.exit 0))) (.seq (.block 1 (.seq (.ops XJ) (.cond (.var 6)
 (.seq (.ops XK) .ret)
 .skip))) (.ops XL)))
def XM:List AC:=[
 ⟨none,.p1 AY,[.var 0],.push,[]⟩,
 ⟨none,.p1 (fun x=>AA Tryz.prog 80 x 0),[.loc 0],.push,[]⟩,
 ⟨none,.r1 (fun s a=>AK Tryz.prog s 78 a),[.loc 0],.push,[]⟩,
 ⟨none,.r1 (fun s a=>AK Tryz.prog s 122 a),[.var 2],.push,[]⟩,
 ⟨none,.mk (fun l=>(Aa Tryz.prog 78 1 (zipIdx [0] l)).bind fun r=>some (r,.slice 1)),[.loc 0],.push,[]⟩,
 ⟨none,.e (fun s l=>Ay Tryz.prog s [78,78] l),[.loc 2,.loc 0],.push,[]⟩,
 ⟨none,.p1 AY,[.var 0],.push,[]⟩,
 ⟨none,.p1 (fun x=>AA Tryz.prog 80 x 0),[.loc 0],.push,[]⟩,
 ⟨none,.e (fun s=>Xs (fun a x=>Xu (As Tryz.prog s 78 a x))),[.loc 0,.loc 2],.push,[]⟩]
def XN:List AC:=[
 ⟨none,.p1 AY,[.var 0],.push,[]⟩,
 ⟨none,.p1 (fun x=>AA Tryz.prog 80 x 0),[.loc 0],.push,[]⟩,
 ⟨none,.r1 (fun s a=>AK Tryz.prog s 78 a),[.loc 0],.push,[]⟩,
 ⟨none,.r (fun s l=>match l with | [x]=>BY Tryz.prog s 78 x | _=>none),[.loc 0],.push,[]⟩,
 ⟨none,.p2 (AO Tryz.prog .sub 3),[(.loc 0),(.const (.int .i64 (1)))],.push,[]⟩,
 ⟨none,.p1 some,[.loc 0],(.set 3),[]⟩]
def bI:At:=⟨2,7,(.seq (.ops XH) (.seq (.seq (.ops XI) (.block 0 (.loop LU))) (.seq (.ops XM) (.seq (.ops XN) .ret)))),[((.var 3),none)]⟩
def XO:List AC:=[
 ⟨none,.mk (fun l=>match l with | [v]=>EY 43 v | _=>none),[.var 0],(.set 1),[]⟩,
 ⟨none,.mk (fun l=>match l with | []=>Bo Tryz.prog 43 | _=>none),[],(.set 2),[]⟩]
def XP:List AC:=[
 ⟨none,.r1 (fun s a=>AK Tryz.prog s 43 a),[.var 1],.push,[]⟩,
 ⟨none,.call 109,[.loc 0],.push,[]⟩,
 ⟨none,.p1 (Uu Tryz.prog Go.UnOp.not),[.loc 0],.push,[]⟩,
 ⟨(some ((.loc 0),false)),.p1 (fun x=>AA Tryz.prog 43 x 0),[.var 1],.push,[]⟩,
 ⟨(some ((.loc 1),false)),.r1 (fun s a=>AK Tryz.prog s 3 a),[.loc 0],.push,[]⟩,
 ⟨(some ((.loc 2),false)),.p2 (AO Tryz.prog .eql 3),[(.loc 0),(.const (.int .i64 (5)))],.push,[]⟩,
 ⟨none,.p Rn,[(.loc 3),(.const (.bool true)),(.loc 0)],.push,[]⟩,
 ⟨(some ((.loc 0),false)),.p1 (fun x=>AA Tryz.prog 43 x 4),[.var 1],.push,[]⟩,
 ⟨(some ((.loc 1),false)),.r1 (fun s a=>AK Tryz.prog s 39 a),[.loc 0],.push,[]⟩,
 ⟨(some ((.loc 2),false)),.r (fun s l=>match l with | [x]=>BY Tryz.prog s 39 x | _=>none),[.loc 0],.push,[]⟩,
 ⟨(some ((.loc 3),false)),.p2 (AO Tryz.prog .gtr 3),[(.loc 0),(.const (.int .i64 (0)))],.push,[]⟩,
 ⟨none,.p Rn,[(.loc 4),(.const (.bool true)),(.loc 0)],(.set 3),[]⟩]
def Zp:List AC:=[
 ⟨none,.p (fun l=>AR Tryz.prog 43 (zipIdx [] l)),[],.push,[]⟩,
 ⟨none,.e (fun s=>Xs (fun a x=>Xu (As Tryz.prog s 43 a x))),[.var 2,.loc 0],.push,[]⟩]
def XQ:List AC:=[
 ⟨none,.r1 (fun s a=>AK Tryz.prog s 43 a),[.var 1],.push,[]⟩,
 ⟨none,.e (fun s=>Xs (fun a x=>Xu (As Tryz.prog s 43 a x))),[.var 2,.loc 0],.push,[]⟩]
def bJ:At:=⟨1,4,(.seq (.ops XO) (.seq (.seq (.ops XP) (.cond (.var 3)
 (.seq (.ops Zp) .ret)
 .skip)) (.seq (.ops XQ) .ret))),[((.var 2),some 43)]⟩
def XR:List AC:=[
 ⟨none,.p1 some,[(.const (.int .i64 (0)))],(.set 3),[]⟩]
def XS:List AC:=[
 ⟨none,.p1 AY,[.var 0],.push,[]⟩,
 ⟨none,.p1 (fun x=>AA Tryz.prog 80 x 0),[.loc 0],.push,[]⟩,
 ⟨none,.r1 (fun s a=>AK Tryz.prog s 78 a),[.loc 0],.push,[]⟩,
 ⟨none,.r (fun s l=>match l with | [x]=>BY Tryz.prog s 78 x | _=>none),[.loc 0],.push,[]⟩,
 ⟨none,.p1 some,[.loc 0],(.set 4),[]⟩]
def XT:List AC:=[
 ⟨none,.p1 some,[(.const (.slice none 0 (some 0)))],(.set 5),[]⟩]
def XU:List AC:=[
 ⟨none,.p1 some,[(.const (.int .i64 (0)))],(.set 6),[]⟩]
def OE:List AC:=[
 ⟨none,.r (fun s l=>match l with | [x]=>BY Tryz.prog s 27 x | _=>none),[.var 2],.push,[]⟩,
 ⟨none,.p2 (AO Tryz.prog .lss 3),[.var 6,.loc 0],(.set 8),[]⟩]
def SE:List AC:=[
 ⟨none,.p2 (AH Tryz.prog 27),[.var 2,.var 6],.push,[]⟩,
 ⟨none,.r1 (fun s a=>AK Tryz.prog s 3 a),[.loc 0],.push,[]⟩,
 ⟨none,.p1 some,[.loc 0],(.set 7),[]⟩]
def SF:List AC:=[
 ⟨none,.p2 (AO Tryz.prog .geq 3),[.var 7,.var 4],(.set 9),[]⟩]
def XV:List AC:=[
 ⟨none,.p1 some,[(.const (.int .i64 (-1)))],(.set 7),[]⟩]
def SG:List AC:=[
 ⟨none,.p1 some,[.var 5],.push,[]⟩,
 ⟨none,.call 110,[.var 0,.var 7],.push,[]⟩,
 ⟨none,.mk (fun l=>(Aa Tryz.prog 27 1 (zipIdx [0] l)).bind fun r=>some (r,.slice 1)),[.loc 0],.push,[]⟩,
 ⟨none,.e (fun s l=>Ay Tryz.prog s [27,27] l),[.loc 2,.loc 0],.push,[]⟩,
 ⟨none,.p1 some,[.loc 0],(.set 5),[]⟩]
def SH:List AC:=[
 ⟨none,.p1 some,[.var 6],.push,[]⟩,
 ⟨none,.p2 (AO Tryz.prog .add 3),[(.loc 0),(.const (.int .i64 (1)))],.push,[]⟩,
 ⟨none,.p1 some,[.loc 0],(.set 6),[]⟩]
def Gp:AU:=(.seq (.seq (.ops OE) (.cond (.var 8)
 .skip
 (.exit 0))) (.seq (.block 1 (.seq (.ops SE) (.seq (.seq (.ops SF) (.cond (.var 9)
 (.ops XV)
 .skip)) (.ops SG)))) (.ops SH)))
def SD:List AC:=[
 ⟨none,.p (fun l=>AR Tryz.prog 122 (zipIdx [0,3] l)),[.var 1,.var 5],.push,[]⟩,
 ⟨none,.call 81,[.var 0,.loc 0],.push,[]⟩,
 ⟨none,.p1 some,[.loc 0],(.set 3),[]⟩]
def bK:At:=⟨3,10,(.seq (.ops XR) (.seq (.ops XS) (.seq (.ops XT) (.seq (.seq (.ops XU) (.block 0 (.loop Gp))) (.seq (.ops SD) .ret))))),[((.var 3),none)]⟩
def QY:List AC:=[
 ⟨none,.mk (fun l=>match l with | []=>Bo Tryz.prog 122 | _=>none),[],(.set 2),[]⟩]
def QZ:List AC:=[
 ⟨none,.call 126,[.var 0,.var 1],.push,[]⟩,
 ⟨none,.p1 (Uu Tryz.prog Go.UnOp.not),[.loc 0],(.set 3),[]⟩]
def X4:List AC:=[
 ⟨none,.p (fun l=>AR Tryz.prog 122 (zipIdx [0] l)),[(.const (.int .i64 (2)))],.push,[]⟩,
 ⟨none,.e (fun s=>Xs (fun a x=>Xu (As Tryz.prog s 122 a x))),[.var 2,.loc 0],.push,[]⟩]
def Q0:List AC:=[
 ⟨none,.p1 AY,[.var 0],.push,[]⟩,
 ⟨none,.p1 (fun x=>AA Tryz.prog 80 x 0),[.loc 0],.push,[]⟩,
 ⟨none,.r1 (fun s a=>AK Tryz.prog s 78 a),[.loc 0],.push,[]⟩,
 ⟨none,.p2 (AH Tryz.prog 78),[.loc 0,.var 1],.push,[]⟩,
 ⟨none,.r1 (fun s a=>AK Tryz.prog s 122 a),[.loc 0],.push,[]⟩,
 ⟨none,.e (fun s=>Xs (fun a x=>Xu (As Tryz.prog s 122 a x))),[.var 2,.loc 0],.push,[]⟩]
def ZS:At:=⟨2,4,(.seq (.ops QY) (.seq (.seq (.ops QZ) (.cond (.var 3)
 (.seq (.ops X4) .ret)
 .skip)) (.seq (.ops Q0) .ret))),[((.var 2),some 122)]⟩
def KN:List AC:=[
 ⟨none,.mk (fun l=>match l with | [v]=>EY 122 v | _=>none),[.var 0],(.set 2),[]⟩,
 ⟨none,.mk (fun l=>match l with | [v]=>EY 122 v | _=>none),[.var 1],(.set 3),[]⟩,
 ⟨none,.p1 some,[(.const (.bool false))],(.set 4),[]⟩]
def KO:List AC:=[
 ⟨none,.p1 (fun x=>AA Tryz.prog 122 x 0),[.var 2],.push,[]⟩,
 ⟨none,.r1 (fun s a=>AK Tryz.prog s 3 a),[.loc 0],.push,[]⟩,
 ⟨none,.p1 (fun x=>AA Tryz.prog 122 x 0),[.var 3],.push,[]⟩,
 ⟨none,.r1 (fun s a=>AK Tryz.prog s 3 a),[.loc 0],.push,[]⟩,
 ⟨none,.p2 (AO Tryz.prog .neq 3),[.loc 2,.loc 0],.push,[]⟩,
 ⟨(some ((.loc 0),false)),.p1 (fun x=>AA Tryz.prog 122 x 1),[.var 2],.push,[]⟩,
 ⟨(some ((.loc 1),false)),.r1 (fun s a=>AK Tryz.prog s 3 a),[.loc 0],.push,[]⟩,
 ⟨(some ((.loc 2),false)),.p1 (fun x=>AA Tryz.prog 122 x 1),[.var 3],.push,[]⟩,
 ⟨(some ((.loc 3),false)),.r1 (fun s a=>AK Tryz.prog s 3 a),[.loc 0],.push,[]⟩,
 ⟨(some ((.loc 4),false)),.p2 (AO Tryz.prog .neq 3),[.loc 2,.loc 0],.push,[]⟩,
 ⟨none,.p Rn,[(.loc 5),(.const (.bool true)),(.loc 0)],.push,[]⟩,
 ⟨(some ((.loc 0),false)),.p1 (fun x=>AA Tryz.prog 122 x 2),[.var 2],.push,[]⟩,
 ⟨(some ((.loc 1),false)),.r1 (fun s a=>AK Tryz.prog s 43 a),[.loc 0],.push,[]⟩,
 ⟨(some ((.loc 2),false)),.p1 (fun x=>AA Tryz.prog 122 x 2),[.var 3],.push,[]⟩,
 ⟨(some ((.loc 3),false)),.r1 (fun s a=>AK Tryz.prog s 43 a),[.loc 0],.push,[]⟩,
 ⟨(some ((.loc 4),false)),.call 127,[.loc 2,.loc 0],.push,[]⟩,
 ⟨(some ((.loc 5),false)),.p1 (Uu Tryz.prog Go.UnOp.not),[.loc 0],.push,[]⟩,
 ⟨none,.p Rn,[(.loc 6),(.const (.bool true)),(.loc 0)],.push,[]⟩,
 ⟨(some ((.loc 0),false)),.p1 (fun x=>AA Tryz.prog 122 x 3),[.var 2],.push,[]⟩,
 ⟨(some ((.loc 1),false)),.r1 (fun s a=>AK Tryz.prog s 27 a),[.loc 0],.push,[]⟩,
 ⟨(some ((.loc 2),false)),.r (fun s l=>match l with | [x]=>BY Tryz.prog s 27 x | _=>none),[.loc 0],.push,[]⟩,
 ⟨(some ((.loc 3),false)),.p1 (fun x=>AA Tryz.prog 122 x 3),[.var 3],.push,[]⟩,
 ⟨(some ((.loc 4),false)),.r1 (fun s a=>AK Tryz.prog s 27 a),[.loc 0],.push,[]⟩,
 ⟨(some ((.loc 5),false)),.r (fun s l=>match l with | [x]=>BY Tryz.prog s 27 x | _=>none),[.loc 0],.push,[]⟩,
 ⟨(some ((.loc 6),false)),.p2 (AO Tryz.prog .neq 3),[.loc 3,.loc 0],.push,[]⟩,
 ⟨none,.p Rn,[(.loc 7),(.const (.bool true)),(.loc 0)],(.set 6),[]⟩]
def H9:List AC:=[
 ⟨none,.p1 some,[(.const (.bool false))],(.set 4),[]⟩]
def Q1:List AC:=[
 ⟨none,.p1 some,[(.const (.int .i64 (0)))],(.set 5),[]⟩]
def KP:List AC:=[
 ⟨none,.p1 (fun x=>AA Tryz.prog 122 x 3),[.var 2],.push,[]⟩,
 ⟨none,.r1 (fun s a=>AK Tryz.prog s 27 a),[.loc 0],.push,[]⟩,
 ⟨none,.r (fun s l=>match l with | [x]=>BY Tryz.prog s 27 x | _=>none),[.loc 0],.push,[]⟩,
 ⟨none,.p2 (AO Tryz.prog .lss 3),[.var 5,.loc 0],(.set 7),[]⟩]
def Mg:List AC:=[
 ⟨none,.p1 (fun x=>AA Tryz.prog 122 x 3),[.var 2],.push,[]⟩,
 ⟨none,.r1 (fun s a=>AK Tryz.prog s 27 a),[.loc 0],.push,[]⟩,
 ⟨none,.p2 (AH Tryz.prog 27),[.loc 0,.var 5],.push,[]⟩,
 ⟨none,.r1 (fun s a=>AK Tryz.prog s 3 a),[.loc 0],.push,[]⟩,
 ⟨none,.p1 (fun x=>AA Tryz.prog 122 x 3),[.var 3],.push,[]⟩,
 ⟨none,.r1 (fun s a=>AK Tryz.prog s 27 a),[.loc 0],.push,[]⟩,
 ⟨none,.p2 (AH Tryz.prog 27),[.loc 0,.var 5],.push,[]⟩,
 ⟨none,.r1 (fun s a=>AK Tryz.prog s 3 a),[.loc 0],.push,[]⟩,
 ⟨none,.p2 (AO Tryz.prog .neq 3),[.loc 4,.loc 0],(.set 8),[]⟩]
def Q2:List AC:=[
 ⟨none,.p1 some,[(.const (.bool false))],(.set 4),[]⟩]
def Q3:List AC:=[
 ⟨none,.p1 some,[.var 5],.push,[]⟩,
 ⟨none,.p2 (AO Tryz.prog .add 3),[(.loc 0),(.const (.int .i64 (1)))],.push,[]⟩,
 ⟨none,.p1 some,[.loc 0],(.set 5),[]⟩]
def Gm:AU:=(.seq (.seq (.ops KP) (.cond (.var 7)
 .skip
 (.exit 0))) (.seq (.block 1 (.seq (.ops Mg) (.cond (.var 8)
 (.seq (.ops Q2) .ret)
 .skip))) (.ops Q3)))
def Mh:List AC:=[
 ⟨none,.p1 some,[(.const (.bool true))],(.set 4),[]⟩]
def T6:At:=⟨2,9,(.seq (.ops KN) (.seq (.seq (.ops KO) (.cond (.var 6)
 (.seq (.ops H9) .ret)
 .skip)) (.seq (.seq (.ops Q1) (.block 0 (.loop Gm))) (.seq (.ops Mh) .ret)))),[((.var 4),none)]⟩
def KQ:List AC:=[
 ⟨none,.p1 some,[(.const (.int .i64 (0)))],(.set 2),[]⟩]
def KR:List AC:=[
 ⟨none,.p2 (AO Tryz.prog .lss 3),[(.var 1),(.const (.int .i64 (0)))],.push,[]⟩,
 ⟨(some ((.loc 0),false)),.p1 some,[.var 1],.push,[]⟩,
 ⟨(some ((.loc 1),false)),.p1 some,[.var 0],.push,[]⟩,
 ⟨(some ((.loc 2),false)),.p1 AY,[.loc 0],.push,[]⟩,
 ⟨(some ((.loc 3),false)),.p1 (fun x=>AA Tryz.prog 80 x 0),[.loc 0],.push,[]⟩,
 ⟨(some ((.loc 4),false)),.r1 (fun s a=>AK Tryz.prog s 78 a),[.loc 0],.push,[]⟩,
 ⟨(some ((.loc 5),false)),.r (fun s l=>match l with | [x]=>BY Tryz.prog s 78 x | _=>none),[.loc 0],.push,[]⟩,
 ⟨(some ((.loc 6),false)),.p2 (AO Tryz.prog .geq 3),[.loc 5,.loc 0],.push,[]⟩,
 ⟨none,.p Rn,[(.loc 7),(.const (.bool true)),(.loc 0)],(.set 3),[]⟩]
def Mi:List AC:=[
 ⟨none,.p (fun l=>AR Tryz.prog 43 (zipIdx [] l)),[],.push,[]⟩,
 ⟨none,.call 65,[.var 0,.loc 0],.push,[]⟩,
 ⟨none,.p1 some,[.loc 0],(.set 2),[]⟩]
def Q4:List AC:=[
 ⟨none,.p1 some,[.var 1],(.set 2),[]⟩]
def T7:At:=⟨2,4,(.seq (.ops KQ) (.seq (.seq (.ops KR) (.cond (.var 3)
 (.seq (.ops Mi) .ret)
 .skip)) (.seq (.ops Q4) .ret))),[((.var 2),none)]⟩
def Mj:List AC:=[
 ⟨none,.p1 some,[(.const (.bool false))],(.set 2),[]⟩]
def Mk:List AC:=[
 ⟨none,.p2 (AO Tryz.prog .geq 3),[(.var 1),(.const (.int .i64 (0)))],.push,[]⟩,
 ⟨(some ((.loc 0),true)),.p1 some,[.var 1],.push,[]⟩,
 ⟨(some ((.loc 1),true)),.p1 some,[.var 0],.push,[]⟩,
 ⟨(some ((.loc 2),true)),.p1 AY,[.loc 0],.push,[]⟩,
 ⟨(some ((.loc 3),true)),.p1 (fun x=>AA Tryz.prog 80 x 0),[.loc 0],.push,[]⟩,
 ⟨(some ((.loc 4),true)),.r1 (fun s a=>AK Tryz.prog s 78 a),[.loc 0],.push,[]⟩,
 ⟨(some ((.loc 5),true)),.r (fun s l=>match l with | [x]=>BY Tryz.prog s 78 x | _=>none),[.loc 0],.push,[]⟩,
 ⟨(some ((.loc 6),true)),.p2 (AO Tryz.prog .lss 3),[.loc 5,.loc 0],.push,[]⟩,
 ⟨none,.p Rn,[(.loc 7),(.loc 0),(.const (.bool false))],.push,[]⟩,
 ⟨none,.p1 some,[.loc 0],(.set 2),[]⟩]
def X5:At:=⟨2,3,(.seq (.ops Mj) (.seq (.ops Mk) .ret)),[((.var 2),none)]⟩
theorem Zz:AP Tryz.prog 8=some c8:=by kernel_rfl
theorem YC:AP Tryz.prog 17=some ZD:=by kernel_rfl
theorem YB:AP Tryz.prog 16=some af:=by kernel_rfl
theorem YQ:AP Tryz.prog 41=some bA:=by kernel_rfl
theorem YR:AP Tryz.prog 42=some ZE:=by kernel_rfl
theorem YS:AP Tryz.prog 61=some bB:=by kernel_rfl
theorem YT:AP Tryz.prog 62=some aG:=by kernel_rfl
theorem YU:AP Tryz.prog 63=some bC:=by kernel_rfl
theorem YV:AP Tryz.prog 64=some bD:=by kernel_rfl
theorem YW:AP Tryz.prog 65=some bE:=by kernel_rfl
theorem YX:AP Tryz.prog 66=some bF:=by kernel_rfl
theorem YY:AP Tryz.prog 67=some bG:=by kernel_rfl
theorem YZ:AP Tryz.prog 80=some bH:=by kernel_rfl
theorem Yf:AP Tryz.prog 81=some bI:=by kernel_rfl
theorem Yg:AP Tryz.prog 82=some bJ:=by kernel_rfl
theorem Yh:AP Tryz.prog 83=some bK:=by kernel_rfl
theorem UA:AP Tryz.prog 107=some ZS:=by kernel_rfl
theorem UB:AP Tryz.prog 108=some T6:=by kernel_rfl
theorem UC:AP Tryz.prog 110=some T7:=by kernel_rfl
theorem UD:AP Tryz.prog 126=some X5:=by kernel_rfl
end
end Go.Proofs.YtickdehehcmfbaaGreatDoor.Am
set_option linter.unusedVariables false
set_option linter.unusedSimpArgs false
namespace Go.Proofs.YtickdehehcmfbaaGreatDoor.Am
open Go Go.Proofs
noncomputable section
theorem St:Dy Tryz.prog 60=some 65:=by kernel_rfl
theorem QX(m:Nat):AR Tryz.prog 62 (zipIdx [1] [.map (some m)])=some (.agg [.slice none 0 (some 0),.map (some m)]):=by kernel_rfl
theorem Yy{E:Bl}(hE:Ai E){s:AD}(hg:CV s 1 A7=true)(h1:1<s.next){K:AV→AD→Prop}
  (hK:∀p s' O',BD s.next s s'→AQ s' p [] O'→By s' O'→(∀j∈O',s.next≤j)→K (.ptr (some (p,0))) s'):WF E 28 [] K s:=by
 refine hE.go YM (by decide) rfl ?_
 generalize hs:s.next=b
 have hs0:s=ext s []:=(Af s).symm
 rw[hs]at h1
 have hnx:(ext s [.map 65 [],R 62 0 false [.slice none 0 (some 0),.map (some (nid b 0))]]).next=b+2:=by rw[Wm,hs,AG];rfl
 rw[hs0]
 simp only[au,Vn,Vo,St,QX,hs,Qa,Qb,Qc,Qd,Qe,Qf,Qg,Qh,Qi,Qj,Qk,Ql,Qm,Qn,true_and,and_true,Qo,Qp,Qq,Qr,Qs,Qt,Qu,Qv,Qw,Qx,Qy,Qz,Ra,Rb,Rc,Rd,Re,Rf,Rg,Rh,Ri,Rj,Rk,Rl,Rm,Ya,Yb,Yc,Rn,Ro,Xv,Yd,Ye,Rq,Rs,Rt,Ru,Rw,Rx,Ry,Rz,Wa,Wb,Wc,Wd,We,Wf,Wg,Wh,Wi,Wj,Wl,Wm,Wn,Wp,Wq,Wr,Ws,Wt,Wu,Wv,Ww,Wx,Wy,Wz,Xa,Xb,Xc,Xd,Xe,Xf,Xg,Xh,Xi,Xj,Xk,Xl,Xm,Xn,Xo,Xp,Xq,Xr,bO,bT,bS,bP,bU,bV,List.getElem?_cons_zero,List.getElem?_cons_succ,bR,bX,bW,bY,bN,Nat.reduceAdd,Nat.reduceLT,Nat.reduceLeDiff,decide_true,decide_false,Bool.true_and,Bool.and_true,bZ,bM,Option.some.injEq,Xs,Xt,Xu,Xv]
 have hge:∀j∈[nid b 1,nid b 0],b≤j:=fun j hj=>by
  simp only[bv,b4,or_false]at hj
  rcases hj with rfl | rfl<;>rw[AG]<;>omega
 refine hK (nid b 1) _ [nid b 1,nid b 0] AS ?_ ⟨by rw[BN (Wh (by omega))];exact hg,by rw[hnx];omega,fun hm=>by have:=hge 1 hm;omega⟩ (by rw[hs];exact hge)
 refine⟨⟨List.nodup_nil,fun i t h=>by simp at h,fun t h=>by cases h⟩,bl _,.slice none 0 (some 0),nid b 0,[],[],?_,D6.nil _ _ _,?_,rfl,fun i t m h=>by simp at h,rfl,?_,?_,?_,by simp,by simp⟩
 ·rw[Wg hs (by simp)];rfl
 ·rw[Wg hs (by simp)];rfl
 ·rw[hnx,AG];omega
 ·rw[hnx,AG];omega
 ·rw[AG,AG];omega
structure DZ where
 kind:Int
 id:Int
 con:Nat
 a:Int
 b:Int
 c:Int
def DZ.cells(o:DZ):List AV:=[iv o.kind,iv o.id]++(Tm.con o.con).cells++[iv o.a,iv o.b,iv o.c]
def DZ.ok(o:DZ):Prop:=(o.kind=0∨o.kind=1∨o.kind=2∨o.kind=3∨o.kind=4)∧o.con<13∧-1000≤o.id∧o.id≤900
def QL(S:List Tm)(o:DZ):List Tm:=if o.kind=3 then Ct S.length S [o.a,o.b]else if o.kind=4 then Ct S.length S [o.a,o.b,o.c]else S
def IK(S:List Tm)(o:DZ):Tm:=
 if o.kind=0 then .var o.id else if o.kind=1 then .bnd (max o.id 0)else if o.kind=2 then .con o.con else if o.kind=3 then .sel (Ak S o.a) (Ak S o.b)else .upd (Ak S o.a) (Ak S o.b) (Ak S o.c)
def Hm(S:List Tm)(o:DZ):List Tm:=push (QL S o) (IK S o)
theorem OU(i o:Nat):AH Tryz.prog 44 (.ptr (some (i,o))) (.int .i64 0)=some (.ptr (some (i,o+0))):=by kernel_rfl
theorem OV(i o:Nat):AH Tryz.prog 44 (.ptr (some (i,o))) (.int .i64 1)=some (.ptr (some (i,o+1))):=by kernel_rfl
theorem XX(i o:Nat):AH Tryz.prog 44 (.ptr (some (i,o))) (.int .i64 2)=some (.ptr (some (i,o+2))):=by kernel_rfl
set_option maxRecDepth 20000 in
theorem XW{E:Bl}(hE:Ai E){s:AD}{p:Nat}{S:List Tm}{O:List Nat}(h:AQ s p S O)(hg:By s O)(hsm:S.length<90000){o:DZ}(ho:o.ok){K:AV→AD→Prop}
  (hK:∀s' O',AQ s' p (Hm S o) O'→By s' O'→DG O s s'→Aj O O' s→K (iv (ix (Hm S o) (IK S o):Int)) s'):WF E 17 [.ptr (some (p,0)),.agg o.cells] K s:=by
 obtain⟨kind,id,n,a,b',c⟩:=o
 obtain⟨hkd,hn,hi1,hi2⟩:=ho
 obtain⟨tag,c1,c2,c3,c5,c6,hc,_,d1,d2,d3,d5,d6⟩:=BM n hn
 have hcells:DZ.cells ⟨kind,id,n,a,b',c⟩=[iv kind,iv id,iv tag,c1,c2,c3,.slice none 0 (some 0),c5,c6,iv a,iv b',iv c]:=by
  show [iv kind,iv id]++(Tm.con n).cells++_=_
  rw[hc];rfl
 have hid:i64 id:=by have h1:-1000≤id:=hi1;have h2:id≤900:=hi2;unfold i64;omega
 have hkd:kind=0∨kind=1∨kind=2∨kind=3∨kind=4:=hkd
 have hst:=fun os=>h.old (AS (os:=os))
 have hgl:=fun os=>hg.old (AS (os:=os))
 have hend:∀os s' O',AQ s' p (Hm S ⟨kind,id,n,a,b',c⟩) O'→DG O (ext s os) s'→Aj O O' (ext s os)→K (iv (ix (Hm S ⟨kind,id,n,a,b',c⟩) (IK S ⟨kind,id,n,a,b',c⟩):Int)) s':=fun os s' O' g1 g2 g3 =>
  hK s' O' g1 ((hgl os).step g2 g3) ((AS.frO O).trans g2 (Aj.refl O s)) (Aj.trans (Aj.refl O s) g3 (by rw[Wm,AG];omega))
 have hvar:=fun os K=>Ox (K:=K) hE (hst os) (by omega) hid
 have hbnd:=fun os K=>Ou (K:=K) hE (hst os) (by omega) hid
 have hcon:=fun os K=>K8 (K:=K) hE (hst os) (by omega) hn (hgl os)
 have hsel:=fun os K=>TV (K:=K) hE (hst os) (by omega) (hgl os) (d:=a) (k:=b')
 have hupd:=fun os K=>Tg (K:=K) hE (hst os) (by omega) (hgl os) (d:=a) (k:=b') (a:=c)
 rw[hc]at hcon
 rw[hcells]
 refine hE.go YC (by decide) rfl ?_
 generalize hs:s.next=b
 have hs0:s=ext s []:=(Af s).symm
 rw[hs0]
 rcases hkd with rfl | rfl | rfl | rfl | rfl
 ·simp only[ZD,JS,JT,JU,VI,Qa,Qb,Qc,Qd,Qe,Qf,Qg,Qh,Qi,Qj,Qk,Ql,Qm,Qn,true_and,and_true,Qo,Qp,Qq,Qr,Qs,Qt,Qu,Qv,Qw,Qx,Qy,Qz,Ra,Rb,Rc,Rd,Re,Rf,Rg,Rh,Ri,Rj,Rk,Rl,Rm,Ya,Yb,Yc,Rn,Ro,Xv,Yd,Ye,Rq,Rs,Rt,Ru,Rw,Rx,Ry,hs,C3,BW,B0,Rw,Int.reduceEq,Rz,Wa,Wb,Wc,Wd,We,Wf,Wg,Wh,Wi,Wj,Wl,Wm,Wn,Wp,Wq,Wr,Ws,Wt,Wu,Wv,Ww,Wx,Wy,Wz,Xa,Xb,Xc,Xd,Xe,Xf,Xg,Xh,Xi,Xj,Xk,Xl,Xm,Xn,Xo,Xp,Xq,Xr,bO,bT,bS,bP,bU,bV,List.getElem?_cons_zero,List.getElem?_cons_succ,bR,bX,bW,bY,bN,Nat.reduceAdd,Nat.reduceLT,Nat.reduceLeDiff,decide_true,decide_false,Bool.true_and,Bool.and_true,bZ,bM,Option.some.injEq,Xs,Xt,Xu,Xv]
  refine hvar _ _ fun s' O' g1 g2 g3=>?_
  simp only[Qa,Qb,Qc,Qd,Qe,Qf,Qg,Qh,Qi,Qj,Qk,Ql,Qm,Qn,true_and,and_true,Qo,Qp,Qq,Qr,Qs,Qt,Qu,Qv,Qw,Qx,Qy,Qz,Ra,Rb,Rc,Rd,Re,Rf,Rg,Rh,Ri,Rj,Rk,Rl,Rm,Ya,Yb,Yc,Rn,Ro,Xv,Yd,Ye,Rq,Rs,Rt,Ru,Rw,Rx,Ry]
  exact hend _ s' O' g1 g2 g3
 ·simp only[ZD,JS,JT,JU,LL,VJ,Qa,Qb,Qc,Qd,Qe,Qf,Qg,Qh,Qi,Qj,Qk,Ql,Qm,Qn,true_and,and_true,Qo,Qp,Qq,Qr,Qs,Qt,Qu,Qv,Qw,Qx,Qy,Qz,Ra,Rb,Rc,Rd,Re,Rf,Rg,Rh,Ri,Rj,Rk,Rl,Rm,Ya,Yb,Yc,Rn,Ro,Xv,Yd,Ye,Rq,Rs,Rt,Ru,Rw,Rx,Ry,hs,C3,BW,B0,Rw,Int.reduceEq,Rz,Wa,Wb,Wc,Wd,We,Wf,Wg,Wh,Wi,Wj,Wl,Wm,Wn,Wp,Wq,Wr,Ws,Wt,Wu,Wv,Ww,Wx,Wy,Wz,Xa,Xb,Xc,Xd,Xe,Xf,Xg,Xh,Xi,Xj,Xk,Xl,Xm,Xn,Xo,Xp,Xq,Xr,bO,bT,bS,bP,bU,bV,List.getElem?_cons_zero,List.getElem?_cons_succ,bR,bX,bW,bY,bN,Nat.reduceAdd,Nat.reduceLT,Nat.reduceLeDiff,decide_true,decide_false,Bool.true_and,Bool.and_true,bZ,bM,Option.some.injEq,Xs,Xt,Xu,Xv]
  refine hbnd _ _ fun s' O' g1 g2 g3=>?_
  simp only[Qa,Qb,Qc,Qd,Qe,Qf,Qg,Qh,Qi,Qj,Qk,Ql,Qm,Qn,true_and,and_true,Qo,Qp,Qq,Qr,Qs,Qt,Qu,Qv,Qw,Qx,Qy,Qz,Ra,Rb,Rc,Rd,Re,Rf,Rg,Rh,Ri,Rj,Rk,Rl,Rm,Ya,Yb,Yc,Rn,Ro,Xv,Yd,Ye,Rq,Rs,Rt,Ru,Rw,Rx,Ry]
  exact hend _ s' O' g1 g2 g3
 ·simp only[ZD,JS,JT,JU,LL,N3,VK,Qa,Qb,Qc,Qd,Qe,Qf,Qg,Qh,Qi,Qj,Qk,Ql,Qm,Qn,true_and,and_true,Qo,Qp,Qq,Qr,Qs,Qt,Qu,Qv,Qw,Qx,Qy,Qz,Ra,Rb,Rc,Rd,Re,Rf,Rg,Rh,Ri,Rj,Rk,Rl,Rm,Ya,Yb,Yc,Rn,Ro,Xv,Yd,Ye,Rq,Rs,Rt,Ru,Rw,Rx,Ry,hs,C3,Hl,HF,BW,B0,SY,Rw,Int.reduceEq,Rz,Wa,Wb,Wc,Wd,We,Wf,Wg,Wh,Wi,Wj,Wl,Wm,Wn,Wp,Wq,Wr,Ws,Wt,Wu,Wv,Ww,Wx,Wy,Wz,Xa,Xb,Xc,Xd,Xe,Xf,Xg,Xh,Xi,Xj,Xk,Xl,Xm,Xn,Xo,Xp,Xq,Xr,bO,bT,bS,bP,bU,bV,List.getElem?_cons_zero,List.getElem?_cons_succ,bR,bX,bW,bY,bN,Nat.reduceAdd,Nat.reduceLT,Nat.reduceLeDiff,decide_true,decide_false,Bool.true_and,Bool.and_true,bZ,bM,Option.some.injEq,Xs,Xt,Xu,Xv]
  refine hcon _ _ fun s' O' g1 g2 g3=>?_
  simp only[Qa,Qb,Qc,Qd,Qe,Qf,Qg,Qh,Qi,Qj,Qk,Ql,Qm,Qn,true_and,and_true,Qo,Qp,Qq,Qr,Qs,Qt,Qu,Qv,Qw,Qx,Qy,Qz,Ra,Rb,Rc,Rd,Re,Rf,Rg,Rh,Ri,Rj,Rk,Rl,Rm,Ya,Yb,Yc,Rn,Ro,Xv,Yd,Ye,Rq,Rs,Rt,Ru,Rw,Rx,Ry]
  exact hend _ s' O' g1 g2 g3
 ·simp only[ZD,JS,JT,JU,LL,N3,Q7,VL,Qa,Qb,Qc,Qd,Qe,Qf,Qg,Qh,Qi,Qj,Qk,Ql,Qm,Qn,true_and,and_true,Qo,Qp,Qq,Qr,Qs,Qt,Qu,Qv,Qw,Qx,Qy,Qz,Ra,Rb,Rc,Rd,Re,Rf,Rg,Rh,Ri,Rj,Rk,Rl,Rm,Ya,Yb,Yc,Rn,Ro,Xv,Yd,Ye,Rq,Rs,Rt,Ru,Rw,Rx,Ry,hs,C3,BW,Kc,OU,OV,Rw,Int.reduceEq,Rz,Wa,Wb,Wc,Wd,We,Wf,Wg,Wh,Wi,Wj,Wl,Wm,Wn,Wp,Wq,Wr,Ws,Wt,Wu,Wv,Ww,Wx,Wy,Wz,Xa,Xb,Xc,Xd,Xe,Xf,Xg,Xh,Xi,Xj,Xk,Xl,Xm,Xn,Xo,Xp,Xq,Xr,bO,bT,bS,bP,bU,bV,List.getElem?_cons_zero,List.getElem?_cons_succ,bR,bX,bW,bY,bN,Nat.reduceAdd,Nat.reduceLT,Nat.reduceLeDiff,decide_true,decide_false,Bool.true_and,Bool.and_true,bZ,bM,Option.some.injEq,Xs,Xt,Xu,Xv]
  refine hsel _ _ fun s' O' g1 _ g2 g3=>?_
  simp only[Qa,Qb,Qc,Qd,Qe,Qf,Qg,Qh,Qi,Qj,Qk,Ql,Qm,Qn,true_and,and_true,Qo,Qp,Qq,Qr,Qs,Qt,Qu,Qv,Qw,Qx,Qy,Qz,Ra,Rb,Rc,Rd,Re,Rf,Rg,Rh,Ri,Rj,Rk,Rl,Rm,Ya,Yb,Yc,Rn,Ro,Xv,Yd,Ye,Rq,Rs,Rt,Ru,Rw,Rx,Ry]
  exact hend _ s' O' g1 g2 g3
 ·simp only[ZD,JS,JT,JU,LL,N3,Q7,Q6,Qa,Qb,Qc,Qd,Qe,Qf,Qg,Qh,Qi,Qj,Qk,Ql,Qm,Qn,true_and,and_true,Qo,Qp,Qq,Qr,Qs,Qt,Qu,Qv,Qw,Qx,Qy,Qz,Ra,Rb,Rc,Rd,Re,Rf,Rg,Rh,Ri,Rj,Rk,Rl,Rm,Ya,Yb,Yc,Rn,Ro,Xv,Yd,Ye,Rq,Rs,Rt,Ru,Rw,Rx,Ry,hs,C3,BW,Kc,OU,OV,XX,Rw,Int.reduceEq,Rz,Wa,Wb,Wc,Wd,We,Wf,Wg,Wh,Wi,Wj,Wl,Wm,Wn,Wp,Wq,Wr,Ws,Wt,Wu,Wv,Ww,Wx,Wy,Wz,Xa,Xb,Xc,Xd,Xe,Xf,Xg,Xh,Xi,Xj,Xk,Xl,Xm,Xn,Xo,Xp,Xq,Xr,bO,bT,bS,bP,bU,bV,List.getElem?_cons_zero,List.getElem?_cons_succ,bR,bX,bW,bY,bN,Nat.reduceAdd,Nat.reduceLT,Nat.reduceLeDiff,decide_true,decide_false,Bool.true_and,Bool.and_true,bZ,bM,Option.some.injEq,Xs,Xt,Xu,Xv]
  refine hupd _ _ fun s' O' g1 _ g2 g3=>?_
  simp only[Qa,Qb,Qc,Qd,Qe,Qf,Qg,Qh,Qi,Qj,Qk,Ql,Qm,Qn,true_and,and_true,Qo,Qp,Qq,Qr,Qs,Qt,Qu,Qv,Qw,Qx,Qy,Qz,Ra,Rb,Rc,Rd,Re,Rf,Rg,Rh,Ri,Rj,Rk,Rl,Rm,Ya,Yb,Yc,Rn,Ro,Xv,Yd,Ye,Rq,Rs,Rt,Ru,Rw,Rx,Ry]
  exact hend _ s' O' g1 g2 g3
structure RT where
 kind:Int
 id:Int
 con:Nat
 kids:List Int
 kv:AV
def RT.cells(t:RT):List AV:=[iv t.kind,iv t.id]++(Tm.con t.con).cells++[t.kv]
def Ex(T:List RT):List AV:=T.flatMap RT.cells
def Gh(s:AD)(O Q:List Nat)(t:RT):Prop:=
 (t.kids=[]∧t.kv=.slice none 0 (some 0))∨∃j,t.kv=.slice (some (j,0)) t.kids.length none∧j∈O∧j ∉ Q∧A1 (s.heap.get j) 0 t.kids.length=some (C8 t.kids)
structure Nt(s:AD)(q:Nat)(T:List RT)(O:List Nat):Prop where
 ex:∃tv OT,s.heap.get q=some (R 80 0 false [tv])∧D6 122 10 s tv T.length (Ex T) OT∧(∀t∈T,t.con<11∧Gh s O (q::OT) t)∧(∀j∈q::OT,j∈O)∧q ∉ OT
 low:∀ (i:Nat) (t:RT),T[i]? = some t→∀k∈t.kids,0≤k∧k<(i:Int)
 lt:∀j∈O,j<s.next
theorem Gh.frame{s s':AD}{O Q:List Nat}{t:RT}(h:Gh s O Q t)(k:∀j∈O,s'.heap.get j=s.heap.get j):Gh s' O Q t:=by
 rcases h with h | ⟨j,h1,h2,h3,h4⟩
 ·exact .inl h
 ·exact .inr ⟨j,h1,h2,h3,by rw[k j h2];exact h4⟩
theorem Nt.frame{s s':AD}{q:Nat}{T:List RT}{O:List Nat}(h:Nt s q T O)(hn:s.next≤s'.next)(k:∀j∈O,s'.heap.get j=s.heap.get j):Nt s' q T O:=by
 obtain⟨tv,OT,h1,h2,h3,h4,h5⟩:=h.ex
 refine⟨⟨tv,OT,by rw[k q (h4 q (by simp))];exact h1,h2.frame hn fun j hj=>k j (h4 j (by simp[hj])),fun t ht=>⟨(h3 t ht).1,(h3 t ht).2.frame k⟩,h4,h5⟩,h.low,fun j hj=>bi (h.lt j hj) hn⟩
theorem Nt.old{s s':AD}{q:Nat}{T:List RT}{O:List Nat}(h:Nt s q T O)(k:BD s.next s s'):Nt s' q T O:=h.frame k.1 fun j hj=>k.2 j (h.lt j hj)
theorem Gh.rd{s:AD}{O Q:List Nat}{t:RT}(h:Gh s O Q t)(hlt:∀j∈O,j<s.next):A0 s t.kv t.kids:=by
 rcases h with⟨h1,h2⟩ | ⟨j,h1,h2,h3,h4⟩
 ·exact .inl ⟨h1,h2⟩
 ·exact .inr ⟨j,0,none,h1,hlt j h2,h4⟩
theorem RT.len{t:RT}(h:t.con<11):t.cells.length=10:=by
 obtain⟨tag,c1,c2,c3,c5,c6,hc,_⟩:=BM _ (cF h (by omega))
 simp[RT.cells,hc]
theorem G6:∀ {T:List RT},(∀t∈T,t.con<11)→∀ {i:Nat}{t:RT},T[i]? = some t→((Ex T).drop (i * 10)).take 10=t.cells∧i * 10+10≤(Ex T).length
 | [],_,i,t,h=>by simp at h
 | u::T,hT,i,t,h=>by
  have hl:=RT.len (hT u bm)
  have he:Ex (u::T)=u.cells++Ex T:=rfl
  rw[he]
  cases i with
  | zero =>
   simp at h
   subst h
   rw[Nat.zero_mul,bR,cg (by omega),bw (by omega)]
   exact⟨rfl,by simp;omega⟩
  | succ i =>
   obtain⟨h1,h2⟩:=G6 (fun x hx=>hT x (br _ hx)) (i:=i) (t:=t) (by simpa using h)
   rw[show(i+1) * 10=u.cells.length+i * 10 from by omega,List.drop_append,List.drop_of_length_le (show u.cells.length≤u.cells.length+i * 10 by omega),bP,show u.cells.length+i * 10 - u.cells.length=i * 10 from by omega]
   exact⟨h1,by simp;omega⟩
section
variable{E:Bl}(hE:Ai E){s:AD}{q:Nat}{T:List RT}{O:List Nat}(h:Nt s q T O){K:AV→AD→Prop}
include hE h
theorem Y3{x:Int}(hK:K (.bool (FM T.length x)) s):WF E 126 [.ptr (some (q,0)),iv x] K s:=by
 obtain⟨tv,OT,hobj,hbuf,_⟩:=h.ex
 obtain⟨a,c,rfl,_⟩:=hbuf.slice
 refine hE.go UD (by decide) rfl ?_
 unfold FM at hK
 by_cases h0:0≤x
 ·have hd:decide (0≤x)=true:=decide_eq_true h0
  rw[hd,Bool.true_and]at hK
  simp only[X5,Mj,Mk,Qa,Qb,Qc,Qd,Qe,Qf,Qg,Qh,Qi,Qj,Qk,Ql,Qm,Qn,true_and,and_true,Qo,Qp,Qq,Qr,Qs,Qt,Qu,Qv,Qw,Qx,Qy,Qz,Ra,Rb,Rc,Rd,Re,Rf,Rg,Rh,Ri,Rj,Rk,Rl,Rm,Ya,Yb,Yc,Rn,Ro,Xv,Yd,Ye,Rq,Rs,Rt,Ru,Rw,Rx,Ry,Ru,Rq,hd,hobj,Ci,Gk,AZ Tryz.underlying78,Rz,Wa,Wb,Wc,Wd,We,Wf,Wg,Wh,Wi,Wj,Wl,Wm,Wn,Wp,Wq,Wr,Ws,Wt,Wu,Wv,Ww,Wx,Wy,Wz,Xa,Xb,Xc,Xd,Xe,Xf,Xg,Xh,Xi,Xj,Xk,Xl,Xm,Xn,Xo,Xp,Xq,Xr,bO,bT,bS,bP,bU,bV,List.getElem?_cons_zero,List.getElem?_cons_succ,bR,bX,bW,bY,bN,Nat.reduceAdd,Nat.reduceLT,Nat.reduceLeDiff,decide_true,decide_false,Bool.true_and,Bool.and_true,bZ,bM,Option.some.injEq,Xs,Xt,Xu,Xv]
  exact hK
 ·have hd:decide (0≤x)=false:=decide_eq_false h0
  rw[hd,Bool.false_and]at hK
  simp only[X5,Mj,Mk,Qa,Qb,Qc,Qd,Qe,Qf,Qg,Qh,Qi,Qj,Qk,Ql,Qm,Qn,true_and,and_true,Qo,Qp,Qq,Qr,Qs,Qt,Qu,Qv,Qw,Qx,Qy,Qz,Ra,Rb,Rc,Rd,Re,Rf,Rg,Rh,Ri,Rj,Rk,Rl,Rm,Ya,Yb,Yc,Rn,Ro,Xv,Yd,Ye,Rq,Rs,Rt,Ru,Rw,Rx,Ry,Ru,Rq,hd,hobj,Ci,Gk,AZ Tryz.underlying78,Rz,Wa,Wb,Wc,Wd,We,Wf,Wg,Wh,Wi,Wj,Wl,Wm,Wn,Wp,Wq,Wr,Ws,Wt,Wu,Wv,Ww,Wx,Wy,Wz,Xa,Xb,Xc,Xd,Xe,Xf,Xg,Xh,Xi,Xj,Xk,Xl,Xm,Xn,Xo,Xp,Xq,Xr,bO,bT,bS,bP,bU,bV,List.getElem?_cons_zero,List.getElem?_cons_succ,bR,bX,bW,bY,bN,Nat.reduceAdd,Nat.reduceLT,Nat.reduceLeDiff,decide_true,decide_false,Bool.true_and,Bool.and_true,bZ,bM,Option.some.injEq,Xs,Xt,Xu,Xv]
  exact hK
theorem Y1{x:Int}{t:RT}(hx:0≤x)(ht:T[x.toNat]? = some t)(hK:∀s',BD s.next s s'→K (.agg t.cells) s'):WF E 107 [.ptr (some (q,0)),iv x] K s:=by
 obtain⟨tv,OT,hobj,hbuf,hk,hO,_⟩:=h.ex
 have hT:∀t∈T,t.con<11:=fun t ht=>(hk t ht).1
 have hxl:x.toNat<T.length:=by
  rcases be x.toNat T.length with h' | h'
  ·exact h'
  ·rw[bh h']at ht;cases ht
 have hin:FM T.length x=true:=by simp[FM];omega
 obtain⟨hat,hle⟩:=G6 hT ht
 obtain⟨tag,c1,c2,c3,c5,c6,hc,_,d1,d2,d3,d5,d6⟩:=BM _ (cF (hT t (bn ht)) (by omega))
 have hcl:t.cells=[iv t.kind,iv t.id,iv tag,c1,c2,c3,.slice none 0 (some 0),c5,c6,t.kv]:=by
  show [iv t.kind,iv t.id]++(Tm.con t.con).cells++_=_
  rw[hc];rfl
 have hkv:t.kv.isCell=true:=by
  rcases(hk t (bn ht)).2 with⟨_,e⟩ | ⟨_,e,_⟩<;>rw[e]<;>rfl
 rcases hbuf.row with⟨_,h0,_⟩ | ⟨j,r,rfl,hjO,hjr,hh⟩
 ·omega
 have hln:A1 (s.heap.get j) (x.toNat * 10) 10=some t.cells:=by rw[hjr,Df hh hle,hat]
 rw[hcl]at hln hK
 have hql:=h.lt q (hO q (by simp))
 have hjl:=h.lt j (hO j (by simp[hjO]))
 have hidx:AH Tryz.prog 78 (.slice (some (j,0)) T.length none) (iv x)=some (.ptr (some (j,x.toNat * 10))):=by
  have:=Ac (P:=Tryz.prog) (i:=j) (o:=0) (cap:=none) (k:=x.toNat) (len:=T.length) Tryz.underlying78 I5 hxl
  rw[show((x.toNat:Nat):Int)=x from by omega,bN]at this
  exact this
 have his:=fun os (K:AV→AD→Prop)=>Y3 (K:=K) hE (h.old (AS (os:=os))) (x:=x)
 rw[hin]at his
 refine hE.go UA (by decide) rfl ?_
 generalize hs:s.next=b at hK hql hjl
 have hs0:s=ext s []:=(Af s).symm
 have hfin:∀os,K (.agg [iv t.kind,iv t.id,iv tag,c1,c2,c3,.slice none 0 (some 0),c5,c6,t.kv]) (ext s os):=fun os=>hK _ (by rw[← hs];exact AS)
 rw[hs0]
 simp only[ZS,QY,QZ,X0,hs,Qa,Qb,Qc,Qd,Qe,Qf,Qg,Qh,Qi,Qj,Qk,Ql,Qm,Qn,true_and,and_true,Qo,Qp,Qq,Qr,Qs,Qt,Qu,Qv,Qw,Qx,Qy,Qz,Ra,Rb,Rc,Rd,Re,Rf,Rg,Rh,Ri,Rj,Rk,Rl,Rm,Ya,Yb,Yc,Rn,Ro,Xv,Yd,Ye,Rq,Rs,Rt,Ru,Rw,Rx,Ry,Rz,Wa,Wb,Wc,Wd,We,Wf,Wg,Wh,Wi,Wj,Wl,Wm,Wn,Wp,Wq,Wr,Ws,Wt,Wu,Wv,Ww,Wx,Wy,Wz,Xa,Xb,Xc,Xd,Xe,Xf,Xg,Xh,Xi,Xj,Xk,Xl,Xm,Xn,Xo,Xp,Xq,Xr,bO,bT,bS,bP,bU,bV,List.getElem?_cons_zero,List.getElem?_cons_succ,bR,bX,bW,bY,bN,Nat.reduceAdd,Nat.reduceLT,Nat.reduceLeDiff,decide_true,decide_false,Bool.true_and,Bool.and_true,bZ,bM,Option.some.injEq,Xs,Xt,Xu,Xv]
 refine his _ _ ?_
 simp only[Q0,Qa,Qb,Qc,Qd,Qe,Qf,Qg,Qh,Qi,Qj,Qk,Ql,Qm,Qn,true_and,and_true,Qo,Qp,Qq,Qr,Qs,Qt,Qu,Qv,Qw,Qx,Qy,Qz,Ra,Rb,Rc,Rd,Re,Rf,Rg,Rh,Ri,Rj,Rk,Rl,Rm,Ya,Yb,Yc,Rn,Ro,Xv,Yd,Ye,Rq,Rs,Rt,Ru,Rw,Rx,Ry,hs,Ry,Bool.not_true,hql,hjl,hobj,Ci,Gk,Ny,I5,hidx,hln,Ag,d1,d2,d3,d5,d6,hkv,Rz,Wa,Wb,Wc,Wd,We,Wf,Wg,Wh,Wi,Wj,Wl,Wm,Wn,Wp,Wq,Wr,Ws,Wt,Wu,Wv,Ww,Wx,Wy,Wz,Xa,Xb,Xc,Xd,Xe,Xf,Xg,Xh,Xi,Xj,Xk,Xl,Xm,Xn,Xo,Xp,Xq,Xr,bO,bT,bS,bP,bU,bV,List.getElem?_cons_zero,List.getElem?_cons_succ,bR,bX,bW,bY,bN,Nat.reduceAdd,Nat.reduceLT,Nat.reduceLeDiff,decide_true,decide_false,Bool.true_and,Bool.and_true,bZ,bM,Option.some.injEq,Xs,Xt,Xu,Xv]
 exact hfin _
end
def Om(i j:Nat):Bool:=match CC CE 127 [.agg (Tm.con i).cells,.agg (Tm.con j).cells]with
 | some (.bool b)=>b == decide (i=j)
 | _=>false
theorem TU:((List.range 11).all fun i=>(List.range 11).all fun j=>Om i j)=true:=by kernel_rfl
theorem QB{i j:Nat}(hi:i<11)(hj:j<11):CC CE 127 [.agg (Tm.con i).cells,.agg (Tm.con j).cells]=some (.bool (decide (i=j))):=by
  have h:=List.all_eq_true.1 (List.all_eq_true.1 TU i (List.mem_range.2 hi)) j (List.mem_range.2 hj)
  unfold Om at h
  split at h
  · rename_i b hb
    rw[hb,eq_of_beq h]
  · cases h
theorem QA{E:Bl}(hE:Ai E){s:AD}(hg:CV s 1 A7=true){i j:Nat}(hi:i<11)(hj:j<11){K:AV→AD→Prop}(hK:K (.bool (decide (i=j))) s):WF E 127 [.agg (Tm.con i).cells,.agg (Tm.con j).cells] K s:=by
 refine WF.native (hE.tab _ _ _ (.bool (decide (i=j)),s) ?_) hK
 have h2:B5 127 [.agg (Tm.con i).cells,.agg (Tm.con j).cells] s=(CC CE 127 [.agg (Tm.con i).cells,.agg (Tm.con j).cells]).bind fun r=>AF (CV s 1 A7) (some (r,s)):=rfl
 unfold Fm
 rw[h2,QB hi hj,Option.bind_some,hg]
 rfl
def MG(i:Nat):Bool:=match CC CE 109 [.agg (Tm.con i).cells]with
 | some (.bool b)=>b
 | _=>false
theorem Pw:((List.range 11).all MG)=true:=by kernel_rfl
theorem NX{i:Nat}(hi:i<11):CC CE 109 [.agg (Tm.con i).cells]=some (.bool true):=by
  have h:=List.all_eq_true.1 Pw i (List.mem_range.2 hi)
  unfold MG at h
  split at h
  · rename_i b hb
    rw[hb,h]
  · cases h
theorem MK{E:Bl}(hE:Ai E){s:AD}(hg:CV s 1 A7=true){i:Nat}(hi:i<11){K:AV→AD→Prop}(hK:K (.bool true) s):WF E 109 [.agg (Tm.con i).cells] K s:=by
 refine WF.native (hE.tab _ _ _ (.bool true,s) ?_) hK
 have h1:=NX hi
 have h2:B5 109 [.agg (Tm.con i).cells] s=(CC CE 109 [.agg (Tm.con i).cells]).bind fun r=>AF (CV s 1 A7) (some (r,s)):=rfl
 unfold Fm
 rw[h2,h1,Option.bind_some,hg]
 rfl
theorem No{E:Bl}(hE:Ai E){s:AD}(hg:CV s 1 A7=true){K:AV→AD→Prop}(hK:K (.bool true) s):WF E 7 [] K s:=by
 refine WF.native (hE.tab _ _ _ (.bool true,s) ?_) hK
 have h1:CC CE 7 []=some (.bool true):=by kernel_rfl
 have h2:B5 7 [] s=(CC CE 7 []).bind fun r=>AF (CV s 1 A7) (some (r,s)):=rfl
 unfold Fm
 rw[h2,h1,Option.bind_some,hg]
 rfl
end
end Go.Proofs.YtickdehehcmfbaaGreatDoor.Am
