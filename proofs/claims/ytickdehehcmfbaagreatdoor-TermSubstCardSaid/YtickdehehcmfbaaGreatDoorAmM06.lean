/- What put does to a store, walked; conditions: none. -/
import Derived.Test.YtickdehehcmfbaaGreatDoorAmM05
set_option linter.unusedVariables false
set_option linter.unusedSimpArgs false
namespace Go.Proofs.YtickdehehcmfbaaGreatDoor.Am
open Go Go.Proofs
noncomputable section
theorem AQ{s:AD}{os:List Ac}:BK s.next s (ext s os):=⟨by rw[Wm,AF];omega,fun j hj=>Wh hj⟩
theorem BK.frO{s s':AD}(O:List Nat)(h:BK s.next s s'):Bu O s s':=⟨h.1,fun j hj _=>h.2 j hj⟩
theorem BY.old{s s':AD}{S l:List Tm}{v:AV}(h:BY s S l v)(k:BK s.next s s'):BY s' S l v:=by
 rcases h with h | ⟨j,q,cap,h1,h2,h3,h4⟩
 ·exact .inl h
 ·exact .inr ⟨j,q,cap,h1,h2,bG h3 k.1,by rw[k.2 j h3];exact h4⟩
theorem M5(k:Int):CG Tryz.prog 3 (iv k)=A7 .i64 k:=by kernel_rfl
theorem L8{s:AD}{i:Nat}{ks:List Int}{k:Int}(hg:s.heap.get i=some (.map 3 (A4 ks)))(hk:i64 k):
  Bz Tryz.prog s 68 (.map (some i)) (iv k) (iv 1)=some (setObj s i (.map 3 (A4 (Fg ks k)))):=by
 unfold Bz
 simp only[Tryz.underlying68,M5,BR hk,Xa,EP,hg,DQ,Option.bind_some,Jm]
set_option maxRecDepth 20000 in
theorem T7      {E : Be}  (hE : Ah    E) {s : AD}  {p : Nat} {S : List Tm} {O : List Nat} (h : AS      s p S O) (hsm : S.length < 100000) (u : Tm) (hk : ∀ k ∈ u.kids, k ∈ S) (ho : u.ok) {pv : AV} (hp : BY      s S u.kids pv) :
    WF E 32 [.ptr (some (p,0)),.agg [iv u.kind,iv u.id,iv 0,iv 0,iv 0,.str u.ktext],.agg u.cells,pv] (fun r s'=>r=iv (ix (push S u) u:Int)∧∃O',AS s' p (push S u) O'∧Bu O s s'∧AT O O' s) s:=by
  obtain⟨tv,fi,vm,OT,e⟩:=h.ex
  have hc7:=Dc ho
  obtain⟨c0,c1,c2,c3,c4,c5,c6,hc,d0,d1,d2,d3,d4,d5,d6⟩:=u.cells7 ho
  refine hE.go XE (by decide) rfl ?_
  have hplt:=e.plt
  have hflt:=e.flt
  have hobj:=e.obj
  have hfnd:=e.fnd
  have hlen:=PA hp
  generalize hs:s.next=b at hplt hflt
  have hs0:s=ext s []:=(Aa s).symm
  have hcp:=fun s' (hh:BY s' S u.kids pv) i o=>MV (s:=s') (i:=i) (o:=o) (EL u) hh
  have hpe:∀os,BY (ext s os) S u.kids pv:=fun os=>hp.old AQ
  generalize hK:(fun r s'=>r=iv (ix (push S u) u:Int)∧∃O',AS s' p (push S u) O'∧Bu O s s'∧AT O O' s)=K
  rw[hs0]
  simp only[aM,Ux,Uy,hs,Qa,Qb,Qc,Qd,Qe,Qf,Qg,Qh,Qi,Qj,Qk,Ql,Qm,Qn,true_and,and_true,Qo,Qp,Qq,Qr,Qs,Qt,Qu,Qv,Qw,Qx,Qy,Qz,Ra,Rb,Rc,Rd,Re,Rf,Rg,Rh,Ri,Rj,Rk,Rl,Rm,Ya,Yb,Yc,Rn,Ro,Xv,Yd,Ye,Rq,Rs,Rt,Ru,Rw,Rx,Ry,Rz,Wa,Wb,Wc,Wd,We,Wf,Wg,Wh,Wi,Wj,Wl,Wm,Wn,Wp,Wq,Wr,Ws,Wt,Wu,Wv,Ww,Wx,Wy,Wz,Xa,Xb,Xc,Xd,Xe,Xf,Xg,Xh,Xi,Xj,Xk,Xl,Xm,Xn,Xo,Xp,Xq,Xr,ao,au,ap,am,aw,ay,List.getElem?_cons_zero,List.getElem?_cons_succ,aq,az,bA,bB,ak,Nat.reduceAdd,Nat.reduceLT,Nat.reduceLeDiff,decide_true,decide_false,Bool.true_and,Bool.and_true,bC,aj,Option.some.injEq,Xs,Xt,Xu,Xv,RP,Tz,hcp _ (hpe _),R8 hs]
  have hlk:∀os,Bx Tryz.prog (ext s os) 60 (.map (some fi)) (.agg (BD S u)) true=some (.tuple [if u∈S then iv (ix S u:Int)else iv 0,.bool (decide (u∈S))]):=fun os =>
    KY (by rw[Wh (by rw[hs];exact hflt),hfnd]) h.ok hsm hk ho
  simp only[BD]at hlk
  simp only[Uz,RO,Ym,WU,YM,hplt,hobj,hs,hlk,BD,Qa,Qb,Qc,Qd,Qe,Qf,Qg,Qh,Qi,Qj,Qk,Ql,Qm,Qn,true_and,and_true,Qo,Qp,Qq,Qr,Qs,Qt,Qu,Qv,Qw,Qx,Qy,Qz,Ra,Rb,Rc,Rd,Re,Rf,Rg,Rh,Ri,Rj,Rk,Rl,Rm,Ya,Yb,Yc,Rn,Ro,Xv,Yd,Ye,Rq,Rs,Rt,Ru,Rw,Rx,Ry,Rz,Wa,Wb,Wc,Wd,We,Wf,Wg,Wh,Wi,Wj,Wl,Wm,Wn,Wp,Wq,Wr,Ws,Wt,Wu,Wv,Ww,Wx,Wy,Wz,Xa,Xb,Xc,Xd,Xe,Xf,Xg,Xh,Xi,Xj,Xk,Xl,Xm,Xn,Xo,Xp,Xq,Xr,ao,au,ap,am,aw,ay,List.getElem?_cons_zero,List.getElem?_cons_succ,aq,az,bA,bB,ak,Nat.reduceAdd,Nat.reduceLT,Nat.reduceLeDiff,decide_true,decide_false,Bool.true_and,Bool.and_true,bC,aj,Option.some.injEq,Xs,Xt,Xu,Xv]
  by_cases hu:u∈S
  · simp only [P6,    U0,    hu, if_true, Qa, Qb, Qc, Qd, Qe, Qf, Qg, Qh, Qi, Qj, Qk, Ql, Qm, Qn, true_and, and_true, Qo, Qp, Qq, Qr, Qs, Qt, Qu, Qv, Qw, Qx, Qy, Qz, Ra, Rb, Rc, Rd, Re, Rf, Rg, Rh, Ri, Rj, Rk, Rl, Rm, Ya, Yb, Yc, Rn, Ro, Xv, Yd, Ye, Rq, Rs, Rt, Ru, Rw, Rx, Ry, Rz, Wa, Wb, Wc, Wd, We, Wf, Wg, Wh, Wi, Wj, Wl, Wm, Wn, Wp, Wq, Wr, Ws, Wt, Wu, Wv, Ww, Wx, Wy, Wz, Xa, Xb, Xc, Xd, Xe, Xf, Xg, Xh, Xi, Xj, Xk, Xl, Xm, Xn, Xo, Xp, Xq, Xr, ao,               au,              ap,               am,              aw,                 ay,                 List.getElem?_cons_zero, List.getElem?_cons_succ, aq,             az,                  bA,                  bB,             ak,           Nat.reduceAdd, Nat.reduceLT, Nat.reduceLeDiff, decide_true, decide_false, Bool.true_and, Bool.and_true, bC,             aj,          Option.some.injEq, Xs, Xt, Xu, Xv]
    subst hK
    have hpu:push S u=S:=if_pos hu
    rw[hpu]
    exact⟨rfl,O,h.old AQ,AQ.frO O,AT.refl O s⟩
  · have hpu : push S u = S ++ [u] := if_neg hu
    have hfin:∀s' O',AS s' p (S++[u]) O'→Bu O s s'→AT O O' s→K (iv (S.length:Int)) s':=fun s' O' h1 h2 h3=>by
      subst hK
      rw[hpu]
      exact⟨by rw[R5 hu],O',h1,h2,h3⟩
    simp only[P6,U1,U2,hu,if_false,hc,WU,YM,Hu,He,hlen,Nx,Pp,YR,Kn,TE,C6,ID,d0,d1,d2,d3,d4,d5,d6,hs,Rw,Qa,Qb,Qc,Qd,Qe,Qf,Qg,Qh,Qi,Qj,Qk,Ql,Qm,Qn,true_and,and_true,Qo,Qp,Qq,Qr,Qs,Qt,Qu,Qv,Qw,Qx,Qy,Qz,Ra,Rb,Rc,Rd,Re,Rf,Rg,Rh,Ri,Rj,Rk,Rl,Rm,Ya,Yb,Yc,Rn,Ro,Xv,Yd,Ye,Rq,Rs,Rt,Ru,Rw,Rx,Ry,Rz,Wa,Wb,Wc,Wd,We,Wf,Wg,Wh,Wi,Wj,Wl,Wm,Wn,Wp,Wq,Wr,Ws,Wt,Wu,Wv,Ww,Wx,Wy,Wz,Xa,Xb,Xc,Xd,Xe,Xf,Xg,Xh,Xi,Xj,Xk,Xl,Xm,Xn,Xo,Xp,Xq,Xr,ao,au,ap,am,aw,ay,List.getElem?_cons_zero,List.getElem?_cons_succ,aq,az,bA,bB,ak,Nat.reduceAdd,Nat.reduceLT,Nat.reduceLeDiff,decide_true,decide_false,Bool.true_and,Bool.and_true,bC,aj,Option.some.injEq,Xs,Xt,Xu,Xv]
    have hpb:=fun os=>hpe os
    have hmain:∀ (ks:List Int) (a10 a12 a16:AV),ks.Nodup→ks.length≤100000→(∀x,(x∈ks∨∃t∈u.kids,t.has x=true)↔u.has x=true) →
        Qb E P7 (fun v s'=>WC E none (AZ.loop Gf) (Ag 0 (Io (fun x x_3 x_4=>Qb E KC (fun v s'=>Qb E KD (fun v s'=>Qb E KE (fun v s'=>I3 (Bs s' x_3) fun s'=>K (Hb v 6) s') [] v s') [] v s') [] x x_4) (Ends Tryz.prog [(CX.var 6,none)] K))) v [] s') []
          [.ptr (some (p,0)),.agg [iv u.kind,iv u.id,iv 0,iv 0,iv 0,.str u.ktext],.agg [c0,c1,c2,c3,c4,c5,c6],pv,.ptr (some (nid b 0,0)),.ptr (some (nid b 1,0)),.int .i64 0,iv 0,.bool false,.ptr (some (nid b 3,0)),a10,.bool false,a12,Az,Az,Az,a16]
          (ext s [R 65 0 false [iv u.kind,iv u.id,iv (part S u 0),iv (part S u 1),iv (part S u 2),.str u.ktext],R 43 0 false [c0,c1,c2,c3,c4,c5,c6],.map 3 (A4 ks),
            R 70 0 false [iv u.kind,iv u.id,iv (part S u 0),iv (part S u 1),iv (part S u 2),.str u.ktext,c0,c1,c2,c3,c4,c5,c6,iv (u.kids.length:Int),iv ((1:Nat):Int),.map (some (nid b 2))]]):=by
      intro ks a10 a12 a16 hn hl hx
      simp only[P7,hlen,Qa,Qb,Qc,Qd,Qe,Qf,Qg,Qh,Qi,Qj,Qk,Ql,Qm,Qn,true_and,and_true,Qo,Qp,Qq,Qr,Qs,Qt,Qu,Qv,Qw,Qx,Qy,Qz,Ra,Rb,Rc,Rd,Re,Rf,Rg,Rh,Ri,Rj,Rk,Rl,Rm,Ya,Yb,Yc,Rn,Ro,Xv,Yd,Ye,Rq,Rs,Rt,Ru,Rw,Rx,Ry,Rz,Wa,Wb,Wc,Wd,We,Wf,Wg,Wh,Wi,Wj,Wl,Wm,Wn,Wp,Wq,Wr,Ws,Wt,Wu,Wv,Ww,Wx,Wy,Wz,Xa,Xb,Xc,Xd,Xe,Xf,Xg,Xh,Xi,Xj,Xk,Xl,Xm,Xn,Xo,Xp,Xq,Xr,ao,au,ap,am,aw,ay,List.getElem?_cons_zero,List.getElem?_cons_succ,aq,az,bA,bB,ak,Nat.reduceAdd,Nat.reduceLT,Nat.reduceLeDiff,decide_true,decide_false,Bool.true_and,Bool.and_true,bC,aj,Option.some.injEq,Xs,Xt,Xu,Xv]
      refine SN hE e h.ok hp (EL u) hk _ _ _ _ _ _ _ _ _ _ _ _ _ _ _ _ _ _ _ _ _ _ _ _ hs u.kids [] ks 1 _ _ rfl hn (by simp;omega) (by omega) ?_
      intro ks' b10 b15 b16 hn' hx'
      simp only[Qa,Qb,Qc,Qd,Qe,Qf,Qg,Qh,Qi,Qj,Qk,Ql,Qm,Qn,true_and,and_true,Qo,Qp,Qq,Qr,Qs,Qt,Qu,Qv,Qw,Qx,Qy,Qz,Ra,Rb,Rc,Rd,Re,Rf,Rg,Rh,Ri,Rj,Rk,Rl,Rm,Ya,Yb,Yc,Rn,Ro,Xv,Yd,Ye,Rq,Rs,Rt,Ru,Rw,Rx,Ry,Rz,Wa,Wb,Wc,Wd,We,Wf,Wg,Wh,Wi,Wj,Wl,Wm,Wn,Wp,Wq,Wr,Ws,Wt,Wu,Wv,Ww,Wx,Wy,Wz,Xa,Xb,Xc,Xd,Xe,Xf,Xg,Xh,Xi,Xj,Xk,Xl,Xm,Xn,Xo,Xp,Xq,Xr,ao,au,ap,am,aw,ay,List.getElem?_cons_zero,List.getElem?_cons_succ,aq,az,bA,bB,ak,Nat.reduceAdd,Nat.reduceLT,Nat.reduceLeDiff,decide_true,decide_false,Bool.true_and,Bool.and_true,bC,aj,Option.some.injEq,Xs,Xt,Xu,Xv]
      rw[if_pos trivial,Ss]
      have:=Tq (E:=E) e h.ok hsm hk ho hu (.agg [iv u.kind,iv u.id,iv 0,iv 0,iv 0,.str u.ktext]) (.agg [c0,c1,c2,c3,c4,c5,c6]) pv (.ptr (some (nid b 1,0))) (.int .i64 0) (iv 0) (.bool false) b10 (.bool false) a12 pv (iv (u.kids.length:Int)) b15 b16 (R 43 0 false [c0,c1,c2,c3,c4,c5,c6]) hs hn' (fun x=>by rw[hx',hx]) hfin
      simp only[BG,BD,hc,ap,am]at this
      exact this
    by_cases hu0:u.kind=0
    · have hv:∃i,u=.var i:=by
        cases u<;>first | exact⟨_,rfl⟩ | (cases hu0;done)
      have hid:i64 u.id:=by obtain⟨i,rfl⟩:=hv;exact ho
      have hup:∀os,(ext s os).heap.get (nid b 2)=some (.map 3 [])→Bz Tryz.prog (ext s os) 68 (.map (some (nid b 2))) (iv u.id) (iv 1)=some (setObj (ext s os) (nid b 2) (.map 3 (A4 [u.id]))):=fun os hg=>L8 (ks:=[]) hg hid
      have hd:decide (u.kind=0)=true:=decide_eq_true hu0
      rw[hd,Qu]
      simp only[U3,OQ,C6,RR,KL,hs,Qa,Qb,Qc,Qd,Qe,Qf,Qg,Qh,Qi,Qj,Qk,Ql,Qm,Qn,true_and,and_true,Qo,Qp,Qq,Qr,Qs,Qt,Qu,Qv,Qw,Qx,Qy,Qz,Ra,Rb,Rc,Rd,Re,Rf,Rg,Rh,Ri,Rj,Rk,Rl,Rm,Ya,Yb,Yc,Rn,Ro,Xv,Yd,Ye,Rq,Rs,Rt,Ru,Rw,Rx,Ry,Rz,Wa,Wb,Wc,Wd,We,Wf,Wg,Wh,Wi,Wj,Wl,Wm,Wn,Wp,Wq,Wr,Ws,Wt,Wu,Wv,Ww,Wx,Wy,Wz,Xa,Xb,Xc,Xd,Xe,Xf,Xg,Xh,Xi,Xj,Xk,Xl,Xm,Xn,Xo,Xp,Xq,Xr,ao,au,ap,am,aw,ay,List.getElem?_cons_zero,List.getElem?_cons_succ,aq,az,bA,bB,ak,Nat.reduceAdd,Nat.reduceLT,Nat.reduceLeDiff,decide_true,decide_false,Bool.true_and,Bool.and_true,bC,aj,Option.some.injEq,Xs,Xt,Xu,Xv]
      rw[hup _ (by rw[Wg hs (by simp)];rfl),Wn _ hs (by simp)]
      refine hmain [u.id] _ _ _ (by simp) (by simp) (fun x=>?_)
      obtain⟨i,rfl⟩:=hv
      show(x∈[i]∨∃t∈[],_)↔decide (i=x)=true
      simp only[List.mem_singleton,bm,false_and,exists_false,or_false,decide_eq_true_eq]
      exact eq_comm
    · simp only[hu0,decide_false,Qa,Qb,Qc,Qd,Qe,Qf,Qg,Qh,Qi,Qj,Qk,Ql,Qm,Qn,true_and,and_true,Qo,Qp,Qq,Qr,Qs,Qt,Qu,Qv,Qw,Qx,Qy,Qz,Ra,Rb,Rc,Rd,Re,Rf,Rg,Rh,Ri,Rj,Rk,Rl,Rm,Ya,Yb,Yc,Rn,Ro,Xv,Yd,Ye,Rq,Rs,Rt,Ru,Rw,Rx,Ry,Rz,Wa,Wb,Wc,Wd,We,Wf,Wg,Wh,Wi,Wj,Wl,Wm,Wn,Wp,Wq,Wr,Ws,Wt,Wu,Wv,Ww,Wx,Wy,Wz,Xa,Xb,Xc,Xd,Xe,Xf,Xg,Xh,Xi,Xj,Xk,Xl,Xm,Xn,Xo,Xp,Xq,Xr,ao,au,ap,am,aw,ay,List.getElem?_cons_zero,List.getElem?_cons_succ,aq,az,bA,bB,ak,Nat.reduceAdd,Nat.reduceLT,Nat.reduceLeDiff,decide_true,decide_false,Bool.true_and,Bool.and_true,bC,aj,Option.some.injEq,Xs,Xt,Xu,Xv]
      refine hmain [] _ _ _ List.nodup_nil (by simp) (fun x=>?_)
      cases u<;>first | exact absurd rfl hu0 | simp[Tm.kids,Tm.has,or_assoc]
theorem Dk(i o:Nat):AO Tryz.prog .eql 25 (.ptr (some (i,o))) (.ptr none)=some (.bool false):=by kernel_rfl
theorem Aj(P:Program)(s:AD)(v:List AV)(x:CX)(t:TypeId)(l:List (CX×Option TypeId)):A9 P s v ((x,some t)::l)=(AG P s t (CF [] v x)).bind fun u=>(A9 P s v l).bind fun r=>some (u::r):=rfl
theorem X8{S:List Tm}{t:Tm}:decide ((ix S t:Int)<0)=false:=by simp
theorem Za{S:List Tm}{t:Tm}(h:t∈S):decide ((S.length:Int)≤(ix S t:Int))=false:=by have:=Eu h;simp;omega
def Yf(s:AD)(S:List Tm)(t:Tm)(r:AV):Prop:=∃m,r=.agg (BG S t m)∧Gc s m t∧m<s.next
theorem UH{E:Be}(hE:Ah E){s:AD}{p:Nat}{S:List Tm}{O:List Nat}(h:AS s p S O){t:Tm}(ht:t∈S){K:AV→AD→Prop}
  (hK:∀r s',BK s.next s s'→Yf s' S t r→K r s'):WF E 39 [.ptr (some (p,0)),iv (ix S t:Int)] K s:=by
 obtain⟨tv,fi,vm,OT,e⟩:=h.ex
 obtain⟨m,j,r,hvm,rfl,hjO,hjr,hln,_⟩:=e.entry h.ok (Cr ht)
 obtain⟨hva,hmb,_⟩:=e.vars _ _ _ (Cr ht) hvm
 obtain⟨c0,c1,c2,c3,c4,c5,c6,hc,d0,d1,d2,d3,d4,d5,d6⟩:=t.cells7 (h.ok.ok t ht)
 rw[← hjr]at hln
 have hent:BG S t m=[iv t.kind,iv t.id,iv (part S t 0),iv (part S t 1),iv (part S t 2),.str t.ktext,c0,c1,c2,c3,c4,c5,c6,iv (t.kids.length:Int),iv (t.sz:Int),.map (some m)]:=by
  simp only[BG,BD,hc,ap,am]
 rw[hent]at hln
 refine hE.go XI (by decide) rfl ?_
 have hplt:=e.plt
 have hjlt:=e.lt j hjO
 have hobj:=e.obj
 generalize hs:s.next=b at hplt hjlt hmb hK
 have hs0:s=ext s []:=(Aa s).symm
 have hfin:∀os,K (.agg (BG S t m)) (ext s os):=fun os=>hK _ _ (by rw[← hs];exact AQ) ⟨m,rfl,hva.frame (Wh (by omega)),by rw[Wm,AF];omega⟩
 rw[hent]at hfin
 rw[hs0]
 simp only[aQ,VF,VG,VH,VI,YR,hs,Dk,Rq,Ru,X8,Za ht,hplt,hjlt,hobj,Gl,OP,TE,Kn,Ad Tryz.underlying59,AY Tryz.underlying59 Kn (Eu ht),hln,Aj,d0,d1,d2,d3,d4,d5,d6,Qa,Qb,Qc,Qd,Qe,Qf,Qg,Qh,Qi,Qj,Qk,Ql,Qm,Qn,true_and,and_true,Qo,Qp,Qq,Qr,Qs,Qt,Qu,Qv,Qw,Qx,Qy,Qz,Ra,Rb,Rc,Rd,Re,Rf,Rg,Rh,Ri,Rj,Rk,Rl,Rm,Ya,Yb,Yc,Rn,Ro,Xv,Yd,Ye,Rq,Rs,Rt,Ru,Rw,Rx,Ry,Rz,Wa,Wb,Wc,Wd,We,Wf,Wg,Wh,Wi,Wj,Wl,Wm,Wn,Wp,Wq,Wr,Ws,Wt,Wu,Wv,Ww,Wx,Wy,Wz,Xa,Xb,Xc,Xd,Xe,Xf,Xg,Xh,Xi,Xj,Xk,Xl,Xm,Xn,Xo,Xp,Xq,Xr,ao,au,ap,am,aw,ay,List.getElem?_cons_zero,List.getElem?_cons_succ,aq,az,bA,bB,ak,Nat.reduceAdd,Nat.reduceLT,Nat.reduceLeDiff,decide_true,decide_false,Bool.true_and,Bool.and_true,bC,aj,Option.some.injEq,Xs,Xt,Xu,Xv]
 exact hfin _
section
variable{E:Be}(hE:Ah E){s:AD}{p:Nat}{S:List Tm}{O:List Nat}(h:AS s p S O){t:Tm}(ht:t∈S){K:AV→AD→Prop}
include hE h ht
theorem Tx(hK:∀s',BK s.next s s'→K (iv (t.sz:Int)) s'):WF E 15 [.ptr (some (p,0)),iv (ix S t:Int)] K s:=by
 refine hE.go W5 (by decide) rfl ?_
 simp only[aE,UQ,Qa,Qb,Qc,Qd,Qe,Qf,Qg,Qh,Qi,Qj,Qk,Ql,Qm,Qn,true_and,and_true,Qo,Qp,Qq,Qr,Qs,Qt,Qu,Qv,Qw,Qx,Qy,Qz,Ra,Rb,Rc,Rd,Re,Rf,Rg,Rh,Ri,Rj,Rk,Rl,Rm,Ya,Yb,Yc,Rn,Ro,Xv,Yd,Ye,Rq,Rs,Rt,Ru,Rw,Rx,Ry]
 simp only[UR,Qa,Qb,Qc,Qd,Qe,Qf,Qg,Qh,Qi,Qj,Qk,Ql,Qm,Qn,true_and,and_true,Qo,Qp,Qq,Qr,Qs,Qt,Qu,Qv,Qw,Qx,Qy,Qz,Ra,Rb,Rc,Rd,Re,Rf,Rg,Rh,Ri,Rj,Rk,Rl,Rm,Ya,Yb,Yc,Rn,Ro,Xv,Yd,Ye,Rq,Rs,Rt,Ru,Rw,Rx,Ry]
 refine UH hE h ht fun r s' ho he=>?_
 obtain⟨m,rfl,_,_⟩:=he
 obtain⟨c0,c1,c2,c3,c4,c5,c6,hc,_⟩:=t.cells7 (h.ok.ok t ht)
 simp only[Qa,Qb,Qc,Qd,Qe,Qf,Qg,Qh,Qi,Qj,Qk,Ql,Qm,Qn,true_and,and_true,Qo,Qp,Qq,Qr,Qs,Qt,Qu,Qv,Qw,Qx,Qy,Qz,Ra,Rb,Rc,Rd,Re,Rf,Rg,Rh,Ri,Rj,Rk,Rl,Rm,Ya,Yb,Yc,Rn,Ro,Xv,Yd,Ye,Rq,Rs,Rt,Ru,Rw,Rx,Ry,BG,BD,hc,X2,Rz,Wa,Wb,Wc,Wd,We,Wf,Wg,Wh,Wi,Wj,Wl,Wm,Wn,Wp,Wq,Wr,Ws,Wt,Wu,Wv,Ww,Wx,Wy,Wz,Xa,Xb,Xc,Xd,Xe,Xf,Xg,Xh,Xi,Xj,Xk,Xl,Xm,Xn,Xo,Xp,Xq,Xr,ao,au,ap,am,aw,ay,List.getElem?_cons_zero,List.getElem?_cons_succ,aq,az,bA,bB,ak,Nat.reduceAdd,Nat.reduceLT,Nat.reduceLeDiff,decide_true,decide_false,Bool.true_and,Bool.and_true,bC,aj,Option.some.injEq,Xs,Xt,Xu,Xv]
 exact hK s' ho
end
def Bn(l:List Int):List AV:=l.map iv
theorem KT(l:List Int):AX (Bn l)=true:=by
 induction l with
 | nil=>rfl
 | cons a l ih=>exact ih
theorem B7(l:List Int):(Bn l).length=l.length:=bX ..
theorem Nv{l:List Int}{k:Nat}{x:Int}(h:l[k]? = some x):(Bn l)[k]? = some (iv x):=by rw[Bn,bh,h];rfl
def An(s:AD)(v:AV)(l:List Int):Prop:=
 (l=[]∧v=.slice none 0 (some 0))∨∃j q cap,v=.slice (some (j,q)) l.length cap∧j<s.next∧BB (s.heap.get j) q l.length=some (Bn l)
theorem An.old{s s':AD}{v:AV}{l:List Int}(h:An s v l)(k:BK s.next s s'):An s' v l:=by
 rcases h with h | ⟨j,q,cap,h2,h3,h4⟩
 ·exact .inl h
 ·exact .inr ⟨j,q,cap,h2,bG h3 k.1,by rw[k.2 j h3];exact h4⟩
theorem An.at{s:AD}{l:List Int}{v:AV}(h:An s v l){k:Nat}{x:Int}(hk:l[k]? = some x):∃j q cap,v=.slice (some (j,q)) l.length cap∧j<s.next∧Cv (s.heap.get j) (q+k)=some (iv x):=by
 rcases h with⟨rfl,rfl⟩ | ⟨j,q,cap,rfl,h1,h2⟩
 ·simp at hk
 ·have hlt:k<l.length:=by
   rcases bE k l.length with h' | h'
   ·exact h'
   ·rw[bJ h']at hk;cases hk
  exact⟨j,q,cap,rfl,h1,by rw[LS h2 hlt];exact Nv hk⟩
theorem An.len{s:AD}{l:List Int}{v:AV}(h:An s v l)(s':AD):BT Tryz.prog s' 27 v=some (iv (l.length:Int)):=by
 rcases h with⟨rfl,rfl⟩ | ⟨j,q,cap,rfl,_⟩<;>exact Ad Tryz.underlying27
theorem An.parts{s:AD}{S l:List Tm}{v:AV}(h:An s v (l.map fun t=>(ix S t:Int)))(h0:0<l.length):BY s S l v:=by
 have he:Bn (l.map fun t=>(ix S t:Int))=E0 S l:=by simp[Bn,E0]
 rcases h with⟨h1,rfl⟩ | ⟨j,q,cap,rfl,h1,h2⟩
 ·exact .inl ⟨by simpa using h1,rfl⟩
 ·rw[he,bX]at h2
  exact .inr ⟨j,q,cap,by rw[bX],h0,h1,h2⟩
theorem PG:Ae Tryz.prog 27 0 (zipIdx [] [])=some (R 3 1 false []):=by kernel_rfl
theorem R0(j q n:Nat)(cap:Option Nat):AO Tryz.prog .eql 27 (.slice (some (j,q)) n cap) (.slice none 0 (some 0))=some (.bool false):=by kernel_rfl
theorem NG:B2 Tryz.prog 3 1=true:=by kernel_rfl
theorem Ks:BS Tryz.prog 27=true:=by kernel_rfl
theorem Is{s:AD}{v:AV}{l:List Int}(h:An s v l):CT Tryz.prog s 3 1 v=some (l.length,Bn l):=by
  rcases h with⟨rfl,rfl⟩ | ⟨j,q,cap,rfl,h1,h2⟩
  · rfl
  · show(JC s j q l.length 1).bind _=_
    by_cases h0:l.length=0
    · have:l=[]:=bu h0
      subst this
      rfl
    · rw [show JC   s j q l.length 1 = BW    s j q (l.length * 1) from by unfold JC;   rw [Hg      h0]; rfl, bR,          FE,      h2]
      rfl
theorem Ky{s:AD}{i:Nat}{sp:Bool}{v:AV}{l:List Int}(hi:s.heap.get i=some (R 3 1 sp []))(h:An s v l)(h0:0<l.length)(hl:l.length≤1000000):
  BC Tryz.prog s [27,27] [.slice (some (i,0)) 0 (some 0),v]=some (.slice (some (s.next,0)) l.length none,newObj s (R 3 1 true (Bn l))):=by
 have hsrc:=Is h
 have hv:∃a n c,v=.slice a n c:=by
  rcases h with⟨_,rfl⟩ | ⟨_,_,_,rfl,_⟩<;>exact⟨_,_,_,rfl⟩
 obtain⟨a,n,c,rfl⟩:=hv
 have h1:Nat.ble (l.length * 8) 1099511627776=true:=Do (by omega)
 have h2:Nat.ble l.length 1099511627776=true:=Do (by omega)
 have h3:Nat.ble l.length 0=false:=NR (by omega)
 have h4:BW s i 0 (0 * 1)=some []:=by
  rw[FE,hi];rfl
 simp only[BC,Tryz.underlying27,Ea,Zw,Option.bind_some,hsrc,Ks,KT,h1,h2,appTo,Hx,h3,h4,cond_false,B3,NG,am,Xa,Bool.and_self,ak]
 rfl
theorem Q7{E:Be}(hE:Ah E){s:AD}{v:AV}{l:List Int}(h:An s v l)(h0:0<l.length)(hl:l.length≤1000000){K:AV→AD→Prop}
  (hK:K (.slice (some (nid s.next 1,0)) l.length none) (ext s [R 3 1 false [],R 3 1 true (Bn l)])):WF E 43 [v] K s:=by
 refine hE.go XL (by decide) rfl ?_
 have hv:∃j q c,v=.slice (some (j,q)) l.length c:=by
  rcases h with⟨rfl,_⟩ | ⟨_,_,_,rfl,_⟩
  ·cases h0
  ·exact⟨_,_,_,rfl⟩
 obtain⟨j,q,c,rfl⟩:=hv
 generalize hs:s.next=b at hK
 have hs0:s=ext s []:=(Aa s).symm
 have happ:=Ky (s:=ext s [R 3 1 false []]) (i:=nid b 0) (by rw[Wg hs (by simp)];rfl) (h.old AQ) h0 hl
 rw[Wm,hs,Wl]at happ
 rw[hs0]
 simp only[aT,VR,VS,VT,R0,PG,hs,happ,Qa,Qb,Qc,Qd,Qe,Qf,Qg,Qh,Qi,Qj,Qk,Ql,Qm,Qn,true_and,and_true,Qo,Qp,Qq,Qr,Qs,Qt,Qu,Qv,Qw,Qx,Qy,Qz,Ra,Rb,Rc,Rd,Re,Rf,Rg,Rh,Ri,Rj,Rk,Rl,Rm,Ya,Yb,Yc,Rn,Ro,Xv,Yd,Ye,Rq,Rs,Rt,Ru,Rw,Rx,Ry,Rz,Wa,Wb,Wc,Wd,We,Wf,Wg,Wh,Wi,Wj,Wl,Wm,Wn,Wp,Wq,Wr,Ws,Wt,Wu,Wv,Ww,Wx,Wy,Wz,Xa,Xb,Xc,Xd,Xe,Xf,Xg,Xh,Xi,Xj,Xk,Xl,Xm,Xn,Xo,Xp,Xq,Xr,ao,au,ap,am,aw,ay,List.getElem?_cons_zero,List.getElem?_cons_succ,aq,az,bA,bB,ak,Nat.reduceAdd,Nat.reduceLT,Nat.reduceLeDiff,decide_true,decide_false,Bool.true_and,Bool.and_true,bC,aj,Option.some.injEq,Xs,Xt,Xu,Xv]
 exact hK
theorem Zj{s:AD}{i o n:Nat}(h:n=0∨n=2∨n=3):Ay Tryz.prog 44 false true false s [.ptr (some (i,o)),iv (n:Int)]=some (.slice (some (i,o)) n (some 3)):=by
 have h0:Ay Tryz.prog 44 false true false s [.ptr (some (i,o)),iv 0]=some (.slice (some (i,o+0 * 1)) 0 (some 3)):=by kernel_rfl
 have h2:Ay Tryz.prog 44 false true false s [.ptr (some (i,o)),iv 2]=some (.slice (some (i,o+0 * 1)) 2 (some 3)):=by kernel_rfl
 have h3:Ay Tryz.prog 44 false true false s [.ptr (some (i,o)),iv 3]=some (.slice (some (i,o+0 * 1)) 3 (some 3)):=by kernel_rfl
 rcases h with rfl | rfl | rfl
 ·exact h0
 ·exact h2
 ·exact h3
theorem X7(t:Tm):t.kids.length=0∨t.kids.length=2∨t.kids.length=3:=by cases t<;>simp[Tm.kids]
section
variable{E:Be}(hE:Ah E){s:AD}{p:Nat}{S:List Tm}{O:List Nat}(h:AS s p S O){t:Tm}(ht:t∈S){K:AV→AD→Prop}
include hE h ht
end
theorem HM(xs:List AV)(s:AD):Gs 37 xs s=D8 59 3 3 s xs:=by kernel_rfl
theorem Mh(ks:List Int):HJ (A4 ks)=some ks:=by
 induction ks with
 | nil=>rfl
 | cons k ks ih =>
  show(HJ (A4 ks)).bind _=_
  rw[ih];rfl
def Dm(t:Tm)(l:List Int):Prop:=l.Pairwise (·<·)∧∀x,x∈l↔t.has x=true
theorem Kr{t:Tm}{ks:List Int}(hn:ks.Nodup)(hx:∀x,x∈ks↔t.has x=true):Dm t (EX ks):=by
 have hp:=DN ks
 have hnd:(EX ks).Nodup:=hp.nodup_iff.2 hn
 refine⟨?_,fun x=>by rw[hp.mem_iff,hx]⟩
 have h1:=EK ks
 exact(h1.and hnd).imp fun⟨a,b⟩=>by omega
theorem Ja(ks:List Int):(EX ks).length=ks.length:=(DN ks).length_eq
theorem Ly{E:Be}(hE:Ah E){s:AD}{i m:Nat}{t:Tm}{K:AV→AD→Prop}(hi:s.heap.get i=some (R 68 0 false [.map (some m)]))(hm:Gc s m t)
    (hK:∀v l s',BK s.next s s'→Dm t l→An s' v l→(∀j,Iq v=some j→s.next≤j)→K v s'):WF E 37 [.func 59 [] [.ptr (some (i,0))]] K s:=by
  obtain⟨ks,hg,hn,hx,hl⟩:=hm
  have hso:D8 59 3 3 s [.func 59 [] [.ptr (some (i,0))]]=FI 3 ks s:=by
    have hr:rowAt s i=some { elem:=68,sz:=0,n:=1,c:=O8 [.map (some m)],spare:=false,mode:=.own,par:=none,bytes:=true }:=by
      rw[N6,hi];rfl
    have hl1:Cm s i 0=some (.map (some m)):=by rw[Ny,hi];exact Wi _ _ _ _ _
    simp only[D8,hr,hl1,Option.bind_some,EP,hg,DQ,Mh]
    rfl
  have hvo:=Kr hn hx
  cases ks with
  | nil =>
    refine WF.native (hE.tab _ _ _ (.slice none 0 (some 0),s) (by rw[HM,hso];rfl)) ?_
    exact hK _ _ _ (BK.refl _ _) hvo (.inl ⟨rfl,rfl⟩) fun j hj=>by cases hj
  | cons k ks =>
    have hb:Nat.ble (k::ks).length 1000000=true:=Do (by omega)
    refine WF.native (hE.tab _ _ _ (.slice (some (s.next,0)) (k::ks).length none,newObj s (R 3 1 true (Bn (EX (k::ks))))) ?_) ?_
    · rw[HM,hso]
      show AH (Nat.ble (k::ks).length 1000000) _=_
      rw[hb,Xa]
      have h2:(Bn (EX (k::ks))).length=(k::ks).length:=by rw[B7,Ja]
      rw[← h2]
      rfl
    · refine hK _ _ _ (BK.new  _ _) hvo (.inr ⟨s.next, 0, none, by rw [Ja],        bl               _, ?_⟩) fun j hj => by injection hj with hj; omega
      rw[BQ,if_pos rfl,Wj (by rw[B7,ak];exact aj _),aq,bY (by rw[B7];exact aj _)]
theorem T9{E:Be}(hE:Ah E){s:AD}{p:Nat}{S:List Tm}{O:List Nat}(h:AS s p S O){t:Tm}(ht:t∈S){K:AV→AD→Prop}
  (hK:∀v l s',BK s.next s s'→Dm t l→An s' v l→(∀j,Iq v=some j→s.next≤j)→K v s'):WF E 13 [.ptr (some (p,0)),iv (ix S t:Int)] K s:=by
 obtain⟨c0,c1,c2,c3,c4,c5,c6,hc,d0,d1,d2,d3,d4,d5,d6⟩:=t.cells7 (h.ok.ok t ht)
 refine hE.go W4 (by decide) rfl ?_
 simp only[aD,UO,UP,Qa,Qb,Qc,Qd,Qe,Qf,Qg,Qh,Qi,Qj,Qk,Ql,Qm,Qn,true_and,and_true,Qo,Qp,Qq,Qr,Qs,Qt,Qu,Qv,Qw,Qx,Qy,Qz,Ra,Rb,Rc,Rd,Re,Rf,Rg,Rh,Ri,Rj,Rk,Rl,Rm,Ya,Yb,Yc,Rn,Ro,Xv,Yd,Ye,Rq,Rs,Rt,Ru,Rw,Rx,Ry,Rz,Wa,Wb,Wc,Wd,We,Wf,Wg,Wh,Wi,Wj,Wl,Wm,Wn,Wp,Wq,Wr,Ws,Wt,Wu,Wv,Ww,Wx,Wy,Wz,Xa,Xb,Xc,Xd,Xe,Xf,Xg,Xh,Xi,Xj,Xk,Xl,Xm,Xn,Xo,Xp,Xq,Xr,ao,au,ap,am,aw,ay,List.getElem?_cons_zero,List.getElem?_cons_succ,aq,az,bA,bB,ak,Nat.reduceAdd,Nat.reduceLT,Nat.reduceLeDiff,decide_true,decide_false,Bool.true_and,Bool.and_true,bC,aj,Option.some.injEq,Xs,Xt,Xu,Xv]
 refine UH hE h ht fun r s' ho he=>?_
 obtain⟨m,rfl,hm,hmb⟩:=he
 simp only[Qa,Qb,Qc,Qd,Qe,Qf,Qg,Qh,Qi,Qj,Qk,Ql,Qm,Qn,true_and,and_true,Qo,Qp,Qq,Qr,Qs,Qt,Qu,Qv,Qw,Qx,Qy,Qz,Ra,Rb,Rc,Rd,Re,Rf,Rg,Rh,Ri,Rj,Rk,Rl,Rm,Ya,Yb,Yc,Rn,Ro,Xv,Yd,Ye,Rq,Rs,Rt,Ru,Rw,Rx,Ry,BG,BD,hc,X3,Rz,Wa,Wb,Wc,Wd,We,Wf,Wg,Wh,Wi,Wj,Wl,Wm,Wn,Wp,Wq,Wr,Ws,Wt,Wu,Wv,Ww,Wx,Wy,Wz,Xa,Xb,Xc,Xd,Xe,Xf,Xg,Xh,Xi,Xj,Xk,Xl,Xm,Xn,Xo,Xp,Xq,Xr,ao,au,ap,am,aw,ay,List.getElem?_cons_zero,List.getElem?_cons_succ,aq,az,bA,bB,ak,Nat.reduceAdd,Nat.reduceLT,Nat.reduceLeDiff,decide_true,decide_false,Bool.true_and,Bool.and_true,bC,aj,Option.some.injEq,Xs,Xt,Xu,Xv]
 refine hE.go XH (by decide) rfl ?_
 generalize hs:s'.next=b
 have hs0:s'=ext s' []:=(Aa s').symm
 rw[hs0]
 simp only[aP,VD,VE,hs,Qa,Qb,Qc,Qd,Qe,Qf,Qg,Qh,Qi,Qj,Qk,Ql,Qm,Qn,true_and,and_true,Qo,Qp,Qq,Qr,Qs,Qt,Qu,Qv,Qw,Qx,Qy,Qz,Ra,Rb,Rc,Rd,Re,Rf,Rg,Rh,Ri,Rj,Rk,Rl,Rm,Ya,Yb,Yc,Rn,Ro,Xv,Yd,Ye,Rq,Rs,Rt,Ru,Rw,Rx,Ry,Rz,Wa,Wb,Wc,Wd,We,Wf,Wg,Wh,Wi,Wj,Wl,Wm,Wn,Wp,Wq,Wr,Ws,Wt,Wu,Wv,Ww,Wx,Wy,Wz,Xa,Xb,Xc,Xd,Xe,Xf,Xg,Xh,Xi,Xj,Xk,Xl,Xm,Xn,Xo,Xp,Xq,Xr,ao,au,ap,am,aw,ay,List.getElem?_cons_zero,List.getElem?_cons_succ,aq,az,bA,bB,ak,Nat.reduceAdd,Nat.reduceLT,Nat.reduceLeDiff,decide_true,decide_false,Bool.true_and,Bool.and_true,bC,aj,Option.some.injEq,Xs,Xt,Xu,Xv]
 refine Ly hE (m:=m) (t:=t) (by rw[Wg hs (by simp)];rfl) (hm.frame (Wh hmb)) fun v l s2 ho2 hv hr hsl=>?_
 simp only[Qa,Qb,Qc,Qd,Qe,Qf,Qg,Qh,Qi,Qj,Qk,Ql,Qm,Qn,true_and,and_true,Qo,Qp,Qq,Qr,Qs,Qt,Qu,Qv,Qw,Qx,Qy,Qz,Ra,Rb,Rc,Rd,Re,Rf,Rg,Rh,Ri,Rj,Rk,Rl,Rm,Ya,Yb,Yc,Rn,Ro,Xv,Yd,Ye,Rq,Rs,Rt,Ru,Rw,Rx,Ry,Rz,Wa,Wb,Wc,Wd,We,Wf,Wg,Wh,Wi,Wj,Wl,Wm,Wn,Wp,Wq,Wr,Ws,Wt,Wu,Wv,Ww,Wx,Wy,Wz,Xa,Xb,Xc,Xd,Xe,Xf,Xg,Xh,Xi,Xj,Xk,Xl,Xm,Xn,Xo,Xp,Xq,Xr,ao,au,ap,am,aw,ay,List.getElem?_cons_zero,List.getElem?_cons_succ,aq,az,bA,bB,ak,Nat.reduceAdd,Nat.reduceLT,Nat.reduceLeDiff,decide_true,decide_false,Bool.true_and,Bool.and_true,bC,aj,Option.some.injEq,Xs,Xt,Xu,Xv]
 have ho1:BK s'.next s' s2:=(AQ).trans (ho2.mono (by rw[Wm,AF];omega))
 exact hK _ _ _ (ho.trans (ho1.mono ho.1)) hv hr fun j hj=>by
  have h1:=hsl j hj
  have h2:=ho.1
  rw[Wm,hs,AF]at h1
  omega
theorem XZ:∀n,n<13→MB (.agg (Tm.con n).cells) (.agg (Tm.con n).cells)=true:=by
 intro n h
 have:n=0∨n=1∨n=2∨n=3∨n=4∨n=5∨n=6∨n=7∨n=8∨n=9∨n=10∨n=11∨n=12:=by omega
 rcases this with rfl | rfl | rfl | rfl | rfl | rfl | rfl | rfl | rfl | rfl | rfl | rfl | rfl<;>rfl
theorem BH{s:AD}{loc var:List AV}{f:AD→AV→Option AV}{x ans:CX}(h:f s (CF loc var x)=some (CF loc var ans))(he:MB (CF loc var ans) (CF loc var ans)=true):Ef s loc var ⟨none,.r1 f,[x],ans⟩=true:=by
 unfold Ef
 show(!true || WQ (f s (CF loc var x)) (CF loc var ans))=true
 rw[h]
 exact he
theorem BF:∀n,n<13→∃tag c1 c2 c3 c5 c6,(Tm.con n).cells=[iv tag,c1,c2,c3,.slice none 0 (some 0),c5,c6]∧decide (tag=5)=false∧c1.isCell=true∧c2.isCell=true∧c3.isCell=true∧c5.isCell=true∧c6.isCell=true:=by
 intro n h
 have:n=0∨n=1∨n=2∨n=3∨n=4∨n=5∨n=6∨n=7∨n=8∨n=9∨n=10∨n=11∨n=12:=by omega
 rcases this with rfl | rfl | rfl | rfl | rfl | rfl | rfl | rfl | rfl | rfl | rfl | rfl | rfl<;>exact⟨_,_,_,_,_,_,rfl,by decide,rfl,rfl,rfl,rfl,rfl⟩
theorem LG:∀n,n<13→Ct Cx 44 [.agg (Tm.con n).cells]=some (.bool true)∧Ct Cx 30 [.agg (Tm.con n).cells]=some (.str (Tm.con n).ktext):=by
 intro n h
 have:n=0∨n=1∨n=2∨n=3∨n=4∨n=5∨n=6∨n=7∨n=8∨n=9∨n=10∨n=11∨n=12:=by omega
 rcases this with rfl | rfl | rfl | rfl | rfl | rfl | rfl | rfl | rfl | rfl | rfl | rfl | rfl<;>exact⟨by kernel_rfl,by kernel_rfl⟩
def CA(s:AD)(O:List Nat):Prop:=Cc s 1 A6=true∧1<s.next∧1 ∉ O
theorem BP{s s':AD}{g:Nat}{cells:List AV}(h:s'.heap.get g=s.heap.get g):Cc s' g cells=Cc s g cells:=by unfold Cc;rw[h]
theorem CA.step{s s':AD}{O O':List Nat}(h:CA s O)(f:Bu O s s')(g:AT O O' s):CA s' O':=
 ⟨by rw[BP (f.2 1 h.2.1 h.2.2)];exact h.1,bG h.2.1 f.1,fun hm=>(g 1 hm).elim h.2.2 (fun hl=>by have:=h.2.1;omega)⟩
theorem CA.old{s s':AD}{O:List Nat}(h:CA s O)(k:BK s.next s s'):CA s' O:=h.step (k.frO O) (AT.refl O s)
theorem Mw{E:Be}(hE:Ah E){s:AD}(hg:Cc s 1 A6=true){n:Nat}(hn:n<13){K:AV→AD→Prop}(hK:K (.bool true) s):WF E 44 [.agg (Tm.con n).cells] K s:=by
 refine WF.native (hE.tab _ _ _ (.bool true,s) ?_) hK
 have h1:=(LG n hn).1
 have h2:Cj 44 [.agg (Tm.con n).cells] s=(Ct Cx 44 [.agg (Tm.con n).cells]).bind fun r=>AH (Cc s 1 A6) (some (r,s)):=rfl
 unfold Gs
 rw[h2,h1,Option.bind_some,hg]
 rfl
theorem Pb{E:Be}(hE:Ah E){s:AD}(hg:Cc s 1 A6=true){n:Nat}(hn:n<13){K:AV→AD→Prop}(hK:K (.str (Tm.con n).ktext) s):WF E 30 [.agg (Tm.con n).cells] K s:=by
 refine WF.native (hE.tab _ _ _ (.str (Tm.con n).ktext,s) ?_) hK
 have h1:=(LG n hn).2
 have h2:Cj 30 [.agg (Tm.con n).cells] s=(Ct Cx 30 [.agg (Tm.con n).cells]).bind fun r=>AH (Cc s 1 A6) (some (r,s)):=rfl
 unfold Gs
 rw[h2,h1,Option.bind_some,hg]
 rfl
theorem D5{E:Be}(hE:Ah E){s s1:AD}{p:Nat}{S:List Tm}{O:List Nat}(h:AS s p S O)(hsm:S.length<100000)(ho1:BK s.next s s1)(u:Tm)(hk:∀k∈u.kids,k∈S)(ho:u.ok){pv:AV}(hp:BY s1 S u.kids pv){K:AV→AD→Prop}
  (hK:∀s' O',AS s' p (push S u) O'→Bu O s s'→AT O O' s→K (iv (ix (push S u) u:Int)) s'):
  WF E 32 [.ptr (some (p,0)),.agg [iv u.kind,iv u.id,iv 0,iv 0,iv 0,.str u.ktext],.agg u.cells,pv] K s1:=by
 refine(T7 hE (h.old ho1) hsm u hk ho hp).mono ?_
 rintro r s' ⟨rfl,O',h1,h2,h3⟩
 exact hK s' O' h1 ((ho1.frO O).trans h2 (AT.refl O s)) (AT.trans (AT.refl O s) h3 ho1.1)
theorem Yl:C0 Tryz.prog 39=some false:=by kernel_rfl
theorem K0(a b:Int):AR Tryz.prog 65 (zipIdx [0,1] [iv a,iv b])=some (.agg [iv a,iv b,iv 0,iv 0,iv 0,.str []]):=by kernel_rfl
theorem J6(a:Int):AR Tryz.prog 65 (zipIdx [0] [iv a])=some (.agg [iv a,iv 0,iv 0,iv 0,iv 0,.str []]):=by kernel_rfl
theorem Pq(a:Int)(l:List Nat):AR Tryz.prog 65 (zipIdx [0,3] [iv a,.str l])=some (.agg [iv a,iv 0,iv 0,iv 0,iv 0,.str l]):=by kernel_rfl
theorem EE:AR Tryz.prog 43 (zipIdx [] [])=some (.agg Tm.nullC):=by kernel_rfl
theorem G1(a b:Int):Ae Tryz.prog 27 2 (zipIdx [0,1] [iv a,iv b])=some (R 3 1 false (Bn [a,b])):=by kernel_rfl
theorem Jp(a b c:Int):Ae Tryz.prog 27 3 (zipIdx [0,1,2] [iv a,iv b,iv c])=some (R 3 1 false (Bn [a,b,c])):=by kernel_rfl
theorem G0(a:Int):Ae Tryz.prog 27 1 (zipIdx [0] [iv a])=some (R 3 1 false (Bn [a])):=by kernel_rfl
theorem LY(a:Int):CD true (iv a) [iv 0]=some (iv (max a 0)):=by
 show AH true (some (iv (bif I2 a 0 then 0 else a)))=_
 rw[B1]
 show some (iv _)=_
 by_cases h:a<(0:Int)
 ·simp only[h,decide_true,cond_true];rw[Int.max_eq_right (by omega)]
 ·simp only[h,decide_false,cond_false];rw[Int.max_eq_left (by omega)]
section
variable{E:Be}(hE:Ah E){s:AD}{p:Nat}{S:List Tm}{O:List Nat}(h:AS s p S O)(hsm:S.length<100000){K:AV→AD→Prop}
include hE h hsm
theorem OI{i:Int}(hi:i64 i)(hK:∀s' O',AS s' p (push S (.var i)) O'→Bu O s s'→AT O O' s→K (iv (ix (push S (.var i)) (.var i):Int)) s'):WF E 11 [.ptr (some (p,0)),iv i] K s:=by
 refine hE.go W3 (by decide) rfl ?_
 simp only[Yt,UL,UM,UN,Dk,K0,EE,Qa,Qb,Qc,Qd,Qe,Qf,Qg,Qh,Qi,Qj,Qk,Ql,Qm,Qn,true_and,and_true,Qo,Qp,Qq,Qr,Qs,Qt,Qu,Qv,Qw,Qx,Qy,Qz,Ra,Rb,Rc,Rd,Re,Rf,Rg,Rh,Ri,Rj,Rk,Rl,Rm,Ya,Yb,Yc,Rn,Ro,Xv,Yd,Ye,Rq,Rs,Rt,Ru,Rw,Rx,Ry,Rz,Wa,Wb,Wc,Wd,We,Wf,Wg,Wh,Wi,Wj,Wl,Wm,Wn,Wp,Wq,Wr,Ws,Wt,Wu,Wv,Ww,Wx,Wy,Wz,Xa,Xb,Xc,Xd,Xe,Xf,Xg,Xh,Xi,Xj,Xk,Xl,Xm,Xn,Xo,Xp,Xq,Xr,ao,au,ap,am,aw,ay,List.getElem?_cons_zero,List.getElem?_cons_succ,aq,az,bA,bB,ak,Nat.reduceAdd,Nat.reduceLT,Nat.reduceLeDiff,decide_true,decide_false,Bool.true_and,Bool.and_true,bC,aj,Option.some.injEq,Xs,Xt,Xu,Xv]
 refine D5 hE h hsm (BK.refl _ _) (.var i) (fun _ h=>by cases h) hi (.inl ⟨rfl,rfl⟩) fun s' O' h1 h2 h3=>?_
 simp only[Qa,Qb,Qc,Qd,Qe,Qf,Qg,Qh,Qi,Qj,Qk,Ql,Qm,Qn,true_and,and_true,Qo,Qp,Qq,Qr,Qs,Qt,Qu,Qv,Qw,Qx,Qy,Qz,Ra,Rb,Rc,Rd,Re,Rf,Rg,Rh,Ri,Rj,Rk,Rl,Rm,Ya,Yb,Yc,Rn,Ro,Xv,Yd,Ye,Rq,Rs,Rt,Ru,Rw,Rx,Ry]
 exact hK s' O' h1 h2 h3
theorem T5{i:Int}(hi:i64 i)(hK:∀s' O',AS s' p (push S (.bnd (max i 0))) O'→Bu O s s'→AT O O' s→K (iv (ix (push S (.bnd (max i 0))) (.bnd (max i 0)):Int)) s'):WF E 21 [.ptr (some (p,0)),iv i] K s:=by
 refine hE.go W8 (by decide) rfl ?_
 simp only[aG,Ue,Uf,Ug,Dk,K0,EE,LY,Qa,Qb,Qc,Qd,Qe,Qf,Qg,Qh,Qi,Qj,Qk,Ql,Qm,Qn,true_and,and_true,Qo,Qp,Qq,Qr,Qs,Qt,Qu,Qv,Qw,Qx,Qy,Qz,Ra,Rb,Rc,Rd,Re,Rf,Rg,Rh,Ri,Rj,Rk,Rl,Rm,Ya,Yb,Yc,Rn,Ro,Xv,Yd,Ye,Rq,Rs,Rt,Ru,Rw,Rx,Ry,Rz,Wa,Wb,Wc,Wd,We,Wf,Wg,Wh,Wi,Wj,Wl,Wm,Wn,Wp,Wq,Wr,Ws,Wt,Wu,Wv,Ww,Wx,Wy,Wz,Xa,Xb,Xc,Xd,Xe,Xf,Xg,Xh,Xi,Xj,Xk,Xl,Xm,Xn,Xo,Xp,Xq,Xr,ao,au,ap,am,aw,ay,List.getElem?_cons_zero,List.getElem?_cons_succ,aq,az,bA,bB,ak,Nat.reduceAdd,Nat.reduceLT,Nat.reduceLeDiff,decide_true,decide_false,Bool.true_and,Bool.and_true,bC,aj,Option.some.injEq,Xs,Xt,Xu,Xv]
 refine D5 hE h hsm (BK.refl _ _) (.bnd (max i 0)) (fun _ h=>by cases h) ⟨by omega,by unfold i64 at *;omega⟩ (.inl ⟨rfl,rfl⟩) fun s' O' h1 h2 h3=>?_
 simp only[Qa,Qb,Qc,Qd,Qe,Qf,Qg,Qh,Qi,Qj,Qk,Ql,Qm,Qn,true_and,and_true,Qo,Qp,Qq,Qr,Qs,Qt,Qu,Qv,Qw,Qx,Qy,Qz,Ra,Rb,Rc,Rd,Re,Rf,Rg,Rh,Ri,Rj,Rk,Rl,Rm,Ya,Yb,Yc,Rn,Ro,Xv,Yd,Ye,Rq,Rs,Rt,Ru,Rw,Rx,Ry]
 exact hK s' O' h1 h2 h3
theorem Ko{n:Nat}(hn:n<13)(hg:CA s O)(hK:∀s' O',AS s' p (push S (.con n)) O'→Bu O s s'→AT O O' s→K (iv (ix (push S (.con n)) (.con n):Int)) s'):WF E 22 [.ptr (some (p,0)),.agg (Tm.con n).cells] K s:=by
 obtain⟨tag,c1,c2,c3,c5,c6,hc,h5,d1,d2,d3,d5,d6⟩:=BF n hn
 have hp:=fun os (K:AV→AD→Prop)=>D5 (K:=K) hE h hsm (AQ (os:=os)) (.con n) (fun _ h=>by cases h) hn (.inl ⟨rfl,rfl⟩)
 have hr:=fun(K:AV→AD→Prop) os=>Mw (K:=K) hE (s:=ext s os) (hg.old AQ).1 hn
 have ht:=fun(K:AV→AD→Prop) os=>Pb (K:=K) hE (s:=ext s os) (hg.old AQ).1 hn
 have hce:=XZ n hn
 rw[hc]at hr ht hce
 refine hE.go W9 (by decide) rfl ?_
 generalize hs:s.next=b
 have hs0:s=ext s []:=(Aa s).symm
 rw[hs0]
 simp only[aH,Uh,Ui,Uj,hc,Dk,hs,He,Hu,Qa,Qb,Qc,Qd,Qe,Qf,Qg,Qh,Qi,Qj,Qk,Ql,Qm,Qn,true_and,and_true,Qo,Qp,Qq,Qr,Qs,Qt,Qu,Qv,Qw,Qx,Qy,Qz,Ra,Rb,Rc,Rd,Re,Rf,Rg,Rh,Ri,Rj,Rk,Rl,Rm,Ya,Yb,Yc,Rn,Ro,Xv,Yd,Ye,Rq,Rs,Rt,Ru,Rw,Rx,Ry,Rz,Wa,Wb,Wc,Wd,We,Wf,Wg,Wh,Wi,Wj,Wl,Wm,Wn,Wp,Wq,Wr,Ws,Wt,Wu,Wv,Ww,Wx,Wy,Wz,Xa,Xb,Xc,Xd,Xe,Xf,Xg,Xh,Xi,Xj,Xk,Xl,Xm,Xn,Xo,Xp,Xq,Xr,ao,au,ap,am,aw,ay,List.getElem?_cons_zero,List.getElem?_cons_succ,aq,az,bA,bB,ak,Nat.reduceAdd,Nat.reduceLT,Nat.reduceLeDiff,decide_true,decide_false,Bool.true_and,Bool.and_true,bC,aj,Option.some.injEq,Xs,Xt,Xu,Xv]
 refine hr _ _ ?_
 simp only[Ry,Bool.not_true,Bool.not_false,Rw,Rs,h5,C6,Yl,RL,RM,hs,Ad Tryz.underlying39,Qa,Qb,Qc,Qd,Qe,Qf,Qg,Qh,Qi,Qj,Qk,Ql,Qm,Qn,true_and,and_true,Qo,Qp,Qq,Qr,Qs,Qt,Qu,Qv,Qw,Qx,Qy,Qz,Ra,Rb,Rc,Rd,Re,Rf,Rg,Rh,Ri,Rj,Rk,Rl,Rm,Ya,Yb,Yc,Rn,Ro,Xv,Yd,Ye,Rq,Rs,Rt,Ru,Rw,Rx,Ry,Rz,Wa,Wb,Wc,Wd,We,Wf,Wg,Wh,Wi,Wj,Wl,Wm,Wn,Wp,Wq,Wr,Ws,Wt,Wu,Wv,Ww,Wx,Wy,Wz,Xa,Xb,Xc,Xd,Xe,Xf,Xg,Xh,Xi,Xj,Xk,Xl,Xm,Xn,Xo,Xp,Xq,Xr,ao,au,ap,am,aw,ay,List.getElem?_cons_zero,List.getElem?_cons_succ,aq,az,bA,bB,ak,Nat.reduceAdd,Nat.reduceLT,Nat.reduceLeDiff,decide_true,decide_false,Bool.true_and,Bool.and_true,bC,aj,Option.some.injEq,Xs,Xt,Xu,Xv]
 have hgt:decide ((0:Int)<((0:Nat):Int))=false:=rfl
 simp only[hgt,Uk,He,Hu,hs,Qa,Qb,Qc,Qd,Qe,Qf,Qg,Qh,Qi,Qj,Qk,Ql,Qm,Qn,true_and,and_true,Qo,Qp,Qq,Qr,Qs,Qt,Qu,Qv,Qw,Qx,Qy,Qz,Ra,Rb,Rc,Rd,Re,Rf,Rg,Rh,Ri,Rj,Rk,Rl,Rm,Ya,Yb,Yc,Rn,Ro,Xv,Yd,Ye,Rq,Rs,Rt,Ru,Rw,Rx,Ry,Rz,Wa,Wb,Wc,Wd,We,Wf,Wg,Wh,Wi,Wj,Wl,Wm,Wn,Wp,Wq,Wr,Ws,Wt,Wu,Wv,Ww,Wx,Wy,Wz,Xa,Xb,Xc,Xd,Xe,Xf,Xg,Xh,Xi,Xj,Xk,Xl,Xm,Xn,Xo,Xp,Xq,Xr,ao,au,ap,am,aw,ay,List.getElem?_cons_zero,List.getElem?_cons_succ,aq,az,bA,bB,ak,Nat.reduceAdd,Nat.reduceLT,Nat.reduceLeDiff,decide_true,decide_false,Bool.true_and,Bool.and_true,bC,aj,Option.some.injEq,Xs,Xt,Xu,Xv]
 refine ht _ _ ?_
 refine⟨⟨BH ?_ hce,trivial⟩,?_⟩
 ·simp only[Qa,Qb,Qc,Qd,Qe,Qf,Qg,Qh,Qi,Qj,Qk,Ql,Qm,Qn,true_and,and_true,Qo,Qp,Qq,Qr,Qs,Qt,Qu,Qv,Qw,Qx,Qy,Qz,Ra,Rb,Rc,Rd,Re,Rf,Rg,Rh,Ri,Rj,Rk,Rl,Rm,Ya,Yb,Yc,Rn,Ro,Xv,Yd,Ye,Rq,Rs,Rt,Ru,Rw,Rx,Ry,He,Hu,hs,Rz,Wa,Wb,Wc,Wd,We,Wf,Wg,Wh,Wi,Wj,Wl,Wm,Wn,Wp,Wq,Wr,Ws,Wt,Wu,Wv,Ww,Wx,Wy,Wz,Xa,Xb,Xc,Xd,Xe,Xf,Xg,Xh,Xi,Xj,Xk,Xl,Xm,Xn,Xo,Xp,Xq,Xr,ao,au,ap,am,aw,ay,List.getElem?_cons_zero,List.getElem?_cons_succ,aq,az,bA,bB,ak,Nat.reduceAdd,Nat.reduceLT,Nat.reduceLeDiff,decide_true,decide_false,Bool.true_and,Bool.and_true,bC,aj,Option.some.injEq,Xs,Xt,Xu,Xv]
 simp only[Pq,Qa,Qb,Qc,Qd,Qe,Qf,Qg,Qh,Qi,Qj,Qk,Ql,Qm,Qn,true_and,and_true,Qo,Qp,Qq,Qr,Qs,Qt,Qu,Qv,Qw,Qx,Qy,Qz,Ra,Rb,Rc,Rd,Re,Rf,Rg,Rh,Ri,Rj,Rk,Rl,Rm,Ya,Yb,Yc,Rn,Ro,Xv,Yd,Ye,Rq,Rs,Rt,Ru,Rw,Rx,Ry,Rz,Wa,Wb,Wc,Wd,We,Wf,Wg,Wh,Wi,Wj,Wl,Wm,Wn,Wp,Wq,Wr,Ws,Wt,Wu,Wv,Ww,Wx,Wy,Wz,Xa,Xb,Xc,Xd,Xe,Xf,Xg,Xh,Xi,Xj,Xk,Xl,Xm,Xn,Xo,Xp,Xq,Xr,ao,au,ap,am,aw,ay,List.getElem?_cons_zero,List.getElem?_cons_succ,aq,az,bA,bB,ak,Nat.reduceAdd,Nat.reduceLT,Nat.reduceLeDiff,decide_true,decide_false,Bool.true_and,Bool.and_true,bC,aj,Option.some.injEq,Xs,Xt,Xu,Xv]
 rw[← hc]
 refine hp _ _ fun s' O' h1 h2 h3=>?_
 simp only[Qa,Qb,Qc,Qd,Qe,Qf,Qg,Qh,Qi,Qj,Qk,Ql,Qm,Qn,true_and,and_true,Qo,Qp,Qq,Qr,Qs,Qt,Qu,Qv,Qw,Qx,Qy,Qz,Ra,Rb,Rc,Rd,Re,Rf,Rg,Rh,Ri,Rj,Rk,Rl,Rm,Ya,Yb,Yc,Rn,Ro,Xv,Yd,Ye,Rq,Rs,Rt,Ru,Rw,Rx,Ry]
 exact hK s' O' h1 h2 h3
theorem Mi(hK:K (iv (S.length:Int)) s):WF E 10 [.ptr (some (p,0))] K s:=by
 have _hs:=hsm
 obtain⟨tv,fi,vm,OT,e⟩:=h.ex
 obtain⟨a,c,htv,_⟩:=e.buf.slice
 subst htv
 refine hE.go W2 (by decide) rfl ?_
 simp only[Yq,UI,UJ,UK,Dk,e.obj,OP,Gl,Ad Tryz.underlying59,Qa,Qb,Qc,Qd,Qe,Qf,Qg,Qh,Qi,Qj,Qk,Ql,Qm,Qn,true_and,and_true,Qo,Qp,Qq,Qr,Qs,Qt,Qu,Qv,Qw,Qx,Qy,Qz,Ra,Rb,Rc,Rd,Re,Rf,Rg,Rh,Ri,Rj,Rk,Rl,Rm,Ya,Yb,Yc,Rn,Ro,Xv,Yd,Ye,Rq,Rs,Rt,Ru,Rw,Rx,Ry,Rz,Wa,Wb,Wc,Wd,We,Wf,Wg,Wh,Wi,Wj,Wl,Wm,Wn,Wp,Wq,Wr,Ws,Wt,Wu,Wv,Ww,Wx,Wy,Wz,Xa,Xb,Xc,Xd,Xe,Xf,Xg,Xh,Xi,Xj,Xk,Xl,Xm,Xn,Xo,Xp,Xq,Xr,ao,au,ap,am,aw,ay,List.getElem?_cons_zero,List.getElem?_cons_succ,aq,az,bA,bB,ak,Nat.reduceAdd,Nat.reduceLT,Nat.reduceLeDiff,decide_true,decide_false,Bool.true_and,Bool.and_true,bC,aj,Option.some.injEq,Xs,Xt,Xu,Xv]
 exact hK
end
def Al:Tm:=.con 0
def I1(n:Nat)(x:Int):Bool:=decide (0≤x) && decide (x<n)
def As(S:List Tm)(x:Int):Tm:=if I1 S.length x then S.getD x.toNat Al else Al
def DZ(n:Nat):List Tm→List Int→List Tm
 | S,[]=>S
 | S,x::l=>DZ n (if I1 n x then S else push S Al) l
theorem DR{S:List Tm}{u:Tm}:u∈push S u:=by
 unfold push
 split
 ·assumption
 ·simp
theorem Ig{S:List Tm}{u t:Tm}(h:t∈S):t∈push S u:=by
 unfold push
 split
 ·exact h
 ·exact bq _ h
theorem Nw{S:List Tm}{u t:Tm}(h:t∈S):ix (push S u) t=ix S t:=by
 unfold push
 split
 ·rfl
 ·exact C8 _ h
theorem CR{S:List Tm}{u:Tm}:(push S u).length≤S.length+1:=by
 unfold push
 split<;>simp
theorem Jl{S:List Tm}:push (push S Al) Al=push S Al:=if_pos DR
theorem DY{n:Nat}{S:List Tm}:∀l,DZ n (push S Al) l=push S Al
 | []=>rfl
 | x::l=>by
  unfold DZ
  split
  ·exact DY l
  ·rw[Jl];exact DY l
theorem Fw{n:Nat}{S:List Tm}:∀l,DZ n S l=S∨DZ n S l=push S Al
 | []=>.inl rfl
 | x::l=>by
  unfold DZ
  split
  ·exact Fw l
  ·exact .inr (DY l)
theorem St{n:Nat}{S:List Tm}:∀ {l},(∀x∈l,I1 n x=true)→DZ n S l=S
 | [],_=>rfl
 | x::l,h=>by
  unfold DZ
  rw[if_pos (h x bH)]
  exact St fun y hy=>h y (bI _ hy)
theorem T6{n:Nat}{S:List Tm}{l:List Int}{t:Tm}(h:t∈S):t∈DZ n S l:=by
 rcases Fw (n:=n) (S:=S) l with e | e<;>rw[e]
 ·exact h
 ·exact Ig h
theorem X6{n:Nat}{S:List Tm}{l:List Int}{t:Tm}(h:t∈S):ix (DZ n S l) t=ix S t:=by
 rcases Fw (n:=n) (S:=S) l with e | e<;>rw[e]
 exact Nw h
theorem FK{S:List Tm}{x:Int}(h:I1 S.length x=true):As S x∈S∧(S.Nodup→(ix S (As S x):Int)=x):=by
 unfold I1 at h
 simp only[Bool.and_eq_true,decide_eq_true_eq]at h
 have hlt:x.toNat<S.length:=by omega
 have he:As S x=S[x.toNat]:=by
  unfold As I1
  simp only[h.1,h.2,decide_true,Bool.and_self,if_true]
  rw[cB,bD hlt];rfl
 refine⟨by rw[he];exact List.getElem_mem _,fun hn=>?_⟩
 rw[he,WK hn (bD hlt)]
 omega
theorem OH{S:List Tm}{t:Tm}(h:t∈S):As S (ix S t:Int)=t∧I1 S.length (ix S t:Int)=true:=by
 have hl:=Eu h
 have h1:I1 S.length (ix S t:Int)=true:=by simp[I1];omega
 refine⟨?_,h1⟩
 unfold As
 rw[if_pos h1,cB,Int.toNat_natCast,Cr h];rfl
theorem Ix       {n : Nat} {S : List Tm} : ∀ {l : List Int}, n = S.length → ∀ x ∈ l, As   S x ∈ DZ  n S l
  | [],_,x,h=>by cases h
  | y :: l, hn, x, h => by
    by_cases hi:I1 S.length x=true
    · exact T6 (FK hi).1
    · have ht:As S x=Al:=by unfold As;rw[if_neg hi]
      rw[ht]
      have:∀l,x∈l→Al∈DZ n S l:=by
        intro l
        induction l with
        | nil=>intro h;cases h
        | cons z l ih =>
          intro h
          unfold DZ
          rcases bT.1 h with rfl | h
          · rw[hn,if_neg hi,DY];exact DR
          · split
            · exact ih h
            · rw[DY];exact DR
      exact this _ h
theorem Mf(l m:List Int):Bn (l++m)=Bn l++Bn m:=List.map_append ..
theorem Te(done rest:List Int)(x y:Int):(Bn (done++x::rest)).set done.length (iv y)=Bn (done++y::rest):=by
 simp[Bn,List.set_append]
section
variable{E:Be}(hE:Ah E){s0:AD}{O:List Nat}{p:Nat}{S:List Tm}(hS:S.length<99990){j len:Nat}(hlen:len≤1000)(a1 a2:AV)(hj0:s0.next≤j)(hg0:1<s0.next)
include hE hS hlen hj0 hg0
theorem NC         {Q : Aw   → Prop} {marks : List Nat} : ∀ (rest done : List Int) (S1 : List Tm) (O1 : List Nat) (s1 : AD)  (x5 x6 x10 x11 : AV),
    (S1=S∨S1=push S Al)→AS s1 p S1 O1→CA s1 O1→Bu O s0 s1→AT O O1 s0→s1.heap.get j=some (R 3 1 true (Bn (done++rest)))→j<s1.next→j ∉ O1→(done++rest).length=len →
    (∀ (s2:AD) (O2:List Nat) (y5 y6 y9 y10 y11:AV),AS s2 p (DZ S.length S1 rest) O2→CA s2 O2→Bu O s0 s2→AT O O2 s0 →
      s2.heap.get j=some (R 3 1 true (Bn (done++rest.map fun x=>(ix (DZ S.length S1 rest) (As S x):Int))))→j<s2.next→j ∉ O2 →
      Ag 0 Q ⟨.exit 0,[.ptr (some (p,0)),a1,a2,iv (S.length:Int),.slice (some (j,0)) len none,y5,y6,.slice (some (j,0)) len none,iv (len:Int),y9,y10,y11],marks,s2⟩) →
    WC E none (AZ.loop H0) (Ag 0 Q) [.ptr (some (p,0)),a1,a2,iv (S.length:Int),.slice (some (j,0)) len none,x5,x6,.slice (some (j,0)) len none,iv (len:Int),iv (done.length:Int),x10,x11] marks s1:=by
  intro rest
  induction rest with
  | nil =>
    intro done S1 O1 s1 x5 x6 x10 x11 hS1 hst hg hf hgr hj hjl hjO hl hq
    refine WC.loop' ?_
    have hlt:¬ ((done.length:Int)<(len:Int)):=by rw[← hl];simp
    simp only[H0,K3,hlt,decide_false,Qa,Qb,Qc,Qd,Qe,Qf,Qg,Qh,Qi,Qj,Qk,Ql,Qm,Qn,true_and,and_true,Qo,Qp,Qq,Qr,Qs,Qt,Qu,Qv,Qw,Qx,Qy,Qz,Ra,Rb,Rc,Rd,Re,Rf,Rg,Rh,Ri,Rj,Rk,Rl,Rm,Ya,Yb,Yc,Rn,Ro,Xv,Yd,Ye,Rq,Rs,Rt,Ru,Rw,Rx,Ry,Rq]
    exact hq s1 O1 _ _ _ _ _ hst hg hf hgr hj hjl hjO
  | cons x rest ih =>
    intro done S1 O1 s1 x5 x6 x10 x11 hS1 hst hg hf hgr hj hjl hjO hl hq
    refine WC.loop' ?_
    obtain⟨L,hL⟩:∃L,L=AZ.loop H0:=⟨_,rfl⟩
    rw[← hL]
    have hlt:((done.length:Int)<(len:Int)):=by rw[← hl];simp;omega
    have hltn:done.length<len:=by omega
    have hld:Cv (s1.heap.get j) done.length=some (iv x):=by
      rw[hj,Wi];exact Nv (by simp)
    have hadd:i64 ((done.length:Int)+1):=by unfold i64;omega
    have hlen1:(done++[x]).length=done.length+1:=by simp
    have hS1l:S1.length<99991:=by
      rcases hS1 with rfl | rfl
      · omega
      · have:=CR (S:=S) (u:=Al);omega
    have hsub:∀t∈S,t∈S1∧ix S1 t=ix S t:=fun t ht=>by
      rcases hS1 with rfl | rfl
      · exact⟨ht,rfl⟩
      · exact⟨Ig ht,Nw ht⟩
    by_cases hi:I1 S.length x=true
    · have h1 : decide (x < 0) = false := by unfold I1  at hi; simp only [Bool.and_eq_true, decide_eq_true_eq] at hi; simp; omega
      have h2:decide ((S.length:Int)≤x)=false:=by unfold I1 at hi;simp only[Bool.and_eq_true,decide_eq_true_eq]at hi;simp;omega
      have hth:DZ S.length S1 (x::rest)=DZ S.length S1 rest:=by conv=>lhs;unfold DZ;rw[if_pos hi]
      have hSn:S.Nodup:=by
        rcases hS1 with rfl | rfl
        · exact hst.ok.nd
        · have := hst.ok.nd; unfold push at this; split at this
          · exact this
          · exact(List.nodup_append.1 this).1
      have hx:(ix (DZ S.length S1 rest) (As S x):Int)=x:=by
        rw[X6 (hsub _ (FK hi).1).1,(hsub _ (FK hi).1).2]
        exact(FK hi).2 hSn
      have:=ih (done++[x]) S1 O1 s1 (iv (done.length:Int)) (iv x) (.bool true) (.bool false) hS1 hst hg hf hgr (by rw[hj];simp) hjl hjO (by rw[← hl];simp) (fun s2 O2 y5 y6 y9 y10 y11 g1 g2 g3 g4 g5 g6 g7=>hq s2 O2 y5 y6 y9 y10 y11 (by rw[hth];exact g1) g2 g3 g4 (by rw[g5,hth,bQ,hx];simp) g6 g7)
      rw[← hL,hlen1]at this
      simp only[H0,K3,NU,NV,NW,hlt,decide_true,Qa,Qb,Qc,Qd,Qe,Qf,Qg,Qh,Qi,Qj,Qk,Ql,Qm,Qn,true_and,and_true,Qo,Qp,Qq,Qr,Qs,Qt,Qu,Qv,Qw,Qx,Qy,Qz,Ra,Rb,Rc,Rd,Re,Rf,Rg,Rh,Ri,Rj,Rk,Rl,Rm,Ya,Yb,Yc,Rn,Ro,Xv,Yd,Ye,Rq,Rs,Rt,Ru,Rw,Rx,Ry,Rq,Ru,h1,h2,AY Tryz.underlying27 Ea hltn,C6,hld,bR,BI _ _ _ _ hadd,Rz,Wa,Wb,Wc,Wd,We,Wf,Wg,Wh,Wi,Wj,Wl,Wm,Wn,Wp,Wq,Wr,Ws,Wt,Wu,Wv,Ww,Wx,Wy,Wz,Xa,Xb,Xc,Xd,Xe,Xf,Xg,Xh,Xi,Xj,Xk,Xl,Xm,Xn,Xo,Xp,Xq,Xr,ao,au,ap,am,aw,ay,List.getElem?_cons_zero,List.getElem?_cons_succ,aq,az,bA,bB,ak,Nat.reduceAdd,Nat.reduceLT,Nat.reduceLeDiff,decide_true,decide_false,Bool.true_and,Bool.and_true,bC,aj,Option.some.injEq,Xs,Xt,Xu,Xv]
      exact this
    · have h12:decide (x<0)=true∨decide (x<0)=false∧decide ((S.length:Int)≤x)=true:=by
        unfold I1 at hi;simp only[Bool.and_eq_true,decide_eq_true_eq]at hi
        rcases Int.lt_or_le x 0 with h' | h'
        · exact .inl (decide_eq_true h')
        · exact .inr ⟨by simp;omega,by simp;omega⟩
      have hth:DZ S.length S1 (x::rest)=push S1 Al:=by
        conv=>lhs;unfold DZ
        rw[if_neg hi]
        exact DY rest
      have hth2:DZ S.length (push S1 Al) rest=push S1 Al:=DY rest
      have htm:As S x=Al:=by unfold As;rw[if_neg hi]
      have hS2:push S1 Al=S∨push S1 Al=push S Al:=by
        rcases hS1 with rfl | rfl
        · exact .inr rfl
        · exact .inr Jl
      have hcall:∀ (K:AV→AD→Prop),(∀s' O',AS s' p (push S1 Al) O'→Bu O1 s1 s'→AT O1 O' s1→K (iv (ix (push S1 Al) Al:Int)) s')→WF E 22 [.ptr (some (p,0)),.agg Tm.nullC] K s1:=fun K hK =>
        Ko hE hst (by omega) (n:=0) (by omega) hg hK
      have hafter:∀s' O' (g1:AS s' p (push S1 Al) O') (g2:Bu O1 s1 s') (g3:AT O1 O' s1) (y10:AV),
          WC E none L (Ag 0 Q) [.ptr (some (p,0)),a1,a2,iv (S.length:Int),.slice (some (j,0)) len none,iv (done.length:Int),iv x,.slice (some (j,0)) len none,iv (len:Int),iv ((done.length:Int)+1),y10,.bool true] marks
            (setObj s' j (R 3 1 true (Bn (done++(ix (push S1 Al) Al:Int)::rest)))):=by
        intro s' O' g1 g2 g3 y10
        have hjO':j ∉ O':=fun hm=>(g3 j hm).elim hjO (fun hl=>by omega)
        have hfr:Bu O s0 s':=hf.trans g2 hgr
        have hst2:AS (setObj s' j (R 3 1 true (Bn (done++(ix (push S1 Al) Al:Int)::rest)))) p (push S1 Al) O':=by
          refine g1.frame (aj _) fun k hk=>Wr _ fun e=>hjO' (e▸hk)
        have hg2:CA (setObj s' j (R 3 1 true (Bn (done++(ix (push S1 Al) Al:Int)::rest)))) O':=by
          obtain⟨q1,q2,q3⟩:=hg.step g2 g3
          exact⟨by rw[BP (Wr _ (by omega))];exact q1,q2,q3⟩
        have:=ih (done++[(ix (push S1 Al) Al:Int)]) (push S1 Al) O' _ (iv (done.length:Int)) (iv x) y10 (.bool true) hS2 hst2 hg2 ⟨hfr.1,fun k hk hkO=>by rw[Wr _ (by omega)];exact hfr.2 k hk hkO⟩ (hgr.trans g3 hf.1) (by rw[Wq];simp) (by rw[Wp];exact bG hjl g2.1) hjO' (by rw[← hl];simp) (fun s2 O2 y5 y6 y9 y10 y11 k1 k2 k3 k4 k5 k6 k7=>hq s2 O2 y5 y6 y9 y10 y11 (by rw[hth,← hth2];exact k1) k2 k3 k4 (by rw[k5,hth,hth2,bQ,htm];simp) k6 k7)
        rw[← hL,show(done++[(ix (push S1 Al) Al:Int)]).length=done.length+1 from by simp]at this
        exact this
      have hrest:∀ (y10:AV) s' O',AS s' p (push S1 Al) O'→Bu O1 s1 s'→AT O1 O' s1 →
          Qd [] GY.push [.agg Tm.nullC] [.ptr (some (p,0)),a1,a2,iv (S.length:Int),.slice (some (j,0)) len none,iv (done.length:Int),iv x,.slice (some (j,0)) len none,iv (len:Int),iv (done.length:Int),y10,.bool true]
            (fun x x_1 x_2=>I3 (AK Tryz.prog 27 (Hb x_1 4) (Hb x_1 5)) fun v =>
              I3 (match Ar Tryz.prog x_2 3 v (Hb x 0)with | some s=>some (Az,s) | none=>none) fun p=>Qb E NW (fun v s'=>WC E none L (Ag 0 Q) v marks s') [] x_1 p.snd) (iv (ix (push S1 Al) Al:Int)) s':=by
        intro y10 s' O' g1 g2 g3
        have hgj:s'.heap.get j=some (R 3 1 true (Bn (done++x::rest))):=by rw[g2.2 j hjl hjO];exact hj
        have hble:decide (done.length+1≤(Bn (done++x::rest)).length)=true:=decide_eq_true (by rw[B7,bV,ao];omega)
        have:=hafter s' O' g1 g2 g3 y10
        simp only[Qa,Qb,Qc,Qd,Qe,Qf,Qg,Qh,Qi,Qj,Qk,Ql,Qm,Qn,true_and,and_true,Qo,Qp,Qq,Qr,Qs,Qt,Qu,Qv,Qw,Qx,Qy,Qz,Ra,Rb,Rc,Rd,Re,Rf,Rg,Rh,Ri,Rj,Rk,Rl,Rm,Ya,Yb,Yc,Rn,Ro,Xv,Yd,Ye,Rq,Rs,Rt,Ru,Rw,Rx,Ry,NW,AY Tryz.underlying27 Ea hltn,hgj,Ea,bR,hble,Te,BI _ _ _ _ hadd,Rz,Wa,Wb,Wc,Wd,We,Wf,Wg,Wh,Wi,Wj,Wl,Wm,Wn,Wp,Wq,Wr,Ws,Wt,Wu,Wv,Ww,Wx,Wy,Wz,Xa,Xb,Xc,Xd,Xe,Xf,Xg,Xh,Xi,Xj,Xk,Xl,Xm,Xn,Xo,Xp,Xq,Xr,ao,au,ap,am,aw,ay,List.getElem?_cons_zero,List.getElem?_cons_succ,aq,az,bA,bB,ak,Nat.reduceAdd,Nat.reduceLT,Nat.reduceLeDiff,decide_true,decide_false,Bool.true_and,Bool.and_true,bC,aj,Option.some.injEq,Xs,Xt,Xu,Xv]
        exact this
      rcases h12 with h1 | ⟨h1,h2⟩
      · simp only[H0,K3,NU,NV,QA,hlt,decide_true,Qa,Qb,Qc,Qd,Qe,Qf,Qg,Qh,Qi,Qj,Qk,Ql,Qm,Qn,true_and,and_true,Qo,Qp,Qq,Qr,Qs,Qt,Qu,Qv,Qw,Qx,Qy,Qz,Ra,Rb,Rc,Rd,Re,Rf,Rg,Rh,Ri,Rj,Rk,Rl,Rm,Ya,Yb,Yc,Rn,Ro,Xv,Yd,Ye,Rq,Rs,Rt,Ru,Rw,Rx,Ry,Rq,Ru,h1,EE,AY Tryz.underlying27 Ea hltn,C6,hld,bR,BI _ _ _ _ hadd,Rz,Wa,Wb,Wc,Wd,We,Wf,Wg,Wh,Wi,Wj,Wl,Wm,Wn,Wp,Wq,Wr,Ws,Wt,Wu,Wv,Ww,Wx,Wy,Wz,Xa,Xb,Xc,Xd,Xe,Xf,Xg,Xh,Xi,Xj,Xk,Xl,Xm,Xn,Xo,Xp,Xq,Xr,ao,au,ap,am,aw,ay,List.getElem?_cons_zero,List.getElem?_cons_succ,aq,az,bA,bB,ak,Nat.reduceAdd,Nat.reduceLT,Nat.reduceLeDiff,decide_true,decide_false,Bool.true_and,Bool.and_true,bC,aj,Option.some.injEq,Xs,Xt,Xu,Xv]
        exact hcall _ (hrest _)
      · simp only[H0,K3,NU,NV,QA,hlt,decide_true,Qa,Qb,Qc,Qd,Qe,Qf,Qg,Qh,Qi,Qj,Qk,Ql,Qm,Qn,true_and,and_true,Qo,Qp,Qq,Qr,Qs,Qt,Qu,Qv,Qw,Qx,Qy,Qz,Ra,Rb,Rc,Rd,Re,Rf,Rg,Rh,Ri,Rj,Rk,Rl,Rm,Ya,Yb,Yc,Rn,Ro,Xv,Yd,Ye,Rq,Rs,Rt,Ru,Rw,Rx,Ry,Rq,Ru,h1,h2,EE,AY Tryz.underlying27 Ea hltn,C6,hld,bR,BI _ _ _ _ hadd,Rz,Wa,Wb,Wc,Wd,We,Wf,Wg,Wh,Wi,Wj,Wl,Wm,Wn,Wp,Wq,Wr,Ws,Wt,Wu,Wv,Ww,Wx,Wy,Wz,Xa,Xb,Xc,Xd,Xe,Xf,Xg,Xh,Xi,Xj,Xk,Xl,Xm,Xn,Xo,Xp,Xq,Xr,ao,au,ap,am,aw,ay,List.getElem?_cons_zero,List.getElem?_cons_succ,aq,az,bA,bB,ak,Nat.reduceAdd,Nat.reduceLT,Nat.reduceLeDiff,decide_true,decide_false,Bool.true_and,Bool.and_true,bC,aj,Option.some.injEq,Xs,Xt,Xu,Xv]
        exact hcall _ (hrest _)
end
def WT(s:AD)(O:List Nat)(b:Nat)(v:AV)(l:List Int):Prop:=∃j,v=.slice (some (j,0)) l.length none∧s.heap.get j=some (R 3 1 true (Bn l))∧j<s.next∧j ∉ O∧b≤j
theorem WT.rd{s:AD}{O:List Nat}{b:Nat}{v:AV}{l:List Int}(h:WT s O b v l):An s v l:=by
 obtain⟨j,rfl,h1,h2,_⟩:=h
 exact .inr ⟨j,0,none,rfl,h2,by rw[h1];exact(Wj (by rw[B7,ak];exact aj _)).trans (by rw[aq,bY (by rw[B7];exact aj _)])⟩
section
variable{E:Be}(hE:Ah E){s:AD}{p:Nat}{S:List Tm}{O:List Nat}(h:AS s p S O)(hsm:S.length<99990)(hg:CA s O){K:AV→AD→Prop}
include hE h hsm hg
theorem Iw{v:AV}{l:List Int}(hv:An s v l)(h0:0<l.length)(hl:l.length≤1000)
  (hK:∀w s' O',AS s' p (DZ S.length S l) O'→CA s' O'→Bu O s s'→AT O O' s→WT s' O' s.next w (l.map fun x=>(ix (DZ S.length S l) (As S x):Int))→K w s'):
  WF E 34 [.ptr (some (p,0)),v] K s:=by
 refine hE.go XG (by decide) rfl ?_
 simp only[aO,U9,VA,Qa,Qb,Qc,Qd,Qe,Qf,Qg,Qh,Qi,Qj,Qk,Ql,Qm,Qn,true_and,and_true,Qo,Qp,Qq,Qr,Qs,Qt,Qu,Qv,Qw,Qx,Qy,Qz,Ra,Rb,Rc,Rd,Re,Rf,Rg,Rh,Ri,Rj,Rk,Rl,Rm,Ya,Yb,Yc,Rn,Ro,Xv,Yd,Ye,Rq,Rs,Rt,Ru,Rw,Rx,Ry,Rz,Wa,Wb,Wc,Wd,We,Wf,Wg,Wh,Wi,Wj,Wl,Wm,Wn,Wp,Wq,Wr,Ws,Wt,Wu,Wv,Ww,Wx,Wy,Wz,Xa,Xb,Xc,Xd,Xe,Xf,Xg,Xh,Xi,Xj,Xk,Xl,Xm,Xn,Xo,Xp,Xq,Xr,ao,au,ap,am,aw,ay,List.getElem?_cons_zero,List.getElem?_cons_succ,aq,az,bA,bB,ak,Nat.reduceAdd,Nat.reduceLT,Nat.reduceLeDiff,decide_true,decide_false,Bool.true_and,Bool.and_true,bC,aj,Option.some.injEq,Xs,Xt,Xu,Xv]
 refine Mi hE h (by omega) ?_
 simp only[VB,Qa,Qb,Qc,Qd,Qe,Qf,Qg,Qh,Qi,Qj,Qk,Ql,Qm,Qn,true_and,and_true,Qo,Qp,Qq,Qr,Qs,Qt,Qu,Qv,Qw,Qx,Qy,Qz,Ra,Rb,Rc,Rd,Re,Rf,Rg,Rh,Ri,Rj,Rk,Rl,Rm,Ya,Yb,Yc,Rn,Ro,Xv,Yd,Ye,Rq,Rs,Rt,Ru,Rw,Rx,Ry,Rz,Wa,Wb,Wc,Wd,We,Wf,Wg,Wh,Wi,Wj,Wl,Wm,Wn,Wp,Wq,Wr,Ws,Wt,Wu,Wv,Ww,Wx,Wy,Wz,Xa,Xb,Xc,Xd,Xe,Xf,Xg,Xh,Xi,Xj,Xk,Xl,Xm,Xn,Xo,Xp,Xq,Xr,ao,au,ap,am,aw,ay,List.getElem?_cons_zero,List.getElem?_cons_succ,aq,az,bA,bB,ak,Nat.reduceAdd,Nat.reduceLT,Nat.reduceLeDiff,decide_true,decide_false,Bool.true_and,Bool.and_true,bC,aj,Option.some.injEq,Xs,Xt,Xu,Xv]
 refine Q7 hE hv h0 (by omega) ?_
 generalize hs:s.next=b
 have hgj:(ext s [R 3 1 false [],R 3 1 true (Bn l)]).heap.get (nid b 1)=some (R 3 1 true (Bn ([]++l))):=by rw[Wg hs (by simp)];rfl
 have hnx:(ext s [R 3 1 false [],R 3 1 true (Bn l)]).next=b+2:=by rw[Wm,hs,AF];rfl
 have hlt:=h.lt
 have hg1:=hg.2.1
 simp only[VC,Ad Tryz.underlying27,hs,Qa,Qb,Qc,Qd,Qe,Qf,Qg,Qh,Qi,Qj,Qk,Ql,Qm,Qn,true_and,and_true,Qo,Qp,Qq,Qr,Qs,Qt,Qu,Qv,Qw,Qx,Qy,Qz,Ra,Rb,Rc,Rd,Re,Rf,Rg,Rh,Ri,Rj,Rk,Rl,Rm,Ya,Yb,Yc,Rn,Ro,Xv,Yd,Ye,Rq,Rs,Rt,Ru,Rw,Rx,Ry,Rz,Wa,Wb,Wc,Wd,We,Wf,Wg,Wh,Wi,Wj,Wl,Wm,Wn,Wp,Wq,Wr,Ws,Wt,Wu,Wv,Ww,Wx,Wy,Wz,Xa,Xb,Xc,Xd,Xe,Xf,Xg,Xh,Xi,Xj,Xk,Xl,Xm,Xn,Xo,Xp,Xq,Xr,ao,au,ap,am,aw,ay,List.getElem?_cons_zero,List.getElem?_cons_succ,aq,az,bA,bB,ak,Nat.reduceAdd,Nat.reduceLT,Nat.reduceLeDiff,decide_true,decide_false,Bool.true_and,Bool.and_true,bC,aj,Option.some.injEq,Xs,Xt,Xu,Xv]
 refine NC hE hsm hl (s0:=s) (O:=O) (j:=nid b 1) _ _ (by rw[AF];omega) hg.2.1 l [] S O _ _ _ _ _ (.inl rfl) (h.old AQ) (hg.old AQ) (AQ.frO O) (AT.refl O s) hgj (by rw[hnx,AF];omega) (fun hm=>by have:=hlt _ hm;rw[AF]at this;omega) rfl ?_
 intro s2 O2 y5 y6 y9 y10 y11 g1 g2 g3 g4 g5 g6 g7
 simp only[Qa,Qb,Qc,Qd,Qe,Qf,Qg,Qh,Qi,Qj,Qk,Ql,Qm,Qn,true_and,and_true,Qo,Qp,Qq,Qr,Qs,Qt,Qu,Qv,Qw,Qx,Qy,Qz,Ra,Rb,Rc,Rd,Re,Rf,Rg,Rh,Ri,Rj,Rk,Rl,Rm,Ya,Yb,Yc,Rn,Ro,Xv,Yd,Ye,Rq,Rs,Rt,Ru,Rw,Rx,Ry]
 rw[if_pos trivial]
 simp only[P9,Qa,Qb,Qc,Qd,Qe,Qf,Qg,Qh,Qi,Qj,Qk,Ql,Qm,Qn,true_and,and_true,Qo,Qp,Qq,Qr,Qs,Qt,Qu,Qv,Qw,Qx,Qy,Qz,Ra,Rb,Rc,Rd,Re,Rf,Rg,Rh,Ri,Rj,Rk,Rl,Rm,Ya,Yb,Yc,Rn,Ro,Xv,Yd,Ye,Rq,Rs,Rt,Ru,Rw,Rx,Ry]
 refine hK _ _ _ g1 g2 g3 g4 ⟨nid b 1,by rw[bX],by rw[g5];rfl,g6,g7,by rw[AF];omega⟩
theorem YJ{d k:Int}(hK:∀s' O',AS s' p (push (DZ S.length S [d,k]) (.sel (As S d) (As S k))) O'→CA s' O'→Bu O s s'→AT O O' s→K (iv (ix (push (DZ S.length S [d,k]) (.sel (As S d) (As S k))) (.sel (As S d) (As S k)):Int)) s'):
  WF E 24 [.ptr (some (p,0)),iv d,iv k] K s:=by
 have hm:∀x∈([d,k]:List Int),As S x∈DZ S.length S [d,k]:=Ix rfl
 have hlt:(DZ S.length S [d,k]).length<100000:=by
  rcases Fw (n:=S.length) (S:=S) [d,k]with e | e<;>rw[e]
  ·omega
  ·have:=CR (S:=S) (u:=Al);omega
 refine hE.go XA (by decide) rfl ?_
 generalize hs:s.next=b
 have hs0:s=ext s []:=(Aa s).symm
 have hrd:An (ext s [R 3 1 false (Bn [d,k])]) (.slice (some (nid b 0,0)) 2 (some 2)) [d,k]:=.inr ⟨nid b 0,0,some 2,rfl,by rw[Wm,hs,AF,AF];simp,by rw[Wg hs (by simp)];exact Wj (aj _)⟩
 have hth:=fun(K:AV→AD→Prop)=>Iw (K:=K) hE (h.old (AQ (os:=[R 3 1 false (Bn [d,k])]))) hsm (hg.old AQ) hrd (by simp) (by simp)
 rw[hs0]
 simp only[aI,Ul,Um,Un,Dk,J6,EE,G1,hs,Qa,Qb,Qc,Qd,Qe,Qf,Qg,Qh,Qi,Qj,Qk,Ql,Qm,Qn,true_and,and_true,Qo,Qp,Qq,Qr,Qs,Qt,Qu,Qv,Qw,Qx,Qy,Qz,Ra,Rb,Rc,Rd,Re,Rf,Rg,Rh,Ri,Rj,Rk,Rl,Rm,Ya,Yb,Yc,Rn,Ro,Xv,Yd,Ye,Rq,Rs,Rt,Ru,Rw,Rx,Ry,Rz,Wa,Wb,Wc,Wd,We,Wf,Wg,Wh,Wi,Wj,Wl,Wm,Wn,Wp,Wq,Wr,Ws,Wt,Wu,Wv,Ww,Wx,Wy,Wz,Xa,Xb,Xc,Xd,Xe,Xf,Xg,Xh,Xi,Xj,Xk,Xl,Xm,Xn,Xo,Xp,Xq,Xr,ao,au,ap,am,aw,ay,List.getElem?_cons_zero,List.getElem?_cons_succ,aq,az,bA,bB,ak,Nat.reduceAdd,Nat.reduceLT,Nat.reduceLeDiff,decide_true,decide_false,Bool.true_and,Bool.and_true,bC,aj,Option.some.injEq,Xs,Xt,Xu,Xv]
 refine hth _ fun w s' O' g1 g2 g3 g4 g5=>?_
 have hf:Bu O s s':=(AQ.frO O).trans g3 (AT.refl O s)
 have hgr:AT O O' s:=AT.trans (AT.refl O s) g4 (by rw[Wm,AF];omega)
 have hpa:BY s' (DZ S.length S [d,k]) [As S d,As S k] w:=An.parts (l:=[As S d,As S k]) g5.rd (by simp)
 simp only[Qa,Qb,Qc,Qd,Qe,Qf,Qg,Qh,Qi,Qj,Qk,Ql,Qm,Qn,true_and,and_true,Qo,Qp,Qq,Qr,Qs,Qt,Qu,Qv,Qw,Qx,Qy,Qz,Ra,Rb,Rc,Rd,Re,Rf,Rg,Rh,Ri,Rj,Rk,Rl,Rm,Ya,Yb,Yc,Rn,Ro,Xv,Yd,Ye,Rq,Rs,Rt,Ru,Rw,Rx,Ry]
 refine D5 hE g1 hlt (BK.refl _ _) (.sel (As S d) (As S k)) (fun k hk=>?_) trivial hpa fun s2 O2 k1 k2 k3=>?_
 ·simp only[Tm.kids,bT,bm,or_false]at hk
  rcases hk with rfl | rfl<;>exact hm _ (by simp)
 ·simp only[Qa,Qb,Qc,Qd,Qe,Qf,Qg,Qh,Qi,Qj,Qk,Ql,Qm,Qn,true_and,and_true,Qo,Qp,Qq,Qr,Qs,Qt,Qu,Qv,Qw,Qx,Qy,Qz,Ra,Rb,Rc,Rd,Re,Rf,Rg,Rh,Ri,Rj,Rk,Rl,Rm,Ya,Yb,Yc,Rn,Ro,Xv,Yd,Ye,Rq,Rs,Rt,Ru,Rw,Rx,Ry]
  exact hK _ _ k1 (g2.step k2 k3) (hf.trans k2 hgr) (hgr.trans k3 hf.1)
theorem YP{d k a:Int}(hK:∀s' O',AS s' p (push (DZ S.length S [d,k,a]) (.upd (As S d) (As S k) (As S a))) O'→CA s' O'→Bu O s s'→AT O O' s→K (iv (ix (push (DZ S.length S [d,k,a]) (.upd (As S d) (As S k) (As S a))) (.upd (As S d) (As S k) (As S a)):Int)) s'):
  WF E 25 [.ptr (some (p,0)),iv d,iv k,iv a] K s:=by
 have hm:∀x∈([d,k,a]:List Int),As S x∈DZ S.length S [d,k,a]:=Ix rfl
 have hlt:(DZ S.length S [d,k,a]).length<100000:=by
  rcases Fw (n:=S.length) (S:=S) [d,k,a]with e | e<;>rw[e]
  ·omega
  ·have:=CR (S:=S) (u:=Al);omega
 refine hE.go XB (by decide) rfl ?_
 generalize hs:s.next=b
 have hs0:s=ext s []:=(Aa s).symm
 have hrd:An (ext s [R 3 1 false (Bn [d,k,a])]) (.slice (some (nid b 0,0)) 3 (some 3)) [d,k,a]:=.inr ⟨nid b 0,0,some 3,rfl,by rw[Wm,hs,AF,AF];simp,by rw[Wg hs (by simp)];exact Wj (aj _)⟩
 have hth:=fun(K:AV→AD→Prop)=>Iw (K:=K) hE (h.old (AQ (os:=[R 3 1 false (Bn [d,k,a])]))) hsm (hg.old AQ) hrd (by simp) (by simp)
 rw[hs0]
 simp only[aJ,Uo,Up,Uq,Dk,J6,EE,Jp,hs,Qa,Qb,Qc,Qd,Qe,Qf,Qg,Qh,Qi,Qj,Qk,Ql,Qm,Qn,true_and,and_true,Qo,Qp,Qq,Qr,Qs,Qt,Qu,Qv,Qw,Qx,Qy,Qz,Ra,Rb,Rc,Rd,Re,Rf,Rg,Rh,Ri,Rj,Rk,Rl,Rm,Ya,Yb,Yc,Rn,Ro,Xv,Yd,Ye,Rq,Rs,Rt,Ru,Rw,Rx,Ry,Rz,Wa,Wb,Wc,Wd,We,Wf,Wg,Wh,Wi,Wj,Wl,Wm,Wn,Wp,Wq,Wr,Ws,Wt,Wu,Wv,Ww,Wx,Wy,Wz,Xa,Xb,Xc,Xd,Xe,Xf,Xg,Xh,Xi,Xj,Xk,Xl,Xm,Xn,Xo,Xp,Xq,Xr,ao,au,ap,am,aw,ay,List.getElem?_cons_zero,List.getElem?_cons_succ,aq,az,bA,bB,ak,Nat.reduceAdd,Nat.reduceLT,Nat.reduceLeDiff,decide_true,decide_false,Bool.true_and,Bool.and_true,bC,aj,Option.some.injEq,Xs,Xt,Xu,Xv]
 refine hth _ fun w s' O' g1 g2 g3 g4 g5=>?_
 have hf:Bu O s s':=(AQ.frO O).trans g3 (AT.refl O s)
 have hgr:AT O O' s:=AT.trans (AT.refl O s) g4 (by rw[Wm,AF];omega)
 have hpa:BY s' (DZ S.length S [d,k,a]) [As S d,As S k,As S a] w:=An.parts (l:=[As S d,As S k,As S a]) g5.rd (by simp)
 simp only[Qa,Qb,Qc,Qd,Qe,Qf,Qg,Qh,Qi,Qj,Qk,Ql,Qm,Qn,true_and,and_true,Qo,Qp,Qq,Qr,Qs,Qt,Qu,Qv,Qw,Qx,Qy,Qz,Ra,Rb,Rc,Rd,Re,Rf,Rg,Rh,Ri,Rj,Rk,Rl,Rm,Ya,Yb,Yc,Rn,Ro,Xv,Yd,Ye,Rq,Rs,Rt,Ru,Rw,Rx,Ry]
 refine D5 hE g1 hlt (BK.refl _ _) (.upd (As S d) (As S k) (As S a)) (fun k hk=>?_) trivial hpa fun s2 O2 k1 k2 k3=>?_
 ·simp only[Tm.kids,bT,bm,or_false]at hk
  rcases hk with rfl | rfl | rfl<;>exact hm _ (by simp)
 ·simp only[Qa,Qb,Qc,Qd,Qe,Qf,Qg,Qh,Qi,Qj,Qk,Ql,Qm,Qn,true_and,and_true,Qo,Qp,Qq,Qr,Qs,Qt,Qu,Qv,Qw,Qx,Qy,Qz,Ra,Rb,Rc,Rd,Re,Rf,Rg,Rh,Ri,Rj,Rk,Rl,Rm,Ya,Yb,Yc,Rn,Ro,Xv,Yd,Ye,Rq,Rs,Rt,Ru,Rw,Rx,Ry]
  exact hK _ _ k1 (g2.step k2 k3) (hf.trans k2 hgr) (hgr.trans k3 hf.1)
end
def BM(f:Tm→Option Tm)(t:Tm):Tm:=match f t with
 | some u=>u
 | none=>match t with
  | .sel d k=>.sel (BM f d) (BM f k)
  | .upd d k a=>.upd (BM f d) (BM f k) (BM f a)
  | t=>t
theorem H9{f:Tm→Option Tm}{t u:Tm}(h:f t=some u):BM f t=u:=by
 unfold BM;rw[h]
theorem GC{f:Tm→Option Tm}{t:Tm}(h:f t=none)(k:t.kids=[]):BM f t=t:=by
 unfold BM;rw[h]
 cases t<;>first | rfl | (simp[Tm.kids]at k;done)
theorem K9{f:Tm→Option Tm}{t:Tm}(h:f t=none):(BM f t).kids=t.kids.map (BM f)∧(t.kids≠[]→(BM f t).kind=t.kind∧(BM f t).id=0∧(BM f t).ktext=[]∧(BM f t).cells=Tm.nullC∧(BM f t).ok):=by
 unfold BM;rw[h]
 cases t<;>simp[Tm.kids,Tm.kind,Tm.id,Tm.ktext,Tm.cells,Tm.ok]
def Ek(f:Tm→Option Tm)(S D:List Tm):List (AV×AV):=D.map fun u=>(iv (ix S u:Int),iv (ix S (BM f u):Int))
theorem JS{f:Tm→Option Tm}{S S' D:List Tm}(hs:∃x,S'=S++x)(h:∀u∈D,u∈S∧BM f u∈S):Ek f S' D=Ek f S D:=by
 obtain⟨x,rfl⟩:=hs
 refine List.map_congr_left fun u hu=>?_
 rw[C8 x (h u hu).1,C8 x (h u hu).2]
theorem R7(a b:Int):Cl (iv a) (iv b)=some (decide (a=b)):=by simp[Cl,Ba,AH,Cp];rfl
theorem Fi{f:Tm→Option Tm}{S:List Tm}{t:Tm}(ht:t∈S):∀ (D:List Tm)(i:Nat),(∀u∈D,u∈S) →
  ∃r,CN (iv (ix S t:Int)) (Ek f S D) i=some r∧(t∈D→∃j,r=some (j,iv (ix S (BM f t):Int)))∧(t ∉ D→r=none)
 | [],i,_=>⟨none,rfl,fun h=>absurd h (by simp),fun _=>rfl⟩
 | u::D,i,h=>by
  show ∃r,((Cl (iv (ix S t:Int)) (iv (ix S u:Int))).bind _)=some r∧_
  rw[R7,Option.bind_some]
  by_cases e:t=u
  ·subst e
   refine⟨some (i,iv (ix S (BM f t):Int)),by simp,fun _=>⟨i,rfl⟩,fun hn=>absurd bH hn⟩
  ·have hne:¬ ((ix S t:Int)=(ix S u:Int)):=fun h'=>e (Gn ht (h u bH) (by omega))
   obtain⟨r,h1,h2,h3⟩:=Fi (f:=f) ht D (i+1) fun x hx=>h x (bI _ hx)
   refine⟨r,by simp only[hne,decide_false];exact h1,fun hm=>?_,fun hm=>h3 fun h'=>hm (bI _ h')⟩
   rcases bT.1 hm with rfl | hm
   ·exact absurd rfl e
   ·exact h2 hm
theorem Oq{f:Tm→Option Tm}{S D:List Tm}{t:Tm}{s:AD}{dm:Nat}(hg:s.heap.get dm=some (.map 3 (Ek f S D)))(ht:t∈S)(hD:∀u∈D,u∈S)(hS:S.length<100000):
  Bx Tryz.prog s 68 (.map (some dm)) (iv (ix S t:Int)) true=some (.tuple [if t∈D then iv (ix S (BM f t):Int)else iv 0,.bool (decide (t∈D))]):=by
 obtain⟨r,h1,h2,h3⟩:=Fi (f:=f) ht D 0 hD
 have hi:i64 (ix S t:Int):=by have:=Eu ht;unfold i64;omega
 unfold Bx
 simp only[Tryz.underlying68,M5,BR hi,Xa,EP,hg,DQ,Option.bind_some,h1]
 by_cases hm:t∈D
 ·obtain⟨j,rfl⟩:=h2 hm
  simp[hm]
 ·rw[h3 hm]
  simp[hm,ai]
theorem Sw{f:Tm→Option Tm}{S D:List Tm}{t:Tm}{s:AD}{dm:Nat}(hg:s.heap.get dm=some (.map 3 (Ek f S D)))(ht:t∈S)(hD:∀u∈D,u∈S)(hS:S.length<100000)(hn:t ∉ D):
  Bz Tryz.prog s 68 (.map (some dm)) (iv (ix S t:Int)) (iv (ix S (BM f t):Int))=some (setObj s dm (.map 3 (Ek f S (D++[t])))):=by
 obtain⟨r,h1,_,h3⟩:=Fi (f:=f) ht D 0 hD
 have hi:i64 (ix S t:Int):=by have:=Eu ht;unfold i64;omega
 rw[h3 hn]at h1
 unfold Bz
 simp only[Tryz.underlying68,M5,BR hi,Xa,EP,hg,DQ,Option.bind_some,JA,h1]
 simp[Ek]
def ON(s:AD)(O:List Nat)(dm:Nat)(H:List (Nat×Ac)):Prop:=∀x∈H,s.heap.get x.1=some x.2∧x.1<s.next∧x.1 ∉ O∧x.1≠dm
theorem ON.step{s s':AD}{O O':List Nat}{dm:Nat}{H:List (Nat×Ac)}(h:ON s O dm H)(f:Bu (dm::O) s s')(g:AT O O' s):ON s' O' dm H:=fun x hx=>by
 obtain⟨h1,h2,h3,h4⟩:=h x hx
 refine⟨by rw[f.2 _ h2 (fun hm=>(bT.1 hm).elim h4 h3)];exact h1,bG h2 f.1,fun hm=>(g _ hm).elim h3 (fun hl=>by omega),h4⟩
structure Wk(p dm:Nat)(f:Tm→Option Tm)(L S0:List Tm)(H:List (Nat×Ac))(s:AD)(S:List Tm)(O:List Nat)(D:List Tm):Prop where
 st:AS s p S O
 gl:CA s O
 hd:ON s O dm H
 mp:s.heap.get dm=some (.map 3 (Ek f S D))
 dl:dm<s.next
 dO:dm ∉ O
 pre:∃x,S=S0++x
 len:S.length≤S0.length+D.length
 dn:D.Nodup
 dL:∀u∈D,u∈L∧u∈S0∧BM f u∈S
theorem By{S0 S:List Tm}(h:∃x,S=S0++x){t:Tm}(ht:t∈S0):t∈S∧ix S t=ix S0 t:=by
 obtain⟨x,rfl⟩:=h
 exact⟨bq _ ht,C8 x ht⟩
theorem D4{S:List Tm}{u:Tm}:∃x,push S u=S++x:=by
 unfold push;split
 ·exact⟨[],by simp⟩
 ·exact⟨[u],rfl⟩
theorem Ce{A B C:List Tm}(h:∃x,B=A++x)(k:∃x,C=B++x):∃x,C=A++x:=by
 obtain⟨x,rfl⟩:=h
 obtain⟨y,rfl⟩:=k
 exact⟨x++y,by simp⟩
theorem Yk:C0 Tryz.prog 31=some false:=by kernel_rfl
theorem Z5:Ap Tryz.prog 31=some 1:=by kernel_rfl
theorem Yi:C0 Tryz.prog 103=some false:=by kernel_rfl
def GV(ds sb bb wb:Nat):AV:=.func 56 [] [.ptr (some (ds,0)),.ptr (some (sb,0)),.ptr (some (bb,0)),.ptr (some (wb,0))]
def Dy(p dm ds sb bb wb:Nat)(cb:AV):List (Nat×Ac):=
 [(ds,R 68 0 false [.map (some dm)]),(sb,R 25 0 false [.ptr (some (p,0))]),(bb,R 103 0 false [cb]),(wb,R 31 0 false [GV ds sb bb wb])]
def Pj(E:Be)(p dm:Nat)(f:Tm→Option Tm)(L S0:List Tm)(ds sb bb wb:Nat)(Hm:List (Nat×Ac))(t:Tm):Prop:=
  ∀ (H : List (Nat × Ac))   (s : AD)  (S : List Tm) (O : List Nat) (D : List Tm) (K : AV → AD  → Prop), (∀ x ∈ Hm, x ∈ H) → Wk p dm f L S0 H s S O D →
    (∀s' S' O' D',Wk p dm f L S0 H s' S' O' D'→Bu (dm::O) s s'→AT O O' s→(∃x,S'=S++x)→BM f t∈S'→(∀u∈D',u∈D∨ix S0 u≤ix S0 t)→(f t=none→t.kids=[]→S'=S)→K (iv (ix S' (BM f t):Int)) s') →
    WF E 56 [iv (ix S0 t:Int),.ptr (some (ds,0)),.ptr (some (sb,0)),.ptr (some (bb,0)),.ptr (some (wb,0))] K s
theorem Wk.keep{p dm:Nat}{f:Tm→Option Tm}{L S0:List Tm}{H:List (Nat×Ac)}{s s':AD}{S:List Tm}{O:List Nat}{D:List Tm}(h:Wk p dm f L S0 H s S O D)(hn:s.next≤s'.next){B:List Nat}
  (hB:∀j∈B,j ∉ O∧j≠dm∧j≠1∧∀x∈H,x.1≠j) (k:∀j,j<s.next→j ∉ B→s'.heap.get j=s.heap.get j):Wk p dm f L S0 H s' S O D where
 st:=h.st.frame hn fun j hj=>k j (h.st.lt j hj) fun hb=>(hB j hb).1 hj
 gl:=⟨by rw[BP (k 1 h.gl.2.1 fun hb=>(hB 1 hb).2.2.1 rfl)];exact h.gl.1,bG h.gl.2.1 hn,h.gl.2.2⟩
 hd:=fun x hx=>by
  obtain⟨h1,h2,h3,h4⟩:=h.hd x hx
  exact⟨by rw[k _ h2 fun hb=>(hB _ hb).2.2.2 x hx rfl];exact h1,bG h2 hn,h3,h4⟩
 mp:=by rw[k _ h.dl fun hb=>(hB _ hb).2.1 rfl];exact h.mp
 dl:=bG h.dl hn
 dO:=h.dO
 pre:=h.pre
 len:=h.len
 dn:=h.dn
 dL:=h.dL
theorem Wk.old{p dm:Nat}{f:Tm→Option Tm}{L S0:List Tm}{H:List (Nat×Ac)}{s s':AD}{S:List Tm}{O:List Nat}{D:List Tm}(h:Wk p dm f L S0 H s S O D)(k:BK s.next s s'):Wk p dm f L S0 H s' S O D:=
 h.keep (D:=D) k.1 (B:=[]) (fun _ h=>by cases h) fun j hj _=>k.2 j hj
theorem Wk.more{p dm:Nat}{f:Tm→Option Tm}{L S0:List Tm}{H:List (Nat×Ac)}{s:AD}{S:List Tm}{O:List Nat}{D:List Tm}(h:Wk p dm f L S0 H s S O D){j:Nat}{o:Ac}(hj:s.heap.get j=some o)(hl:j<s.next)(hO:j ∉ O)(hd:j≠dm):Wk p dm f L S0 ((j,o)::H) s S O D:=
 have hh:ON s O dm ((j,o)::H):=by
  intro x hx
  have hx:=bT.1 hx
  rcases hx with rfl | hx
  ·exact⟨hj,hl,hO,hd⟩
  ·exact h.hd x hx
 { h with hd:=hh }
theorem Ot        {E : Be}  {p dm : Nat} {f : Tm → Option Tm} {L S0 : List Tm} {ds sb bb wb : Nat} {Hm H : List (Nat × Ac)}   {cb : AV}
    (hbx:∀x∈Dy p dm ds sb bb wb cb,x∈Hm) (hHm:∀x∈Hm,x∈H) (hL:S0.length+L.length<90000)
    {us:List Tm} (h3:us.length≤3) (hall:∀t∈us,Pj E p dm f L S0 ds sb bb wb Hm t) {eb:Nat} {ec:List AV} (heb:(eb,R 70 0 false ec)∈H)
    (hec:∀k u,us[k]? = some u→ec[2+k]? = some (iv (ix S0 u:Int))) {sB:AD} {OA:List Nat} {SA DA:List Tm} (a0 a5 a6 a7 a9 a10 a11 a14 a15 a16:AV) {Q:Aw→Prop} {marks:List Nat}:
    ∀ (l2 l1:List Tm) (s:AD) (S:List Tm) (O:List Nat) (D:List Tm) (v:AV) (OB:List Nat) (x13 x20:AV),us=l1++l2→Wk p dm f L S0 H s S O D →
    E8 3 1 s v l1.length (Bn (l1.map fun u=>(ix S (BM f u):Int))) OB→(∀j∈OB,j ∉ O∧j≠dm∧j≠1∧∀x∈H,x.1≠j)→(∀j∈OB,sB.next≤j) →
    Bu (dm::OA) sB s→AT OA O sB→(∃x,S=SA++x)→(∀u∈l1,BM f u∈S)→(∀u∈D,u∈DA∨∃k∈us,ix S0 u≤ix S0 k) →
    (∀s' S' O' D' v' OB' y13 y19 y20,Wk p dm f L S0 H s' S' O' D'→E8 3 1 s' v' us.length (Bn (us.map fun u=>(ix S' (BM f u):Int))) OB'→Bu (dm::OA) sB s'→AT OA O' sB→(∃x,S'=SA++x)→(∀u∈us,BM f u∈S')→(∀u∈D',u∈DA∨∃k∈us,ix S0 u≤ix S0 k) →
      Ag 0 Q ⟨.exit 0,[a0,.ptr (some (ds,0)),.ptr (some (sb,0)),.ptr (some (bb,0)),.ptr (some (wb,0)),a5,a6,a7,.ptr (some (eb,0)),a9,a10,a11,v',y13,a14,a15,a16,.slice (some (eb,2)) us.length (some 3),iv (us.length:Int),y19,y20],marks,s'⟩) →
    WC E none (AZ.loop H3) (Ag 0 Q) [a0,.ptr (some (ds,0)),.ptr (some (sb,0)),.ptr (some (bb,0)),.ptr (some (wb,0)),a5,a6,a7,.ptr (some (eb,0)),a9,a10,a11,v,x13,a14,a15,a16,.slice (some (eb,2)) us.length (some 3),iv (us.length:Int),iv (l1.length:Int),x20] marks s:=by
  intro l2
  induction l2 with
  | nil =>
    intro l1 s S O D v OB x13 x20 hus hw hbuf hB hBn hf hgr hpre hm hD hq
    refine WC.loop' ?_
    have hul:us=l1:=by rw[hus];simp
    subst hul
    have hlt:¬ ((us.length:Int)<(us.length:Int)):=by omega
    simp only[H3,MO,hlt,decide_false,Qa,Qb,Qc,Qd,Qe,Qf,Qg,Qh,Qi,Qj,Qk,Ql,Qm,Qn,true_and,and_true,Qo,Qp,Qq,Qr,Qs,Qt,Qu,Qv,Qw,Qx,Qy,Qz,Ra,Rb,Rc,Rd,Re,Rf,Rg,Rh,Ri,Rj,Rk,Rl,Rm,Ya,Yb,Yc,Rn,Ro,Xv,Yd,Ye,Rq,Rs,Rt,Ru,Rw,Rx,Ry,Rq]
    exact hq s S O D v OB _ _ _ hw hbuf hf hgr hpre hm hD
  | cons t l2 ih =>
    intro l1 s S O D v OB x13 x20 hus hw hbuf hB hBn hf hgr hpre hm hD hq
    refine WC.loop' ?_
    obtain⟨W,hW⟩:∃W,W=AZ.loop H3:=⟨_,rfl⟩
    rw[← hW]
    have hlt:((l1.length:Int)<(us.length:Int)):=by rw[hus];simp;omega
    have hltn:l1.length<us.length:=by omega
    have hadd:i64 ((l1.length:Int)+1):=by unfold i64;omega
    have htus:us[l1.length]? = some t:=by rw[hus];simp
    have hebg:=(hw.hd _ heb).1
    have hwbg:s.heap.get wb=some (R 31 0 false [GV ds sb bb wb]):=(hw.hd _ (hHm _ (hbx (wb,R 31 0 false [GV ds sb bb wb]) (by simp[Dy])))).1
    have hld:Cv (s.heap.get eb) (2+l1.length)=some (iv (ix S0 t:Int)):=by
      rw[show s.heap.get eb=some (R 70 0 false ec)from hebg,Wi];exact hec _ _ htus
    simp only[H3,MO,QH,QI,hlt,decide_true,Qa,Qb,Qc,Qd,Qe,Qf,Qg,Qh,Qi,Qj,Qk,Ql,Qm,Qn,true_and,and_true,Qo,Qp,Qq,Qr,Qs,Qt,Qu,Qv,Qw,Qx,Qy,Qz,Ra,Rb,Rc,Rd,Re,Rf,Rg,Rh,Ri,Rj,Rk,Rl,Rm,Ya,Yb,Yc,Rn,Ro,Xv,Yd,Ye,Rq,Rs,Rt,Ru,Rw,Rx,Ry,Rq,AY Tryz.underlying27 Ea hltn,C6,Yk,hld,hwbg,GV,bR,Rz,Wa,Wb,Wc,Wd,We,Wf,Wg,Wh,Wi,Wj,Wl,Wm,Wn,Wp,Wq,Wr,Ws,Wt,Wu,Wv,Ww,Wx,Wy,Wz,Xa,Xb,Xc,Xd,Xe,Xf,Xg,Xh,Xi,Xj,Xk,Xl,Xm,Xn,Xo,Xp,Xq,Xr,ao,au,ap,am,aw,ay,List.getElem?_cons_zero,List.getElem?_cons_succ,aq,az,bA,bB,ak,Nat.reduceAdd,Nat.reduceLT,Nat.reduceLeDiff,decide_true,decide_false,Bool.true_and,Bool.and_true,bC,aj,Option.some.injEq,Xs,Xt,Xu,Xv]
    refine hall t (bO htus) H s S O D _ hHm hw fun s' S' O' D' g1 g2 g3 g4 g5 g6 _=>?_
    have hbuf':=hbuf.frame (s':=s') g2.1 fun j hj=>g2.2 j (hbuf.lt j hj) fun hm=>(bT.1 hm).elim (hB j hj).2.1 (hB j hj).1
    have hBlt:=hbuf.lt
    have hivs:(l1.map fun u=>(ix S (BM f u):Int))=l1.map fun u=>(ix S' (BM f u):Int):=List.map_congr_left fun u hu=>by rw[(By g4 (hm u hu)).2]
    rw[hivs]at hbuf'
    generalize hb':s'.next=b'
    have hs0:s'=ext s' []:=(Aa s').symm
    have hrd:An (ext s' [R 3 1 false (Bn [(ix S' (BM f t):Int)])]) (.slice (some (nid b' 0,0)) 1 (some 1)) [(ix S' (BM f t):Int)]:=.inr ⟨nid b' 0,0,some 1,rfl,by rw[Wm,hb',AF,AF];simp,by rw[Wg hb' (by simp)];exact Wj (aj _)⟩
    have hbuf2:=hbuf'.frame (s':=ext s' [R 3 1 false (Bn [(ix S' (BM f t):Int)])]) (by rw[Wm,AF];omega) fun j hj=>Wh (hbuf'.lt j hj)
    obtain⟨v2,s2,OB2,happ,hb2,hn2,hf2,hO2,hsl⟩:=hbuf2.append (xt:=27) (m:=1) Tryz.underlying27 Ea Zw (by omega) Ks NG (by omega) (Is hrd) rfl (KT _) (by omega) (by omega)
    have hnx:(ext s' [R 3 1 false (Bn [(ix S' (BM f t):Int)])]).next=b'+1:=by rw[Wm,hb',AF];rfl
    rw[hnx]at hn2 hf2 hO2
    have hw2:Wk p dm f L S0 H s2 S' O' D':=by
      refine(g1.old AQ).keep (D:=D') (by rw[hnx,hn2];omega) (B:=OB) (fun j hj=>?_) fun j hj hjB=>hf2 j (by rw[hnx]at hj;exact hj) hjB
      obtain⟨q1,q2,q3,q4⟩:=hB j hj
      exact⟨fun hm=>(g3 j hm).elim q1 fun hl=>by have:=hBlt j hj;omega,q2,q3,q4⟩
    have hBn2:∀j∈OB2,j∈OB∨b'+1≤j:=hO2
    have hsn:s.next≤b':=by rw[← hb'];exact g2.1
    have hsB:sB.next≤s.next:=hf.1
    have hcell:Bn (l1.map fun u=>(ix S' (BM f u):Int))++Bn [(ix S' (BM f t):Int)]=Bn ((l1++[t]).map fun u=>(ix S' (BM f u):Int)):=by simp[Bn]
    rw[hcell]at hb2
    have hne:newObj s' (R 3 1 false (Bn [(ix S' (BM f t):Int)]))=ext s' [R 3 1 false (Bn [(ix S' (BM f t):Int)])]:=by
      have:=Wl s' [] (R 3 1 false (Bn [(ix S' (BM f t):Int)]))
      rw[Aa]at this;exact this
    rw[← hne,Ew]at happ
    have:=ih (l1++[t]) s2 S' O' D' v2 OB2 (iv (ix S0 t:Int)) (.bool true) (by rw[hus];simp) hw2 (by rw[bV];exact hb2) ?_ ?_ ?_ ?_ ?_ ?_ ?_ hq
    · simp only[Qa,Qb,Qc,Qd,Qe,Qf,Qg,Qh,Qi,Qj,Qk,Ql,Qm,Qn,true_and,and_true,Qo,Qp,Qq,Qr,Qs,Qt,Qu,Qv,Qw,Qx,Qy,Qz,Ra,Rb,Rc,Rd,Re,Rf,Rg,Rh,Ri,Rj,Rk,Rl,Rm,Ya,Yb,Yc,Rn,Ro,Xv,Yd,Ye,Rq,Rs,Rt,Ru,Rw,Rx,Ry,QJ,G0,hb',happ,BI _ _ _ _ hadd,Rz,Wa,Wb,Wc,Wd,We,Wf,Wg,Wh,Wi,Wj,Wl,Wm,Wn,Wp,Wq,Wr,Ws,Wt,Wu,Wv,Ww,Wx,Wy,Wz,Xa,Xb,Xc,Xd,Xe,Xf,Xg,Xh,Xi,Xj,Xk,Xl,Xm,Xn,Xo,Xp,Xq,Xr,ao,au,ap,am,aw,ay,List.getElem?_cons_zero,List.getElem?_cons_succ,aq,az,bA,bB,ak,Nat.reduceAdd,Nat.reduceLT,Nat.reduceLeDiff,decide_true,decide_false,Bool.true_and,Bool.and_true,bC,aj,Option.some.injEq,Xs,Xt,Xu,Xv]
      rw[hW]
      rw[show(l1++[t]).length=l1.length+1 from by simp]at this
      exact this
    · intro j hj
      rcases hBn2 j hj with h | h
      · obtain⟨q1,q2,q3,q4⟩:=hB j h
        exact⟨fun hm=>(g3 j hm).elim q1 fun hl=>by have:=hBlt j h;omega,q2,q3,q4⟩
      · have h1 := g1.gl.2.1
        have h2:=g1.dl
        exact⟨fun hm=>by have:=g1.st.lt j hm;omega,by omega,by omega,fun x hx=>by have:=(g1.hd x hx).2.1;omega⟩
    · intro j hj
      rcases hBn2 j hj with h | h
      · exact hBn j h
      · omega
    · refine⟨by rw[hn2];omega,fun j hj hjm=>?_⟩
      have hjB:j ∉ OB:=fun h=>by have:=hBn j h;omega
      rw[hf2 j (by omega) hjB,Wh (by omega),g2.2 j (by omega) fun hm=>?_,hf.2 j hj hjm]
      rcases bT.1 hm with h | h
      · exact hjm (bT.2 (.inl h))
      · exact(hgr j h).elim (fun h=>hjm (bT.2 (.inr h))) (fun h=>by omega)
    · exact hgr.trans g3 hsB
    · exact Ce hpre g4
    · intro u hu
      rcases List.mem_append.1 hu with h | h
      · exact(By g4 (hm u h)).1
      · rw[List.mem_singleton.1 h];exact g5
    · intro u hu
      rcases g6 u hu with h | h
      · exact hD u h
      · exact .inr ⟨t,bO htus,h⟩
theorem Di{L D:List Tm}(hn:D.Nodup)(h:∀u∈D,u∈L):D.length≤L.length:=Fl hn h
theorem Wk.small{p dm:Nat}{f:Tm→Option Tm}{L S0:List Tm}{H:List (Nat×Ac)}{s:AD}{S:List Tm}{O:List Nat}{D:List Tm}(h:Wk p dm f L S0 H s S O D)(hL:S0.length+L.length<90000):S.length<90000:=by
 have:=Di h.dn fun u hu=>(h.dL u hu).1
 have:=h.len
 omega
theorem Lq{s:AD}{dm:Nat}{es:List (AV×AV)}{kt:TypeId}{O:List Nat}(hg:CA s O)(hm:s.heap.get dm=some (.map kt es)):dm≠1:=by
 intro e
 subst e
 obtain⟨r,h1,_⟩:=LJ hg.1
 rw[hm]at h1
 cases h1
theorem MA{E:Be}{p dm:Nat}{f:Tm→Option Tm}{L S0:List Tm}{ds sb bb wb:Nat}{H:List (Nat×Ac)}{cb:AV}
  (hbx:∀x∈Dy p dm ds sb bb wb cb,x∈H) (hL:S0.length+L.length<90000) {t:Tm} (ht:t∈S0) (htL:t∈L)
  {s:AD} {S:List Tm} {O:List Nat} {D:List Tm} (st:AS s p S O) (gl:CA s O) (hd:ON s O dm H) (mp:s.heap.get dm=some (.map 3 (Ek f S D))) (dl:dm<s.next) (dO:dm ∉ O) (pre:∃x,S=S0++x)
  (len:S.length≤S0.length+D.length+1) (dn:D.Nodup) (dL:∀u∈D,u∈L∧u∈S0∧BM f u∈S) (hcS:BM f t∈S) (htD:t ∉ D)
  (a5 a6 a7 a8 a10 a11 a12 a13 a14 a15 a16 a17 a18 a19 a20:AV) {K:AV→AD→Prop}
  (hK:∀s',Wk p dm f L S0 H s' S O (D++[t])→s'.next=s.next→(∀j,j≠dm→s'.heap.get j=s.heap.get j)→K (iv (ix S (BM f t):Int)) s'):
  Qb E MP (fun v s'=>Qb E MQ (fun v s'=>K (Hb v 5) s') [] v s') []
   [iv (ix S0 t:Int),.ptr (some (ds,0)),.ptr (some (sb,0)),.ptr (some (bb,0)),.ptr (some (wb,0)),a5,a6,a7,a8,iv (ix S (BM f t):Int),a10,a11,a12,a13,a14,a15,a16,a17,a18,a19,a20] s:=by
 have hds:s.heap.get ds=some (R 68 0 false [.map (some dm)]):=(hd _ (hbx (ds,R 68 0 false [.map (some dm)]) (by simp[Dy]))).1
 have hDl:=Di dn fun u hu=>(dL u hu).1
 have hup:=Sw mp (By pre ht).1 (fun u hu=>(By pre (dL u hu).2.1).1) (by omega) htD
 rw[(By pre ht).2]at hup
 have JW:=Lq gl mp
 have hdn:(D++[t]).Nodup:=by
  rw[List.nodup_append]
  exact⟨dn,by simp,fun a ha b hb e=>by simp at hb;subst hb;subst e;exact htD ha⟩
 have hdL:∀u∈D++[t],u∈L∧u∈S0∧BM f u∈S:=fun u hu=>by
  rcases List.mem_append.1 hu with h | h
  ·exact dL u h
  ·rw[List.mem_singleton.1 h];exact⟨htL,ht,hcS⟩
 have hwk:Wk p dm f L S0 H (setObj s dm (.map 3 (Ek f S (D++[t])))) S O (D++[t]):={
  st:=st.frame (aj _) fun j hj=>Wr _ fun e=>dO (e▸hj)
  gl:=⟨by rw[BP (Wr _ (Ne.symm JW))];exact gl.1,gl.2.1,gl.2.2⟩
  hd:=fun x hx=>by
   obtain⟨h1,h2,h3,h4⟩:=hd x hx
   exact⟨by rw[Wr _ h4];exact h1,h2,h3,h4⟩
  mp:=Wq _ _ _
  dl:=dl
  dO:=dO
  pre:=pre
  len:=by rw[bV];simp;omega
  dn:=hdn
  dL:=hdL }
 have:=hK _ hwk rfl fun j hj=>Wr _ hj
 simp only[MP,MQ,Qa,Qb,Qc,Qd,Qe,Qf,Qg,Qh,Qi,Qj,Qk,Ql,Qm,Qn,true_and,and_true,Qo,Qp,Qq,Qr,Qs,Qt,Qu,Qv,Qw,Qx,Qy,Qz,Ra,Rb,Rc,Rd,Re,Rf,Rg,Rh,Ri,Rj,Rk,Rl,Rm,Ya,Yb,Yc,Rn,Ro,Xv,Yd,Ye,Rq,Rs,Rt,Ru,Rw,Rx,Ry,hds,OQ,hup,Rz,Wa,Wb,Wc,Wd,We,Wf,Wg,Wh,Wi,Wj,Wl,Wm,Wn,Wp,Wq,Wr,Ws,Wt,Wu,Wv,Ww,Wx,Wy,Wz,Xa,Xb,Xc,Xd,Xe,Xf,Xg,Xh,Xi,Xj,Xk,Xl,Xm,Xn,Xo,Xp,Xq,Xr,ao,au,ap,am,aw,ay,List.getElem?_cons_zero,List.getElem?_cons_succ,aq,az,bA,bB,ak,Nat.reduceAdd,Nat.reduceLT,Nat.reduceLeDiff,decide_true,decide_false,Bool.true_and,Bool.and_true,bC,aj,Option.some.injEq,Xs,Xt,Xu,Xv]
 exact this
def YY(E:Be)(p dm:Nat)(f:Tm→Option Tm)(L S0:List Tm)(Hm:List (Nat×Ac))(g:FuncId)(caps:List AV):Prop:=
  ∀ (H : List (Nat × Ac))   (s : AD)  (S : List Tm) (O : List Nat) (D : List Tm) (t : Tm) (m : Nat) (K : AV → AD  → Prop), (∀ x ∈ Hm, x ∈ H) → Wk p dm f L S0 H s S O D → t ∈ S0 → t ∈ L →
    (∀s' S' O' x b,AS s' p S' O'→CA s' O'→Bu O s s'→AT O O' s→(S'=S∨∃u,S'=push S u)→(b=true∧(∃u,f t=some u∧u∈S'∧x=iv (ix S' u:Int))∨b=false∧f t=none∧S'=S)→K (.tuple [x,.bool b]) s') →
    WF E g ([iv (ix S0 t:Int),.agg (BG S0 t m)]++caps) K s
theorem RH{S0 S:List Tm}(hS0:I0 S0)(pre:∃x,S=S0++x){t:Tm}(ht:t∈S0)(m:Nat):BG S t m=BG S0 t m:=by
 obtain⟨x,rfl⟩:=pre
 unfold BG
 rw[Ck x fun k hk=>(hS0.kid ht hk).1]
theorem Bu.weak{O:List Nat}{s s':AD}(h:Bu O s s')(d:Nat):Bu (d::O) s s':=⟨h.1,fun j hj hn=>h.2 j hj fun hm=>hn (bI _ hm)⟩
theorem AT.cons{O O':List Nat}{s:AD}(h:AT O O' s)(d:Nat):AT (d::O) (d::O') s:=fun j hj=>by
 rcases bT.1 hj with rfl | hj
 ·exact .inl bH
 ·exact(h j hj).imp (bI _) id
theorem E8.rd{s:AD}{v:AV}{n:Nat}{l:List Int}{O:List Nat}(h:E8 3 1 s v n (Bn l) O):An s v l:=by
 have hl:=h.len
 rw[B7,bR]at hl
 subst hl
 have hlt:=h.lt
 rcases h.row with⟨rfl,h1,h2⟩ | ⟨i,r,rfl,h2,h3,h4⟩
 ·exact .inl ⟨bu h1,rfl⟩
 ·exact .inr ⟨i,0,none,rfl,hlt i h2,by rw[h3,FD h4 (by rw[B7,ak];exact aj _),aq,bY (by rw[B7];exact aj _)]⟩
set_option maxRecDepth 20000 in
theorem UA      {E : Be}  (hE : Ah    E) {p dm : Nat} {f : Tm → Option Tm} {L S0 : List Tm} {ds sb bb wb : Nat} {Hm : List (Nat × Ac)}   {g : FuncId} {caps : List AV}
    (hbx:∀x∈Dy p dm ds sb bb wb (.func g [] caps),x∈Hm) (hL:S0.length+L.length<90000) (hS0:I0 S0) (hLk:∀t∈L,f t=none→∀k∈t.kids,k∈L) (hcb:YY E p dm f L S0 Hm g caps):
    ∀n t,ix S0 t<n→t∈S0→t∈L→Pj E p dm f L S0 ds sb bb wb Hm t:=by
  intro n
  induction n with
  | zero=>intro t h;omega
  | succ n ih =>
    intro t hn ht htL H s S O D K hHm hw hK
    obtain⟨tv,fi,vm,OT,e⟩:=hw.st.ex
    have htS:=By hw.pre ht
    obtain⟨m,j,r,hvm,rfl,hjO,hjr,hln,_⟩:=e.entry hw.st.ok (Cr htS.1)
    rw[RH hS0 hw.pre ht,htS.2,← hjr]at hln
    obtain⟨c0,c1,c2,c3,c4,c5,c6,hc,d0,d1,d2,d3,d4,d5,d6⟩:=t.cells7 (hS0.ok t ht)
    have hent:BG S0 t m=[iv t.kind,iv t.id,iv (part S0 t 0),iv (part S0 t 1),iv (part S0 t 2),.str t.ktext,c0,c1,c2,c3,c4,c5,c6,iv (t.kids.length:Int),iv (t.sz:Int),.map (some m)]:=by
      simp only[BG,BD,hc,ap,am]
    have hsm:=hw.small hL
    have hlook:=fun os=>Oq (s:=ext s os) (t:=t) (by rw[Wh hw.dl];exact hw.mp) htS.1 (fun u hu=>(By hw.pre (hw.dL u hu).2.1).1) (by omega)
    simp only[htS.2]at hlook
    have hbH:∀x∈Dy p dm ds sb bb wb (.func g [] caps),x∈H:=fun x hx=>hHm x (hbx x hx)
    have hds:=hw.hd _ (hbH (ds,R 68 0 false [.map (some dm)]) (by simp[Dy]))
    have hsb:=hw.hd _ (hbH (sb,R 25 0 false [.ptr (some (p,0))]) (by simp[Dy]))
    have hbb:=hw.hd _ (hbH (bb,R 103 0 false [.func g [] caps]) (by simp[Dy]))
    have gds:s.heap.get ds=some (R 68 0 false [.map (some dm)]):=hds.1
    have gsb:s.heap.get sb=some (R 25 0 false [.ptr (some (p,0))]):=hsb.1
    have gbb:s.heap.get bb=some (R 103 0 false [.func g [] caps]):=hbb.1
    have lds:ds<s.next:=hds.2.1
    have lsb:sb<s.next:=hsb.2.1
    have lbb:bb<s.next:=hbb.2.1
    have hplt:=e.plt
    have hobj:=e.obj
    have hjlt:=e.lt j hjO
    have hixt:ix S0 t<S.length:=by rw[← htS.2];exact Eu htS.1
    refine hE.go XN (by decide) rfl ?_
    generalize hs:s.next=b at lds lsb lbb hplt hjlt
    have hs0:s=ext s []:=(Aa s).symm
    have hbw:=hw.old (AQ (os:=[R 70 0 false (BG S0 t m)]))
    have hgb:(ext s [R 70 0 false (BG S0 t m)]).heap.get (nid b 0)=some (R 70 0 false (BG S0 t m)):=by rw[Wg hs (by simp)];rfl
    have hlt:=hw.st.lt
    have hbw:=hbw.more hgb (by rw[Wm,hs,AF,AF];simp) (fun hm=>by have:=hlt _ hm;rw[AF]at this;omega) (by have:=hw.dl;rw[AF];omega)
    rw[hent]at hbw hgb hln
    rw[hs0]
    simp only[aU,VU,VV,VW,Qa,Qb,Qc,Qd,Qe,Qf,Qg,Qh,Qi,Qj,Qk,Ql,Qm,Qn,true_and,and_true,Qo,Qp,Qq,Qr,Qs,Qt,Qu,Qv,Qw,Qx,Qy,Qz,Ra,Rb,Rc,Rd,Re,Rf,Rg,Rh,Ri,Rj,Rk,Rl,Rm,Ya,Yb,Yc,Rn,Ro,Xv,Yd,Ye,Rq,Rs,Rt,Ru,Rw,Rx,Ry,hs,gds,lds,OQ,hlook,Rz,Wa,Wb,Wc,Wd,We,Wf,Wg,Wh,Wi,Wj,Wl,Wm,Wn,Wp,Wq,Wr,Ws,Wt,Wu,Wv,Ww,Wx,Wy,Wz,Xa,Xb,Xc,Xd,Xe,Xf,Xg,Xh,Xi,Xj,Xk,Xl,Xm,Xn,Xo,Xp,Xq,Xr,ao,au,ap,am,aw,ay,List.getElem?_cons_zero,List.getElem?_cons_succ,aq,az,bA,bB,ak,Nat.reduceAdd,Nat.reduceLT,Nat.reduceLeDiff,decide_true,decide_false,Bool.true_and,Bool.and_true,bC,aj,Option.some.injEq,Xs,Xt,Xu,Xv]
    by_cases hD:t∈D
    · simp only[hD,if_true,VX,Qa,Qb,Qc,Qd,Qe,Qf,Qg,Qh,Qi,Qj,Qk,Ql,Qm,Qn,true_and,and_true,Qo,Qp,Qq,Qr,Qs,Qt,Qu,Qv,Qw,Qx,Qy,Qz,Ra,Rb,Rc,Rd,Re,Rf,Rg,Rh,Ri,Rj,Rk,Rl,Rm,Ya,Yb,Yc,Rn,Ro,Xv,Yd,Ye,Rq,Rs,Rt,Ru,Rw,Rx,Ry,Rz,Wa,Wb,Wc,Wd,We,Wf,Wg,Wh,Wi,Wj,Wl,Wm,Wn,Wp,Wq,Wr,Ws,Wt,Wu,Wv,Ww,Wx,Wy,Wz,Xa,Xb,Xc,Xd,Xe,Xf,Xg,Xh,Xi,Xj,Xk,Xl,Xm,Xn,Xo,Xp,Xq,Xr,ao,au,ap,am,aw,ay,List.getElem?_cons_zero,List.getElem?_cons_succ,aq,az,bA,bB,ak,Nat.reduceAdd,Nat.reduceLT,Nat.reduceLeDiff,decide_true,decide_false,Bool.true_and,Bool.and_true,bC,aj,Option.some.injEq,Xs,Xt,Xu,Xv]
      rw[Aa]
      exact hK s S O D hw (Bu.refl _ _) (AT.refl _ _) ⟨[],by simp⟩ (hw.dL t hD).2.2 (fun u hu=>.inl hu) (fun _ _=>rfl)
    · simp only [hD, if_false, VY,    VZ,    Va,    Qa, Qb, Qc, Qd, Qe, Qf, Qg, Qh, Qi, Qj, Qk, Ql, Qm, Qn, true_and, and_true, Qo, Qp, Qq, Qr, Qs, Qt, Qu, Qv, Qw, Qx, Qy, Qz, Ra, Rb, Rc, Rd, Re, Rf, Rg, Rh, Ri, Rj, Rk, Rl, Rm, Ya, Yb, Yc, Rn, Ro, Xv, Yd, Ye, Rq, Rs, Rt, Ru, Rw, Rx, Ry, hs, gsb, lsb, hplt, hobj, hjlt, Yj,   OP,   TE,   Kn,   Gl,     AY        Tryz.underlying59 Kn   hixt, hln, YR,   gbb, lbb, Yi,    d0, d1, d2, d3, d4, d5, d6, Rz, Wa, Wb, Wc, Wd, We, Wf, Wg, Wh, Wi, Wj, Wl, Wm, Wn, Wp, Wq, Wr, Ws, Wt, Wu, Wv, Ww, Wx, Wy, Wz, Xa, Xb, Xc, Xd, Xe, Xf, Xg, Xh, Xi, Xj, Xk, Xl, Xm, Xn, Xo, Xp, Xq, Xr, ao,               au,              ap,               am,              aw,                 ay,                 List.getElem?_cons_zero, List.getElem?_cons_succ, aq,             az,                  bA,                  bB,             ak,           Nat.reduceAdd, Nat.reduceLT, Nat.reduceLeDiff, decide_true, decide_false, Bool.true_and, Bool.and_true, bC,             aj,          Option.some.injEq, Xs, Xt, Xu, Xv]
      have hcb':=fun K=>hcb _ _ S O D t m K (fun x hx=>bI _ (hHm x hx)) hbw ht htL
      rw[hent]at hcb'
      refine hcb' _ fun s' S' O' x bo g1 g2 g3 g4 g5 g6=>?_
      have hb1:Bu (dm::O) s s':=((AQ.frO O).trans g3 (AT.refl O s)).weak dm
      have hgr:AT O O' s:=AT.trans (AT.refl O s) g4 (by rw[Wm,AF];omega)
      have hpre:∃x,S'=S++x:=by
        rcases g5 with rfl | ⟨u,rfl⟩
        · exact⟨[],by simp⟩
        · exact D4
      have hlen':S'.length≤S.length+1:=by
        rcases g5 with rfl | ⟨u,rfl⟩
        · omega
        · exact CR
      have hheld:=hbw.hd.step (g3.weak dm) g4
      have hmp:s'.heap.get dm=some (.map 3 (Ek f S' D)):=by
        rw[g3.2 dm hbw.dl hw.dO,JS hpre fun u hu=>⟨(By hw.pre (hw.dL u hu).2.1).1,(hw.dL u hu).2.2⟩];exact hbw.mp
      have hdl:dm<s'.next:=bG hbw.dl g3.1
      have hdO:dm ∉ O':=fun hm=>(g4 dm hm).elim hw.dO (fun hl=>by have:=hbw.dl;omega)
      have hdL:∀u∈D,u∈L∧u∈S0∧BM f u∈S':=fun u hu=>⟨(hw.dL u hu).1,(hw.dL u hu).2.1,(By hpre (hw.dL u hu).2.2).1⟩
      have hlen:=hw.len
      have hend:=fun a5 a6 a7 a8 a10 a11 a12 a13 a14 a15 a16 a17 a18 a19 a20 hcS hlf=>MA (E:=E) (K:=K) hbH hL ht htL g1 g2 (fun x hx=>hheld x (bI _ hx)) hmp hdl hdO (Ce hw.pre hpre) (by omega) hw.dn hdL hcS hD a5 a6 a7 a8 a10 a11 a12 a13 a14 a15 a16 a17 a18 a19 a20 fun s2 k1 k2 k3 =>
        hK s2 S' O' (D++[t]) k1 ⟨by rw[k2];exact hb1.1,fun j hj hjm=>by rw[k3 j fun e=>hjm (bT.2 (.inl e))];exact hb1.2 j hj hjm⟩ hgr hpre hcS (fun u hu=>by
          rcases List.mem_append.1 hu with h | h
          · exact .inl h
          · rw[List.mem_singleton.1 h];exact .inr (aj _)) hlf
      rcases g6 with⟨rfl,u,hfu,huS,rfl⟩ | ⟨rfl,hfn,rfl⟩
      · have hcu:=H9 hfu
        rw[hcu]at hend
        simp only[Na,Vb,Qa,Qb,Qc,Qd,Qe,Qf,Qg,Qh,Qi,Qj,Qk,Ql,Qm,Qn,true_and,and_true,Qo,Qp,Qq,Qr,Qs,Qt,Qu,Qv,Qw,Qx,Qy,Qz,Ra,Rb,Rc,Rd,Re,Rf,Rg,Rh,Ri,Rj,Rk,Rl,Rm,Ya,Yb,Yc,Rn,Ro,Xv,Yd,Ye,Rq,Rs,Rt,Ru,Rw,Rx,Ry,Rz,Wa,Wb,Wc,Wd,We,Wf,Wg,Wh,Wi,Wj,Wl,Wm,Wn,Wp,Wq,Wr,Ws,Wt,Wu,Wv,Ww,Wx,Wy,Wz,Xa,Xb,Xc,Xd,Xe,Xf,Xg,Xh,Xi,Xj,Xk,Xl,Xm,Xn,Xo,Xp,Xq,Xr,ao,au,ap,am,aw,ay,List.getElem?_cons_zero,List.getElem?_cons_succ,aq,az,bA,bB,ak,Nat.reduceAdd,Nat.reduceLT,Nat.reduceLeDiff,decide_true,decide_false,Bool.true_and,Bool.and_true,bC,aj,Option.some.injEq,Xs,Xt,Xu,Xv]
        exact hend _ _ _ _ _ _ _ _ _ _ _ _ _ _ _ huS (fun h=>by rw[hfu]at h;cases h)
      · rcases bc                 t.kids.length with h0 | h0
        · have hk0 : t.kids = [] := bu                            h0
          have hct:=GC hfn hk0
          rw[hct,(By hw.pre ht).2]at hend
          have hgt:decide ((0:Int)<((0:Nat):Int))=false:=rfl
          have hgb2:s'.heap.get (nid b 0)=_:=(hheld _ (bH)).1
          simp only[Na,QL,Qa,Qb,Qc,Qd,Qe,Qf,Qg,Qh,Qi,Qj,Qk,Ql,Qm,Qn,true_and,and_true,Qo,Qp,Qq,Qr,Qs,Qt,Qu,Qv,Qw,Qx,Qy,Qz,Ra,Rb,Rc,Rd,Re,Rf,Rg,Rh,Ri,Rj,Rk,Rl,Rm,Ya,Yb,Yc,Rn,Ro,Xv,Yd,Ye,Rq,Rs,Rt,Ru,Rw,Rx,Ry,Rz,Wa,Wb,Wc,Wd,We,Wf,Wg,Wh,Wi,Wj,Wl,Wm,Wn,Wp,Wq,Wr,Ws,Wt,Wu,Wv,Ww,Wx,Wy,Wz,Xa,Xb,Xc,Xd,Xe,Xf,Xg,Xh,Xi,Xj,Xk,Xl,Xm,Xn,Xo,Xp,Xq,Xr,ao,au,ap,am,aw,ay,List.getElem?_cons_zero,List.getElem?_cons_succ,aq,az,bA,bB,ak,Nat.reduceAdd,Nat.reduceLT,Nat.reduceLeDiff,decide_true,decide_false,Bool.true_and,Bool.and_true,bC,aj,Option.some.injEq,Xs,Xt,Xu,Xv,hgb2,h0,RQ,C6,Rs,hgt]
          exact hend _ _ _ _ _ _ _ _ _ _ _ _ _ _ _ htS.1 (fun _ _=>rfl)
        · have hgt : decide ((0 : Int) < (t.kids.length : Int)) = true := decide_eq_true (by omega)
          have hgb2:s'.heap.get (nid b 0)=_:=(hheld _ (bH)).1
          have hkn:t.kids≠[]:=fun e=>by rw[e]at h0;cases h0
          obtain⟨q1,q2⟩:=K9 hfn
          obtain⟨q3,q4,q5,q6,q7⟩:=q2 hkn
          have hw1:Wk p dm f L S0 ((nid b 0,R 70 0 false [iv t.kind,iv t.id,iv (part S0 t 0),iv (part S0 t 1),iv (part S0 t 2),.str t.ktext,c0,c1,c2,c3,c4,c5,c6,iv (t.kids.length:Int),iv (t.sz:Int),.map (some m)])::H) s' S' O' D:=
            { st:=g1,gl:=g2,hd:=hheld,mp:=hmp,dl:=hdl,dO:=hdO,pre:=hw.pre,len:=hw.len,dn:=hw.dn,dL:=hdL }
          have hkS:∀k∈t.kids,k∈S0∧ix S0 k<ix S0 t:=fun k hk=>hS0.kid ht hk
          simp only[Na,QL,QF,QG,Qa,Qb,Qc,Qd,Qe,Qf,Qg,Qh,Qi,Qj,Qk,Ql,Qm,Qn,true_and,and_true,Qo,Qp,Qq,Qr,Qs,Qt,Qu,Qv,Qw,Qx,Qy,Qz,Ra,Rb,Rc,Rd,Re,Rf,Rg,Rh,Ri,Rj,Rk,Rl,Rm,Ya,Yb,Yc,Rn,Ro,Xv,Yd,Ye,Rq,Rs,Rt,Ru,Rw,Rx,Ry,Rz,Wa,Wb,Wc,Wd,We,Wf,Wg,Wh,Wi,Wj,Wl,Wm,Wn,Wp,Wq,Wr,Ws,Wt,Wu,Wv,Ww,Wx,Wy,Wz,Xa,Xb,Xc,Xd,Xe,Xf,Xg,Xh,Xi,Xj,Xk,Xl,Xm,Xn,Xo,Xp,Xq,Xr,ao,au,ap,am,aw,ay,List.getElem?_cons_zero,List.getElem?_cons_succ,aq,az,bA,bB,ak,Nat.reduceAdd,Nat.reduceLT,Nat.reduceLeDiff,decide_true,decide_false,Bool.true_and,Bool.and_true,bC,aj,Option.some.injEq,Xs,Xt,Xu,Xv,hgb2,RQ,IE,RP,C6,Rs,hgt,Zj (X7 t),Ad Tryz.underlying27]
          refine Ot (E:=E) (sB:=s') (OA:=O') (SA:=S') (DA:=D) hbx (fun x hx=>bI _ (hHm x hx)) hL (EL t) (fun k hk=>ih k (by have:=(hkS k hk).2;omega) (hkS k hk).1 (hLk t htL hfn k hk)) bH (fun k u hku=>?_) _ _ _ _ _ _ _ _ _ _ t.kids [] s' S' O' D _ [] _ _ rfl hw1 (E8.nil _ _ _) (fun _ h=>by cases h) (fun _ h=>by cases h) (Bu.refl _ _) (AT.refl _ _) ⟨[],by simp⟩ (fun _ h=>by cases h) (fun u hu=>.inl hu) ?_
          · have hk3 := EL         t
            have hlt3:k<t.kids.length:=by
              rcases bE k t.kids.length with h' | h'
              · exact h'
              · rw[bJ h']at hku;cases hku
            have hpk:part S0 t k=(ix S0 u:Int):=by unfold part;rw[hku]
            have:k=0∨k=1∨k=2:=by omega
            rcases this with rfl | rfl | rfl<;>simp[hpk]
          · intro s2 S2 O2 D2 v2 OB2 y13 y19 y20 k1 k2 k3 k4 k5 k6 k7
            have gsb2:s2.heap.get sb=some (R 25 0 false [.ptr (some (p,0))]):=(k1.hd _ (bI _ (hbH (sb,R 25 0 false [.ptr (some (p,0))]) (by simp[Dy])))).1
            have gb2:s2.heap.get (nid b 0)=_:=(k1.hd _ (bH)).1
            have hrd:=k2.rd
            have hpa:BY s2 S2 (BM f t).kids v2:=by
              rw[q1]
              refine An.parts (l:=t.kids.map (BM f)) ?_ (by rw[bX];exact h0)
              rw[List.map_map];exact hrd
            have hput:=fun K=>D5 (K:=K) hE k1.st (by have:=k1.small hL;omega) (BK.refl _ _) (BM f t) (fun k hk=>by rw[q1]at hk;obtain⟨x,hx,rfl⟩:=List.mem_map.1 hk;exact k6 x hx) q7 hpa
            rw[q3,q4,q5,q6]at hput
            simp only[Qa,Qb,Qc,Qd,Qe,Qf,Qg,Qh,Qi,Qj,Qk,Ql,Qm,Qn,true_and,and_true,Qo,Qp,Qq,Qr,Qs,Qt,Qu,Qv,Qw,Qx,Qy,Qz,Ra,Rb,Rc,Rd,Re,Rf,Rg,Rh,Ri,Rj,Rk,Rl,Rm,Ya,Yb,Yc,Rn,Ro,Xv,Yd,Ye,Rq,Rs,Rt,Ru,Rw,Rx,Ry]
            rw[if_pos trivial]
            simp only[QK,Qa,Qb,Qc,Qd,Qe,Qf,Qg,Qh,Qi,Qj,Qk,Ql,Qm,Qn,true_and,and_true,Qo,Qp,Qq,Qr,Qs,Qt,Qu,Qv,Qw,Qx,Qy,Qz,Ra,Rb,Rc,Rd,Re,Rf,Rg,Rh,Ri,Rj,Rk,Rl,Rm,Ya,Yb,Yc,Rn,Ro,Xv,Yd,Ye,Rq,Rs,Rt,Ru,Rw,Rx,Ry,gsb2,gb2,Yj,IE,ID,C6,J6,EE,Rz,Wa,Wb,Wc,Wd,We,Wf,Wg,Wh,Wi,Wj,Wl,Wm,Wn,Wp,Wq,Wr,Ws,Wt,Wu,Wv,Ww,Wx,Wy,Wz,Xa,Xb,Xc,Xd,Xe,Xf,Xg,Xh,Xi,Xj,Xk,Xl,Xm,Xn,Xo,Xp,Xq,Xr,ao,au,ap,am,aw,ay,List.getElem?_cons_zero,List.getElem?_cons_succ,aq,az,bA,bB,ak,Nat.reduceAdd,Nat.reduceLT,Nat.reduceLeDiff,decide_true,decide_false,Bool.true_and,Bool.and_true,bC,aj,Option.some.injEq,Xs,Xt,Xu,Xv]
            refine hput _ fun s3 O3 j1 j2 j3=>?_
            have htD2:t ∉ D2:=fun hm=>by
              rcases k7 t hm with h' | ⟨k,hk,h'⟩
              · exact hD h'
              · have:=(hkS k hk).2;omega
            have hpre3:∃x,push S2 (BM f t)=S2++x:=D4
            have hfr2:Bu (dm::O) s s2:=hb1.trans k3 (hgr.cons dm)
            have hgr2:AT O O2 s:=hgr.trans k4 hb1.1
            simp only[Qa,Qb,Qc,Qd,Qe,Qf,Qg,Qh,Qi,Qj,Qk,Ql,Qm,Qn,true_and,and_true,Qo,Qp,Qq,Qr,Qs,Qt,Qu,Qv,Qw,Qx,Qy,Qz,Ra,Rb,Rc,Rd,Re,Rf,Rg,Rh,Ri,Rj,Rk,Rl,Rm,Ya,Yb,Yc,Rn,Ro,Xv,Yd,Ye,Rq,Rs,Rt,Ru,Rw,Rx,Ry]
            refine MA hbH hL ht htL j1 (k1.gl.step j2 j3) (fun x hx=>(k1.hd.step (j2.weak dm) j3) x (bI _ hx)) (D:=D2) ?_ (bG k1.dl j2.1) (fun hm=>(j3 dm hm).elim k1.dO (fun hl=>by have:=k1.dl;omega)) (Ce k1.pre hpre3) (by have:=CR (S:=S2) (u:=BM f t);have:=k1.len;omega) k1.dn (fun u hu=>⟨(k1.dL u hu).1,(k1.dL u hu).2.1,Ig (k1.dL u hu).2.2⟩) DR htD2 _ _ _ _ _ _ _ _ _ _ _ _ _ _ _ ?_
            · rw[j2.2 dm k1.dl k1.dO,JS hpre3 fun u hu=>⟨(By k1.pre (k1.dL u hu).2.1).1,(k1.dL u hu).2.2⟩];exact k1.mp
            · intro s4 e1 e2 e3
              have hfr3:Bu (dm::O) s s3:=hfr2.trans (j2.weak dm) (hgr2.cons dm)
              refine hK s4 _ O3 (D2++[t]) e1 ⟨by rw[e2];exact hfr3.1,fun j hj hjm=>by rw[e3 j fun e=>hjm (bT.2 (.inl e))];exact hfr3.2 j hj hjm⟩ (hgr2.trans j3 hfr2.1) (Ce k5 hpre3) DR (fun u hu=>?_) (fun _ h=>absurd h hkn)
              rcases List.mem_append.1 hu with h | h
              · rcases k7 u h with h | ⟨k, hk, h⟩
                · exact .inl h
                · exact .inr (by have:=(hkS k hk).2;omega)
              · rw[List.mem_singleton.1 h];exact .inr (aj _)
theorem aB:Bt Tryz.prog 31=some .nilFunc:=by kernel_rfl
theorem IQ:AV.nilFunc.isCell=true:=rfl
theorem I5:AV.nilFunc.cells=[.nilFunc]:=rfl
def Pi(E:Be)(p:Nat)(f:Tm→Option Tm)(L S0:List Tm)(Hc:List (Nat×Ac))(g:FuncId)(caps:List AV):Prop:=
 ∀ (dm:Nat) (Hm:List (Nat×Ac)),(∀x∈Hc,x∈Hm)→YY E p dm f L S0 Hm g caps
set_option maxRecDepth 20000 in
theorem Od{E:Be}(hE:Ah E){s:AD}{p:Nat}{S:List Tm}{O:List Nat}(h:AS s p S O)(hg:CA s O){f:Tm→Option Tm}{L:List Tm}(hL:S.length+L.length<90000)
  (hLk:∀t∈L,f t=none→∀k∈t.kids,k∈L) {Hc:List (Nat×Ac)} (hHc:∀x∈Hc,s.heap.get x.1=some x.2∧x.1<s.next∧x.1 ∉ O) {g:FuncId} {caps:List AV} (hcb:Pi E p f L S Hc g caps) {t:Tm} (ht:t∈S) (htL:t∈L) {K:AV→AD→Prop}
  (hK:∀s' S' O',AS s' p S' O'→CA s' O'→Bu O s s'→AT O O' s→(∃x,S'=S++x)→S'.length≤S.length+L.length→BM f t∈S'→(f t=none→t.kids=[]→S'=S)→K (iv (ix S' (BM f t):Int)) s'):
  WF E 33 [.ptr (some (p,0)),iv (ix S t:Int),.func g [] caps] K s:=by
 refine hE.go XF (by decide) rfl ?_
 have hlt:=h.lt
 have hg1:=hg.2.1
 generalize hs:s.next=b at hg1
 have hs0:s=ext s []:=(Aa s).symm
 rw[hs0]
 simp only[aN,U4,U5,U6,U7,U8,Qa,Qb,Qc,Qd,Qe,Qf,Qg,Qh,Qi,Qj,Qk,Ql,Qm,Qn,true_and,and_true,Qo,Qp,Qq,Qr,Qs,Qt,Qu,Qv,Qw,Qx,Qy,Qz,Ra,Rb,Rc,Rd,Re,Rf,Rg,Rh,Ri,Rj,Rk,Rl,Rm,Ya,Yb,Yc,Rn,Ro,Xv,Yd,Ye,Rq,Rs,Rt,Ru,Rw,Rx,Ry,hs,Nx,aC,Z7,OQ,aB,Z5,Yk,IQ,I5,Rz,Wa,Wb,Wc,Wd,We,Wf,Wg,Wh,Wi,Wj,Wl,Wm,Wn,Wp,Wq,Wr,Ws,Wt,Wu,Wv,Ww,Wx,Wy,Wz,Xa,Xb,Xc,Xd,Xe,Xf,Xg,Xh,Xi,Xj,Xk,Xl,Xm,Xn,Xo,Xp,Xq,Xr,ao,au,ap,am,aw,ay,List.getElem?_cons_zero,List.getElem?_cons_succ,aq,az,bA,bB,ak,Nat.reduceAdd,Nat.reduceLT,Nat.reduceLeDiff,decide_true,decide_false,Bool.true_and,Bool.and_true,bC,aj,Option.some.injEq,Xs,Xt,Xu,Xv]
 have hst:=h.old (AQ (os:=[R 25 0 false [.ptr (some (p,0))],R 103 0 false [.func g [] caps],.map 3 [],R 68 0 false [.map (some (nid b 2))],R 31 0 false [GV (nid b 3) (nid b 0) (nid b 1) (nid b 4)]]))
 have hgl:=hg.old (AQ (os:=[R 25 0 false [.ptr (some (p,0))],R 103 0 false [.func g [] caps],.map 3 [],R 68 0 false [.map (some (nid b 2))],R 31 0 false [GV (nid b 3) (nid b 0) (nid b 1) (nid b 4)]]))
 have hnx:(ext s [R 25 0 false [.ptr (some (p,0))],R 103 0 false [.func g [] caps],.map 3 [],R 68 0 false [.map (some (nid b 2))],R 31 0 false [GV (nid b 3) (nid b 0) (nid b 1) (nid b 4)]]).next=b+5:=by rw[Wm,hs,AF];rfl
 have hnO:∀k,nid b k ∉ O:=fun k hm=>by have:=hlt _ hm;rw[AF]at this;omega
 have hne:∀k,k≠2→nid b k≠nid b 2:=fun k hk=>by rw[AF,AF];omega
 have hnl:∀k,k<5→nid b k<b+5:=fun k hk=>by rw[AF];omega
 have hw:Wk p (nid b 2) f L S (Dy p (nid b 2) (nid b 3) (nid b 0) (nid b 1) (nid b 4) (.func g [] caps)++Hc) (ext s [R 25 0 false [.ptr (some (p,0))],R 103 0 false [.func g [] caps],.map 3 [],R 68 0 false [.map (some (nid b 2))],R 31 0 false [GV (nid b 3) (nid b 0) (nid b 1) (nid b 4)]]) S O []:=by
  refine⟨hst,hgl,?_,by rw[Wg hs (by simp)];rfl,by rw[hnx];exact hnl 2 (by omega),hnO 2,⟨[],by simp⟩,by simp,List.nodup_nil,fun _ h=>by cases h⟩
  intro x hx
  rw[hnx]
  rcases List.mem_append.1 hx with hx | hx
  ·simp only[Dy,bT,bm,or_false]at hx
   rcases hx with rfl | rfl | rfl | rfl
   ·exact⟨by rw[Wg hs (by simp)];rfl,hnl 3 (by omega),hnO 3,hne 3 (by omega)⟩
   ·exact⟨by rw[Wg hs (by simp)];rfl,hnl 0 (by omega),hnO 0,hne 0 (by omega)⟩
   ·exact⟨by rw[Wg hs (by simp)];rfl,hnl 1 (by omega),hnO 1,hne 1 (by omega)⟩
   ·exact⟨by rw[Wg hs (by simp)];rfl,hnl 4 (by omega),hnO 4,hne 4 (by omega)⟩
  ·obtain⟨h1,h2,h3⟩:=hHc x hx
   exact⟨by rw[Wh h2];exact h1,by omega,h3,by rw[AF];omega⟩
 refine UA hE (Hm:=Dy p (nid b 2) (nid b 3) (nid b 0) (nid b 1) (nid b 4) (.func g [] caps)++Hc) (fun x hx=>bq _ hx) hL h.ok hLk (hcb _ _ fun x hx=>bz _ hx) (ix S t+1) t (by omega) ht htL _ _ S O [] _ (fun x hx=>hx) hw ?_
 intro s' S' O' D' k1 k2 k3 k4 k5 k6 k7
 simp only[Qa,Qb,Qc,Qd,Qe,Qf,Qg,Qh,Qi,Qj,Qk,Ql,Qm,Qn,true_and,and_true,Qo,Qp,Qq,Qr,Qs,Qt,Qu,Qv,Qw,Qx,Qy,Qz,Ra,Rb,Rc,Rd,Re,Rf,Rg,Rh,Ri,Rj,Rk,Rl,Rm,Ya,Yb,Yc,Rn,Ro,Xv,Yd,Ye,Rq,Rs,Rt,Ru,Rw,Rx,Ry]
 have hnx2:=hnx
 simp only[GV]at hnx2
 have hDl:=Di k1.dn fun u hu=>(k1.dL u hu).1
 have hl:=k1.len
 refine hK s' S' O' k1.st k1.gl ⟨by have:=k2.1;rw[hnx2]at this;omega,fun j hj hjO=>?_⟩ (AT.trans (AT.refl O s) k3 (by rw[hnx2];omega)) k4 (by omega) k5 k7
 rw[k2.2 j (by rw[hnx2];omega) fun hm=>(bT.1 hm).elim (fun e=>by rw[e,AF]at hj;omega) hjO,Wh hj]
def CJ(id:Int)(u:Tm):Tm→Option Tm
 | .var i=>if i=id then some u else none
 | _=>none
theorem YL{E:Be}(hE:Ah E){p:Nat}{L S0:List Tm}{lb ib j:Nat}{x0:Int}{id:Int}{u:Tm}(hu:u∈S0):
  Pi E p (CJ id u) L S0 [(lb,R 27 0 false [.slice (some (j,0)) 2 none]),(ib,R 3 0 false [iv id]),(j,R 3 1 true (Bn [x0,(ix S0 u:Int)]))] 47 [.ptr (some (lb,0)),.ptr (some (ib,0))]:=by
 intro dm Hm hHc H s S O D t m K hHm hw ht htL hK
 have hlbx:=hw.hd _ (hHm _ (hHc (lb,R 27 0 false [.slice (some (j,0)) 2 none]) (by simp)))
 have hibx:=hw.hd _ (hHm _ (hHc (ib,R 3 0 false [iv id]) (by simp)))
 have hjbx:=hw.hd _ (hHm _ (hHc (j,R 3 1 true (Bn [x0,(ix S0 u:Int)])) (by simp)))
 have glb:s.heap.get lb=some (R 27 0 false [.slice (some (j,0)) 2 none]):=hlbx.1
 have gib:s.heap.get ib=some (R 3 0 false [iv id]):=hibx.1
 have gj:s.heap.get j=some (R 3 1 true [iv x0,iv (ix S0 u:Int)]):=hjbx.1
 have llb:lb<s.next:=hlbx.2.1
 have lib:ib<s.next:=hibx.2.1
 have lj:j<s.next:=hjbx.2.1
 obtain⟨c0,c1,c2,c3,c4,c5,c6,hc,d0,d1,d2,d3,d4,d5,d6⟩:=t.cells7 (hw.st.ok.ok t (By hw.pre ht).1)
 refine hE.go XM (by decide) rfl ?_
 have huS:=By hw.pre hu
 have hfr:∀os,Bu O s (ext s os):=fun os=>AQ.frO O
 have hend:∀os (x:AV) (b:Bool),(b=true∧(∃v,CJ id u t=some v∧v∈S∧x=iv (ix S v:Int))∨b=false∧CJ id u t=none∧S=S)→K (.tuple [x,.bool b]) (ext s os):=fun os x b hx =>
  hK (ext s os) S O x b (hw.st.old AQ) (hw.gl.old AQ) (hfr os) (AT.refl O s) (.inl rfl) hx
 have h12:(1:Nat)<2:=by omega
 have hi1:=fun(o len:Nat) (cap:Option Nat) (hk:1<len)=>AY (k:=1) (i:=j) (o:=o) (cap:=cap) Tryz.underlying27 Ea hk
 have hi2:AK Tryz.prog 27 (.slice (some (j,0)) 2 none) (iv 1)=some (.ptr (some (j,1))):=hi1 0 2 none (by omega)
 generalize hs:s.next=b at llb lib lj
 have hs0:s=ext s []:=(Aa s).symm
 rw[hs0]
 by_cases hk:t.kind=0
 ·have hv:∃i,t=.var i:=by
   cases t<;>first | exact⟨_,rfl⟩ | (cases hk;done)
  have hkd:decide (t.kind=0)=true:=decide_eq_true hk
  by_cases hi:t.id=id
  ·have hid:decide (t.id=id)=true:=decide_eq_true hi
   simp only[Zq,NY,NZ,BG,BD,hc,Qa,Qb,Qc,Qd,Qe,Qf,Qg,Qh,Qi,Qj,Qk,Ql,Qm,Qn,true_and,and_true,Qo,Qp,Qq,Qr,Qs,Qt,Qu,Qv,Qw,Qx,Qy,Qz,Ra,Rb,Rc,Rd,Re,Rf,Rg,Rh,Ri,Rj,Rk,Rl,Rm,Ya,Yb,Yc,Rn,Ro,Xv,Yd,Ye,Rq,Rs,Rt,Ru,Rw,Rx,Ry,hs,glb,gib,gj,llb,lib,lj,Ht,C6,hi2,IE,ID,KL,Rw,hkd,hid,Rz,Wa,Wb,Wc,Wd,We,Wf,Wg,Wh,Wi,Wj,Wl,Wm,Wn,Wp,Wq,Wr,Ws,Wt,Wu,Wv,Ww,Wx,Wy,Wz,Xa,Xb,Xc,Xd,Xe,Xf,Xg,Xh,Xi,Xj,Xk,Xl,Xm,Xn,Xo,Xp,Xq,Xr,ao,au,ap,am,aw,ay,List.getElem?_cons_zero,List.getElem?_cons_succ,aq,az,bA,bB,ak,Nat.reduceAdd,Nat.reduceLT,Nat.reduceLeDiff,decide_true,decide_false,Bool.true_and,Bool.and_true,bC,aj,Option.some.injEq,Xs,Xt,Xu,Xv]
   refine hend _ _ _ (.inl ⟨rfl,u,?_,huS.1,by rw[huS.2]⟩)
   obtain⟨i,rfl⟩:=hv
   exact if_pos hi
  ·have hid:decide (t.id=id)=false:=decide_eq_false hi
   simp only[Zq,NY,NZ,BG,BD,hc,Qa,Qb,Qc,Qd,Qe,Qf,Qg,Qh,Qi,Qj,Qk,Ql,Qm,Qn,true_and,and_true,Qo,Qp,Qq,Qr,Qs,Qt,Qu,Qv,Qw,Qx,Qy,Qz,Ra,Rb,Rc,Rd,Re,Rf,Rg,Rh,Ri,Rj,Rk,Rl,Rm,Ya,Yb,Yc,Rn,Ro,Xv,Yd,Ye,Rq,Rs,Rt,Ru,Rw,Rx,Ry,hs,glb,gib,gj,llb,lib,lj,Ht,C6,hi2,IE,ID,KL,Rw,hkd,hid,Rz,Wa,Wb,Wc,Wd,We,Wf,Wg,Wh,Wi,Wj,Wl,Wm,Wn,Wp,Wq,Wr,Ws,Wt,Wu,Wv,Ww,Wx,Wy,Wz,Xa,Xb,Xc,Xd,Xe,Xf,Xg,Xh,Xi,Xj,Xk,Xl,Xm,Xn,Xo,Xp,Xq,Xr,ao,au,ap,am,aw,ay,List.getElem?_cons_zero,List.getElem?_cons_succ,aq,az,bA,bB,ak,Nat.reduceAdd,Nat.reduceLT,Nat.reduceLeDiff,decide_true,decide_false,Bool.true_and,Bool.and_true,bC,aj,Option.some.injEq,Xs,Xt,Xu,Xv]
   refine hend _ _ _ (.inr ⟨rfl,?_,rfl⟩)
   obtain⟨i,rfl⟩:=hv
   exact if_neg hi
 ·have hkd:decide (t.kind=0)=false:=decide_eq_false hk
  simp only[Zq,NY,NZ,BG,BD,hc,Qa,Qb,Qc,Qd,Qe,Qf,Qg,Qh,Qi,Qj,Qk,Ql,Qm,Qn,true_and,and_true,Qo,Qp,Qq,Qr,Qs,Qt,Qu,Qv,Qw,Qx,Qy,Qz,Ra,Rb,Rc,Rd,Re,Rf,Rg,Rh,Ri,Rj,Rk,Rl,Rm,Ya,Yb,Yc,Rn,Ro,Xv,Yd,Ye,Rq,Rs,Rt,Ru,Rw,Rx,Ry,hs,glb,gib,gj,llb,lib,lj,Ht,C6,hi2,IE,ID,KL,Rw,hkd,Rz,Wa,Wb,Wc,Wd,We,Wf,Wg,Wh,Wi,Wj,Wl,Wm,Wn,Wp,Wq,Wr,Ws,Wt,Wu,Wv,Ww,Wx,Wy,Wz,Xa,Xb,Xc,Xd,Xe,Xf,Xg,Xh,Xi,Xj,Xk,Xl,Xm,Xn,Xo,Xp,Xq,Xr,ao,au,ap,am,aw,ay,List.getElem?_cons_zero,List.getElem?_cons_succ,aq,az,bA,bB,ak,Nat.reduceAdd,Nat.reduceLT,Nat.reduceLeDiff,decide_true,decide_false,Bool.true_and,Bool.and_true,bC,aj,Option.some.injEq,Xs,Xt,Xu,Xv]
  refine hend _ _ _ (.inr ⟨rfl,?_,rfl⟩)
  cases t<;>first | rfl | exact absurd rfl hk
theorem Kp{n:Nat}{S:List Tm}{l:List Int}:(DZ n S l).length≤S.length+1:=by
 rcases Fw (n:=n) (S:=S) l with e | e<;>rw[e]
 ·omega
 ·exact CR
set_option maxRecDepth 20000 in
theorem L4{E:Be}(hE:Ah E){s:AD}{p:Nat}{S:List Tm}{O:List Nat}(h:AS s p S O)(hg:CA s O){L:List Tm}(hL:S.length+L.length<89000){ti id bi:Int}
  (hLk:∀t∈L,∀k∈t.kids,k∈L) (htL:As S ti∈L) {K:AV→AD→Prop}
  (hK:∀s' S' O',AS s' p S' O'→CA s' O'→Bu O s s'→AT O O' s→(∃x,S'=DZ S.length S [ti,bi]++x)→S'.length≤S.length+L.length+1→BM (CJ id (As S bi)) (As S ti)∈S'→(CJ id (As S bi) (As S ti)=none→(As S ti).kids=[]→S'=DZ S.length S [ti,bi])→K (iv (ix S' (BM (CJ id (As S bi)) (As S ti)):Int)) s'):
  WF E 27 [.ptr (some (p,0)),iv ti,iv id,iv bi] K s:=by
 have hm:∀x∈([ti,bi]:List Int),As S x∈DZ S.length S [ti,bi]:=Ix rfl
 refine hE.go XC (by decide) rfl ?_
 generalize hs:s.next=b
 have hs0:s=ext s []:=(Aa s).symm
 have hrd:An (ext s [R 3 0 false [iv id],R 3 1 false (Bn [ti,bi])]) (.slice (some (nid b 1,0)) 2 (some 2)) [ti,bi]:=.inr ⟨nid b 1,0,some 2,rfl,by rw[Wm,hs,AF,AF];simp,by rw[Wg hs (by simp)];exact Wj (aj _)⟩
 have hth:=fun(K:AV→AD→Prop)=>Iw (K:=K) hE (h.old (AQ (os:=[R 3 0 false [iv id],R 3 1 false (Bn [ti,bi])]))) (by omega) (hg.old AQ) hrd (by simp) (by simp)
 rw[hs0]
 simp only[aK,Ur,Us,Ut,Dk,G1,hs,Qa,Qb,Qc,Qd,Qe,Qf,Qg,Qh,Qi,Qj,Qk,Ql,Qm,Qn,true_and,and_true,Qo,Qp,Qq,Qr,Qs,Qt,Qu,Qv,Qw,Qx,Qy,Qz,Ra,Rb,Rc,Rd,Re,Rf,Rg,Rh,Ri,Rj,Rk,Rl,Rm,Ya,Yb,Yc,Rn,Ro,Xv,Yd,Ye,Rq,Rs,Rt,Ru,Rw,Rx,Ry,Rz,Wa,Wb,Wc,Wd,We,Wf,Wg,Wh,Wi,Wj,Wl,Wm,Wn,Wp,Wq,Wr,Ws,Wt,Wu,Wv,Ww,Wx,Wy,Wz,Xa,Xb,Xc,Xd,Xe,Xf,Xg,Xh,Xi,Xj,Xk,Xl,Xm,Xn,Xo,Xp,Xq,Xr,ao,au,ap,am,aw,ay,List.getElem?_cons_zero,List.getElem?_cons_succ,aq,az,bA,bB,ak,Nat.reduceAdd,Nat.reduceLT,Nat.reduceLeDiff,decide_true,decide_false,Bool.true_and,Bool.and_true,bC,aj,Option.some.injEq,Xs,Xt,Xu,Xv]
 refine hth _ fun w s1 O1 g1 g2 g3 g4 g5=>?_
 obtain⟨j,rfl,hgj,hjl,hjO,hjb⟩:=g5
 have hib:s1.heap.get (nid b 0)=some (R 3 0 false [iv id]):=by
  rw[g3.2 _ (by rw[Wm,hs,AF,AF];simp) (fun hm=>by have:=h.lt _ hm;rw[AF]at this;omega),Wg hs (by simp)];rfl
 have hnx:(ext s [R 3 0 false [iv id],R 3 1 false (Bn [ti,bi])]).next=b+2:=by rw[Wm,hs,AF];rfl
 rw[hnx]at hjb
 have hn1:=g3.1
 rw[hnx]at hn1
 have hf:Bu O s s1:=(AQ.frO O).trans g3 (AT.refl O s)
 have hgr:AT O O1 s:=AT.trans (AT.refl O s) g4 (by rw[hnx];omega)
 have hibO:nid b 0 ∉ O1:=fun hm=>(g4 _ hm).elim (fun hm=>by have:=h.lt _ hm;rw[AF]at this;omega) (fun hl=>by rw[hnx,AF]at hl;omega)
 have hlt1:=g1.lt
 generalize hs1:s1.next=b1 at hjl hn1 hlt1
 have hs10:s1=ext s1 []:=(Aa s1).symm
 have hst2:=g1.old (AQ (os:=[R 27 0 false [.slice (some (j,0)) 2 none]]))
 have hgl2:=g2.old (AQ (os:=[R 27 0 false [.slice (some (j,0)) 2 none]]))
 have hgj2:(ext s1 [R 27 0 false [.slice (some (j,0)) 2 none]]).heap.get j=some (R 3 1 true (Bn [(ix (DZ S.length S [ti,bi]) (As S ti):Int),(ix (DZ S.length S [ti,bi]) (As S bi):Int)])):=by
  rw[Wh (by omega)];exact hgj
 have hnx1:(ext s1 [R 27 0 false [.slice (some (j,0)) 2 none]]).next=b1+1:=by rw[Wm,hs1,AF];rfl
 have hi1:AK Tryz.prog 27 (.slice (some (j,0)) 2 none) (iv 0)=some (.ptr (some (j,0))):=AY (k:=0) (i:=j) (o:=0) (len:=2) (cap:=none) Tryz.underlying27 Ea (by omega)
 have hl0:Cv (s1.heap.get j) 0=some (iv (ix (DZ S.length S [ti,bi]) (As S ti):Int)):=by rw[hgj,Wi];rfl
 have htl:=Kp (n:=S.length) (S:=S) (l:=[ti,bi])
 simp only[bQ,List.map_nil,ao,au]
 rw[hs10]
 simp only[Uu,Qa,Qb,Qc,Qd,Qe,Qf,Qg,Qh,Qi,Qj,Qk,Ql,Qm,Qn,true_and,and_true,Qo,Qp,Qq,Qr,Qs,Qt,Qu,Qv,Qw,Qx,Qy,Qz,Ra,Rb,Rc,Rd,Re,Rf,Rg,Rh,Ri,Rj,Rk,Rl,Rm,Ya,Yb,Yc,Rn,Ro,Xv,Yd,Ye,Rq,Rs,Rt,Ru,Rw,Rx,Ry,hs1,hjl,aA,Z4,Ht,C6,hi1,hl0,Rz,Wa,Wb,Wc,Wd,We,Wf,Wg,Wh,Wi,Wj,Wl,Wm,Wn,Wp,Wq,Wr,Ws,Wt,Wu,Wv,Ww,Wx,Wy,Wz,Xa,Xb,Xc,Xd,Xe,Xf,Xg,Xh,Xi,Xj,Xk,Xl,Xm,Xn,Xo,Xp,Xq,Xr,ao,au,ap,am,aw,ay,List.getElem?_cons_zero,List.getElem?_cons_succ,aq,az,bA,bB,ak,Nat.reduceAdd,Nat.reduceLT,Nat.reduceLeDiff,decide_true,decide_false,Bool.true_and,Bool.and_true,bC,aj,Option.some.injEq,Xs,Xt,Xu,Xv]
 refine Od hE hst2 hgl2 (f:=CJ id (As S bi)) (L:=L) (by omega) (fun t ht _ k hk=>hLk t ht k hk) (Hc:=[(nid b1 0,R 27 0 false [.slice (some (j,0)) 2 none]),(nid b 0,R 3 0 false [iv id]),(j,R 3 1 true (Bn [(ix (DZ S.length S [ti,bi]) (As S ti):Int),(ix (DZ S.length S [ti,bi]) (As S bi):Int)]))]) ?_ (YL hE (hm bi (by simp))) (hm ti (by simp)) htL ?_
 ·intro x hx
  simp only[bT,bm,or_false]at hx
  rw[hnx1]
  rcases hx with rfl | rfl | rfl
  ·exact⟨by rw[Wg hs1 (by simp)];rfl,by rw[AF];omega,fun hm=>by have:=hlt1 _ hm;rw[AF]at this;omega⟩
  ·exact⟨by rw[Wh (by rw[AF];omega)];exact hib,by rw[AF];omega,hibO⟩
  ·exact⟨hgj2,by omega,hjO⟩
 ·intro s' S' O' k1 k2 k3 k4 k5 k6 k7 k8
  simp only[Qa,Qb,Qc,Qd,Qe,Qf,Qg,Qh,Qi,Qj,Qk,Ql,Qm,Qn,true_and,and_true,Qo,Qp,Qq,Qr,Qs,Qt,Qu,Qv,Qw,Qx,Qy,Qz,Ra,Rb,Rc,Rd,Re,Rf,Rg,Rh,Ri,Rj,Rk,Rl,Rm,Ya,Yb,Yc,Rn,Ro,Xv,Yd,Ye,Rq,Rs,Rt,Ru,Rw,Rx,Ry]
  have hf2:Bu O1 s1 s':=(AQ.frO O1).trans k3 (AT.refl O1 s1)
  exact hK s' S' O' k1 k2 (hf.trans hf2 hgr) (hgr.trans (AT.trans (AT.refl O1 s1) k4 (by rw[hnx1,hs1];omega)) hf.1) k5 (by omega) k7 k8
def Bh(s:AD)(O:List Nat)(v:AV)(l:List Int):Prop:=∃Hv:List (Nat×Ac),(∀x∈Hv,s.heap.get x.1=some x.2∧x.1<s.next∧x.1 ∉ O)∧∀s':AD,(∀x∈Hv,s'.heap.get x.1=some x.2∧x.1<s'.next)→An s' v l
theorem Bh.step{s s':AD}{O O':List Nat}{v:AV}{l:List Int}(h:Bh s O v l)(f:Bu O s s')(g:AT O O' s):Bh s' O' v l:=by
 obtain⟨Hv,h1,h2⟩:=h
 refine⟨Hv,fun x hx=>?_,h2⟩
 obtain⟨q1,q2,q3⟩:=h1 x hx
 exact⟨by rw[f.2 _ q2 q3];exact q1,bG q2 f.1,fun hm=>(g _ hm).elim q3 (fun hl=>by omega)⟩
theorem Bh.rd{s:AD}{O:List Nat}{v:AV}{l:List Int}(h:Bh s O v l):An s v l:=by
 obtain⟨Hv,h1,h2⟩:=h
 exact h2 s fun x hx=>⟨(h1 x hx).1,(h1 x hx).2.1⟩
theorem Bh.nil(s:AD)(O:List Nat):Bh s O (.slice none 0 (some 0)) []:=⟨[],fun _ h=>absurd h (by simp),fun _ _=>.inl ⟨rfl,rfl⟩⟩
theorem Bh.of{s:AD}{O:List Nat}{j q:Nat}{cap:Option Nat}{ob:Ac}{l:List Int}(hg:s.heap.get j=some ob)(hl:j<s.next)(hO:j ∉ O)(hr:BB (some ob) q l.length=some (Bn l)):Bh s O (.slice (some (j,q)) l.length cap) l:=
 ⟨[(j,ob)],fun x hx=>by rw[List.mem_singleton.1 hx];exact⟨hg,hl,hO⟩,fun s' h=>by
  have:=h (j,ob) (by simp)
  exact .inr ⟨j,q,cap,rfl,this.2,by rw[this.1];exact hr⟩⟩
end
end Go.Proofs.YtickdehehcmfbaaGreatDoor.Am
