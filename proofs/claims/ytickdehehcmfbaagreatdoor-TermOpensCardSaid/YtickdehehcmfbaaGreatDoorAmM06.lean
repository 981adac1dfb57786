/- What put does to a store, walked; conditions: none. -/
import Derived.Test.YtickdehehcmfbaaGreatDoorAmM05
set_option linter.unusedVariables false
set_option linter.unusedSimpArgs false
namespace Go.Proofs.YtickdehehcmfbaaGreatDoor.Am
open Go Go.Proofs
noncomputable section
theorem AM{s:AD}{os:List Ae}:BK s.next s (ext s os):=⟨by rw[Wm,AF];omega,fun j hj=>Wh hj⟩
theorem BK.frO{s s':AD}(O:List Nat)(h:BK s.next s s'):Bk O s s':=⟨h.1,fun j hj _=>h.2 j hj⟩
theorem Bd.old{s s':AD}{S l:List Tm}{v:AV}(h:Bd s S l v)(k:BK s.next s s'):Bd s' S l v:=by
 rcases h with h | ⟨j,q,cap,h1,h2,h3,h4⟩
 ·exact .inl h
 ·exact .inr ⟨j,q,cap,h1,h2,cg h3 k.1,by rw[k.2 j h3];exact h4⟩
theorem NS(k:Int):CI Tryz.prog 3 (iv k)=A9 .i64 k:=by kernel_rfl
theorem MS{s:AD}{i:Nat}{ks:List Int}{k:Int}(hg:s.heap.get i=some (.map 3 (A6 ks)))(hk:i64 k):
  B1 Tryz.prog s 68 (.map (some i)) (iv k) (iv 1)=some (setObj s i (.map 3 (A6 (Fv ks k)))):=by
 unfold B1
 simp only[Tryz.underlying68,NS,BV hk,Xa,Ea,hg,Db,Option.bind_some,Jz]
set_option maxRecDepth 20000 in
theorem Uf      {E : Bb}  (hE : Ah    E) {s : AD}  {p : Nat} {S : List Tm} {O : List Nat} (h : AS      s p S O) (hsm : S.length < 100000) (u : Tm) (hk : ∀ k ∈ u.kids, k ∈ S) (ho : u.ok) {pv : AV} (hp : Bd      s S u.kids pv) :
    WF E 32 [.ptr (some (p,0)),.agg [iv u.kind,iv u.id,iv 0,iv 0,iv 0,.str u.ktext],.agg u.cells,pv] (fun r s'=>r=iv (ix (push S u) u:Int)∧∃O',AS s' p (push S u) O'∧Bk O s s'∧AR O O' s) s:=by
  obtain⟨tv,fi,vm,OT,e⟩:=h.ex
  have hc7:=Dm ho
  obtain⟨c0,c1,c2,c3,c4,c5,c6,hc,d0,d1,d2,d3,d4,d5,d6⟩:=u.cells7 ho
  refine hE.go Yh (by decide) rfl ?_
  have hplt:=e.plt
  have hflt:=e.flt
  have hobj:=e.obj
  have hfnd:=e.fnd
  have hlen:=Pc hp
  generalize hs:s.next=b at hplt hflt
  have hs0:s=ext s []:=(Ac s).symm
  have hcp:=fun s' (hh:Bd s' S u.kids pv) i o=>Mq (s:=s') (i:=i) (o:=o) (EV u) hh
  have hpe:∀os,Bd (ext s os) S u.kids pv:=fun os=>hp.old AM
  generalize hK:(fun r s'=>r=iv (ix (push S u) u:Int)∧∃O',AS s' p (push S u) O'∧Bk O s s'∧AR O O' s)=K
  rw[hs0]
  simp only[bn,Vb,Vc,hs,Qa,Qb,Qc,Qd,Qe,Qf,Qg,Qh,Qi,Qj,Qk,Ql,Qm,Qn,true_and,and_true,Qo,Qp,Qq,Qr,Qs,Qt,Qu,Qv,Qw,Qx,Qy,Qz,Ra,Rb,Rc,Rd,Re,Rf,Rg,Rh,Ri,Rj,Rk,Rl,Rm,Ya,Yb,Yc,Rn,Ro,Xv,Yd,Ye,Rq,Rs,Rt,Ru,Rw,Rx,Ry,Rz,Wa,Wb,Wc,Wd,We,Wf,Wg,Wh,Wi,Wj,Wl,Wm,Wn,Wp,Wq,Wr,Ws,Wt,Wu,Wv,Ww,Wx,Wy,Wz,Xa,Xb,Xc,Xd,Xe,Xf,Xg,Xh,Xi,Xj,Xk,Xl,Xm,Xn,Xo,Xp,Xq,Xr,cN,cP,cO,cL,cQ,cR,List.getElem?_cons_zero,List.getElem?_cons_succ,cM,cT,cU,cV,cK,Nat.reduceAdd,Nat.reduceLT,Nat.reduceLeDiff,decide_true,decide_false,Bool.true_and,Bool.and_true,cW,cJ,Option.some.injEq,Xs,Xt,Xu,Xv,SN,Ua,hcp _ (hpe _),Sg hs]
  have hlk:∀os,Bz Tryz.prog (ext s os) 60 (.map (some fi)) (.agg (BG S u)) true=some (.tuple [if u∈S then iv (ix S u:Int)else iv 0,.bool (decide (u∈S))]):=fun os =>
    Kn (by rw[Wh (by rw[hs];exact hflt),hfnd]) h.ok hsm hk ho
  simp only[BG]at hlk
  simp only[Vd,SM,Zr,YH,ZV,hplt,hobj,hs,hlk,BG,Qa,Qb,Qc,Qd,Qe,Qf,Qg,Qh,Qi,Qj,Qk,Ql,Qm,Qn,true_and,and_true,Qo,Qp,Qq,Qr,Qs,Qt,Qu,Qv,Qw,Qx,Qy,Qz,Ra,Rb,Rc,Rd,Re,Rf,Rg,Rh,Ri,Rj,Rk,Rl,Rm,Ya,Yb,Yc,Rn,Ro,Xv,Yd,Ye,Rq,Rs,Rt,Ru,Rw,Rx,Ry,Rz,Wa,Wb,Wc,Wd,We,Wf,Wg,Wh,Wi,Wj,Wl,Wm,Wn,Wp,Wq,Wr,Ws,Wt,Wu,Wv,Ww,Wx,Wy,Wz,Xa,Xb,Xc,Xd,Xe,Xf,Xg,Xh,Xi,Xj,Xk,Xl,Xm,Xn,Xo,Xp,Xq,Xr,cN,cP,cO,cL,cQ,cR,List.getElem?_cons_zero,List.getElem?_cons_succ,cM,cT,cU,cV,cK,Nat.reduceAdd,Nat.reduceLT,Nat.reduceLeDiff,decide_true,decide_false,Bool.true_and,Bool.and_true,cW,cJ,Option.some.injEq,Xs,Xt,Xu,Xv]
  by_cases hu:u∈S
  · simp only [QV,    Ve,    hu, if_true, Qa, Qb, Qc, Qd, Qe, Qf, Qg, Qh, Qi, Qj, Qk, Ql, Qm, Qn, true_and, and_true, Qo, Qp, Qq, Qr, Qs, Qt, Qu, Qv, Qw, Qx, Qy, Qz, Ra, Rb, Rc, Rd, Re, Rf, Rg, Rh, Ri, Rj, Rk, Rl, Rm, Ya, Yb, Yc, Rn, Ro, Xv, Yd, Ye, Rq, Rs, Rt, Ru, Rw, Rx, Ry, Rz, Wa, Wb, Wc, Wd, We, Wf, Wg, Wh, Wi, Wj, Wl, Wm, Wn, Wp, Wq, Wr, Ws, Wt, Wu, Wv, Ww, Wx, Wy, Wz, Xa, Xb, Xc, Xd, Xe, Xf, Xg, Xh, Xi, Xj, Xk, Xl, Xm, Xn, Xo, Xp, Xq, Xr, cN,               cP,              cO,               cL,              cQ,                 cR,                 List.getElem?_cons_zero, List.getElem?_cons_succ, cM,             cT,                  cU,                  cV,             cK,           Nat.reduceAdd, Nat.reduceLT, Nat.reduceLeDiff, decide_true, decide_false, Bool.true_and, Bool.and_true, cW,             cJ,          Option.some.injEq, Xs, Xt, Xu, Xv]
    subst hK
    have hpu:push S u=S:=if_pos hu
    rw[hpu]
    exact⟨rfl,O,h.old AM,AM.frO O,AR.refl O s⟩
  · have hpu : push S u = S ++ [u] := if_neg hu
    have hfin:∀s' O',AS s' p (S++[u]) O'→Bk O s s'→AR O O' s→K (iv (S.length:Int)) s':=fun s' O' h1 h2 h3=>by
      subst hK
      rw[hpu]
      exact⟨by rw[Sd hu],O',h1,h2,h3⟩
    simp only[QV,Vf,Vg,hu,if_false,hc,YH,ZV,II,H0,hlen,OL,QE,Za,K3,To,CV,Dv,d0,d1,d2,d3,d4,d5,d6,hs,Rw,Qa,Qb,Qc,Qd,Qe,Qf,Qg,Qh,Qi,Qj,Qk,Ql,Qm,Qn,true_and,and_true,Qo,Qp,Qq,Qr,Qs,Qt,Qu,Qv,Qw,Qx,Qy,Qz,Ra,Rb,Rc,Rd,Re,Rf,Rg,Rh,Ri,Rj,Rk,Rl,Rm,Ya,Yb,Yc,Rn,Ro,Xv,Yd,Ye,Rq,Rs,Rt,Ru,Rw,Rx,Ry,Rz,Wa,Wb,Wc,Wd,We,Wf,Wg,Wh,Wi,Wj,Wl,Wm,Wn,Wp,Wq,Wr,Ws,Wt,Wu,Wv,Ww,Wx,Wy,Wz,Xa,Xb,Xc,Xd,Xe,Xf,Xg,Xh,Xi,Xj,Xk,Xl,Xm,Xn,Xo,Xp,Xq,Xr,cN,cP,cO,cL,cQ,cR,List.getElem?_cons_zero,List.getElem?_cons_succ,cM,cT,cU,cV,cK,Nat.reduceAdd,Nat.reduceLT,Nat.reduceLeDiff,decide_true,decide_false,Bool.true_and,Bool.and_true,cW,cJ,Option.some.injEq,Xs,Xt,Xu,Xv]
    have hpb:=fun os=>hpe os
    have hmain:∀ (ks:List Int) (a10 a12 a16:AV),ks.Nodup→ks.length≤100000→(∀x,(x∈ks∨∃t∈u.kids,t.has x=true)↔u.has x=true) →
        Qb E QW (fun v s'=>WC E none (AW.loop G2) (Ab 0 (Hy (fun x x_3 x_4=>Qb E KT (fun v s'=>Qb E KU (fun v s'=>Qb E KW (fun v s'=>JO (B5 s' x_3) fun s'=>K (Iu v 6) s') [] v s') [] v s') [] x x_4) (Ends Tryz.prog [(CX.var 6,none)] K))) v [] s') []
          [.ptr (some (p,0)),.agg [iv u.kind,iv u.id,iv 0,iv 0,iv 0,.str u.ktext],.agg [c0,c1,c2,c3,c4,c5,c6],pv,.ptr (some (nid b 0,0)),.ptr (some (nid b 1,0)),.int .i64 0,iv 0,.bool false,.ptr (some (nid b 3,0)),a10,.bool false,a12,A7,A7,A7,a16]
          (ext s [R 65 0 false [iv u.kind,iv u.id,iv (part S u 0),iv (part S u 1),iv (part S u 2),.str u.ktext],R 43 0 false [c0,c1,c2,c3,c4,c5,c6],.map 3 (A6 ks),
            R 70 0 false [iv u.kind,iv u.id,iv (part S u 0),iv (part S u 1),iv (part S u 2),.str u.ktext,c0,c1,c2,c3,c4,c5,c6,iv (u.kids.length:Int),iv ((1:Nat):Int),.map (some (nid b 2))]]):=by
      intro ks a10 a12 a16 hn hl hx
      simp only[QW,hlen,Qa,Qb,Qc,Qd,Qe,Qf,Qg,Qh,Qi,Qj,Qk,Ql,Qm,Qn,true_and,and_true,Qo,Qp,Qq,Qr,Qs,Qt,Qu,Qv,Qw,Qx,Qy,Qz,Ra,Rb,Rc,Rd,Re,Rf,Rg,Rh,Ri,Rj,Rk,Rl,Rm,Ya,Yb,Yc,Rn,Ro,Xv,Yd,Ye,Rq,Rs,Rt,Ru,Rw,Rx,Ry,Rz,Wa,Wb,Wc,Wd,We,Wf,Wg,Wh,Wi,Wj,Wl,Wm,Wn,Wp,Wq,Wr,Ws,Wt,Wu,Wv,Ww,Wx,Wy,Wz,Xa,Xb,Xc,Xd,Xe,Xf,Xg,Xh,Xi,Xj,Xk,Xl,Xm,Xn,Xo,Xp,Xq,Xr,cN,cP,cO,cL,cQ,cR,List.getElem?_cons_zero,List.getElem?_cons_succ,cM,cT,cU,cV,cK,Nat.reduceAdd,Nat.reduceLT,Nat.reduceLeDiff,decide_true,decide_false,Bool.true_and,Bool.and_true,cW,cJ,Option.some.injEq,Xs,Xt,Xu,Xv]
      refine Sy hE e h.ok hp (EV u) hk _ _ _ _ _ _ _ _ _ _ _ _ _ _ _ _ _ _ _ _ _ _ _ _ hs u.kids [] ks 1 _ _ rfl hn (by simp;omega) (by omega) ?_
      intro ks' b10 b15 b16 hn' hx'
      simp only[Qa,Qb,Qc,Qd,Qe,Qf,Qg,Qh,Qi,Qj,Qk,Ql,Qm,Qn,true_and,and_true,Qo,Qp,Qq,Qr,Qs,Qt,Qu,Qv,Qw,Qx,Qy,Qz,Ra,Rb,Rc,Rd,Re,Rf,Rg,Rh,Ri,Rj,Rk,Rl,Rm,Ya,Yb,Yc,Rn,Ro,Xv,Yd,Ye,Rq,Rs,Rt,Ru,Rw,Rx,Ry,Rz,Wa,Wb,Wc,Wd,We,Wf,Wg,Wh,Wi,Wj,Wl,Wm,Wn,Wp,Wq,Wr,Ws,Wt,Wu,Wv,Ww,Wx,Wy,Wz,Xa,Xb,Xc,Xd,Xe,Xf,Xg,Xh,Xi,Xj,Xk,Xl,Xm,Xn,Xo,Xp,Xq,Xr,cN,cP,cO,cL,cQ,cR,List.getElem?_cons_zero,List.getElem?_cons_succ,cM,cT,cU,cV,cK,Nat.reduceAdd,Nat.reduceLT,Nat.reduceLeDiff,decide_true,decide_false,Bool.true_and,Bool.and_true,cW,cJ,Option.some.injEq,Xs,Xt,Xu,Xv]
      rw[if_pos trivial,Tb]
      have:=UR (E:=E) e h.ok hsm hk ho hu (.agg [iv u.kind,iv u.id,iv 0,iv 0,iv 0,.str u.ktext]) (.agg [c0,c1,c2,c3,c4,c5,c6]) pv (.ptr (some (nid b 1,0))) (.int .i64 0) (iv 0) (.bool false) b10 (.bool false) a12 pv (iv (u.kids.length:Int)) b15 b16 (R 43 0 false [c0,c1,c2,c3,c4,c5,c6]) hs hn' (fun x=>by rw[hx',hx]) hfin
      simp only[BH,BG,hc,cO,cL]at this
      exact this
    by_cases hu0:u.kind=0
    · have hv:∃i,u=.var i:=by
        cases u<;>first | exact⟨_,rfl⟩ | (cases hu0;done)
      have hid:i64 u.id:=by obtain⟨i,rfl⟩:=hv;exact ho
      have hup:∀os,(ext s os).heap.get (nid b 2)=some (.map 3 [])→B1 Tryz.prog (ext s os) 68 (.map (some (nid b 2))) (iv u.id) (iv 1)=some (setObj (ext s os) (nid b 2) (.map 3 (A6 [u.id]))):=fun os hg=>MS (ks:=[]) hg hid
      have hd:decide (u.kind=0)=true:=decide_eq_true hu0
      rw[hd,Qu]
      simp only[Vh,On,CV,SP,EQ,hs,Qa,Qb,Qc,Qd,Qe,Qf,Qg,Qh,Qi,Qj,Qk,Ql,Qm,Qn,true_and,and_true,Qo,Qp,Qq,Qr,Qs,Qt,Qu,Qv,Qw,Qx,Qy,Qz,Ra,Rb,Rc,Rd,Re,Rf,Rg,Rh,Ri,Rj,Rk,Rl,Rm,Ya,Yb,Yc,Rn,Ro,Xv,Yd,Ye,Rq,Rs,Rt,Ru,Rw,Rx,Ry,Rz,Wa,Wb,Wc,Wd,We,Wf,Wg,Wh,Wi,Wj,Wl,Wm,Wn,Wp,Wq,Wr,Ws,Wt,Wu,Wv,Ww,Wx,Wy,Wz,Xa,Xb,Xc,Xd,Xe,Xf,Xg,Xh,Xi,Xj,Xk,Xl,Xm,Xn,Xo,Xp,Xq,Xr,cN,cP,cO,cL,cQ,cR,List.getElem?_cons_zero,List.getElem?_cons_succ,cM,cT,cU,cV,cK,Nat.reduceAdd,Nat.reduceLT,Nat.reduceLeDiff,decide_true,decide_false,Bool.true_and,Bool.and_true,cW,cJ,Option.some.injEq,Xs,Xt,Xu,Xv]
      rw[hup _ (by rw[Wg hs (by simp)];rfl),Wn _ hs (by simp)]
      refine hmain [u.id] _ _ _ (by simp) (by simp) (fun x=>?_)
      obtain⟨i,rfl⟩:=hv
      show(x∈[i]∨∃t∈[],_)↔decide (i=x)=true
      simp only[List.mem_singleton,dS,false_and,exists_false,or_false,decide_eq_true_eq]
      exact eq_comm
    · simp only[hu0,decide_false,Qa,Qb,Qc,Qd,Qe,Qf,Qg,Qh,Qi,Qj,Qk,Ql,Qm,Qn,true_and,and_true,Qo,Qp,Qq,Qr,Qs,Qt,Qu,Qv,Qw,Qx,Qy,Qz,Ra,Rb,Rc,Rd,Re,Rf,Rg,Rh,Ri,Rj,Rk,Rl,Rm,Ya,Yb,Yc,Rn,Ro,Xv,Yd,Ye,Rq,Rs,Rt,Ru,Rw,Rx,Ry,Rz,Wa,Wb,Wc,Wd,We,Wf,Wg,Wh,Wi,Wj,Wl,Wm,Wn,Wp,Wq,Wr,Ws,Wt,Wu,Wv,Ww,Wx,Wy,Wz,Xa,Xb,Xc,Xd,Xe,Xf,Xg,Xh,Xi,Xj,Xk,Xl,Xm,Xn,Xo,Xp,Xq,Xr,cN,cP,cO,cL,cQ,cR,List.getElem?_cons_zero,List.getElem?_cons_succ,cM,cT,cU,cV,cK,Nat.reduceAdd,Nat.reduceLT,Nat.reduceLeDiff,decide_true,decide_false,Bool.true_and,Bool.and_true,cW,cJ,Option.some.injEq,Xs,Xt,Xu,Xv]
      refine hmain [] _ _ _ db (by simp) (fun x=>?_)
      cases u<;>first | exact absurd rfl hu0 | simp[Tm.kids,Tm.has,or_assoc]
theorem DI(i o:Nat):AQ Tryz.prog .eql 25 (.ptr (some (i,o))) (.ptr none)=some (.bool false):=by kernel_rfl
theorem An(P:Program)(s:AD)(v:List AV)(x:CX)(t:TypeId)(l:List (CX×Option TypeId)):BD P s v ((x,some t)::l)=(AG P s t (CH [] v x)).bind fun u=>(BD P s v l).bind fun r=>some (u::r):=rfl
theorem ZI{S:List Tm}{t:Tm}:decide ((ix S t:Int)<0)=false:=by simp
theorem ae{S:List Tm}{t:Tm}(h:t∈S):decide ((S.length:Int)≤(ix S t:Int))=false:=by have:=E8 h;simp;omega
def Zk(s:AD)(S:List Tm)(t:Tm)(r:AV):Prop:=∃m,r=.agg (BH S t m)∧Gy s m t∧m<s.next
theorem Ur{E:Bb}(hE:Ah E){s:AD}{p:Nat}{S:List Tm}{O:List Nat}(h:AS s p S O){t:Tm}(ht:t∈S){K:AV→AD→Prop}
  (hK:∀r s',BK s.next s s'→Zk s' S t r→K r s'):WF E 39 [.ptr (some (p,0)),iv (ix S t:Int)] K s:=by
 obtain⟨tv,fi,vm,OT,e⟩:=h.ex
 obtain⟨m,j,r,hvm,rfl,hjO,hjr,hln,_⟩:=e.entry h.ok (C0 ht)
 obtain⟨hva,hmb,_⟩:=e.vars _ _ _ (C0 ht) hvm
 obtain⟨c0,c1,c2,c3,c4,c5,c6,hc,d0,d1,d2,d3,d4,d5,d6⟩:=t.cells7 (h.ok.ok t ht)
 rw[← hjr]at hln
 have hent:BH S t m=[iv t.kind,iv t.id,iv (part S t 0),iv (part S t 1),iv (part S t 2),.str t.ktext,c0,c1,c2,c3,c4,c5,c6,iv (t.kids.length:Int),iv (t.sz:Int),.map (some m)]:=by
  simp only[BH,BG,hc,cO,cL]
 rw[hent]at hln
 refine hE.go Yn (by decide) rfl ?_
 have hplt:=e.plt
 have hjlt:=e.lt j hjO
 have hobj:=e.obj
 generalize hs:s.next=b at hplt hjlt hmb hK
 have hs0:s=ext s []:=(Ac s).symm
 have hfin:∀os,K (.agg (BH S t m)) (ext s os):=fun os=>hK _ _ (by rw[← hs];exact AM) ⟨m,rfl,hva.frame (Wh (by omega)),by rw[Wm,AF];omega⟩
 rw[hent]at hfin
 rw[hs0]
 simp only[bv,V1,V2,V3,V4,Za,hs,DI,Rq,Ru,ZI,ae ht,hplt,hjlt,hobj,G8,Om,To,K3,Af Tryz.underlying59,AU Tryz.underlying59 K3 (E8 ht),hln,An,d0,d1,d2,d3,d4,d5,d6,Qa,Qb,Qc,Qd,Qe,Qf,Qg,Qh,Qi,Qj,Qk,Ql,Qm,Qn,true_and,and_true,Qo,Qp,Qq,Qr,Qs,Qt,Qu,Qv,Qw,Qx,Qy,Qz,Ra,Rb,Rc,Rd,Re,Rf,Rg,Rh,Ri,Rj,Rk,Rl,Rm,Ya,Yb,Yc,Rn,Ro,Xv,Yd,Ye,Rq,Rs,Rt,Ru,Rw,Rx,Ry,Rz,Wa,Wb,Wc,Wd,We,Wf,Wg,Wh,Wi,Wj,Wl,Wm,Wn,Wp,Wq,Wr,Ws,Wt,Wu,Wv,Ww,Wx,Wy,Wz,Xa,Xb,Xc,Xd,Xe,Xf,Xg,Xh,Xi,Xj,Xk,Xl,Xm,Xn,Xo,Xp,Xq,Xr,cN,cP,cO,cL,cQ,cR,List.getElem?_cons_zero,List.getElem?_cons_succ,cM,cT,cU,cV,cK,Nat.reduceAdd,Nat.reduceLT,Nat.reduceLeDiff,decide_true,decide_false,Bool.true_and,Bool.and_true,cW,cJ,Option.some.injEq,Xs,Xt,Xu,Xv]
 exact hfin _
section
variable{E:Bb}(hE:Ah E){s:AD}{p:Nat}{S:List Tm}{O:List Nat}(h:AS s p S O){t:Tm}(ht:t∈S){K:AV→AD→Prop}
include hE h ht
theorem UY(hK:∀s',BK s.next s s'→K (iv (t.sz:Int)) s'):WF E 15 [.ptr (some (p,0)),iv (ix S t:Int)] K s:=by
 refine hE.go YU (by decide) rfl ?_
 simp only[bf,U8,Qa,Qb,Qc,Qd,Qe,Qf,Qg,Qh,Qi,Qj,Qk,Ql,Qm,Qn,true_and,and_true,Qo,Qp,Qq,Qr,Qs,Qt,Qu,Qv,Qw,Qx,Qy,Qz,Ra,Rb,Rc,Rd,Re,Rf,Rg,Rh,Ri,Rj,Rk,Rl,Rm,Ya,Yb,Yc,Rn,Ro,Xv,Yd,Ye,Rq,Rs,Rt,Ru,Rw,Rx,Ry]
 simp only[U9,Qa,Qb,Qc,Qd,Qe,Qf,Qg,Qh,Qi,Qj,Qk,Ql,Qm,Qn,true_and,and_true,Qo,Qp,Qq,Qr,Qs,Qt,Qu,Qv,Qw,Qx,Qy,Qz,Ra,Rb,Rc,Rd,Re,Rf,Rg,Rh,Ri,Rj,Rk,Rl,Rm,Ya,Yb,Yc,Rn,Ro,Xv,Yd,Ye,Rq,Rs,Rt,Ru,Rw,Rx,Ry]
 refine Ur hE h ht fun r s' ho he=>?_
 obtain⟨m,rfl,_,_⟩:=he
 obtain⟨c0,c1,c2,c3,c4,c5,c6,hc,_⟩:=t.cells7 (h.ok.ok t ht)
 simp only[Qa,Qb,Qc,Qd,Qe,Qf,Qg,Qh,Qi,Qj,Qk,Ql,Qm,Qn,true_and,and_true,Qo,Qp,Qq,Qr,Qs,Qt,Qu,Qv,Qw,Qx,Qy,Qz,Ra,Rb,Rc,Rd,Re,Rf,Rg,Rh,Ri,Rj,Rk,Rl,Rm,Ya,Yb,Yc,Rn,Ro,Xv,Yd,Ye,Rq,Rs,Rt,Ru,Rw,Rx,Ry,BH,BG,hc,ZB,Rz,Wa,Wb,Wc,Wd,We,Wf,Wg,Wh,Wi,Wj,Wl,Wm,Wn,Wp,Wq,Wr,Ws,Wt,Wu,Wv,Ww,Wx,Wy,Wz,Xa,Xb,Xc,Xd,Xe,Xf,Xg,Xh,Xi,Xj,Xk,Xl,Xm,Xn,Xo,Xp,Xq,Xr,cN,cP,cO,cL,cQ,cR,List.getElem?_cons_zero,List.getElem?_cons_succ,cM,cT,cU,cV,cK,Nat.reduceAdd,Nat.reduceLT,Nat.reduceLeDiff,decide_true,decide_false,Bool.true_and,Bool.and_true,cW,cJ,Option.some.injEq,Xs,Xt,Xu,Xv]
 exact hK s' ho
end
def BP(l:List Int):List AV:=l.map iv
theorem FP(l:List Int):Aa (BP l)=true:=by
 induction l with
 | nil=>rfl
 | cons a l ih=>exact ih
theorem BI(l:List Int):(BP l).length=l.length:=co ..
theorem OJ{l:List Int}{k:Nat}{x:Int}(h:l[k]? = some x):(BP l)[k]? = some (iv x):=by rw[BP,dG,h];rfl
def Ad(s:AD)(v:AV)(l:List Int):Prop:=
 (l=[]∧v=.slice none 0 (some 0))∨∃j q cap,v=.slice (some (j,q)) l.length cap∧j<s.next∧BF (s.heap.get j) q l.length=some (BP l)
theorem Ad.old{s s':AD}{v:AV}{l:List Int}(h:Ad s v l)(k:BK s.next s s'):Ad s' v l:=by
 rcases h with h | ⟨j,q,cap,h2,h3,h4⟩
 ·exact .inl h
 ·exact .inr ⟨j,q,cap,h2,cg h3 k.1,by rw[k.2 j h3];exact h4⟩
theorem Ad.at{s:AD}{l:List Int}{v:AV}(h:Ad s v l){k:Nat}{x:Int}(hk:l[k]? = some x):∃j q cap,v=.slice (some (j,q)) l.length cap∧j<s.next∧CW (s.heap.get j) (q+k)=some (iv x):=by
 rcases h with⟨rfl,rfl⟩ | ⟨j,q,cap,rfl,h1,h2⟩
 ·simp at hk
 ·have hlt:k<l.length:=by
   rcases cZ k l.length with h' | h'
   ·exact h'
   ·rw[cm h']at hk;cases hk
  exact⟨j,q,cap,rfl,h1,by rw[Ln h2 hlt];exact OJ hk⟩
theorem Ad.len{s:AD}{l:List Int}{v:AV}(h:Ad s v l)(s':AD):BN Tryz.prog s' 27 v=some (iv (l.length:Int)):=by
 rcases h with⟨rfl,rfl⟩ | ⟨j,q,cap,rfl,_⟩<;>exact Af Tryz.underlying27
theorem Ad.parts{s:AD}{S l:List Tm}{v:AV}(h:Ad s v (l.map fun t=>(ix S t:Int)))(h0:0<l.length):Bd s S l v:=by
 have he:BP (l.map fun t=>(ix S t:Int))=FE S l:=by simp[BP,FE]
 rcases h with⟨h1,rfl⟩ | ⟨j,q,cap,rfl,h1,h2⟩
 ·exact .inl ⟨by simpa using h1,rfl⟩
 ·rw[he,co]at h2
  exact .inr ⟨j,q,cap,by rw[co],h0,h1,h2⟩
theorem Pi:AY Tryz.prog 27 0 (zipIdx [] [])=some (R 3 1 false []):=by kernel_rfl
theorem Sa(j q n:Nat)(cap:Option Nat):AQ Tryz.prog .eql 27 (.slice (some (j,q)) n cap) (.slice none 0 (some 0))=some (.bool false):=by kernel_rfl
theorem JG:B6 Tryz.prog 3 1=true:=by kernel_rfl
theorem FW:BW Tryz.prog 27=true:=by kernel_rfl
theorem FI{s:AD}{v:AV}{l:List Int}(h:Ad s v l):CU Tryz.prog s 3 1 v=some (l.length,BP l):=by
  rcases h with⟨rfl,rfl⟩ | ⟨j,q,cap,rfl,h1,h2⟩
  · rfl
  · show(JR s j q l.length 1).bind _=_
    by_cases h0:l.length=0
    · have:l=[]:=dU h0
      subst this
      rfl
    · rw [show JR   s j q l.length 1 = BX    s j q (l.length * 1) from by unfold JR;   rw [H2      h0]; rfl, ct,          EY,      h2]
      rfl
theorem LG{s:AD}{i:Nat}{sp:Bool}{v:AV}{l:List Int}(hi:s.heap.get i=some (R 3 1 sp []))(h:Ad s v l)(h0:0<l.length)(hl:l.length≤1000000):
  Aj Tryz.prog s [27,27] [.slice (some (i,0)) 0 (some 0),v]=some (.slice (some (s.next,0)) l.length none,newObj s (R 3 1 true (BP l))):=by
 have hsrc:=FI h
 have hv:∃a n c,v=.slice a n c:=by
  rcases h with⟨_,rfl⟩ | ⟨_,_,_,rfl,_⟩<;>exact⟨_,_,_,rfl⟩
 obtain⟨a,n,c,rfl⟩:=hv
 have h1:Nat.ble (l.length * 8) 1099511627776=true:=CO (by omega)
 have h2:Nat.ble l.length 1099511627776=true:=CO (by omega)
 have h3:Nat.ble l.length 0=false:=KL (by omega)
 have h4:BX s i 0 (0 * 1)=some []:=by
  rw[EY,hi];rfl
 simp only[Aj,Tryz.underlying27,Dt,Zb,Option.bind_some,hsrc,FW,FP,h1,h2,appTo,Er,h3,h4,cond_false,Bp,JG,cL,Xa,Bool.and_self,cK]
 rfl
theorem R4{E:Bb}(hE:Ah E){s:AD}{v:AV}{l:List Int}(h:Ad s v l)(h0:0<l.length)(hl:l.length≤1000000){K:AV→AD→Prop}
  (hK:K (.slice (some (nid s.next 1,0)) l.length none) (ext s [R 3 1 false [],R 3 1 true (BP l)])):WF E 43 [v] K s:=by
 refine hE.go Yr (by decide) rfl ?_
 have hv:∃j q c,v=.slice (some (j,q)) l.length c:=by
  rcases h with⟨rfl,_⟩ | ⟨_,_,_,rfl,_⟩
  ·cases h0
  ·exact⟨_,_,_,rfl⟩
 obtain⟨j,q,c,rfl⟩:=hv
 generalize hs:s.next=b at hK
 have hs0:s=ext s []:=(Ac s).symm
 have happ:=LG (s:=ext s [R 3 1 false []]) (i:=nid b 0) (by rw[Wg hs (by simp)];rfl) (h.old AM) h0 hl
 rw[Wm,hs,Wl]at happ
 rw[hs0]
 simp only[bz,WZ,Wo,W0,Sa,Pi,hs,happ,Qa,Qb,Qc,Qd,Qe,Qf,Qg,Qh,Qi,Qj,Qk,Ql,Qm,Qn,true_and,and_true,Qo,Qp,Qq,Qr,Qs,Qt,Qu,Qv,Qw,Qx,Qy,Qz,Ra,Rb,Rc,Rd,Re,Rf,Rg,Rh,Ri,Rj,Rk,Rl,Rm,Ya,Yb,Yc,Rn,Ro,Xv,Yd,Ye,Rq,Rs,Rt,Ru,Rw,Rx,Ry,Rz,Wa,Wb,Wc,Wd,We,Wf,Wg,Wh,Wi,Wj,Wl,Wm,Wn,Wp,Wq,Wr,Ws,Wt,Wu,Wv,Ww,Wx,Wy,Wz,Xa,Xb,Xc,Xd,Xe,Xf,Xg,Xh,Xi,Xj,Xk,Xl,Xm,Xn,Xo,Xp,Xq,Xr,cN,cP,cO,cL,cQ,cR,List.getElem?_cons_zero,List.getElem?_cons_succ,cM,cT,cU,cV,cK,Nat.reduceAdd,Nat.reduceLT,Nat.reduceLeDiff,decide_true,decide_false,Bool.true_and,Bool.and_true,cW,cJ,Option.some.injEq,Xs,Xt,Xu,Xv]
 exact hK
theorem am{s:AD}{i o n:Nat}(h:n=0∨n=2∨n=3):Ar Tryz.prog 44 false true false s [.ptr (some (i,o)),iv (n:Int)]=some (.slice (some (i,o)) n (some 3)):=by
 have h0:Ar Tryz.prog 44 false true false s [.ptr (some (i,o)),iv 0]=some (.slice (some (i,o+0 * 1)) 0 (some 3)):=by kernel_rfl
 have h2:Ar Tryz.prog 44 false true false s [.ptr (some (i,o)),iv 2]=some (.slice (some (i,o+0 * 1)) 2 (some 3)):=by kernel_rfl
 have h3:Ar Tryz.prog 44 false true false s [.ptr (some (i,o)),iv 3]=some (.slice (some (i,o+0 * 1)) 3 (some 3)):=by kernel_rfl
 rcases h with rfl | rfl | rfl
 ·exact h0
 ·exact h2
 ·exact h3
theorem ZH(t:Tm):t.kids.length=0∨t.kids.length=2∨t.kids.length=3:=by cases t<;>simp[Tm.kids]
section
variable{E:Bb}(hE:Ah E){s:AD}{p:Nat}{S:List Tm}{O:List Nat}(h:AS s p S O){t:Tm}(ht:t∈S){K:AV→AD→Prop}
include hE h ht
end
theorem Hh(xs:List AV)(s:AD):HE 37 xs s=EH 59 3 3 s xs:=by kernel_rfl
theorem M2(ks:List Int):He (A6 ks)=some ks:=by
 induction ks with
 | nil=>rfl
 | cons k ks ih =>
  show(He (A6 ks)).bind _=_
  rw[ih];rfl
def Fu(t:Tm)(l:List Int):Prop:=l.Pairwise (·<·)∧∀x,x∈l↔t.has x=true
theorem K7{t:Tm}{ks:List Int}(hn:ks.Nodup)(hx:∀x,x∈ks↔t.has x=true):Fu t (Ei ks):=by
 have hp:=DY ks
 have hnd:(Ei ks).Nodup:=hp.nodup_iff.2 hn
 refine⟨?_,fun x=>by rw[hp.mem_iff,hx]⟩
 have h1:=EU ks
 exact(h1.and hnd).imp fun⟨a,b⟩=>by omega
theorem Jn(ks:List Int):(Ei ks).length=ks.length:=(DY ks).length_eq
theorem MN{E:Bb}(hE:Ah E){s:AD}{i m:Nat}{t:Tm}{K:AV→AD→Prop}(hi:s.heap.get i=some (R 68 0 false [.map (some m)]))(hm:Gy s m t)
    (hK:∀v l s',BK s.next s s'→Fu t l→Ad s' v l→(∀j,I9 v=some j→s.next≤j)→K v s'):WF E 37 [.func 59 [] [.ptr (some (i,0))]] K s:=by
  obtain⟨ks,hg,hn,hx,hl⟩:=hm
  have hso:EH 59 3 3 s [.func 59 [] [.ptr (some (i,0))]]=FT 3 ks s:=by
    have hr:rowAt s i=some { elem:=68,sz:=0,n:=1,c:=Pa [.map (some m)],spare:=false,mode:=.own,par:=none,bytes:=true }:=by
      rw[Kz,hi];rfl
    have hl1:Cs s i 0=some (.map (some m)):=by rw[Kl,hi];exact Wi _ _ _ _ _
    simp only[EH,hr,hl1,Option.bind_some,Ea,hg,Db,M2]
    rfl
  have hvo:=K7 hn hx
  cases ks with
  | nil =>
    refine WF.native (hE.tab _ _ _ (.slice none 0 (some 0),s) (by rw[Hh,hso];rfl)) ?_
    exact hK _ _ _ (BK.refl _ _) hvo (.inl ⟨rfl,rfl⟩) fun j hj=>by cases hj
  | cons k ks =>
    have hb:Nat.ble (k::ks).length 1000000=true:=CO (by omega)
    refine WF.native (hE.tab _ _ _ (.slice (some (s.next,0)) (k::ks).length none,newObj s (R 3 1 true (BP (Ei (k::ks))))) ?_) ?_
    · rw[Hh,hso]
      show AH (Nat.ble (k::ks).length 1000000) _=_
      rw[hb,Xa]
      have h2:(BP (Ei (k::ks))).length=(k::ks).length:=by rw[BI,Jn]
      rw[← h2]
      rfl
    · refine hK _ _ _ (BK.new  _ _) hvo (.inr ⟨s.next, 0, none, by rw [Jn],        dR               _, ?_⟩) fun j hj => by injection hj with hj; omega
      rw[BU,if_pos rfl,Wj (by rw[BI,cK];exact cJ _),cM,dD (by rw[BI];exact cJ _)]
theorem Uj{E:Bb}(hE:Ah E){s:AD}{p:Nat}{S:List Tm}{O:List Nat}(h:AS s p S O){t:Tm}(ht:t∈S){K:AV→AD→Prop}
  (hK:∀v l s',BK s.next s s'→Fu t l→Ad s' v l→(∀j,I9 v=some j→s.next≤j)→K v s'):WF E 13 [.ptr (some (p,0)),iv (ix S t:Int)] K s:=by
 obtain⟨c0,c1,c2,c3,c4,c5,c6,hc,d0,d1,d2,d3,d4,d5,d6⟩:=t.cells7 (h.ok.ok t ht)
 refine hE.go YS (by decide) rfl ?_
 simp only[bc,U1,U2,Qa,Qb,Qc,Qd,Qe,Qf,Qg,Qh,Qi,Qj,Qk,Ql,Qm,Qn,true_and,and_true,Qo,Qp,Qq,Qr,Qs,Qt,Qu,Qv,Qw,Qx,Qy,Qz,Ra,Rb,Rc,Rd,Re,Rf,Rg,Rh,Ri,Rj,Rk,Rl,Rm,Ya,Yb,Yc,Rn,Ro,Xv,Yd,Ye,Rq,Rs,Rt,Ru,Rw,Rx,Ry,Rz,Wa,Wb,Wc,Wd,We,Wf,Wg,Wh,Wi,Wj,Wl,Wm,Wn,Wp,Wq,Wr,Ws,Wt,Wu,Wv,Ww,Wx,Wy,Wz,Xa,Xb,Xc,Xd,Xe,Xf,Xg,Xh,Xi,Xj,Xk,Xl,Xm,Xn,Xo,Xp,Xq,Xr,cN,cP,cO,cL,cQ,cR,List.getElem?_cons_zero,List.getElem?_cons_succ,cM,cT,cU,cV,cK,Nat.reduceAdd,Nat.reduceLT,Nat.reduceLeDiff,decide_true,decide_false,Bool.true_and,Bool.and_true,cW,cJ,Option.some.injEq,Xs,Xt,Xu,Xv]
 refine Ur hE h ht fun r s' ho he=>?_
 obtain⟨m,rfl,hm,hmb⟩:=he
 simp only[Qa,Qb,Qc,Qd,Qe,Qf,Qg,Qh,Qi,Qj,Qk,Ql,Qm,Qn,true_and,and_true,Qo,Qp,Qq,Qr,Qs,Qt,Qu,Qv,Qw,Qx,Qy,Qz,Ra,Rb,Rc,Rd,Re,Rf,Rg,Rh,Ri,Rj,Rk,Rl,Rm,Ya,Yb,Yc,Rn,Ro,Xv,Yd,Ye,Rq,Rs,Rt,Ru,Rw,Rx,Ry,BH,BG,hc,ZC,Rz,Wa,Wb,Wc,Wd,We,Wf,Wg,Wh,Wi,Wj,Wl,Wm,Wn,Wp,Wq,Wr,Ws,Wt,Wu,Wv,Ww,Wx,Wy,Wz,Xa,Xb,Xc,Xd,Xe,Xf,Xg,Xh,Xi,Xj,Xk,Xl,Xm,Xn,Xo,Xp,Xq,Xr,cN,cP,cO,cL,cQ,cR,List.getElem?_cons_zero,List.getElem?_cons_succ,cM,cT,cU,cV,cK,Nat.reduceAdd,Nat.reduceLT,Nat.reduceLeDiff,decide_true,decide_false,Bool.true_and,Bool.and_true,cW,cJ,Option.some.injEq,Xs,Xt,Xu,Xv]
 refine hE.go Ym (by decide) rfl ?_
 generalize hs:s'.next=b
 have hs0:s'=ext s' []:=(Ac s').symm
 rw[hs0]
 simp only[bu,Vz,V0,hs,Qa,Qb,Qc,Qd,Qe,Qf,Qg,Qh,Qi,Qj,Qk,Ql,Qm,Qn,true_and,and_true,Qo,Qp,Qq,Qr,Qs,Qt,Qu,Qv,Qw,Qx,Qy,Qz,Ra,Rb,Rc,Rd,Re,Rf,Rg,Rh,Ri,Rj,Rk,Rl,Rm,Ya,Yb,Yc,Rn,Ro,Xv,Yd,Ye,Rq,Rs,Rt,Ru,Rw,Rx,Ry,Rz,Wa,Wb,Wc,Wd,We,Wf,Wg,Wh,Wi,Wj,Wl,Wm,Wn,Wp,Wq,Wr,Ws,Wt,Wu,Wv,Ww,Wx,Wy,Wz,Xa,Xb,Xc,Xd,Xe,Xf,Xg,Xh,Xi,Xj,Xk,Xl,Xm,Xn,Xo,Xp,Xq,Xr,cN,cP,cO,cL,cQ,cR,List.getElem?_cons_zero,List.getElem?_cons_succ,cM,cT,cU,cV,cK,Nat.reduceAdd,Nat.reduceLT,Nat.reduceLeDiff,decide_true,decide_false,Bool.true_and,Bool.and_true,cW,cJ,Option.some.injEq,Xs,Xt,Xu,Xv]
 refine MN hE (m:=m) (t:=t) (by rw[Wg hs (by simp)];rfl) (hm.frame (Wh hmb)) fun v l s2 ho2 hv hr hsl=>?_
 simp only[Qa,Qb,Qc,Qd,Qe,Qf,Qg,Qh,Qi,Qj,Qk,Ql,Qm,Qn,true_and,and_true,Qo,Qp,Qq,Qr,Qs,Qt,Qu,Qv,Qw,Qx,Qy,Qz,Ra,Rb,Rc,Rd,Re,Rf,Rg,Rh,Ri,Rj,Rk,Rl,Rm,Ya,Yb,Yc,Rn,Ro,Xv,Yd,Ye,Rq,Rs,Rt,Ru,Rw,Rx,Ry,Rz,Wa,Wb,Wc,Wd,We,Wf,Wg,Wh,Wi,Wj,Wl,Wm,Wn,Wp,Wq,Wr,Ws,Wt,Wu,Wv,Ww,Wx,Wy,Wz,Xa,Xb,Xc,Xd,Xe,Xf,Xg,Xh,Xi,Xj,Xk,Xl,Xm,Xn,Xo,Xp,Xq,Xr,cN,cP,cO,cL,cQ,cR,List.getElem?_cons_zero,List.getElem?_cons_succ,cM,cT,cU,cV,cK,Nat.reduceAdd,Nat.reduceLT,Nat.reduceLeDiff,decide_true,decide_false,Bool.true_and,Bool.and_true,cW,cJ,Option.some.injEq,Xs,Xt,Xu,Xv]
 have ho1:BK s'.next s' s2:=(AM).trans (ho2.mono (by rw[Wm,AF];omega))
 exact hK _ _ _ (ho.trans (ho1.mono ho.1)) hv hr fun j hj=>by
  have h1:=hsl j hj
  have h2:=ho.1
  rw[Wm,hs,AF]at h1
  omega
theorem N8(i o:Nat):K9 (.ptr (some (i,o))) (.ptr (some (i,o)))=true:=by simp[K9]
theorem Y4:∀n,n<13→K9 (.agg (Tm.con n).cells) (.agg (Tm.con n).cells)=true:=by
 intro n h
 have:n=0∨n=1∨n=2∨n=3∨n=4∨n=5∨n=6∨n=7∨n=8∨n=9∨n=10∨n=11∨n=12:=by omega
 rcases this with rfl | rfl | rfl | rfl | rfl | rfl | rfl | rfl | rfl | rfl | rfl | rfl | rfl<;>rfl
theorem BA{s:AD}{loc var:List AV}{f:AD→AV→Option AV}{x ans:CX}(h:f s (CH loc var x)=some (CH loc var ans))(he:K9 (CH loc var ans) (CH loc var ans)=true):Ep s loc var ⟨none,.r1 f,[x],ans⟩=true:=by
 unfold Ep
 show(!true || YE (f s (CH loc var x)) (CH loc var ans))=true
 rw[h]
 exact he
theorem BL:∀n,n<13→∃tag c1 c2 c3 c5 c6,(Tm.con n).cells=[iv tag,c1,c2,c3,.slice none 0 (some 0),c5,c6]∧decide (tag=5)=false∧c1.isCell=true∧c2.isCell=true∧c3.isCell=true∧c5.isCell=true∧c6.isCell=true:=by
 intro n h
 have:n=0∨n=1∨n=2∨n=3∨n=4∨n=5∨n=6∨n=7∨n=8∨n=9∨n=10∨n=11∨n=12:=by omega
 rcases this with rfl | rfl | rfl | rfl | rfl | rfl | rfl | rfl | rfl | rfl | rfl | rfl | rfl<;>exact⟨_,_,_,_,_,_,rfl,by decide,rfl,rfl,rfl,rfl,rfl⟩
theorem Lb:∀n,n<13→C3 C6 44 [.agg (Tm.con n).cells]=some (.bool true)∧C3 C6 30 [.agg (Tm.con n).cells]=some (.str (Tm.con n).ktext):=by
 intro n h
 have:n=0∨n=1∨n=2∨n=3∨n=4∨n=5∨n=6∨n=7∨n=8∨n=9∨n=10∨n=11∨n=12:=by omega
 rcases this with rfl | rfl | rfl | rfl | rfl | rfl | rfl | rfl | rfl | rfl | rfl | rfl | rfl<;>exact⟨by kernel_rfl,by kernel_rfl⟩
def Bw(s:AD)(O:List Nat):Prop:=Co s 1 BC=true∧1<s.next∧1 ∉ O
theorem BT{s s':AD}{g:Nat}{cells:List AV}(h:s'.heap.get g=s.heap.get g):Co s' g cells=Co s g cells:=by unfold Co;rw[h]
theorem Bw.step{s s':AD}{O O':List Nat}(h:Bw s O)(f:Bk O s s')(g:AR O O' s):Bw s' O':=
 ⟨by rw[BT (f.2 1 h.2.1 h.2.2)];exact h.1,cg h.2.1 f.1,fun hm=>(g 1 hm).elim h.2.2 (fun hl=>by have:=h.2.1;omega)⟩
theorem Bw.old{s s':AD}{O:List Nat}(h:Bw s O)(k:BK s.next s s'):Bw s' O:=h.step (k.frO O) (AR.refl O s)
theorem NJ{E:Bb}(hE:Ah E){s:AD}(hg:Co s 1 BC=true){n:Nat}(hn:n<13){K:AV→AD→Prop}(hK:K (.bool true) s):WF E 44 [.agg (Tm.con n).cells] K s:=by
 refine WF.native (hE.tab _ _ _ (.bool true,s) ?_) hK
 have h1:=(Lb n hn).1
 have h2:Cn 44 [.agg (Tm.con n).cells] s=(C3 C6 44 [.agg (Tm.con n).cells]).bind fun r=>AH (Co s 1 BC) (some (r,s)):=rfl
 unfold HE
 rw[h2,h1,Option.bind_some,hg]
 rfl
theorem P1{E:Bb}(hE:Ah E){s:AD}(hg:Co s 1 BC=true){n:Nat}(hn:n<13){K:AV→AD→Prop}(hK:K (.str (Tm.con n).ktext) s):WF E 30 [.agg (Tm.con n).cells] K s:=by
 refine WF.native (hE.tab _ _ _ (.str (Tm.con n).ktext,s) ?_) hK
 have h1:=(Lb n hn).2
 have h2:Cn 30 [.agg (Tm.con n).cells] s=(C3 C6 30 [.agg (Tm.con n).cells]).bind fun r=>AH (Co s 1 BC) (some (r,s)):=rfl
 unfold HE
 rw[h2,h1,Option.bind_some,hg]
 rfl
theorem EE{E:Bb}(hE:Ah E){s s1:AD}{p:Nat}{S:List Tm}{O:List Nat}(h:AS s p S O)(hsm:S.length<100000)(ho1:BK s.next s s1)(u:Tm)(hk:∀k∈u.kids,k∈S)(ho:u.ok){pv:AV}(hp:Bd s1 S u.kids pv){K:AV→AD→Prop}
  (hK:∀s' O',AS s' p (push S u) O'→Bk O s s'→AR O O' s→K (iv (ix (push S u) u:Int)) s'):
  WF E 32 [.ptr (some (p,0)),.agg [iv u.kind,iv u.id,iv 0,iv 0,iv 0,.str u.ktext],.agg u.cells,pv] K s1:=by
 refine(Uf hE (h.old ho1) hsm u hk ho hp).mono ?_
 rintro r s' ⟨rfl,O',h1,h2,h3⟩
 exact hK s' O' h1 ((ho1.frO O).trans h2 (AR.refl O s)) (AR.trans (AR.refl O s) h3 ho1.1)
theorem Zq:Cw Tryz.prog 39=some false:=by kernel_rfl
theorem LI(a b:Int):AT Tryz.prog 65 (zipIdx [0,1] [iv a,iv b])=some (.agg [iv a,iv b,iv 0,iv 0,iv 0,.str []]):=by kernel_rfl
theorem KN(a:Int):AT Tryz.prog 65 (zipIdx [0] [iv a])=some (.agg [iv a,iv 0,iv 0,iv 0,iv 0,.str []]):=by kernel_rfl
theorem QF(a:Int)(l:List Nat):AT Tryz.prog 65 (zipIdx [0,3] [iv a,.str l])=some (.agg [iv a,iv 0,iv 0,iv 0,iv 0,.str l]):=by kernel_rfl
theorem EM:AT Tryz.prog 43 (zipIdx [] [])=some (.agg Tm.nullC):=by kernel_rfl
theorem J2(a b:Int):AY Tryz.prog 27 2 (zipIdx [0,1] [iv a,iv b])=some (R 3 1 false (BP [a,b])):=by kernel_rfl
theorem J3(a b c:Int):AY Tryz.prog 27 3 (zipIdx [0,1,2] [iv a,iv b,iv c])=some (R 3 1 false (BP [a,b,c])):=by kernel_rfl
theorem B0(a:Int):AY Tryz.prog 27 1 (zipIdx [0] [iv a])=some (R 3 1 false (BP [a])):=by kernel_rfl
theorem Lt(a:Int):CF true (iv a) [iv 0]=some (iv (max a 0)):=by
 show AH true (some (iv (bif JH a 0 then 0 else a)))=_
 rw[B4]
 show some (iv _)=_
 by_cases h:a<(0:Int)
 ·simp only[h,decide_true,cond_true];rw[Int.max_eq_right (by omega)]
 ·simp only[h,decide_false,cond_false];rw[Int.max_eq_left (by omega)]
section
variable{E:Bb}(hE:Ah E){s:AD}{p:Nat}{S:List Tm}{O:List Nat}(h:AS s p S O)(hsm:S.length<100000){K:AV→AD→Prop}
include hE h hsm
theorem Oe{i:Int}(hi:i64 i)(hK:∀s' O',AS s' p (push S (.var i)) O'→Bk O s s'→AR O O' s→K (iv (ix (push S (.var i)) (.var i):Int)) s'):WF E 11 [.ptr (some (p,0)),iv i] K s:=by
 refine hE.go YQ (by decide) rfl ?_
 simp only[Zx,Uv,Uw,Ux,DI,LI,EM,Qa,Qb,Qc,Qd,Qe,Qf,Qg,Qh,Qi,Qj,Qk,Ql,Qm,Qn,true_and,and_true,Qo,Qp,Qq,Qr,Qs,Qt,Qu,Qv,Qw,Qx,Qy,Qz,Ra,Rb,Rc,Rd,Re,Rf,Rg,Rh,Ri,Rj,Rk,Rl,Rm,Ya,Yb,Yc,Rn,Ro,Xv,Yd,Ye,Rq,Rs,Rt,Ru,Rw,Rx,Ry,Rz,Wa,Wb,Wc,Wd,We,Wf,Wg,Wh,Wi,Wj,Wl,Wm,Wn,Wp,Wq,Wr,Ws,Wt,Wu,Wv,Ww,Wx,Wy,Wz,Xa,Xb,Xc,Xd,Xe,Xf,Xg,Xh,Xi,Xj,Xk,Xl,Xm,Xn,Xo,Xp,Xq,Xr,cN,cP,cO,cL,cQ,cR,List.getElem?_cons_zero,List.getElem?_cons_succ,cM,cT,cU,cV,cK,Nat.reduceAdd,Nat.reduceLT,Nat.reduceLeDiff,decide_true,decide_false,Bool.true_and,Bool.and_true,cW,cJ,Option.some.injEq,Xs,Xt,Xu,Xv]
 refine EE hE h hsm (BK.refl _ _) (.var i) (fun _ h=>by cases h) hi (.inl ⟨rfl,rfl⟩) fun s' O' h1 h2 h3=>?_
 simp only[Qa,Qb,Qc,Qd,Qe,Qf,Qg,Qh,Qi,Qj,Qk,Ql,Qm,Qn,true_and,and_true,Qo,Qp,Qq,Qr,Qs,Qt,Qu,Qv,Qw,Qx,Qy,Qz,Ra,Rb,Rc,Rd,Re,Rf,Rg,Rh,Ri,Rj,Rk,Rl,Rm,Ya,Yb,Yc,Rn,Ro,Xv,Yd,Ye,Rq,Rs,Rt,Ru,Rw,Rx,Ry]
 exact hK s' O' h1 h2 h3
theorem K4{i:Int}(hi:i64 i)(hK:∀s' O',AS s' p (push S (.bnd (max i 0))) O'→Bk O s s'→AR O O' s→K (iv (ix (push S (.bnd (max i 0))) (.bnd (max i 0)):Int)) s'):WF E 21 [.ptr (some (p,0)),iv i] K s:=by
 refine hE.go YX (by decide) rfl ?_
 simp only[bi,VM,VN,VO,DI,LI,EM,Lt,Qa,Qb,Qc,Qd,Qe,Qf,Qg,Qh,Qi,Qj,Qk,Ql,Qm,Qn,true_and,and_true,Qo,Qp,Qq,Qr,Qs,Qt,Qu,Qv,Qw,Qx,Qy,Qz,Ra,Rb,Rc,Rd,Re,Rf,Rg,Rh,Ri,Rj,Rk,Rl,Rm,Ya,Yb,Yc,Rn,Ro,Xv,Yd,Ye,Rq,Rs,Rt,Ru,Rw,Rx,Ry,Rz,Wa,Wb,Wc,Wd,We,Wf,Wg,Wh,Wi,Wj,Wl,Wm,Wn,Wp,Wq,Wr,Ws,Wt,Wu,Wv,Ww,Wx,Wy,Wz,Xa,Xb,Xc,Xd,Xe,Xf,Xg,Xh,Xi,Xj,Xk,Xl,Xm,Xn,Xo,Xp,Xq,Xr,cN,cP,cO,cL,cQ,cR,List.getElem?_cons_zero,List.getElem?_cons_succ,cM,cT,cU,cV,cK,Nat.reduceAdd,Nat.reduceLT,Nat.reduceLeDiff,decide_true,decide_false,Bool.true_and,Bool.and_true,cW,cJ,Option.some.injEq,Xs,Xt,Xu,Xv]
 refine EE hE h hsm (BK.refl _ _) (.bnd (max i 0)) (fun _ h=>by cases h) ⟨by omega,by unfold i64 at *;omega⟩ (.inl ⟨rfl,rfl⟩) fun s' O' h1 h2 h3=>?_
 simp only[Qa,Qb,Qc,Qd,Qe,Qf,Qg,Qh,Qi,Qj,Qk,Ql,Qm,Qn,true_and,and_true,Qo,Qp,Qq,Qr,Qs,Qt,Qu,Qv,Qw,Qx,Qy,Qz,Ra,Rb,Rc,Rd,Re,Rf,Rg,Rh,Ri,Rj,Rk,Rl,Rm,Ya,Yb,Yc,Rn,Ro,Xv,Yd,Ye,Rq,Rs,Rt,Ru,Rw,Rx,Ry]
 exact hK s' O' h1 h2 h3
theorem Oc{n:Nat}(hn:n<13)(hg:Bw s O)(hK:∀s' O',AS s' p (push S (.con n)) O'→Bk O s s'→AR O O' s→K (iv (ix (push S (.con n)) (.con n):Int)) s'):WF E 22 [.ptr (some (p,0)),.agg (Tm.con n).cells] K s:=by
 obtain⟨tag,c1,c2,c3,c5,c6,hc,h5,d1,d2,d3,d5,d6⟩:=BL n hn
 have hp:=fun os (K:AV→AD→Prop)=>EE (K:=K) hE h hsm (AM (os:=os)) (.con n) (fun _ h=>by cases h) hn (.inl ⟨rfl,rfl⟩)
 have hr:=fun(K:AV→AD→Prop) os=>NJ (K:=K) hE (s:=ext s os) (hg.old AM).1 hn
 have ht:=fun(K:AV→AD→Prop) os=>P1 (K:=K) hE (s:=ext s os) (hg.old AM).1 hn
 have hce:=Y4 n hn
 rw[hc]at hr ht hce
 refine hE.go YY (by decide) rfl ?_
 generalize hs:s.next=b
 have hs0:s=ext s []:=(Ac s).symm
 rw[hs0]
 simp only[bj,VP,VQ,VR,hc,DI,hs,H0,II,Qa,Qb,Qc,Qd,Qe,Qf,Qg,Qh,Qi,Qj,Qk,Ql,Qm,Qn,true_and,and_true,Qo,Qp,Qq,Qr,Qs,Qt,Qu,Qv,Qw,Qx,Qy,Qz,Ra,Rb,Rc,Rd,Re,Rf,Rg,Rh,Ri,Rj,Rk,Rl,Rm,Ya,Yb,Yc,Rn,Ro,Xv,Yd,Ye,Rq,Rs,Rt,Ru,Rw,Rx,Ry,Rz,Wa,Wb,Wc,Wd,We,Wf,Wg,Wh,Wi,Wj,Wl,Wm,Wn,Wp,Wq,Wr,Ws,Wt,Wu,Wv,Ww,Wx,Wy,Wz,Xa,Xb,Xc,Xd,Xe,Xf,Xg,Xh,Xi,Xj,Xk,Xl,Xm,Xn,Xo,Xp,Xq,Xr,cN,cP,cO,cL,cQ,cR,List.getElem?_cons_zero,List.getElem?_cons_succ,cM,cT,cU,cV,cK,Nat.reduceAdd,Nat.reduceLT,Nat.reduceLeDiff,decide_true,decide_false,Bool.true_and,Bool.and_true,cW,cJ,Option.some.injEq,Xs,Xt,Xu,Xv]
 refine hr _ _ ?_
 simp only[Ry,Bool.not_true,Bool.not_false,Rw,Rs,h5,CV,Zq,SJ,SK,hs,Af Tryz.underlying39,Qa,Qb,Qc,Qd,Qe,Qf,Qg,Qh,Qi,Qj,Qk,Ql,Qm,Qn,true_and,and_true,Qo,Qp,Qq,Qr,Qs,Qt,Qu,Qv,Qw,Qx,Qy,Qz,Ra,Rb,Rc,Rd,Re,Rf,Rg,Rh,Ri,Rj,Rk,Rl,Rm,Ya,Yb,Yc,Rn,Ro,Xv,Yd,Ye,Rq,Rs,Rt,Ru,Rw,Rx,Ry,Rz,Wa,Wb,Wc,Wd,We,Wf,Wg,Wh,Wi,Wj,Wl,Wm,Wn,Wp,Wq,Wr,Ws,Wt,Wu,Wv,Ww,Wx,Wy,Wz,Xa,Xb,Xc,Xd,Xe,Xf,Xg,Xh,Xi,Xj,Xk,Xl,Xm,Xn,Xo,Xp,Xq,Xr,cN,cP,cO,cL,cQ,cR,List.getElem?_cons_zero,List.getElem?_cons_succ,cM,cT,cU,cV,cK,Nat.reduceAdd,Nat.reduceLT,Nat.reduceLeDiff,decide_true,decide_false,Bool.true_and,Bool.and_true,cW,cJ,Option.some.injEq,Xs,Xt,Xu,Xv]
 have hgt:decide ((0:Int)<((0:Nat):Int))=false:=rfl
 simp only[hgt,VS,H0,II,hs,Qa,Qb,Qc,Qd,Qe,Qf,Qg,Qh,Qi,Qj,Qk,Ql,Qm,Qn,true_and,and_true,Qo,Qp,Qq,Qr,Qs,Qt,Qu,Qv,Qw,Qx,Qy,Qz,Ra,Rb,Rc,Rd,Re,Rf,Rg,Rh,Ri,Rj,Rk,Rl,Rm,Ya,Yb,Yc,Rn,Ro,Xv,Yd,Ye,Rq,Rs,Rt,Ru,Rw,Rx,Ry,Rz,Wa,Wb,Wc,Wd,We,Wf,Wg,Wh,Wi,Wj,Wl,Wm,Wn,Wp,Wq,Wr,Ws,Wt,Wu,Wv,Ww,Wx,Wy,Wz,Xa,Xb,Xc,Xd,Xe,Xf,Xg,Xh,Xi,Xj,Xk,Xl,Xm,Xn,Xo,Xp,Xq,Xr,cN,cP,cO,cL,cQ,cR,List.getElem?_cons_zero,List.getElem?_cons_succ,cM,cT,cU,cV,cK,Nat.reduceAdd,Nat.reduceLT,Nat.reduceLeDiff,decide_true,decide_false,Bool.true_and,Bool.and_true,cW,cJ,Option.some.injEq,Xs,Xt,Xu,Xv]
 refine ht _ _ ?_
 refine⟨⟨BA ?_ hce,trivial⟩,?_⟩
 ·simp only[Qa,Qb,Qc,Qd,Qe,Qf,Qg,Qh,Qi,Qj,Qk,Ql,Qm,Qn,true_and,and_true,Qo,Qp,Qq,Qr,Qs,Qt,Qu,Qv,Qw,Qx,Qy,Qz,Ra,Rb,Rc,Rd,Re,Rf,Rg,Rh,Ri,Rj,Rk,Rl,Rm,Ya,Yb,Yc,Rn,Ro,Xv,Yd,Ye,Rq,Rs,Rt,Ru,Rw,Rx,Ry,H0,II,hs,Rz,Wa,Wb,Wc,Wd,We,Wf,Wg,Wh,Wi,Wj,Wl,Wm,Wn,Wp,Wq,Wr,Ws,Wt,Wu,Wv,Ww,Wx,Wy,Wz,Xa,Xb,Xc,Xd,Xe,Xf,Xg,Xh,Xi,Xj,Xk,Xl,Xm,Xn,Xo,Xp,Xq,Xr,cN,cP,cO,cL,cQ,cR,List.getElem?_cons_zero,List.getElem?_cons_succ,cM,cT,cU,cV,cK,Nat.reduceAdd,Nat.reduceLT,Nat.reduceLeDiff,decide_true,decide_false,Bool.true_and,Bool.and_true,cW,cJ,Option.some.injEq,Xs,Xt,Xu,Xv]
 simp only[QF,Qa,Qb,Qc,Qd,Qe,Qf,Qg,Qh,Qi,Qj,Qk,Ql,Qm,Qn,true_and,and_true,Qo,Qp,Qq,Qr,Qs,Qt,Qu,Qv,Qw,Qx,Qy,Qz,Ra,Rb,Rc,Rd,Re,Rf,Rg,Rh,Ri,Rj,Rk,Rl,Rm,Ya,Yb,Yc,Rn,Ro,Xv,Yd,Ye,Rq,Rs,Rt,Ru,Rw,Rx,Ry,Rz,Wa,Wb,Wc,Wd,We,Wf,Wg,Wh,Wi,Wj,Wl,Wm,Wn,Wp,Wq,Wr,Ws,Wt,Wu,Wv,Ww,Wx,Wy,Wz,Xa,Xb,Xc,Xd,Xe,Xf,Xg,Xh,Xi,Xj,Xk,Xl,Xm,Xn,Xo,Xp,Xq,Xr,cN,cP,cO,cL,cQ,cR,List.getElem?_cons_zero,List.getElem?_cons_succ,cM,cT,cU,cV,cK,Nat.reduceAdd,Nat.reduceLT,Nat.reduceLeDiff,decide_true,decide_false,Bool.true_and,Bool.and_true,cW,cJ,Option.some.injEq,Xs,Xt,Xu,Xv]
 rw[← hc]
 refine hp _ _ fun s' O' h1 h2 h3=>?_
 simp only[Qa,Qb,Qc,Qd,Qe,Qf,Qg,Qh,Qi,Qj,Qk,Ql,Qm,Qn,true_and,and_true,Qo,Qp,Qq,Qr,Qs,Qt,Qu,Qv,Qw,Qx,Qy,Qz,Ra,Rb,Rc,Rd,Re,Rf,Rg,Rh,Ri,Rj,Rk,Rl,Rm,Ya,Yb,Yc,Rn,Ro,Xv,Yd,Ye,Rq,Rs,Rt,Ru,Rw,Rx,Ry]
 exact hK s' O' h1 h2 h3
theorem Sj(hK:K (iv (S.length:Int)) s):WF E 10 [.ptr (some (p,0))] K s:=by
 have _hs:=hsm
 obtain⟨tv,fi,vm,OT,e⟩:=h.ex
 obtain⟨a,c,htv,_⟩:=e.buf.slice
 subst htv
 refine hE.go YP (by decide) rfl ?_
 simp only[Zu,Us,Ut,Uu,DI,e.obj,Om,G8,Af Tryz.underlying59,Qa,Qb,Qc,Qd,Qe,Qf,Qg,Qh,Qi,Qj,Qk,Ql,Qm,Qn,true_and,and_true,Qo,Qp,Qq,Qr,Qs,Qt,Qu,Qv,Qw,Qx,Qy,Qz,Ra,Rb,Rc,Rd,Re,Rf,Rg,Rh,Ri,Rj,Rk,Rl,Rm,Ya,Yb,Yc,Rn,Ro,Xv,Yd,Ye,Rq,Rs,Rt,Ru,Rw,Rx,Ry,Rz,Wa,Wb,Wc,Wd,We,Wf,Wg,Wh,Wi,Wj,Wl,Wm,Wn,Wp,Wq,Wr,Ws,Wt,Wu,Wv,Ww,Wx,Wy,Wz,Xa,Xb,Xc,Xd,Xe,Xf,Xg,Xh,Xi,Xj,Xk,Xl,Xm,Xn,Xo,Xp,Xq,Xr,cN,cP,cO,cL,cQ,cR,List.getElem?_cons_zero,List.getElem?_cons_succ,cM,cT,cU,cV,cK,Nat.reduceAdd,Nat.reduceLT,Nat.reduceLeDiff,decide_true,decide_false,Bool.true_and,Bool.and_true,cW,cJ,Option.some.injEq,Xs,Xt,Xu,Xv]
 exact hK
end
def Av:Tm:=.con 0
def H9(n:Nat)(x:Int):Bool:=decide (0≤x) && decide (x<n)
def As(S:List Tm)(x:Int):Tm:=if H9 S.length x then S.getD x.toNat Av else Av
def Dl(n:Nat):List Tm→List Int→List Tm
 | S,[]=>S
 | S,x::l=>Dl n (if H9 n x then S else push S Av) l
theorem Ct{S:List Tm}{u:Tm}:u∈push S u:=by
 unfold push
 split
 ·assumption
 ·simp
theorem I2{S:List Tm}{u t:Tm}(h:t∈S):t∈push S u:=by
 unfold push
 split
 ·exact h
 ·exact dV _ h
theorem OK{S:List Tm}{u t:Tm}(h:t∈S):ix (push S u) t=ix S t:=by
 unfold push
 split
 ·rfl
 ·exact DM _ h
theorem Cr{S:List Tm}{u:Tm}:(push S u).length≤S.length+1:=by
 unfold push
 split<;>simp
theorem Jy{S:List Tm}:push (push S Av) Av=push S Av:=if_pos Ct
theorem Dj{n:Nat}{S:List Tm}:∀l,Dl n (push S Av) l=push S Av
 | []=>rfl
 | x::l=>by
  unfold Dl
  split
  ·exact Dj l
  ·rw[Jy];exact Dj l
theorem GB{n:Nat}{S:List Tm}:∀l,Dl n S l=S∨Dl n S l=push S Av
 | []=>.inl rfl
 | x::l=>by
  unfold Dl
  split
  ·exact GB l
  ·exact .inr (Dj l)
theorem NX{n:Nat}{S:List Tm}:∀ {l},(∀x∈l,H9 n x=true)→Dl n S l=S
 | [],_=>rfl
 | x::l,h=>by
  unfold Dl
  rw[if_pos (h x ck)]
  exact NX fun y hy=>h y (cn _ hy)
theorem Ue{n:Nat}{S:List Tm}{l:List Int}{t:Tm}(h:t∈S):t∈Dl n S l:=by
 rcases GB (n:=n) (S:=S) l with e | e<;>rw[e]
 ·exact h
 ·exact I2 h
theorem ZG{n:Nat}{S:List Tm}{l:List Int}{t:Tm}(h:t∈S):ix (Dl n S l) t=ix S t:=by
 rcases GB (n:=n) (S:=S) l with e | e<;>rw[e]
 exact OK h
theorem FV{S:List Tm}{x:Int}(h:H9 S.length x=true):As S x∈S∧(S.Nodup→(ix S (As S x):Int)=x):=by
 unfold H9 at h
 simp only[Bool.and_eq_true,decide_eq_true_eq]at h
 have hlt:x.toNat<S.length:=by omega
 have he:As S x=S[x.toNat]:=by
  unfold As H9
  simp only[h.1,h.2,decide_true,Bool.and_self,if_true]
  rw[du,cY hlt];rfl
 refine⟨by rw[he];exact dd _,fun hn=>?_⟩
 rw[he,X8 hn (cY hlt)]
 omega
theorem Od{S:List Tm}{t:Tm}(h:t∈S):As S (ix S t:Int)=t∧H9 S.length (ix S t:Int)=true:=by
 have hl:=E8 h
 have h1:H9 S.length (ix S t:Int)=true:=by simp[H9];omega
 refine⟨?_,h1⟩
 unfold As
 rw[if_pos h1,du,Int.toNat_natCast,C0 h];rfl
theorem Gp       {n : Nat} {S : List Tm} : ∀ {l : List Int}, n = S.length → ∀ x ∈ l, As   S x ∈ Dl  n S l
  | [],_,x,h=>by cases h
  | y :: l, hn, x, h => by
    by_cases hi:H9 S.length x=true
    · exact Ue (FV hi).1
    · have ht:As S x=Av:=by unfold As;rw[if_neg hi]
      rw[ht]
      have:∀l,x∈l→Av∈Dl n S l:=by
        intro l
        induction l with
        | nil=>intro h;cases h
        | cons z l ih =>
          intro h
          unfold Dl
          rcases dE.1 h with rfl | h
          · rw[hn,if_neg hi,Dj];exact Ct
          · split
            · exact ih h
            · rw[Dj];exact Ct
      exact this _ h
theorem In(l m:List Int):BP (l++m)=BP l++BP m:=dY ..
theorem UD(done rest:List Int)(x y:Int):(BP (done++x::rest)).set done.length (iv y)=BP (done++y::rest):=by
 simp[BP,List.set_append]
section
variable{E:Bb}(hE:Ah E){s0:AD}{O:List Nat}{p:Nat}{S:List Tm}(hS:S.length<99990){j len:Nat}(hlen:len≤1000)(a1 a2:AV)(hj0:s0.next≤j)(hg0:1<s0.next)
include hE hS hlen hj0 hg0
theorem NY         {Q : Aw   → Prop} {marks : List Nat} : ∀ (rest done : List Int) (S1 : List Tm) (O1 : List Nat) (s1 : AD)  (x5 x6 x10 x11 : AV),
    (S1=S∨S1=push S Av)→AS s1 p S1 O1→Bw s1 O1→Bk O s0 s1→AR O O1 s0→s1.heap.get j=some (R 3 1 true (BP (done++rest)))→j<s1.next→j ∉ O1→(done++rest).length=len →
    (∀ (s2:AD) (O2:List Nat) (y5 y6 y9 y10 y11:AV),AS s2 p (Dl S.length S1 rest) O2→Bw s2 O2→Bk O s0 s2→AR O O2 s0 →
      s2.heap.get j=some (R 3 1 true (BP (done++rest.map fun x=>(ix (Dl S.length S1 rest) (As S x):Int))))→j<s2.next→j ∉ O2 →
      Ab 0 Q ⟨.exit 0,[.ptr (some (p,0)),a1,a2,iv (S.length:Int),.slice (some (j,0)) len none,y5,y6,.slice (some (j,0)) len none,iv (len:Int),y9,y10,y11],marks,s2⟩) →
    WC E none (AW.loop IN) (Ab 0 Q) [.ptr (some (p,0)),a1,a2,iv (S.length:Int),.slice (some (j,0)) len none,x5,x6,.slice (some (j,0)) len none,iv (len:Int),iv (done.length:Int),x10,x11] marks s1:=by
  intro rest
  induction rest with
  | nil =>
    intro done S1 O1 s1 x5 x6 x10 x11 hS1 hst hg hf hgr hj hjl hjO hl hq
    refine WC.loop' ?_
    have hlt:¬ ((done.length:Int)<(len:Int)):=by rw[← hl];simp
    simp only[IN,LL,hlt,decide_false,Qa,Qb,Qc,Qd,Qe,Qf,Qg,Qh,Qi,Qj,Qk,Ql,Qm,Qn,true_and,and_true,Qo,Qp,Qq,Qr,Qs,Qt,Qu,Qv,Qw,Qx,Qy,Qz,Ra,Rb,Rc,Rd,Re,Rf,Rg,Rh,Ri,Rj,Rk,Rl,Rm,Ya,Yb,Yc,Rn,Ro,Xv,Yd,Ye,Rq,Rs,Rt,Ru,Rw,Rx,Ry,Rq]
    exact hq s1 O1 _ _ _ _ _ hst hg hf hgr hj hjl hjO
  | cons x rest ih =>
    intro done S1 O1 s1 x5 x6 x10 x11 hS1 hst hg hf hgr hj hjl hjO hl hq
    refine WC.loop' ?_
    obtain⟨L,hL⟩:∃L,L=AW.loop IN:=⟨_,rfl⟩
    rw[← hL]
    have hlt:((done.length:Int)<(len:Int)):=by rw[← hl];simp;omega
    have hltn:done.length<len:=by omega
    have hld:CW (s1.heap.get j) done.length=some (iv x):=by
      rw[hj,Wi];exact OJ (by simp)
    have hadd:i64 ((done.length:Int)+1):=by unfold i64;omega
    have hlen1:(done++[x]).length=done.length+1:=by simp
    have hS1l:S1.length<99991:=by
      rcases hS1 with rfl | rfl
      · omega
      · have:=Cr (S:=S) (u:=Av);omega
    have hsub:∀t∈S,t∈S1∧ix S1 t=ix S t:=fun t ht=>by
      rcases hS1 with rfl | rfl
      · exact⟨ht,rfl⟩
      · exact⟨I2 ht,OK ht⟩
    by_cases hi:H9 S.length x=true
    · have h1 : decide (x < 0) = false := by unfold H9  at hi; simp only [Bool.and_eq_true, decide_eq_true_eq] at hi; simp; omega
      have h2:decide ((S.length:Int)≤x)=false:=by unfold H9 at hi;simp only[Bool.and_eq_true,decide_eq_true_eq]at hi;simp;omega
      have hth:Dl S.length S1 (x::rest)=Dl S.length S1 rest:=by conv=>lhs;unfold Dl;rw[if_pos hi]
      have hSn:S.Nodup:=by
        rcases hS1 with rfl | rfl
        · exact hst.ok.nd
        · have := hst.ok.nd; unfold push at this; split at this
          · exact this
          · exact(List.nodup_append.1 this).1
      have hx:(ix (Dl S.length S1 rest) (As S x):Int)=x:=by
        rw[ZG (hsub _ (FV hi).1).1,(hsub _ (FV hi).1).2]
        exact(FV hi).2 hSn
      have:=ih (done++[x]) S1 O1 s1 (iv (done.length:Int)) (iv x) (.bool true) (.bool false) hS1 hst hg hf hgr (by rw[hj];simp) hjl hjO (by rw[← hl];simp) (fun s2 O2 y5 y6 y9 y10 y11 g1 g2 g3 g4 g5 g6 g7=>hq s2 O2 y5 y6 y9 y10 y11 (by rw[hth];exact g1) g2 g3 g4 (by rw[g5,hth,cz,hx];simp) g6 g7)
      rw[← hL,hlen1]at this
      simp only[IN,LL,No,Np,Nq,hlt,decide_true,Qa,Qb,Qc,Qd,Qe,Qf,Qg,Qh,Qi,Qj,Qk,Ql,Qm,Qn,true_and,and_true,Qo,Qp,Qq,Qr,Qs,Qt,Qu,Qv,Qw,Qx,Qy,Qz,Ra,Rb,Rc,Rd,Re,Rf,Rg,Rh,Ri,Rj,Rk,Rl,Rm,Ya,Yb,Yc,Rn,Ro,Xv,Yd,Ye,Rq,Rs,Rt,Ru,Rw,Rx,Ry,Rq,Ru,h1,h2,AU Tryz.underlying27 Dt hltn,CV,hld,ct,A0 _ _ _ _ hadd,Rz,Wa,Wb,Wc,Wd,We,Wf,Wg,Wh,Wi,Wj,Wl,Wm,Wn,Wp,Wq,Wr,Ws,Wt,Wu,Wv,Ww,Wx,Wy,Wz,Xa,Xb,Xc,Xd,Xe,Xf,Xg,Xh,Xi,Xj,Xk,Xl,Xm,Xn,Xo,Xp,Xq,Xr,cN,cP,cO,cL,cQ,cR,List.getElem?_cons_zero,List.getElem?_cons_succ,cM,cT,cU,cV,cK,Nat.reduceAdd,Nat.reduceLT,Nat.reduceLeDiff,decide_true,decide_false,Bool.true_and,Bool.and_true,cW,cJ,Option.some.injEq,Xs,Xt,Xu,Xv]
      exact this
    · have h12:decide (x<0)=true∨decide (x<0)=false∧decide ((S.length:Int)≤x)=true:=by
        unfold H9 at hi;simp only[Bool.and_eq_true,decide_eq_true_eq]at hi
        rcases Int.lt_or_le x 0 with h' | h'
        · exact .inl (decide_eq_true h')
        · exact .inr ⟨by simp;omega,by simp;omega⟩
      have hth:Dl S.length S1 (x::rest)=push S1 Av:=by
        conv=>lhs;unfold Dl
        rw[if_neg hi]
        exact Dj rest
      have hth2:Dl S.length (push S1 Av) rest=push S1 Av:=Dj rest
      have htm:As S x=Av:=by unfold As;rw[if_neg hi]
      have hS2:push S1 Av=S∨push S1 Av=push S Av:=by
        rcases hS1 with rfl | rfl
        · exact .inr rfl
        · exact .inr Jy
      have hcall:∀ (K:AV→AD→Prop),(∀s' O',AS s' p (push S1 Av) O'→Bk O1 s1 s'→AR O1 O' s1→K (iv (ix (push S1 Av) Av:Int)) s')→WF E 22 [.ptr (some (p,0)),.agg Tm.nullC] K s1:=fun K hK =>
        Oc hE hst (by omega) (n:=0) (by omega) hg hK
      have hafter:∀s' O' (g1:AS s' p (push S1 Av) O') (g2:Bk O1 s1 s') (g3:AR O1 O' s1) (y10:AV),
          WC E none L (Ab 0 Q) [.ptr (some (p,0)),a1,a2,iv (S.length:Int),.slice (some (j,0)) len none,iv (done.length:Int),iv x,.slice (some (j,0)) len none,iv (len:Int),iv ((done.length:Int)+1),y10,.bool true] marks
            (setObj s' j (R 3 1 true (BP (done++(ix (push S1 Av) Av:Int)::rest)))):=by
        intro s' O' g1 g2 g3 y10
        have hjO':j ∉ O':=fun hm=>(g3 j hm).elim hjO (fun hl=>by omega)
        have hfr:Bk O s0 s':=hf.trans g2 hgr
        have hst2:AS (setObj s' j (R 3 1 true (BP (done++(ix (push S1 Av) Av:Int)::rest)))) p (push S1 Av) O':=by
          refine g1.frame (cJ _) fun k hk=>Wr _ fun e=>hjO' (e▸hk)
        have hg2:Bw (setObj s' j (R 3 1 true (BP (done++(ix (push S1 Av) Av:Int)::rest)))) O':=by
          obtain⟨q1,q2,q3⟩:=hg.step g2 g3
          exact⟨by rw[BT (Wr _ (by omega))];exact q1,q2,q3⟩
        have:=ih (done++[(ix (push S1 Av) Av:Int)]) (push S1 Av) O' _ (iv (done.length:Int)) (iv x) y10 (.bool true) hS2 hst2 hg2 ⟨hfr.1,fun k hk hkO=>by rw[Wr _ (by omega)];exact hfr.2 k hk hkO⟩ (hgr.trans g3 hf.1) (by rw[Wq];simp) (by rw[Wp];exact cg hjl g2.1) hjO' (by rw[← hl];simp) (fun s2 O2 y5 y6 y9 y10 y11 k1 k2 k3 k4 k5 k6 k7=>hq s2 O2 y5 y6 y9 y10 y11 (by rw[hth,← hth2];exact k1) k2 k3 k4 (by rw[k5,hth,hth2,cz,htm];simp) k6 k7)
        rw[← hL,show(done++[(ix (push S1 Av) Av:Int)]).length=done.length+1 from by simp]at this
        exact this
      have hrest:∀ (y10:AV) s' O',AS s' p (push S1 Av) O'→Bk O1 s1 s'→AR O1 O' s1 →
          Qd [] Gu.push [.agg Tm.nullC] [.ptr (some (p,0)),a1,a2,iv (S.length:Int),.slice (some (j,0)) len none,iv (done.length:Int),iv x,.slice (some (j,0)) len none,iv (len:Int),iv (done.length:Int),y10,.bool true]
            (fun x x_1 x_2=>JO (AK Tryz.prog 27 (Iu x_1 4) (Iu x_1 5)) fun v =>
              JO (match At Tryz.prog x_2 3 v (Iu x 0)with | some s=>some (A7,s) | none=>none) fun p=>Qb E Nq (fun v s'=>WC E none L (Ab 0 Q) v marks s') [] x_1 p.snd) (iv (ix (push S1 Av) Av:Int)) s':=by
        intro y10 s' O' g1 g2 g3
        have hgj:s'.heap.get j=some (R 3 1 true (BP (done++x::rest))):=by rw[g2.2 j hjl hjO];exact hj
        have hble:decide (done.length+1≤(BP (done++x::rest)).length)=true:=decide_eq_true (by rw[BI,dC,cN];omega)
        have:=hafter s' O' g1 g2 g3 y10
        simp only[Qa,Qb,Qc,Qd,Qe,Qf,Qg,Qh,Qi,Qj,Qk,Ql,Qm,Qn,true_and,and_true,Qo,Qp,Qq,Qr,Qs,Qt,Qu,Qv,Qw,Qx,Qy,Qz,Ra,Rb,Rc,Rd,Re,Rf,Rg,Rh,Ri,Rj,Rk,Rl,Rm,Ya,Yb,Yc,Rn,Ro,Xv,Yd,Ye,Rq,Rs,Rt,Ru,Rw,Rx,Ry,Nq,AU Tryz.underlying27 Dt hltn,hgj,Dt,ct,hble,UD,A0 _ _ _ _ hadd,Rz,Wa,Wb,Wc,Wd,We,Wf,Wg,Wh,Wi,Wj,Wl,Wm,Wn,Wp,Wq,Wr,Ws,Wt,Wu,Wv,Ww,Wx,Wy,Wz,Xa,Xb,Xc,Xd,Xe,Xf,Xg,Xh,Xi,Xj,Xk,Xl,Xm,Xn,Xo,Xp,Xq,Xr,cN,cP,cO,cL,cQ,cR,List.getElem?_cons_zero,List.getElem?_cons_succ,cM,cT,cU,cV,cK,Nat.reduceAdd,Nat.reduceLT,Nat.reduceLeDiff,decide_true,decide_false,Bool.true_and,Bool.and_true,cW,cJ,Option.some.injEq,Xs,Xt,Xu,Xv]
        exact this
      rcases h12 with h1 | ⟨h1,h2⟩
      · simp only[IN,LL,No,Np,QZ,hlt,decide_true,Qa,Qb,Qc,Qd,Qe,Qf,Qg,Qh,Qi,Qj,Qk,Ql,Qm,Qn,true_and,and_true,Qo,Qp,Qq,Qr,Qs,Qt,Qu,Qv,Qw,Qx,Qy,Qz,Ra,Rb,Rc,Rd,Re,Rf,Rg,Rh,Ri,Rj,Rk,Rl,Rm,Ya,Yb,Yc,Rn,Ro,Xv,Yd,Ye,Rq,Rs,Rt,Ru,Rw,Rx,Ry,Rq,Ru,h1,EM,AU Tryz.underlying27 Dt hltn,CV,hld,ct,A0 _ _ _ _ hadd,Rz,Wa,Wb,Wc,Wd,We,Wf,Wg,Wh,Wi,Wj,Wl,Wm,Wn,Wp,Wq,Wr,Ws,Wt,Wu,Wv,Ww,Wx,Wy,Wz,Xa,Xb,Xc,Xd,Xe,Xf,Xg,Xh,Xi,Xj,Xk,Xl,Xm,Xn,Xo,Xp,Xq,Xr,cN,cP,cO,cL,cQ,cR,List.getElem?_cons_zero,List.getElem?_cons_succ,cM,cT,cU,cV,cK,Nat.reduceAdd,Nat.reduceLT,Nat.reduceLeDiff,decide_true,decide_false,Bool.true_and,Bool.and_true,cW,cJ,Option.some.injEq,Xs,Xt,Xu,Xv]
        exact hcall _ (hrest _)
      · simp only[IN,LL,No,Np,QZ,hlt,decide_true,Qa,Qb,Qc,Qd,Qe,Qf,Qg,Qh,Qi,Qj,Qk,Ql,Qm,Qn,true_and,and_true,Qo,Qp,Qq,Qr,Qs,Qt,Qu,Qv,Qw,Qx,Qy,Qz,Ra,Rb,Rc,Rd,Re,Rf,Rg,Rh,Ri,Rj,Rk,Rl,Rm,Ya,Yb,Yc,Rn,Ro,Xv,Yd,Ye,Rq,Rs,Rt,Ru,Rw,Rx,Ry,Rq,Ru,h1,h2,EM,AU Tryz.underlying27 Dt hltn,CV,hld,ct,A0 _ _ _ _ hadd,Rz,Wa,Wb,Wc,Wd,We,Wf,Wg,Wh,Wi,Wj,Wl,Wm,Wn,Wp,Wq,Wr,Ws,Wt,Wu,Wv,Ww,Wx,Wy,Wz,Xa,Xb,Xc,Xd,Xe,Xf,Xg,Xh,Xi,Xj,Xk,Xl,Xm,Xn,Xo,Xp,Xq,Xr,cN,cP,cO,cL,cQ,cR,List.getElem?_cons_zero,List.getElem?_cons_succ,cM,cT,cU,cV,cK,Nat.reduceAdd,Nat.reduceLT,Nat.reduceLeDiff,decide_true,decide_false,Bool.true_and,Bool.and_true,cW,cJ,Option.some.injEq,Xs,Xt,Xu,Xv]
        exact hcall _ (hrest _)
end
def YG(s:AD)(O:List Nat)(b:Nat)(v:AV)(l:List Int):Prop:=∃j,v=.slice (some (j,0)) l.length none∧s.heap.get j=some (R 3 1 true (BP l))∧j<s.next∧j ∉ O∧b≤j
theorem YG.rd{s:AD}{O:List Nat}{b:Nat}{v:AV}{l:List Int}(h:YG s O b v l):Ad s v l:=by
 obtain⟨j,rfl,h1,h2,_⟩:=h
 exact .inr ⟨j,0,none,rfl,h2,by rw[h1];exact(Wj (by rw[BI,cK];exact cJ _)).trans (by rw[cM,dD (by rw[BI];exact cJ _)])⟩
section
variable{E:Bb}(hE:Ah E){s:AD}{p:Nat}{S:List Tm}{O:List Nat}(h:AS s p S O)(hsm:S.length<99990)(hg:Bw s O){K:AV→AD→Prop}
include hE h hsm hg
theorem Gn{v:AV}{l:List Int}(hv:Ad s v l)(h0:0<l.length)(hl:l.length≤1000)
  (hK:∀w s' O',AS s' p (Dl S.length S l) O'→Bw s' O'→Bk O s s'→AR O O' s→YG s' O' s.next w (l.map fun x=>(ix (Dl S.length S l) (As S x):Int))→K w s'):
  WF E 34 [.ptr (some (p,0)),v] K s:=by
 refine hE.go Yj (by decide) rfl ?_
 simp only[bq,Vn,Vo,Qa,Qb,Qc,Qd,Qe,Qf,Qg,Qh,Qi,Qj,Qk,Ql,Qm,Qn,true_and,and_true,Qo,Qp,Qq,Qr,Qs,Qt,Qu,Qv,Qw,Qx,Qy,Qz,Ra,Rb,Rc,Rd,Re,Rf,Rg,Rh,Ri,Rj,Rk,Rl,Rm,Ya,Yb,Yc,Rn,Ro,Xv,Yd,Ye,Rq,Rs,Rt,Ru,Rw,Rx,Ry,Rz,Wa,Wb,Wc,Wd,We,Wf,Wg,Wh,Wi,Wj,Wl,Wm,Wn,Wp,Wq,Wr,Ws,Wt,Wu,Wv,Ww,Wx,Wy,Wz,Xa,Xb,Xc,Xd,Xe,Xf,Xg,Xh,Xi,Xj,Xk,Xl,Xm,Xn,Xo,Xp,Xq,Xr,cN,cP,cO,cL,cQ,cR,List.getElem?_cons_zero,List.getElem?_cons_succ,cM,cT,cU,cV,cK,Nat.reduceAdd,Nat.reduceLT,Nat.reduceLeDiff,decide_true,decide_false,Bool.true_and,Bool.and_true,cW,cJ,Option.some.injEq,Xs,Xt,Xu,Xv]
 refine Sj hE h (by omega) ?_
 simp only[Vp,Qa,Qb,Qc,Qd,Qe,Qf,Qg,Qh,Qi,Qj,Qk,Ql,Qm,Qn,true_and,and_true,Qo,Qp,Qq,Qr,Qs,Qt,Qu,Qv,Qw,Qx,Qy,Qz,Ra,Rb,Rc,Rd,Re,Rf,Rg,Rh,Ri,Rj,Rk,Rl,Rm,Ya,Yb,Yc,Rn,Ro,Xv,Yd,Ye,Rq,Rs,Rt,Ru,Rw,Rx,Ry,Rz,Wa,Wb,Wc,Wd,We,Wf,Wg,Wh,Wi,Wj,Wl,Wm,Wn,Wp,Wq,Wr,Ws,Wt,Wu,Wv,Ww,Wx,Wy,Wz,Xa,Xb,Xc,Xd,Xe,Xf,Xg,Xh,Xi,Xj,Xk,Xl,Xm,Xn,Xo,Xp,Xq,Xr,cN,cP,cO,cL,cQ,cR,List.getElem?_cons_zero,List.getElem?_cons_succ,cM,cT,cU,cV,cK,Nat.reduceAdd,Nat.reduceLT,Nat.reduceLeDiff,decide_true,decide_false,Bool.true_and,Bool.and_true,cW,cJ,Option.some.injEq,Xs,Xt,Xu,Xv]
 refine R4 hE hv h0 (by omega) ?_
 generalize hs:s.next=b
 have hgj:(ext s [R 3 1 false [],R 3 1 true (BP l)]).heap.get (nid b 1)=some (R 3 1 true (BP ([]++l))):=by rw[Wg hs (by simp)];rfl
 have hnx:(ext s [R 3 1 false [],R 3 1 true (BP l)]).next=b+2:=by rw[Wm,hs,AF];rfl
 have hlt:=h.lt
 have hg1:=hg.2.1
 simp only[Vq,Af Tryz.underlying27,hs,Qa,Qb,Qc,Qd,Qe,Qf,Qg,Qh,Qi,Qj,Qk,Ql,Qm,Qn,true_and,and_true,Qo,Qp,Qq,Qr,Qs,Qt,Qu,Qv,Qw,Qx,Qy,Qz,Ra,Rb,Rc,Rd,Re,Rf,Rg,Rh,Ri,Rj,Rk,Rl,Rm,Ya,Yb,Yc,Rn,Ro,Xv,Yd,Ye,Rq,Rs,Rt,Ru,Rw,Rx,Ry,Rz,Wa,Wb,Wc,Wd,We,Wf,Wg,Wh,Wi,Wj,Wl,Wm,Wn,Wp,Wq,Wr,Ws,Wt,Wu,Wv,Ww,Wx,Wy,Wz,Xa,Xb,Xc,Xd,Xe,Xf,Xg,Xh,Xi,Xj,Xk,Xl,Xm,Xn,Xo,Xp,Xq,Xr,cN,cP,cO,cL,cQ,cR,List.getElem?_cons_zero,List.getElem?_cons_succ,cM,cT,cU,cV,cK,Nat.reduceAdd,Nat.reduceLT,Nat.reduceLeDiff,decide_true,decide_false,Bool.true_and,Bool.and_true,cW,cJ,Option.some.injEq,Xs,Xt,Xu,Xv]
 refine NY hE hsm hl (s0:=s) (O:=O) (j:=nid b 1) _ _ (by rw[AF];omega) hg.2.1 l [] S O _ _ _ _ _ (.inl rfl) (h.old AM) (hg.old AM) (AM.frO O) (AR.refl O s) hgj (by rw[hnx,AF];omega) (fun hm=>by have:=hlt _ hm;rw[AF]at this;omega) rfl ?_
 intro s2 O2 y5 y6 y9 y10 y11 g1 g2 g3 g4 g5 g6 g7
 simp only[Qa,Qb,Qc,Qd,Qe,Qf,Qg,Qh,Qi,Qj,Qk,Ql,Qm,Qn,true_and,and_true,Qo,Qp,Qq,Qr,Qs,Qt,Qu,Qv,Qw,Qx,Qy,Qz,Ra,Rb,Rc,Rd,Re,Rf,Rg,Rh,Ri,Rj,Rk,Rl,Rm,Ya,Yb,Yc,Rn,Ro,Xv,Yd,Ye,Rq,Rs,Rt,Ru,Rw,Rx,Ry]
 rw[if_pos trivial]
 simp only[QY,Qa,Qb,Qc,Qd,Qe,Qf,Qg,Qh,Qi,Qj,Qk,Ql,Qm,Qn,true_and,and_true,Qo,Qp,Qq,Qr,Qs,Qt,Qu,Qv,Qw,Qx,Qy,Qz,Ra,Rb,Rc,Rd,Re,Rf,Rg,Rh,Ri,Rj,Rk,Rl,Rm,Ya,Yb,Yc,Rn,Ro,Xv,Yd,Ye,Rq,Rs,Rt,Ru,Rw,Rx,Ry]
 refine hK _ _ _ g1 g2 g3 g4 ⟨nid b 1,by rw[co],by rw[g5];rfl,g6,g7,by rw[AF];omega⟩
theorem ZT{d k:Int}(hK:∀s' O',AS s' p (push (Dl S.length S [d,k]) (.sel (As S d) (As S k))) O'→Bw s' O'→Bk O s s'→AR O O' s→K (iv (ix (push (Dl S.length S [d,k]) (.sel (As S d) (As S k))) (.sel (As S d) (As S k)):Int)) s'):
  WF E 24 [.ptr (some (p,0)),iv d,iv k] K s:=by
 have hm:∀x∈([d,k]:List Int),As S x∈Dl S.length S [d,k]:=Gp rfl
 have hlt:(Dl S.length S [d,k]).length<100000:=by
  rcases GB (n:=S.length) (S:=S) [d,k]with e | e<;>rw[e]
  ·omega
  ·have:=Cr (S:=S) (u:=Av);omega
 refine hE.go YZ (by decide) rfl ?_
 generalize hs:s.next=b
 have hs0:s=ext s []:=(Ac s).symm
 have hrd:Ad (ext s [R 3 1 false (BP [d,k])]) (.slice (some (nid b 0,0)) 2 (some 2)) [d,k]:=.inr ⟨nid b 0,0,some 2,rfl,by rw[Wm,hs,AF,AF];simp,by rw[Wg hs (by simp)];exact Wj (cJ _)⟩
 have hth:=fun(K:AV→AD→Prop)=>Gn (K:=K) hE (h.old (AM (os:=[R 3 1 false (BP [d,k])]))) hsm (hg.old AM) hrd (by simp) (by simp)
 rw[hs0]
 simp only[bk,VT,VU,VV,DI,KN,EM,J2,hs,Qa,Qb,Qc,Qd,Qe,Qf,Qg,Qh,Qi,Qj,Qk,Ql,Qm,Qn,true_and,and_true,Qo,Qp,Qq,Qr,Qs,Qt,Qu,Qv,Qw,Qx,Qy,Qz,Ra,Rb,Rc,Rd,Re,Rf,Rg,Rh,Ri,Rj,Rk,Rl,Rm,Ya,Yb,Yc,Rn,Ro,Xv,Yd,Ye,Rq,Rs,Rt,Ru,Rw,Rx,Ry,Rz,Wa,Wb,Wc,Wd,We,Wf,Wg,Wh,Wi,Wj,Wl,Wm,Wn,Wp,Wq,Wr,Ws,Wt,Wu,Wv,Ww,Wx,Wy,Wz,Xa,Xb,Xc,Xd,Xe,Xf,Xg,Xh,Xi,Xj,Xk,Xl,Xm,Xn,Xo,Xp,Xq,Xr,cN,cP,cO,cL,cQ,cR,List.getElem?_cons_zero,List.getElem?_cons_succ,cM,cT,cU,cV,cK,Nat.reduceAdd,Nat.reduceLT,Nat.reduceLeDiff,decide_true,decide_false,Bool.true_and,Bool.and_true,cW,cJ,Option.some.injEq,Xs,Xt,Xu,Xv]
 refine hth _ fun w s' O' g1 g2 g3 g4 g5=>?_
 have hf:Bk O s s':=(AM.frO O).trans g3 (AR.refl O s)
 have hgr:AR O O' s:=AR.trans (AR.refl O s) g4 (by rw[Wm,AF];omega)
 have hpa:Bd s' (Dl S.length S [d,k]) [As S d,As S k] w:=Ad.parts (l:=[As S d,As S k]) g5.rd (by simp)
 simp only[Qa,Qb,Qc,Qd,Qe,Qf,Qg,Qh,Qi,Qj,Qk,Ql,Qm,Qn,true_and,and_true,Qo,Qp,Qq,Qr,Qs,Qt,Qu,Qv,Qw,Qx,Qy,Qz,Ra,Rb,Rc,Rd,Re,Rf,Rg,Rh,Ri,Rj,Rk,Rl,Rm,Ya,Yb,Yc,Rn,Ro,Xv,Yd,Ye,Rq,Rs,Rt,Ru,Rw,Rx,Ry]
 refine EE hE g1 hlt (BK.refl _ _) (.sel (As S d) (As S k)) (fun k hk=>?_) trivial hpa fun s2 O2 k1 k2 k3=>?_
 ·simp only[Tm.kids,dE,dS,or_false]at hk
  rcases hk with rfl | rfl<;>exact hm _ (by simp)
 ·simp only[Qa,Qb,Qc,Qd,Qe,Qf,Qg,Qh,Qi,Qj,Qk,Ql,Qm,Qn,true_and,and_true,Qo,Qp,Qq,Qr,Qs,Qt,Qu,Qv,Qw,Qx,Qy,Qz,Ra,Rb,Rc,Rd,Re,Rf,Rg,Rh,Ri,Rj,Rk,Rl,Rm,Ya,Yb,Yc,Rn,Ro,Xv,Yd,Ye,Rq,Rs,Rt,Ru,Rw,Rx,Ry]
  exact hK _ _ k1 (g2.step k2 k3) (hf.trans k2 hgr) (hgr.trans k3 hf.1)
theorem ZY{d k a:Int}(hK:∀s' O',AS s' p (push (Dl S.length S [d,k,a]) (.upd (As S d) (As S k) (As S a))) O'→Bw s' O'→Bk O s s'→AR O O' s→K (iv (ix (push (Dl S.length S [d,k,a]) (.upd (As S d) (As S k) (As S a))) (.upd (As S d) (As S k) (As S a)):Int)) s'):
  WF E 25 [.ptr (some (p,0)),iv d,iv k,iv a] K s:=by
 have hm:∀x∈([d,k,a]:List Int),As S x∈Dl S.length S [d,k,a]:=Gp rfl
 have hlt:(Dl S.length S [d,k,a]).length<100000:=by
  rcases GB (n:=S.length) (S:=S) [d,k,a]with e | e<;>rw[e]
  ·omega
  ·have:=Cr (S:=S) (u:=Av);omega
 refine hE.go Yf (by decide) rfl ?_
 generalize hs:s.next=b
 have hs0:s=ext s []:=(Ac s).symm
 have hrd:Ad (ext s [R 3 1 false (BP [d,k,a])]) (.slice (some (nid b 0,0)) 3 (some 3)) [d,k,a]:=.inr ⟨nid b 0,0,some 3,rfl,by rw[Wm,hs,AF,AF];simp,by rw[Wg hs (by simp)];exact Wj (cJ _)⟩
 have hth:=fun(K:AV→AD→Prop)=>Gn (K:=K) hE (h.old (AM (os:=[R 3 1 false (BP [d,k,a])]))) hsm (hg.old AM) hrd (by simp) (by simp)
 rw[hs0]
 simp only[bl,VW,VX,VY,DI,KN,EM,J3,hs,Qa,Qb,Qc,Qd,Qe,Qf,Qg,Qh,Qi,Qj,Qk,Ql,Qm,Qn,true_and,and_true,Qo,Qp,Qq,Qr,Qs,Qt,Qu,Qv,Qw,Qx,Qy,Qz,Ra,Rb,Rc,Rd,Re,Rf,Rg,Rh,Ri,Rj,Rk,Rl,Rm,Ya,Yb,Yc,Rn,Ro,Xv,Yd,Ye,Rq,Rs,Rt,Ru,Rw,Rx,Ry,Rz,Wa,Wb,Wc,Wd,We,Wf,Wg,Wh,Wi,Wj,Wl,Wm,Wn,Wp,Wq,Wr,Ws,Wt,Wu,Wv,Ww,Wx,Wy,Wz,Xa,Xb,Xc,Xd,Xe,Xf,Xg,Xh,Xi,Xj,Xk,Xl,Xm,Xn,Xo,Xp,Xq,Xr,cN,cP,cO,cL,cQ,cR,List.getElem?_cons_zero,List.getElem?_cons_succ,cM,cT,cU,cV,cK,Nat.reduceAdd,Nat.reduceLT,Nat.reduceLeDiff,decide_true,decide_false,Bool.true_and,Bool.and_true,cW,cJ,Option.some.injEq,Xs,Xt,Xu,Xv]
 refine hth _ fun w s' O' g1 g2 g3 g4 g5=>?_
 have hf:Bk O s s':=(AM.frO O).trans g3 (AR.refl O s)
 have hgr:AR O O' s:=AR.trans (AR.refl O s) g4 (by rw[Wm,AF];omega)
 have hpa:Bd s' (Dl S.length S [d,k,a]) [As S d,As S k,As S a] w:=Ad.parts (l:=[As S d,As S k,As S a]) g5.rd (by simp)
 simp only[Qa,Qb,Qc,Qd,Qe,Qf,Qg,Qh,Qi,Qj,Qk,Ql,Qm,Qn,true_and,and_true,Qo,Qp,Qq,Qr,Qs,Qt,Qu,Qv,Qw,Qx,Qy,Qz,Ra,Rb,Rc,Rd,Re,Rf,Rg,Rh,Ri,Rj,Rk,Rl,Rm,Ya,Yb,Yc,Rn,Ro,Xv,Yd,Ye,Rq,Rs,Rt,Ru,Rw,Rx,Ry]
 refine EE hE g1 hlt (BK.refl _ _) (.upd (As S d) (As S k) (As S a)) (fun k hk=>?_) trivial hpa fun s2 O2 k1 k2 k3=>?_
 ·simp only[Tm.kids,dE,dS,or_false]at hk
  rcases hk with rfl | rfl | rfl<;>exact hm _ (by simp)
 ·simp only[Qa,Qb,Qc,Qd,Qe,Qf,Qg,Qh,Qi,Qj,Qk,Ql,Qm,Qn,true_and,and_true,Qo,Qp,Qq,Qr,Qs,Qt,Qu,Qv,Qw,Qx,Qy,Qz,Ra,Rb,Rc,Rd,Re,Rf,Rg,Rh,Ri,Rj,Rk,Rl,Rm,Ya,Yb,Yc,Rn,Ro,Xv,Yd,Ye,Rq,Rs,Rt,Ru,Rw,Rx,Ry]
  exact hK _ _ k1 (g2.step k2 k3) (hf.trans k2 hgr) (hgr.trans k3 hf.1)
end
def BM(f:Tm→Option Tm)(t:Tm):Tm:=match f t with
 | some u=>u
 | none=>match t with
  | .sel d k=>.sel (BM f d) (BM f k)
  | .upd d k a=>.upd (BM f d) (BM f k) (BM f a)
  | t=>t
theorem D7{f:Tm→Option Tm}{t u:Tm}(h:f t=some u):BM f t=u:=by
 unfold BM;rw[h]
theorem Ew{f:Tm→Option Tm}{t:Tm}(h:f t=none)(k:t.kids=[]):BM f t=t:=by
 unfold BM;rw[h]
 cases t<;>first | rfl | (simp[Tm.kids]at k;done)
theorem LV{f:Tm→Option Tm}{t:Tm}(h:f t=none):(BM f t).kids=t.kids.map (BM f)∧(t.kids≠[]→(BM f t).kind=t.kind∧(BM f t).id=0∧(BM f t).ktext=[]∧(BM f t).cells=Tm.nullC∧(BM f t).ok):=by
 unfold BM;rw[h]
 cases t<;>simp[Tm.kids,Tm.kind,Tm.id,Tm.ktext,Tm.cells,Tm.ok]
def Ey(f:Tm→Option Tm)(S D:List Tm):List (AV×AV):=D.map fun u=>(iv (ix S u:Int),iv (ix S (BM f u):Int))
theorem Jh{f:Tm→Option Tm}{S S' D:List Tm}(hs:∃x,S'=S++x)(h:∀u∈D,u∈S∧BM f u∈S):Ey f S' D=Ey f S D:=by
 obtain⟨x,rfl⟩:=hs
 refine dr fun u hu=>?_
 rw[DM x (h u hu).1,DM x (h u hu).2]
theorem Sf(a b:Int):Cq (iv a) (iv b)=some (decide (a=b)):=by simp[Cq,Bg,AH,Cy];rfl
theorem Fx{f:Tm→Option Tm}{S:List Tm}{t:Tm}(ht:t∈S):∀ (D:List Tm)(i:Nat),(∀u∈D,u∈S) →
  ∃r,CP (iv (ix S t:Int)) (Ey f S D) i=some r∧(t∈D→∃j,r=some (j,iv (ix S (BM f t):Int)))∧(t ∉ D→r=none)
 | [],i,_=>⟨none,rfl,fun h=>absurd h (by simp),fun _=>rfl⟩
 | u::D,i,h=>by
  show ∃r,((Cq (iv (ix S t:Int)) (iv (ix S u:Int))).bind _)=some r∧_
  rw[Sf,Option.bind_some]
  by_cases e:t=u
  ·subst e
   refine⟨some (i,iv (ix S (BM f t):Int)),by simp,fun _=>⟨i,rfl⟩,fun hn=>absurd ck hn⟩
  ·have hne:¬ ((ix S t:Int)=(ix S u:Int)):=fun h'=>e (HA ht (h u ck) (by omega))
   obtain⟨r,h1,h2,h3⟩:=Fx (f:=f) ht D (i+1) fun x hx=>h x (cn _ hx)
   refine⟨r,by simp only[hne,decide_false];exact h1,fun hm=>?_,fun hm=>h3 fun h'=>hm (cn _ h')⟩
   rcases dE.1 hm with rfl | hm
   ·exact absurd rfl e
   ·exact h2 hm
theorem PN{f:Tm→Option Tm}{S D:List Tm}{t:Tm}{s:AD}{dm:Nat}(hg:s.heap.get dm=some (.map 3 (Ey f S D)))(ht:t∈S)(hD:∀u∈D,u∈S)(hS:S.length<100000):
  Bz Tryz.prog s 68 (.map (some dm)) (iv (ix S t:Int)) true=some (.tuple [if t∈D then iv (ix S (BM f t):Int)else iv 0,.bool (decide (t∈D))]):=by
 obtain⟨r,h1,h2,h3⟩:=Fx (f:=f) ht D 0 hD
 have hi:i64 (ix S t:Int):=by have:=E8 ht;unfold i64;omega
 unfold Bz
 simp only[Tryz.underlying68,NS,BV hi,Xa,Ea,hg,Db,Option.bind_some,h1]
 by_cases hm:t∈D
 ·obtain⟨j,rfl⟩:=h2 hm
  simp[hm]
 ·rw[h3 hm]
  simp[hm,cI]
theorem Td{f:Tm→Option Tm}{S D:List Tm}{t:Tm}{s:AD}{dm:Nat}(hg:s.heap.get dm=some (.map 3 (Ey f S D)))(ht:t∈S)(hD:∀u∈D,u∈S)(hS:S.length<100000)(hn:t ∉ D):
  B1 Tryz.prog s 68 (.map (some dm)) (iv (ix S t:Int)) (iv (ix S (BM f t):Int))=some (setObj s dm (.map 3 (Ey f S (D++[t])))):=by
 obtain⟨r,h1,_,h3⟩:=Fx (f:=f) ht D 0 hD
 have hi:i64 (ix S t:Int):=by have:=E8 ht;unfold i64;omega
 rw[h3 hn]at h1
 unfold B1
 simp only[Tryz.underlying68,NS,BV hi,Xa,Ea,hg,Db,Option.bind_some,JP,h1]
 simp[Ey]
def Ok(s:AD)(O:List Nat)(dm:Nat)(H:List (Nat×Ae)):Prop:=∀x∈H,s.heap.get x.1=some x.2∧x.1<s.next∧x.1 ∉ O∧x.1≠dm
theorem Ok.step{s s':AD}{O O':List Nat}{dm:Nat}{H:List (Nat×Ae)}(h:Ok s O dm H)(f:Bk (dm::O) s s')(g:AR O O' s):Ok s' O' dm H:=fun x hx=>by
 obtain⟨h1,h2,h3,h4⟩:=h x hx
 refine⟨by rw[f.2 _ h2 (fun hm=>(dE.1 hm).elim h4 h3)];exact h1,cg h2 f.1,fun hm=>(g _ hm).elim h3 (fun hl=>by omega),h4⟩
structure Wk(p dm:Nat)(f:Tm→Option Tm)(L S0:List Tm)(H:List (Nat×Ae))(s:AD)(S:List Tm)(O:List Nat)(D:List Tm):Prop where
 st:AS s p S O
 gl:Bw s O
 hd:Ok s O dm H
 mp:s.heap.get dm=some (.map 3 (Ey f S D))
 dl:dm<s.next
 dO:dm ∉ O
 pre:∃x,S=S0++x
 len:S.length≤S0.length+D.length
 dn:D.Nodup
 dL:∀u∈D,u∈L∧u∈S0∧BM f u∈S
theorem Bj{S0 S:List Tm}(h:∃x,S=S0++x){t:Tm}(ht:t∈S0):t∈S∧ix S t=ix S0 t:=by
 obtain⟨x,rfl⟩:=h
 exact⟨dV _ ht,DM x ht⟩
theorem Gf{S:List Tm}{u:Tm}:∃x,push S u=S++x:=by
 unfold push;split
 ·exact⟨[],by simp⟩
 ·exact⟨[u],rfl⟩
theorem Cj{A B C:List Tm}(h:∃x,B=A++x)(k:∃x,C=B++x):∃x,C=A++x:=by
 obtain⟨x,rfl⟩:=h
 obtain⟨y,rfl⟩:=k
 exact⟨x++y,by simp⟩
theorem Zp:Cw Tryz.prog 31=some false:=by kernel_rfl
theorem bR:Ap Tryz.prog 31=some 1:=by kernel_rfl
theorem Zn:Cw Tryz.prog 103=some false:=by kernel_rfl
def Gq(ds sb bb wb:Nat):AV:=.func 56 [] [.ptr (some (ds,0)),.ptr (some (sb,0)),.ptr (some (bb,0)),.ptr (some (wb,0))]
def D6(p dm ds sb bb wb:Nat)(cb:AV):List (Nat×Ae):=
 [(ds,R 68 0 false [.map (some dm)]),(sb,R 25 0 false [.ptr (some (p,0))]),(bb,R 103 0 false [cb]),(wb,R 31 0 false [Gq ds sb bb wb])]
def P8(E:Bb)(p dm:Nat)(f:Tm→Option Tm)(L S0:List Tm)(ds sb bb wb:Nat)(Hm:List (Nat×Ae))(t:Tm):Prop:=
  ∀ (H : List (Nat × Ae))   (s : AD)  (S : List Tm) (O : List Nat) (D : List Tm) (K : AV → AD  → Prop), (∀ x ∈ Hm, x ∈ H) → Wk p dm f L S0 H s S O D →
    (∀s' S' O' D',Wk p dm f L S0 H s' S' O' D'→Bk (dm::O) s s'→AR O O' s→(∃x,S'=S++x)→BM f t∈S'→(∀u∈D',u∈D∨ix S0 u≤ix S0 t)→(f t=none→t.kids=[]→S'=S)→K (iv (ix S' (BM f t):Int)) s') →
    WF E 56 [iv (ix S0 t:Int),.ptr (some (ds,0)),.ptr (some (sb,0)),.ptr (some (bb,0)),.ptr (some (wb,0))] K s
theorem Wk.keep{p dm:Nat}{f:Tm→Option Tm}{L S0:List Tm}{H:List (Nat×Ae)}{s s':AD}{S:List Tm}{O:List Nat}{D:List Tm}(h:Wk p dm f L S0 H s S O D)(hn:s.next≤s'.next){B:List Nat}
  (hB:∀j∈B,j ∉ O∧j≠dm∧j≠1∧∀x∈H,x.1≠j) (k:∀j,j<s.next→j ∉ B→s'.heap.get j=s.heap.get j):Wk p dm f L S0 H s' S O D where
 st:=h.st.frame hn fun j hj=>k j (h.st.lt j hj) fun hb=>(hB j hb).1 hj
 gl:=⟨by rw[BT (k 1 h.gl.2.1 fun hb=>(hB 1 hb).2.2.1 rfl)];exact h.gl.1,cg h.gl.2.1 hn,h.gl.2.2⟩
 hd:=fun x hx=>by
  obtain⟨h1,h2,h3,h4⟩:=h.hd x hx
  exact⟨by rw[k _ h2 fun hb=>(hB _ hb).2.2.2 x hx rfl];exact h1,cg h2 hn,h3,h4⟩
 mp:=by rw[k _ h.dl fun hb=>(hB _ hb).2.1 rfl];exact h.mp
 dl:=cg h.dl hn
 dO:=h.dO
 pre:=h.pre
 len:=h.len
 dn:=h.dn
 dL:=h.dL
theorem Wk.old{p dm:Nat}{f:Tm→Option Tm}{L S0:List Tm}{H:List (Nat×Ae)}{s s':AD}{S:List Tm}{O:List Nat}{D:List Tm}(h:Wk p dm f L S0 H s S O D)(k:BK s.next s s'):Wk p dm f L S0 H s' S O D:=
 h.keep (D:=D) k.1 (B:=[]) (fun _ h=>by cases h) fun j hj _=>k.2 j hj
theorem Wk.more{p dm:Nat}{f:Tm→Option Tm}{L S0:List Tm}{H:List (Nat×Ae)}{s:AD}{S:List Tm}{O:List Nat}{D:List Tm}(h:Wk p dm f L S0 H s S O D){j:Nat}{o:Ae}(hj:s.heap.get j=some o)(hl:j<s.next)(hO:j ∉ O)(hd:j≠dm):Wk p dm f L S0 ((j,o)::H) s S O D:=
 have hh:Ok s O dm ((j,o)::H):=by
  intro x hx
  have hx:=dE.1 hx
  rcases hx with rfl | hx
  ·exact⟨hj,hl,hO,hd⟩
  ·exact h.hd x hx
 { h with hd:=hh }
theorem PO        {E : Bb}  {p dm : Nat} {f : Tm → Option Tm} {L S0 : List Tm} {ds sb bb wb : Nat} {Hm H : List (Nat × Ae)}   {cb : AV}
    (hbx:∀x∈D6 p dm ds sb bb wb cb,x∈Hm) (hHm:∀x∈Hm,x∈H) (hL:S0.length+L.length<90000)
    {us:List Tm} (h3:us.length≤3) (hall:∀t∈us,P8 E p dm f L S0 ds sb bb wb Hm t) {eb:Nat} {ec:List AV} (heb:(eb,R 70 0 false ec)∈H)
    (hec:∀k u,us[k]? = some u→ec[2+k]? = some (iv (ix S0 u:Int))) {sB:AD} {OA:List Nat} {SA DA:List Tm} (a0 a5 a6 a7 a9 a10 a11 a14 a15 a16:AV) {Q:Aw→Prop} {marks:List Nat}:
    ∀ (l2 l1:List Tm) (s:AD) (S:List Tm) (O:List Nat) (D:List Tm) (v:AV) (OB:List Nat) (x13 x20:AV),us=l1++l2→Wk p dm f L S0 H s S O D →
    C2 3 1 s v l1.length (BP (l1.map fun u=>(ix S (BM f u):Int))) OB→(∀j∈OB,j ∉ O∧j≠dm∧j≠1∧∀x∈H,x.1≠j)→(∀j∈OB,sB.next≤j) →
    Bk (dm::OA) sB s→AR OA O sB→(∃x,S=SA++x)→(∀u∈l1,BM f u∈S)→(∀u∈D,u∈DA∨∃k∈us,ix S0 u≤ix S0 k) →
    (∀s' S' O' D' v' OB' y13 y19 y20,Wk p dm f L S0 H s' S' O' D'→C2 3 1 s' v' us.length (BP (us.map fun u=>(ix S' (BM f u):Int))) OB'→Bk (dm::OA) sB s'→AR OA O' sB→(∃x,S'=SA++x)→(∀u∈us,BM f u∈S')→(∀u∈D',u∈DA∨∃k∈us,ix S0 u≤ix S0 k) →
      Ab 0 Q ⟨.exit 0,[a0,.ptr (some (ds,0)),.ptr (some (sb,0)),.ptr (some (bb,0)),.ptr (some (wb,0)),a5,a6,a7,.ptr (some (eb,0)),a9,a10,a11,v',y13,a14,a15,a16,.slice (some (eb,2)) us.length (some 3),iv (us.length:Int),y19,y20],marks,s'⟩) →
    WC E none (AW.loop IS) (Ab 0 Q) [a0,.ptr (some (ds,0)),.ptr (some (sb,0)),.ptr (some (bb,0)),.ptr (some (wb,0)),a5,a6,a7,.ptr (some (eb,0)),a9,a10,a11,v,x13,a14,a15,a16,.slice (some (eb,2)) us.length (some 3),iv (us.length:Int),iv (l1.length:Int),x20] marks s:=by
  intro l2
  induction l2 with
  | nil =>
    intro l1 s S O D v OB x13 x20 hus hw hbuf hB hBn hf hgr hpre hm hD hq
    refine WC.loop' ?_
    have hul:us=l1:=by rw[hus];simp
    subst hul
    have hlt:¬ ((us.length:Int)<(us.length:Int)):=by omega
    simp only[IS,Mj,hlt,decide_false,Qa,Qb,Qc,Qd,Qe,Qf,Qg,Qh,Qi,Qj,Qk,Ql,Qm,Qn,true_and,and_true,Qo,Qp,Qq,Qr,Qs,Qt,Qu,Qv,Qw,Qx,Qy,Qz,Ra,Rb,Rc,Rd,Re,Rf,Rg,Rh,Ri,Rj,Rk,Rl,Rm,Ya,Yb,Yc,Rn,Ro,Xv,Yd,Ye,Rq,Rs,Rt,Ru,Rw,Rx,Ry,Rq]
    exact hq s S O D v OB _ _ _ hw hbuf hf hgr hpre hm hD
  | cons t l2 ih =>
    intro l1 s S O D v OB x13 x20 hus hw hbuf hB hBn hf hgr hpre hm hD hq
    refine WC.loop' ?_
    obtain⟨W,hW⟩:∃W,W=AW.loop IS:=⟨_,rfl⟩
    rw[← hW]
    have hlt:((l1.length:Int)<(us.length:Int)):=by rw[hus];simp;omega
    have hltn:l1.length<us.length:=by omega
    have hadd:i64 ((l1.length:Int)+1):=by unfold i64;omega
    have htus:us[l1.length]? = some t:=by rw[hus];simp
    have hebg:=(hw.hd _ heb).1
    have hwbg:s.heap.get wb=some (R 31 0 false [Gq ds sb bb wb]):=(hw.hd _ (hHm _ (hbx (wb,R 31 0 false [Gq ds sb bb wb]) (by simp[D6])))).1
    have hld:CW (s.heap.get eb) (2+l1.length)=some (iv (ix S0 t:Int)):=by
      rw[show s.heap.get eb=some (R 70 0 false ec)from hebg,Wi];exact hec _ _ htus
    simp only[IS,Mj,RH,RI,hlt,decide_true,Qa,Qb,Qc,Qd,Qe,Qf,Qg,Qh,Qi,Qj,Qk,Ql,Qm,Qn,true_and,and_true,Qo,Qp,Qq,Qr,Qs,Qt,Qu,Qv,Qw,Qx,Qy,Qz,Ra,Rb,Rc,Rd,Re,Rf,Rg,Rh,Ri,Rj,Rk,Rl,Rm,Ya,Yb,Yc,Rn,Ro,Xv,Yd,Ye,Rq,Rs,Rt,Ru,Rw,Rx,Ry,Rq,AU Tryz.underlying27 Dt hltn,CV,Zp,hld,hwbg,Gq,ct,Rz,Wa,Wb,Wc,Wd,We,Wf,Wg,Wh,Wi,Wj,Wl,Wm,Wn,Wp,Wq,Wr,Ws,Wt,Wu,Wv,Ww,Wx,Wy,Wz,Xa,Xb,Xc,Xd,Xe,Xf,Xg,Xh,Xi,Xj,Xk,Xl,Xm,Xn,Xo,Xp,Xq,Xr,cN,cP,cO,cL,cQ,cR,List.getElem?_cons_zero,List.getElem?_cons_succ,cM,cT,cU,cV,cK,Nat.reduceAdd,Nat.reduceLT,Nat.reduceLeDiff,decide_true,decide_false,Bool.true_and,Bool.and_true,cW,cJ,Option.some.injEq,Xs,Xt,Xu,Xv]
    refine hall t (cu htus) H s S O D _ hHm hw fun s' S' O' D' g1 g2 g3 g4 g5 g6 _=>?_
    have hbuf':=hbuf.frame (s':=s') g2.1 fun j hj=>g2.2 j (hbuf.lt j hj) fun hm=>(dE.1 hm).elim (hB j hj).2.1 (hB j hj).1
    have hBlt:=hbuf.lt
    have hivs:(l1.map fun u=>(ix S (BM f u):Int))=l1.map fun u=>(ix S' (BM f u):Int):=dr fun u hu=>by rw[(Bj g4 (hm u hu)).2]
    rw[hivs]at hbuf'
    generalize hb':s'.next=b'
    have hs0:s'=ext s' []:=(Ac s').symm
    have hrd:Ad (ext s' [R 3 1 false (BP [(ix S' (BM f t):Int)])]) (.slice (some (nid b' 0,0)) 1 (some 1)) [(ix S' (BM f t):Int)]:=.inr ⟨nid b' 0,0,some 1,rfl,by rw[Wm,hb',AF,AF];simp,by rw[Wg hb' (by simp)];exact Wj (cJ _)⟩
    have hbuf2:=hbuf'.frame (s':=ext s' [R 3 1 false (BP [(ix S' (BM f t):Int)])]) (by rw[Wm,AF];omega) fun j hj=>Wh (hbuf'.lt j hj)
    obtain⟨v2,s2,OB2,happ,hb2,hn2,hf2,hO2,hsl⟩:=hbuf2.append (xt:=27) (m:=1) Tryz.underlying27 Dt Zb (by omega) FW JG (by omega) (FI hrd) rfl (FP _) (by omega) (by omega)
    have hnx:(ext s' [R 3 1 false (BP [(ix S' (BM f t):Int)])]).next=b'+1:=by rw[Wm,hb',AF];rfl
    rw[hnx]at hn2 hf2 hO2
    have hw2:Wk p dm f L S0 H s2 S' O' D':=by
      refine(g1.old AM).keep (D:=D') (by rw[hnx,hn2];omega) (B:=OB) (fun j hj=>?_) fun j hj hjB=>hf2 j (by rw[hnx]at hj;exact hj) hjB
      obtain⟨q1,q2,q3,q4⟩:=hB j hj
      exact⟨fun hm=>(g3 j hm).elim q1 fun hl=>by have:=hBlt j hj;omega,q2,q3,q4⟩
    have hBn2:∀j∈OB2,j∈OB∨b'+1≤j:=hO2
    have hsn:s.next≤b':=by rw[← hb'];exact g2.1
    have hsB:sB.next≤s.next:=hf.1
    have hcell:BP (l1.map fun u=>(ix S' (BM f u):Int))++BP [(ix S' (BM f t):Int)]=BP ((l1++[t]).map fun u=>(ix S' (BM f u):Int)):=by simp[BP]
    rw[hcell]at hb2
    have hne:newObj s' (R 3 1 false (BP [(ix S' (BM f t):Int)]))=ext s' [R 3 1 false (BP [(ix S' (BM f t):Int)])]:=by
      have:=Wl s' [] (R 3 1 false (BP [(ix S' (BM f t):Int)]))
      rw[Ac]at this;exact this
    rw[← hne,ED]at happ
    have:=ih (l1++[t]) s2 S' O' D' v2 OB2 (iv (ix S0 t:Int)) (.bool true) (by rw[hus];simp) hw2 (by rw[dC];exact hb2) ?_ ?_ ?_ ?_ ?_ ?_ ?_ hq
    · simp only[Qa,Qb,Qc,Qd,Qe,Qf,Qg,Qh,Qi,Qj,Qk,Ql,Qm,Qn,true_and,and_true,Qo,Qp,Qq,Qr,Qs,Qt,Qu,Qv,Qw,Qx,Qy,Qz,Ra,Rb,Rc,Rd,Re,Rf,Rg,Rh,Ri,Rj,Rk,Rl,Rm,Ya,Yb,Yc,Rn,Ro,Xv,Yd,Ye,Rq,Rs,Rt,Ru,Rw,Rx,Ry,RJ,B0,hb',happ,A0 _ _ _ _ hadd,Rz,Wa,Wb,Wc,Wd,We,Wf,Wg,Wh,Wi,Wj,Wl,Wm,Wn,Wp,Wq,Wr,Ws,Wt,Wu,Wv,Ww,Wx,Wy,Wz,Xa,Xb,Xc,Xd,Xe,Xf,Xg,Xh,Xi,Xj,Xk,Xl,Xm,Xn,Xo,Xp,Xq,Xr,cN,cP,cO,cL,cQ,cR,List.getElem?_cons_zero,List.getElem?_cons_succ,cM,cT,cU,cV,cK,Nat.reduceAdd,Nat.reduceLT,Nat.reduceLeDiff,decide_true,decide_false,Bool.true_and,Bool.and_true,cW,cJ,Option.some.injEq,Xs,Xt,Xu,Xv]
      rw[hW]
      rw[show(l1++[t]).length=l1.length+1 from by simp]at this
      exact this
    · intro j hj
      rcases hBn2 j hj with h | h
      · obtain⟨q1,q2,q3,q4⟩:=hB j h
        exact⟨fun hm=>(g3 j hm).elim q1 fun hl=>by have:=hBlt j h;omega,q2,q3,q4⟩
      · have h1 := g1.gl.2.1
        have h2:=g1.dl
        exact⟨fun hm=>by have:=g1.st.lt j hm;omega,by omega,by omega,fun x hx=>by have:=(g1.hd x hx).2.1;omega⟩
    · intro j hj
      rcases hBn2 j hj with h | h
      · exact hBn j h
      · omega
    · refine⟨by rw[hn2];omega,fun j hj hjm=>?_⟩
      have hjB:j ∉ OB:=fun h=>by have:=hBn j h;omega
      rw[hf2 j (by omega) hjB,Wh (by omega),g2.2 j (by omega) fun hm=>?_,hf.2 j hj hjm]
      rcases dE.1 hm with h | h
      · exact hjm (dE.2 (.inl h))
      · exact(hgr j h).elim (fun h=>hjm (dE.2 (.inr h))) (fun h=>by omega)
    · exact hgr.trans g3 hsB
    · exact Cj hpre g4
    · intro u hu
      rcases List.mem_append.1 hu with h | h
      · exact(Bj g4 (hm u h)).1
      · rw[List.mem_singleton.1 h];exact g5
    · intro u hu
      rcases g6 u hu with h | h
      · exact hD u h
      · exact .inr ⟨t,cu htus,h⟩
theorem Dp{L D:List Tm}(hn:D.Nodup)(h:∀u∈D,u∈L):D.length≤L.length:=F1 hn h
theorem Wk.small{p dm:Nat}{f:Tm→Option Tm}{L S0:List Tm}{H:List (Nat×Ae)}{s:AD}{S:List Tm}{O:List Nat}{D:List Tm}(h:Wk p dm f L S0 H s S O D)(hL:S0.length+L.length<90000):S.length<90000:=by
 have:=Dp h.dn fun u hu=>(h.dL u hu).1
 have:=h.len
 omega
theorem ME{s:AD}{dm:Nat}{es:List (AV×AV)}{kt:TypeId}{O:List Nat}(hg:Bw s O)(hm:s.heap.get dm=some (.map kt es)):dm≠1:=by
 intro e
 subst e
 obtain⟨r,h1,_⟩:=Le hg.1
 rw[hm]at h1
 cases h1
theorem MV{E:Bb}{p dm:Nat}{f:Tm→Option Tm}{L S0:List Tm}{ds sb bb wb:Nat}{H:List (Nat×Ae)}{cb:AV}
  (hbx:∀x∈D6 p dm ds sb bb wb cb,x∈H) (hL:S0.length+L.length<90000) {t:Tm} (ht:t∈S0) (htL:t∈L)
  {s:AD} {S:List Tm} {O:List Nat} {D:List Tm} (st:AS s p S O) (gl:Bw s O) (hd:Ok s O dm H) (mp:s.heap.get dm=some (.map 3 (Ey f S D))) (dl:dm<s.next) (dO:dm ∉ O) (pre:∃x,S=S0++x)
  (len:S.length≤S0.length+D.length+1) (dn:D.Nodup) (dL:∀u∈D,u∈L∧u∈S0∧BM f u∈S) (hcS:BM f t∈S) (htD:t ∉ D)
  (a5 a6 a7 a8 a10 a11 a12 a13 a14 a15 a16 a17 a18 a19 a20:AV) {K:AV→AD→Prop}
  (hK:∀s',Wk p dm f L S0 H s' S O (D++[t])→s'.next=s.next→(∀j,j≠dm→s'.heap.get j=s.heap.get j)→K (iv (ix S (BM f t):Int)) s'):
  Qb E Mk (fun v s'=>Qb E Ml (fun v s'=>K (Iu v 5) s') [] v s') []
   [iv (ix S0 t:Int),.ptr (some (ds,0)),.ptr (some (sb,0)),.ptr (some (bb,0)),.ptr (some (wb,0)),a5,a6,a7,a8,iv (ix S (BM f t):Int),a10,a11,a12,a13,a14,a15,a16,a17,a18,a19,a20] s:=by
 have hds:s.heap.get ds=some (R 68 0 false [.map (some dm)]):=(hd _ (hbx (ds,R 68 0 false [.map (some dm)]) (by simp[D6]))).1
 have hDl:=Dp dn fun u hu=>(dL u hu).1
 have hup:=Td mp (Bj pre ht).1 (fun u hu=>(Bj pre (dL u hu).2.1).1) (by omega) htD
 rw[(Bj pre ht).2]at hup
 have F0:=ME gl mp
 have hdn:(D++[t]).Nodup:=by
  rw[List.nodup_append]
  exact⟨dn,by simp,fun a ha b hb e=>by simp at hb;subst hb;subst e;exact htD ha⟩
 have hdL:∀u∈D++[t],u∈L∧u∈S0∧BM f u∈S:=fun u hu=>by
  rcases List.mem_append.1 hu with h | h
  ·exact dL u h
  ·rw[List.mem_singleton.1 h];exact⟨htL,ht,hcS⟩
 have hwk:Wk p dm f L S0 H (setObj s dm (.map 3 (Ey f S (D++[t])))) S O (D++[t]):={
  st:=st.frame (cJ _) fun j hj=>Wr _ fun e=>dO (e▸hj)
  gl:=⟨by rw[BT (Wr _ (Ne.symm F0))];exact gl.1,gl.2.1,gl.2.2⟩
  hd:=fun x hx=>by
   obtain⟨h1,h2,h3,h4⟩:=hd x hx
   exact⟨by rw[Wr _ h4];exact h1,h2,h3,h4⟩
  mp:=Wq _ _ _
  dl:=dl
  dO:=dO
  pre:=pre
  len:=by rw[dC];simp;omega
  dn:=hdn
  dL:=hdL }
 have:=hK _ hwk rfl fun j hj=>Wr _ hj
 simp only[Mk,Ml,Qa,Qb,Qc,Qd,Qe,Qf,Qg,Qh,Qi,Qj,Qk,Ql,Qm,Qn,true_and,and_true,Qo,Qp,Qq,Qr,Qs,Qt,Qu,Qv,Qw,Qx,Qy,Qz,Ra,Rb,Rc,Rd,Re,Rf,Rg,Rh,Ri,Rj,Rk,Rl,Rm,Ya,Yb,Yc,Rn,Ro,Xv,Yd,Ye,Rq,Rs,Rt,Ru,Rw,Rx,Ry,hds,On,hup,Rz,Wa,Wb,Wc,Wd,We,Wf,Wg,Wh,Wi,Wj,Wl,Wm,Wn,Wp,Wq,Wr,Ws,Wt,Wu,Wv,Ww,Wx,Wy,Wz,Xa,Xb,Xc,Xd,Xe,Xf,Xg,Xh,Xi,Xj,Xk,Xl,Xm,Xn,Xo,Xp,Xq,Xr,cN,cP,cO,cL,cQ,cR,List.getElem?_cons_zero,List.getElem?_cons_succ,cM,cT,cU,cV,cK,Nat.reduceAdd,Nat.reduceLT,Nat.reduceLeDiff,decide_true,decide_false,Bool.true_and,Bool.and_true,cW,cJ,Option.some.injEq,Xs,Xt,Xu,Xv]
 exact this
def Zi(E:Bb)(p dm:Nat)(f:Tm→Option Tm)(L S0:List Tm)(Hm:List (Nat×Ae))(g:FuncId)(caps:List AV):Prop:=
  ∀ (H : List (Nat × Ae))   (s : AD)  (S : List Tm) (O : List Nat) (D : List Tm) (t : Tm) (m : Nat) (K : AV → AD  → Prop), (∀ x ∈ Hm, x ∈ H) → Wk p dm f L S0 H s S O D → t ∈ S0 → t ∈ L →
    (∀s' S' O' x b,AS s' p S' O'→Bw s' O'→Bk O s s'→AR O O' s→(S'=S∨∃u,S'=push S u)→(b=true∧(∃u,f t=some u∧u∈S'∧x=iv (ix S' u:Int))∨b=false∧f t=none∧S'=S)→K (.tuple [x,.bool b]) s') →
    WF E g ([iv (ix S0 t:Int),.agg (BH S0 t m)]++caps) K s
theorem SF{S0 S:List Tm}(hS0:Hx S0)(pre:∃x,S=S0++x){t:Tm}(ht:t∈S0)(m:Nat):BH S t m=BH S0 t m:=by
 obtain⟨x,rfl⟩:=pre
 unfold BH
 rw[Cp x fun k hk=>(hS0.kid ht hk).1]
theorem Bk.weak{O:List Nat}{s s':AD}(h:Bk O s s')(d:Nat):Bk (d::O) s s':=⟨h.1,fun j hj hn=>h.2 j hj fun hm=>hn (cn _ hm)⟩
theorem AR.cons{O O':List Nat}{s:AD}(h:AR O O' s)(d:Nat):AR (d::O) (d::O') s:=fun j hj=>by
 rcases dE.1 hj with rfl | hj
 ·exact .inl ck
 ·exact(h j hj).imp (cn _) id
theorem C2.rd{s:AD}{v:AV}{n:Nat}{l:List Int}{O:List Nat}(h:C2 3 1 s v n (BP l) O):Ad s v l:=by
 have hl:=h.len
 rw[BI,ct]at hl
 subst hl
 have hlt:=h.lt
 rcases h.row with⟨rfl,h1,h2⟩ | ⟨i,r,rfl,h2,h3,h4⟩
 ·exact .inl ⟨dU h1,rfl⟩
 ·exact .inr ⟨i,0,none,rfl,hlt i h2,by rw[h3,ES h4 (by rw[BI,cK];exact cJ _),cM,dD (by rw[BI];exact cJ _)]⟩
set_option maxRecDepth 20000 in
theorem Uk      {E : Bb}  (hE : Ah    E) {p dm : Nat} {f : Tm → Option Tm} {L S0 : List Tm} {ds sb bb wb : Nat} {Hm : List (Nat × Ae)}   {g : FuncId} {caps : List AV}
    (hbx:∀x∈D6 p dm ds sb bb wb (.func g [] caps),x∈Hm) (hL:S0.length+L.length<90000) (hS0:Hx S0) (hLk:∀t∈L,f t=none→∀k∈t.kids,k∈L) (hcb:Zi E p dm f L S0 Hm g caps):
    ∀n t,ix S0 t<n→t∈S0→t∈L→P8 E p dm f L S0 ds sb bb wb Hm t:=by
  intro n
  induction n with
  | zero=>intro t h;omega
  | succ n ih =>
    intro t hn ht htL H s S O D K hHm hw hK
    obtain⟨tv,fi,vm,OT,e⟩:=hw.st.ex
    have htS:=Bj hw.pre ht
    obtain⟨m,j,r,hvm,rfl,hjO,hjr,hln,_⟩:=e.entry hw.st.ok (C0 htS.1)
    rw[SF hS0 hw.pre ht,htS.2,← hjr]at hln
    obtain⟨c0,c1,c2,c3,c4,c5,c6,hc,d0,d1,d2,d3,d4,d5,d6⟩:=t.cells7 (hS0.ok t ht)
    have hent:BH S0 t m=[iv t.kind,iv t.id,iv (part S0 t 0),iv (part S0 t 1),iv (part S0 t 2),.str t.ktext,c0,c1,c2,c3,c4,c5,c6,iv (t.kids.length:Int),iv (t.sz:Int),.map (some m)]:=by
      simp only[BH,BG,hc,cO,cL]
    have hsm:=hw.small hL
    have hlook:=fun os=>PN (s:=ext s os) (t:=t) (by rw[Wh hw.dl];exact hw.mp) htS.1 (fun u hu=>(Bj hw.pre (hw.dL u hu).2.1).1) (by omega)
    simp only[htS.2]at hlook
    have hbH:∀x∈D6 p dm ds sb bb wb (.func g [] caps),x∈H:=fun x hx=>hHm x (hbx x hx)
    have hds:=hw.hd _ (hbH (ds,R 68 0 false [.map (some dm)]) (by simp[D6]))
    have hsb:=hw.hd _ (hbH (sb,R 25 0 false [.ptr (some (p,0))]) (by simp[D6]))
    have hbb:=hw.hd _ (hbH (bb,R 103 0 false [.func g [] caps]) (by simp[D6]))
    have gds:s.heap.get ds=some (R 68 0 false [.map (some dm)]):=hds.1
    have gsb:s.heap.get sb=some (R 25 0 false [.ptr (some (p,0))]):=hsb.1
    have gbb:s.heap.get bb=some (R 103 0 false [.func g [] caps]):=hbb.1
    have lds:ds<s.next:=hds.2.1
    have lsb:sb<s.next:=hsb.2.1
    have lbb:bb<s.next:=hbb.2.1
    have hplt:=e.plt
    have hobj:=e.obj
    have hjlt:=e.lt j hjO
    have hixt:ix S0 t<S.length:=by rw[← htS.2];exact E8 htS.1
    refine hE.go Ys (by decide) rfl ?_
    generalize hs:s.next=b at lds lsb lbb hplt hjlt
    have hs0:s=ext s []:=(Ac s).symm
    have hbw:=hw.old (AM (os:=[R 70 0 false (BH S0 t m)]))
    have hgb:(ext s [R 70 0 false (BH S0 t m)]).heap.get (nid b 0)=some (R 70 0 false (BH S0 t m)):=by rw[Wg hs (by simp)];rfl
    have hlt:=hw.st.lt
    have hbw:=hbw.more hgb (by rw[Wm,hs,AF,AF];simp) (fun hm=>by have:=hlt _ hm;rw[AF]at this;omega) (by have:=hw.dl;rw[AF];omega)
    rw[hent]at hbw hgb hln
    rw[hs0]
    simp only[b0,W1,W2,W3,Qa,Qb,Qc,Qd,Qe,Qf,Qg,Qh,Qi,Qj,Qk,Ql,Qm,Qn,true_and,and_true,Qo,Qp,Qq,Qr,Qs,Qt,Qu,Qv,Qw,Qx,Qy,Qz,Ra,Rb,Rc,Rd,Re,Rf,Rg,Rh,Ri,Rj,Rk,Rl,Rm,Ya,Yb,Yc,Rn,Ro,Xv,Yd,Ye,Rq,Rs,Rt,Ru,Rw,Rx,Ry,hs,gds,lds,On,hlook,Rz,Wa,Wb,Wc,Wd,We,Wf,Wg,Wh,Wi,Wj,Wl,Wm,Wn,Wp,Wq,Wr,Ws,Wt,Wu,Wv,Ww,Wx,Wy,Wz,Xa,Xb,Xc,Xd,Xe,Xf,Xg,Xh,Xi,Xj,Xk,Xl,Xm,Xn,Xo,Xp,Xq,Xr,cN,cP,cO,cL,cQ,cR,List.getElem?_cons_zero,List.getElem?_cons_succ,cM,cT,cU,cV,cK,Nat.reduceAdd,Nat.reduceLT,Nat.reduceLeDiff,decide_true,decide_false,Bool.true_and,Bool.and_true,cW,cJ,Option.some.injEq,Xs,Xt,Xu,Xv]
    by_cases hD:t∈D
    · simp only[hD,if_true,W4,Qa,Qb,Qc,Qd,Qe,Qf,Qg,Qh,Qi,Qj,Qk,Ql,Qm,Qn,true_and,and_true,Qo,Qp,Qq,Qr,Qs,Qt,Qu,Qv,Qw,Qx,Qy,Qz,Ra,Rb,Rc,Rd,Re,Rf,Rg,Rh,Ri,Rj,Rk,Rl,Rm,Ya,Yb,Yc,Rn,Ro,Xv,Yd,Ye,Rq,Rs,Rt,Ru,Rw,Rx,Ry,Rz,Wa,Wb,Wc,Wd,We,Wf,Wg,Wh,Wi,Wj,Wl,Wm,Wn,Wp,Wq,Wr,Ws,Wt,Wu,Wv,Ww,Wx,Wy,Wz,Xa,Xb,Xc,Xd,Xe,Xf,Xg,Xh,Xi,Xj,Xk,Xl,Xm,Xn,Xo,Xp,Xq,Xr,cN,cP,cO,cL,cQ,cR,List.getElem?_cons_zero,List.getElem?_cons_succ,cM,cT,cU,cV,cK,Nat.reduceAdd,Nat.reduceLT,Nat.reduceLeDiff,decide_true,decide_false,Bool.true_and,Bool.and_true,cW,cJ,Option.some.injEq,Xs,Xt,Xu,Xv]
      rw[Ac]
      exact hK s S O D hw (Bk.refl _ _) (AR.refl _ _) ⟨[],by simp⟩ (hw.dL t hD).2.2 (fun u hu=>.inl hu) (fun _ _=>rfl)
    · simp only [hD, if_false, W5,    W6,    W7,    Qa, Qb, Qc, Qd, Qe, Qf, Qg, Qh, Qi, Qj, Qk, Ql, Qm, Qn, true_and, and_true, Qo, Qp, Qq, Qr, Qs, Qt, Qu, Qv, Qw, Qx, Qy, Qz, Ra, Rb, Rc, Rd, Re, Rf, Rg, Rh, Ri, Rj, Rk, Rl, Rm, Ya, Yb, Yc, Rn, Ro, Xv, Yd, Ye, Rq, Rs, Rt, Ru, Rw, Rx, Ry, hs, gsb, lsb, hplt, hobj, hjlt, Gz,   Om,   To,   K3,   G8,     AU        Tryz.underlying59 K3   hixt, hln, Za,   gbb, lbb, Zn,    d0, d1, d2, d3, d4, d5, d6, Rz, Wa, Wb, Wc, Wd, We, Wf, Wg, Wh, Wi, Wj, Wl, Wm, Wn, Wp, Wq, Wr, Ws, Wt, Wu, Wv, Ww, Wx, Wy, Wz, Xa, Xb, Xc, Xd, Xe, Xf, Xg, Xh, Xi, Xj, Xk, Xl, Xm, Xn, Xo, Xp, Xq, Xr, cN,               cP,              cO,               cL,              cQ,                 cR,                 List.getElem?_cons_zero, List.getElem?_cons_succ, cM,             cT,                  cU,                  cV,             cK,           Nat.reduceAdd, Nat.reduceLT, Nat.reduceLeDiff, decide_true, decide_false, Bool.true_and, Bool.and_true, cW,             cJ,          Option.some.injEq, Xs, Xt, Xu, Xv]
      have hcb':=fun K=>hcb _ _ S O D t m K (fun x hx=>cn _ (hHm x hx)) hbw ht htL
      rw[hent]at hcb'
      refine hcb' _ fun s' S' O' x bo g1 g2 g3 g4 g5 g6=>?_
      have hb1:Bk (dm::O) s s':=((AM.frO O).trans g3 (AR.refl O s)).weak dm
      have hgr:AR O O' s:=AR.trans (AR.refl O s) g4 (by rw[Wm,AF];omega)
      have hpre:∃x,S'=S++x:=by
        rcases g5 with rfl | ⟨u,rfl⟩
        · exact⟨[],by simp⟩
        · exact Gf
      have hlen':S'.length≤S.length+1:=by
        rcases g5 with rfl | ⟨u,rfl⟩
        · omega
        · exact Cr
      have hheld:=hbw.hd.step (g3.weak dm) g4
      have hmp:s'.heap.get dm=some (.map 3 (Ey f S' D)):=by
        rw[g3.2 dm hbw.dl hw.dO,Jh hpre fun u hu=>⟨(Bj hw.pre (hw.dL u hu).2.1).1,(hw.dL u hu).2.2⟩];exact hbw.mp
      have hdl:dm<s'.next:=cg hbw.dl g3.1
      have hdO:dm ∉ O':=fun hm=>(g4 dm hm).elim hw.dO (fun hl=>by have:=hbw.dl;omega)
      have hdL:∀u∈D,u∈L∧u∈S0∧BM f u∈S':=fun u hu=>⟨(hw.dL u hu).1,(hw.dL u hu).2.1,(Bj hpre (hw.dL u hu).2.2).1⟩
      have hlen:=hw.len
      have hend:=fun a5 a6 a7 a8 a10 a11 a12 a13 a14 a15 a16 a17 a18 a19 a20 hcS hlf=>MV (E:=E) (K:=K) hbH hL ht htL g1 g2 (fun x hx=>hheld x (cn _ hx)) hmp hdl hdO (Cj hw.pre hpre) (by omega) hw.dn hdL hcS hD a5 a6 a7 a8 a10 a11 a12 a13 a14 a15 a16 a17 a18 a19 a20 fun s2 k1 k2 k3 =>
        hK s2 S' O' (D++[t]) k1 ⟨by rw[k2];exact hb1.1,fun j hj hjm=>by rw[k3 j fun e=>hjm (dE.2 (.inl e))];exact hb1.2 j hj hjm⟩ hgr hpre hcS (fun u hu=>by
          rcases List.mem_append.1 hu with h | h
          · exact .inl h
          · rw[List.mem_singleton.1 h];exact .inr (cJ _)) hlf
      rcases g6 with⟨rfl,u,hfu,huS,rfl⟩ | ⟨rfl,hfn,rfl⟩
      · have hcu:=D7 hfu
        rw[hcu]at hend
        simp only[Nw,W8,Qa,Qb,Qc,Qd,Qe,Qf,Qg,Qh,Qi,Qj,Qk,Ql,Qm,Qn,true_and,and_true,Qo,Qp,Qq,Qr,Qs,Qt,Qu,Qv,Qw,Qx,Qy,Qz,Ra,Rb,Rc,Rd,Re,Rf,Rg,Rh,Ri,Rj,Rk,Rl,Rm,Ya,Yb,Yc,Rn,Ro,Xv,Yd,Ye,Rq,Rs,Rt,Ru,Rw,Rx,Ry,Rz,Wa,Wb,Wc,Wd,We,Wf,Wg,Wh,Wi,Wj,Wl,Wm,Wn,Wp,Wq,Wr,Ws,Wt,Wu,Wv,Ww,Wx,Wy,Wz,Xa,Xb,Xc,Xd,Xe,Xf,Xg,Xh,Xi,Xj,Xk,Xl,Xm,Xn,Xo,Xp,Xq,Xr,cN,cP,cO,cL,cQ,cR,List.getElem?_cons_zero,List.getElem?_cons_succ,cM,cT,cU,cV,cK,Nat.reduceAdd,Nat.reduceLT,Nat.reduceLeDiff,decide_true,decide_false,Bool.true_and,Bool.and_true,cW,cJ,Option.some.injEq,Xs,Xt,Xu,Xv]
        exact hend _ _ _ _ _ _ _ _ _ _ _ _ _ _ _ huS (fun h=>by rw[hfu]at h;cases h)
      · rcases dK                 t.kids.length with h0 | h0
        · have hk0 : t.kids = [] := dU                            h0
          have hct:=Ew hfn hk0
          rw[hct,(Bj hw.pre ht).2]at hend
          have hgt:decide ((0:Int)<((0:Nat):Int))=false:=rfl
          have hgb2:s'.heap.get (nid b 0)=_:=(hheld _ (ck)).1
          simp only[Nw,RL,Qa,Qb,Qc,Qd,Qe,Qf,Qg,Qh,Qi,Qj,Qk,Ql,Qm,Qn,true_and,and_true,Qo,Qp,Qq,Qr,Qs,Qt,Qu,Qv,Qw,Qx,Qy,Qz,Ra,Rb,Rc,Rd,Re,Rf,Rg,Rh,Ri,Rj,Rk,Rl,Rm,Ya,Yb,Yc,Rn,Ro,Xv,Yd,Ye,Rq,Rs,Rt,Ru,Rw,Rx,Ry,Rz,Wa,Wb,Wc,Wd,We,Wf,Wg,Wh,Wi,Wj,Wl,Wm,Wn,Wp,Wq,Wr,Ws,Wt,Wu,Wv,Ww,Wx,Wy,Wz,Xa,Xb,Xc,Xd,Xe,Xf,Xg,Xh,Xi,Xj,Xk,Xl,Xm,Xn,Xo,Xp,Xq,Xr,cN,cP,cO,cL,cQ,cR,List.getElem?_cons_zero,List.getElem?_cons_succ,cM,cT,cU,cV,cK,Nat.reduceAdd,Nat.reduceLT,Nat.reduceLeDiff,decide_true,decide_false,Bool.true_and,Bool.and_true,cW,cJ,Option.some.injEq,Xs,Xt,Xu,Xv,hgb2,h0,SO,CV,Rs,hgt]
          exact hend _ _ _ _ _ _ _ _ _ _ _ _ _ _ _ htS.1 (fun _ _=>rfl)
        · have hgt : decide ((0 : Int) < (t.kids.length : Int)) = true := decide_eq_true (by omega)
          have hgb2:s'.heap.get (nid b 0)=_:=(hheld _ (ck)).1
          have hkn:t.kids≠[]:=fun e=>by rw[e]at h0;cases h0
          obtain⟨q1,q2⟩:=LV hfn
          obtain⟨q3,q4,q5,q6,q7⟩:=q2 hkn
          have hw1:Wk p dm f L S0 ((nid b 0,R 70 0 false [iv t.kind,iv t.id,iv (part S0 t 0),iv (part S0 t 1),iv (part S0 t 2),.str t.ktext,c0,c1,c2,c3,c4,c5,c6,iv (t.kids.length:Int),iv (t.sz:Int),.map (some m)])::H) s' S' O' D:=
            { st:=g1,gl:=g2,hd:=hheld,mp:=hmp,dl:=hdl,dO:=hdO,pre:=hw.pre,len:=hw.len,dn:=hw.dn,dL:=hdL }
          have hkS:∀k∈t.kids,k∈S0∧ix S0 k<ix S0 t:=fun k hk=>hS0.kid ht hk
          simp only[Nw,RL,RF,RG,Qa,Qb,Qc,Qd,Qe,Qf,Qg,Qh,Qi,Qj,Qk,Ql,Qm,Qn,true_and,and_true,Qo,Qp,Qq,Qr,Qs,Qt,Qu,Qv,Qw,Qx,Qy,Qz,Ra,Rb,Rc,Rd,Re,Rf,Rg,Rh,Ri,Rj,Rk,Rl,Rm,Ya,Yb,Yc,Rn,Ro,Xv,Yd,Ye,Rq,Rs,Rt,Ru,Rw,Rx,Ry,Rz,Wa,Wb,Wc,Wd,We,Wf,Wg,Wh,Wi,Wj,Wl,Wm,Wn,Wp,Wq,Wr,Ws,Wt,Wu,Wv,Ww,Wx,Wy,Wz,Xa,Xb,Xc,Xd,Xe,Xf,Xg,Xh,Xi,Xj,Xk,Xl,Xm,Xn,Xo,Xp,Xq,Xr,cN,cP,cO,cL,cQ,cR,List.getElem?_cons_zero,List.getElem?_cons_succ,cM,cT,cU,cV,cK,Nat.reduceAdd,Nat.reduceLT,Nat.reduceLeDiff,decide_true,decide_false,Bool.true_and,Bool.and_true,cW,cJ,Option.some.injEq,Xs,Xt,Xu,Xv,hgb2,SO,Dw,SN,CV,Rs,hgt,am (ZH t),Af Tryz.underlying27]
          refine PO (E:=E) (sB:=s') (OA:=O') (SA:=S') (DA:=D) hbx (fun x hx=>cn _ (hHm x hx)) hL (EV t) (fun k hk=>ih k (by have:=(hkS k hk).2;omega) (hkS k hk).1 (hLk t htL hfn k hk)) ck (fun k u hku=>?_) _ _ _ _ _ _ _ _ _ _ t.kids [] s' S' O' D _ [] _ _ rfl hw1 (C2.nil _ _ _) (fun _ h=>by cases h) (fun _ h=>by cases h) (Bk.refl _ _) (AR.refl _ _) ⟨[],by simp⟩ (fun _ h=>by cases h) (fun u hu=>.inl hu) ?_
          · have hk3 := EV         t
            have hlt3:k<t.kids.length:=by
              rcases cZ k t.kids.length with h' | h'
              · exact h'
              · rw[cm h']at hku;cases hku
            have hpk:part S0 t k=(ix S0 u:Int):=by unfold part;rw[hku]
            have:k=0∨k=1∨k=2:=by omega
            rcases this with rfl | rfl | rfl<;>simp[hpk]
          · intro s2 S2 O2 D2 v2 OB2 y13 y19 y20 k1 k2 k3 k4 k5 k6 k7
            have gsb2:s2.heap.get sb=some (R 25 0 false [.ptr (some (p,0))]):=(k1.hd _ (cn _ (hbH (sb,R 25 0 false [.ptr (some (p,0))]) (by simp[D6])))).1
            have gb2:s2.heap.get (nid b 0)=_:=(k1.hd _ (ck)).1
            have hrd:=k2.rd
            have hpa:Bd s2 S2 (BM f t).kids v2:=by
              rw[q1]
              refine Ad.parts (l:=t.kids.map (BM f)) ?_ (by rw[co];exact h0)
              rw[List.map_map];exact hrd
            have hput:=fun K=>EE (K:=K) hE k1.st (by have:=k1.small hL;omega) (BK.refl _ _) (BM f t) (fun k hk=>by rw[q1]at hk;obtain⟨x,hx,rfl⟩:=List.mem_map.1 hk;exact k6 x hx) q7 hpa
            rw[q3,q4,q5,q6]at hput
            simp only[Qa,Qb,Qc,Qd,Qe,Qf,Qg,Qh,Qi,Qj,Qk,Ql,Qm,Qn,true_and,and_true,Qo,Qp,Qq,Qr,Qs,Qt,Qu,Qv,Qw,Qx,Qy,Qz,Ra,Rb,Rc,Rd,Re,Rf,Rg,Rh,Ri,Rj,Rk,Rl,Rm,Ya,Yb,Yc,Rn,Ro,Xv,Yd,Ye,Rq,Rs,Rt,Ru,Rw,Rx,Ry]
            rw[if_pos trivial]
            simp only[RK,Qa,Qb,Qc,Qd,Qe,Qf,Qg,Qh,Qi,Qj,Qk,Ql,Qm,Qn,true_and,and_true,Qo,Qp,Qq,Qr,Qs,Qt,Qu,Qv,Qw,Qx,Qy,Qz,Ra,Rb,Rc,Rd,Re,Rf,Rg,Rh,Ri,Rj,Rk,Rl,Rm,Ya,Yb,Yc,Rn,Ro,Xv,Yd,Ye,Rq,Rs,Rt,Ru,Rw,Rx,Ry,gsb2,gb2,Gz,Dw,Dv,CV,KN,EM,Rz,Wa,Wb,Wc,Wd,We,Wf,Wg,Wh,Wi,Wj,Wl,Wm,Wn,Wp,Wq,Wr,Ws,Wt,Wu,Wv,Ww,Wx,Wy,Wz,Xa,Xb,Xc,Xd,Xe,Xf,Xg,Xh,Xi,Xj,Xk,Xl,Xm,Xn,Xo,Xp,Xq,Xr,cN,cP,cO,cL,cQ,cR,List.getElem?_cons_zero,List.getElem?_cons_succ,cM,cT,cU,cV,cK,Nat.reduceAdd,Nat.reduceLT,Nat.reduceLeDiff,decide_true,decide_false,Bool.true_and,Bool.and_true,cW,cJ,Option.some.injEq,Xs,Xt,Xu,Xv]
            refine hput _ fun s3 O3 j1 j2 j3=>?_
            have htD2:t ∉ D2:=fun hm=>by
              rcases k7 t hm with h' | ⟨k,hk,h'⟩
              · exact hD h'
              · have:=(hkS k hk).2;omega
            have hpre3:∃x,push S2 (BM f t)=S2++x:=Gf
            have hfr2:Bk (dm::O) s s2:=hb1.trans k3 (hgr.cons dm)
            have hgr2:AR O O2 s:=hgr.trans k4 hb1.1
            simp only[Qa,Qb,Qc,Qd,Qe,Qf,Qg,Qh,Qi,Qj,Qk,Ql,Qm,Qn,true_and,and_true,Qo,Qp,Qq,Qr,Qs,Qt,Qu,Qv,Qw,Qx,Qy,Qz,Ra,Rb,Rc,Rd,Re,Rf,Rg,Rh,Ri,Rj,Rk,Rl,Rm,Ya,Yb,Yc,Rn,Ro,Xv,Yd,Ye,Rq,Rs,Rt,Ru,Rw,Rx,Ry]
            refine MV hbH hL ht htL j1 (k1.gl.step j2 j3) (fun x hx=>(k1.hd.step (j2.weak dm) j3) x (cn _ hx)) (D:=D2) ?_ (cg k1.dl j2.1) (fun hm=>(j3 dm hm).elim k1.dO (fun hl=>by have:=k1.dl;omega)) (Cj k1.pre hpre3) (by have:=Cr (S:=S2) (u:=BM f t);have:=k1.len;omega) k1.dn (fun u hu=>⟨(k1.dL u hu).1,(k1.dL u hu).2.1,I2 (k1.dL u hu).2.2⟩) Ct htD2 _ _ _ _ _ _ _ _ _ _ _ _ _ _ _ ?_
            · rw[j2.2 dm k1.dl k1.dO,Jh hpre3 fun u hu=>⟨(Bj k1.pre (k1.dL u hu).2.1).1,(k1.dL u hu).2.2⟩];exact k1.mp
            · intro s4 e1 e2 e3
              have hfr3:Bk (dm::O) s s3:=hfr2.trans (j2.weak dm) (hgr2.cons dm)
              refine hK s4 _ O3 (D2++[t]) e1 ⟨by rw[e2];exact hfr3.1,fun j hj hjm=>by rw[e3 j fun e=>hjm (dE.2 (.inl e))];exact hfr3.2 j hj hjm⟩ (hgr2.trans j3 hfr2.1) (Cj k5 hpre3) Ct (fun u hu=>?_) (fun _ h=>absurd h hkn)
              rcases List.mem_append.1 hu with h | h
              · rcases k7 u h with h | ⟨k, hk, h⟩
                · exact .inl h
                · exact .inr (by have:=(hkS k hk).2;omega)
              · rw[List.mem_singleton.1 h];exact .inr (cJ _)
theorem bX:Bv Tryz.prog 31=some .nilFunc:=by kernel_rfl
theorem Ik:AV.nilFunc.isCell=true:=rfl
theorem JJ:AV.nilFunc.cells=[.nilFunc]:=rfl
def MW(E:Bb)(p:Nat)(f:Tm→Option Tm)(L S0:List Tm)(Hc:List (Nat×Ae))(g:FuncId)(caps:List AV):Prop:=
 ∀ (dm:Nat) (Hm:List (Nat×Ae)),(∀x∈Hc,x∈Hm)→Zi E p dm f L S0 Hm g caps
set_option maxRecDepth 20000 in
theorem Jg{E:Bb}(hE:Ah E){s:AD}{p:Nat}{S:List Tm}{O:List Nat}(h:AS s p S O)(hg:Bw s O){f:Tm→Option Tm}{L:List Tm}(hL:S.length+L.length<90000)
  (hLk:∀t∈L,f t=none→∀k∈t.kids,k∈L) {Hc:List (Nat×Ae)} (hHc:∀x∈Hc,s.heap.get x.1=some x.2∧x.1<s.next∧x.1 ∉ O) {g:FuncId} {caps:List AV} (hcb:MW E p f L S Hc g caps) {t:Tm} (ht:t∈S) (htL:t∈L) {K:AV→AD→Prop}
  (hK:∀s' S' O',AS s' p S' O'→Bw s' O'→Bk O s s'→AR O O' s→(∃x,S'=S++x)→S'.length≤S.length+L.length→BM f t∈S'→(f t=none→t.kids=[]→S'=S)→K (iv (ix S' (BM f t):Int)) s'):
  WF E 33 [.ptr (some (p,0)),iv (ix S t:Int),.func g [] caps] K s:=by
 refine hE.go Yi (by decide) rfl ?_
 have hlt:=h.lt
 have hg1:=hg.2.1
 generalize hs:s.next=b at hg1
 have hs0:s=ext s []:=(Ac s).symm
 rw[hs0]
 simp only[bp,Vi,Vj,Vk,Vl,Vm,Qa,Qb,Qc,Qd,Qe,Qf,Qg,Qh,Qi,Qj,Qk,Ql,Qm,Qn,true_and,and_true,Qo,Qp,Qq,Qr,Qs,Qt,Qu,Qv,Qw,Qx,Qy,Qz,Ra,Rb,Rc,Rd,Re,Rf,Rg,Rh,Ri,Rj,Rk,Rl,Rm,Ya,Yb,Yc,Rn,Ro,Xv,Yd,Ye,Rq,Rs,Rt,Ru,Rw,Rx,Ry,hs,OL,bY,bT,On,bX,bR,Zp,Ik,JJ,Rz,Wa,Wb,Wc,Wd,We,Wf,Wg,Wh,Wi,Wj,Wl,Wm,Wn,Wp,Wq,Wr,Ws,Wt,Wu,Wv,Ww,Wx,Wy,Wz,Xa,Xb,Xc,Xd,Xe,Xf,Xg,Xh,Xi,Xj,Xk,Xl,Xm,Xn,Xo,Xp,Xq,Xr,cN,cP,cO,cL,cQ,cR,List.getElem?_cons_zero,List.getElem?_cons_succ,cM,cT,cU,cV,cK,Nat.reduceAdd,Nat.reduceLT,Nat.reduceLeDiff,decide_true,decide_false,Bool.true_and,Bool.and_true,cW,cJ,Option.some.injEq,Xs,Xt,Xu,Xv]
 have hst:=h.old (AM (os:=[R 25 0 false [.ptr (some (p,0))],R 103 0 false [.func g [] caps],.map 3 [],R 68 0 false [.map (some (nid b 2))],R 31 0 false [Gq (nid b 3) (nid b 0) (nid b 1) (nid b 4)]]))
 have hgl:=hg.old (AM (os:=[R 25 0 false [.ptr (some (p,0))],R 103 0 false [.func g [] caps],.map 3 [],R 68 0 false [.map (some (nid b 2))],R 31 0 false [Gq (nid b 3) (nid b 0) (nid b 1) (nid b 4)]]))
 have hnx:(ext s [R 25 0 false [.ptr (some (p,0))],R 103 0 false [.func g [] caps],.map 3 [],R 68 0 false [.map (some (nid b 2))],R 31 0 false [Gq (nid b 3) (nid b 0) (nid b 1) (nid b 4)]]).next=b+5:=by rw[Wm,hs,AF];rfl
 have hnO:∀k,nid b k ∉ O:=fun k hm=>by have:=hlt _ hm;rw[AF]at this;omega
 have hne:∀k,k≠2→nid b k≠nid b 2:=fun k hk=>by rw[AF,AF];omega
 have hnl:∀k,k<5→nid b k<b+5:=fun k hk=>by rw[AF];omega
 have hw:Wk p (nid b 2) f L S (D6 p (nid b 2) (nid b 3) (nid b 0) (nid b 1) (nid b 4) (.func g [] caps)++Hc) (ext s [R 25 0 false [.ptr (some (p,0))],R 103 0 false [.func g [] caps],.map 3 [],R 68 0 false [.map (some (nid b 2))],R 31 0 false [Gq (nid b 3) (nid b 0) (nid b 1) (nid b 4)]]) S O []:=by
  refine⟨hst,hgl,?_,by rw[Wg hs (by simp)];rfl,by rw[hnx];exact hnl 2 (by omega),hnO 2,⟨[],by simp⟩,by simp,db,fun _ h=>by cases h⟩
  intro x hx
  rw[hnx]
  rcases List.mem_append.1 hx with hx | hx
  ·simp only[D6,dE,dS,or_false]at hx
   rcases hx with rfl | rfl | rfl | rfl
   ·exact⟨by rw[Wg hs (by simp)];rfl,hnl 3 (by omega),hnO 3,hne 3 (by omega)⟩
   ·exact⟨by rw[Wg hs (by simp)];rfl,hnl 0 (by omega),hnO 0,hne 0 (by omega)⟩
   ·exact⟨by rw[Wg hs (by simp)];rfl,hnl 1 (by omega),hnO 1,hne 1 (by omega)⟩
   ·exact⟨by rw[Wg hs (by simp)];rfl,hnl 4 (by omega),hnO 4,hne 4 (by omega)⟩
  ·obtain⟨h1,h2,h3⟩:=hHc x hx
   exact⟨by rw[Wh h2];exact h1,by omega,h3,by rw[AF];omega⟩
 refine Uk hE (Hm:=D6 p (nid b 2) (nid b 3) (nid b 0) (nid b 1) (nid b 4) (.func g [] caps)++Hc) (fun x hx=>dV _ hx) hL h.ok hLk (hcb _ _ fun x hx=>dI _ hx) (ix S t+1) t (by omega) ht htL _ _ S O [] _ (fun x hx=>hx) hw ?_
 intro s' S' O' D' k1 k2 k3 k4 k5 k6 k7
 simp only[Qa,Qb,Qc,Qd,Qe,Qf,Qg,Qh,Qi,Qj,Qk,Ql,Qm,Qn,true_and,and_true,Qo,Qp,Qq,Qr,Qs,Qt,Qu,Qv,Qw,Qx,Qy,Qz,Ra,Rb,Rc,Rd,Re,Rf,Rg,Rh,Ri,Rj,Rk,Rl,Rm,Ya,Yb,Yc,Rn,Ro,Xv,Yd,Ye,Rq,Rs,Rt,Ru,Rw,Rx,Ry]
 have hnx2:=hnx
 simp only[Gq]at hnx2
 have hDl:=Dp k1.dn fun u hu=>(k1.dL u hu).1
 have hl:=k1.len
 refine hK s' S' O' k1.st k1.gl ⟨by have:=k2.1;rw[hnx2]at this;omega,fun j hj hjO=>?_⟩ (AR.trans (AR.refl O s) k3 (by rw[hnx2];omega)) k4 (by omega) k5 k7
 rw[k2.2 j (by rw[hnx2];omega) fun hm=>(dE.1 hm).elim (fun e=>by rw[e,AF]at hj;omega) hjO,Wh hj]
theorem IB{n:Nat}{S:List Tm}{l:List Int}:(Dl n S l).length≤S.length+1:=by
 rcases GB (n:=n) (S:=S) l with e | e<;>rw[e]
 ·omega
 ·exact Cr
def Mx(l:List Int)(x:Int):Int:=if x∈l then (l.idxOf x:Int)else -1
theorem ZF     {E : Bb}  (hE : Ah    E) {s : AD}  {v : AV} {l : List Int} (h : Ad     s v l) (hl : l.length ≤ 1000000) {x : Int} {K : AV → AD  → Prop} (hK : K (iv (Mx   l x)) s) : WF E 36 [v, iv x] K s := by
  refine hE.go Yl (by decide) rfl ?_
  have hlen:=h.len
  simp only[bt,Vv,Vw,hlen,Qa,Qb,Qc,Qd,Qe,Qf,Qg,Qh,Qi,Qj,Qk,Ql,Qm,Qn,true_and,and_true,Qo,Qp,Qq,Qr,Qs,Qt,Qu,Qv,Qw,Qx,Qy,Qz,Ra,Rb,Rc,Rd,Re,Rf,Rg,Rh,Ri,Rj,Rk,Rl,Rm,Ya,Yb,Yc,Rn,Ro,Xv,Yd,Ye,Rq,Rs,Rt,Ru,Rw,Rx,Ry,Rz,Wa,Wb,Wc,Wd,We,Wf,Wg,Wh,Wi,Wj,Wl,Wm,Wn,Wp,Wq,Wr,Ws,Wt,Wu,Wv,Ww,Wx,Wy,Wz,Xa,Xb,Xc,Xd,Xe,Xf,Xg,Xh,Xi,Xj,Xk,Xl,Xm,Xn,Xo,Xp,Xq,Xr,cN,cP,cO,cL,cQ,cR,List.getElem?_cons_zero,List.getElem?_cons_succ,cM,cT,cU,cV,cK,Nat.reduceAdd,Nat.reduceLT,Nat.reduceLeDiff,decide_true,decide_false,Bool.true_and,Bool.and_true,cW,cJ,Option.some.injEq,Xs,Xt,Xu,Xv]
  have key:∀ (l2 l1:List Int) (a3 a6 a7:AV),l=l1++l2→x ∉ l1→WC E none (AW.loop Ja) (Ab 0 (Hy (fun x_1 x_2 x_3=>Qb E Q3 (fun v s'=>JO (B5 s' x_2) fun s'=>K (Iu v 2) s') [] x_1 x_3) (Ends Tryz.prog [(CX.var 2,none)] K)))
      [v,iv x,iv 0,a3,iv (l.length:Int),iv (l1.length:Int),a6,a7] [] s:=by
    intro l2
    induction l2 with
    | nil =>
      intro l1 a3 a6 a7 hll hx
      refine WC.loop' ?_
      have hlt:¬ ((l1.length:Int)<(l.length:Int)):=by rw[hll];simp
      simp only[Ja,Ns,hlt,decide_false,Qa,Qb,Qc,Qd,Qe,Qf,Qg,Qh,Qi,Qj,Qk,Ql,Qm,Qn,true_and,and_true,Qo,Qp,Qq,Qr,Qs,Qt,Qu,Qv,Qw,Qx,Qy,Qz,Ra,Rb,Rc,Rd,Re,Rf,Rg,Rh,Ri,Rj,Rk,Rl,Rm,Ya,Yb,Yc,Rn,Ro,Xv,Yd,Ye,Rq,Rs,Rt,Ru,Rw,Rx,Ry,Rq]
      rw[if_pos trivial]
      simp only[Q3,Qa,Qb,Qc,Qd,Qe,Qf,Qg,Qh,Qi,Qj,Qk,Ql,Qm,Qn,true_and,and_true,Qo,Qp,Qq,Qr,Qs,Qt,Qu,Qv,Qw,Qx,Qy,Qz,Ra,Rb,Rc,Rd,Re,Rf,Rg,Rh,Ri,Rj,Rk,Rl,Rm,Ya,Yb,Yc,Rn,Ro,Xv,Yd,Ye,Rq,Rs,Rt,Ru,Rw,Rx,Ry]
      have hx2:Mx l x=-1:=by unfold Mx;rw[if_neg (by rw[hll];simpa using hx)]
      rw[hx2]at hK
      exact hK
    | cons y l2 ih =>
      intro l1 a3 a6 a7 hll hx
      refine WC.loop' ?_
      obtain⟨W,hW⟩:∃W,W=AW.loop Ja:=⟨_,rfl⟩
      rw[← hW]
      have hlt:((l1.length:Int)<(l.length:Int)):=by rw[hll];simp;omega
      have hltn:l1.length<l.length:=by omega
      have hadd:i64 ((l1.length:Int)+1):=by unfold i64;omega
      obtain⟨j,q,cap,rfl,hj,hld⟩:=h.at (k:=l1.length) (x:=y) (by rw[hll];simp)
      by_cases e:x=y
      · have hd:decide (x=y)=true:=decide_eq_true e
        simp only[Ja,Ns,Q1,Q2,Vx,hlt,decide_true,Qa,Qb,Qc,Qd,Qe,Qf,Qg,Qh,Qi,Qj,Qk,Ql,Qm,Qn,true_and,and_true,Qo,Qp,Qq,Qr,Qs,Qt,Qu,Qv,Qw,Qx,Qy,Qz,Ra,Rb,Rc,Rd,Re,Rf,Rg,Rh,Ri,Rj,Rk,Rl,Rm,Ya,Yb,Yc,Rn,Ro,Xv,Yd,Ye,Rq,Rs,Rt,Ru,Rw,Rx,Ry,Rq,Rw,AU Tryz.underlying27 Dt hltn,CV,hld,hd,ct,Rz,Wa,Wb,Wc,Wd,We,Wf,Wg,Wh,Wi,Wj,Wl,Wm,Wn,Wp,Wq,Wr,Ws,Wt,Wu,Wv,Ww,Wx,Wy,Wz,Xa,Xb,Xc,Xd,Xe,Xf,Xg,Xh,Xi,Xj,Xk,Xl,Xm,Xn,Xo,Xp,Xq,Xr,cN,cP,cO,cL,cQ,cR,List.getElem?_cons_zero,List.getElem?_cons_succ,cM,cT,cU,cV,cK,Nat.reduceAdd,Nat.reduceLT,Nat.reduceLeDiff,decide_true,decide_false,Bool.true_and,Bool.and_true,cW,cJ,Option.some.injEq,Xs,Xt,Xu,Xv]
        subst e
        have hx2:Mx l x=(l1.length:Int):=by
          unfold Mx
          rw[if_pos (by rw[hll];simp),hll,List.idxOf_append,if_neg hx]
          simp
        rw[hx2]at hK
        exact hK
      · have hd : decide (x = y) = false := decide_eq_false e
        have:=ih (l1++[y]) (iv (l1.length:Int)) (.bool true) (.bool false) (by rw[hll];simp) (by simp[hx,e])
        rw[← hW,show(l1++[y]).length=l1.length+1 from by simp]at this
        simp only[Ja,Ns,Q1,Q2,Vy,hlt,decide_true,Qa,Qb,Qc,Qd,Qe,Qf,Qg,Qh,Qi,Qj,Qk,Ql,Qm,Qn,true_and,and_true,Qo,Qp,Qq,Qr,Qs,Qt,Qu,Qv,Qw,Qx,Qy,Qz,Ra,Rb,Rc,Rd,Re,Rf,Rg,Rh,Ri,Rj,Rk,Rl,Rm,Ya,Yb,Yc,Rn,Ro,Xv,Yd,Ye,Rq,Rs,Rt,Ru,Rw,Rx,Ry,Rq,Rw,AU Tryz.underlying27 Dt hltn,CV,hld,hd,ct,A0 _ _ _ _ hadd,Rz,Wa,Wb,Wc,Wd,We,Wf,Wg,Wh,Wi,Wj,Wl,Wm,Wn,Wp,Wq,Wr,Ws,Wt,Wu,Wv,Ww,Wx,Wy,Wz,Xa,Xb,Xc,Xd,Xe,Xf,Xg,Xh,Xi,Xj,Xk,Xl,Xm,Xn,Xo,Xp,Xq,Xr,cN,cP,cO,cL,cQ,cR,List.getElem?_cons_zero,List.getElem?_cons_succ,cM,cT,cU,cV,cK,Nat.reduceAdd,Nat.reduceLT,Nat.reduceLeDiff,decide_true,decide_false,Bool.true_and,Bool.and_true,cW,cJ,Option.some.injEq,Xs,Xt,Xu,Xv]
        exact this
  exact key l [] _ _ _ rfl (by simp)
def BY(ids:List Int):Tm→Option Tm
 | .bnd i=>some (.bnd (i+(ids.length:Int)))
 | .var i=>if i∈ids then some (.bnd (ids.idxOf i:Int))else none
 | _=>none
theorem R5       {E : Bb}  (hE : Ah    E) {p : Nat} {L S0 : List Tm} (hL : S0.length + L.length < 90000) (hbnd : ∀ i, Tm.bnd i ∈ L → i < 1000000000) {lb sb : Nat} {v : AV} {ids : List Int} (hl : ids.length ≤ 1000000) {Hv : List (Nat × Ae)}   (hv : ∀ (s : AD),  (∀ x ∈ Hv, s.heap.get x.1 = some x.2 ∧ x.1 < s.next) → Ad     s v ids) :
    MW E p (BY ids) L S0 ([(lb,R 27 0 false [v]),(sb,R 25 0 false [.ptr (some (p,0))])]++Hv) 35 [.ptr (some (lb,0)),.ptr (some (sb,0))]:=by
  intro dm Hm hHc H s S O D t m K hHm hw ht htL hK
  have hlbx:=hw.hd _ (hHm _ (hHc (lb,R 27 0 false [v]) (by simp)))
  have hsbx:=hw.hd _ (hHm _ (hHc (sb,R 25 0 false [.ptr (some (p,0))]) (by simp)))
  have hvr:Ad s v ids:=hv s fun x hx=>⟨(hw.hd _ (hHm _ (hHc x (dI _ hx)))).1,(hw.hd _ (hHm _ (hHc x (dI _ hx)))).2.1⟩
  have glb:s.heap.get lb=some (R 27 0 false [v]):=hlbx.1
  have gsb:s.heap.get sb=some (R 25 0 false [.ptr (some (p,0))]):=hsbx.1
  have llb:lb<s.next:=hlbx.2.1
  have lsb:sb<s.next:=hsbx.2.1
  have hvcell:v.isCell=true∧v.cells=[v]:=by
    rcases hvr with⟨_,rfl⟩ | ⟨_,_,_,rfl,_⟩<;>exact⟨rfl,rfl⟩
  have htok:=hw.st.ok.ok t (Bj hw.pre ht).1
  obtain⟨c0,c1,c2,c3,c4,c5,c6,hc,d0,d1,d2,d3,d4,d5,d6⟩:=t.cells7 htok
  have hsm:=hw.small hL
  refine hE.go Yk (by decide) rfl ?_
  have hend:∀os (x:AV),BY ids t=none→K (.tuple [x,.bool false]) (ext s os):=fun os x hx =>
    hK (ext s os) S O x false (hw.st.old AM) (hw.gl.old AM) (AM.frO O) (AR.refl O s) (.inl rfl) (.inr ⟨rfl,hx,rfl⟩)
  have hbn:=fun os (i:Int) (hi:i64 i) (K:AV→AD→Prop)=>K4 (K:=K) hE (hw.st.old (AM (os:=os))) (by omega) hi
  have hput:∀os (i:Int) s' O',0≤i→BY ids t=some (.bnd i)→AS s' p (push S (.bnd (max i 0))) O'→Bk O (ext s os) s'→AR O O' (ext s os)→K (.tuple [iv (ix (push S (.bnd (max i 0))) (.bnd (max i 0)):Int),.bool true]) s':=fun os i s' O' h0 hf g1 g2 g3=>by
    rw[Int.max_eq_left h0]at *
    have hgl:Bw s' O':=(hw.gl.old (AM (os:=os))).step g2 g3
    exact hK s' _ O' _ true g1 hgl ((AM.frO O).trans g2 (AR.refl O s)) (AR.trans (AR.refl O s) g3 (by rw[Wm,AF];omega)) (.inr ⟨_,rfl⟩) (.inl ⟨rfl,_,hf,Ct,rfl⟩)
  have hix:=fun os (x:Int) (K:AV→AD→Prop)=>ZF (K:=K) hE (hvr.old (AM (os:=os))) hl (x:=x)
  have hlen:=hvr.len
  generalize hs:s.next=b at llb lsb
  have hs0:s=ext s []:=(Ac s).symm
  rw[hs0]
  simp only[br,Vr,Vs,BH,BG,hc,Qa,Qb,Qc,Qd,Qe,Qf,Qg,Qh,Qi,Qj,Qk,Ql,Qm,Qn,true_and,and_true,Qo,Qp,Qq,Qr,Qs,Qt,Qu,Qv,Qw,Qx,Qy,Qz,Ra,Rb,Rc,Rd,Re,Rf,Rg,Rh,Ri,Rj,Rk,Rl,Rm,Ya,Yb,Yc,Rn,Ro,Xv,Yd,Ye,Rq,Rs,Rt,Ru,Rw,Rx,Ry,hs,glb,gsb,llb,lsb,Fb,CV,Dw,Dv,EQ,Rz,Wa,Wb,Wc,Wd,We,Wf,Wg,Wh,Wi,Wj,Wl,Wm,Wn,Wp,Wq,Wr,Ws,Wt,Wu,Wv,Ww,Wx,Wy,Wz,Xa,Xb,Xc,Xd,Xe,Xf,Xg,Xh,Xi,Xj,Xk,Xl,Xm,Xn,Xo,Xp,Xq,Xr,cN,cP,cO,cL,cQ,cR,List.getElem?_cons_zero,List.getElem?_cons_succ,cM,cT,cU,cV,cK,Nat.reduceAdd,Nat.reduceLT,Nat.reduceLeDiff,decide_true,decide_false,Bool.true_and,Bool.and_true,cW,cJ,Option.some.injEq,Xs,Xt,Xu,Xv]
  refine hix _ _ _ ?_
  by_cases hk1:t.kind=1
  · obtain⟨i,rfl⟩:∃i,t=.bnd i:=by
      cases t<;>first | exact⟨_,rfl⟩ | (cases hk1;done)
    have F0:decide ((Tm.bnd i).kind=1)=true:=rfl
    have hi9:=hbnd i htL
    have hi0:0≤i:=htok.1
    have hadd:i64 ((Tm.bnd i).id+(ids.length:Int)):=by show i64 (i+_);unfold i64;omega
    simp only[LM,Vt,Qa,Qb,Qc,Qd,Qe,Qf,Qg,Qh,Qi,Qj,Qk,Ql,Qm,Qn,true_and,and_true,Qo,Qp,Qq,Qr,Qs,Qt,Qu,Qv,Qw,Qx,Qy,Qz,Ra,Rb,Rc,Rd,Re,Rf,Rg,Rh,Ri,Rj,Rk,Rl,Rm,Ya,Yb,Yc,Rn,Ro,Xv,Yd,Ye,Rq,Rs,Rt,Ru,Rw,Rx,Ry,hs,glb,gsb,llb,lsb,Fb,CV,Gz,Dw,Dv,EQ,Rw,F0,hlen,A0 _ _ _ _ hadd,Rz,Wa,Wb,Wc,Wd,We,Wf,Wg,Wh,Wi,Wj,Wl,Wm,Wn,Wp,Wq,Wr,Ws,Wt,Wu,Wv,Ww,Wx,Wy,Wz,Xa,Xb,Xc,Xd,Xe,Xf,Xg,Xh,Xi,Xj,Xk,Xl,Xm,Xn,Xo,Xp,Xq,Xr,cN,cP,cO,cL,cQ,cR,List.getElem?_cons_zero,List.getElem?_cons_succ,cM,cT,cU,cV,cK,Nat.reduceAdd,Nat.reduceLT,Nat.reduceLeDiff,decide_true,decide_false,Bool.true_and,Bool.and_true,cW,cJ,Option.some.injEq,Xs,Xt,Xu,Xv]
    refine hbn _ (i+(ids.length:Int)) hadd _ fun s' O' g1 g2 g3=>?_
    simp only[Qa,Qb,Qc,Qd,Qe,Qf,Qg,Qh,Qi,Qj,Qk,Ql,Qm,Qn,true_and,and_true,Qo,Qp,Qq,Qr,Qs,Qt,Qu,Qv,Qw,Qx,Qy,Qz,Ra,Rb,Rc,Rd,Re,Rf,Rg,Rh,Ri,Rj,Rk,Rl,Rm,Ya,Yb,Yc,Rn,Ro,Xv,Yd,Ye,Rq,Rs,Rt,Ru,Rw,Rx,Ry]
    exact hput _ _ s' O' (by omega) rfl g1 g2 g3
  · have F0:decide (t.kind=1)=false:=decide_eq_false hk1
    by_cases hk0:t.kind=0
    · obtain⟨i,rfl⟩:∃i,t=.var i:=by
        cases t<;>first | exact⟨_,rfl⟩ | (cases hk0;done)
      have hd0:decide ((Tm.var i).kind=0)=true:=rfl
      by_cases hm:i∈ids
      · have hlt : ids.idxOf i < ids.length := dp                          hm
        have hidx:Mx ids (Tm.var i).id=(ids.idxOf i:Int):=if_pos hm
        have hge:decide ((0:Int)≤(ids.idxOf i:Int))=true:=decide_eq_true (by omega)
        have hi64:i64 (ids.idxOf i:Int):=by unfold i64;omega
        simp only[LM,Nr,Vu,hidx,Qa,Qb,Qc,Qd,Qe,Qf,Qg,Qh,Qi,Qj,Qk,Ql,Qm,Qn,true_and,and_true,Qo,Qp,Qq,Qr,Qs,Qt,Qu,Qv,Qw,Qx,Qy,Qz,Ra,Rb,Rc,Rd,Re,Rf,Rg,Rh,Ri,Rj,Rk,Rl,Rm,Ya,Yb,Yc,Rn,Ro,Xv,Yd,Ye,Rq,Rs,Rt,Ru,Rw,Rx,Ry,hs,glb,gsb,llb,lsb,Fb,CV,Gz,Dw,Dv,EQ,Rw,Ru,F0,hd0,hge,Rz,Wa,Wb,Wc,Wd,We,Wf,Wg,Wh,Wi,Wj,Wl,Wm,Wn,Wp,Wq,Wr,Ws,Wt,Wu,Wv,Ww,Wx,Wy,Wz,Xa,Xb,Xc,Xd,Xe,Xf,Xg,Xh,Xi,Xj,Xk,Xl,Xm,Xn,Xo,Xp,Xq,Xr,cN,cP,cO,cL,cQ,cR,List.getElem?_cons_zero,List.getElem?_cons_succ,cM,cT,cU,cV,cK,Nat.reduceAdd,Nat.reduceLT,Nat.reduceLeDiff,decide_true,decide_false,Bool.true_and,Bool.and_true,cW,cJ,Option.some.injEq,Xs,Xt,Xu,Xv]
        refine hbn _ (ids.idxOf i:Int) hi64 _ fun s' O' g1 g2 g3=>?_
        simp only[Qa,Qb,Qc,Qd,Qe,Qf,Qg,Qh,Qi,Qj,Qk,Ql,Qm,Qn,true_and,and_true,Qo,Qp,Qq,Qr,Qs,Qt,Qu,Qv,Qw,Qx,Qy,Qz,Ra,Rb,Rc,Rd,Re,Rf,Rg,Rh,Ri,Rj,Rk,Rl,Rm,Ya,Yb,Yc,Rn,Ro,Xv,Yd,Ye,Rq,Rs,Rt,Ru,Rw,Rx,Ry]
        exact hput _ _ s' O' (by omega) (if_pos hm) g1 g2 g3
      · have hidx : Mx   ids (Tm.var i).id = -1 := if_neg hm
        have hge:decide ((0:Int)≤-1)=false:=rfl
        simp only[LM,Nr,Q0,hidx,Qa,Qb,Qc,Qd,Qe,Qf,Qg,Qh,Qi,Qj,Qk,Ql,Qm,Qn,true_and,and_true,Qo,Qp,Qq,Qr,Qs,Qt,Qu,Qv,Qw,Qx,Qy,Qz,Ra,Rb,Rc,Rd,Re,Rf,Rg,Rh,Ri,Rj,Rk,Rl,Rm,Ya,Yb,Yc,Rn,Ro,Xv,Yd,Ye,Rq,Rs,Rt,Ru,Rw,Rx,Ry,hs,glb,gsb,llb,lsb,Fb,CV,Gz,Dw,Dv,EQ,Rw,Ru,F0,hd0,hge,Rz,Wa,Wb,Wc,Wd,We,Wf,Wg,Wh,Wi,Wj,Wl,Wm,Wn,Wp,Wq,Wr,Ws,Wt,Wu,Wv,Ww,Wx,Wy,Wz,Xa,Xb,Xc,Xd,Xe,Xf,Xg,Xh,Xi,Xj,Xk,Xl,Xm,Xn,Xo,Xp,Xq,Xr,cN,cP,cO,cL,cQ,cR,List.getElem?_cons_zero,List.getElem?_cons_succ,cM,cT,cU,cV,cK,Nat.reduceAdd,Nat.reduceLT,Nat.reduceLeDiff,decide_true,decide_false,Bool.true_and,Bool.and_true,cW,cJ,Option.some.injEq,Xs,Xt,Xu,Xv]
        exact hend _ _ (if_neg hm)
    · have hd0 : decide (t.kind = 0) = false := decide_eq_false hk0
      have hn:BY ids t=none:=by
        cases t<;>first | exact absurd rfl hk0 | exact absurd rfl hk1 | rfl
      simp only[LM,Nr,Q0,Qa,Qb,Qc,Qd,Qe,Qf,Qg,Qh,Qi,Qj,Qk,Ql,Qm,Qn,true_and,and_true,Qo,Qp,Qq,Qr,Qs,Qt,Qu,Qv,Qw,Qx,Qy,Qz,Ra,Rb,Rc,Rd,Re,Rf,Rg,Rh,Ri,Rj,Rk,Rl,Rm,Ya,Yb,Yc,Rn,Ro,Xv,Yd,Ye,Rq,Rs,Rt,Ru,Rw,Rx,Ry,hs,glb,gsb,llb,lsb,Fb,CV,Gz,Dw,Dv,EQ,Rw,Ru,F0,hd0,Rz,Wa,Wb,Wc,Wd,We,Wf,Wg,Wh,Wi,Wj,Wl,Wm,Wn,Wp,Wq,Wr,Ws,Wt,Wu,Wv,Ww,Wx,Wy,Wz,Xa,Xb,Xc,Xd,Xe,Xf,Xg,Xh,Xi,Xj,Xk,Xl,Xm,Xn,Xo,Xp,Xq,Xr,cN,cP,cO,cL,cQ,cR,List.getElem?_cons_zero,List.getElem?_cons_succ,cM,cT,cU,cV,cK,Nat.reduceAdd,Nat.reduceLT,Nat.reduceLeDiff,decide_true,decide_false,Bool.true_and,Bool.and_true,cW,cJ,Option.some.injEq,Xs,Xt,Xu,Xv]
      exact hend _ _ hn
def A2(s:AD)(O:List Nat)(v:AV)(l:List Int):Prop:=∃Hv:List (Nat×Ae),(∀x∈Hv,s.heap.get x.1=some x.2∧x.1<s.next∧x.1 ∉ O)∧∀s':AD,(∀x∈Hv,s'.heap.get x.1=some x.2∧x.1<s'.next)→Ad s' v l
theorem A2.step{s s':AD}{O O':List Nat}{v:AV}{l:List Int}(h:A2 s O v l)(f:Bk O s s')(g:AR O O' s):A2 s' O' v l:=by
 obtain⟨Hv,h1,h2⟩:=h
 refine⟨Hv,fun x hx=>?_,h2⟩
 obtain⟨q1,q2,q3⟩:=h1 x hx
 exact⟨by rw[f.2 _ q2 q3];exact q1,cg q2 f.1,fun hm=>(g _ hm).elim q3 (fun hl=>by omega)⟩
theorem A2.rd{s:AD}{O:List Nat}{v:AV}{l:List Int}(h:A2 s O v l):Ad s v l:=by
 obtain⟨Hv,h1,h2⟩:=h
 exact h2 s fun x hx=>⟨(h1 x hx).1,(h1 x hx).2.1⟩
theorem A2.nil(s:AD)(O:List Nat):A2 s O (.slice none 0 (some 0)) []:=⟨[],fun _ h=>absurd h (by simp),fun _ _=>.inl ⟨rfl,rfl⟩⟩
theorem A2.of{s:AD}{O:List Nat}{j q:Nat}{cap:Option Nat}{ob:Ae}{l:List Int}(hg:s.heap.get j=some ob)(hl:j<s.next)(hO:j ∉ O)(hr:BF (some ob) q l.length=some (BP l)):A2 s O (.slice (some (j,q)) l.length cap) l:=
 ⟨[(j,ob)],fun x hx=>by rw[List.mem_singleton.1 hx];exact⟨hg,hl,hO⟩,fun s' h=>by
  have:=h (j,ob) (by simp)
  exact .inr ⟨j,q,cap,rfl,this.2,by rw[this.1];exact hr⟩⟩
set_option maxRecDepth 20000 in
theorem R6{E:Bb}(hE:Ah E){s:AD}{p:Nat}{S:List Tm}{O:List Nat}(h:AS s p S O)(hg:Bw s O){L:List Tm}(hL:S.length+L.length<89000){ti:Int}{v:AV}{ids:List Int}(hv:A2 s O v ids)(hl:ids.length≤1000000)
  (hbnd:∀i,Tm.bnd i∈L→i<1000000000) (hLk:∀t∈L,∀k∈t.kids,k∈L) (htL:As S ti∈L) {K:AV→AD→Prop}
  (hK:∀s' S' O',AS s' p S' O'→Bw s' O'→Bk O s s'→AR O O' s→(∃x,S'=Dl S.length S [ti]++x)→S'.length≤S.length+L.length+1→BM (BY ids) (As S ti)∈S'→K (iv (ix S' (BM (BY ids) (As S ti)):Int)) s'):
  WF E 12 [.ptr (some (p,0)),iv ti,v] K s:=by
 have hm:∀x∈([ti]:List Int),As S x∈Dl S.length S [ti]:=Gp rfl
 have hvc:v.isCell=true∧v.cells=[v]:=by
  rcases hv.rd with⟨_,rfl⟩ | ⟨_,_,_,rfl,_⟩<;>exact⟨rfl,rfl⟩
 refine hE.go YR (by decide) rfl ?_
 generalize hs:s.next=b
 have hs0:s=ext s []:=(Ac s).symm
 have hrd:Ad (ext s [R 25 0 false [.ptr (some (p,0))],R 27 0 false [v],R 3 1 false (BP [ti])]) (.slice (some (nid b 2,0)) 1 (some 1)) [ti]:=.inr ⟨nid b 2,0,some 1,rfl,by rw[Wm,hs,AF,AF];simp,by rw[Wg hs (by simp)];exact Wj (cJ _)⟩
 have hth:=fun(K:AV→AD→Prop)=>Gn (K:=K) hE (h.old (AM (os:=[R 25 0 false [.ptr (some (p,0))],R 27 0 false [v],R 3 1 false (BP [ti])]))) (by omega) (hg.old AM) hrd (by simp) (by simp)
 rw[hs0]
 simp only[bZ,Uy,Uz,U0,DI,B0,hs,Gz,hvc.2,Qa,Qb,Qc,Qd,Qe,Qf,Qg,Qh,Qi,Qj,Qk,Ql,Qm,Qn,true_and,and_true,Qo,Qp,Qq,Qr,Qs,Qt,Qu,Qv,Qw,Qx,Qy,Qz,Ra,Rb,Rc,Rd,Re,Rf,Rg,Rh,Ri,Rj,Rk,Rl,Rm,Ya,Yb,Yc,Rn,Ro,Xv,Yd,Ye,Rq,Rs,Rt,Ru,Rw,Rx,Ry,Rz,Wa,Wb,Wc,Wd,We,Wf,Wg,Wh,Wi,Wj,Wl,Wm,Wn,Wp,Wq,Wr,Ws,Wt,Wu,Wv,Ww,Wx,Wy,Wz,Xa,Xb,Xc,Xd,Xe,Xf,Xg,Xh,Xi,Xj,Xk,Xl,Xm,Xn,Xo,Xp,Xq,Xr,cN,cP,cO,cL,cQ,cR,List.getElem?_cons_zero,List.getElem?_cons_succ,cM,cT,cU,cV,cK,Nat.reduceAdd,Nat.reduceLT,Nat.reduceLeDiff,decide_true,decide_false,Bool.true_and,Bool.and_true,cW,cJ,Option.some.injEq,Xs,Xt,Xu,Xv]
 refine hth _ fun w s1 O1 g1 g2 g3 g4 g5=>?_
 obtain⟨j,rfl,hgj,hjl,hjO,hjb⟩:=g5
 have hnx:(ext s [R 25 0 false [.ptr (some (p,0))],R 27 0 false [v],R 3 1 false (BP [ti])]).next=b+3:=by rw[Wm,hs,AF];rfl
 have hnO:∀k,nid b k ∉ O:=fun k hm=>by have:=h.lt _ hm;rw[AF]at this;omega
 have hnO1:∀k,k<3→nid b k ∉ O1:=fun k hk hm=>(g4 _ hm).elim (hnO k) (fun hl=>by rw[hnx,AF]at hl;omega)
 have hgs:s1.heap.get (nid b 0)=some (R 25 0 false [.ptr (some (p,0))]):=by
  rw[g3.2 _ (by rw[hnx,AF];omega) (hnO 0),Wg hs (by simp)];rfl
 have hgi:s1.heap.get (nid b 1)=some (R 27 0 false [v]):=by
  rw[g3.2 _ (by rw[hnx,AF];omega) (hnO 1),Wg hs (by simp)];rfl
 rw[hnx]at hjb
 have hn1:=g3.1
 rw[hnx]at hn1
 have hf:Bk O s s1:=(AM.frO O).trans g3 (AR.refl O s)
 have hgr:AR O O1 s:=AR.trans (AR.refl O s) g4 (by rw[hnx];omega)
 have hv1:=hv.step hf hgr
 obtain⟨Hv,hv2,hv3⟩:=hv1
 have htl:=IB (n:=S.length) (S:=S) (l:=[ti])
 have hi1:AK Tryz.prog 27 (.slice (some (j,0)) 1 none) (iv 0)=some (.ptr (some (j,0))):=AU (k:=0) (i:=j) (o:=0) (len:=1) (cap:=none) Tryz.underlying27 Dt (by omega)
 have hl0:CW (s1.heap.get j) 0=some (iv (ix (Dl S.length S [ti]) (As S ti):Int)):=by rw[hgj,Wi];rfl
 refine⟨⟨BA ?_ (N8 _ _),trivial⟩,?_⟩
 ·simp only[Qa,Qb,Qc,Qd,Qe,Qf,Qg,Qh,Qi,Qj,Qk,Ql,Qm,Qn,true_and,and_true,Qo,Qp,Qq,Qr,Qs,Qt,Qu,Qv,Qw,Qx,Qy,Qz,Ra,Rb,Rc,Rd,Re,Rf,Rg,Rh,Ri,Rj,Rk,Rl,Rm,Ya,Yb,Yc,Rn,Ro,Xv,Yd,Ye,Rq,Rs,Rt,Ru,Rw,Rx,Ry,Gz,hgs,Rz,Wa,Wb,Wc,Wd,We,Wf,Wg,Wh,Wi,Wj,Wl,Wm,Wn,Wp,Wq,Wr,Ws,Wt,Wu,Wv,Ww,Wx,Wy,Wz,Xa,Xb,Xc,Xd,Xe,Xf,Xg,Xh,Xi,Xj,Xk,Xl,Xm,Xn,Xo,Xp,Xq,Xr,cN,cP,cO,cL,cQ,cR,List.getElem?_cons_zero,List.getElem?_cons_succ,cM,cT,cU,cV,cK,Nat.reduceAdd,Nat.reduceLT,Nat.reduceLeDiff,decide_true,decide_false,Bool.true_and,Bool.and_true,cW,cJ,Option.some.injEq,Xs,Xt,Xu,Xv]
 simp only[cz,List.map_nil,cN,cP]
 simp only[Qa,Qb,Qc,Qd,Qe,Qf,Qg,Qh,Qi,Qj,Qk,Ql,Qm,Qn,true_and,and_true,Qo,Qp,Qq,Qr,Qs,Qt,Qu,Qv,Qw,Qx,Qy,Qz,Ra,Rb,Rc,Rd,Re,Rf,Rg,Rh,Ri,Rj,Rk,Rl,Rm,Ya,Yb,Yc,Rn,Ro,Xv,Yd,Ye,Rq,Rs,Rt,Ru,Rw,Rx,Ry,CV,hi1,hl0,Rz,Wa,Wb,Wc,Wd,We,Wf,Wg,Wh,Wi,Wj,Wl,Wm,Wn,Wp,Wq,Wr,Ws,Wt,Wu,Wv,Ww,Wx,Wy,Wz,Xa,Xb,Xc,Xd,Xe,Xf,Xg,Xh,Xi,Xj,Xk,Xl,Xm,Xn,Xo,Xp,Xq,Xr,cN,cP,cO,cL,cQ,cR,List.getElem?_cons_zero,List.getElem?_cons_succ,cM,cT,cU,cV,cK,Nat.reduceAdd,Nat.reduceLT,Nat.reduceLeDiff,decide_true,decide_false,Bool.true_and,Bool.and_true,cW,cJ,Option.some.injEq,Xs,Xt,Xu,Xv]
 refine Jg hE g1 g2 (f:=BY ids) (L:=L) (by omega) (fun t ht _ k hk=>hLk t ht k hk) (Hc:=[(nid b 1,R 27 0 false [v]),(nid b 0,R 25 0 false [.ptr (some (p,0))])]++Hv) ?_ (R5 hE (by omega) hbnd hl hv3) (hm ti (by simp)) htL ?_
 ·intro x hx
  rcases List.mem_append.1 hx with hx | hx
  ·simp only[dE,dS,or_false]at hx
   rcases hx with rfl | rfl
   ·exact⟨hgi,by rw[AF];omega,hnO1 1 (by omega)⟩
   ·exact⟨hgs,by rw[AF];omega,hnO1 0 (by omega)⟩
  ·exact hv2 x hx
 ·intro s' S' O' k1 k2 k3 k4 k5 k6 k7 _
  simp only[Qa,Qb,Qc,Qd,Qe,Qf,Qg,Qh,Qi,Qj,Qk,Ql,Qm,Qn,true_and,and_true,Qo,Qp,Qq,Qr,Qs,Qt,Qu,Qv,Qw,Qx,Qy,Qz,Ra,Rb,Rc,Rd,Re,Rf,Rg,Rh,Ri,Rj,Rk,Rl,Rm,Ya,Yb,Yc,Rn,Ro,Xv,Yd,Ye,Rq,Rs,Rt,Ru,Rw,Rx,Ry]
  exact hK s' S' O' k1 k2 (hf.trans k3 hgr) (hgr.trans k4 hf.1) k5 (by omega) k7
def B2(us:List Tm):Tm→Option Tm
 | .bnd i=>if i<(us.length:Int)then us[i.toNat]? else some (.bnd (i - (us.length:Int)))
 | _=>none
theorem UL      {E : Bb}  (hE : Ah    E) {p : Nat} {L S0 : List Tm} (hL : S0.length + L.length < 90000) {lb sb : Nat} {v : AV} {us : List Tm} (hus : ∀ u ∈ us, u ∈ S0) (hl : us.length ≤ 1000000) {Hv : List (Nat × Ae)}   (hv : ∀ (s : AD),  (∀ x ∈ Hv, s.heap.get x.1 = some x.2 ∧ x.1 < s.next) → Ad     s v (us.map fun u => (ix S0 u : Int))) :
    MW E p (B2 us) L S0 ([(lb,R 27 0 false [v]),(sb,R 25 0 false [.ptr (some (p,0))])]++Hv) 40 [.ptr (some (lb,0)),.ptr (some (sb,0))]:=by
  intro dm Hm hHc H s S O D t m K hHm hw ht htL hK
  have hlbx:=hw.hd _ (hHm _ (hHc (lb,R 27 0 false [v]) (by simp)))
  have hsbx:=hw.hd _ (hHm _ (hHc (sb,R 25 0 false [.ptr (some (p,0))]) (by simp)))
  have hvr:Ad s v (us.map fun u=>(ix S0 u:Int)):=hv s fun x hx=>⟨(hw.hd _ (hHm _ (hHc x (dI _ hx)))).1,(hw.hd _ (hHm _ (hHc x (dI _ hx)))).2.1⟩
  have glb:s.heap.get lb=some (R 27 0 false [v]):=hlbx.1
  have gsb:s.heap.get sb=some (R 25 0 false [.ptr (some (p,0))]):=hsbx.1
  have llb:lb<s.next:=hlbx.2.1
  have lsb:sb<s.next:=hsbx.2.1
  have hvcell:v.isCell=true∧v.cells=[v]:=by
    rcases hvr with⟨_,rfl⟩ | ⟨_,_,_,rfl,_⟩<;>exact⟨rfl,rfl⟩
  have htok:=hw.st.ok.ok t (Bj hw.pre ht).1
  obtain⟨c0,c1,c2,c3,c4,c5,c6,hc,d0,d1,d2,d3,d4,d5,d6⟩:=t.cells7 htok
  have hsm:=hw.small hL
  refine hE.go Yo (by decide) rfl ?_
  have hend:∀os (x:AV),B2 us t=none→K (.tuple [x,.bool false]) (ext s os):=fun os x hx =>
    hK (ext s os) S O x false (hw.st.old AM) (hw.gl.old AM) (AM.frO O) (AR.refl O s) (.inl rfl) (.inr ⟨rfl,hx,rfl⟩)
  have hgot:∀os (u:Tm),B2 us t=some u→u∈us→K (.tuple [iv (ix S0 u:Int),.bool true]) (ext s os):=fun os u hx hm =>
    hK (ext s os) S O _ true (hw.st.old AM) (hw.gl.old AM) (AM.frO O) (AR.refl O s) (.inl rfl) (.inl ⟨rfl,u,hx,(Bj hw.pre (hus u hm)).1,by rw[(Bj hw.pre (hus u hm)).2]⟩)
  have hbn:=fun os (i:Int) (hi:i64 i) (K:AV→AD→Prop)=>K4 (K:=K) hE (hw.st.old (AM (os:=os))) (by omega) hi
  have hput:∀os (i:Int) s' O',0≤i→B2 us t=some (.bnd i)→AS s' p (push S (.bnd (max i 0))) O'→Bk O (ext s os) s'→AR O O' (ext s os)→K (.tuple [iv (ix (push S (.bnd (max i 0))) (.bnd (max i 0)):Int),.bool true]) s':=fun os i s' O' h0 hf g1 g2 g3=>by
    rw[Int.max_eq_left h0]at *
    have hgl:Bw s' O':=(hw.gl.old (AM (os:=os))).step g2 g3
    exact hK s' _ O' _ true g1 hgl ((AM.frO O).trans g2 (AR.refl O s)) (AR.trans (AR.refl O s) g3 (by rw[Wm,AF];omega)) (.inr ⟨_,rfl⟩) (.inl ⟨rfl,_,hf,Ct,rfl⟩)
  have hlen:=hvr.len
  simp only[co]at hlen
  generalize hs:s.next=b at llb lsb
  have hs0:s=ext s []:=(Ac s).symm
  rw[hs0]
  by_cases hk1:t.kind=1
  · obtain⟨i,rfl⟩:∃i,t=.bnd i:=by
      cases t<;>first | exact⟨_,rfl⟩ | (cases hk1;done)
    have F0:decide ((Tm.bnd i).kind≠1)=false:=rfl
    have hi0:0≤i:=htok.1
    have hi64:i64 i:=htok.2
    by_cases hlt:i<(us.length:Int)
    · have SU  : decide ((Tm.bnd i).id < (us.length : Int)) = true := decide_eq_true hlt
      have hnat:i=(i.toNat:Int):=by omega
      have hin:i.toNat<us.length:=by omega
      obtain⟨j,q,cap,rfl,hj,hld⟩:=hvr.at (k:=i.toNat) (x:=(ix S0 us[i.toNat]:Int)) (by rw[dG,cY hin];rfl)
      have hidx:AK Tryz.prog 27 (.slice (some (j,q)) (us.map fun u=>(ix S0 u:Int)).length cap) (iv (Tm.bnd i).id)=some (.ptr (some (j,q+i.toNat))):=by
        show AK _ _ _ (iv i)=_
        rw[hnat]
        have:=AU (P:=Tryz.prog) (i:=j) (o:=q) (cap:=cap) (k:=i.toNat) (len:=(us.map fun u=>(ix S0 u:Int)).length) Tryz.underlying27 Dt (by rw[co];exact hin)
        rw[ct]at this
        exact this
      rw[hs]at hj
      simp only[co]at hlen hidx glb ⊢
      simp only[bB,Nt,Nu,Q9,WO,BH,BG,hc,Qa,Qb,Qc,Qd,Qe,Qf,Qg,Qh,Qi,Qj,Qk,Ql,Qm,Qn,true_and,and_true,Qo,Qp,Qq,Qr,Qs,Qt,Qu,Qv,Qw,Qx,Qy,Qz,Ra,Rb,Rc,Rd,Re,Rf,Rg,Rh,Ri,Rj,Rk,Rl,Rm,Ya,Yb,Yc,Rn,Ro,Xv,Yd,Ye,Rq,Rs,Rt,Ru,Rw,Rx,Ry,hs,glb,gsb,llb,lsb,hj,Fb,CV,Dw,Dv,EQ,Rx,Rq,F0,SU,hlen,hidx,hld,Rz,Wa,Wb,Wc,Wd,We,Wf,Wg,Wh,Wi,Wj,Wl,Wm,Wn,Wp,Wq,Wr,Ws,Wt,Wu,Wv,Ww,Wx,Wy,Wz,Xa,Xb,Xc,Xd,Xe,Xf,Xg,Xh,Xi,Xj,Xk,Xl,Xm,Xn,Xo,Xp,Xq,Xr,cN,cP,cO,cL,cQ,cR,List.getElem?_cons_zero,List.getElem?_cons_succ,cM,cT,cU,cV,cK,Nat.reduceAdd,Nat.reduceLT,Nat.reduceLeDiff,decide_true,decide_false,Bool.true_and,Bool.and_true,cW,cJ,Option.some.injEq,Xs,Xt,Xu,Xv]
      exact hgot _ us[i.toNat] (by show(if i<(us.length:Int)then us[i.toNat]? else _)=_;rw[if_pos hlt,cY hin]) (dd _)
    · have SU  : decide ((Tm.bnd i).id < (us.length : Int)) = false := decide_eq_false hlt
      have hsub:i64 ((Tm.bnd i).id - (us.length:Int)):=by show i64 (i - _);unfold i64 at *;omega
      simp only[bB,Nt,Nu,Q9,WP,BH,BG,hc,Qa,Qb,Qc,Qd,Qe,Qf,Qg,Qh,Qi,Qj,Qk,Ql,Qm,Qn,true_and,and_true,Qo,Qp,Qq,Qr,Qs,Qt,Qu,Qv,Qw,Qx,Qy,Qz,Ra,Rb,Rc,Rd,Re,Rf,Rg,Rh,Ri,Rj,Rk,Rl,Rm,Ya,Yb,Yc,Rn,Ro,Xv,Yd,Ye,Rq,Rs,Rt,Ru,Rw,Rx,Ry,hs,glb,gsb,llb,lsb,Fb,CV,Gz,Dw,Dv,EQ,Rx,Rq,F0,SU,hlen,FM _ _ _ _ hsub,Rz,Wa,Wb,Wc,Wd,We,Wf,Wg,Wh,Wi,Wj,Wl,Wm,Wn,Wp,Wq,Wr,Ws,Wt,Wu,Wv,Ww,Wx,Wy,Wz,Xa,Xb,Xc,Xd,Xe,Xf,Xg,Xh,Xi,Xj,Xk,Xl,Xm,Xn,Xo,Xp,Xq,Xr,cN,cP,cO,cL,cQ,cR,List.getElem?_cons_zero,List.getElem?_cons_succ,cM,cT,cU,cV,cK,Nat.reduceAdd,Nat.reduceLT,Nat.reduceLeDiff,decide_true,decide_false,Bool.true_and,Bool.and_true,cW,cJ,Option.some.injEq,Xs,Xt,Xu,Xv]
      refine hbn _ (i - (us.length:Int)) hsub _ fun s' O' g1 g2 g3=>?_
      simp only[Qa,Qb,Qc,Qd,Qe,Qf,Qg,Qh,Qi,Qj,Qk,Ql,Qm,Qn,true_and,and_true,Qo,Qp,Qq,Qr,Qs,Qt,Qu,Qv,Qw,Qx,Qy,Qz,Ra,Rb,Rc,Rd,Re,Rf,Rg,Rh,Ri,Rj,Rk,Rl,Rm,Ya,Yb,Yc,Rn,Ro,Xv,Yd,Ye,Rq,Rs,Rt,Ru,Rw,Rx,Ry]
      exact hput _ _ s' O' (by omega) (if_neg hlt) g1 g2 g3
  · have F0  : decide (t.kind ≠ 1) = true := decide_eq_true hk1
    have hn:B2 us t=none:=by
      cases t<;>first | exact absurd rfl hk1 | rfl
    simp only[bB,Nt,Nu,WN,BH,BG,hc,Qa,Qb,Qc,Qd,Qe,Qf,Qg,Qh,Qi,Qj,Qk,Ql,Qm,Qn,true_and,and_true,Qo,Qp,Qq,Qr,Qs,Qt,Qu,Qv,Qw,Qx,Qy,Qz,Ra,Rb,Rc,Rd,Re,Rf,Rg,Rh,Ri,Rj,Rk,Rl,Rm,Ya,Yb,Yc,Rn,Ro,Xv,Yd,Ye,Rq,Rs,Rt,Ru,Rw,Rx,Ry,hs,glb,gsb,llb,lsb,Fb,CV,Gz,Dw,Dv,EQ,Rx,F0,Rz,Wa,Wb,Wc,Wd,We,Wf,Wg,Wh,Wi,Wj,Wl,Wm,Wn,Wp,Wq,Wr,Ws,Wt,Wu,Wv,Ww,Wx,Wy,Wz,Xa,Xb,Xc,Xd,Xe,Xf,Xg,Xh,Xi,Xj,Xk,Xl,Xm,Xn,Xo,Xp,Xq,Xr,cN,cP,cO,cL,cQ,cR,List.getElem?_cons_zero,List.getElem?_cons_succ,cM,cT,cU,cV,cK,Nat.reduceAdd,Nat.reduceLT,Nat.reduceLeDiff,decide_true,decide_false,Bool.true_and,Bool.and_true,cW,cJ,Option.some.injEq,Xs,Xt,Xu,Xv]
    exact hend _ _ hn
theorem LF{s:AD}{i:Nat}{x:Int}{v:AV}{l:List Int}(hi:s.heap.get i=some (R 3 1 false (BP [x])))(h:Ad s v l)(hl:l.length≤1000):
  (l=[]∧Aj Tryz.prog s [27,27] [.slice (some (i,0)) 1 (some 1),v]=some (.slice (some (i,0)) 1 (some 1),s)) ∨
  (0<l.length∧Aj Tryz.prog s [27,27] [.slice (some (i,0)) 1 (some 1),v]=some (.slice (some (s.next,0)) (l.length+1) none,newObj s (R 3 1 true (BP (x::l))))):=by
 have hsrc:=FI h
 have hv:∃a n c,v=.slice a n c:=by
  rcases h with⟨_,rfl⟩ | ⟨_,_,_,rfl,_⟩<;>exact⟨_,_,_,rfl⟩
 obtain⟨a,n,c,rfl⟩:=hv
 have h1:Nat.ble ((1+l.length) * 8) 1099511627776=true:=CO (by omega)
 have h2:Nat.ble (1+l.length) 1099511627776=true:=CO (by omega)
 rcases dK l.length with h0 | h0
 ·have hnil:l=[]:=dU h0
  subst hnil
  refine .inl ⟨rfl,?_⟩
  simp only[Aj,Tryz.underlying27,Dt,Zb,Option.bind_some,hsrc,FW,FP,h1,h2,appTo,Er,Xa,Bool.and_self]
  rfl
 ·refine .inr ⟨h0,?_⟩
  have h3:Nat.ble (1+l.length) 1=false:=KL (by omega)
  have h4:BX s i 0 (1 * 1)=some [iv x]:=by rw[EY,hi];rfl
  simp only[Aj,Tryz.underlying27,Dt,Zb,Option.bind_some,hsrc,FW,FP,h1,h2,appTo,Er,h3,h4,cond_false,Bp,JG,Xa,Bool.and_self]
  rw[Nat.add_comm 1 l.length]
  rfl
theorem Ub{s:AD}{j:Nat}{sp:Bool}{cs:List AV}(hg:s.heap.get j=some (R 3 1 sp cs))(n:Nat):Ar Tryz.prog 27 true false false s [.slice (some (j,0)) (n+1) none,iv 1]=some (.slice (some (j,1)) n none):=by
 have hr:∃r,rowAt s j=some r∧r.n=cs.length∧r.sz=1:=⟨_,by rw[Kz,hg];rfl,rfl,rfl⟩
 obtain⟨r,h1,h2,h3⟩:=hr
 have hb:Be (iv 1) (n+1)=some 1:=by
  show(bif Nat.ble 1 (n+1)then some 1 else none)=some 1
  rw[CO (show 1≤n+1 by omega)];rfl
 have h0:Nat.ble 0 cs.length=true:=CO (cp _)
 show BZ Tryz.prog s 27 (.slice (some (j,0)) (n+1) none) (some (iv 1)) none none=_
 simp[BZ,Tryz.underlying27,Dt,h1,h2,h3,hb,AH,h0]
 rfl
set_option maxRecDepth 20000 in
theorem UM      {E : Bb}  (hE : Ah    E) {s : AD}  {p : Nat} {S : List Tm} {O : List Nat} (h : AS      s p S O) (hg : Bw   s O) {L : List Tm} (hL : S.length + L.length < 89000) {ti : Int} {v : AV} {bs : List Int} (hv : Ad     s v bs) (hl : bs.length ≤ 900)
    (hLk:∀t∈L,∀k∈t.kids,k∈L) (htL:As S ti∈L) {K:AV→AD→Prop}
    (hK:∀s' S' O',AS s' p S' O'→Bw s' O'→Bk O s s'→AR O O' s→(∃x,S'=Dl S.length S (ti::bs)++x)→S'.length≤S.length+L.length+1→BM (B2 (bs.map (As S))) (As S ti)∈S'→K (iv (ix S' (BM (B2 (bs.map (As S))) (As S ti)):Int)) s'):
    WF E 14 [.ptr (some (p,0)),iv ti,v] K s:=by
  have hm:∀x∈ti::bs,As S x∈Dl S.length S (ti::bs):=Gp rfl
  refine hE.go YT (by decide) rfl ?_
  generalize hs:s.next=b
  have hs0:s=ext s []:=(Ac s).symm
  have hap:∃os ts,Aj Tryz.prog (ext s [R 25 0 false [.ptr (some (p,0))],R 3 1 false (BP [ti])]) [27,27] [.slice (some (nid b 1,0)) 1 (some 1),v]=some (ts,ext s os)∧os[0]? = some (R 25 0 false [.ptr (some (p,0))])∧2≤os.length∧Ad (ext s os) ts (ti::bs):=by
    rcases LF (s:=ext s [R 25 0 false [.ptr (some (p,0))],R 3 1 false (BP [ti])]) (i:=nid b 1) (x:=ti) (by rw[Wg hs (by simp)];rfl) (hv.old AM) (by omega)with⟨hb,happ⟩ | ⟨h0,happ⟩
    · subst hb
      exact⟨_,_,happ,rfl,cJ _,.inr ⟨nid b 1,0,some 1,rfl,by rw[Wm,hs,AF,AF];simp,by rw[Wg hs (by simp)];exact Wj (cJ _)⟩⟩
    · rw [Wl] at happ
      refine⟨_,_,happ,rfl,by simp,.inr ⟨nid b 2,0,none,?_,by rw[Wm,hs,AF,AF];simp,?_⟩⟩
      · rw[Wm,hs];rfl
      · rw[Wg hs (by simp)]
        exact(Wj (by rw[BI,cK];exact cJ _)).trans (by rw[cM,dD (by rw[BI];exact cJ _)])
  obtain⟨os,ts,happ,hos0,hosl,hrd⟩:=hap
  have hg0:(ext s os).heap.get (nid b 0)=some (R 25 0 false [.ptr (some (p,0))]):=by rw[Wg hs (by omega)];exact hos0
  have hth:=fun(K:AV→AD→Prop)=>Gn (K:=K) hE (h.old (AM (os:=os))) (by omega) (hg.old AM) hrd (by simp) (by simp;omega)
  rw[hs0]
  simp only[be,U3,U4,U5,DI,B0,hs,Gz,happ,Qa,Qb,Qc,Qd,Qe,Qf,Qg,Qh,Qi,Qj,Qk,Ql,Qm,Qn,true_and,and_true,Qo,Qp,Qq,Qr,Qs,Qt,Qu,Qv,Qw,Qx,Qy,Qz,Ra,Rb,Rc,Rd,Re,Rf,Rg,Rh,Ri,Rj,Rk,Rl,Rm,Ya,Yb,Yc,Rn,Ro,Xv,Yd,Ye,Rq,Rs,Rt,Ru,Rw,Rx,Ry,Rz,Wa,Wb,Wc,Wd,We,Wf,Wg,Wh,Wi,Wj,Wl,Wm,Wn,Wp,Wq,Wr,Ws,Wt,Wu,Wv,Ww,Wx,Wy,Wz,Xa,Xb,Xc,Xd,Xe,Xf,Xg,Xh,Xi,Xj,Xk,Xl,Xm,Xn,Xo,Xp,Xq,Xr,cN,cP,cO,cL,cQ,cR,List.getElem?_cons_zero,List.getElem?_cons_succ,cM,cT,cU,cV,cK,Nat.reduceAdd,Nat.reduceLT,Nat.reduceLeDiff,decide_true,decide_false,Bool.true_and,Bool.and_true,cW,cJ,Option.some.injEq,Xs,Xt,Xu,Xv]
  refine⟨BA ?_ (N8 _ _),?_⟩
  · simp only[Qa,Qb,Qc,Qd,Qe,Qf,Qg,Qh,Qi,Qj,Qk,Ql,Qm,Qn,true_and,and_true,Qo,Qp,Qq,Qr,Qs,Qt,Qu,Qv,Qw,Qx,Qy,Qz,Ra,Rb,Rc,Rd,Re,Rf,Rg,Rh,Ri,Rj,Rk,Rl,Rm,Ya,Yb,Yc,Rn,Ro,Xv,Yd,Ye,Rq,Rs,Rt,Ru,Rw,Rx,Ry,Gz,hg0,Rz,Wa,Wb,Wc,Wd,We,Wf,Wg,Wh,Wi,Wj,Wl,Wm,Wn,Wp,Wq,Wr,Ws,Wt,Wu,Wv,Ww,Wx,Wy,Wz,Xa,Xb,Xc,Xd,Xe,Xf,Xg,Xh,Xi,Xj,Xk,Xl,Xm,Xn,Xo,Xp,Xq,Xr,cN,cP,cO,cL,cQ,cR,List.getElem?_cons_zero,List.getElem?_cons_succ,cM,cT,cU,cV,cK,Nat.reduceAdd,Nat.reduceLT,Nat.reduceLeDiff,decide_true,decide_false,Bool.true_and,Bool.and_true,cW,cJ,Option.some.injEq,Xs,Xt,Xu,Xv]
  refine hth _ fun w s1 O1 g1 g2 g3 g4 g5=>?_
  obtain⟨j,rfl,hgj,hjl,hjO,hjb⟩:=g5
  have hnx:(ext s os).next=b+os.length:=by rw[Wm,hs,AF]
  have hnO:∀k,nid b k ∉ O:=fun k hm=>by have:=h.lt _ hm;rw[AF]at this;omega
  have hgs:s1.heap.get (nid b 0)=some (R 25 0 false [.ptr (some (p,0))]):=by
    rw[g3.2 _ (by rw[hnx,AF];omega) (hnO 0)];exact hg0
  have hsO1:nid b 0 ∉ O1:=fun hm=>(g4 _ hm).elim (hnO 0) (fun hl=>by rw[hnx,AF]at hl;omega)
  rw[hnx]at hjb
  have hn1:=g3.1
  rw[hnx]at hn1
  have hf:Bk O s s1:=(AM.frO O).trans g3 (AR.refl O s)
  have hgr:AR O O1 s:=AR.trans (AR.refl O s) g4 (by rw[hnx];omega)
  have hlt1:=g1.lt
  have htl:=IB (n:=S.length) (S:=S) (l:=ti::bs)
  generalize hs1:s1.next=b1 at hjl hn1 hlt1
  have hs10:s1=ext s1 []:=(Ac s1).symm
  have hst2:=g1.old (AM (os:=[R 27 0 false [.slice (some (j,1)) bs.length none]]))
  have hgl2:=g2.old (AM (os:=[R 27 0 false [.slice (some (j,1)) bs.length none]]))
  have hnx1:(ext s1 [R 27 0 false [.slice (some (j,1)) bs.length none]]).next=b1+1:=by rw[Wm,hs1,AF];rfl
  have hi1:AK Tryz.prog 27 (.slice (some (j,0)) (bs.length+1) none) (iv 0)=some (.ptr (some (j,0))):=AU (k:=0) (i:=j) (o:=0) (len:=bs.length+1) (cap:=none) Tryz.underlying27 Dt (by omega)
  have hl0:CW (s1.heap.get j) 0=some (iv (ix (Dl S.length S (ti::bs)) (As S ti):Int)):=by rw[hgj,Wi];rfl
  have hsl:=Ub hgj bs.length
  simp only[cz,cN,co]
  rw[hs10]at hsl ⊢
  simp only[U6,U7,Qa,Qb,Qc,Qd,Qe,Qf,Qg,Qh,Qi,Qj,Qk,Ql,Qm,Qn,true_and,and_true,Qo,Qp,Qq,Qr,Qs,Qt,Qu,Qv,Qw,Qx,Qy,Qz,Ra,Rb,Rc,Rd,Re,Rf,Rg,Rh,Ri,Rj,Rk,Rl,Rm,Ya,Yb,Yc,Rn,Ro,Xv,Yd,Ye,Rq,Rs,Rt,Ru,Rw,Rx,Ry,hs1,hjl,hsl,hgs,show nid b 0<b1 from by rw[AF];omega,bW,bQ,Fb,CV,Gz,hi1,hl0,Rz,Wa,Wb,Wc,Wd,We,Wf,Wg,Wh,Wi,Wj,Wl,Wm,Wn,Wp,Wq,Wr,Ws,Wt,Wu,Wv,Ww,Wx,Wy,Wz,Xa,Xb,Xc,Xd,Xe,Xf,Xg,Xh,Xi,Xj,Xk,Xl,Xm,Xn,Xo,Xp,Xq,Xr,cN,cP,cO,cL,cQ,cR,List.getElem?_cons_zero,List.getElem?_cons_succ,cM,cT,cU,cV,cK,Nat.reduceAdd,Nat.reduceLT,Nat.reduceLeDiff,decide_true,decide_false,Bool.true_and,Bool.and_true,cW,cJ,Option.some.injEq,Xs,Xt,Xu,Xv]
  refine Jg hE hst2 hgl2 (f:=B2 (bs.map (As S))) (L:=L) (by omega) (fun t ht _ k hk=>hLk t ht k hk) (Hc:=[(nid b1 0,R 27 0 false [.slice (some (j,1)) bs.length none]),(nid b 0,R 25 0 false [.ptr (some (p,0))])]++[(j,R 3 1 true (BP ((ti::bs).map fun x=>(ix (Dl S.length S (ti::bs)) (As S x):Int))))]) ?_ (UL hE (by omega) (fun u hu=>?_) (by rw[co];omega) ?_) (hm ti (by simp)) htL ?_
  · intro x hx
    simp only[cO,cL,dE,dS,or_false]at hx
    rw[hnx1]
    rcases hx with rfl | rfl | rfl
    · exact⟨by rw[Wg hs1 (by simp)];rfl,by rw[AF];omega,fun hm=>by have:=hlt1 _ hm;rw[AF]at this;omega⟩
    · exact⟨by rw[Wh (by rw[AF];omega)];exact hgs,by rw[AF];omega,hsO1⟩
    · exact⟨by rw[Wh (by omega)];exact hgj,by omega,hjO⟩
  · obtain⟨x,hx,rfl⟩:=List.mem_map.1 hu
    exact hm x (cn _ hx)
  · intro s' hs'
    obtain⟨q1,q2⟩:=hs' _ (List.mem_singleton.2 rfl)
    refine .inr ⟨j,1,none,by rw[co,co],q2,?_⟩
    rw[show s'.heap.get j=_ from q1,Wj (by rw[BI];simp;omega)]
    simp only[BP,cz,cT,cM,List.map_map,co]
    rw[dD (by simp)]
    rfl
  · intro s' S' O' k1 k2 k3 k4 k5 k6 k7 _
    simp only[Qa,Qb,Qc,Qd,Qe,Qf,Qg,Qh,Qi,Qj,Qk,Ql,Qm,Qn,true_and,and_true,Qo,Qp,Qq,Qr,Qs,Qt,Qu,Qv,Qw,Qx,Qy,Qz,Ra,Rb,Rc,Rd,Re,Rf,Rg,Rh,Ri,Rj,Rk,Rl,Rm,Ya,Yb,Yc,Rn,Ro,Xv,Yd,Ye,Rq,Rs,Rt,Ru,Rw,Rx,Ry]
    have hf2:Bk O1 s1 s':=(AM.frO O1).trans k3 (AR.refl O1 s1)
    exact hK s' S' O' k1 k2 (hf.trans hf2 hgr) (hgr.trans (AR.trans (AR.refl O1 s1) k4 (by rw[hnx1,hs1];omega)) hf.1) k5 (by omega) k7
end
end Go.Proofs.YtickdehehcmfbaaGreatDoor.Am
