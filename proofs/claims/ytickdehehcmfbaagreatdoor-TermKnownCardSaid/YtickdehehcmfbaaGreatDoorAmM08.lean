/- TermKnown, walked up to its last line; conditions: none. -/
import Derived.Test.YtickdehehcmfbaaGreatDoorAmM07
import Derived.Handed
import Derived.Shelf.Vars
set_option linter.unusedVariables false
set_option linter.unusedSimpArgs false
namespace Go.Proofs.YtickdehehcmfbaaGreatDoor.Am
open Go Go.Proofs
noncomputable section
theorem Vo:Ab Tryz.prog 43 (zipIdx [0,6] [.int .i64 5,.int .i64 3])=some (.agg WG):=by kernel_rfl
theorem Vp:Ab Tryz.prog 43 (zipIdx [0,2] [.int .i64 2,.str [48,49]])=some (.agg WV):=by kernel_rfl
theorem NJ:Ab Tryz.prog 43 (zipIdx [0] [.int .i64 4])=some (.agg (Tm.con 10).cells):=by kernel_rfl
theorem TU(i j:Nat):Ab Tryz.prog 43 (zipIdx [0,4,5] [.int .i64 4,.slice (some (i,0)) 1 (some 1),.slice (some (j,0)) 1 (some 1)])=some (Cn i j):=by kernel_rfl
theorem X4:AW Tryz.prog 39 1 (zipIdx [0] [.str [97]])=some (R 9 1 false [.str [97]]):=by kernel_rfl
theorem X5:AW Tryz.prog 41 1 (zipIdx [0] [.agg Tm.nullC])=some (R 43 7 false Tm.nullC):=by kernel_rfl
theorem N0:push [] AP=[AP]∧(ix (push [] AP) AP:Int)=0:=by decide
theorem FE:push [AP] AP=[AP]∧(ix (push [AP] AP) AP:Int)=0:=by decide
theorem N1:push [AP] (.con 10)=[AP,.con 10]∧(ix (push [AP] (.con 10)) (.con 10):Int)=1:=by decide
theorem N2:push [AP,.con 10] (.upd (.con 10) AP (.con 10))=kS 0∧(ix (push [AP,.con 10] (.upd (.con 10) AP (.con 10))) (.upd (.con 10) AP (.con 10)):Int)=2:=by decide
theorem KF{n k:Nat}(h:k<n)(hn:(kS n).Nodup):(ix (kS n) (Ae k):Int)=(3+k:Nat):=(GF h).ix hn
section
variable{o0:Option AX}{p:Nat}{Q:Au→Prop}{marks:List Nat}
theorem Og(a0 a1 a3 a4 a5 a6 a7 a8 a11 a12 a13 a14 a15:AV):∀ (d k:Nat)(s:AE)(O:List Nat)(x16:AV),k+d=7→KW o0 p s (kS (k+1)) O →
  (∀s' O' y16,KW o0 p s' (kS 8) O'→A2 0 Q ⟨.exit 0,[a0,a1,.ptr (some (p,0)),a3,a4,a5,a6,a7,a8,iv 10,iv 7,a11,a12,a13,a14,a15,y16],marks,s'⟩) →
  WC Cs none (Ai.loop K5) (A2 0 Q) [a0,a1,.ptr (some (p,0)),a3,a4,a5,a6,a7,a8,iv (3+k:Nat),iv (k:Int),a11,a12,a13,a14,a15,x16] marks s:=by
 intro d
 induction d with
 | zero =>
  intro k s O x16 hk w hq
  have:k=7:=by omega
  subst this
  refine WC.loop' ?_
  simp only[K5,QL,Qa,Qb,Qc,Qd,Qe,Qf,Qg,Qh,Qi,Qj,Qk,Ql,Qm,Qn,true_and,and_true,Qo,Qp,Qq,Qr,Qs,Qt,Qu,Qv,Qw,Qx,Qy,Qz,Ra,Rb,Rc,Rd,Re,Rf,Rg,Rh,Ri,Rj,Rk,Rl,Rm,Ya,Yb,Yc,Rn,Ro,Xv,Yd,Ye,Rq,Rs,Rt,Ru,Rw,Rx,Ry,Rq]
  have hd:decide (((7:Nat):Int)<7)=false:=by decide
  simp only[hd,Qa,Qb,Qc,Qd,Qe,Qf,Qg,Qh,Qi,Qj,Qk,Ql,Qm,Qn,true_and,and_true,Qo,Qp,Qq,Qr,Qs,Qt,Qu,Qv,Qw,Qx,Qy,Qz,Ra,Rb,Rc,Rd,Re,Rf,Rg,Rh,Ri,Rj,Rk,Rl,Rm,Ya,Yb,Yc,Rn,Ro,Xv,Yd,Ye,Rq,Rs,Rt,Ru,Rw,Rx,Ry]
  exact hq s O _ w
 | succ d ih =>
  intro k s O x16 hk w hq
  refine WC.loop' ?_
  obtain⟨L,hL⟩:∃L,L=Ai.loop K5:=⟨_,rfl⟩
  rw[← hL]
  have hd:decide ((k:Int)<7)=true:=decide_eq_true (by omega)
  have hadd:i64 ((k:Int)+1):=by unfold i64;omega
  have hn:=GF (n:=k+1) (k:=k) (by omega)
  simp only[K5,QL,VZ,hd,Rq,Qa,Qb,Qc,Qd,Qe,Qf,Qg,Qh,Qi,Qj,Qk,Ql,Qm,Qn,true_and,and_true,Qo,Qp,Qq,Qr,Qs,Qt,Qu,Qv,Qw,Qx,Qy,Qz,Ra,Rb,Rc,Rd,Re,Rf,Rg,Rh,Ri,Rj,Rk,Rl,Rm,Ya,Yb,Yc,Rn,Ro,Xv,Yd,Ye,Rq,Rs,Rt,Ru,Rw,Rx,Ry]
  refine Mh w (by rw[Cw];omega) hn hn hn fun s' O' w'=>?_
  have e:push (kS (k+1)) (.upd (Ae k) (Ae k) (Ae k))=kS (k+2):=Gt (k+1)
  rw[e]at w' ⊢
  have e2:(ix (kS (k+2)) (.upd (Ae k) (Ae k) (Ae k)):Int)=(3+(k+1):Nat):=KF (n:=k+2) (k:=k+1) (by omega) w'.st.ok.nd
  rw[e2]
  simp only[Qa,Qb,Qc,Qd,Qe,Qf,Qg,Qh,Qi,Qj,Qk,Ql,Qm,Qn,true_and,and_true,Qo,Qp,Qq,Qr,Qs,Qt,Qu,Qv,Qw,Qx,Qy,Qz,Ra,Rb,Rc,Rd,Re,Rf,Rg,Rh,Ri,Rj,Rk,Rl,Rm,Ya,Yb,Yc,Rn,Ro,Xv,Yd,Ye,Rq,Rs,Rt,Ru,Rw,Rx,Ry,Va,By _ _ _ _ hadd]
  have:=ih (k+1) s' O' (.bool true) (by omega) w' hq
  rw[← hL]at this
  exact this
end
set_option maxRecDepth 20000 in
theorem SE{s:AE}(hg:C9 s 1 At=true)(h1:1<s.next){K:AV→AE→Prop}
  (hK:∀s' p O a8 a16,KW (s.heap.get 0) p s' kE O→Qb Cs QM (fun v s'=>KZ (CR s' []) fun s'=>K (JC v 0) s') [] [.bool false,.ptr none,.ptr (some (p,0)),iv 0,iv 0,iv 0,iv 0,iv 1,a8,iv 10,iv 7,iv 11,iv 12,iv 13,.bool false,.bool false,a16] s'):WF Cs 6 [] K s:=by
 refine AR.go XX (by decide) rfl ?_
 simp only[c6,XM,XN,XP,Qa,Qb,Qc,Qd,Qe,Qf,Qg,Qh,Qi,Qj,Qk,Ql,Qm,Qn,true_and,and_true,Qo,Qp,Qq,Qr,Qs,Qt,Qu,Qv,Qw,Qx,Qy,Qz,Ra,Rb,Rc,Rd,Re,Rf,Rg,Rh,Ri,Rj,Rk,Rl,Rm,Ya,Yb,Yc,Rn,Ro,Xv,Yd,Ye,Rq,Rs,Rt,Ru,Rw,Rx,Ry,Rz,Wa,Wb,Wc,Wd,We,Wf,Wg,Wh,Wi,Wj,Wl,Wm,Wn,Wp,Wq,Wr,Ws,Wt,Wu,Wv,Ww,Wx,Wy,Wz,Xa,Xb,Xc,Xd,Xe,Xf,Xg,Xh,Xi,Xj,Xk,Xl,Xm,Xn,Xo,Xp,Xq,Xr,ZC,ZF,ZE,ZD,ZH,ZI,List.getElem?_cons_zero,List.getElem?_cons_succ,ZG,ZJ,ZK,ZL,ZB,Nat.reduceAdd,Nat.reduceLT,Nat.reduceLeDiff,decide_true,decide_false,Bool.true_and,Bool.and_true,ZM,Y9,Option.some.injEq,Xs,Xt,Xu,Xv]
 refine WU AR hg h1 fun p s1 O1 e1 e2 e3 e4=>?_
 have w1:KW (s.heap.get 0) p s1 [] O1:=⟨e2,e3,e1.2 0 (by omega),fun hm=>by have:=e4 0 hm;omega⟩
 simp only[XQ,XR,BR,CG,Qa,Qb,Qc,Qd,Qe,Qf,Qg,Qh,Qi,Qj,Qk,Ql,Qm,Qn,true_and,and_true,Qo,Qp,Qq,Qr,Qs,Qt,Qu,Qv,Qw,Qx,Qy,Qz,Ra,Rb,Rc,Rd,Re,Rf,Rg,Rh,Ri,Rj,Rk,Rl,Rm,Ya,Yb,Yc,Rn,Ro,Xv,Yd,Ye,Rq,Rs,Rt,Ru,Rw,Rx,Ry,Rz,Wa,Wb,Wc,Wd,We,Wf,Wg,Wh,Wi,Wj,Wl,Wm,Wn,Wp,Wq,Wr,Ws,Wt,Wu,Wv,Ww,Wx,Wy,Wz,Xa,Xb,Xc,Xd,Xe,Xf,Xg,Xh,Xi,Xj,Xk,Xl,Xm,Xn,Xo,Xp,Xq,Xr,ZC,ZF,ZE,ZD,ZH,ZI,List.getElem?_cons_zero,List.getElem?_cons_succ,ZG,ZJ,ZK,ZL,ZB,Nat.reduceAdd,Nat.reduceLT,Nat.reduceLeDiff,decide_true,decide_false,Bool.true_and,Bool.and_true,ZM,Y9,Option.some.injEq,Xs,Xt,Xu,Xv]
 refine SK w1 (n:=0) (by omega) (by simp) fun s2 O2 w2=>?_
 rw[show(Tm.con 0)=AP from rfl,N0.1]at w2
 rw[show(Tm.con 0)=AP from rfl,N0.2]
 simp only[XS,Vo,Qa,Qb,Qc,Qd,Qe,Qf,Qg,Qh,Qi,Qj,Qk,Ql,Qm,Qn,true_and,and_true,Qo,Qp,Qq,Qr,Qs,Qt,Qu,Qv,Qw,Qx,Qy,Qz,Ra,Rb,Rc,Rd,Re,Rf,Rg,Rh,Ri,Rj,Rk,Rl,Rm,Ya,Yb,Yc,Rn,Ro,Xv,Yd,Ye,Rq,Rs,Rt,Ru,Rw,Rx,Ry,Rz,Wa,Wb,Wc,Wd,We,Wf,Wg,Wh,Wi,Wj,Wl,Wm,Wn,Wp,Wq,Wr,Ws,Wt,Wu,Wv,Ww,Wx,Wy,Wz,Xa,Xb,Xc,Xd,Xe,Xf,Xg,Xh,Xi,Xj,Xk,Xl,Xm,Xn,Xo,Xp,Xq,Xr,ZC,ZF,ZE,ZD,ZH,ZI,List.getElem?_cons_zero,List.getElem?_cons_succ,ZG,ZJ,ZK,ZL,ZB,Nat.reduceAdd,Nat.reduceLT,Nat.reduceLeDiff,decide_true,decide_false,Bool.true_and,Bool.and_true,ZM,Y9,Option.some.injEq,Xs,Xt,Xu,Xv]
 refine WN w2 (by simp) fun s3 O3 w3=>?_
 rw[FE.1]at w3
 rw[FE.2]
 generalize hs3:s3.next=b
 have hs30:s3=ext s3 []:=(AZ s3).symm
 rw[hs30]
 simp only[X4,X5,CG,TU,hs3,Qa,Qb,Qc,Qd,Qe,Qf,Qg,Qh,Qi,Qj,Qk,Ql,Qm,Qn,true_and,and_true,Qo,Qp,Qq,Qr,Qs,Qt,Qu,Qv,Qw,Qx,Qy,Qz,Ra,Rb,Rc,Rd,Re,Rf,Rg,Rh,Ri,Rj,Rk,Rl,Rm,Ya,Yb,Yc,Rn,Ro,Xv,Yd,Ye,Rq,Rs,Rt,Ru,Rw,Rx,Ry,Rz,Wa,Wb,Wc,Wd,We,Wf,Wg,Wh,Wi,Wj,Wl,Wm,Wn,Wp,Wq,Wr,Ws,Wt,Wu,Wv,Ww,Wx,Wy,Wz,Xa,Xb,Xc,Xd,Xe,Xf,Xg,Xh,Xi,Xj,Xk,Xl,Xm,Xn,Xo,Xp,Xq,Xr,ZC,ZF,ZE,ZD,ZH,ZI,List.getElem?_cons_zero,List.getElem?_cons_succ,ZG,ZJ,ZK,ZL,ZB,Nat.reduceAdd,Nat.reduceLT,Nat.reduceLeDiff,decide_true,decide_false,Bool.true_and,Bool.and_true,ZM,Y9,Option.some.injEq,Xs,Xt,Xu,Xv]
 refine Tf (w3.old AK) (by simp) (by rw[Wg hs3 (by simp)];rfl) (by rw[Wm,hs3,AH,AH];simp) (by rw[Wg hs3 (by simp)];rfl) (by rw[Wm,hs3,AH,AH];simp) fun s4 O4 w4=>?_
 rw[FE.1]at w4
 rw[FE.2]
 simp only[XT,Vp,NJ,Qa,Qb,Qc,Qd,Qe,Qf,Qg,Qh,Qi,Qj,Qk,Ql,Qm,Qn,true_and,and_true,Qo,Qp,Qq,Qr,Qs,Qt,Qu,Qv,Qw,Qx,Qy,Qz,Ra,Rb,Rc,Rd,Re,Rf,Rg,Rh,Ri,Rj,Rk,Rl,Rm,Ya,Yb,Yc,Rn,Ro,Xv,Yd,Ye,Rq,Rs,Rt,Ru,Rw,Rx,Ry,Rz,Wa,Wb,Wc,Wd,We,Wf,Wg,Wh,Wi,Wj,Wl,Wm,Wn,Wp,Wq,Wr,Ws,Wt,Wu,Wv,Ww,Wx,Wy,Wz,Xa,Xb,Xc,Xd,Xe,Xf,Xg,Xh,Xi,Xj,Xk,Xl,Xm,Xn,Xo,Xp,Xq,Xr,ZC,ZF,ZE,ZD,ZH,ZI,List.getElem?_cons_zero,List.getElem?_cons_succ,ZG,ZJ,ZK,ZL,ZB,Nat.reduceAdd,Nat.reduceLT,Nat.reduceLeDiff,decide_true,decide_false,Bool.true_and,Bool.and_true,ZM,Y9,Option.some.injEq,Xs,Xt,Xu,Xv]
 refine WO w4 (by simp) fun s5 O5 w5=>?_
 rw[FE.1]at w5
 rw[FE.2]
 simp only[NJ,Qa,Qb,Qc,Qd,Qe,Qf,Qg,Qh,Qi,Qj,Qk,Ql,Qm,Qn,true_and,and_true,Qo,Qp,Qq,Qr,Qs,Qt,Qu,Qv,Qw,Qx,Qy,Qz,Ra,Rb,Rc,Rd,Re,Rf,Rg,Rh,Ri,Rj,Rk,Rl,Rm,Ya,Yb,Yc,Rn,Ro,Xv,Yd,Ye,Rq,Rs,Rt,Ru,Rw,Rx,Ry,Rz,Wa,Wb,Wc,Wd,We,Wf,Wg,Wh,Wi,Wj,Wl,Wm,Wn,Wp,Wq,Wr,Ws,Wt,Wu,Wv,Ww,Wx,Wy,Wz,Xa,Xb,Xc,Xd,Xe,Xf,Xg,Xh,Xi,Xj,Xk,Xl,Xm,Xn,Xo,Xp,Xq,Xr,ZC,ZF,ZE,ZD,ZH,ZI,List.getElem?_cons_zero,List.getElem?_cons_succ,ZG,ZJ,ZK,ZL,ZB,Nat.reduceAdd,Nat.reduceLT,Nat.reduceLeDiff,decide_true,decide_false,Bool.true_and,Bool.and_true,ZM,Y9,Option.some.injEq,Xs,Xt,Xu,Xv]
 refine SK w5 (n:=10) (by omega) (by simp) fun s6 O6 w6=>?_
 rw[N1.1]at w6
 rw[N1.2]
 simp only[XU,Qa,Qb,Qc,Qd,Qe,Qf,Qg,Qh,Qi,Qj,Qk,Ql,Qm,Qn,true_and,and_true,Qo,Qp,Qq,Qr,Qs,Qt,Qu,Qv,Qw,Qx,Qy,Qz,Ra,Rb,Rc,Rd,Re,Rf,Rg,Rh,Ri,Rj,Rk,Rl,Rm,Ya,Yb,Yc,Rn,Ro,Xv,Yd,Ye,Rq,Rs,Rt,Ru,Rw,Rx,Ry,Rz,Wa,Wb,Wc,Wd,We,Wf,Wg,Wh,Wi,Wj,Wl,Wm,Wn,Wp,Wq,Wr,Ws,Wt,Wu,Wv,Ww,Wx,Wy,Wz,Xa,Xb,Xc,Xd,Xe,Xf,Xg,Xh,Xi,Xj,Xk,Xl,Xm,Xn,Xo,Xp,Xq,Xr,ZC,ZF,ZE,ZD,ZH,ZI,List.getElem?_cons_zero,List.getElem?_cons_succ,ZG,ZJ,ZK,ZL,ZB,Nat.reduceAdd,Nat.reduceLT,Nat.reduceLeDiff,decide_true,decide_false,Bool.true_and,Bool.and_true,ZM,Y9,Option.some.injEq,Xs,Xt,Xu,Xv]
 have q0:ET [AP,.con 10] 0 AP:=CP (k:=0) rfl
 have q1:ET [AP,.con 10] 1 (.con 10):=CP (k:=1) rfl
 refine Mh w6 (by simp) q1 q0 q1 fun s7 O7 w7=>?_
 rw[N2.1]at w7
 rw[N2.2]
 simp only[Qa,Qb,Qc,Qd,Qe,Qf,Qg,Qh,Qi,Qj,Qk,Ql,Qm,Qn,true_and,and_true,Qo,Qp,Qq,Qr,Qs,Qt,Qu,Qv,Qw,Qx,Qy,Qz,Ra,Rb,Rc,Rd,Re,Rf,Rg,Rh,Ri,Rj,Rk,Rl,Rm,Ya,Yb,Yc,Rn,Ro,Xv,Yd,Ye,Rq,Rs,Rt,Ru,Rw,Rx,Ry,Rz,Wa,Wb,Wc,Wd,We,Wf,Wg,Wh,Wi,Wj,Wl,Wm,Wn,Wp,Wq,Wr,Ws,Wt,Wu,Wv,Ww,Wx,Wy,Wz,Xa,Xb,Xc,Xd,Xe,Xf,Xg,Xh,Xi,Xj,Xk,Xl,Xm,Xn,Xo,Xp,Xq,Xr,ZC,ZF,ZE,ZD,ZH,ZI,List.getElem?_cons_zero,List.getElem?_cons_succ,ZG,ZJ,ZK,ZL,ZB,Nat.reduceAdd,Nat.reduceLT,Nat.reduceLeDiff,decide_true,decide_false,Bool.true_and,Bool.and_true,ZM,Y9,Option.some.injEq,Xs,Xt,Xu,Xv]
 refine Np w7 Nx (by simp[Tm.kids]) fun j s8 w8 hj hjl hjO hj1=>?_
 have hk3:(Tm.upd (.con 10) AP (.con 10)).kids.length=3:=rfl
 have hki:(CS (IZ (kS 0) (Tm.upd (.con 10) AP (.con 10))))=[iv 1,iv 0,iv 1]:=by kernel_rfl
 rw[hki]at hj
 rw[hk3]
 have hne:decide (((3:Nat):Int)≠3)=false:=by decide
 have hix:AQ Tryz.prog 27 (.slice (some (j,0)) 3 none) (iv 0)=some (.ptr (some (j,0))):=Ao (k:=0) (i:=j) (o:=0) (len:=3) (cap:=none) Tryz.underlying27 Ho (by omega)
 simp only[XV,VW,A8 Tryz.underlying27,Rx,hne,hix,hj,Dx,Ho,Qa,Qb,Qc,Qd,Qe,Qf,Qg,Qh,Qi,Qj,Qk,Ql,Qm,Qn,true_and,and_true,Qo,Qp,Qq,Qr,Qs,Qt,Qu,Qv,Qw,Qx,Qy,Qz,Ra,Rb,Rc,Rd,Re,Rf,Rg,Rh,Ri,Rj,Rk,Rl,Rm,Ya,Yb,Yc,Rn,Ro,Xv,Yd,Ye,Rq,Rs,Rt,Ru,Rw,Rx,Ry,Rz,Wa,Wb,Wc,Wd,We,Wf,Wg,Wh,Wi,Wj,Wl,Wm,Wn,Wp,Wq,Wr,Ws,Wt,Wu,Wv,Ww,Wx,Wy,Wz,Xa,Xb,Xc,Xd,Xe,Xf,Xg,Xh,Xi,Xj,Xk,Xl,Xm,Xn,Xo,Xp,Xq,Xr,ZC,ZF,ZE,ZD,ZH,ZI,List.getElem?_cons_zero,List.getElem?_cons_succ,ZG,ZJ,ZK,ZL,ZB,Nat.reduceAdd,Nat.reduceLT,Nat.reduceLeDiff,decide_true,decide_false,Bool.true_and,Bool.and_true,ZM,Y9,Option.some.injEq,Xs,Xt,Xu,Xv]
 have w9:KW (s.heap.get 0) p (setObj s8 j (R 3 1 true [AV.int IntKind.i64 99,iv 0,iv 1])) (kS 0) O7:=w8.frame (Y9 _) fun k hk=>Wr _ (by
  rintro rfl
  rcases hk with hk | hk
  ·exact hjO hk
  ·omega)
 generalize setObj s8 j (R 3 1 true [AV.int IntKind.i64 99,iv 0,iv 1])=s9 at w9
 simp only[VX,Qa,Qb,Qc,Qd,Qe,Qf,Qg,Qh,Qi,Qj,Qk,Ql,Qm,Qn,true_and,and_true,Qo,Qp,Qq,Qr,Qs,Qt,Qu,Qv,Qw,Qx,Qy,Qz,Ra,Rb,Rc,Rd,Re,Rf,Rg,Rh,Ri,Rj,Rk,Rl,Rm,Ya,Yb,Yc,Rn,Ro,Xv,Yd,Ye,Rq,Rs,Rt,Ru,Rw,Rx,Ry,Rz,Wa,Wb,Wc,Wd,We,Wf,Wg,Wh,Wi,Wj,Wl,Wm,Wn,Wp,Wq,Wr,Ws,Wt,Wu,Wv,Ww,Wx,Wy,Wz,Xa,Xb,Xc,Xd,Xe,Xf,Xg,Xh,Xi,Xj,Xk,Xl,Xm,Xn,Xo,Xp,Xq,Xr,ZC,ZF,ZE,ZD,ZH,ZI,List.getElem?_cons_zero,List.getElem?_cons_succ,ZG,ZJ,ZK,ZL,ZB,Nat.reduceAdd,Nat.reduceLT,Nat.reduceLeDiff,decide_true,decide_false,Bool.true_and,Bool.and_true,ZM,Y9,Option.some.injEq,Xs,Xt,Xu,Xv]
 refine WP w9 (by unfold i64;omega) (by simp[Cw]) fun s10 O10 w10=>?_
 have ed:push (kS 0) (.var (-3))=kS 1:=Gt 0
 rw[ed]at w10 ⊢
 have ed2:(ix (kS 1) (.var (-3)):Int)=(3+0:Nat):=KF (n:=1) (k:=0) (by omega) w10.st.ok.nd
 rw[ed2]
 simp only[VY,Qa,Qb,Qc,Qd,Qe,Qf,Qg,Qh,Qi,Qj,Qk,Ql,Qm,Qn,true_and,and_true,Qo,Qp,Qq,Qr,Qs,Qt,Qu,Qv,Qw,Qx,Qy,Qz,Ra,Rb,Rc,Rd,Re,Rf,Rg,Rh,Ri,Rj,Rk,Rl,Rm,Ya,Yb,Yc,Rn,Ro,Xv,Yd,Ye,Rq,Rs,Rt,Ru,Rw,Rx,Ry,Rz,Wa,Wb,Wc,Wd,We,Wf,Wg,Wh,Wi,Wj,Wl,Wm,Wn,Wp,Wq,Wr,Ws,Wt,Wu,Wv,Ww,Wx,Wy,Wz,Xa,Xb,Xc,Xd,Xe,Xf,Xg,Xh,Xi,Xj,Xk,Xl,Xm,Xn,Xo,Xp,Xq,Xr,ZC,ZF,ZE,ZD,ZH,ZI,List.getElem?_cons_zero,List.getElem?_cons_succ,ZG,ZJ,ZK,ZL,ZB,Nat.reduceAdd,Nat.reduceLT,Nat.reduceLeDiff,decide_true,decide_false,Bool.true_and,Bool.and_true,ZM,Y9,Option.some.injEq,Xs,Xt,Xu,Xv]
 refine Og _ _ _ _ _ _ _ _ _ _ _ _ _ 7 0 s10 O10 _ (by omega) w10 fun s11 O11 y16 w11=>?_
 simp only[Qa,Qb,Qc,Qd,Qe,Qf,Qg,Qh,Qi,Qj,Qk,Ql,Qm,Qn,true_and,and_true,Qo,Qp,Qq,Qr,Qs,Qt,Qu,Qv,Qw,Qx,Qy,Qz,Ra,Rb,Rc,Rd,Re,Rf,Rg,Rh,Ri,Rj,Rk,Rl,Rm,Ya,Yb,Yc,Rn,Ro,Xv,Yd,Ye,Rq,Rs,Rt,Ru,Rw,Rx,Ry]
 rw[if_pos trivial]
 have n7:=GF (n:=8) (k:=7) (by omega)
 simp only[Vb,Qa,Qb,Qc,Qd,Qe,Qf,Qg,Qh,Qi,Qj,Qk,Ql,Qm,Qn,true_and,and_true,Qo,Qp,Qq,Qr,Qs,Qt,Qu,Qv,Qw,Qx,Qy,Qz,Ra,Rb,Rc,Rd,Re,Rf,Rg,Rh,Ri,Rj,Rk,Rl,Rm,Ya,Yb,Yc,Rn,Ro,Xv,Yd,Ye,Rq,Rs,Rt,Ru,Rw,Rx,Ry]
 refine Mh w11 (by simp[Cw]) n7 n7 n7 fun s12 O12 w12=>?_
 have ee:push (kS 8) (.upd (Ae 7) (Ae 7) (Ae 7))=kS 9:=Gt 8
 rw[ee]at w12 ⊢
 have ee2:(ix (kS 9) (.upd (Ae 7) (Ae 7) (Ae 7)):Int)=(3+8:Nat):=KF (n:=9) (k:=8) (by omega) w12.st.ok.nd
 rw[ee2]
 simp only[Vc,Qa,Qb,Qc,Qd,Qe,Qf,Qg,Qh,Qi,Qj,Qk,Ql,Qm,Qn,true_and,and_true,Qo,Qp,Qq,Qr,Qs,Qt,Qu,Qv,Qw,Qx,Qy,Qz,Ra,Rb,Rc,Rd,Re,Rf,Rg,Rh,Ri,Rj,Rk,Rl,Rm,Ya,Yb,Yc,Rn,Ro,Xv,Yd,Ye,Rq,Rs,Rt,Ru,Rw,Rx,Ry]
 refine SG w12 (by unfold i64;omega) (by simp[Cw]) fun s13 O13 w13=>?_
 rw[Tv]at w13 ⊢
 have eb2:(ix (kS 9++[.bnd 2]) (.bnd (max 2 0)):Int)=12:=(show ET (kS 9++[.bnd 2]) 12 (.bnd 2)from CP (k:=12) (by rw[Zc (by rw[Cw];omega)];rw[Cw];rfl)).ix w13.st.ok.nd
 rw[eb2]
 simp only[Qa,Qb,Qc,Qd,Qe,Qf,Qg,Qh,Qi,Qj,Qk,Ql,Qm,Qn,true_and,and_true,Qo,Qp,Qq,Qr,Qs,Qt,Qu,Qv,Qw,Qx,Qy,Qz,Ra,Rb,Rc,Rd,Re,Rf,Rg,Rh,Ri,Rj,Rk,Rl,Rm,Ya,Yb,Yc,Rn,Ro,Xv,Yd,Ye,Rq,Rs,Rt,Ru,Rw,Rx,Ry]
 refine SG w13 (by unfold i64;omega) (by simp[Cw]) fun s14 O14 w14=>?_
 rw[Tu]at w14 ⊢
 have eb0:(ix kE (.bnd (max (-1) 0)):Int)=13:=SU.ix w14.st.ok.nd
 rw[eb0]
 simp only[Qa,Qb,Qc,Qd,Qe,Qf,Qg,Qh,Qi,Qj,Qk,Ql,Qm,Qn,true_and,and_true,Qo,Qp,Qq,Qr,Qs,Qt,Qu,Qv,Qw,Qx,Qy,Qz,Ra,Rb,Rc,Rd,Re,Rf,Rg,Rh,Ri,Rj,Rk,Rl,Rm,Ya,Yb,Yc,Rn,Ro,Xv,Yd,Ye,Rq,Rs,Rt,Ru,Rw,Rx,Ry]
 exact hK s14 p O14 _ _ w14
set_option maxRecDepth 20000 in
theorem SD{s:AE}(hg:C9 s 1 At=true)(h1:1<s.next){r:B0}(hr:Ty (s.heap.get 0)=some r)(hgl:r.glob=some 0){m:Int}(hm:Cz (s.heap.get 0) 0=some (iv m)){K:AV→AE→Prop}(hK:∀s',K (.bool true) s'):WF Cs 6 [] K s:=by
 refine SE hg h1 fun s1 p O a8 a16 w1=>?_
 have hd:∀a:Int,decide (a=a)=true:=fun a=>decide_eq_true rfl
 simp only[QM,Qa,Qb,Qc,Qd,Qe,Qf,Qg,Qh,Qi,Qj,Qk,Ql,Qm,Qn,true_and,and_true,Qo,Qp,Qq,Qr,Qs,Qt,Qu,Qv,Qw,Qx,Qy,Qz,Ra,Rb,Rc,Rd,Re,Rf,Rg,Rh,Ri,Rj,Rk,Rl,Rm,Ya,Yb,Yc,Rn,Ro,Xv,Yd,Ye,Rq,Rs,Rt,Ru,Rw,Rx,Ry]
 refine M9 AR w1.gl.1 ?_
 simp only[Rw,hd,decide_true,Qa,Qb,Qc,Qd,Qe,Qf,Qg,Qh,Qi,Qj,Qk,Ql,Qm,Qn,true_and,and_true,Qo,Qp,Qq,Qr,Qs,Qt,Qu,Qv,Qw,Qx,Qy,Qz,Ra,Rb,Rc,Rd,Re,Rf,Rg,Rh,Ri,Rj,Rk,Rl,Rm,Ya,Yb,Yc,Rn,Ro,Xv,Yd,Ye,Rq,Rs,Rt,Ru,Rw,Rx,Ry]
 refine Np w1 (Nx.ext Mf) (by simp[Tm.kids]) fun j s2 w2 hj hjl hjO hj1=>?_
 have hk3:(Tm.upd (.con 10) AP (.con 10)).kids.length=3:=rfl
 have hki:(CS (IZ kE (Tm.upd (.con 10) AP (.con 10))))=[iv 1,iv 0,iv 1]:=by kernel_rfl
 rw[hki]at hj
 rw[hk3]
 have hix:AQ Tryz.prog 27 (.slice (some (j,0)) 3 none) (iv 0)=some (.ptr (some (j,0))):=Ao (k:=0) (i:=j) (o:=0) (len:=3) (cap:=none) Tryz.underlying27 Ho (by omega)
 simp only[hix,hj,Dx,Rw,hd,decide_true,Qa,Qb,Qc,Qd,Qe,Qf,Qg,Qh,Qi,Qj,Qk,Ql,Qm,Qn,true_and,and_true,Qo,Qp,Qq,Qr,Qs,Qt,Qu,Qv,Qw,Qx,Qy,Qz,Ra,Rb,Rc,Rd,Re,Rf,Rg,Rh,Ri,Rj,Rk,Rl,Rm,Ya,Yb,Yc,Rn,Ro,Xv,Yd,Ye,Rq,Rs,Rt,Ru,Rw,Rx,Ry,Rz,Wa,Wb,Wc,Wd,We,Wf,Wg,Wh,Wi,Wj,Wl,Wm,Wn,Wp,Wq,Wr,Ws,Wt,Wu,Wv,Ww,Wx,Wy,Wz,Xa,Xb,Xc,Xd,Xe,Xf,Xg,Xh,Xi,Xj,Xk,Xl,Xm,Xn,Xo,Xp,Xq,Xr,ZC,ZF,ZE,ZD,ZH,ZI,List.getElem?_cons_zero,List.getElem?_cons_succ,ZG,ZJ,ZK,ZL,ZB,Nat.reduceAdd,Nat.reduceLT,Nat.reduceLeDiff,decide_true,decide_false,Bool.true_and,Bool.and_true,ZM,Y9,Option.some.injEq,Xs,Xt,Xu,Xv]
 have n7:ET kE 10 (Ae 7):=LZ (k:=7) (by omega)
 have n8:ET kE 11 (Ae 8):=LZ (k:=8) (by omega)
 refine Nr w2 n7 fun s3 w3=>?_
 rw[show(((Ae 7).sz:Nat):Int)=3280 from by rw[YE];rfl]
 simp only[Rw,hd,decide_true,Qa,Qb,Qc,Qd,Qe,Qf,Qg,Qh,Qi,Qj,Qk,Ql,Qm,Qn,true_and,and_true,Qo,Qp,Qq,Qr,Qs,Qt,Qu,Qv,Qw,Qx,Qy,Qz,Ra,Rb,Rc,Rd,Re,Rf,Rg,Rh,Ri,Rj,Rk,Rl,Rm,Ya,Yb,Yc,Rn,Ro,Xv,Yd,Ye,Rq,Rs,Rt,Ru,Rw,Rx,Ry]
 refine KJ w3 Hp n7 fun s4 w4=>?_
 rw[Vk]
 simp only[Tk,UB,Bool.not_false,Qa,Qb,Qc,Qd,Qe,Qf,Qg,Qh,Qi,Qj,Qk,Ql,Qm,Qn,true_and,and_true,Qo,Qp,Qq,Qr,Qs,Qt,Qu,Qv,Qw,Qx,Qy,Qz,Ra,Rb,Rc,Rd,Re,Rf,Rg,Rh,Ri,Rj,Rk,Rl,Rm,Ya,Yb,Yc,Rn,Ro,Xv,Yd,Ye,Rq,Rs,Rt,Ru,Rw,Rx,Ry]
 refine KJ w4 Hp n7 fun s5 w5=>?_
 rw[Vk]
 simp only[Qa,Qb,Qc,Qd,Qe,Qf,Qg,Qh,Qi,Qj,Qk,Ql,Qm,Qn,true_and,and_true,Qo,Qp,Qq,Qr,Qs,Qt,Qu,Qv,Qw,Qx,Qy,Qz,Ra,Rb,Rc,Rd,Re,Rf,Rg,Rh,Ri,Rj,Rk,Rl,Rm,Ya,Yb,Yc,Rn,Ro,Xv,Yd,Ye,Rq,Rs,Rt,Ru,Rw,Rx,Ry]
 refine MU (r:=r) (m:=m) (by rw[Hl,w5.z];exact hr) hgl (by rw[Nt,w5.z];exact hm) (by decide) ?_ ?_
 ·have:=Dj w5.st.ok Hp (Ae 7) n7.mem (by rw[YE];omega)
  rw[YE]at this
  omega
 rw[MV,show((3 ^ 7:Nat):Int)=2187 from rfl]
 simp only[Rw,hd,decide_true,Qa,Qb,Qc,Qd,Qe,Qf,Qg,Qh,Qi,Qj,Qk,Ql,Qm,Qn,true_and,and_true,Qo,Qp,Qq,Qr,Qs,Qt,Qu,Qv,Qw,Qx,Qy,Qz,Ra,Rb,Rc,Rd,Re,Rf,Rg,Rh,Ri,Rj,Rk,Rl,Rm,Ya,Yb,Yc,Rn,Ro,Xv,Yd,Ye,Rq,Rs,Rt,Ru,Rw,Rx,Ry]
 refine Nr w5 n8 fun s6 w6=>?_
 rw[show(((Ae 8).sz:Nat):Int)=4097 from by rw[Y6];rfl]
 simp only[Rw,hd,decide_true,Qa,Qb,Qc,Qd,Qe,Qf,Qg,Qh,Qi,Qj,Qk,Ql,Qm,Qn,true_and,and_true,Qo,Qp,Qq,Qr,Qs,Qt,Qu,Qv,Qw,Qx,Qy,Qz,Ra,Rb,Rc,Rd,Re,Rf,Rg,Rh,Ri,Rj,Rk,Rl,Rm,Ya,Yb,Yc,Rn,Ro,Xv,Yd,Ye,Rq,Rs,Rt,Ru,Rw,Rx,Ry]
 refine KJ w6 Hp n8 fun s7 w7=>?_
 rw[X7]
 generalize hs7:s7.next=b
 have hs70:s7=ext s7 []:=(AZ s7).symm
 rw[hs70]
 simp only[EG,Bl,EB,hs7,Qa,Qb,Qc,Qd,Qe,Qf,Qg,Qh,Qi,Qj,Qk,Ql,Qm,Qn,true_and,and_true,Qo,Qp,Qq,Qr,Qs,Qt,Qu,Qv,Qw,Qx,Qy,Qz,Ra,Rb,Rc,Rd,Re,Rf,Rg,Rh,Ri,Rj,Rk,Rl,Rm,Ya,Yb,Yc,Rn,Ro,Xv,Yd,Ye,Rq,Rs,Rt,Ru,Rw,Rx,Ry,Rz,Wa,Wb,Wc,Wd,We,Wf,Wg,Wh,Wi,Wj,Wl,Wm,Wn,Wp,Wq,Wr,Ws,Wt,Wu,Wv,Ww,Wx,Wy,Wz,Xa,Xb,Xc,Xd,Xe,Xf,Xg,Xh,Xi,Xj,Xk,Xl,Xm,Xn,Xo,Xp,Xq,Xr,ZC,ZF,ZE,ZD,ZH,ZI,List.getElem?_cons_zero,List.getElem?_cons_succ,ZG,ZJ,ZK,ZL,ZB,Nat.reduceAdd,Nat.reduceLT,Nat.reduceLeDiff,decide_true,decide_false,Bool.true_and,Bool.and_true,ZM,Y9,Option.some.injEq,Xs,Xt,Xu,Xv]
 refine Te (w7.old AK) (by rw[R4];omega) SV (SW.ext Mf) rfl (.inr ⟨nid b 0,0,some 1,rfl,by rw[Wm,hs7,AH,AH];simp,by rw[Wg hs7 (by simp)];exact Wj (Y9 _)⟩) fun s8 S8 O8 r8 w8 p8 l8 n8'=>?_
 rw[To]at n8'
 simp only[Qa,Qb,Qc,Qd,Qe,Qf,Qg,Qh,Qi,Qj,Qk,Ql,Qm,Qn,true_and,and_true,Qo,Qp,Qq,Qr,Qs,Qt,Qu,Qv,Qw,Qx,Qy,Qz,Ra,Rb,Rc,Rd,Re,Rf,Rg,Rh,Ri,Rj,Rk,Rl,Rm,Ya,Yb,Yc,Rn,Ro,Xv,Yd,Ye,Rq,Rs,Rt,Ru,Rw,Rx,Ry]
 refine KH w8 n8' (by omega) fun s9 w9=>?_
 rw[TC.2.1]
 simp only[EG,Bl,Qa,Qb,Qc,Qd,Qe,Qf,Qg,Qh,Qi,Qj,Qk,Ql,Qm,Qn,true_and,and_true,Qo,Qp,Qq,Qr,Qs,Qt,Qu,Qv,Qw,Qx,Qy,Qz,Ra,Rb,Rc,Rd,Re,Rf,Rg,Rh,Ri,Rj,Rk,Rl,Rm,Ya,Yb,Yc,Rn,Ro,Xv,Yd,Ye,Rq,Rs,Rt,Ru,Rw,Rx,Ry]
 refine KH w9 (SU.ext p8) (by omega) fun s10 w10=>?_
 rw[TC.1]
 generalize hs10:s10.next=b2
 have hs100:s10=ext s10 []:=(AZ s10).symm
 rw[hs100]
 simp only[EG,Bl,PG,hs10,Qa,Qb,Qc,Qd,Qe,Qf,Qg,Qh,Qi,Qj,Qk,Ql,Qm,Qn,true_and,and_true,Qo,Qp,Qq,Qr,Qs,Qt,Qu,Qv,Qw,Qx,Qy,Qz,Ra,Rb,Rc,Rd,Re,Rf,Rg,Rh,Ri,Rj,Rk,Rl,Rm,Ya,Yb,Yc,Rn,Ro,Xv,Yd,Ye,Rq,Rs,Rt,Ru,Rw,Rx,Ry,Rz,Wa,Wb,Wc,Wd,We,Wf,Wg,Wh,Wi,Wj,Wl,Wm,Wn,Wp,Wq,Wr,Ws,Wt,Wu,Wv,Ww,Wx,Wy,Wz,Xa,Xb,Xc,Xd,Xe,Xf,Xg,Xh,Xi,Xj,Xk,Xl,Xm,Xn,Xo,Xp,Xq,Xr,ZC,ZF,ZE,ZD,ZH,ZI,List.getElem?_cons_zero,List.getElem?_cons_succ,ZG,ZJ,ZK,ZL,ZB,Nat.reduceAdd,Nat.reduceLT,Nat.reduceLeDiff,decide_true,decide_false,Bool.true_and,Bool.and_true,ZM,Y9,Option.some.injEq,Xs,Xt,Xu,Xv]
 rw[R4]at l8
 refine SJ (w10.old AK) (by omega) (SV.ext p8) rfl (fun i hi=>by injection hi with hi;omega) (Dk.of (j:=nid b2 0) (q:=0) (l:=[5,6]) (cap:=some 2) (by rw[Wg hs10 (by simp)];rfl) (by rw[Wm,hs10,AH,AH];simp) (fun hm=>by have:=w10.st.lt _ hm;rw[hs10,AH]at this;omega) (Wj (Y9 _))) (by simp) fun s11 S11 O11 r11 w11 p11 l11 n11=>?_
 rw[QR]at n11
 simp only[Qa,Qb,Qc,Qd,Qe,Qf,Qg,Qh,Qi,Qj,Qk,Ql,Qm,Qn,true_and,and_true,Qo,Qp,Qq,Qr,Qs,Qt,Qu,Qv,Qw,Qx,Qy,Qz,Ra,Rb,Rc,Rd,Re,Rf,Rg,Rh,Ri,Rj,Rk,Rl,Rm,Ya,Yb,Yc,Rn,Ro,Xv,Yd,Ye,Rq,Rs,Rt,Ru,Rw,Rx,Ry]
 refine KH w11 n11 (by omega) fun s12 w12=>?_
 rw[TC.2.2]
 simp only[EG,Bl,Qa,Qb,Qc,Qd,Qe,Qf,Qg,Qh,Qi,Qj,Qk,Ql,Qm,Qn,true_and,and_true,Qo,Qp,Qq,Qr,Qs,Qt,Qu,Qv,Qw,Qx,Qy,Qz,Ra,Rb,Rc,Rd,Re,Rf,Rg,Rh,Ri,Rj,Rk,Rl,Rm,Ya,Yb,Yc,Rn,Ro,Xv,Yd,Ye,Rq,Rs,Rt,Ru,Rw,Rx,Ry]
 refine Nq w12 (.inl (by omega)) fun s13 w13=>?_
 simp only[Rw,hd,decide_true,Qa,Qb,Qc,Qd,Qe,Qf,Qg,Qh,Qi,Qj,Qk,Ql,Qm,Qn,true_and,and_true,Qo,Qp,Qq,Qr,Qs,Qt,Qu,Qv,Qw,Qx,Qy,Qz,Ra,Rb,Rc,Rd,Re,Rf,Rg,Rh,Ri,Rj,Rk,Rl,Rm,Ya,Yb,Yc,Rn,Ro,Xv,Yd,Ye,Rq,Rs,Rt,Ru,Rw,Rx,Ry]
 refine Nq w13 (.inr (by omega)) fun s14 w14=>?_
 simp only[Rw,hd,decide_true,Qa,Qb,Qc,Qd,Qe,Qf,Qg,Qh,Qi,Qj,Qk,Ql,Qm,Qn,true_and,and_true,Qo,Qp,Qq,Qr,Qs,Qt,Qu,Qv,Qw,Qx,Qy,Qz,Ra,Rb,Rc,Rd,Re,Rf,Rg,Rh,Ri,Rj,Rk,Rl,Rm,Ya,Yb,Yc,Rn,Ro,Xv,Yd,Ye,Rq,Rs,Rt,Ru,Rw,Rx,Ry]
 refine SL w14 (.inl (by omega)) fun s15 w15=>?_
 simp only[Qa,Qb,Qc,Qd,Qe,Qf,Qg,Qh,Qi,Qj,Qk,Ql,Qm,Qn,true_and,and_true,Qo,Qp,Qq,Qr,Qs,Qt,Qu,Qv,Qw,Qx,Qy,Qz,Ra,Rb,Rc,Rd,Re,Rf,Rg,Rh,Ri,Rj,Rk,Rl,Rm,Ya,Yb,Yc,Rn,Ro,Xv,Yd,Ye,Rq,Rs,Rt,Ru,Rw,Rx,Ry]
 refine FI AR w15.gl.1 (n:=0) (by omega) ?_
 have e0:(Tm.con 0).ktext=[110,117,108,108]:=rfl
 rw[e0]
 simp only[EG,Bl,Qa,Qb,Qc,Qd,Qe,Qf,Qg,Qh,Qi,Qj,Qk,Ql,Qm,Qn,true_and,and_true,Qo,Qp,Qq,Qr,Qs,Qt,Qu,Qv,Qw,Qx,Qy,Qz,Ra,Rb,Rc,Rd,Re,Rf,Rg,Rh,Ri,Rj,Rk,Rl,Rm,Ya,Yb,Yc,Rn,Ro,Xv,Yd,Ye,Rq,Rs,Rt,Ru,Rw,Rx,Ry]
 refine SH w15 (.inl (by omega)) fun s16 w16=>?_
 simp only[Rw,hd,decide_true,Qa,Qb,Qc,Qd,Qe,Qf,Qg,Qh,Qi,Qj,Qk,Ql,Qm,Qn,true_and,and_true,Qo,Qp,Qq,Qr,Qs,Qt,Qu,Qv,Qw,Qx,Qy,Qz,Ra,Rb,Rc,Rd,Re,Rf,Rg,Rh,Ri,Rj,Rk,Rl,Rm,Ya,Yb,Yc,Rn,Ro,Xv,Yd,Ye,Rq,Rs,Rt,Ru,Rw,Rx,Ry]
 refine SI w16 (.inl (by omega)) fun s17 w17=>?_
 simp only[EG,Bl,Qa,Qb,Qc,Qd,Qe,Qf,Qg,Qh,Qi,Qj,Qk,Ql,Qm,Qn,true_and,and_true,Qo,Qp,Qq,Qr,Qs,Qt,Qu,Qv,Qw,Qx,Qy,Qz,Ra,Rb,Rc,Rd,Re,Rf,Rg,Rh,Ri,Rj,Rk,Rl,Rm,Ya,Yb,Yc,Rn,Ro,Xv,Yd,Ye,Rq,Rs,Rt,Ru,Rw,Rx,Ry]
 refine UC AR ?_
 simp only[Rw,hd,decide_true,Qa,Qb,Qc,Qd,Qe,Qf,Qg,Qh,Qi,Qj,Qk,Ql,Qm,Qn,true_and,and_true,Qo,Qp,Qq,Qr,Qs,Qt,Qu,Qv,Qw,Qx,Qy,Qz,Ra,Rb,Rc,Rd,Re,Rf,Rg,Rh,Ri,Rj,Rk,Rl,Rm,Ya,Yb,Yc,Rn,Ro,Xv,Yd,Ye,Rq,Rs,Rt,Ru,Rw,Rx,Ry]
 refine Th AR ?_
 simp only[Rw,hd,decide_true,Qa,Qb,Qc,Qd,Qe,Qf,Qg,Qh,Qi,Qj,Qk,Ql,Qm,Qn,true_and,and_true,Qo,Qp,Qq,Qr,Qs,Qt,Qu,Qv,Qw,Qx,Qy,Qz,Ra,Rb,Rc,Rd,Re,Rf,Rg,Rh,Ri,Rj,Rk,Rl,Rm,Ya,Yb,Yc,Rn,Ro,Xv,Yd,Ye,Rq,Rs,Rt,Ru,Rw,Rx,Ry]
 refine Tz AR ?_
 simp only[Rw,hd,decide_true,Qa,Qb,Qc,Qd,Qe,Qf,Qg,Qh,Qi,Qj,Qk,Ql,Qm,Qn,true_and,and_true,Qo,Qp,Qq,Qr,Qs,Qt,Qu,Qv,Qw,Qx,Qy,Qz,Ra,Rb,Rc,Rd,Re,Rf,Rg,Rh,Ri,Rj,Rk,Rl,Rm,Ya,Yb,Yc,Rn,Ro,Xv,Yd,Ye,Rq,Rs,Rt,Ru,Rw,Rx,Ry]
 refine TA AR fun s18 _=>?_
 simp only[EG,Bl,Qa,Qb,Qc,Qd,Qe,Qf,Qg,Qh,Qi,Qj,Qk,Ql,Qm,Qn,true_and,and_true,Qo,Qp,Qq,Qr,Qs,Qt,Qu,Qv,Qw,Qx,Qy,Qz,Ra,Rb,Rc,Rd,Re,Rf,Rg,Rh,Ri,Rj,Rk,Rl,Rm,Ya,Yb,Yc,Rn,Ro,Xv,Yd,Ye,Rq,Rs,Rt,Ru,Rw,Rx,Ry]
 refine TH AR fun s19 _=>?_
 have hln:Ce Tryz.prog s19 27 (.slice none 0 (some 0))=some (iv 0):=A8 Tryz.underlying27
 simp only[hln,Rw,hd,decide_true,Qa,Qb,Qc,Qd,Qe,Qf,Qg,Qh,Qi,Qj,Qk,Ql,Qm,Qn,true_and,and_true,Qo,Qp,Qq,Qr,Qs,Qt,Qu,Qv,Qw,Qx,Qy,Qz,Ra,Rb,Rc,Rd,Re,Rf,Rg,Rh,Ri,Rj,Rk,Rl,Rm,Ya,Yb,Yc,Rn,Ro,Xv,Yd,Ye,Rq,Rs,Rt,Ru,Rw,Rx,Ry]
 refine Sx AR fun s20 _=>?_
 generalize hs20:s20.next=b3
 have hs200:s20=ext s20 []:=(AZ s20).symm
 rw[hs200]
 simp only[Rw,hd,decide_true,EB,hs20,Qa,Qb,Qc,Qd,Qe,Qf,Qg,Qh,Qi,Qj,Qk,Ql,Qm,Qn,true_and,and_true,Qo,Qp,Qq,Qr,Qs,Qt,Qu,Qv,Qw,Qx,Qy,Qz,Ra,Rb,Rc,Rd,Re,Rf,Rg,Rh,Ri,Rj,Rk,Rl,Rm,Ya,Yb,Yc,Rn,Ro,Xv,Yd,Ye,Rq,Rs,Rt,Ru,Rw,Rx,Ry,Rz,Wa,Wb,Wc,Wd,We,Wf,Wg,Wh,Wi,Wj,Wl,Wm,Wn,Wp,Wq,Wr,Ws,Wt,Wu,Wv,Ww,Wx,Wy,Wz,Xa,Xb,Xc,Xd,Xe,Xf,Xg,Xh,Xi,Xj,Xk,Xl,Xm,Xn,Xo,Xp,Xq,Xr,ZC,ZF,ZE,ZD,ZH,ZI,List.getElem?_cons_zero,List.getElem?_cons_succ,ZG,ZJ,ZK,ZL,ZB,Nat.reduceAdd,Nat.reduceLT,Nat.reduceLeDiff,decide_true,decide_false,Bool.true_and,Bool.and_true,ZM,Y9,Option.some.injEq,Xs,Xt,Xu,Xv]
 refine Tr AR fun s21 _=>?_
 simp only[Rw,hd,decide_true,Qa,Qb,Qc,Qd,Qe,Qf,Qg,Qh,Qi,Qj,Qk,Ql,Qm,Qn,true_and,and_true,Qo,Qp,Qq,Qr,Qs,Qt,Qu,Qv,Qw,Qx,Qy,Qz,Ra,Rb,Rc,Rd,Re,Rf,Rg,Rh,Ri,Rj,Rk,Rl,Rm,Ya,Yb,Yc,Rn,Ro,Xv,Yd,Ye,Rq,Rs,Rt,Ru,Rw,Rx,Ry]
 refine SC AR fun s22 _=>?_
 simp only[Rw,hd,decide_true,Qa,Qb,Qc,Qd,Qe,Qf,Qg,Qh,Qi,Qj,Qk,Ql,Qm,Qn,true_and,and_true,Qo,Qp,Qq,Qr,Qs,Qt,Qu,Qv,Qw,Qx,Qy,Qz,Ra,Rb,Rc,Rd,Re,Rf,Rg,Rh,Ri,Rj,Rk,Rl,Rm,Ya,Yb,Yc,Rn,Ro,Xv,Yd,Ye,Rq,Rs,Rt,Ru,Rw,Rx,Ry]
 exact hK _
end
end Go.Proofs.YtickdehehcmfbaaGreatDoor.Am
set_option linter.unusedVariables false
set_option linter.unusedSimpArgs false
set_option maxRecDepth 16000
namespace Go.Proofs.YtickdehehcmfbaaGreatDoor.Am
open Go Go.Proofs
noncomputable section
theorem ML{W:World}{ρ:Aq}{s:AE}{f:FuncId}{xs:List AV}{args:Array Value}(hd:I4 Tryz.prog W ρ s)(ha:AI ρ xs args.toList)(h:WF Cs f xs (fun r _=>r=.bool true) s):
  Calls Tryz.prog f args W fun e W'=>e=.returned (.bool true)∧Jq W W':=by
 obtain⟨n,p,h1,h2⟩:=h
 have:=((YU Ka (Fs Ih) rfl Tj n).call ρ s W f xs p.1 p.2 args h1 hd.inv hd.fresh ha).2
 refine callsIn_wide.1 (CallsIn.mono this ?_)
 intro e w' he
 cases e with
 | panicked c=>exact he.elim
 | outgrown=>exact he.elim
 | returned v' =>
  obtain⟨ρ',k1,k2,k3⟩:=he
  rw[h2]at k1
  cases k1
  exact⟨rfl,Td k3 hd.notOwned⟩
def YV(m:Int):AE:=⟨2,AG.set (AG.set .leaf 1 (.row (CL 1 At))) 0 (.row (CL 0 [iv m]))⟩
theorem Hn(m:Int)(i:Nat):(YV m).heap.get i=if i=0 then some (.row (CL 0 [iv m]))else if i=1 then some (.row (CL 1 At))else none:=by
 show(AG.set (AG.set .leaf 1 _) 0 _).get i=_
 rw[AG.get_set,AG.get_set]
 rfl
theorem Ng{ρ:Aq}{w:World}{g:Nat}{cells:List AV}(hc:∀k v,cells[k]? = some v→∃v',w.cell? ⟨g,k,none⟩=some v'∧AJ Lk v v'):BF ρ w (CL g cells) ⟨g,0,cells.length,0⟩:=by
 have hle:Lk.le ρ:=fun i rb h=>by cases h
 refine(show BF ρ w (CL g cells) ⟨g,0,cells.length,0⟩from⟨?_,Y9 _,rfl,(fun hh=>by cases hh),fun hh=>absurd rfl hh,(fun hh=>by cases hh),fun g' hg'=>?_,fun p hp=>by cases hp⟩)
 ·intro k v hk hv
  have hk':k<cells.length:=hk
  have hv':cells[k]? = some v:=by
   have:(AG.fill .leaf 0 cells).get k=some v:=hv
   rw[AG.get_fill,if_pos ⟨ZW _,by omega⟩]at this
   simpa using this
  obtain⟨v',k1,k2⟩:=hc k v hv'
  exact⟨v',by simpa using k1,k2.mono hle⟩
 ·have:some g=some g':=hg'
  injection this with this
  subst this
  exact⟨rfl,rfl⟩
theorem Xw{W:World}{m:Int}(hm:W.cell? ⟨0,0,none⟩=some (.int .i64 m))(hp:1<W.heap.size∧∀k v,At[k]? = some v→∃v',W.cell? ⟨1,k,none⟩=some v'∧AJ Lk v v'):∃ρ,I4 Tryz.prog W ρ (YV m):=by
  let ρ0:Aq:=fun i=>if i=0 then some ⟨0,0,1,0⟩else if i=1 then some ⟨1,0,At.length,0⟩else none
  have hρ:∀i x,ρ0 i=some x→(i=0∧x=⟨0,0,1,0⟩)∨(i=1∧x=⟨1,0,At.length,0⟩):=fun i x hx=>by
    simp only[ρ0]at hx
    split at hx
    · injection hx with hx;exact .inl ⟨‹_›,hx.symm⟩
    · split at hx
      · injection hx with hx;exact .inr ⟨‹_›,hx.symm⟩
      · cases hx
  refine⟨ρ0,⟨?_,?_,?_,?_⟩,fun i hi=>?_,fun i o hi=>?_⟩
  · intro i o x hi hx
    rw[Hn]at hi
    rcases hρ i x hx with⟨rfl,rfl⟩ | ⟨rfl,rfl⟩
    · rw[if_pos rfl]at hi
      injection hi with hi
      subst hi
      refine Ng (cells:=[iv m]) fun k v hk=>?_
      cases k with
      | zero=>injection hk with hk;subst hk;exact⟨_,hm,.int _ _⟩
      | succ k=>simp at hk
    · rw[if_neg (by omega),if_pos rfl]at hi
      injection hi with hi
      subst hi
      exact Ng hp.2
  · intro i x hx
    rcases hρ i x hx with⟨rfl,rfl⟩ | ⟨rfl,rfl⟩
    · show 0<W.heap.size;omega
    · exact hp.1
  · intro i j oi oj ri rj hne hi hj hri hrj hb
    rcases hρ i ri hri with⟨rfl,rfl⟩ | ⟨rfl,rfl⟩<;>rcases hρ j rj hrj with⟨rfl,rfl⟩ | ⟨rfl,rfl⟩
    · exact absurd rfl hne
    · cases hb
    · cases hb
    · exact absurd rfl hne
  · intro i o g' hi _
    rw[Hn]at hi
    split at hi
    · rename_i e;exact⟨⟨0,0,1,0⟩,by simp[ρ0,e]⟩
    · split at hi
      · rename_i e;exact⟨⟨1,0,At.length,0⟩,by simp[ρ0,e]⟩
      · cases hi
  · have hi:2≤i:=hi
    refine⟨by simp only[ρ0];rw[if_neg (by omega),if_neg (by omega)],?_⟩
    rw[Hn,if_neg (by omega),if_neg (by omega)]
  · rw[Hn]at hi
    split at hi
    · injection hi with hi;subst hi;rfl
    · split at hi
      · injection hi with hi;subst hi;rfl
      · cases hi
theorem Sa(m:Int):C9 (YV m) 1 At=true:=by kernel_rfl
theorem known14_true{W:World}(hp:1<W.heap.size∧∀k v,At[k]? = some v→∃v',W.cell? ⟨1,k,none⟩=some v'∧AJ Lk v v')(hm:∃m,W.cell? ⟨0,0,none⟩=some (.int .i64 m)):
  Calls Tryz.prog 6 #[] W fun e W'=>e=.returned (.bool true)∧Jq W W':=by
 obtain⟨m,hm⟩:=hm
 obtain⟨ρ,hd⟩:=Xw hm hp
 exact ML hd .nil (SD (Sa m) (by show 1<2;omega) (r:=CL 0 [iv m]) (m:=m) rfl rfl rfl fun _=>rfl)
theorem max_cell{W:World}(h:W.ShapedOpen Tryz.prog):∃m,W.cell? ⟨0,0,none⟩=some (.int .i64 m):=
 cell_of_shapedOpen_int (P:=Tryz.prog) (g:=0) (t:=3) (zero:=#[.int .i64 0]) h (of_decide_eq_true (by kernel_rfl)) (by kernel_rfl) rfl (by kernel_rfl) (by kernel_rfl) Tryz.underlying3
section
variable{H:Type}{enc:TypeId×Value→H}
theorem handed_of{a:Assume}{C:Checked}{os:Os}{f:FuncId}{fn:Func}{s:ChangeSpec}{conds:List PathCond}{apart fresh handsOn again:Bool}{X:World→Array Value→Prop}
  (hX:∀ (w w':World) (args:Array Value),w.heap=w'.heap→X w args→X w' args)
  (own:ownKnob C.prog.godebug=none) (started:os.Started) (noInit:C.prog.inits.idxOf? f=none) (hfn:C.prog.funcs[f]? = some fn)
  (witness:∃ (w:World) (tape:Tape) (i:Input),w.os=os∧(w.forCall tape i).Shaped C.prog∧i.vars=[]∧Input.okWide C.prog (w.forCall tape i) .any w.heap.size f i ∧
   ((s.pre enc C.prog fn conds apart (w.forCall tape i).memory i.args∧X (w.forCall tape i).memory i.args)∧sizedMet enc C.prog fn (OpenSpec.ofChange s) apart (w.forCall tape i).memory i.args)∧a.holds C.prog (lone (Frame.enter C.prog f i.args .normal) [] (w.forCall tape i)))
  (contract:∀ (W:World) (args:Array Value) (ds gs:List (DataW H)) (before:List MemPlace),W.ShapedOpen C.prog →
   DataW.Whole enc C.prog fn.params.toList s.vars apart W args.toList ds gs before→X W args →
   Calls C.prog f args W fun e W'=>∃v,e=.returned v∧s.post enc C.prog fn apart fresh handsOn again W args v W'):
  ReturnsInHanded a C os f .any (fun w args=>(s.pre enc C.prog fn conds apart w args∧X w args)∧sizedMet enc C.prog fn (OpenSpec.ofChange s) apart w args) (s.post enc C.prog fn apart fresh handsOn again):=by
 refine returnsInHanded_of_calls own started noInit witness fun w tape i _ hsh _ _ hpre _=>?_
 obtain⟨⟨⟨ds,gs,before,hw,_⟩,hx⟩,_⟩:=hpre
 have hw':=DataW.Whole.of_heap (w':=w.forCall tape i) (by rfl) hw
 refine(contract (w.forCall tape i) i.args ds gs before hsh hw' (hX _ _ _ (by rfl) hx)).mono fun e W' ⟨v,he,hp⟩=>?_
 subst he
 exact ChangeSpec.post_blind hp
end
end
end Go.Proofs.YtickdehehcmfbaaGreatDoor.Am
