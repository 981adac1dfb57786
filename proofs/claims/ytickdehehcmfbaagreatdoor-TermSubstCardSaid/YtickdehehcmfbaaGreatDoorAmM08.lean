/- The reference's parts: its loop, walked; conditions: none. -/
import Derived.Test.YtickdehehcmfbaaGreatDoorAmM07
import Derived.Test.YtickdehehcmfbaaGreatDoorAmM06
import Derived.WideKeyArgs
import Derived.ChangeBears2
import Derived.OpenShut
import GoSem.ClaimJoined
import Derived.Test.YtickdehehcmfbaaGreatDoorAmM04
set_option linter.unusedVariables false
set_option linter.unusedSimpArgs false
namespace Go.Proofs.YtickdehehcmfbaaGreatDoor.Am
open Go Go.Proofs
noncomputable section
set_option maxRecDepth 20000 in
theorem Lr          {E : Be}  (hE : Ah    E) {s : AD}  {q : Nat} {T : List RT} {O : List Nat} (hT : T.length ≤ 800) {l : List Int} {v : AV} (hv : Bh     s O v l) (hl : l.length ≤ 3) (a1 a3 : AV) {Q : Aw   → Prop} {marks : List Nat} (hq1 : 1 < s.next)
    (hnot:∀ (y6 y7 y8 y9 vo:AV) s' O' T' ks OB,RS s' q T' O'→Bu O s s'→AT O O' s→T'.length≤T.length+l.length→(∃x,T'=T++x)→E8 3 1 s' vo l.length (Bn ks) OB→(∀k∈ks,0≤k∧k<(T'.length:Int))→(∀j∈OB,s.next≤j∧j ∉ O') →
      Ag 0 Q ⟨.exit 0,[.ptr (some (q,0)),a1,v,a3,iv (T.length:Int),vo,y6,y7,y8,y9],marks,s'⟩):
    ∀ (l2 l1:List Int) (s1:AD) (O1:List Nat) (T1:List RT) (ks:List Int) (OB:List Nat) (vo a7 a8 a9:AV),l=l1++l2→RS s1 q T1 O1→Bu O s s1→AT O O1 s→T1.length≤T.length+l1.length→(∃x,T1=T++x)→E8 3 1 s1 vo l1.length (Bn ks) OB→(∀k∈ks,0≤k∧k<(T1.length:Int))→(∀j∈OB,s.next≤j∧j ∉ O1) →
      WC E none (AZ.loop Gg) (Ag 0 Q) [.ptr (some (q,0)),a1,v,a3,iv (T.length:Int),vo,iv (l1.length:Int),a7,a8,a9] marks s1:=by
  intro l2
  induction l2 with
  | nil =>
    intro l1 s1 O1 T1 ks OB vo a7 a8 a9 hll h1 h2 h3 h4 h5 h6 h7 h8
    have hll:l=l1:=by rw[hll];simp
    subst hll
    have hlen:=hv.rd.len
    refine WC.loop' ?_
    have hlt:¬ ((l.length:Int)<(l.length:Int)):=by omega
    simp only[Gg,Ng,Qa,Qb,Qc,Qd,Qe,Qf,Qg,Qh,Qi,Qj,Qk,Ql,Qm,Qn,true_and,and_true,Qo,Qp,Qq,Qr,Qs,Qt,Qu,Qv,Qw,Qx,Qy,Qz,Ra,Rb,Rc,Rd,Re,Rf,Rg,Rh,Ri,Rj,Rk,Rl,Rm,Ya,Yb,Yc,Rn,Ro,Xv,Yd,Ye,Rq,Rs,Rt,Ru,Rw,Rx,Ry,hlen,Rq,hlt,decide_false]
    exact hnot _ _ _ _ vo s1 O1 T1 ks OB h1 h2 h3 h4 h5 h6 h7 h8
  | cons x l2 ih =>
    intro l1 s1 O1 T1 ks OB vo a7 a8 a9 hll h1 h2 h3 h4 h5 h6 h7 h8
    have hlen:=hv.rd.len
    have hvr:=(hv.step h2 h3).rd
    obtain⟨W,hW⟩:∃W,W=AZ.loop Gg:=⟨_,rfl⟩
    have hlt:((l1.length:Int)<(l.length:Int)):=by rw[hll];simp;omega
    have hltn:l1.length<l.length:=by omega
    have hadd:i64 ((l1.length:Int)+1):=by unfold i64;omega
    have hll3:l1.length≤3:=by omega
    have hBlt:=h6.lt
    have hrest:∀ (i:Nat) s2 O2 T2 (b7 b8 b9:AV),RS s2 q T2 O2→Bu O1 s1 s2→AT O1 O2 s1→(∃x,T2=T1++x)→T2.length≤T1.length+1→i<T2.length →
        ∃vo2 s3,BC Tryz.prog (newObj s2 (R 3 1 false (Bn [(i:Int)]))) [27,27] [vo,.slice (some (s2.next,0)) 1 (some 1)]=some (vo2,s3) ∧
          WC E none W (Ag 0 Q) [.ptr (some (q,0)),a1,v,a3,iv (T.length:Int),vo2,iv ((l1.length:Int)+1),b7,b8,b9] marks s3:=by
      intro i s2 O2 T2 b7 b8 b9 g1 g2 g3 g4 g5 g6
      have hBO:∀j∈OB,j ∉ O2:=fun j hj hm=>(g3 j hm).elim (h8 j hj).2 (fun hl=>by have:=hBlt j hj;omega)
      have hbuf':=h6.frame (s':=s2) g2.1 fun j hj=>g2.2 j (hBlt j hj) (h8 j hj).2
      have hnx:(ext s2 [R 3 1 false (Bn [(i:Int)])]).next=s2.next+1:=by rw[Wm,AF];rfl
      have hrd:An (ext s2 [R 3 1 false (Bn [(i:Int)])]) (.slice (some (nid s2.next 0,0)) 1 (some 1)) [(i:Int)]:=.inr ⟨nid s2.next 0,0,some 1,rfl,by rw[hnx,AF];omega,by rw[Wg rfl (by simp)];exact Wj (aj _)⟩
      have hbuf2:=hbuf'.frame (s':=ext s2 [R 3 1 false (Bn [(i:Int)])]) (by rw[hnx];omega) fun j hj=>Wh (hbuf'.lt j hj)
      obtain⟨v2,s3,OB2,happ,hb2,hn2,hf2,hO2,hsl⟩:=hbuf2.append (xt:=27) (m:=1) Tryz.underlying27 Ea Zw (by omega) Ks NG (by omega) (Is hrd) rfl (KT _) (by omega) (by omega)
      rw[hnx]at hn2 hf2 hO2
      have hne:newObj s2 (R 3 1 false (Bn [(i:Int)]))=ext s2 [R 3 1 false (Bn [(i:Int)])]:=by
        have:=Wl s2 [] (R 3 1 false (Bn [(i:Int)]))
        rw[Aa]at this;exact this
      rw[← hne,Ew]at happ
      rw[← Mf]at hb2
      have hsn:s.next≤s2.next:=bM h2.1 g2.1
      have hsame:∀j,j<s2.next→j ∉ OB→s3.heap.get j=s2.heap.get j:=fun j hj hB=>by rw[hf2 j (by omega) hB,Wh (by omega)]
      have hlt2:=g1.at_.lt
      have hrs:RS s3 q T2 O2:=⟨g1.at_.frame (by rw[hn2];omega) (fun j hj=>hsame j (hlt2 j hj) fun hm=>hBO j hm hj),⟨by rw[BP (hsame 1 g1.gl.2.1 fun hm=>by have:=(h8 1 hm).1;omega)];exact g1.gl.1,by rw[hn2];have:=g1.gl.2.1;omega,g1.gl.2.2⟩,g1.kl⟩
      refine⟨v2,s3,happ,?_⟩
      have:=ih (l1++[x]) s3 O2 T2 (ks++[(i:Int)]) OB2 v2 b7 b8 b9 (by rw[hll];simp) hrs ⟨by rw[hn2];omega,fun j hj hjO=>?_⟩ (h3.trans g3 h2.1) (by simp;omega) (by obtain⟨y,rfl⟩:=h5;obtain⟨z,rfl⟩:=g4;exact⟨y++z,by simp⟩) (by rw[bV];exact hb2) ?_ ?_
      · rw [hW]
        rw[show((l1++[x]).length:Int)=(l1.length:Int)+1 from by simp]at this
        exact this
      · have hjB:j ∉ OB:=fun hm=>by have:=(h8 j hm).1;omega
        rw[hsame j (by omega) hjB,g2.2 j (by have:=h2.1;omega) fun hm=>(h3 j hm).elim hjO (fun hl=>by omega),h2.2 j hj hjO]
      · intro k hk
        obtain⟨z,rfl⟩:=g4
        rcases List.mem_append.1 hk with hk | hk
        · have:=h7 k hk;simp;omega
        · rw[List.mem_singleton.1 hk];omega
      · intro j hj
        rcases hO2 j hj with hj | hj
        · exact⟨(h8 j hj).1,hBO j hj⟩
        · exact⟨by omega,fun hm=>by have:=hlt2 j hm;omega⟩
    obtain⟨j,qq,cap,rfl,hj,hld⟩:=hvr.at (k:=l1.length) (x:=x) (by rw[hll];simp)
    refine WC.loop' ?_
    rw[← hW]
    by_cases hx:(T.length:Int)≤x
    · have hd:decide ((T.length:Int)≤x)=true:=decide_eq_true hx
      simp only[Gg,Ng,Q1,Q2,WG,Q3,Qa,Qb,Qc,Qd,Qe,Qf,Qg,Qh,Qi,Qj,Qk,Ql,Qm,Qn,true_and,and_true,Qo,Qp,Qq,Qr,Qs,Qt,Qu,Qv,Qw,Qx,Qy,Qz,Ra,Rb,Rc,Rd,Re,Rf,Rg,Rh,Ri,Rj,Rk,Rl,Rm,Ya,Yb,Yc,Rn,Ro,Xv,Yd,Ye,Rq,Rs,Rt,Ru,Rw,Rx,Ry,hlen,Rq,Ru,hlt,decide_true,AY Tryz.underlying27 Ea hltn,C6,hld,bR,hd,Rz,Wa,Wb,Wc,Wd,We,Wf,Wg,Wh,Wi,Wj,Wl,Wm,Wn,Wp,Wq,Wr,Ws,Wt,Wu,Wv,Ww,Wx,Wy,Wz,Xa,Xb,Xc,Xd,Xe,Xf,Xg,Xh,Xi,Xj,Xk,Xl,Xm,Xn,Xo,Xp,Xq,Xr,ao,au,ap,am,aw,ay,List.getElem?_cons_zero,List.getElem?_cons_succ,aq,az,bA,bB,ak,Nat.reduceAdd,Nat.reduceLT,Nat.reduceLeDiff,decide_true,decide_false,Bool.true_and,Bool.and_true,bC,aj,Option.some.injEq,Xs,Xt,Xu,Xv]
      refine Jr hE h1 (by omega) fun i s2 O2 T2 g1 g2 g3 g4 g5 g6=>?_
      obtain⟨vo2,s3,e1,e2⟩:=hrest i s2 O2 T2 (iv (-1)) (.bool true) (.bool true) g1 g2 g3 g4 g5 g6
      simp only[Qa,Qb,Qc,Qd,Qe,Qf,Qg,Qh,Qi,Qj,Qk,Ql,Qm,Qn,true_and,and_true,Qo,Qp,Qq,Qr,Qs,Qt,Qu,Qv,Qw,Qx,Qy,Qz,Ra,Rb,Rc,Rd,Re,Rf,Rg,Rh,Ri,Rj,Rk,Rl,Rm,Ya,Yb,Yc,Rn,Ro,Xv,Yd,Ye,Rq,Rs,Rt,Ru,Rw,Rx,Ry,G0,e1,Q4,BI _ _ _ _ hadd,Rz,Wa,Wb,Wc,Wd,We,Wf,Wg,Wh,Wi,Wj,Wl,Wm,Wn,Wp,Wq,Wr,Ws,Wt,Wu,Wv,Ww,Wx,Wy,Wz,Xa,Xb,Xc,Xd,Xe,Xf,Xg,Xh,Xi,Xj,Xk,Xl,Xm,Xn,Xo,Xp,Xq,Xr,ao,au,ap,am,aw,ay,List.getElem?_cons_zero,List.getElem?_cons_succ,aq,az,bA,bB,ak,Nat.reduceAdd,Nat.reduceLT,Nat.reduceLeDiff,decide_true,decide_false,Bool.true_and,Bool.and_true,bC,aj,Option.some.injEq,Xs,Xt,Xu,Xv]
      exact e2
    · have hd:decide ((T.length:Int)≤x)=false:=decide_eq_false hx
      simp only[Gg,Ng,Q1,Q2,Q3,Qa,Qb,Qc,Qd,Qe,Qf,Qg,Qh,Qi,Qj,Qk,Ql,Qm,Qn,true_and,and_true,Qo,Qp,Qq,Qr,Qs,Qt,Qu,Qv,Qw,Qx,Qy,Qz,Ra,Rb,Rc,Rd,Re,Rf,Rg,Rh,Ri,Rj,Rk,Rl,Rm,Ya,Yb,Yc,Rn,Ro,Xv,Yd,Ye,Rq,Rs,Rt,Ru,Rw,Rx,Ry,hlen,Rq,Ru,hlt,decide_true,AY Tryz.underlying27 Ea hltn,C6,hld,bR,hd,Rz,Wa,Wb,Wc,Wd,We,Wf,Wg,Wh,Wi,Wj,Wl,Wm,Wn,Wp,Wq,Wr,Ws,Wt,Wu,Wv,Ww,Wx,Wy,Wz,Xa,Xb,Xc,Xd,Xe,Xf,Xg,Xh,Xi,Xj,Xk,Xl,Xm,Xn,Xo,Xp,Xq,Xr,ao,au,ap,am,aw,ay,List.getElem?_cons_zero,List.getElem?_cons_succ,aq,az,bA,bB,ak,Nat.reduceAdd,Nat.reduceLT,Nat.reduceLeDiff,decide_true,decide_false,Bool.true_and,Bool.and_true,bC,aj,Option.some.injEq,Xs,Xt,Xu,Xv]
      refine Jr hE h1 (by omega) fun i s2 O2 T2 g1 g2 g3 g4 g5 g6=>?_
      obtain⟨vo2,s3,e1,e2⟩:=hrest i s2 O2 T2 (iv x) (.bool true) (.bool false) g1 g2 g3 g4 g5 g6
      simp only[Qa,Qb,Qc,Qd,Qe,Qf,Qg,Qh,Qi,Qj,Qk,Ql,Qm,Qn,true_and,and_true,Qo,Qp,Qq,Qr,Qs,Qt,Qu,Qv,Qw,Qx,Qy,Qz,Ra,Rb,Rc,Rd,Re,Rf,Rg,Rh,Ri,Rj,Rk,Rl,Rm,Ya,Yb,Yc,Rn,Ro,Xv,Yd,Ye,Rq,Rs,Rt,Ru,Rw,Rx,Ry,G0,e1,Q4,BI _ _ _ _ hadd,Rz,Wa,Wb,Wc,Wd,We,Wf,Wg,Wh,Wi,Wj,Wl,Wm,Wn,Wp,Wq,Wr,Ws,Wt,Wu,Wv,Ww,Wx,Wy,Wz,Xa,Xb,Xc,Xd,Xe,Xf,Xg,Xh,Xi,Xj,Xk,Xl,Xm,Xn,Xo,Xp,Xq,Xr,ao,au,ap,am,aw,ay,List.getElem?_cons_zero,List.getElem?_cons_succ,aq,az,bA,bB,ak,Nat.reduceAdd,Nat.reduceLT,Nat.reduceLeDiff,decide_true,decide_false,Bool.true_and,Bool.and_true,bC,aj,Option.some.injEq,Xs,Xt,Xu,Xv]
      exact e2
theorem OV(a:Int)(j n:Nat):AR Tryz.prog 122 (zipIdx [0,3] [iv a,.slice (some (j,0)) n none])=some (.agg ([iv a,iv 0]++Tm.nullC++[.slice (some (j,0)) n none])):=by kernel_rfl
set_option maxRecDepth 20000 in
theorem Jq{E:Be}(hE:Ah E){s:AD}{q:Nat}{T:List RT}{O:List Nat}(h:RS s q T O)(hT:T.length≤800){l:List Int}{v:AV}(hv:Bh s O v l)(h0:0<l.length)(hl:l.length≤3){kind:Int}{K:AV→AD→Prop}
    (hK:∀ (i:Nat) s' O' T',RS s' q T' O'→Bu O s s'→AT O O' s→(∃x,T'=T++x)→T'.length≤T.length+4→i<T'.length→K (iv (i:Int)) s'):WF E 83 [.ptr (some (q,0)),iv kind,v] K s:=by
  obtain⟨tv,OT,hobj,hbuf,_⟩:=h.at_.ex
  obtain⟨a,c,rfl,_⟩:=hbuf.slice
  refine hE.go XY (by decide) rfl ?_
  simp only[af,WA,WB,WD,WE,Qa,Qb,Qc,Qd,Qe,Qf,Qg,Qh,Qi,Qj,Qk,Ql,Qm,Qn,true_and,and_true,Qo,Qp,Qq,Qr,Qs,Qt,Qu,Qv,Qw,Qx,Qy,Qz,Ra,Rb,Rc,Rd,Re,Rf,Rg,Rh,Ri,Rj,Rk,Rl,Rm,Ya,Yb,Yc,Rn,Ro,Xv,Yd,Ye,Rq,Rs,Rt,Ru,Rw,Rx,Ry,hobj,Ca,Gd,Ad Tryz.underlying78,Rz,Wa,Wb,Wc,Wd,We,Wf,Wg,Wh,Wi,Wj,Wl,Wm,Wn,Wp,Wq,Wr,Ws,Wt,Wu,Wv,Ww,Wx,Wy,Wz,Xa,Xb,Xc,Xd,Xe,Xf,Xg,Xh,Xi,Xj,Xk,Xl,Xm,Xn,Xo,Xp,Xq,Xr,ao,au,ap,am,aw,ay,List.getElem?_cons_zero,List.getElem?_cons_succ,aq,az,bA,bB,ak,Nat.reduceAdd,Nat.reduceLT,Nat.reduceLeDiff,decide_true,decide_false,Bool.true_and,Bool.and_true,bC,aj,Option.some.injEq,Xs,Xt,Xu,Xv]
  refine Lr hE hT hv hl _ _ h.gl.2.1 (fun y6 y7 y8 y9 vo s' O' T' ks OB g1 g2 g3 g4 g5 g6 g7 g8=>?_) l [] s O T [] [] _ _ _ _ rfl h (Bu.refl _ _) (AT.refl _ _) (by simp) ⟨[],by simp⟩ (E8.nil _ _ _) (fun _ h=>by cases h) (fun _ h=>by cases h)
  simp only[Qa,Qb,Qc,Qd,Qe,Qf,Qg,Qh,Qi,Qj,Qk,Ql,Qm,Qn,true_and,and_true,Qo,Qp,Qq,Qr,Qs,Qt,Qu,Qv,Qw,Qx,Qy,Qz,Ra,Rb,Rc,Rd,Re,Rf,Rg,Rh,Ri,Rj,Rk,Rl,Rm,Ya,Yb,Yc,Rn,Ro,Xv,Yd,Ye,Rq,Rs,Rt,Ru,Rw,Rx,Ry]
  rw[if_pos trivial]
  have hks:=g6.len
  rw[B7,bR]at hks
  rcases g6.row with⟨_,hz,_⟩ | ⟨j,r,rfl,hj,hjr,hh⟩
  · omega
  simp only[Q0,OV,Qa,Qb,Qc,Qd,Qe,Qf,Qg,Qh,Qi,Qj,Qk,Ql,Qm,Qn,true_and,and_true,Qo,Qp,Qq,Qr,Qs,Qt,Qu,Qv,Qw,Qx,Qy,Qz,Ra,Rb,Rc,Rd,Re,Rf,Rg,Rh,Ri,Rj,Rk,Rl,Rm,Ya,Yb,Yc,Rn,Ro,Xv,Yd,Ye,Rq,Rs,Rt,Ru,Rw,Rx,Ry]
  have hln:BB (s'.heap.get j) 0 ks.length=some (Bn ks):=by
    rw[hjr,FD hh (by rw[B7,ak];exact aj _),aq,bY (by rw[B7];exact aj _)]
  have hu:(⟨kind,0,0,ks,.slice (some (j,0)) l.length none⟩:RT).cells=[iv kind,iv 0]++Tm.nullC++[.slice (some (j,0)) l.length none]:=rfl
  rw[← hu]
  refine OC hE g1.at_ g1.gl.1 g1.gl.2.1 (by omega) g1.kl (u:=⟨kind,0,0,ks,.slice (some (j,0)) l.length none⟩) (by show 0<11;omega) (by show ks.length≤3;omega) (.inr ⟨j,by show _=AV.slice _ ks.length _;rw[hks],g6.lt j hj,(g8 j hj).2,hln⟩) g7 fun i s2 O2 T2 e1 e2 e3 e4 e5=>?_
  simp only[Qa,Qb,Qc,Qd,Qe,Qf,Qg,Qh,Qi,Qj,Qk,Ql,Qm,Qn,true_and,and_true,Qo,Qp,Qq,Qr,Qs,Qt,Qu,Qv,Qw,Qx,Qy,Qz,Ra,Rb,Rc,Rd,Re,Rf,Rg,Rh,Ri,Rj,Rk,Rl,Rm,Ya,Yb,Yc,Rn,Ro,Xv,Yd,Ye,Rq,Rs,Rt,Ru,Rw,Rx,Ry]
  have hgr:∀x∈O2,x∈O∨s.next≤x:=fun x hx=>by
    rcases e5 x hx with h' | h' | h'
    · exact g3 x h'
    · exact .inr (bM g2.1 h')
    · have:j=x:=by simpa[Iq]using h'
      rw[← this];exact .inr (g8 j hj).1
  have h1O2:1 ∉ O2:=fun hm=>(hgr 1 hm).elim h.gl.2.2 (fun hl=>by have:=h.gl.2.1;omega)
  refine hK i s2 O2 T2 ⟨e3,⟨by rw[BP (e4.2 1 g1.gl.2.1 g1.gl.2.2)];exact g1.gl.1,bG g1.gl.2.1 e4.1,h1O2⟩,fun t ht=>?_⟩ (g2.trans e4 g3) hgr ?_ ?_ e2
  · rcases e1 with rfl | rfl
    · exact g1.kl t ht
    · rcases List.mem_append.1 ht with ht | ht
      · exact g1.kl t ht
      · rw[List.mem_singleton.1 ht];show ks.length≤3;omega
  · obtain⟨y,rfl⟩:=g5
    rcases e1 with rfl | rfl
    · exact⟨y,rfl⟩
    · exact⟨_,bj _ _ _⟩
  · rcases e1 with rfl | rfl
    · omega
    · simp;omega
section
variable{E:Be}(hE:Ah E){s:AD}{q:Nat}{T:List RT}{O:List Nat}(h:RS s q T O)(hT:T.length≤800){K:AV→AD→Prop}
  (hK:∀ (i:Nat) s' O' T',RS s' q T' O'→Bu O s s'→AT O O' s→(∃x,T'=T++x)→T'.length≤T.length+4→i<T'.length→K (iv (i:Int)) s')
include hE h hT hK
theorem Tt{a b:Int}:WF E 66 [.ptr (some (q,0)),iv a,iv b] K s:=by
 refine hE.go XT (by decide) rfl ?_
 have hlt:=h.at_.lt
 generalize hs:s.next=bb
 have hs0:s=ext s []:=(Aa s).symm
 have hap:Bh (ext s [R 3 1 false (Bn [a,b])]) O (.slice (some (nid bb 0,0)) 2 (some 2)) [a,b]:=Bh.of (by rw[Wg hs (by simp)];rfl) (by rw[Wm,hs,AF,AF];simp) (fun hm=>by have:=hlt _ hm;rw[AF]at this;omega) (Wj (aj _))
 have hp:=fun(K:AV→AD→Prop) hK=>Jq (K:=K) hE (h.old AQ) hT hap (by simp) (by simp) (kind:=3) hK
 rw[hs0]
 simp only[aZ,Vq,Vr,G1,hs,Qa,Qb,Qc,Qd,Qe,Qf,Qg,Qh,Qi,Qj,Qk,Ql,Qm,Qn,true_and,and_true,Qo,Qp,Qq,Qr,Qs,Qt,Qu,Qv,Qw,Qx,Qy,Qz,Ra,Rb,Rc,Rd,Re,Rf,Rg,Rh,Ri,Rj,Rk,Rl,Rm,Ya,Yb,Yc,Rn,Ro,Xv,Yd,Ye,Rq,Rs,Rt,Ru,Rw,Rx,Ry,Rz,Wa,Wb,Wc,Wd,We,Wf,Wg,Wh,Wi,Wj,Wl,Wm,Wn,Wp,Wq,Wr,Ws,Wt,Wu,Wv,Ww,Wx,Wy,Wz,Xa,Xb,Xc,Xd,Xe,Xf,Xg,Xh,Xi,Xj,Xk,Xl,Xm,Xn,Xo,Xp,Xq,Xr,ao,au,ap,am,aw,ay,List.getElem?_cons_zero,List.getElem?_cons_succ,aq,az,bA,bB,ak,Nat.reduceAdd,Nat.reduceLT,Nat.reduceLeDiff,decide_true,decide_false,Bool.true_and,Bool.and_true,bC,aj,Option.some.injEq,Xs,Xt,Xu,Xv]
 refine hp _ fun i s' O' T' g1 g2 g3 g4 g5 g6=>?_
 simp only[Qa,Qb,Qc,Qd,Qe,Qf,Qg,Qh,Qi,Qj,Qk,Ql,Qm,Qn,true_and,and_true,Qo,Qp,Qq,Qr,Qs,Qt,Qu,Qv,Qw,Qx,Qy,Qz,Ra,Rb,Rc,Rd,Re,Rf,Rg,Rh,Ri,Rj,Rk,Rl,Rm,Ya,Yb,Yc,Rn,Ro,Xv,Yd,Ye,Rq,Rs,Rt,Ru,Rw,Rx,Ry]
 exact hK i s' O' T' g1 ((AQ.frO O).trans g2 (AT.refl O s)) (AT.trans (AT.refl O s) g3 (by rw[Wm,AF];omega)) g4 g5 g6
theorem Tu{a b c:Int}:WF E 67 [.ptr (some (q,0)),iv a,iv b,iv c] K s:=by
 refine hE.go XU (by decide) rfl ?_
 have hlt:=h.at_.lt
 generalize hs:s.next=bb
 have hs0:s=ext s []:=(Aa s).symm
 have hap:Bh (ext s [R 3 1 false (Bn [a,b,c])]) O (.slice (some (nid bb 0,0)) 3 (some 3)) [a,b,c]:=Bh.of (by rw[Wg hs (by simp)];rfl) (by rw[Wm,hs,AF,AF];simp) (fun hm=>by have:=hlt _ hm;rw[AF]at this;omega) (Wj (aj _))
 have hp:=fun(K:AV→AD→Prop) hK=>Jq (K:=K) hE (h.old AQ) hT hap (by simp) (by simp) (kind:=4) hK
 rw[hs0]
 simp only[aa,Vs,Vt,Jp,hs,Qa,Qb,Qc,Qd,Qe,Qf,Qg,Qh,Qi,Qj,Qk,Ql,Qm,Qn,true_and,and_true,Qo,Qp,Qq,Qr,Qs,Qt,Qu,Qv,Qw,Qx,Qy,Qz,Ra,Rb,Rc,Rd,Re,Rf,Rg,Rh,Ri,Rj,Rk,Rl,Rm,Ya,Yb,Yc,Rn,Ro,Xv,Yd,Ye,Rq,Rs,Rt,Ru,Rw,Rx,Ry,Rz,Wa,Wb,Wc,Wd,We,Wf,Wg,Wh,Wi,Wj,Wl,Wm,Wn,Wp,Wq,Wr,Ws,Wt,Wu,Wv,Ww,Wx,Wy,Wz,Xa,Xb,Xc,Xd,Xe,Xf,Xg,Xh,Xi,Xj,Xk,Xl,Xm,Xn,Xo,Xp,Xq,Xr,ao,au,ap,am,aw,ay,List.getElem?_cons_zero,List.getElem?_cons_succ,aq,az,bA,bB,ak,Nat.reduceAdd,Nat.reduceLT,Nat.reduceLeDiff,decide_true,decide_false,Bool.true_and,Bool.and_true,bC,aj,Option.some.injEq,Xs,Xt,Xu,Xv]
 refine hp _ fun i s' O' T' g1 g2 g3 g4 g5 g6=>?_
 simp only[Qa,Qb,Qc,Qd,Qe,Qf,Qg,Qh,Qi,Qj,Qk,Ql,Qm,Qn,true_and,and_true,Qo,Qp,Qq,Qr,Qs,Qt,Qu,Qv,Qw,Qx,Qy,Qz,Ra,Rb,Rc,Rd,Re,Rf,Rg,Rh,Ri,Rj,Rk,Rl,Rm,Ya,Yb,Yc,Rn,Ro,Xv,Yd,Ye,Rq,Rs,Rt,Ru,Rw,Rx,Ry]
 exact hK i s' O' T' g1 ((AQ.frO O).trans g2 (AT.refl O s)) (AT.trans (AT.refl O s) g3 (by rw[Wm,AF];omega)) g4 g5 g6
end
set_option maxRecDepth 20000 in
theorem YF{E:Be}(hE:Ah E){s:AD}{q:Nat}{T:List RT}{O:List Nat}(h:RS s q T O)(hT:T.length≤800){o:FN}(ho:o.ok)(hcon:o.con<11){K:AV→AD→Prop}
  (hK:∀ (i:Nat) s' O' T',RS s' q T' O'→Bu O s s'→AT O O' s→(∃x,T'=T++x)→T'.length≤T.length+4→i<T'.length→K (iv (i:Int)) s'):WF E 42 [.ptr (some (q,0)),.agg o.cells] K s:=by
 obtain⟨kind,id,n,a,b',c⟩:=o
 obtain⟨hkd,hn,_,_⟩:=ho
 obtain⟨tag,c1,c2,c3,c5,c6,hc,_,d1,d2,d3,d5,d6⟩:=BF n hn
 have hcells:FN.cells ⟨kind,id,n,a,b',c⟩=[iv kind,iv id,iv tag,c1,c2,c3,.slice none 0 (some 0),c5,c6,iv a,iv b',iv c]:=by
  show [iv kind,iv id]++(Tm.con n).cells++_=_
  rw[hc];rfl
 have hkd:kind=0∨kind=1∨kind=2∨kind=3∨kind=4:=hkd
 have hst:=fun os=>h.old (AQ (os:=os))
 have hend:∀os (i:Nat) s' O' T',RS s' q T' O'→Bu O (ext s os) s'→AT O O' (ext s os)→(∃x,T'=T++x)→T'.length≤T.length+4→i<T'.length→K (iv (i:Int)) s':=fun os i s' O' T' g1 g2 g3 g4 g5 g6 =>
  hK i s' O' T' g1 ((AQ.frO O).trans g2 (AT.refl O s)) (AT.trans (AT.refl O s) g3 (by rw[Wm,AF];omega)) g4 g5 g6
 have hvar:=fun os (K:AV→AD→Prop) hK=>Tv (K:=K) hE (hst os) (by omega) hK (id:=id)
 have hbnd:=fun os (K:AV→AD→Prop) hK=>Ts (K:=K) hE (hst os) (by omega) hK (id:=id)
 have hcst:=fun os (K:AV→AD→Prop) hK=>Jo (K:=K) hE (hst os) (by omega) hK (n:=n) hcon
 have hsel:=fun os (K:AV→AD→Prop) hK=>Tt (K:=K) hE (hst os) hT hK (a:=a) (b:=b')
 have hupd:=fun os (K:AV→AD→Prop) hK=>Tu (K:=K) hE (hst os) hT hK (a:=a) (b:=b') (c:=c)
 rw[hc]at hcst
 rw[hcells]
 refine hE.go XK (by decide) rfl ?_
 generalize hs:s.next=b
 have hs0:s=ext s []:=(Aa s).symm
 rw[hs0]
 rcases hkd with rfl | rfl | rfl | rfl | rfl
 ·simp only[YT,JN,JO,JP,VN,Qa,Qb,Qc,Qd,Qe,Qf,Qg,Qh,Qi,Qj,Qk,Ql,Qm,Qn,true_and,and_true,Qo,Qp,Qq,Qr,Qs,Qt,Qu,Qv,Qw,Qx,Qy,Qz,Ra,Rb,Rc,Rd,Re,Rf,Rg,Rh,Ri,Rj,Rk,Rl,Rm,Ya,Yb,Yc,Rn,Ro,Xv,Yd,Ye,Rq,Rs,Rt,Ru,Rw,Rx,Ry,hs,C6,BZ,B0,Rw,Int.reduceEq,Rz,Wa,Wb,Wc,Wd,We,Wf,Wg,Wh,Wi,Wj,Wl,Wm,Wn,Wp,Wq,Wr,Ws,Wt,Wu,Wv,Ww,Wx,Wy,Wz,Xa,Xb,Xc,Xd,Xe,Xf,Xg,Xh,Xi,Xj,Xk,Xl,Xm,Xn,Xo,Xp,Xq,Xr,ao,au,ap,am,aw,ay,List.getElem?_cons_zero,List.getElem?_cons_succ,aq,az,bA,bB,ak,Nat.reduceAdd,Nat.reduceLT,Nat.reduceLeDiff,decide_true,decide_false,Bool.true_and,Bool.and_true,bC,aj,Option.some.injEq,Xs,Xt,Xu,Xv]
  refine hvar _ _ fun i s' O' T' g1 g2 g3 g4 g5 g6=>?_
  simp only[Qa,Qb,Qc,Qd,Qe,Qf,Qg,Qh,Qi,Qj,Qk,Ql,Qm,Qn,true_and,and_true,Qo,Qp,Qq,Qr,Qs,Qt,Qu,Qv,Qw,Qx,Qy,Qz,Ra,Rb,Rc,Rd,Re,Rf,Rg,Rh,Ri,Rj,Rk,Rl,Rm,Ya,Yb,Yc,Rn,Ro,Xv,Yd,Ye,Rq,Rs,Rt,Ru,Rw,Rx,Ry]
  exact hend _ i s' O' T' g1 g2 g3 g4 (by omega) g6
 ·simp only[YT,JN,JO,JP,K4,VO,Qa,Qb,Qc,Qd,Qe,Qf,Qg,Qh,Qi,Qj,Qk,Ql,Qm,Qn,true_and,and_true,Qo,Qp,Qq,Qr,Qs,Qt,Qu,Qv,Qw,Qx,Qy,Qz,Ra,Rb,Rc,Rd,Re,Rf,Rg,Rh,Ri,Rj,Rk,Rl,Rm,Ya,Yb,Yc,Rn,Ro,Xv,Yd,Ye,Rq,Rs,Rt,Ru,Rw,Rx,Ry,hs,C6,BZ,B0,Rw,Int.reduceEq,Rz,Wa,Wb,Wc,Wd,We,Wf,Wg,Wh,Wi,Wj,Wl,Wm,Wn,Wp,Wq,Wr,Ws,Wt,Wu,Wv,Ww,Wx,Wy,Wz,Xa,Xb,Xc,Xd,Xe,Xf,Xg,Xh,Xi,Xj,Xk,Xl,Xm,Xn,Xo,Xp,Xq,Xr,ao,au,ap,am,aw,ay,List.getElem?_cons_zero,List.getElem?_cons_succ,aq,az,bA,bB,ak,Nat.reduceAdd,Nat.reduceLT,Nat.reduceLeDiff,decide_true,decide_false,Bool.true_and,Bool.and_true,bC,aj,Option.some.injEq,Xs,Xt,Xu,Xv]
  refine hbnd _ _ fun i s' O' T' g1 g2 g3 g4 g5 g6=>?_
  simp only[Qa,Qb,Qc,Qd,Qe,Qf,Qg,Qh,Qi,Qj,Qk,Ql,Qm,Qn,true_and,and_true,Qo,Qp,Qq,Qr,Qs,Qt,Qu,Qv,Qw,Qx,Qy,Qz,Ra,Rb,Rc,Rd,Re,Rf,Rg,Rh,Ri,Rj,Rk,Rl,Rm,Ya,Yb,Yc,Rn,Ro,Xv,Yd,Ye,Rq,Rs,Rt,Ru,Rw,Rx,Ry]
  exact hend _ i s' O' T' g1 g2 g3 g4 (by omega) g6
 ·simp only[YT,JN,JO,JP,K4,NX,VP,Qa,Qb,Qc,Qd,Qe,Qf,Qg,Qh,Qi,Qj,Qk,Ql,Qm,Qn,true_and,and_true,Qo,Qp,Qq,Qr,Qs,Qt,Qu,Qv,Qw,Qx,Qy,Qz,Ra,Rb,Rc,Rd,Re,Rf,Rg,Rh,Ri,Rj,Rk,Rl,Rm,Ya,Yb,Yc,Rn,Ro,Xv,Yd,Ye,Rq,Rs,Rt,Ru,Rw,Rx,Ry,hs,C6,Hu,He,BZ,B0,RN,Rw,Int.reduceEq,Rz,Wa,Wb,Wc,Wd,We,Wf,Wg,Wh,Wi,Wj,Wl,Wm,Wn,Wp,Wq,Wr,Ws,Wt,Wu,Wv,Ww,Wx,Wy,Wz,Xa,Xb,Xc,Xd,Xe,Xf,Xg,Xh,Xi,Xj,Xk,Xl,Xm,Xn,Xo,Xp,Xq,Xr,ao,au,ap,am,aw,ay,List.getElem?_cons_zero,List.getElem?_cons_succ,aq,az,bA,bB,ak,Nat.reduceAdd,Nat.reduceLT,Nat.reduceLeDiff,decide_true,decide_false,Bool.true_and,Bool.and_true,bC,aj,Option.some.injEq,Xs,Xt,Xu,Xv]
  refine hcst _ _ fun i s' O' T' g1 g2 g3 g4 g5 g6=>?_
  simp only[Qa,Qb,Qc,Qd,Qe,Qf,Qg,Qh,Qi,Qj,Qk,Ql,Qm,Qn,true_and,and_true,Qo,Qp,Qq,Qr,Qs,Qt,Qu,Qv,Qw,Qx,Qy,Qz,Ra,Rb,Rc,Rd,Re,Rf,Rg,Rh,Ri,Rj,Rk,Rl,Rm,Ya,Yb,Yc,Rn,Ro,Xv,Yd,Ye,Rq,Rs,Rt,Ru,Rw,Rx,Ry]
  exact hend _ i s' O' T' g1 g2 g3 g4 (by omega) g6
 ·simp only[YT,JN,JO,JP,K4,NX,QE,VQ,Qa,Qb,Qc,Qd,Qe,Qf,Qg,Qh,Qi,Qj,Qk,Ql,Qm,Qn,true_and,and_true,Qo,Qp,Qq,Qr,Qs,Qt,Qu,Qv,Qw,Qx,Qy,Qz,Ra,Rb,Rc,Rd,Re,Rf,Rg,Rh,Ri,Rj,Rk,Rl,Rm,Ya,Yb,Yc,Rn,Ro,Xv,Yd,Ye,Rq,Rs,Rt,Ru,Rw,Rx,Ry,hs,C6,BZ,KK,Nr,Ns,Rw,Int.reduceEq,Rz,Wa,Wb,Wc,Wd,We,Wf,Wg,Wh,Wi,Wj,Wl,Wm,Wn,Wp,Wq,Wr,Ws,Wt,Wu,Wv,Ww,Wx,Wy,Wz,Xa,Xb,Xc,Xd,Xe,Xf,Xg,Xh,Xi,Xj,Xk,Xl,Xm,Xn,Xo,Xp,Xq,Xr,ao,au,ap,am,aw,ay,List.getElem?_cons_zero,List.getElem?_cons_succ,aq,az,bA,bB,ak,Nat.reduceAdd,Nat.reduceLT,Nat.reduceLeDiff,decide_true,decide_false,Bool.true_and,Bool.and_true,bC,aj,Option.some.injEq,Xs,Xt,Xu,Xv]
  refine hsel _ _ fun i s' O' T' g1 g2 g3 g4 g5 g6=>?_
  simp only[Qa,Qb,Qc,Qd,Qe,Qf,Qg,Qh,Qi,Qj,Qk,Ql,Qm,Qn,true_and,and_true,Qo,Qp,Qq,Qr,Qs,Qt,Qu,Qv,Qw,Qx,Qy,Qz,Ra,Rb,Rc,Rd,Re,Rf,Rg,Rh,Ri,Rj,Rk,Rl,Rm,Ya,Yb,Yc,Rn,Ro,Xv,Yd,Ye,Rq,Rs,Rt,Ru,Rw,Rx,Ry]
  exact hend _ i s' O' T' g1 g2 g3 g4 g5 g6
 ·simp only[YT,JN,JO,JP,K4,NX,QE,QD,Qa,Qb,Qc,Qd,Qe,Qf,Qg,Qh,Qi,Qj,Qk,Ql,Qm,Qn,true_and,and_true,Qo,Qp,Qq,Qr,Qs,Qt,Qu,Qv,Qw,Qx,Qy,Qz,Ra,Rb,Rc,Rd,Re,Rf,Rg,Rh,Ri,Rj,Rk,Rl,Rm,Ya,Yb,Yc,Rn,Ro,Xv,Yd,Ye,Rq,Rs,Rt,Ru,Rw,Rx,Ry,hs,C6,BZ,KK,Nr,Ns,WJ,Rw,Int.reduceEq,Rz,Wa,Wb,Wc,Wd,We,Wf,Wg,Wh,Wi,Wj,Wl,Wm,Wn,Wp,Wq,Wr,Ws,Wt,Wu,Wv,Ww,Wx,Wy,Wz,Xa,Xb,Xc,Xd,Xe,Xf,Xg,Xh,Xi,Xj,Xk,Xl,Xm,Xn,Xo,Xp,Xq,Xr,ao,au,ap,am,aw,ay,List.getElem?_cons_zero,List.getElem?_cons_succ,aq,az,bA,bB,ak,Nat.reduceAdd,Nat.reduceLT,Nat.reduceLeDiff,decide_true,decide_false,Bool.true_and,Bool.and_true,bC,aj,Option.some.injEq,Xs,Xt,Xu,Xv]
  refine hupd _ _ fun i s' O' T' g1 g2 g3 g4 g5 g6=>?_
  simp only[Qa,Qb,Qc,Qd,Qe,Qf,Qg,Qh,Qi,Qj,Qk,Ql,Qm,Qn,true_and,and_true,Qo,Qp,Qq,Qr,Qs,Qt,Qu,Qv,Qw,Qx,Qy,Qz,Ra,Rb,Rc,Rd,Re,Rf,Rg,Rh,Ri,Rj,Rk,Rl,Rm,Ya,Yb,Yc,Rn,Ro,Xv,Yd,Ye,Rq,Rs,Rt,Ru,Rw,Rx,Ry]
  exact hend _ i s' O' T' g1 g2 g3 g4 g5 g6
theorem F0:C0 Tryz.prog 5=some false:=by kernel_rfl
theorem CW(n m:Int):AO Tryz.prog .eql 5 (.int .u8 n) (.int .u8 m)=some (.bool (decide (n=m))):=by
 show some (AV.bool (Nn n m))=_
 rw[Cp]
 by_cases h:n=m<;>simp[h]
theorem Bk(k:IntKind)(n:Int):MB (.int k n) (.int k n)=true:=by
 cases k<;>simp[MB,Ba,Cp]
theorem Ij{n m:Nat}(hm:0<m):AO Tryz.prog .rem 5 (BU n) (BU m)=some (BU (n % m)):=by
 have:=F6 (P:=Tryz.prog) (t:=5) (k:=.u8) (a:=(n:Int)) (b:=(m:Int)) (by omega) (by omega)
 rw[this];rfl
theorem TL(a b c:Int):AR Tryz.prog 44 (zipIdx [0,1,2] [iv a,iv b,iv c])=some (.agg [iv a,iv b,iv c]):=by kernel_rfl
theorem Yo(c0 c1 c2 c3 c4 c5 c6:AV)(i a b c:Int):AR Tryz.prog 46 (zipIdx [2,1,3] [.agg [c0,c1,c2,c3,c4,c5,c6],iv i,.agg [iv a,iv b,iv c]])=some (.agg [iv 0,iv i,c0,c1,c2,c3,c4,c5,c6,iv a,iv b,iv c]):=by kernel_rfl
def SH:List AV:=[iv 0,iv 0,iv 0,.bool false,.str [],.str [],.slice none 0 (some 0),.slice none 0 (some 0),iv 0,iv 0,iv 0,iv 0]
set_option maxRecDepth 20000 in
theorem YH{E:Be}(hE:Ah E){s:AD}{q:Nat}{T:List RT}{O:List Nat}(h:NK s q T O)(hT:T.length≤900)(hkl:∀t∈T,t.kids.length≤3){w A B C:Nat}(hw:w<256)(hA:A<256)(hB:B<256)(hC:C<256){K:AV→AD→Prop}
  (hK:∀ (o:FN) s',o.ok→o.con<11→BK s.next s s'→K (.agg o.cells) s'):WF E 41 [.agg [BU w,BU A,BU B,BU C],.ptr (some (q,0))] K s:=by
 obtain⟨tag,c1,c2,c3,c5,c6,hc,_,d1,d2,d3,d5,d6⟩:=BF (A % 11) (by omega)
 have hm7:=bp A (show 0<7 by omega)
 have hm5:=bp A (show 0<5 by omega)
 have hr7:AO Tryz.prog .rem 5 (BU A) (.int .u8 7)=some (BU (A % 7)):=Ij (n:=A) (m:=7) (by omega)
 have hr5:AO Tryz.prog .rem 5 (BU A) (.int .u8 5)=some (BU (A % 5)):=Ij (n:=A) (m:=5) (by omega)
 have hc7:=fun s=>Dg (s:=s) (n:=A % 7) (by omega)
 have hc5:=fun s=>Dg (s:=s) (n:=A % 5) (by omega)
 have hi2:i64 (((A % 7:Nat):Int) - 2):=by unfold i64;omega
 have hend:∀ (kd:Int) (id a b c:Int) s',(kd=0∨kd=1∨kd=2∨kd=3∨kd=4)→-1000≤id→id≤900→BK s.next s s'→K (.agg [iv kd,iv id,iv tag,c1,c2,c3,.slice none 0 (some 0),c5,c6,iv a,iv b,iv c]) s':=by
  intro kd id a b c s' h1 h2 h3 h4
  have:=hK ⟨kd,id,A % 11,a,b,c⟩ s' ⟨h1,by show A % 11<13;omega,h2,h3⟩ (by show A % 11<11;omega) h4
  have hcells:FN.cells ⟨kd,id,A % 11,a,b,c⟩=[iv kd,iv id,iv tag,c1,c2,c3,.slice none 0 (some 0),c5,c6,iv a,iv b,iv c]:=by
   show [iv kd,iv id]++(Tm.con (A % 11)).cells++_=_
   rw[hc];rfl
  rwa[hcells]at this
 have hdata:=fun(s:AD) (K:AV→AD→Prop) hK=>TY (K:=K) hE (s:=s) (n:=A) hA hK
 rw[hc]at hdata
 have hpart:=fun(s':AD) (ho:BK s.next s s') (n:Nat) hn (K:AV→AD→Prop) hK=>Sl (K:=K) hE (h.old ho) hT hkl (n:=n) hn hK
 refine hE.go XJ (by decide) rfl ?_
 generalize hs:s.next=b at hend hpart
 have hs0:s=ext s []:=(Aa s).symm
 rw[hs0]
 simp only[aR,VJ,VK,Qa,Qb,Qc,Qd,Qe,Qf,Qg,Qh,Qi,Qj,Qk,Ql,Qm,Qn,true_and,and_true,Qo,Qp,Qq,Qr,Qs,Qt,Qu,Qv,Qw,Qx,Qy,Qz,Ra,Rb,Rc,Rd,Re,Rf,Rg,Rh,Ri,Rj,Rk,Rl,Rm,Ya,Yb,Yc,Rn,Ro,Xv,Yd,Ye,Rq,Rs,Rt,Ru,Rw,Rx,Ry,hs,Zo,F0,DL,X0,X1,hr7,hc7,Db _ _ _ _ hi2,Rz,Wa,Wb,Wc,Wd,We,Wf,Wg,Wh,Wi,Wj,Wl,Wm,Wn,Wp,Wq,Wr,Ws,Wt,Wu,Wv,Ww,Wx,Wy,Wz,Xa,Xb,Xc,Xd,Xe,Xf,Xg,Xh,Xi,Xj,Xk,Xl,Xm,Xn,Xo,Xp,Xq,Xr,ao,au,ap,am,aw,ay,List.getElem?_cons_zero,List.getElem?_cons_succ,aq,az,bA,bB,ak,Nat.reduceAdd,Nat.reduceLT,Nat.reduceLeDiff,decide_true,decide_false,Bool.true_and,Bool.and_true,bC,aj,Option.some.injEq,Xs,Xt,Xu,Xv]
 have hstep:∀s1 s2,(BK b s s1∧s1.heap.get (nid b 0)=some (R 82 0 false [BU w,BU A,BU B,BU C])∧s1.heap.get (nid b 1)=some (R 46 0 false SH)∧s1.heap.get (nid b 2)=some (R 46 0 false SH)∧b+3≤s1.next)→BK s1.next s1 s2 →
   (BK b s s2∧s2.heap.get (nid b 0)=some (R 82 0 false [BU w,BU A,BU B,BU C])∧s2.heap.get (nid b 1)=some (R 46 0 false SH)∧s2.heap.get (nid b 2)=some (R 46 0 false SH)∧b+3≤s2.next):=by
  rintro s1 s2 ⟨h0,h1,h2,h3,h4⟩ ho
  exact⟨h0.trans (ho.mono (by omega)),by rw[ho.2 _ (by rw[AF];omega)];exact h1,by rw[ho.2 _ (by rw[AF];omega)];exact h2,by rw[ho.2 _ (by rw[AF];omega)];exact h3,bM h4 ho.1⟩
 have hfirst:(fun s1:AD=>BK b s s1∧s1.heap.get (nid b 0)=some (R 82 0 false [BU w,BU A,BU B,BU C])∧s1.heap.get (nid b 1)=some (R 46 0 false SH)∧s1.heap.get (nid b 2)=some (R 46 0 false SH)∧b+3≤s1.next) (ext s [R 82 0 false [BU w,BU A,BU B,BU C],R 46 0 false SH,R 46 0 false SH]):=
  ⟨by rw[← hs];exact AQ,by rw[Wg hs (by simp)];rfl,by rw[Wg hs (by simp)];rfl,by rw[Wg hs (by simp)];rfl,by rw[Wm,hs,AF];exact aj _⟩
 refine hdata _ _ fun s1 e1=>?_
 have f1:=hstep _ s1 hfirst e1
 have g1:=f1.2.1
 refine⟨⟨BH ?_ (Bk _ _),BH ?_ (Bk _ _),BH ?_ (Bk _ _),BH ?_ (Bk _ _),BH ?_ (Bk _ _),trivial⟩,?_⟩
 ·simp only[Qa,Qb,Qc,Qd,Qe,Qf,Qg,Qh,Qi,Qj,Qk,Ql,Qm,Qn,true_and,and_true,Qo,Qp,Qq,Qr,Qs,Qt,Qu,Qv,Qw,Qx,Qy,Qz,Ra,Rb,Rc,Rd,Re,Rf,Rg,Rh,Ri,Rj,Rk,Rl,Rm,Ya,Yb,Yc,Rn,Ro,Xv,Yd,Ye,Rq,Rs,Rt,Ru,Rw,Rx,Ry,F0,g1,Rz,Wa,Wb,Wc,Wd,We,Wf,Wg,Wh,Wi,Wj,Wl,Wm,Wn,Wp,Wq,Wr,Ws,Wt,Wu,Wv,Ww,Wx,Wy,Wz,Xa,Xb,Xc,Xd,Xe,Xf,Xg,Xh,Xi,Xj,Xk,Xl,Xm,Xn,Xo,Xp,Xq,Xr,ao,au,ap,am,aw,ay,List.getElem?_cons_zero,List.getElem?_cons_succ,aq,az,bA,bB,ak,Nat.reduceAdd,Nat.reduceLT,Nat.reduceLeDiff,decide_true,decide_false,Bool.true_and,Bool.and_true,bC,aj,Option.some.injEq,Xs,Xt,Xu,Xv]
 ·simp only[Qa,Qb,Qc,Qd,Qe,Qf,Qg,Qh,Qi,Qj,Qk,Ql,Qm,Qn,true_and,and_true,Qo,Qp,Qq,Qr,Qs,Qt,Qu,Qv,Qw,Qx,Qy,Qz,Ra,Rb,Rc,Rd,Re,Rf,Rg,Rh,Ri,Rj,Rk,Rl,Rm,Ya,Yb,Yc,Rn,Ro,Xv,Yd,Ye,Rq,Rs,Rt,Ru,Rw,Rx,Ry,F0,g1,Rz,Wa,Wb,Wc,Wd,We,Wf,Wg,Wh,Wi,Wj,Wl,Wm,Wn,Wp,Wq,Wr,Ws,Wt,Wu,Wv,Ww,Wx,Wy,Wz,Xa,Xb,Xc,Xd,Xe,Xf,Xg,Xh,Xi,Xj,Xk,Xl,Xm,Xn,Xo,Xp,Xq,Xr,ao,au,ap,am,aw,ay,List.getElem?_cons_zero,List.getElem?_cons_succ,aq,az,bA,bB,ak,Nat.reduceAdd,Nat.reduceLT,Nat.reduceLeDiff,decide_true,decide_false,Bool.true_and,Bool.and_true,bC,aj,Option.some.injEq,Xs,Xt,Xu,Xv]
 ·simp only[Qa,Qb,Qc,Qd,Qe,Qf,Qg,Qh,Qi,Qj,Qk,Ql,Qm,Qn,true_and,and_true,Qo,Qp,Qq,Qr,Qs,Qt,Qu,Qv,Qw,Qx,Qy,Qz,Ra,Rb,Rc,Rd,Re,Rf,Rg,Rh,Ri,Rj,Rk,Rl,Rm,Ya,Yb,Yc,Rn,Ro,Xv,Yd,Ye,Rq,Rs,Rt,Ru,Rw,Rx,Ry,F0,g1,Rz,Wa,Wb,Wc,Wd,We,Wf,Wg,Wh,Wi,Wj,Wl,Wm,Wn,Wp,Wq,Wr,Ws,Wt,Wu,Wv,Ww,Wx,Wy,Wz,Xa,Xb,Xc,Xd,Xe,Xf,Xg,Xh,Xi,Xj,Xk,Xl,Xm,Xn,Xo,Xp,Xq,Xr,ao,au,ap,am,aw,ay,List.getElem?_cons_zero,List.getElem?_cons_succ,aq,az,bA,bB,ak,Nat.reduceAdd,Nat.reduceLT,Nat.reduceLeDiff,decide_true,decide_false,Bool.true_and,Bool.and_true,bC,aj,Option.some.injEq,Xs,Xt,Xu,Xv]
 ·exact hc7 _
 ·simp only[Qa,Qb,Qc,Qd,Qe,Qf,Qg,Qh,Qi,Qj,Qk,Ql,Qm,Qn,true_and,and_true,Qo,Qp,Qq,Qr,Qs,Qt,Qu,Qv,Qw,Qx,Qy,Qz,Ra,Rb,Rc,Rd,Re,Rf,Rg,Rh,Ri,Rj,Rk,Rl,Rm,Ya,Yb,Yc,Rn,Ro,Xv,Yd,Ye,Rq,Rs,Rt,Ru,Rw,Rx,Ry,F0,g1,Rz,Wa,Wb,Wc,Wd,We,Wf,Wg,Wh,Wi,Wj,Wl,Wm,Wn,Wp,Wq,Wr,Ws,Wt,Wu,Wv,Ww,Wx,Wy,Wz,Xa,Xb,Xc,Xd,Xe,Xf,Xg,Xh,Xi,Xj,Xk,Xl,Xm,Xn,Xo,Xp,Xq,Xr,ao,au,ap,am,aw,ay,List.getElem?_cons_zero,List.getElem?_cons_succ,aq,az,bA,bB,ak,Nat.reduceAdd,Nat.reduceLT,Nat.reduceLeDiff,decide_true,decide_false,Bool.true_and,Bool.and_true,bC,aj,Option.some.injEq,Xs,Xt,Xu,Xv]
 refine hpart s1 f1.1 A hA _ fun pa s2 e2=>?_
 have f2:=hstep _ s2 f1 e2
 have g2:=f2.2.1
 refine⟨⟨BH ?_ (Bk _ _),BH ?_ (Bk _ _),BH ?_ (Bk _ _),BH ?_ (Bk _ _),trivial⟩,?_⟩
 ·simp only[Qa,Qb,Qc,Qd,Qe,Qf,Qg,Qh,Qi,Qj,Qk,Ql,Qm,Qn,true_and,and_true,Qo,Qp,Qq,Qr,Qs,Qt,Qu,Qv,Qw,Qx,Qy,Qz,Ra,Rb,Rc,Rd,Re,Rf,Rg,Rh,Ri,Rj,Rk,Rl,Rm,Ya,Yb,Yc,Rn,Ro,Xv,Yd,Ye,Rq,Rs,Rt,Ru,Rw,Rx,Ry,F0,g2,Rz,Wa,Wb,Wc,Wd,We,Wf,Wg,Wh,Wi,Wj,Wl,Wm,Wn,Wp,Wq,Wr,Ws,Wt,Wu,Wv,Ww,Wx,Wy,Wz,Xa,Xb,Xc,Xd,Xe,Xf,Xg,Xh,Xi,Xj,Xk,Xl,Xm,Xn,Xo,Xp,Xq,Xr,ao,au,ap,am,aw,ay,List.getElem?_cons_zero,List.getElem?_cons_succ,aq,az,bA,bB,ak,Nat.reduceAdd,Nat.reduceLT,Nat.reduceLeDiff,decide_true,decide_false,Bool.true_and,Bool.and_true,bC,aj,Option.some.injEq,Xs,Xt,Xu,Xv]
 ·simp only[Qa,Qb,Qc,Qd,Qe,Qf,Qg,Qh,Qi,Qj,Qk,Ql,Qm,Qn,true_and,and_true,Qo,Qp,Qq,Qr,Qs,Qt,Qu,Qv,Qw,Qx,Qy,Qz,Ra,Rb,Rc,Rd,Re,Rf,Rg,Rh,Ri,Rj,Rk,Rl,Rm,Ya,Yb,Yc,Rn,Ro,Xv,Yd,Ye,Rq,Rs,Rt,Ru,Rw,Rx,Ry,F0,g2,Rz,Wa,Wb,Wc,Wd,We,Wf,Wg,Wh,Wi,Wj,Wl,Wm,Wn,Wp,Wq,Wr,Ws,Wt,Wu,Wv,Ww,Wx,Wy,Wz,Xa,Xb,Xc,Xd,Xe,Xf,Xg,Xh,Xi,Xj,Xk,Xl,Xm,Xn,Xo,Xp,Xq,Xr,ao,au,ap,am,aw,ay,List.getElem?_cons_zero,List.getElem?_cons_succ,aq,az,bA,bB,ak,Nat.reduceAdd,Nat.reduceLT,Nat.reduceLeDiff,decide_true,decide_false,Bool.true_and,Bool.and_true,bC,aj,Option.some.injEq,Xs,Xt,Xu,Xv]
 ·exact hc7 _
 ·simp only[Qa,Qb,Qc,Qd,Qe,Qf,Qg,Qh,Qi,Qj,Qk,Ql,Qm,Qn,true_and,and_true,Qo,Qp,Qq,Qr,Qs,Qt,Qu,Qv,Qw,Qx,Qy,Qz,Ra,Rb,Rc,Rd,Re,Rf,Rg,Rh,Ri,Rj,Rk,Rl,Rm,Ya,Yb,Yc,Rn,Ro,Xv,Yd,Ye,Rq,Rs,Rt,Ru,Rw,Rx,Ry,F0,g2,Rz,Wa,Wb,Wc,Wd,We,Wf,Wg,Wh,Wi,Wj,Wl,Wm,Wn,Wp,Wq,Wr,Ws,Wt,Wu,Wv,Ww,Wx,Wy,Wz,Xa,Xb,Xc,Xd,Xe,Xf,Xg,Xh,Xi,Xj,Xk,Xl,Xm,Xn,Xo,Xp,Xq,Xr,ao,au,ap,am,aw,ay,List.getElem?_cons_zero,List.getElem?_cons_succ,aq,az,bA,bB,ak,Nat.reduceAdd,Nat.reduceLT,Nat.reduceLeDiff,decide_true,decide_false,Bool.true_and,Bool.and_true,bC,aj,Option.some.injEq,Xs,Xt,Xu,Xv]
 refine hpart s2 f2.1 B hB _ fun pb s3 e3=>?_
 have f3:=hstep _ s3 f2 e3
 have g3:=f3.2.1
 refine⟨⟨BH ?_ (Bk _ _),BH ?_ (Bk _ _),BH ?_ (Bk _ _),trivial⟩,?_⟩
 ·simp only[Qa,Qb,Qc,Qd,Qe,Qf,Qg,Qh,Qi,Qj,Qk,Ql,Qm,Qn,true_and,and_true,Qo,Qp,Qq,Qr,Qs,Qt,Qu,Qv,Qw,Qx,Qy,Qz,Ra,Rb,Rc,Rd,Re,Rf,Rg,Rh,Ri,Rj,Rk,Rl,Rm,Ya,Yb,Yc,Rn,Ro,Xv,Yd,Ye,Rq,Rs,Rt,Ru,Rw,Rx,Ry,F0,g3,Rz,Wa,Wb,Wc,Wd,We,Wf,Wg,Wh,Wi,Wj,Wl,Wm,Wn,Wp,Wq,Wr,Ws,Wt,Wu,Wv,Ww,Wx,Wy,Wz,Xa,Xb,Xc,Xd,Xe,Xf,Xg,Xh,Xi,Xj,Xk,Xl,Xm,Xn,Xo,Xp,Xq,Xr,ao,au,ap,am,aw,ay,List.getElem?_cons_zero,List.getElem?_cons_succ,aq,az,bA,bB,ak,Nat.reduceAdd,Nat.reduceLT,Nat.reduceLeDiff,decide_true,decide_false,Bool.true_and,Bool.and_true,bC,aj,Option.some.injEq,Xs,Xt,Xu,Xv]
 ·exact hc7 _
 ·simp only[Qa,Qb,Qc,Qd,Qe,Qf,Qg,Qh,Qi,Qj,Qk,Ql,Qm,Qn,true_and,and_true,Qo,Qp,Qq,Qr,Qs,Qt,Qu,Qv,Qw,Qx,Qy,Qz,Ra,Rb,Rc,Rd,Re,Rf,Rg,Rh,Ri,Rj,Rk,Rl,Rm,Ya,Yb,Yc,Rn,Ro,Xv,Yd,Ye,Rq,Rs,Rt,Ru,Rw,Rx,Ry,F0,g3,Rz,Wa,Wb,Wc,Wd,We,Wf,Wg,Wh,Wi,Wj,Wl,Wm,Wn,Wp,Wq,Wr,Ws,Wt,Wu,Wv,Ww,Wx,Wy,Wz,Xa,Xb,Xc,Xd,Xe,Xf,Xg,Xh,Xi,Xj,Xk,Xl,Xm,Xn,Xo,Xp,Xq,Xr,ao,au,ap,am,aw,ay,List.getElem?_cons_zero,List.getElem?_cons_succ,aq,az,bA,bB,ak,Nat.reduceAdd,Nat.reduceLT,Nat.reduceLeDiff,decide_true,decide_false,Bool.true_and,Bool.and_true,bC,aj,Option.some.injEq,Xs,Xt,Xu,Xv]
 refine hpart s3 f3.1 C hC _ fun pc s4 e4=>?_
 obtain⟨o4,g40,g41,g42,n4⟩:=hstep _ s4 f3 e4
 refine⟨⟨BH ?_ (Bk _ _),BH ?_ (Bk _ _),trivial⟩,?_⟩
 ·exact hc7 _
 ·simp only[Qa,Qb,Qc,Qd,Qe,Qf,Qg,Qh,Qi,Qj,Qk,Ql,Qm,Qn,true_and,and_true,Qo,Qp,Qq,Qr,Qs,Qt,Qu,Qv,Qw,Qx,Qy,Qz,Ra,Rb,Rc,Rd,Re,Rf,Rg,Rh,Ri,Rj,Rk,Rl,Rm,Ya,Yb,Yc,Rn,Ro,Xv,Yd,Ye,Rq,Rs,Rt,Ru,Rw,Rx,Ry,F0,g40,Rz,Wa,Wb,Wc,Wd,We,Wf,Wg,Wh,Wi,Wj,Wl,Wm,Wn,Wp,Wq,Wr,Ws,Wt,Wu,Wv,Ww,Wx,Wy,Wz,Xa,Xb,Xc,Xd,Xe,Xf,Xg,Xh,Xi,Xj,Xk,Xl,Xm,Xn,Xo,Xp,Xq,Xr,ao,au,ap,am,aw,ay,List.getElem?_cons_zero,List.getElem?_cons_succ,aq,az,bA,bB,ak,Nat.reduceAdd,Nat.reduceLT,Nat.reduceLeDiff,decide_true,decide_false,Bool.true_and,Bool.and_true,bC,aj,Option.some.injEq,Xs,Xt,Xu,Xv]
 have l0:nid b 0<s4.next:=by rw[AF];omega
 have l1:nid b 1<s4.next:=by rw[AF];omega
 have l2:nid b 2<s4.next:=by rw[AF];omega
 have hs4:s4=ext s4 []:=(Aa s4).symm
 have n01:nid b 0≠nid b 1:=by rw[AF,AF];omega
 have n02:nid b 0≠nid b 2:=by rw[AF,AF];omega
 have n12:nid b 1≠nid b 2:=by rw[AF,AF];omega
 have n21:nid b 2≠nid b 1:=by rw[AF,AF];omega
 have hw8:w % 8=0∨w % 8=1∨w % 8=2∨w % 8=3∨w % 8=4∨w % 8=5∨w % 8=6∨w % 8=7:=by omega
 have hr8:AO Tryz.prog .rem 5 (BU w) (.int .u8 8)=some (BU (w % 8)):=Ij (n:=w) (m:=8) (by omega)
 have hold5:∀X,BK b s (setObj s4 (nid b 2) X)∧(setObj s4 (nid b 2) X).heap.get (nid b 0)=some (R 82 0 false [BU w,BU A,BU B,BU C])∧(setObj s4 (nid b 2) X).heap.get (nid b 1)=some (R 46 0 false SH)∧(setObj s4 (nid b 2) X).heap.get (nid b 2)=some X∧nid b 1<(setObj s4 (nid b 2) X).next∧nid b 2<(setObj s4 (nid b 2) X).next:=by
  intro X
  refine⟨⟨o4.1,fun j hj=>?_⟩,by rw[Wr _ n02];exact g40,by rw[Wr _ n12];exact g41,Wq _ _ _,l1,l2⟩
  rw[Wr _ (by rw[AF];omega)]
  exact o4.2 j hj
 simp only[TL,Yo,Qa,Qb,Qc,Qd,Qe,Qf,Qg,Qh,Qi,Qj,Qk,Ql,Qm,Qn,true_and,and_true,Qo,Qp,Qq,Qr,Qs,Qt,Qu,Qv,Qw,Qx,Qy,Qz,Ra,Rb,Rc,Rd,Re,Rf,Rg,Rh,Ri,Rj,Rk,Rl,Rm,Ya,Yb,Yc,Rn,Ro,Xv,Yd,Ye,Rq,Rs,Rt,Ru,Rw,Rx,Ry,g42,SH,l2,F5,FQ,d1,d2,d3,d5,d6,Rz,Wa,Wb,Wc,Wd,We,Wf,Wg,Wh,Wi,Wj,Wl,Wm,Wn,Wp,Wq,Wr,Ws,Wt,Wu,Wv,Ww,Wx,Wy,Wz,Xa,Xb,Xc,Xd,Xe,Xf,Xg,Xh,Xi,Xj,Xk,Xl,Xm,Xn,Xo,Xp,Xq,Xr,ao,au,ap,am,aw,ay,List.getElem?_cons_zero,List.getElem?_cons_succ,aq,az,bA,bB,ak,Nat.reduceAdd,Nat.reduceLT,Nat.reduceLeDiff,decide_true,decide_false,Bool.true_and,Bool.and_true,bC,aj,Option.some.injEq,Xs,Xt,Xu,Xv]
 have hX:=hold5 (R 46 0 false [iv 0,iv (((A % 7:Nat):Int) - 2),iv tag,c1,c2,c3,.slice none 0 (some 0),c5,c6,iv pa,iv pb,iv pc])
 generalize setObj s4 (nid b 2) (R 46 0 false [iv 0,iv (((A % 7:Nat):Int) - 2),iv tag,c1,c2,c3,.slice none 0 (some 0),c5,c6,iv pa,iv pb,iv pc])=s5 at hX ⊢
 obtain⟨o5,g50,g51,g52,l51,l52⟩:=hX
 rw[SH]at g51
 have hend':∀ (kd:Int) (id:Int) s' X Y,(kd=0∨kd=1∨kd=2∨kd=3∨kd=4)→-1000≤id→id≤900→s'=setObj (setObj s5 (nid b 2) X) (nid b 1) Y→K (.agg [iv kd,iv id,iv tag,c1,c2,c3,.slice none 0 (some 0),c5,c6,iv pa,iv pb,iv pc]) s':=by
  rintro kd id s' X Y h1 h2 h3 rfl
  refine hend kd id _ _ _ _ h1 h2 h3 ⟨o5.1,fun j hj=>?_⟩
  rw[Wr _ (by rw[AF];omega),Wr _ (by rw[AF];omega)]
  exact o5.2 j hj
 have g51s:∀X,(setObj s5 (nid b 2) X).heap.get (nid b 1)=some (R 46 0 false [iv 0,iv 0,iv 0,.bool false,.str [],.str [],.slice none 0 (some 0),.slice none 0 (some 0),iv 0,iv 0,iv 0,iv 0]):=fun X=>by rw[Wr _ n12];exact g51
 have g50s:∀X,(setObj s5 (nid b 2) X).heap.get (nid b 0)=some (R 82 0 false [BU w,BU A,BU B,BU C]):=fun X=>by rw[Wr _ n02];exact g50
 have g51t:∀X Y,(setObj (setObj s5 (nid b 2) X) (nid b 2) Y).heap.get (nid b 1)=some (R 46 0 false [iv 0,iv 0,iv 0,.bool false,.str [],.str [],.slice none 0 (some 0),.slice none 0 (some 0),iv 0,iv 0,iv 0,iv 0]):=fun X Y=>by rw[Wr _ n12,Wr _ n12];exact g51
 rcases hw8 with e | e | e | e | e | e | e | e
 ·rw[e]at hr8
  have hr8:AO Tryz.prog .rem 5 (BU w) (.int .u8 8)=some (.int .u8 0):=hr8
  simp only[F7,Qa,Qb,Qc,Qd,Qe,Qf,Qg,Qh,Qi,Qj,Qk,Ql,Qm,Qn,true_and,and_true,Qo,Qp,Qq,Qr,Qs,Qt,Qu,Qv,Qw,Qx,Qy,Qz,Ra,Rb,Rc,Rd,Re,Rf,Rg,Rh,Ri,Rj,Rk,Rl,Rm,Ya,Yb,Yc,Rn,Ro,Xv,Yd,Ye,Rq,Rs,Rt,Ru,Rw,Rx,Ry,g50,F0,El,hr8,Rz,Wa,Wb,Wc,Wd,We,Wf,Wg,Wh,Wi,Wj,Wl,Wm,Wn,Wp,Wq,Wr,Ws,Wt,Wu,Wv,Ww,Wx,Wy,Wz,Xa,Xb,Xc,Xd,Xe,Xf,Xg,Xh,Xi,Xj,Xk,Xl,Xm,Xn,Xo,Xp,Xq,Xr,ao,au,ap,am,aw,ay,List.getElem?_cons_zero,List.getElem?_cons_succ,aq,az,bA,bB,ak,Nat.reduceAdd,Nat.reduceLT,Nat.reduceLeDiff,decide_true,decide_false,Bool.true_and,Bool.and_true,bC,aj,Option.some.injEq,Xs,Xt,Xu,Xv]
  simp only[F8,QC,EF,Qa,Qb,Qc,Qd,Qe,Qf,Qg,Qh,Qi,Qj,Qk,Ql,Qm,Qn,true_and,and_true,Qo,Qp,Qq,Qr,Qs,Qt,Qu,Qv,Qw,Qx,Qy,Qz,Ra,Rb,Rc,Rd,Re,Rf,Rg,Rh,Ri,Rj,Rk,Rl,Rm,Ya,Yb,Yc,Rn,Ro,Xv,Yd,Ye,Rq,Rs,Rt,Ru,Rw,Rx,Ry,g50,g50s,g51s,g51t,g52,l51,l52,n01,n02,n12,n21,F0,F5,FQ,C6,Ea,DL,BZ,B0,d1,d2,d3,d5,d6,hr5,hc5,CW,Int.reduceEq,Aj,Rz,Wa,Wb,Wc,Wd,We,Wf,Wg,Wh,Wi,Wj,Wl,Wm,Wn,Wp,Wq,Wr,Ws,Wt,Wu,Wv,Ww,Wx,Wy,Wz,Xa,Xb,Xc,Xd,Xe,Xf,Xg,Xh,Xi,Xj,Xk,Xl,Xm,Xn,Xo,Xp,Xq,Xr,ao,au,ap,am,aw,ay,List.getElem?_cons_zero,List.getElem?_cons_succ,aq,az,bA,bB,ak,Nat.reduceAdd,Nat.reduceLT,Nat.reduceLeDiff,decide_true,decide_false,Bool.true_and,Bool.and_true,bC,aj,Option.some.injEq,Xs,Xt,Xu,Xv]
  refine hend' 0 _ _ _ _ (by decide) ?_ ?_ rfl<;>omega
 ·rw[e]at hr8
  have hr8:AO Tryz.prog .rem 5 (BU w) (.int .u8 8)=some (.int .u8 1):=hr8
  simp only[F7,Qa,Qb,Qc,Qd,Qe,Qf,Qg,Qh,Qi,Qj,Qk,Ql,Qm,Qn,true_and,and_true,Qo,Qp,Qq,Qr,Qs,Qt,Qu,Qv,Qw,Qx,Qy,Qz,Ra,Rb,Rc,Rd,Re,Rf,Rg,Rh,Ri,Rj,Rk,Rl,Rm,Ya,Yb,Yc,Rn,Ro,Xv,Yd,Ye,Rq,Rs,Rt,Ru,Rw,Rx,Ry,g50,F0,El,hr8,Rz,Wa,Wb,Wc,Wd,We,Wf,Wg,Wh,Wi,Wj,Wl,Wm,Wn,Wp,Wq,Wr,Ws,Wt,Wu,Wv,Ww,Wx,Wy,Wz,Xa,Xb,Xc,Xd,Xe,Xf,Xg,Xh,Xi,Xj,Xk,Xl,Xm,Xn,Xo,Xp,Xq,Xr,ao,au,ap,am,aw,ay,List.getElem?_cons_zero,List.getElem?_cons_succ,aq,az,bA,bB,ak,Nat.reduceAdd,Nat.reduceLT,Nat.reduceLeDiff,decide_true,decide_false,Bool.true_and,Bool.and_true,bC,aj,Option.some.injEq,Xs,Xt,Xu,Xv]
  simp only[F8,HC,QC,EF,Qa,Qb,Qc,Qd,Qe,Qf,Qg,Qh,Qi,Qj,Qk,Ql,Qm,Qn,true_and,and_true,Qo,Qp,Qq,Qr,Qs,Qt,Qu,Qv,Qw,Qx,Qy,Qz,Ra,Rb,Rc,Rd,Re,Rf,Rg,Rh,Ri,Rj,Rk,Rl,Rm,Ya,Yb,Yc,Rn,Ro,Xv,Yd,Ye,Rq,Rs,Rt,Ru,Rw,Rx,Ry,g50,g50s,g51s,g51t,g52,l51,l52,n01,n02,n12,n21,F0,F5,FQ,C6,Ea,DL,BZ,B0,d1,d2,d3,d5,d6,hr5,hc5,CW,Int.reduceEq,Aj,Rz,Wa,Wb,Wc,Wd,We,Wf,Wg,Wh,Wi,Wj,Wl,Wm,Wn,Wp,Wq,Wr,Ws,Wt,Wu,Wv,Ww,Wx,Wy,Wz,Xa,Xb,Xc,Xd,Xe,Xf,Xg,Xh,Xi,Xj,Xk,Xl,Xm,Xn,Xo,Xp,Xq,Xr,ao,au,ap,am,aw,ay,List.getElem?_cons_zero,List.getElem?_cons_succ,aq,az,bA,bB,ak,Nat.reduceAdd,Nat.reduceLT,Nat.reduceLeDiff,decide_true,decide_false,Bool.true_and,Bool.and_true,bC,aj,Option.some.injEq,Xs,Xt,Xu,Xv]
  refine hend' 0 _ _ _ _ (by decide) ?_ ?_ rfl<;>omega
 ·rw[e]at hr8
  have hr8:AO Tryz.prog .rem 5 (BU w) (.int .u8 8)=some (.int .u8 2):=hr8
  simp only[F7,Qa,Qb,Qc,Qd,Qe,Qf,Qg,Qh,Qi,Qj,Qk,Ql,Qm,Qn,true_and,and_true,Qo,Qp,Qq,Qr,Qs,Qt,Qu,Qv,Qw,Qx,Qy,Qz,Ra,Rb,Rc,Rd,Re,Rf,Rg,Rh,Ri,Rj,Rk,Rl,Rm,Ya,Yb,Yc,Rn,Ro,Xv,Yd,Ye,Rq,Rs,Rt,Ru,Rw,Rx,Ry,g50,F0,El,hr8,Rz,Wa,Wb,Wc,Wd,We,Wf,Wg,Wh,Wi,Wj,Wl,Wm,Wn,Wp,Wq,Wr,Ws,Wt,Wu,Wv,Ww,Wx,Wy,Wz,Xa,Xb,Xc,Xd,Xe,Xf,Xg,Xh,Xi,Xj,Xk,Xl,Xm,Xn,Xo,Xp,Xq,Xr,ao,au,ap,am,aw,ay,List.getElem?_cons_zero,List.getElem?_cons_succ,aq,az,bA,bB,ak,Nat.reduceAdd,Nat.reduceLT,Nat.reduceLeDiff,decide_true,decide_false,Bool.true_and,Bool.and_true,bC,aj,Option.some.injEq,Xs,Xt,Xu,Xv]
  simp only[F8,HC,H2,VL,VM,EF,Qa,Qb,Qc,Qd,Qe,Qf,Qg,Qh,Qi,Qj,Qk,Ql,Qm,Qn,true_and,and_true,Qo,Qp,Qq,Qr,Qs,Qt,Qu,Qv,Qw,Qx,Qy,Qz,Ra,Rb,Rc,Rd,Re,Rf,Rg,Rh,Ri,Rj,Rk,Rl,Rm,Ya,Yb,Yc,Rn,Ro,Xv,Yd,Ye,Rq,Rs,Rt,Ru,Rw,Rx,Ry,g50,g50s,g51s,g51t,g52,l51,l52,n01,n02,n12,n21,F0,F5,FQ,C6,Ea,DL,BZ,B0,d1,d2,d3,d5,d6,hr5,hc5,CW,Int.reduceEq,Aj,Rz,Wa,Wb,Wc,Wd,We,Wf,Wg,Wh,Wi,Wj,Wl,Wm,Wn,Wp,Wq,Wr,Ws,Wt,Wu,Wv,Ww,Wx,Wy,Wz,Xa,Xb,Xc,Xd,Xe,Xf,Xg,Xh,Xi,Xj,Xk,Xl,Xm,Xn,Xo,Xp,Xq,Xr,ao,au,ap,am,aw,ay,List.getElem?_cons_zero,List.getElem?_cons_succ,aq,az,bA,bB,ak,Nat.reduceAdd,Nat.reduceLT,Nat.reduceLeDiff,decide_true,decide_false,Bool.true_and,Bool.and_true,bC,aj,Option.some.injEq,Xs,Xt,Xu,Xv]
  refine hend 1 _ _ _ _ (setObj (setObj (setObj s5 _ _) _ _) _ _) (by decide) ?_ ?_ ⟨o5.1,fun j hj=>?_⟩
  ·omega
  ·omega
  ·rw[Wr _ (by rw[AF];omega),Wr _ (by rw[AF];omega),Wr _ (by rw[AF];omega)]
   exact o5.2 j hj
 ·rw[e]at hr8
  have hr8:AO Tryz.prog .rem 5 (BU w) (.int .u8 8)=some (.int .u8 3):=hr8
  simp only[F7,Qa,Qb,Qc,Qd,Qe,Qf,Qg,Qh,Qi,Qj,Qk,Ql,Qm,Qn,true_and,and_true,Qo,Qp,Qq,Qr,Qs,Qt,Qu,Qv,Qw,Qx,Qy,Qz,Ra,Rb,Rc,Rd,Re,Rf,Rg,Rh,Ri,Rj,Rk,Rl,Rm,Ya,Yb,Yc,Rn,Ro,Xv,Yd,Ye,Rq,Rs,Rt,Ru,Rw,Rx,Ry,g50,F0,El,hr8,Rz,Wa,Wb,Wc,Wd,We,Wf,Wg,Wh,Wi,Wj,Wl,Wm,Wn,Wp,Wq,Wr,Ws,Wt,Wu,Wv,Ww,Wx,Wy,Wz,Xa,Xb,Xc,Xd,Xe,Xf,Xg,Xh,Xi,Xj,Xk,Xl,Xm,Xn,Xo,Xp,Xq,Xr,ao,au,ap,am,aw,ay,List.getElem?_cons_zero,List.getElem?_cons_succ,aq,az,bA,bB,ak,Nat.reduceAdd,Nat.reduceLT,Nat.reduceLeDiff,decide_true,decide_false,Bool.true_and,Bool.and_true,bC,aj,Option.some.injEq,Xs,Xt,Xu,Xv]
  simp only[F8,HC,H2,Qa,Qb,Qc,Qd,Qe,Qf,Qg,Qh,Qi,Qj,Qk,Ql,Qm,Qn,true_and,and_true,Qo,Qp,Qq,Qr,Qs,Qt,Qu,Qv,Qw,Qx,Qy,Qz,Ra,Rb,Rc,Rd,Re,Rf,Rg,Rh,Ri,Rj,Rk,Rl,Rm,Ya,Yb,Yc,Rn,Ro,Xv,Yd,Ye,Rq,Rs,Rt,Ru,Rw,Rx,Ry,g50,g50s,g51s,g51t,g52,l51,l52,n01,n02,n12,n21,F0,F5,FQ,C6,Ea,DL,BZ,B0,d1,d2,d3,d5,d6,hr5,hc5,CW,Int.reduceEq,Aj,Rz,Wa,Wb,Wc,Wd,We,Wf,Wg,Wh,Wi,Wj,Wl,Wm,Wn,Wp,Wq,Wr,Ws,Wt,Wu,Wv,Ww,Wx,Wy,Wz,Xa,Xb,Xc,Xd,Xe,Xf,Xg,Xh,Xi,Xj,Xk,Xl,Xm,Xn,Xo,Xp,Xq,Xr,ao,au,ap,am,aw,ay,List.getElem?_cons_zero,List.getElem?_cons_succ,aq,az,bA,bB,ak,Nat.reduceAdd,Nat.reduceLT,Nat.reduceLeDiff,decide_true,decide_false,Bool.true_and,Bool.and_true,bC,aj,Option.some.injEq,Xs,Xt,Xu,Xv]
  simp only[JM,Qa,Qb,Qc,Qd,Qe,Qf,Qg,Qh,Qi,Qj,Qk,Ql,Qm,Qn,true_and,and_true,Qo,Qp,Qq,Qr,Qs,Qt,Qu,Qv,Qw,Qx,Qy,Qz,Ra,Rb,Rc,Rd,Re,Rf,Rg,Rh,Ri,Rj,Rk,Rl,Rm,Ya,Yb,Yc,Rn,Ro,Xv,Yd,Ye,Rq,Rs,Rt,Ru,Rw,Rx,Ry,-Qu,-Qv,CW,Int.reduceEq,Rz,Wa,Wb,Wc,Wd,We,Wf,Wg,Wh,Wi,Wj,Wl,Wm,Wn,Wp,Wq,Wr,Ws,Wt,Wu,Wv,Ww,Wx,Wy,Wz,Xa,Xb,Xc,Xd,Xe,Xf,Xg,Xh,Xi,Xj,Xk,Xl,Xm,Xn,Xo,Xp,Xq,Xr,ao,au,ap,am,aw,ay,List.getElem?_cons_zero,List.getElem?_cons_succ,aq,az,bA,bB,ak,Nat.reduceAdd,Nat.reduceLT,Nat.reduceLeDiff,decide_true,decide_false,Bool.true_and,Bool.and_true,bC,aj,Option.some.injEq,Xs,Xt,Xu,Xv]
  rw[Qu]
  simp only[Qr,Qq]
  rw[Qu]
  simp only[ML,EF,Qa,Qb,Qc,Qd,Qe,Qf,Qg,Qh,Qi,Qj,Qk,Ql,Qm,Qn,true_and,and_true,Qo,Qp,Qq,Qr,Qs,Qt,Qu,Qv,Qw,Qx,Qy,Qz,Ra,Rb,Rc,Rd,Re,Rf,Rg,Rh,Ri,Rj,Rk,Rl,Rm,Ya,Yb,Yc,Rn,Ro,Xv,Yd,Ye,Rq,Rs,Rt,Ru,Rw,Rx,Ry,g50,g50s,g51s,g51t,g52,l51,l52,n01,n02,n12,n21,F0,F5,FQ,C6,Ea,DL,BZ,B0,d1,d2,d3,d5,d6,hr5,hc5,CW,Int.reduceEq,Aj,Rz,Wa,Wb,Wc,Wd,We,Wf,Wg,Wh,Wi,Wj,Wl,Wm,Wn,Wp,Wq,Wr,Ws,Wt,Wu,Wv,Ww,Wx,Wy,Wz,Xa,Xb,Xc,Xd,Xe,Xf,Xg,Xh,Xi,Xj,Xk,Xl,Xm,Xn,Xo,Xp,Xq,Xr,ao,au,ap,am,aw,ay,List.getElem?_cons_zero,List.getElem?_cons_succ,aq,az,bA,bB,ak,Nat.reduceAdd,Nat.reduceLT,Nat.reduceLeDiff,decide_true,decide_false,Bool.true_and,Bool.and_true,bC,aj,Option.some.injEq,Xs,Xt,Xu,Xv]
  refine hend' 2 _ _ _ _ (by decide) ?_ ?_ rfl<;>omega
 ·rw[e]at hr8
  have hr8:AO Tryz.prog .rem 5 (BU w) (.int .u8 8)=some (.int .u8 4):=hr8
  simp only[F7,Qa,Qb,Qc,Qd,Qe,Qf,Qg,Qh,Qi,Qj,Qk,Ql,Qm,Qn,true_and,and_true,Qo,Qp,Qq,Qr,Qs,Qt,Qu,Qv,Qw,Qx,Qy,Qz,Ra,Rb,Rc,Rd,Re,Rf,Rg,Rh,Ri,Rj,Rk,Rl,Rm,Ya,Yb,Yc,Rn,Ro,Xv,Yd,Ye,Rq,Rs,Rt,Ru,Rw,Rx,Ry,g50,F0,El,hr8,Rz,Wa,Wb,Wc,Wd,We,Wf,Wg,Wh,Wi,Wj,Wl,Wm,Wn,Wp,Wq,Wr,Ws,Wt,Wu,Wv,Ww,Wx,Wy,Wz,Xa,Xb,Xc,Xd,Xe,Xf,Xg,Xh,Xi,Xj,Xk,Xl,Xm,Xn,Xo,Xp,Xq,Xr,ao,au,ap,am,aw,ay,List.getElem?_cons_zero,List.getElem?_cons_succ,aq,az,bA,bB,ak,Nat.reduceAdd,Nat.reduceLT,Nat.reduceLeDiff,decide_true,decide_false,Bool.true_and,Bool.and_true,bC,aj,Option.some.injEq,Xs,Xt,Xu,Xv]
  simp only[F8,HC,H2,Qa,Qb,Qc,Qd,Qe,Qf,Qg,Qh,Qi,Qj,Qk,Ql,Qm,Qn,true_and,and_true,Qo,Qp,Qq,Qr,Qs,Qt,Qu,Qv,Qw,Qx,Qy,Qz,Ra,Rb,Rc,Rd,Re,Rf,Rg,Rh,Ri,Rj,Rk,Rl,Rm,Ya,Yb,Yc,Rn,Ro,Xv,Yd,Ye,Rq,Rs,Rt,Ru,Rw,Rx,Ry,g50,g50s,g51s,g51t,g52,l51,l52,n01,n02,n12,n21,F0,F5,FQ,C6,Ea,DL,BZ,B0,d1,d2,d3,d5,d6,hr5,hc5,CW,Int.reduceEq,Aj,Rz,Wa,Wb,Wc,Wd,We,Wf,Wg,Wh,Wi,Wj,Wl,Wm,Wn,Wp,Wq,Wr,Ws,Wt,Wu,Wv,Ww,Wx,Wy,Wz,Xa,Xb,Xc,Xd,Xe,Xf,Xg,Xh,Xi,Xj,Xk,Xl,Xm,Xn,Xo,Xp,Xq,Xr,ao,au,ap,am,aw,ay,List.getElem?_cons_zero,List.getElem?_cons_succ,aq,az,bA,bB,ak,Nat.reduceAdd,Nat.reduceLT,Nat.reduceLeDiff,decide_true,decide_false,Bool.true_and,Bool.and_true,bC,aj,Option.some.injEq,Xs,Xt,Xu,Xv]
  simp only[JM,Qa,Qb,Qc,Qd,Qe,Qf,Qg,Qh,Qi,Qj,Qk,Ql,Qm,Qn,true_and,and_true,Qo,Qp,Qq,Qr,Qs,Qt,Qu,Qv,Qw,Qx,Qy,Qz,Ra,Rb,Rc,Rd,Re,Rf,Rg,Rh,Ri,Rj,Rk,Rl,Rm,Ya,Yb,Yc,Rn,Ro,Xv,Yd,Ye,Rq,Rs,Rt,Ru,Rw,Rx,Ry,-Qu,-Qv,CW,Int.reduceEq,Rz,Wa,Wb,Wc,Wd,We,Wf,Wg,Wh,Wi,Wj,Wl,Wm,Wn,Wp,Wq,Wr,Ws,Wt,Wu,Wv,Ww,Wx,Wy,Wz,Xa,Xb,Xc,Xd,Xe,Xf,Xg,Xh,Xi,Xj,Xk,Xl,Xm,Xn,Xo,Xp,Xq,Xr,ao,au,ap,am,aw,ay,List.getElem?_cons_zero,List.getElem?_cons_succ,aq,az,bA,bB,ak,Nat.reduceAdd,Nat.reduceLT,Nat.reduceLeDiff,decide_true,decide_false,Bool.true_and,Bool.and_true,bC,aj,Option.some.injEq,Xs,Xt,Xu,Xv]
  rw[Qv]
  simp only[H1,Qa,Qb,Qc,Qd,Qe,Qf,Qg,Qh,Qi,Qj,Qk,Ql,Qm,Qn,true_and,and_true,Qo,Qp,Qq,Qr,Qs,Qt,Qu,Qv,Qw,Qx,Qy,Qz,Ra,Rb,Rc,Rd,Re,Rf,Rg,Rh,Ri,Rj,Rk,Rl,Rm,Ya,Yb,Yc,Rn,Ro,Xv,Yd,Ye,Rq,Rs,Rt,Ru,Rw,Rx,Ry,-Qu,-Qv,CW,Int.reduceEq,Rz,Wa,Wb,Wc,Wd,We,Wf,Wg,Wh,Wi,Wj,Wl,Wm,Wn,Wp,Wq,Wr,Ws,Wt,Wu,Wv,Ww,Wx,Wy,Wz,Xa,Xb,Xc,Xd,Xe,Xf,Xg,Xh,Xi,Xj,Xk,Xl,Xm,Xn,Xo,Xp,Xq,Xr,ao,au,ap,am,aw,ay,List.getElem?_cons_zero,List.getElem?_cons_succ,aq,az,bA,bB,ak,Nat.reduceAdd,Nat.reduceLT,Nat.reduceLeDiff,decide_true,decide_false,Bool.true_and,Bool.and_true,bC,aj,Option.some.injEq,Xs,Xt,Xu,Xv]
  rw[Qu]
  simp only[ML,EF,Qa,Qb,Qc,Qd,Qe,Qf,Qg,Qh,Qi,Qj,Qk,Ql,Qm,Qn,true_and,and_true,Qo,Qp,Qq,Qr,Qs,Qt,Qu,Qv,Qw,Qx,Qy,Qz,Ra,Rb,Rc,Rd,Re,Rf,Rg,Rh,Ri,Rj,Rk,Rl,Rm,Ya,Yb,Yc,Rn,Ro,Xv,Yd,Ye,Rq,Rs,Rt,Ru,Rw,Rx,Ry,g50,g50s,g51s,g51t,g52,l51,l52,n01,n02,n12,n21,F0,F5,FQ,C6,Ea,DL,BZ,B0,d1,d2,d3,d5,d6,hr5,hc5,CW,Int.reduceEq,Aj,Rz,Wa,Wb,Wc,Wd,We,Wf,Wg,Wh,Wi,Wj,Wl,Wm,Wn,Wp,Wq,Wr,Ws,Wt,Wu,Wv,Ww,Wx,Wy,Wz,Xa,Xb,Xc,Xd,Xe,Xf,Xg,Xh,Xi,Xj,Xk,Xl,Xm,Xn,Xo,Xp,Xq,Xr,ao,au,ap,am,aw,ay,List.getElem?_cons_zero,List.getElem?_cons_succ,aq,az,bA,bB,ak,Nat.reduceAdd,Nat.reduceLT,Nat.reduceLeDiff,decide_true,decide_false,Bool.true_and,Bool.and_true,bC,aj,Option.some.injEq,Xs,Xt,Xu,Xv]
  refine hend' 2 _ _ _ _ (by decide) ?_ ?_ rfl<;>omega
 ·rw[e]at hr8
  have hr8:AO Tryz.prog .rem 5 (BU w) (.int .u8 8)=some (.int .u8 5):=hr8
  simp only[F7,Qa,Qb,Qc,Qd,Qe,Qf,Qg,Qh,Qi,Qj,Qk,Ql,Qm,Qn,true_and,and_true,Qo,Qp,Qq,Qr,Qs,Qt,Qu,Qv,Qw,Qx,Qy,Qz,Ra,Rb,Rc,Rd,Re,Rf,Rg,Rh,Ri,Rj,Rk,Rl,Rm,Ya,Yb,Yc,Rn,Ro,Xv,Yd,Ye,Rq,Rs,Rt,Ru,Rw,Rx,Ry,g50,F0,El,hr8,Rz,Wa,Wb,Wc,Wd,We,Wf,Wg,Wh,Wi,Wj,Wl,Wm,Wn,Wp,Wq,Wr,Ws,Wt,Wu,Wv,Ww,Wx,Wy,Wz,Xa,Xb,Xc,Xd,Xe,Xf,Xg,Xh,Xi,Xj,Xk,Xl,Xm,Xn,Xo,Xp,Xq,Xr,ao,au,ap,am,aw,ay,List.getElem?_cons_zero,List.getElem?_cons_succ,aq,az,bA,bB,ak,Nat.reduceAdd,Nat.reduceLT,Nat.reduceLeDiff,decide_true,decide_false,Bool.true_and,Bool.and_true,bC,aj,Option.some.injEq,Xs,Xt,Xu,Xv]
  simp only[F8,HC,H2,JM,H1,KF,MN,EF,Qa,Qb,Qc,Qd,Qe,Qf,Qg,Qh,Qi,Qj,Qk,Ql,Qm,Qn,true_and,and_true,Qo,Qp,Qq,Qr,Qs,Qt,Qu,Qv,Qw,Qx,Qy,Qz,Ra,Rb,Rc,Rd,Re,Rf,Rg,Rh,Ri,Rj,Rk,Rl,Rm,Ya,Yb,Yc,Rn,Ro,Xv,Yd,Ye,Rq,Rs,Rt,Ru,Rw,Rx,Ry,g50,g50s,g51s,g51t,g52,l51,l52,n01,n02,n12,n21,F0,F5,FQ,C6,Ea,DL,BZ,B0,d1,d2,d3,d5,d6,hr5,hc5,CW,Int.reduceEq,Aj,Rz,Wa,Wb,Wc,Wd,We,Wf,Wg,Wh,Wi,Wj,Wl,Wm,Wn,Wp,Wq,Wr,Ws,Wt,Wu,Wv,Ww,Wx,Wy,Wz,Xa,Xb,Xc,Xd,Xe,Xf,Xg,Xh,Xi,Xj,Xk,Xl,Xm,Xn,Xo,Xp,Xq,Xr,ao,au,ap,am,aw,ay,List.getElem?_cons_zero,List.getElem?_cons_succ,aq,az,bA,bB,ak,Nat.reduceAdd,Nat.reduceLT,Nat.reduceLeDiff,decide_true,decide_false,Bool.true_and,Bool.and_true,bC,aj,Option.some.injEq,Xs,Xt,Xu,Xv]
  refine hend' 3 _ _ _ _ (by decide) ?_ ?_ rfl<;>omega
 ·rw[e]at hr8
  have hr8:AO Tryz.prog .rem 5 (BU w) (.int .u8 8)=some (.int .u8 6):=hr8
  simp only[F7,Qa,Qb,Qc,Qd,Qe,Qf,Qg,Qh,Qi,Qj,Qk,Ql,Qm,Qn,true_and,and_true,Qo,Qp,Qq,Qr,Qs,Qt,Qu,Qv,Qw,Qx,Qy,Qz,Ra,Rb,Rc,Rd,Re,Rf,Rg,Rh,Ri,Rj,Rk,Rl,Rm,Ya,Yb,Yc,Rn,Ro,Xv,Yd,Ye,Rq,Rs,Rt,Ru,Rw,Rx,Ry,g50,F0,El,hr8,Rz,Wa,Wb,Wc,Wd,We,Wf,Wg,Wh,Wi,Wj,Wl,Wm,Wn,Wp,Wq,Wr,Ws,Wt,Wu,Wv,Ww,Wx,Wy,Wz,Xa,Xb,Xc,Xd,Xe,Xf,Xg,Xh,Xi,Xj,Xk,Xl,Xm,Xn,Xo,Xp,Xq,Xr,ao,au,ap,am,aw,ay,List.getElem?_cons_zero,List.getElem?_cons_succ,aq,az,bA,bB,ak,Nat.reduceAdd,Nat.reduceLT,Nat.reduceLeDiff,decide_true,decide_false,Bool.true_and,Bool.and_true,bC,aj,Option.some.injEq,Xs,Xt,Xu,Xv]
  simp only[F8,HC,H2,JM,H1,KF,MM,MN,EF,Qa,Qb,Qc,Qd,Qe,Qf,Qg,Qh,Qi,Qj,Qk,Ql,Qm,Qn,true_and,and_true,Qo,Qp,Qq,Qr,Qs,Qt,Qu,Qv,Qw,Qx,Qy,Qz,Ra,Rb,Rc,Rd,Re,Rf,Rg,Rh,Ri,Rj,Rk,Rl,Rm,Ya,Yb,Yc,Rn,Ro,Xv,Yd,Ye,Rq,Rs,Rt,Ru,Rw,Rx,Ry,g50,g50s,g51s,g51t,g52,l51,l52,n01,n02,n12,n21,F0,F5,FQ,C6,Ea,DL,BZ,B0,d1,d2,d3,d5,d6,hr5,hc5,CW,Int.reduceEq,Aj,Rz,Wa,Wb,Wc,Wd,We,Wf,Wg,Wh,Wi,Wj,Wl,Wm,Wn,Wp,Wq,Wr,Ws,Wt,Wu,Wv,Ww,Wx,Wy,Wz,Xa,Xb,Xc,Xd,Xe,Xf,Xg,Xh,Xi,Xj,Xk,Xl,Xm,Xn,Xo,Xp,Xq,Xr,ao,au,ap,am,aw,ay,List.getElem?_cons_zero,List.getElem?_cons_succ,aq,az,bA,bB,ak,Nat.reduceAdd,Nat.reduceLT,Nat.reduceLeDiff,decide_true,decide_false,Bool.true_and,Bool.and_true,bC,aj,Option.some.injEq,Xs,Xt,Xu,Xv]
  refine hend' 3 _ _ _ _ (by decide) ?_ ?_ rfl<;>omega
 ·rw[e]at hr8
  have hr8:AO Tryz.prog .rem 5 (BU w) (.int .u8 8)=some (.int .u8 7):=hr8
  simp only[F7,Qa,Qb,Qc,Qd,Qe,Qf,Qg,Qh,Qi,Qj,Qk,Ql,Qm,Qn,true_and,and_true,Qo,Qp,Qq,Qr,Qs,Qt,Qu,Qv,Qw,Qx,Qy,Qz,Ra,Rb,Rc,Rd,Re,Rf,Rg,Rh,Ri,Rj,Rk,Rl,Rm,Ya,Yb,Yc,Rn,Ro,Xv,Yd,Ye,Rq,Rs,Rt,Ru,Rw,Rx,Ry,g50,F0,El,hr8,Rz,Wa,Wb,Wc,Wd,We,Wf,Wg,Wh,Wi,Wj,Wl,Wm,Wn,Wp,Wq,Wr,Ws,Wt,Wu,Wv,Ww,Wx,Wy,Wz,Xa,Xb,Xc,Xd,Xe,Xf,Xg,Xh,Xi,Xj,Xk,Xl,Xm,Xn,Xo,Xp,Xq,Xr,ao,au,ap,am,aw,ay,List.getElem?_cons_zero,List.getElem?_cons_succ,aq,az,bA,bB,ak,Nat.reduceAdd,Nat.reduceLT,Nat.reduceLeDiff,decide_true,decide_false,Bool.true_and,Bool.and_true,bC,aj,Option.some.injEq,Xs,Xt,Xu,Xv]
  simp only[F8,HC,H2,JM,H1,KF,MM,QB,EF,Qa,Qb,Qc,Qd,Qe,Qf,Qg,Qh,Qi,Qj,Qk,Ql,Qm,Qn,true_and,and_true,Qo,Qp,Qq,Qr,Qs,Qt,Qu,Qv,Qw,Qx,Qy,Qz,Ra,Rb,Rc,Rd,Re,Rf,Rg,Rh,Ri,Rj,Rk,Rl,Rm,Ya,Yb,Yc,Rn,Ro,Xv,Yd,Ye,Rq,Rs,Rt,Ru,Rw,Rx,Ry,g50,g50s,g51s,g51t,g52,l51,l52,n01,n02,n12,n21,F0,F5,FQ,C6,Ea,DL,BZ,B0,d1,d2,d3,d5,d6,hr5,hc5,CW,Int.reduceEq,Aj,Rz,Wa,Wb,Wc,Wd,We,Wf,Wg,Wh,Wi,Wj,Wl,Wm,Wn,Wp,Wq,Wr,Ws,Wt,Wu,Wv,Ww,Wx,Wy,Wz,Xa,Xb,Xc,Xd,Xe,Xf,Xg,Xh,Xi,Xj,Xk,Xl,Xm,Xn,Xo,Xp,Xq,Xr,ao,au,ap,am,aw,ay,List.getElem?_cons_zero,List.getElem?_cons_succ,aq,az,bA,bB,ak,Nat.reduceAdd,Nat.reduceLT,Nat.reduceLeDiff,decide_true,decide_false,Bool.true_and,Bool.and_true,bC,aj,Option.some.injEq,Xs,Xt,Xu,Xv]
  refine hend' 4 _ _ _ _ (by decide) ?_ ?_ rfl<;>omega
abbrev I4:=Nat×Nat×Nat×Nat
def I4.cells(m:I4):List AV:=[BU m.1,BU m.2.1,BU m.2.2.1,BU m.2.2.2]
def I4.ok(m:I4):Prop:=m.1<256∧m.2.1<256∧m.2.2.1<256∧m.2.2.2<256
def Ch(s:AD)(v:AV)(l:List I4):Prop:=
 ∃a cap,v=.slice a l.length cap∧∀ (k:Nat) (m:I4),l[k]? = some m→∃j q,a=some (j,q)∧j<s.next∧BB (s.heap.get j) (q+k * 4) 4=some m.cells
theorem Ch.old{s s':AD}{v:AV}{l:List I4}(h:Ch s v l)(k:BK s.next s s'):Ch s' v l:=by
 obtain⟨a,cap,h1,h2⟩:=h
 refine⟨a,cap,h1,fun i m hm=>?_⟩
 obtain⟨j,q,h3,h4,h5⟩:=h2 i m hm
 exact⟨j,q,h3,bG h4 k.1,by rw[k.2 j h4];exact h5⟩
theorem Ch.len{s:AD}{v:AV}{l:List I4}(h:Ch s v l)(s':AD):BT Tryz.prog s' 22 v=some (iv (l.length:Int)):=by
 obtain⟨a,cap,rfl,_⟩:=h
 exact Ad Tryz.underlying22
theorem Lh(o:FN)(h:o.ok):∃ (tag:Int)(c1 c2 c3 c5 c6:AV),o.cells=[iv o.kind,iv o.id,iv tag,c1,c2,c3,.slice none 0 (some 0),c5,c6,iv o.a,iv o.b,iv o.c]∧c1.isCell=true∧c2.isCell=true∧c3.isCell=true∧c5.isCell=true∧c6.isCell=true:=by
 obtain⟨tag,c1,c2,c3,c5,c6,hc,_,d1,d2,d3,d5,d6⟩:=BF o.con h.2.1
 refine⟨tag,c1,c2,c3,c5,c6,?_,d1,d2,d3,d5,d6⟩
 show [iv o.kind,iv o.id]++(Tm.con o.con).cells++_=_
 rw[hc];rfl
theorem YI(c0 c1 c2 c3 c4 c5 c6 c7 c8 c9 Yq Yt:AV):Ae Tryz.prog 36 1 (zipIdx [0] [.agg [c0,c1,c2,c3,c4,c5,c6,c7,c8,c9,Yq,Yt]])=some (R 46 12 false [c0,c1,c2,c3,c4,c5,c6,c7,c8,c9,Yq,Yt]):=by kernel_rfl
theorem Zm:B2 Tryz.prog 46 12=true:=by kernel_rfl
theorem YQ:BS Tryz.prog 36=true:=by kernel_rfl
set_option maxRecDepth 20000 in
theorem Ow        {E : Be}  (hE : Ah    E) {s : AD}  (h1 : 1 < s.next) {v : AV} {l : List I4}  (hv : Ch      s v l) (hu : ∀ m ∈ l, I4.ok  m) (a1 a2 : AV) {q : Nat} {Q : Aw   → Prop} {marks : List Nat}
    (hend:∀ (y6 y7 vo:AV) s' O' T' (ops:List FN) OB,(∀o∈ops,o.ok)→ops.length≤40→RS s' q T' O'→BK s.next s s'→E8 46 12 s' vo ops.length (ops.flatMap FN.cells) OB→(∀j∈OB,s.next≤j) →
      Ag 0 Q ⟨.exit 0,[v,a1,a2,.ptr (some (q,0)),vo,iv (ops.length:Int),y6,y7],marks,s'⟩):
    ∀ (d:Nat) (ops:List FN) s1 O1 T1 OB (vo a6 a7:AV),d+ops.length=min l.length 40→(∀o∈ops,o.ok)→RS s1 q T1 O1→(∀j∈O1,s.next≤j)→BK s.next s s1→T1.length≤4 * ops.length→E8 46 12 s1 vo ops.length (ops.flatMap FN.cells) OB→(∀j∈OB,s.next≤j∧j ∉ O1) →
      WC E none (AZ.loop JI) (Ag 0 Q) [v,a1,a2,.ptr (some (q,0)),vo,iv (ops.length:Int),a6,a7] marks s1:=by
  intro d
  induction d with
  | zero =>
    intro ops s1 O1 T1 OB vo a6 a7 hd hok h h3 h4 h5 h6 h7
    have hlen:=hv.len
    refine WC.loop' ?_
    by_cases hlt:(ops.length:Int)<(l.length:Int)
    · have hlt2:¬ ((ops.length:Int)<40):=by omega
      simp only[JI,NS,Qa,Qb,Qc,Qd,Qe,Qf,Qg,Qh,Qi,Qj,Qk,Ql,Qm,Qn,true_and,and_true,Qo,Qp,Qq,Qr,Qs,Qt,Qu,Qv,Qw,Qx,Qy,Qz,Ra,Rb,Rc,Rd,Re,Rf,Rg,Rh,Ri,Rj,Rk,Rl,Rm,Ya,Yb,Yc,Rn,Ro,Xv,Yd,Ye,Rq,Rs,Rt,Ru,Rw,Rx,Ry,hlen,Rq,hlt,decide_true,hlt2,decide_false]
      exact hend _ _ vo s1 O1 T1 ops OB hok (by omega) h h4 h6 fun j hj=>(h7 j hj).1
    · simp only[JI,NS,Qa,Qb,Qc,Qd,Qe,Qf,Qg,Qh,Qi,Qj,Qk,Ql,Qm,Qn,true_and,and_true,Qo,Qp,Qq,Qr,Qs,Qt,Qu,Qv,Qw,Qx,Qy,Qz,Ra,Rb,Rc,Rd,Re,Rf,Rg,Rh,Ri,Rj,Rk,Rl,Rm,Ya,Yb,Yc,Rn,Ro,Xv,Yd,Ye,Rq,Rs,Rt,Ru,Rw,Rx,Ry,hlen,Rq,hlt,decide_false]
      exact hend _ _ vo s1 O1 T1 ops OB hok (by omega) h h4 h6 fun j hj=>(h7 j hj).1
  | succ d ih =>
    intro ops s1 O1 T1 OB vo a6 a7 hd hok h h3 h4 h5 h6 h7
    have hlen:=hv.len
    have hltn:ops.length<l.length:=by omega
    have hlt:(ops.length:Int)<(l.length:Int):=by omega
    have hlt2:(ops.length:Int)<40:=by omega
    have hadd:i64 ((ops.length:Int)+1):=by unfold i64;omega
    obtain⟨m,hm⟩:∃m,l[ops.length]? = some m:=⟨_,bD hltn⟩
    have hmk:=hu m (bO hm)
    obtain⟨a,cap,rfl,hat⟩:=hv.old h4
    obtain⟨j,qq,rfl,hj,hld⟩:=hat _ m hm
    rw[I4.cells]at hld
    have hrop:=fun(K:AV→AD→Prop) hK=>YH (K:=K) hE h.at_ (by omega) h.kl hmk.1 hmk.2.1 hmk.2.2.1 hmk.2.2.2 hK
    refine WC.loop' ?_
    obtain⟨W,hW⟩:∃W,W=AZ.loop JI:=⟨_,rfl⟩
    rw[← hW]
    simp only[JI,NS,UW,Qa,Qb,Qc,Qd,Qe,Qf,Qg,Qh,Qi,Qj,Qk,Ql,Qm,Qn,true_and,and_true,Qo,Qp,Qq,Qr,Qs,Qt,Qu,Qv,Qw,Qx,Qy,Qz,Ra,Rb,Rc,Rd,Re,Rf,Rg,Rh,Ri,Rj,Rk,Rl,Rm,Ya,Yb,Yc,Rn,Ro,Xv,Yd,Ye,Rq,Rs,Rt,Ru,Rw,Rx,Ry,hlen,Rq,hlt,hlt2,decide_true,AY Tryz.underlying22 Zl hltn,hld,Zu,Zl,Rz,Wa,Wb,Wc,Wd,We,Wf,Wg,Wh,Wi,Wj,Wl,Wm,Wn,Wp,Wq,Wr,Ws,Wt,Wu,Wv,Ww,Wx,Wy,Wz,Xa,Xb,Xc,Xd,Xe,Xf,Xg,Xh,Xi,Xj,Xk,Xl,Xm,Xn,Xo,Xp,Xq,Xr,ao,au,ap,am,aw,ay,List.getElem?_cons_zero,List.getElem?_cons_succ,aq,az,bA,bB,ak,Nat.reduceAdd,Nat.reduceLT,Nat.reduceLeDiff,decide_true,decide_false,Bool.true_and,Bool.and_true,bC,aj,Option.some.injEq,Xs,Xt,Xu,Xv]
    refine hrop _ fun o s2 ho hcon ho2=>?_
    obtain⟨tag,c1,c2,c3,c5,c6,hoc,d1,d2,d3,d5,d6⟩:=Lh o ho
    have h2:=h.old ho2
    have hlt2':=h2.at_.lt
    have hol:o.cells.length=12:=by rw[hoc];rfl
    have hoa:AX o.cells=true:=by
      rw[hoc]
      simp only[AX,Xl,Xq,d1,d2,d3,d5,d6,Bool.and_self]
    have hbx:∀s3,Bu O1 (ext s2 [R 46 0 false o.cells]) s3→s3.heap.get (nid s2.next 0)=some (R 46 0 false o.cells):=fun s3 hf=>by
      rw[hf.2 _ (by rw[Wm,AF,AF];simp) (fun hm=>by have:=hlt2' _ hm;rw[AF]at this;omega),Wg rfl (by simp)];rfl
    have hdo:=fun K hK=>YF (K:=K) hE (h2.old (AQ (os:=[R 46 0 false o.cells]))) (by omega) ho hcon hK
    have hrest:∀ (s3:AD) O3 T3 (b6 b7:AV),RS s3 q T3 O3→Bu O1 (ext s2 [R 46 0 false o.cells]) s3→AT O1 O3 (ext s2 [R 46 0 false o.cells])→T3.length≤T1.length+4 →
        ∃vo2 s4,BC Tryz.prog (newObj s3 (R 46 12 false o.cells)) [36,36] [vo,.slice (some (s3.next,0)) 1 (some 1)]=some (vo2,s4) ∧
          WC E none W (Ag 0 Q) [.slice (some (j,qq)) l.length cap,a1,a2,.ptr (some (q,0)),vo2,iv ((ops.length:Int)+1),b6,b7] marks s4:=by
      intro s3 O3 T3 b6 b7 g1 g2 g3 g4
      have hB1:=h6.lt
      have hn12:s1.next≤s2.next:=ho2.1
      have hn23:s2.next+1≤s3.next:=by have:=g2.1;rw[Wm,AF]at this;exact this
      have hBO:∀x∈OB,x ∉ O3:=fun x hx hm=>(g3 x hm).elim (h7 x hx).2 (fun hl=>by have:=hB1 x hx;rw[Wm,AF]at hl;simp at hl;omega)
      have hsame13:∀x,x<s1.next→x ∉ O1→s3.heap.get x=s1.heap.get x:=fun x hx hxO=>by
        rw[g2.2 x (by rw[Wm,AF];omega) hxO,Wh (by omega),ho2.2 x hx]
      have hbuf':=h6.frame (s':=s3) (by omega) fun x hx=>hsame13 x (hB1 x hx) (h7 x hx).2
      have hnx:(ext s3 [R 46 12 false o.cells]).next=s3.next+1:=by rw[Wm,AF];rfl
      have hsrc:CT Tryz.prog (ext s3 [R 46 12 false o.cells]) 46 12 (.slice (some (nid s3.next 0,0)) 1 (some 1))=some (1,o.cells):=by
        show(JC _ (nid s3.next 0) 0 1 12).bind _=_
        rw[G5 (l:=o.cells) (by rw[FE,Wg rfl (by simp)];show BB (some (R 46 12 false o.cells)) _ _=_;rw[Wj (by rw[hol];exact aj _),aq,bY (by rw[hol];exact aj _)])]
        rfl
      have hbuf2:=hbuf'.frame (s':=ext s3 [R 46 12 false o.cells]) (by rw[hnx];omega) fun x hx=>Wh (hbuf'.lt x hx)
      obtain⟨v2,s4,OB2,happ,hb2,hn2,hf2,hO2,_⟩:=hbuf2.append (xt:=36) (m:=1) Tryz.underlying36 FQ Zx (by omega) YQ Zm (by omega) hsrc (by rw[hol]) hoa (by omega) (by omega)
      rw[hnx]at hn2 hf2 hO2
      have hne:newObj s3 (R 46 12 false o.cells)=ext s3 [R 46 12 false o.cells]:=by
        have:=Wl s3 [] (R 46 12 false o.cells)
        rw[Aa]at this;exact this
      rw[← hne,Ew]at happ
      have hsame:∀x,x<s3.next→x ∉ OB→s4.heap.get x=s3.heap.get x:=fun x hx hB=>by rw[hf2 x (by omega) hB,Wh (by omega)]
      have hlt3:=g1.at_.lt
      have hrs:RS s4 q T3 O3:=⟨g1.at_.frame (by rw[hn2];omega) (fun x hx=>hsame x (hlt3 x hx) fun hm=>hBO x hm hx),⟨by rw[BP (hsame 1 g1.gl.2.1 fun hm=>by have:=(h7 1 hm).1;omega)];exact g1.gl.1,by rw[hn2];have:=g1.gl.2.1;omega,g1.gl.2.2⟩,g1.kl⟩
      refine⟨v2,s4,happ,?_⟩
      have h41:=h4.1
      have:=ih (ops++[o]) s4 O3 T3 OB2 v2 b6 b7 (by simp;omega) (fun x hx=>?_) hrs (fun x hx=>?_) ⟨by rw[hn2];omega,fun x hx=>?_⟩ (by simp;omega) (by rw[bV,show(ops++[o]).flatMap FN.cells=ops.flatMap FN.cells++o.cells from by simp];exact hb2) (fun x hx=>?_)
      · rw [hW]
        rw[show((ops++[o]).length:Int)=(ops.length:Int)+1 from by simp]at this
        exact this
      · rcases List.mem_append.1 hx with hx | hx
        · exact hok x hx
        · rw[List.mem_singleton.1 hx];exact ho
      · exact(g3 x hx).elim (h3 x) (fun hl=>by rw[Wm,AF]at hl;omega)
      · rw[hsame x (by omega) (fun hm=>by have:=(h7 x hm).1;omega),hsame13 x (by omega) (fun hm=>by have:=h3 x hm;omega),h4.2 x hx]
      · rcases hO2 x hx with hx | hx
        · exact⟨(h7 x hx).1,hBO x hx⟩
        · exact⟨by omega,fun hm=>by have:=hlt3 x hm;omega⟩
    rw[hoc]at hdo hbx hrest ⊢
    generalize hs2:s2.next=b2 at hbx
    have hs20:s2=ext s2 []:=(Aa s2).symm
    rw[hs20]
    simp only[UX,Qa,Qb,Qc,Qd,Qe,Qf,Qg,Qh,Qi,Qj,Qk,Ql,Qm,Qn,true_and,and_true,Qo,Qp,Qq,Qr,Qs,Qt,Qu,Qv,Qw,Qx,Qy,Qz,Ra,Rb,Rc,Rd,Re,Rf,Rg,Rh,Ri,Rj,Rk,Rl,Rm,Ya,Yb,Yc,Rn,Ro,Xv,Yd,Ye,Rq,Rs,Rt,Ru,Rw,Rx,Ry,hs2,Zo,F5,FQ,d1,d2,d3,d5,d6,Rz,Wa,Wb,Wc,Wd,We,Wf,Wg,Wh,Wi,Wj,Wl,Wm,Wn,Wp,Wq,Wr,Ws,Wt,Wu,Wv,Ww,Wx,Wy,Wz,Xa,Xb,Xc,Xd,Xe,Xf,Xg,Xh,Xi,Xj,Xk,Xl,Xm,Xn,Xo,Xp,Xq,Xr,ao,au,ap,am,aw,ay,List.getElem?_cons_zero,List.getElem?_cons_succ,aq,az,bA,bB,ak,Nat.reduceAdd,Nat.reduceLT,Nat.reduceLeDiff,decide_true,decide_false,Bool.true_and,Bool.and_true,bC,aj,Option.some.injEq,Xs,Xt,Xu,Xv]
    refine hdo _ fun i s3 O3 T3 g1 g2 g3 g4 g5 g6=>?_
    have gb:=hbx s3 g2
    obtain⟨vo2,s4,e1,e2⟩:=hrest s3 O3 T3 (.ptr (some (nid b2 0,0))) (.bool true) g1 g2 g3 g5
    simp only[Qa,Qb,Qc,Qd,Qe,Qf,Qg,Qh,Qi,Qj,Qk,Ql,Qm,Qn,true_and,and_true,Qo,Qp,Qq,Qr,Qs,Qt,Qu,Qv,Qw,Qx,Qy,Qz,Ra,Rb,Rc,Rd,Re,Rf,Rg,Rh,Ri,Rj,Rk,Rl,Rm,Ya,Yb,Yc,Rn,Ro,Xv,Yd,Ye,Rq,Rs,Rt,Ru,Rw,Rx,Ry,UY,UZ,gb,F5,FQ,YI,e1,BI _ _ _ _ hadd,Rz,Wa,Wb,Wc,Wd,We,Wf,Wg,Wh,Wi,Wj,Wl,Wm,Wn,Wp,Wq,Wr,Ws,Wt,Wu,Wv,Ww,Wx,Wy,Wz,Xa,Xb,Xc,Xd,Xe,Xf,Xg,Xh,Xi,Xj,Xk,Xl,Xm,Xn,Xo,Xp,Xq,Xr,ao,au,ap,am,aw,ay,List.getElem?_cons_zero,List.getElem?_cons_succ,aq,az,bA,bB,ak,Nat.reduceAdd,Nat.reduceLT,Nat.reduceLeDiff,decide_true,decide_false,Bool.true_and,Bool.and_true,bC,aj,Option.some.injEq,Xs,Xt,Xu,Xv]
    exact e2
def Ec:Ac:=R 80 0 false [.slice none 0 (some 0)]
theorem OS:AR Tryz.prog 80 (zipIdx [] [])=some (.agg [.slice none 0 (some 0)]):=by kernel_rfl
set_option maxRecDepth 20000 in
theorem ST{E:Be}(hE:Ah E){s:AD}(hg:Cc s 1 A6=true)(h1:1<s.next){v:AV}{l:List I4}(hv:Ch s v l)(hu:∀m∈l,I4.ok m){K:AV→AD→Prop}
  (hK:∀ (q:Nat) (vo:AV) s' (ops:List FN) OB,(∀o∈ops,o.ok)→ops.length≤40→BK s.next s s'→E8 46 12 s' vo ops.length (ops.flatMap FN.cells) OB→(∀j∈OB,s.next≤j)→K (.tuple [.ptr (some (q,0)),vo]) s'):
  WF E 16 [v] K s:=by
 refine hE.go W6 (by decide) rfl ?_
 generalize hs:s.next=b
 have hs0:s=ext s []:=(Aa s).symm
 have hnx:(ext s [Ec]).next=b+1:=by rw[Wm,hs,AF];rfl
 have hq:(ext s [Ec]).heap.get (nid b 0)=some Ec:=by rw[Wg hs (by simp)];rfl
 have hrs:RS (ext s [Ec]) (nid b 0) [] [nid b 0]:=by
  refine⟨⟨⟨.slice none 0 (some 0),[],hq,E8.nil _ _ _,fun t ht=>absurd ht (by simp),fun j hj=>hj,(by simp)⟩,fun i t h=>absurd h (by simp),fun j hj=>?_⟩,⟨by rw[BP (Wh h1)];exact hg,by rw[hnx];omega,fun hm=>?_⟩,fun t ht=>absurd ht (by simp)⟩
  ·rw[List.mem_singleton.1 hj,hnx,AF];omega
  ·have:=List.mem_singleton.1 hm
   rw[AF]at this;omega
 rw[hs0]
 simp only[aF,US,UT,UU,UV,Qa,Qb,Qc,Qd,Qe,Qf,Qg,Qh,Qi,Qj,Qk,Ql,Qm,Qn,true_and,and_true,Qo,Qp,Qq,Qr,Qs,Qt,Qu,Qv,Qw,Qx,Qy,Qz,Ra,Rb,Rc,Rd,Re,Rf,Rg,Rh,Ri,Rj,Rk,Rl,Rm,Ya,Yb,Yc,Rn,Ro,Xv,Yd,Ye,Rq,Rs,Rt,Ru,Rw,Rx,Ry,hs,OS,Rz,Wa,Wb,Wc,Wd,We,Wf,Wg,Wh,Wi,Wj,Wl,Wm,Wn,Wp,Wq,Wr,Ws,Wt,Wu,Wv,Ww,Wx,Wy,Wz,Xa,Xb,Xc,Xd,Xe,Xf,Xg,Xh,Xi,Xj,Xk,Xl,Xm,Xn,Xo,Xp,Xq,Xr,ao,au,ap,am,aw,ay,List.getElem?_cons_zero,List.getElem?_cons_succ,aq,az,bA,bB,ak,Nat.reduceAdd,Nat.reduceLT,Nat.reduceLeDiff,decide_true,decide_false,Bool.true_and,Bool.and_true,bC,aj,Option.some.injEq,Xs,Xt,Xu,Xv]
 refine Ow hE h1 hv hu _ _ (q:=nid b 0) (fun y6 y7 vo s' O' T' ops OB e1 e2 e3 e4 e5 e6=>?_) (min l.length 40) [] (ext s [Ec]) [nid b 0] [] [] _ _ _ (by simp) (fun o ho=>by cases ho) hrs (fun j hj=>?_) AQ (bL _) (E8.nil _ _ _) (fun j hj=>by cases hj)
 ·simp only[Qa,Qb,Qc,Qd,Qe,Qf,Qg,Qh,Qi,Qj,Qk,Ql,Qm,Qn,true_and,and_true,Qo,Qp,Qq,Qr,Qs,Qt,Qu,Qv,Qw,Qx,Qy,Qz,Ra,Rb,Rc,Rd,Re,Rf,Rg,Rh,Ri,Rj,Rk,Rl,Rm,Ya,Yb,Yc,Rn,Ro,Xv,Yd,Ye,Rq,Rs,Rt,Ru,Rw,Rx,Ry]
  rw[if_pos trivial]
  simp only[Pz,Qa,Qb,Qc,Qd,Qe,Qf,Qg,Qh,Qi,Qj,Qk,Ql,Qm,Qn,true_and,and_true,Qo,Qp,Qq,Qr,Qs,Qt,Qu,Qv,Qw,Qx,Qy,Qz,Ra,Rb,Rc,Rd,Re,Rf,Rg,Rh,Ri,Rj,Rk,Rl,Rm,Ya,Yb,Yc,Rn,Ro,Xv,Yd,Ye,Rq,Rs,Rt,Ru,Rw,Rx,Ry]
  exact hK _ vo s' ops OB e1 e2 (hs▸e4) e5 (hs▸e6)
 ·rw[List.mem_singleton.1 hj,hs,AF];omega
theorem SI:∀ {ops:List FN},(∀o∈ops,o.ok)→∀ {i:Nat}{o:FN},ops[i]? = some o→((ops.flatMap FN.cells).drop (i * 12)).take 12=o.cells∧i * 12+12≤(ops.flatMap FN.cells).length
 | [],_,i,t,h=>by simp at h
 | u::T,hT,i,t,h=>by
  have hl:u.cells.length=12:=by obtain⟨_,_,_,_,_,_,e,_⟩:=Lh u (hT u bH);rw[e];rfl
  have he:(u::T).flatMap FN.cells=u.cells++T.flatMap FN.cells:=rfl
  rw[he]
  cases i with
  | zero =>
   simp at h
   subst h
   rw[Nat.zero_mul,aq,cC (by omega),bY (by omega)]
   exact⟨rfl,by simp;omega⟩
  | succ i =>
   obtain⟨h1,h2⟩:=SI (fun x hx=>hT x (bI _ hx)) (i:=i) (o:=t) (by simpa using h)
   rw[show(i+1) * 12=u.cells.length+i * 12 from by omega,List.drop_append,List.drop_of_length_le (show u.cells.length≤u.cells.length+i * 12 by omega),am,show u.cells.length+i * 12 - u.cells.length=i * 12 from by omega]
   exact⟨h1,by rw[bV];omega⟩
theorem HK{S:List Tm}{u t:Tm}(h:t∈push S u):t∈S∨t=u:=by
 unfold push at h
 split at h
 ·exact .inl h
 ·exact(List.mem_append.1 h).imp id List.mem_singleton.1
structure JE(S:List Tm)(k:Nat):Prop where
 len:S.length≤2 * k
 var:∀i,Tm.var i∈S→-1000≤i∧i≤900
 bnd:∀i,Tm.bnd i∈S→i≤1000
theorem Nl{S:List Tm}{o:FN}{t:Tm}(h:t∈WH S o):t∈S∨t=Al∨t=Xx S o:=by
  have hR:∀t∈YU S o,t∈S∨t=Al:=fun t ht=>by
    have key:∀l,t∈DZ S.length S l→t∈S∨t=Al:=fun l hl=>by
      rcases Fw (n:=S.length) (S:=S) l with e | e<;>rw[e]at hl
      · exact .inl hl
      · exact HK hl
    unfold YU at ht
    split at ht
    · exact key _ ht
    · split at ht
      · exact key _ ht
      · exact .inl ht
  rcases HK h with h | h
  · exact(hR t h).imp id .inl
  · exact .inr (.inr h)
theorem TZ{S:List Tm}{o:FN}:(WH S o).length≤S.length+2:=by
  have h1:=CR (S:=YU S o) (u:=Xx S o)
  have h2:(YU S o).length≤S.length+1:=by
    unfold YU
    split
    · exact Kp
    · split
      · exact Kp
      · omega
  unfold WH
  omega
theorem JE.step    {S : List Tm} {k : Nat} (h : JE    S k) {o : FN}  (ho : o.ok) : JE    (WH  S o) (k + 1) where
  len:=by have:=h.len;have:=TZ (S:=S) (o:=o);omega
  var:=fun i hi=>by
    rcases Nl hi with hi | hi | hi
    · exact h.var i hi
    · cases hi
    · unfold Xx at hi
      split at hi
      · injection hi with hi;rw[hi];exact ho.2.2
      · split at hi
        · cases hi
        · split at hi
          · cases hi
          · split at hi<;>cases hi
  bnd:=fun i hi=>by
    rcases Nl hi with hi | hi | hi
    · exact h.bnd i hi
    · cases hi
    · unfold Xx at hi
      split at hi
      · cases hi
      · split at hi
        · injection hi with hi;have:=ho.2.2;omega
        · split at hi
          · cases hi
          · split at hi<;>cases hi
set_option maxRecDepth 20000 in
theorem LU{E:Be}(hE:Ah E){s:AD}{p:Nat}{ops:List FN}(hops:∀o∈ops,o.ok)(hl40:ops.length≤40){vo:AV}{OB:List Nat}(hb:E8 46 12 s vo ops.length (ops.flatMap FN.cells) OB)(a0 a1:AV){Q:Aw→Prop}{marks:List Nat}
  (hend:∀ (y5:AV) s' S' O',AS s' p S' O'→CA s' O'→JE S' 40→BK s.next s s'→(∀j∈O',s.next≤j)→Ag 0 Q ⟨.exit 0,[a0,a1,vo,.ptr (some (p,0)),iv (ops.length:Int),y5],marks,s'⟩):
  ∀ (d k:Nat) s1 S O (a5:AV),d+k=ops.length→AS s1 p S O→CA s1 O→JE S k→BK s.next s s1→(∀j∈O,s.next≤j) →
   WC E none (AZ.loop Q5) (Ag 0 Q) [a0,a1,vo,.ptr (some (p,0)),iv (k:Int),a5] marks s1:=by
 intro d
 induction d with
 | zero =>
  intro k s1 S O a5 hd h hg hD ho hO
  have hk:k=ops.length:=by omega
  subst hk
  obtain⟨a,c,rfl,_⟩:=hb.slice
  refine WC.loop' ?_
  have hlt:¬ ((ops.length:Int)<(ops.length:Int)):=by omega
  simp only[Q5,WZ,Qa,Qb,Qc,Qd,Qe,Qf,Qg,Qh,Qi,Qj,Qk,Ql,Qm,Qn,true_and,and_true,Qo,Qp,Qq,Qr,Qs,Qt,Qu,Qv,Qw,Qx,Qy,Qz,Ra,Rb,Rc,Rd,Re,Rf,Rg,Rh,Ri,Rj,Rk,Rl,Rm,Ya,Yb,Yc,Rn,Ro,Xv,Yd,Ye,Rq,Rs,Rt,Ru,Rw,Rx,Ry,Ad Tryz.underlying36,Rq,hlt,decide_false]
  exact hend _ s1 S O h hg ⟨by have:=hD.len;omega,hD.var,hD.bnd⟩ ho hO
 | succ d ih =>
  intro k s1 S O a5 hd h hg hD ho hO
  have hkl:k<ops.length:=by omega
  obtain⟨o,hko⟩:∃o,ops[k]? = some o:=⟨_,bD hkl⟩
  have hok:=hops o (bO hko)
  have hlt:(k:Int)<(ops.length:Int):=by omega
  have hadd:i64 ((k:Int)+1):=by unfold i64;omega
  obtain⟨hat,hle⟩:=SI hops hko
  have hblt:=hb.lt
  rcases hb.row with⟨_,hz,_⟩ | ⟨j,r,rfl,hjO,hjr,hh⟩
  ·omega
  have hln:BB (s1.heap.get j) (k * 12) 12=some o.cells:=by rw[ho.2 j (hblt j hjO),hjr,FD hh hle,hat]
  have hlen:=hD.len
  have hdo:=fun K hK=>ZW (K:=K) hE h hg (by omega) hok hK
  refine WC.loop' ?_
  obtain⟨W,hW⟩:∃W,W=AZ.loop Q5:=⟨_,rfl⟩
  rw[← hW]
  simp only[Q5,WZ,ZK,Qa,Qb,Qc,Qd,Qe,Qf,Qg,Qh,Qi,Qj,Qk,Ql,Qm,Qn,true_and,and_true,Qo,Qp,Qq,Qr,Qs,Qt,Qu,Qv,Qw,Qx,Qy,Qz,Ra,Rb,Rc,Rd,Re,Rf,Rg,Rh,Ri,Rj,Rk,Rl,Rm,Ya,Yb,Yc,Rn,Ro,Xv,Yd,Ye,Rq,Rs,Rt,Ru,Rw,Rx,Ry,Ad Tryz.underlying36,Rq,hlt,decide_true,AY Tryz.underlying36 FQ hkl,F5,FQ,hln,Rz,Wa,Wb,Wc,Wd,We,Wf,Wg,Wh,Wi,Wj,Wl,Wm,Wn,Wp,Wq,Wr,Ws,Wt,Wu,Wv,Ww,Wx,Wy,Wz,Xa,Xb,Xc,Xd,Xe,Xf,Xg,Xh,Xi,Xj,Xk,Xl,Xm,Xn,Xo,Xp,Xq,Xr,ao,au,ap,am,aw,ay,List.getElem?_cons_zero,List.getElem?_cons_succ,aq,az,bA,bB,ak,Nat.reduceAdd,Nat.reduceLT,Nat.reduceLeDiff,decide_true,decide_false,Bool.true_and,Bool.and_true,bC,aj,Option.some.injEq,Xs,Xt,Xu,Xv]
  refine hdo _ fun s2 O2 g1 g2 g3 g4=>?_
  have hso:=ho.1
  have:=ih (k+1) s2 _ O2 (.bool true) (by omega) g1 g2 (hD.step hok) ⟨bM ho.1 g3.1,fun x hx=>?_⟩ (fun x hx=>(g4 x hx).elim (hO x) (fun hl=>by omega))
  ·rw[← hW,show((k+1:Nat):Int)=(k:Int)+1 from by omega]at this
   simp only[Qa,Qb,Qc,Qd,Qe,Qf,Qg,Qh,Qi,Qj,Qk,Ql,Qm,Qn,true_and,and_true,Qo,Qp,Qq,Qr,Qs,Qt,Qu,Qv,Qw,Qx,Qy,Qz,Ra,Rb,Rc,Rd,Re,Rf,Rg,Rh,Ri,Rj,Rk,Rl,Rm,Ya,Yb,Yc,Rn,Ro,Xv,Yd,Ye,Rq,Rs,Rt,Ru,Rw,Rx,Ry,ZL,BI _ _ _ _ hadd]
   exact this
  ·rw[g3.2 x (by omega) (fun hm=>by have:=hO x hm;omega),ho.2 x hx]
set_option maxRecDepth 20000 in
theorem Ov{E:Be}(hE:Ah E){s:AD}(hg:Cc s 1 A6=true)(h1:1<s.next){v:AV}{l:List I4}(hv:Ch s v l)(hu:∀m∈l,I4.ok m){K:AV→AD→Prop}
  (hK:∀ (p:Nat) s' S O,AS s' p S O→CA s' O→JE S 40→BK s.next s s'→(∀j∈O,s.next≤j)→K (.ptr (some (p,0))) s'):
  WF E 8 [v] K s:=by
 refine hE.go ZT (by decide) rfl ?_
 simp only[c8,ZG,ZH,Qa,Qb,Qc,Qd,Qe,Qf,Qg,Qh,Qi,Qj,Qk,Ql,Qm,Qn,true_and,and_true,Qo,Qp,Qq,Qr,Qs,Qt,Qu,Qv,Qw,Qx,Qy,Qz,Ra,Rb,Rc,Rd,Re,Rf,Rg,Rh,Ri,Rj,Rk,Rl,Rm,Ya,Yb,Yc,Rn,Ro,Xv,Yd,Ye,Rq,Rs,Rt,Ru,Rw,Rx,Ry]
 refine ST hE hg h1 hv hu fun q vo s1 ops OB e1 e2 e3 e4 e5=>?_
 simp only[Qa,Qb,Qc,Qd,Qe,Qf,Qg,Qh,Qi,Qj,Qk,Ql,Qm,Qn,true_and,and_true,Qo,Qp,Qq,Qr,Qs,Qt,Qu,Qv,Qw,Qx,Qy,Qz,Ra,Rb,Rc,Rd,Re,Rf,Rg,Rh,Ri,Rj,Rk,Rl,Rm,Ya,Yb,Yc,Rn,Ro,Xv,Yd,Ye,Rq,Rs,Rt,Ru,Rw,Rx,Ry,ZI,ZJ,Rz,Wa,Wb,Wc,Wd,We,Wf,Wg,Wh,Wi,Wj,Wl,Wm,Wn,Wp,Wq,Wr,Ws,Wt,Wu,Wv,Ww,Wx,Wy,Wz,Xa,Xb,Xc,Xd,Xe,Xf,Xg,Xh,Xi,Xj,Xk,Xl,Xm,Xn,Xo,Xp,Xq,Xr,ao,au,ap,am,aw,ay,List.getElem?_cons_zero,List.getElem?_cons_succ,aq,az,bA,bB,ak,Nat.reduceAdd,Nat.reduceLT,Nat.reduceLeDiff,decide_true,decide_false,Bool.true_and,Bool.and_true,bC,aj,Option.some.injEq,Xs,Xt,Xu,Xv]
 refine YB hE (by rw[BP (e3.2 1 h1)];exact hg) (bG h1 e3.1) fun p s2 O g1 g2 g3 g4=>?_
 simp only[Qa,Qb,Qc,Qd,Qe,Qf,Qg,Qh,Qi,Qj,Qk,Ql,Qm,Qn,true_and,and_true,Qo,Qp,Qq,Qr,Qs,Qt,Qu,Qv,Qw,Qx,Qy,Qz,Ra,Rb,Rc,Rd,Re,Rf,Rg,Rh,Ri,Rj,Rk,Rl,Rm,Ya,Yb,Yc,Rn,Ro,Xv,Yd,Ye,Rq,Rs,Rt,Ru,Rw,Rx,Ry,Rz,Wa,Wb,Wc,Wd,We,Wf,Wg,Wh,Wi,Wj,Wl,Wm,Wn,Wp,Wq,Wr,Ws,Wt,Wu,Wv,Ww,Wx,Wy,Wz,Xa,Xb,Xc,Xd,Xe,Xf,Xg,Xh,Xi,Xj,Xk,Xl,Xm,Xn,Xo,Xp,Xq,Xr,ao,au,ap,am,aw,ay,List.getElem?_cons_zero,List.getElem?_cons_succ,aq,az,bA,bB,ak,Nat.reduceAdd,Nat.reduceLT,Nat.reduceLeDiff,decide_true,decide_false,Bool.true_and,Bool.and_true,bC,aj,Option.some.injEq,Xs,Xt,Xu,Xv]
 refine LU hE (s:=s1) e1 e2 e4 _ _ (fun y5 s' S' O' k1 k2 k3 k4 k5=>?_) ops.length 0 s2 [] O _ (by omega) g2 g3 ⟨bL _,fun i hi=>absurd hi (by simp),fun i hi=>absurd hi (by simp)⟩ g1 g4
 simp only[Qa,Qb,Qc,Qd,Qe,Qf,Qg,Qh,Qi,Qj,Qk,Ql,Qm,Qn,true_and,and_true,Qo,Qp,Qq,Qr,Qs,Qt,Qu,Qv,Qw,Qx,Qy,Qz,Ra,Rb,Rc,Rd,Re,Rf,Rg,Rh,Ri,Rj,Rk,Rl,Rm,Ya,Yb,Yc,Rn,Ro,Xv,Yd,Ye,Rq,Rs,Rt,Ru,Rw,Rx,Ry]
 rw[if_pos trivial]
 simp only[ZM,Qa,Qb,Qc,Qd,Qe,Qf,Qg,Qh,Qi,Qj,Qk,Ql,Qm,Qn,true_and,and_true,Qo,Qp,Qq,Qr,Qs,Qt,Qu,Qv,Qw,Qx,Qy,Qz,Ra,Rb,Rc,Rd,Re,Rf,Rg,Rh,Ri,Rj,Rk,Rl,Rm,Ya,Yb,Yc,Rn,Ro,Xv,Yd,Ye,Rq,Rs,Rt,Ru,Rw,Rx,Ry]
 exact hK p s' S' O' k1 k2 k3 (e3.trans (k4.mono e3.1)) fun j hj=>bM e3.1 (k5 j hj)
theorem I0.kidS{S:List Tm}(h:I0 S):∀t∈S,∀k∈t.kids,k∈S:=fun t ht k hk=>by
 obtain⟨j,_,hj⟩:=h.cl _ _ (Cr ht) k hk
 exact bO hj
theorem De{f:Tm→Option Tm}{d k:Tm}(h:f (.sel d k)=none):BM f (.sel d k)=.sel (BM f d) (BM f k):=by
 rw[BM,h]
theorem Df{f:Tm→Option Tm}{d k a:Tm}(h:f (.upd d k a)=none):BM f (.upd d k a)=.upd (BM f d) (BM f k) (BM f a):=by
 rw[BM,h]
theorem LX{f:Tm→Option Tm}{L:List Tm}(hk:∀t∈L,∀k∈t.kids,k∈L)(hf:∀t∈L,∀u,f t=some u→u.kids=[]):∀t∈L.map (BM f),∀k∈t.kids,k∈L.map (BM f):=fun t ht k hkt=>by
 obtain⟨u,hu,rfl⟩:=List.mem_map.1 ht
 cases h:f u with
 | some w=>rw[H9 h,hf u hu w h]at hkt;cases hkt
 | none =>
  rw[(K9 h).1]at hkt
  obtain⟨w,hw,rfl⟩:=List.mem_map.1 hkt
  exact List.mem_map.2 ⟨w,hk u hu w hw,rfl⟩
def F3(S:List Tm)(x:Int)(u:Tm):Prop:=I1 S.length x=true∧As S x=u
theorem Nt{n:Nat}{x:Int}:I1 n x=true↔0≤x∧x<(n:Int):=by
 unfold I1;simp
theorem L6{S:List Tm}{k:Nat}{u:Tm}(h:S[k]? = some u):F3 S (k:Int) u:=by
 have hl:k<S.length:=by
  rcases bE k S.length with h' | h'
  ·exact h'
  ·rw[bJ h']at h;cases h
 have hr:I1 S.length (k:Int)=true:=Nt.2 (by omega)
 refine⟨hr,?_⟩
 unfold As
 rw[if_pos hr,cB,Int.toNat_natCast,h];rfl
theorem F3.at{S:List Tm}{x:Int}{u:Tm}(h:F3 S x u):∃k:Nat,x=(k:Int)∧S[k]? = some u:=by
 obtain⟨h1,h2⟩:=h
 obtain⟨h3,h4⟩:=Nt.1 h1
 refine⟨x.toNat,by omega,?_⟩
 unfold As at h2
 rw[if_pos h1,cB]at h2
 have hl:x.toNat<S.length:=by omega
 rw[bD hl]at h2 ⊢
 rw[← h2];rfl
theorem F3.ext{S S':List Tm}{x:Int}{u:Tm}(h:F3 S x u)(k:∃y,S'=S++y):F3 S' x u:=by
 obtain⟨n,rfl,hn⟩:=h.at
 obtain⟨y,rfl⟩:=k
 refine L6 ?_
 have hl:n<S.length:=by
  rcases bE n S.length with h' | h'
  ·exact h'
  ·rw[bJ h']at hn;cases hn
 rw[bP hl];exact hn
theorem F3.mem{S:List Tm}{x:Int}{u:Tm}(h:F3 S x u):u∈S:=by
 have:=(FK h.1).1
 rw[h.2]at this;exact this
theorem F3.of{S:List Tm}{u:Tm}(h:u∈S):F3 S (ix S u:Int) u:=⟨(OH h).2,(OH h).1⟩
theorem F3.ix{S:List Tm}{x:Int}{u:Tm}(h:F3 S x u)(hn:S.Nodup):(ix S u:Int)=x:=by
 have:=(FK h.1).2 hn
 rw[h.2]at this;exact this
theorem F3.inj{S:List Tm}{x y:Int}{u:Tm}(h:F3 S x u)(k:F3 S y u)(hn:S.Nodup):x=y:=by rw[← h.ix hn,k.ix hn]
theorem F3.eq{S:List Tm}{x:Int}{u w:Tm}(h:F3 S x u)(k:F3 S x w):u=w:=by rw[← h.2,k.2]
structure TW(S0:List Tm)(p:Nat)(s:AD)(S:List Tm)(O:List Nat)(m:Nat):Prop where
 st:AS s p S O
 gl:CA s O
 pre:∃x,S=S0++x
 len:S.length≤200+82 * m
section
variable{E:Be}(hE:Ah E){S0:List Tm}{p:Nat}{s:AD}{S:List Tm}{O:List Nat}{m:Nat}(h:TW S0 p s S O m)(hm:m≤900)
include h
theorem TW.old{s':AD}(k:BK s.next s s'):TW S0 p s' S O m:=⟨h.st.old k,h.gl.old k,h.pre,h.len⟩
theorem TW.nd:S.Nodup:=h.st.ok.nd
include hE
theorem OJ{ti:Int}{u:Tm}(hn:F3 S ti u){K:AV→AD→Prop}(hK:∀s',BK s.next s s'→K (iv (u.sz:Int)) s'):WF E 15 [.ptr (some (p,0)),iv ti] K s:=by
 rw[← hn.ix h.nd]
 exact Tx hE h.st hn.mem hK
theorem L7{ti:Int}{u:Tm}(hn:F3 S ti u){K:AV→AD→Prop}(hK:∀v l s',BK s.next s s'→Dm u l→Bh s' O v l→K v s'):WF E 13 [.ptr (some (p,0)),iv ti] K s:=by
 rw[← hn.ix h.nd]
 refine T9 hE h.st hn.mem fun v l s' h1 h2 h3 h4=>hK v l s' h1 h2 ?_
 rcases h3 with⟨rfl,rfl⟩ | ⟨j,q,cap,rfl,h5,h6⟩
 ·exact Bh.nil _ _
 ·have hj:=h4 j rfl
  cases hg:s'.heap.get j with
  | none=>rw[hg]at h6;cases h6
  | some ob=>rw[hg]at h6;exact Bh.of hg h5 (fun hm=>by have:=h.st.lt j hm;omega) h6
include hm
theorem YN{i:Int}(hi:i64 i){K:AV→AD→Prop}(hK:∀s' S' O' r,TW S0 p s' S' O' (m+1)→Bu O s s'→AT O O' s→(∃x,S'=S++x)→F3 S' r (.var i)→K (iv r) s'):WF E 11 [.ptr (some (p,0)),iv i] K s:=by
 have hl:=h.len
 refine OI hE h.st (by omega) hi fun s' O' h1 h2 h3=>?_
 have h4:=CR (S:=S) (u:=.var i)
 exact hK s' _ O' _ ⟨h1,h.gl.step h2 h3,Ce h.pre D4,by omega⟩ h2 h3 D4 (F3.of DR)
theorem Sv{n:Nat}(hn:n<13){K:AV→AD→Prop}(hK:∀s' S' O' r,TW S0 p s' S' O' (m+1)→Bu O s s'→AT O O' s→(∃x,S'=S++x)→F3 S' r (.con n)→K (iv r) s'):WF E 22 [.ptr (some (p,0)),.agg (Tm.con n).cells] K s:=by
 have hl:=h.len
 refine Ko hE h.st (by omega) hn h.gl fun s' O' h1 h2 h3=>?_
 have h4:=CR (S:=S) (u:=.con n)
 exact hK s' _ O' _ ⟨h1,h.gl.step h2 h3,Ce h.pre D4,by omega⟩ h2 h3 D4 (F3.of DR)
variable{L:List Tm}(hLl:L.length≤81)(hLk:∀t∈L,∀k∈t.kids,k∈L){ti:Int}{u:Tm}(hn:F3 S ti u)(hu:u∈L)
include hLl hLk hn hu
theorem G8{id bi:Int}{w:Tm}(hw:F3 S bi w){K:AV→AD→Prop}
  (hK:∀s' S' O' r,TW S0 p s' S' O' (m+1)→Bu O s s'→AT O O' s→(∃x,S'=S++x)→F3 S' r (BM (CJ id w) u)→K (iv r) s'):WF E 27 [.ptr (some (p,0)),iv ti,iv id,iv bi] K s:=by
 have hlen:=h.len
 refine L4 hE h.st h.gl (L:=L) (by omega) hLk (by rw[hn.2];exact hu) fun s' S' O' h1 h2 h3 h4 h5 h6 h7 _=>?_
 rw[hn.2,hw.2]at h7 ⊢
 rw[St (fun x hx=>by simp only[bT,bm,or_false]at hx;rcases hx with rfl | rfl;exact hn.1;exact hw.1)]at h5
 exact hK s' S' O' _ ⟨h1,h2,Ce h.pre h5,by omega⟩ h3 h4 h5 (F3.of h7)
end
theorem FB{S:List Tm}(h:I0 S){x:Int}:∀t:Tm,t∈S→t.has x=true→Tm.var x∈S
 | .var i,ht,hx=>by
  have:i=x:=by simpa[Tm.has]using hx
  rw[← this];exact ht
 | .bnd i,_,hx=>by cases hx
 | .con n,_,hx=>by cases hx
 | .sel d k,ht,hx=>by
  simp only[Tm.has,Bool.or_eq_true]at hx
  rcases hx with hx | hx
  ·exact FB h d (h.kidS _ ht d (by simp[Tm.kids])) hx
  ·exact FB h k (h.kidS _ ht k (by simp[Tm.kids])) hx
 | .upd d k a,ht,hx=>by
  simp only[Tm.has,Bool.or_eq_true]at hx
  rcases hx with(hx | hx) | hx
  ·exact FB h d (h.kidS _ ht d (by simp[Tm.kids])) hx
  ·exact FB h k (h.kidS _ ht k (by simp[Tm.kids])) hx
  ·exact FB h a (h.kidS _ ht a (by simp[Tm.kids])) hx
theorem Dm.le{S:List Tm}(h:I0 S){t:Tm}(ht:t∈S){l:List Int}(hv:Dm t l):l.length≤S.length:=by
 have h1:(l.map Tm.var).Nodup:=List.pairwise_map.2 (hv.1.imp fun h e=>by injection e with e;omega)
 have h2:=Di h1 (L:=S) fun u hu=>by
  obtain⟨x,hx,rfl⟩:=List.mem_map.1 hu
  exact FB h t ht ((hv.2 x).1 hx)
 rwa[bX]at h2
end
end Go.Proofs.YtickdehehcmfbaaGreatDoor.Am
set_option linter.unusedVariables false
set_option linter.unusedSimpArgs false
set_option maxRecDepth 16000
namespace Go.Proofs.YtickdehehcmfbaaGreatDoor.Am
open Go Go.Proofs
noncomputable section
theorem Ok:Ah ZZ:=by
 refine⟨rfl,fun f xs s hf=>?_,fun f xs s p h=>h⟩
 show Gs f xs s=none
 have hf':∀k∈[44,30,45,127,109,7,55,37],Nat.beq f k=false:=fun k hk=>AI.beq_no fun e=>hf (e▸hk)
 have h1:([44,30,45,127,109,7]:List FuncId).any (Nat.beq f)=false:=by
  rw[List.any_eq_false]
  intro k hk
  rw[hf' k (bq (bs:=[55,37]) hk)]
  exact Bool.false_ne_true
 have h2:Cj f xs s=none:=by
  unfold Cj KZ
  rw[h1];rfl
 have h3:O0 f xs s=none:=by
  unfold O0
  rw[hf' 55 (by simp),hf' 37 (by simp)];rfl
 unfold Gs
 rw[h2,h3]
theorem OY{W:World}{ρ:At}{s:AD}{f:FuncId}{xs:List AV}{args:Array Value}(hd:Ff Tryz.prog W ρ s)(ha:AJ ρ xs args.toList)(h:WF ZZ f xs (fun r _=>r=.bool true) s):
  Calls Tryz.prog f args W fun e W'=>e=.returned (.bool true)∧Jz W W':=by
 obtain⟨n,p,h1,h2⟩:=h
 have:=((ah N2 (IY Lc) rfl Tk n).call ρ s W f xs p.1 p.2 args h1 hd.inv hd.fresh ha).2
 refine callsIn_wide.1 (CallsIn.mono this ?_)
 intro e w' he
 cases e with
 | panicked c=>exact he.elim
 | outgrown=>exact he.elim
 | returned v' =>
  obtain⟨ρ',k1,k2,k3⟩:=he
  rw[h2]at k1
  cases k1
  exact⟨rfl,Tf k3 hd.notOwned⟩
theorem reads_again{H:Type}{enc:TypeId×Value→H}{P:Program}{t:TypeId}(hl:laidOutB P=true)(hr:P.readableRec t=true)(hrow:t<P.types.size){W W':World}{v:Value}{d:DataW H}{ps:List MemPlace}{sp:Nat→Bool}
  (h:DataW.Trod enc P W 0 (fun _=>true) true t v d ps) (hk:Jz W W') (hlt:∀x∈ps,x.block<W.heap.size) (hs:∀x∈ps,sp x.block=true):DataW.Trod enc P W' 0 sp true t v d ps:=
 WideElems.Trod_stays hl hr hrow h (fun x hx=>by
  have:=hlt x hx
  cases x with
  | cell b o=>exact World.cell?_of_block (w:=W) (hk.heap b this)
  | map b=>exact hk.heap b this) hs
theorem TG{t e:TypeId}(ht:Tryz.prog.underlying t=some (.slice e)){W:World}{base:Nat}{v:Value}(h:Value.okWide Tryz.prog W .any base t v){ρ:At}{a:AV}(hr:AJ ρ [a] v.cells.toList):AL ρ a v:=by
 have hv:v.cells.toList=[v]:=by
  cases v with
  | agg cs=>simp[Value.okWide,ht,Cell.okWide,Cell.ok]at h
  | _=>rfl
 rw[hv]at hr
 cases hr with
 | cons h _=>exact h
theorem So{t e:TypeId}(ht:Tryz.prog.underlying t=some (.slice e)){W:World}{base:Nat}{v:Value}(h:Value.okWide Tryz.prog W .any base t v)(a:Addr)(ha:v.cells.toList=[.slice (some a) 0 0]):0<W.heap.size:=by
 have hv:v=.slice (some a) 0 0:=by
  cases v with
  | agg cs =>
   simp[Value.okWide,ht,Cell.okWide,Cell.ok]at h
  | _ =>
   simp[Value.cells]at ha
   try (obtain⟨e1,e2,e3⟩:=ha;rw[e1,e2,e3])
 subst hv
 simp only[Value.okWide,ht,Cell.okWide,Cell.ok]at h
 obtain⟨_,_,_,_,row,cells,hs,_⟩:=h
 unfold World.shape? at hs
 cases hb:W.heap[a.block]? with
 | none=>rw[hb]at hs;cases hs
 | some o =>
  rcases bE a.block W.heap.size with h' | h'
  ·omega
  ·rw[Array.getElem?_eq_none h']at hb;cases hb
def Zh:DataW Unit:=.agg (A6.map fun v=>match v with | .int k n=>.lit (.int k n) | _=>.nil)
theorem F2{P:Program}{w:World}{x:String×DataW Unit}:∀ {laid:List (String×DataW Unit)}{ps:List MemPlace},DataW.LaidVars P w laid ps→x∈laid →
  ∃g t cs fuel p,P.globalNamed x.1=some g∧(P.globals[g]?).map (·.type)=some t∧w.var? P x.1=some cs∧DataW.trod (fun _=>()) P w 0 (fun _=>true) false fuel t cs.toList=some (x.2,p)
 | [],_,_,hx=>by cases hx
 | (n,d)::r,ps,h,hx=>by
  obtain⟨g,t,cs,fuel,p,q,h1,h2,h3,h4,h5,_⟩:=h
  rcases bT.1 hx with rfl | hx
  ·exact⟨g,t,cs,fuel,p,h1,h2,h3,h4⟩
  ·exact F2 h5 hx
theorem ZR:Tryz.prog.cellsOf 143=1:=by kernel_rfl
theorem pow_cells {W : World} {laid : List (String × DataW Unit)} (h : laidMet Tryz.prog laid W) (hm : ("internal/strconv.uint64pow10", Zh)   ∈ laid) :
    1<W.heap.size∧∀k v,A6[k]? = some v→∃v',W.cell? ⟨1,k,none⟩=some v'∧AL PD v v':=by
  obtain⟨ps,h,_⟩:=h
  obtain⟨g,t,cs,fuel,p,hg,ht,hv,hd⟩:=F2 h hm
  obtain rfl := Option.some.inj ((show Tryz.prog.globalNamed "internal/strconv.uint64pow10" = some 1 by kernel_rfl).symm.trans hg)
  obtain rfl:=Option.some.inj ((show(Tryz.prog.globals[1]?).map (·.type)=some 169 by kernel_rfl).symm.trans ht)
  obtain⟨xs,m,_,ex,_,hl,hel⟩:=DataW.trod_array Tryz.underlying169 hd
  have e3:Zh=.agg (xs.map (·.1)):=(Prod.mk.inj ex).1
  have e3:=DataW.agg.inj e3
  have hlen:A6.length=20:=rfl
  have hcell:∀k v,A6[k]? = some v→∃v',W.cell? ⟨1,k,none⟩=some v'∧AL PD v v':=by
    intro k v hk
    have hk20:k<20:=by
      rcases bE k 20 with h' | h'
      · exact h'
      · rw[bJ (by omega)]at hk;cases hk
    have hE:=hel k hk20
    rw[ZR,bR,bD (by omega)]at hE
    obtain⟨z,e1,e2,_⟩:=DataW.trod_int Tryz.underlying143 hE
    have hvz:v=.int .u64 z:=by
      have e4:(A6.map fun v=>match v with | .int k n=>(DataW.lit (.int k n):DataW Unit) | _=>.nil)[k]? = (xs.map (·.1))[k]? := by rw[e3]
      rw[bh,hk,bh,bD (by omega:k<xs.length),e2]at e4
      have hall:∀v∈A6,∃n,v=.int .u64 n:=by
        intro v hv
        simp only[A6,bT,bm,or_false]at hv
        rcases hv with rfl | rfl | rfl | rfl | rfl | rfl | rfl | rfl | rfl | rfl | rfl | rfl | rfl | rfl | rfl | rfl | rfl | rfl | rfl | rfl<;>exact⟨_,rfl⟩
      obtain⟨n,rfl⟩:=hall v (bO hk)
      simp only[bZ,Option.some.injEq,DataW.lit.injEq,Lit.int.injEq,true_and]at e4
      rw[e4]
    subst hvz
    refine⟨.int .u64 z,?_,.int _ _⟩
    rw[World.var?_cell hg hv k]
    have h0:((cs.toList.drop k).take 1)[0]? = some (.int .u64 z):=by rw[e1];rfl
    have:cs.toList[k]? = some (.int .u64 z):=by simpa using h0
    simpa using this
  refine⟨?_,hcell⟩
  obtain⟨v',h1,_⟩:=hcell 0 (.int .u64 1) rfl
  exact Nh h1
section
variable{H:Type}{enc:TypeId×Value→H}{w:World}{held:Bool}
theorem HZ{n:Int}(h:(Lit.int .u8 n).wf=true):0≤n∧n<256:=by
 simp only[Lit.wf,Bool.and_eq_true,decide_eq_true_eq]at h
 have h1:0≤n:=h.1
 have h2:n≤255:=h.2
 omega
theorem Q9:Tryz.prog.cellsOf 5=1:=by kernel_rfl
theorem Q8:Tryz.prog.cellsOf 82=4:=by kernel_rfl
def N3(_:AD)(us:List AV)(m:I4):Prop:=us=m.cells∧m.ok
theorem O9(s s':AD)(us:List AV)(m:I4)(h:N3 s us m)(_:BK s.next s s'):N3 s' us m:=h
theorem MZ(n:Nat)(cs:List Value)(y:DataW H×List MemPlace)(h:DataW.trod enc Tryz.prog w 0 (fun _=>true) held n 82 cs=some y)(ρ:At)(s:AD)(hd:Ff Tryz.prog w ρ s):NI Tryz.prog w N3 cs ρ s:=by
 obtain⟨xs,m,_,rfl,h3,h4,h5⟩:=DataW.trod_struct Tryz.underlying82 h
 rw[Q8]at h3
 have h4:xs.length=4:=h4
 match cs,h3 with
 | [c0,c1,c2,c3],_ =>
  have e0:DataW.trod enc Tryz.prog w 0 (fun _=>true) held m 5 (([c0,c1,c2,c3].drop 0).take (Tryz.prog.cellsOf 5))=xs[0]? := h5 0 _ rfl
  have e1:DataW.trod enc Tryz.prog w 0 (fun _=>true) held m 5 (([c0,c1,c2,c3].drop 1).take (Tryz.prog.cellsOf 5))=xs[1]? := h5 1 _ rfl
  have e2:DataW.trod enc Tryz.prog w 0 (fun _=>true) held m 5 (([c0,c1,c2,c3].drop 2).take (Tryz.prog.cellsOf 5))=xs[2]? := h5 2 _ rfl
  have e3:DataW.trod enc Tryz.prog w 0 (fun _=>true) held m 5 (([c0,c1,c2,c3].drop 3).take (Tryz.prog.cellsOf 5))=xs[3]? := h5 3 _ rfl
  rw[Q9]at e0 e1 e2 e3
  rw[bD (show 0<xs.length by omega)]at e0
  rw[bD (show 1<xs.length by omega)]at e1
  rw[bD (show 2<xs.length by omega)]at e2
  rw[bD (show 3<xs.length by omega)]at e3
  obtain⟨a,q0,_,w0⟩:=DataW.trod_int Tryz.underlying5 e0
  obtain⟨b,q1,_,w1⟩:=DataW.trod_int Tryz.underlying5 e1
  obtain⟨c,q2,_,w2⟩:=DataW.trod_int Tryz.underlying5 e2
  obtain⟨d,q3,_,w3⟩:=DataW.trod_int Tryz.underlying5 e3
  injection q0 with q0
  injection q1 with q1
  injection q2 with q2
  injection q3 with q3
  subst q0;subst q1;subst q2;subst q3
  have w0:=HZ w0
  have w1:=HZ w1
  have w2:=HZ w2
  have w3:=HZ w3
  obtain⟨a,rfl⟩:∃k:Nat,a=k:=⟨a.toNat,by omega⟩
  obtain⟨b,rfl⟩:∃k:Nat,b=k:=⟨b.toNat,by omega⟩
  obtain⟨c,rfl⟩:∃k:Nat,c=k:=⟨c.toNat,by omega⟩
  obtain⟨d,rfl⟩:∃k:Nat,d=k:=⟨d.toNat,by omega⟩
  exact⟨ρ,s,[BU a,BU b,BU c,BU d],(a,b,c,d),hd,At.le_refl ρ,BK.refl _ _,.cons (.int _ _) (.cons (.int _ _) (.cons (.int _ _) (.cons (.int _ _) .nil))),rfl,by show a<256;omega,by show b<256;omega,by show c<256;omega,by show d<256;omega⟩
theorem Th{o:Option Ac}:∀ (l:List AV)(off:Nat),(∀j u,l[j]? = some u→Cv o (off+j)=some u)→l≠[]→BB o off l.length=some l:=by
 intro l off h h0
 obtain⟨r,hr⟩:∃r,SW o=some r:=by
  cases l with
  | nil=>exact absurd rfl h0
  | cons a l =>
   have:=h 0 a rfl
   unfold Cv at this
   cases hr:SW o with
   | none=>rw[hr]at this;cases this
   | some r=>exact⟨r,rfl⟩
 have hg:∀j u,l[j]? = some u→off+j<r.n∧r.c.get (off+j)=some u:=fun j u hj=>by
  have:=h j u hj
  unfold Cv at this
  rw[hr,Option.bind_some]at this
  obtain⟨g1,g2⟩:=AA this
  exact⟨by simpa[bN]using g1,g2⟩
 have ht:∀ (m:List AV) (k:Nat),(∀j u,m[j]? = some u→r.c.get (k+j)=some u)→r.c.take k m.length=some m:=by
  intro m
  induction m with
  | nil=>intro k _;simp[AI.take]
  | cons a m ih =>
   intro k hk
   have h1:=hk 0 a rfl
   rw[br]at h1
   simp only[ao,AI.take,h1,ih (k+1) fun j u hj=>by rw[show k+1+j=k+(j+1)from by omega];exact hk (j+1) u hj]
 unfold BB
 rw[hr,Option.bind_some,ht l off fun j u hj=>(hg j u hj).2]
 have hl:off+l.length≤r.n:=by
  cases hz:l.getLast? with
  | none=>exact absurd (List.getLast?_eq_none_iff.1 hz) h0
  | some u =>
   have hlen:0<l.length:=List.length_pos_iff.2 h0
   have:=(hg (l.length - 1) l[l.length - 1] (bD (by omega))).1
   omega
 have:Nat.ble (off+l.length) r.n=true:=by rw[bF];exact hl
 rw[this];rfl
theorem Mo{s:AD}{us:List AV}{l:List I4}(h:NL N3 4 s us l):∃v,us=[v]∧Ch s v l∧∀m∈l,m.ok:=by
  obtain⟨a,cap,rfl,hl,hcap,h2⟩:=h
  refine⟨_,rfl,⟨a,cap,rfl,fun k m hm=>?_⟩,fun m hm=>?_⟩
  · obtain⟨i,o,vs,g1,g2,g3,g4,rfl,g5⟩:=h2 k m hm
    exact⟨i,o,g1,g2,Th m.cells (o+k * 4) (fun j u hj=>by rw[← Ny];exact g4 j u hj) (by simp[I4.cells])⟩
  · obtain ⟨k, hk⟩ := List.mem_iff_getElem?.1 hm
    obtain⟨i,o,vs,g1,g2,g3,g4,rfl,g5⟩:=h2 k m hk
    exact g5
end
theorem Tp:Cc (PX 1 A6) 1 A6=true:=by kernel_rfl
theorem Oi{W:World}(hp:1<W.heap.size∧∀k v,A6[k]? = some v→∃v',W.cell? ⟨1,k,none⟩=some v'∧AL PD v v'):∃ρ,Ff Tryz.prog W ρ (PX 1 A6):=ZX hp.1 hp.2
section
variable{H:Type}{enc:TypeId×Value→H}{W:World}{base:Nat}
end
end
end Go.Proofs.YtickdehehcmfbaaGreatDoor.Am
set_option linter.unusedVariables false
set_option linter.unusedSimpArgs false
namespace Go.Proofs.YtickdehehcmfbaaGreatDoor.Am
open Go Go.Proofs
noncomputable section
theorem Cg(id:Int)(w:Tm):BM (CJ id w) (.var id)=w:=H9 (if_pos rfl)
theorem Bd{id i:Int}(w:Tm)(h:i≠id):BM (CJ id w) (.var i)=.var i:=GC (if_neg h) rfl
theorem EU(id:Int)(w:Tm)(i:Int):BM (CJ id w) (.bnd i)=.bnd i:=GC rfl rfl
theorem C5(id:Int)(w:Tm)(n:Nat):BM (CJ id w) (.con n)=.con n:=GC rfl rfl
theorem EI{id:Int}{n:Nat}{x:Int}:∀t:Tm,(BM (CJ id (.con n)) t).has x=(t.has x && decide (x≠id))
 | .var i=>by
  by_cases h:i=id
  ·subst h
   rw[Cg]
   show false=(decide (i=x) && decide (x≠i))
   by_cases e:i=x
   ·subst e;simp
   ·simp[e]
  ·rw[Bd _ h]
   show decide (i=x)=(decide (i=x) && decide (x≠id))
   by_cases e:i=x
   ·subst e;simp[h]
   ·simp[e]
 | .bnd i=>by rw[EU];rfl
 | .con m=>by rw[C5];rfl
 | .sel d k=>by
  rw[De rfl]
  simp only[Tm.has,EI d,EI k,Bool.and_or_distrib_right]
 | .upd d k a=>by
  rw[Df rfl]
  simp only[Tm.has,EI d,EI k,EI a,Bool.and_or_distrib_right]
theorem EA{id:Int}{w:Tm}:∀t:Tm,t.has id=false→BM (CJ id w) t=t
 | .var i,h=>Bd w fun e=>by simp[Tm.has,e]at h
 | .bnd i,_=>EU _ _ _
 | .con n,_=>C5 _ _ _
 | .sel d k,h=>by
  simp only[Tm.has,Bool.or_eq_false_iff]at h
  rw[De rfl,EA d h.1,EA k h.2]
 | .upd d k a,h=>by
  simp only[Tm.has,Bool.or_eq_false_iff]at h
  rw[Df rfl,EA d h.1.1,EA k h.1.2,EA a h.2]
theorem NA{id:Int}{n:Nat}{t:Tm}:BM (CJ id (.con n)) t=t↔t.has id=false:=by
 refine⟨fun h=>?_,EA t⟩
 have:=EI (id:=id) (n:=n) (x:=id) t
 rw[h]at this
 simpa using this
theorem sub_self{id:Int}:∀t:Tm,BM (CJ id (.var id)) t=t
 | .var i=>by
  by_cases h:i=id
  ·subst h;exact Cg _ _
  ·exact Bd _ h
 | .bnd i=>EU _ _ _
 | .con n=>C5 _ _ _
 | .sel d k=>by rw[De rfl,sub_self d,sub_self k]
 | .upd d k a=>by rw[Df rfl,sub_self d,sub_self k,sub_self a]
theorem G7{id:Int}{n:Nat}:∀t:Tm,(BM (CJ id (.con n)) t).sz=t.sz
 | .var i=>by
  by_cases h:i=id
  ·subst h;rw[Cg];rfl
  ·rw[Bd _ h]
 | .bnd i=>by rw[EU]
 | .con m=>by rw[C5]
 | .sel d k=>by rw[De rfl];simp only[Tm.sz,G7 d,G7 k]
 | .upd d k a=>by rw[Df rfl];simp only[Tm.sz,G7 d,G7 k,G7 a]
theorem D9{id o:Int}{n m:Nat}(h:id≠o):∀t:Tm,BM (CJ o (.con m)) (BM (CJ id (.con n)) t)=BM (CJ id (.con n)) (BM (CJ o (.con m)) t)
 | .var i=>by
  by_cases h1:i=id
  ·subst h1
   rw[Cg,C5,Bd _ h,Cg]
  ·rw[Bd _ h1]
   by_cases h2:i=o
   ·subst h2;rw[Cg,C5]
   ·rw[Bd _ h2,Bd _ h1]
 | .bnd i=>by rw[EU,EU,EU]
 | .con k=>by rw[C5,C5,C5]
 | .sel d k=>by rw[De rfl,De rfl,De rfl,De rfl,D9 h d,D9 h k]
 | .upd d k a=>by rw[Df rfl,Df rfl,Df rfl,Df rfl,D9 h d,D9 h k,D9 h a]
theorem JU{id:Int}{w:Tm}(hw:w.kids=[])(t u:Tm)(h:CJ id w t=some u):u.kids=[]:=by
 cases t with
 | var i =>
  change (if i=id then some w else none)=some u at h
  split at h
  ·injection h with h;rw[← h];exact hw
  ·cases h
 | bnd i=>cases h
 | con n=>cases h
 | sel d k=>cases h
 | upd d k a=>cases h
theorem Ik       : ∀ {l m : List Int}, l.Pairwise (· < ·) → m.Pairwise (· < ·) → (∀ x, x ∈ l ↔ x ∈ m) → l = m
  | [],[],_,_,_=>rfl
  | [],b::m,_,_,h=>by have:=(h b).2 bH;cases this
  | a::l,[],_,_,h=>by have:=(h a).1 bH;cases this
  | a::l,b::m,hl,hm,h=>by
    rw[List.pairwise_cons]at hl hm
    have hab:a=b:=by
      have h1:=(h a).1 bH
      have h2:=(h b).2 bH
      rcases bT.1 h1 with e | h1
      · exact e
      · rcases bT.1            h2 with e | h2
        · exact e.symm
        · have := hm.1 a h1
          have:=hl.1 b h2
          omega
    subst hab
    rw[Ik hl.2 hm.2 fun x=>?_]
    have:=h x
    constructor
    · intro hx
      rcases bT.1 (this.1 (bI _ hx))with e | h'
      · have:=hl.1 x hx;omega
      · exact h'
    · intro hx
      rcases bT.1 (this.2 (bI _ hx))with e | h'
      · have:=hm.1 x hx;omega
      · exact h'
theorem S4{id:Int}{n:Nat}{t:Tm}{l m:List Int}(hl:Dm t l)(hm:Dm (BM (CJ id (.con n)) t) m):(id ∉ l→m.length=l.length)∧(id∈l→m.length+1=l.length)∧id ∉ m∧∀x∈l,x≠id→x∈m:=by
 have hmem:∀x,x∈m↔x∈l∧x≠id:=fun x=>by
  rw[hm.2 x,hl.2 x,EI];simp
 have hnd:l.Nodup:=hl.1.imp fun h=>by omega
 refine⟨fun h=>?_,fun h=>?_,fun h=>((hmem id).1 h).2 rfl,fun x h1 h2=>(hmem x).2 ⟨h1,h2⟩⟩
 ·rw[Ik hm.1 hl.1 fun x=>⟨fun hx=>((hmem x).1 hx).1,fun hx=>(hmem x).2 ⟨hx,fun e=>h (e▸hx)⟩⟩]
 ·have e:m=l.erase id:=Ik hm.1 (hl.1.sublist List.erase_sublist) fun x=>by
   rw[hmem x,hnd.mem_erase_iff];exact And.comm
  have:=List.length_erase_of_mem h
  have hpos:=List.length_pos_of_mem h
  rw[e];omega
set_option maxRecDepth 20000 in
theorem S5{E:Be}(hE:Ah E){s:AD}{l m:List Int}{id:Int}{v11 v12:AV}(h11:An s v11 l)(h12:An s v12 m)(hl:l.length≤1000000)(hm:m.length≤1000000)(hx:∀x∈l,x≠id→x∈m)
    (a0 a1 a2 a3 a4 a5 a6 a8 a9 a10 a14 a15 a16 a17 a20 a21:AV) {Q:Aw→Prop} {marks:List Nat}
    (hend:∀y18 y19:AV,Ag 0 Q ⟨.exit 0,[a0,a1,a2,a3,a4,a5,a6,iv id,a8,a9,a10,v11,v12,iv (l.length:Int),a14,a15,a16,a17,y18,y19,a20,a21],marks,s⟩):
    ∀ (d k:Nat) (a18 a19:AV),d+k=l.length →
      WC E none (AZ.loop JQ) (Ag 0 Q) [a0,a1,a2,a3,a4,a5,a6,iv id,a8,a9,a10,v11,v12,iv (k:Int),a14,a15,a16,a17,a18,a19,a20,a21] marks s:=by
  intro d
  have hlen:=h11.len
  induction d with
  | zero =>
    intro k a18 a19 hd
    have hk:k=l.length:=by omega
    subst hk
    refine WC.loop' ?_
    have hlt:¬ ((l.length:Int)<(l.length:Int)):=by omega
    simp only[JQ,Nb,Qa,Qb,Qc,Qd,Qe,Qf,Qg,Qh,Qi,Qj,Qk,Ql,Qm,Qn,true_and,and_true,Qo,Qp,Qq,Qr,Qs,Qt,Qu,Qv,Qw,Qx,Qy,Qz,Ra,Rb,Rc,Rd,Re,Rf,Rg,Rh,Ri,Rj,Rk,Rl,Rm,Ya,Yb,Yc,Rn,Ro,Xv,Yd,Ye,Rq,Rs,Rt,Ru,Rw,Rx,Ry,hlen,Rq,hlt,decide_false]
    exact hend _ _
  | succ d ih =>
    intro k a18 a19 hd
    have hkl:k<l.length:=by omega
    have hlt:(k:Int)<(l.length:Int):=by omega
    have hadd:i64 ((k:Int)+1):=by unfold i64;omega
    obtain⟨x,hxk⟩:∃x,l[k]? = some x:=⟨_,bD hkl⟩
    have hxl:=bO hxk
    obtain⟨j4,q4,c4,hv4,hj4,hl4⟩:=h11.at hxk
    have hin:=fun(K:AV→AD→Prop) hK=>IP (K:=K) hE h12 hm (x:=x) hK
    refine WC.loop' ?_
    obtain⟨W,hW⟩:∃W,W=AZ.loop JQ:=⟨_,rfl⟩
    rw[← hW]
    rw[hv4]at ih hlen hend ⊢
    have:=ih (k+1) (.bool true) (.bool false) (by omega)
    rw[← hW,show((k+1:Nat):Int)=(k:Int)+1 from by omega]at this
    by_cases e:x=id
    · have JW:decide (x≠id)=false:=decide_eq_false (by simp[e])
      simp only[JQ,Nb,QM,Qa,Qb,Qc,Qd,Qe,Qf,Qg,Qh,Qi,Qj,Qk,Ql,Qm,Qn,true_and,and_true,Qo,Qp,Qq,Qr,Qs,Qt,Qu,Qv,Qw,Qx,Qy,Qz,Ra,Rb,Rc,Rd,Re,Rf,Rg,Rh,Ri,Rj,Rk,Rl,Rm,Ya,Yb,Yc,Rn,Ro,Xv,Yd,Ye,Rq,Rs,Rt,Ru,Rw,Rx,Ry,hlen,Rq,hlt,decide_true,AY Tryz.underlying27 Ea hkl,C6,hl4,bR,JW,QN,BI _ _ _ _ hadd,Rz,Wa,Wb,Wc,Wd,We,Wf,Wg,Wh,Wi,Wj,Wl,Wm,Wn,Wp,Wq,Wr,Ws,Wt,Wu,Wv,Ww,Wx,Wy,Wz,Xa,Xb,Xc,Xd,Xe,Xf,Xg,Xh,Xi,Xj,Xk,Xl,Xm,Xn,Xo,Xp,Xq,Xr,ao,au,ap,am,aw,ay,List.getElem?_cons_zero,List.getElem?_cons_succ,aq,az,bA,bB,ak,Nat.reduceAdd,Nat.reduceLT,Nat.reduceLeDiff,decide_true,decide_false,Bool.true_and,Bool.and_true,bC,aj,Option.some.injEq,Xs,Xt,Xu,Xv]
      exact this
    · have JW  : decide (x ≠ id) = true := decide_eq_true e
      have Td:decide (x∈m)=true:=decide_eq_true (hx x hxl e)
      simp only[JQ,Nb,QM,Qa,Qb,Qc,Qd,Qe,Qf,Qg,Qh,Qi,Qj,Qk,Ql,Qm,Qn,true_and,and_true,Qo,Qp,Qq,Qr,Qs,Qt,Qu,Qv,Qw,Qx,Qy,Qz,Ra,Rb,Rc,Rd,Re,Rf,Rg,Rh,Ri,Rj,Rk,Rl,Rm,Ya,Yb,Yc,Rn,Ro,Xv,Yd,Ye,Rq,Rs,Rt,Ru,Rw,Rx,Ry,hlen,Rq,hlt,decide_true,AY Tryz.underlying27 Ea hkl,C6,hl4,bR,JW,Rz,Wa,Wb,Wc,Wd,We,Wf,Wg,Wh,Wi,Wj,Wl,Wm,Wn,Wp,Wq,Wr,Ws,Wt,Wu,Wv,Ww,Wx,Wy,Wz,Xa,Xb,Xc,Xd,Xe,Xf,Xg,Xh,Xi,Xj,Xk,Xl,Xm,Xn,Xo,Xp,Xq,Xr,ao,au,ap,am,aw,ay,List.getElem?_cons_zero,List.getElem?_cons_succ,aq,az,bA,bB,ak,Nat.reduceAdd,Nat.reduceLT,Nat.reduceLeDiff,decide_true,decide_false,Bool.true_and,Bool.and_true,bC,aj,Option.some.injEq,Xs,Xt,Xu,Xv]
      refine hin _ ?_
      simp only[Qa,Qb,Qc,Qd,Qe,Qf,Qg,Qh,Qi,Qj,Qk,Ql,Qm,Qn,true_and,and_true,Qo,Qp,Qq,Qr,Qs,Qt,Qu,Qv,Qw,Qx,Qy,Qz,Ra,Rb,Rc,Rd,Re,Rf,Rg,Rh,Ri,Rj,Rk,Rl,Rm,Ya,Yb,Yc,Rn,Ro,Xv,Yd,Ye,Rq,Rs,Rt,Ru,Rw,Rx,Ry,Td,QN,BI _ _ _ _ hadd]
      exact this
theorem Pa{E:Be}(hE:Ah E){s:AD}{p:Nat}{O:List Nat}(h:AS s p [] O)(hg:CA s O){K:AV→AD→Prop}
  (hK:∀s' O',AS s' p [Al] O'→K (iv 0) s'):WF E 27 [.ptr (some (p,0)),iv 0,iv 1,iv 2] K s:=by
 refine L4 hE h hg (L:=[Al]) (by simp) (fun t ht k hk=>?_) (by decide) fun s' S' O' h1 h2 h3 h4 h5 h6 h7 h8=>?_
 ·rw[List.mem_singleton.1 ht]at hk;cases hk
 ·have e:S'=[Al]:=h8 rfl rfl
  subst e
  exact hK s' O' h1
theorem Zb(i o:Nat):AK Tryz.prog 53 (.ptr (some (i,o))) (.int .i64 0)=some (.ptr (some (i,o+0))):=by kernel_rfl
theorem Zc(i o:Nat):AK Tryz.prog 53 (.ptr (some (i,o))) (.int .i64 1)=some (.ptr (some (i,o+1))):=by kernel_rfl
theorem Zd(i o:Nat):AK Tryz.prog 53 (.ptr (some (i,o))) (.int .i64 2)=some (.ptr (some (i,o+2))):=by kernel_rfl
theorem WV:AR Tryz.prog 43 (zipIdx [0,3] [.int .i64 3,.str [112,117,116]])=some (.agg (Tm.con 11).cells):=by kernel_rfl
theorem Yn:AR Tryz.prog 43 (zipIdx [0,2] [.int .i64 2,.str [55,55]])=some (.agg (Tm.con 12).cells):=by kernel_rfl
theorem Po(a b:Bool):AO Tryz.prog .neq 4 (.bool a) (.bool b)=some (.bool (a != b)):=by cases a<;>cases b<;>kernel_rfl
set_option maxRecDepth 20000 in
theorem NB         {E : Be}  (hE : Ah    E) {s : AD}  (hg : Cc   s 1 A6    = true) (h1 : 1 < s.next) {v0 : AV} {l : List I4}  (hv0 : Ch      s v0 l) (hu : ∀ m ∈ l, I4.ok  m) {x0 x1 x2 x3 : Nat} (hx0 : x0 < 256) (hx1 : x1 < 256) (hx2 : x2 < 256) {K : AV → AD  → Prop} (hK : ∀ s', K (.bool true) s') :
    WF E 5 [v0,.agg [BU x0,BU x1,BU x2,BU x3]] K s:=by
  refine hE.go ZS (by decide) rfl ?_
  have hg':Cc (ext s [R 53 0 false [BU x0,BU x1,BU x2,BU x3]]) 1 A6=true:=by rw[BP (Wh h1)];exact hg
  have h1':1<(ext s [R 53 0 false [BU x0,BU x1,BU x2,BU x3]]).next:=by rw[Wm,AF];omega
  have hv0':=hv0.old (AQ (os:=[R 53 0 false [BU x0,BU x1,BU x2,BU x3]]))
  generalize hs:s.next=b
  have hs0:s=ext s []:=(Aa s).symm
  rw[hs0]
  simp only[c5,Y4,Y5,Qa,Qb,Qc,Qd,Qe,Qf,Qg,Qh,Qi,Qj,Qk,Ql,Qm,Qn,true_and,and_true,Qo,Qp,Qq,Qr,Qs,Qt,Qu,Qv,Qw,Qx,Qy,Qz,Ra,Rb,Rc,Rd,Re,Rf,Rg,Rh,Ri,Rj,Rk,Rl,Rm,Ya,Yb,Yc,Rn,Ro,Xv,Yd,Ye,Rq,Rs,Rt,Ru,Rw,Rx,Ry,hs,Rz,Wa,Wb,Wc,Wd,We,Wf,Wg,Wh,Wi,Wj,Wl,Wm,Wn,Wp,Wq,Wr,Ws,Wt,Wu,Wv,Ww,Wx,Wy,Wz,Xa,Xb,Xc,Xd,Xe,Xf,Xg,Xh,Xi,Xj,Xk,Xl,Xm,Xn,Xo,Xp,Xq,Xr,ao,au,ap,am,aw,ay,List.getElem?_cons_zero,List.getElem?_cons_succ,aq,az,bA,bB,ak,Nat.reduceAdd,Nat.reduceLT,Nat.reduceLeDiff,decide_true,decide_false,Bool.true_and,Bool.and_true,bC,aj,Option.some.injEq,Xs,Xt,Xu,Xv]
  refine NE hE hg' ?_
  simp only[Ry,Bool.not_true,Y9,Qa,Qb,Qc,Qd,Qe,Qf,Qg,Qh,Qi,Qj,Qk,Ql,Qm,Qn,true_and,and_true,Qo,Qp,Qq,Qr,Qs,Qt,Qu,Qv,Qw,Qx,Qy,Qz,Ra,Rb,Rc,Rd,Re,Rf,Rg,Rh,Ri,Rj,Rk,Rl,Rm,Ya,Yb,Yc,Rn,Ro,Xv,Yd,Ye,Rq,Rs,Rt,Ru,Rw,Rx,Ry]
  refine Ov hE hg' h1' hv0' hu fun p s1 S O k1 k2 k3 k4 k5=>?_
  have gb:s1.heap.get (nid b 0)=some (R 53 0 false [BU x0,BU x1,BU x2,BU x3]):=by
    rw[k4.2 _ (by rw[Wm,hs,AF,AF];simp),Wg hs (by simp)];rfl
  have hlen:=k3.len
  simp only[ZA,Qa,Qb,Qc,Qd,Qe,Qf,Qg,Qh,Qi,Qj,Qk,Ql,Qm,Qn,true_and,and_true,Qo,Qp,Qq,Qr,Qs,Qt,Qu,Qv,Qw,Qx,Qy,Qz,Ra,Rb,Rc,Rd,Re,Rf,Rg,Rh,Ri,Rj,Rk,Rl,Rm,Ya,Yb,Yc,Rn,Ro,Xv,Yd,Ye,Rq,Rs,Rt,Ru,Rw,Rx,Ry]
  refine Mi hE k1 (by omega) ?_
  rcases bc S.length with hz | hz
  · have hS0:S=[]:=bu hz
    subst hS0
    have hd:decide ((((([]:List Tm).length:Nat):Int))=0)=true:=rfl
    simp only[WY,ZB,Qa,Qb,Qc,Qd,Qe,Qf,Qg,Qh,Qi,Qj,Qk,Ql,Qm,Qn,true_and,and_true,Qo,Qp,Qq,Qr,Qs,Qt,Qu,Qv,Qw,Qx,Qy,Qz,Ra,Rb,Rc,Rd,Re,Rf,Rg,Rh,Ri,Rj,Rk,Rl,Rm,Ya,Yb,Yc,Rn,Ro,Xv,Yd,Ye,Rq,Rs,Rt,Ru,Rw,Rx,Ry,hd]
    refine Pa hE k1 k2 fun s2 O2 g1=>?_
    simp only[Qa,Qb,Qc,Qd,Qe,Qf,Qg,Qh,Qi,Qj,Qk,Ql,Qm,Qn,true_and,and_true,Qo,Qp,Qq,Qr,Qs,Qt,Qu,Qv,Qw,Qx,Qy,Qz,Ra,Rb,Rc,Rd,Re,Rf,Rg,Rh,Ri,Rj,Rk,Rl,Rm,Ya,Yb,Yc,Rn,Ro,Xv,Yd,Ye,Rq,Rs,Rt,Ru,Rw,Rx,Ry,Rz,Wa,Wb,Wc,Wd,We,Wf,Wg,Wh,Wi,Wj,Wl,Wm,Wn,Wp,Wq,Wr,Ws,Wt,Wu,Wv,Ww,Wx,Wy,Wz,Xa,Xb,Xc,Xd,Xe,Xf,Xg,Xh,Xi,Xj,Xk,Xl,Xm,Xn,Xo,Xp,Xq,Xr,ao,au,ap,am,aw,ay,List.getElem?_cons_zero,List.getElem?_cons_succ,aq,az,bA,bB,ak,Nat.reduceAdd,Nat.reduceLT,Nat.reduceLeDiff,decide_true,decide_false,Bool.true_and,Bool.and_true,bC,aj,Option.some.injEq,Xs,Xt,Xu,Xv]
    refine Mi hE g1 (by simp) ?_
    have hd3:decide (((([Al]:List Tm).length:Nat):Int)=1)=true:=rfl
    simp only[Qa,Qb,Qc,Qd,Qe,Qf,Qg,Qh,Qi,Qj,Qk,Ql,Qm,Qn,true_and,and_true,Qo,Qp,Qq,Qr,Qs,Qt,Qu,Qv,Qw,Qx,Qy,Qz,Ra,Rb,Rc,Rd,Re,Rf,Rg,Rh,Ri,Rj,Rk,Rl,Rm,Ya,Yb,Yc,Rn,Ro,Xv,Yd,Ye,Rq,Rs,Rt,Ru,Rw,Rx,Ry,hd3]
    exact hK _
  · have hd : decide ((S.length : Int) = 0) = false := decide_eq_false (by omega)
    have hm7:=bp x1 (show 0<7 by omega)
    have hm72:=bp x2 (show 0<7 by omega)
    have hr7:AO Tryz.prog .rem 5 (BU x1) (.int .u8 7)=some (BU (x1 % 7)):=Ij (n:=x1) (m:=7) (by omega)
    have hr72:AO Tryz.prog .rem 5 (BU x2) (.int .u8 7)=some (BU (x2 % 7)):=Ij (n:=x2) (m:=7) (by omega)
    have hc7:=fun s=>Dg (s:=s) (n:=x1 % 7) (by omega)
    have hc72:=fun s=>Dg (s:=s) (n:=x2 % 7) (by omega)
    have hc0:=fun s=>Dg (s:=s) (n:=x0) hx0
    have hrn:AO Tryz.prog .rem 3 (iv (x0:Int)) (iv (S.length:Int))=some (iv ((x0 % S.length:Nat):Int)):=by
      have:=F6 (P:=Tryz.prog) (t:=3) (k:=.i64) (a:=(x0:Int)) (b:=(S.length:Int)) (by omega) (by omega)
      rw[this];rfl
    have hi1:i64 (((x1 % 7:Nat):Int) - 2):=by unfold i64;omega
    have hi2:i64 (((x2 % 7:Nat):Int) - 2):=by unfold i64;omega
    have hml:=bp x0 hz
    obtain⟨T,hT⟩:∃T,S[x0 % S.length]? = some T:=⟨_,bD hml⟩
    have w1:TW S p s1 S O 0:=⟨k1,k2,⟨[],by simp⟩,by omega⟩
    simp only[WY,Qa,Qb,Qc,Qd,Qe,Qf,Qg,Qh,Qi,Qj,Qk,Ql,Qm,Qn,true_and,and_true,Qo,Qp,Qq,Qr,Qs,Qt,Qu,Qv,Qw,Qx,Qy,Qz,Ra,Rb,Rc,Rd,Re,Rf,Rg,Rh,Ri,Rj,Rk,Rl,Rm,Ya,Yb,Yc,Rn,Ro,Xv,Yd,Ye,Rq,Rs,Rt,Ru,Rw,Rx,Ry,-Qu,-Qv,hd]
    rw[Qv]
    simp only[ZC,Qa,Qb,Qc,Qd,Qe,Qf,Qg,Qh,Qi,Qj,Qk,Ql,Qm,Qn,true_and,and_true,Qo,Qp,Qq,Qr,Qs,Qt,Qu,Qv,Qw,Qx,Qy,Qz,Ra,Rb,Rc,Rd,Re,Rf,Rg,Rh,Ri,Rj,Rk,Rl,Rm,Ya,Yb,Yc,Rn,Ro,Xv,Yd,Ye,Rq,Rs,Rt,Ru,Rw,Rx,Ry,gb,Zb,Zc,Zd,F0,hr7,hr72,hc7,hc72,hc0,hrn,Db _ _ _ _ hi1,Db _ _ _ _ hi2,Rz,Wa,Wb,Wc,Wd,We,Wf,Wg,Wh,Wi,Wj,Wl,Wm,Wn,Wp,Wq,Wr,Ws,Wt,Wu,Wv,Ww,Wx,Wy,Wz,Xa,Xb,Xc,Xd,Xe,Xf,Xg,Xh,Xi,Xj,Xk,Xl,Xm,Xn,Xo,Xp,Xq,Xr,ao,au,ap,am,aw,ay,List.getElem?_cons_zero,List.getElem?_cons_succ,aq,az,bA,bB,ak,Nat.reduceAdd,Nat.reduceLT,Nat.reduceLeDiff,decide_true,decide_false,Bool.true_and,Bool.and_true,bC,aj,Option.some.injEq,Xs,Xt,Xu,Xv]
    generalize ((x1 % 7:Nat):Int) - 2=id at hi1
    generalize ((x2 % 7:Nat):Int) - 2=ot at hi2
    generalize x0 % S.length=k at hT
    have hSk:=k1.ok.kidS
    have hTm:=bO hT
    have hnT:F3 S (k:Int) T:=L6 hT
    simp only[ZD,WV,Qa,Qb,Qc,Qd,Qe,Qf,Qg,Qh,Qi,Qj,Qk,Ql,Qm,Qn,true_and,and_true,Qo,Qp,Qq,Qr,Qs,Qt,Qu,Qv,Qw,Qx,Qy,Qz,Ra,Rb,Rc,Rd,Re,Rf,Rg,Rh,Ri,Rj,Rk,Rl,Rm,Ya,Yb,Yc,Rn,Ro,Xv,Yd,Ye,Rq,Rs,Rt,Ru,Rw,Rx,Ry,Rz,Wa,Wb,Wc,Wd,We,Wf,Wg,Wh,Wi,Wj,Wl,Wm,Wn,Wp,Wq,Wr,Ws,Wt,Wu,Wv,Ww,Wx,Wy,Wz,Xa,Xb,Xc,Xd,Xe,Xf,Xg,Xh,Xi,Xj,Xk,Xl,Xm,Xn,Xo,Xp,Xq,Xr,ao,au,ap,am,aw,ay,List.getElem?_cons_zero,List.getElem?_cons_succ,aq,az,bA,bB,ak,Nat.reduceAdd,Nat.reduceLT,Nat.reduceLeDiff,decide_true,decide_false,Bool.true_and,Bool.and_true,bC,aj,Option.some.injEq,Xs,Xt,Xu,Xv]
    refine Sv hE w1 (by omega) (n:=11) (by omega) fun s2 S2 O2 rb w2 f2 g2 p2 nb=>?_
    have hn2:=hnT.ext p2
    simp only[Qa,Qb,Qc,Qd,Qe,Qf,Qg,Qh,Qi,Qj,Qk,Ql,Qm,Qn,true_and,and_true,Qo,Qp,Qq,Qr,Qs,Qt,Qu,Qv,Qw,Qx,Qy,Qz,Ra,Rb,Rc,Rd,Re,Rf,Rg,Rh,Ri,Rj,Rk,Rl,Rm,Ya,Yb,Yc,Rn,Ro,Xv,Yd,Ye,Rq,Rs,Rt,Ru,Rw,Rx,Ry,ZE]
    refine G8 hE w2 (by omega) (L:=S) (by omega) hSk hn2 hTm nb fun s3 S3 O3 ru w3 f3 g3 p3 nu=>?_
    have hn3:=hn2.ext p3
    have nb3:=nb.ext p3
    simp only[Qa,Qb,Qc,Qd,Qe,Qf,Qg,Qh,Qi,Qj,Qk,Ql,Qm,Qn,true_and,and_true,Qo,Qp,Qq,Qr,Qs,Qt,Qu,Qv,Qw,Qx,Qy,Qz,Ra,Rb,Rc,Rd,Re,Rf,Rg,Rh,Ri,Rj,Rk,Rl,Rm,Ya,Yb,Yc,Rn,Ro,Xv,Yd,Ye,Rq,Rs,Rt,Ru,Rw,Rx,Ry,Vc]
    refine L7 hE w3 hn3 fun v11 l s4 o4 hvl hal=>?_
    simp only[Qa,Qb,Qc,Qd,Qe,Qf,Qg,Qh,Qi,Qj,Qk,Ql,Qm,Qn,true_and,and_true,Qo,Qp,Qq,Qr,Qs,Qt,Qu,Qv,Qw,Qx,Qy,Qz,Ra,Rb,Rc,Rd,Re,Rf,Rg,Rh,Ri,Rj,Rk,Rl,Rm,Ya,Yb,Yc,Rn,Ro,Xv,Yd,Ye,Rq,Rs,Rt,Ru,Rw,Rx,Ry]
    refine L7 hE (w3.old o4) nu fun v12 m s5 o5 hvm ham=>?_
    have w5:=(w3.old o4).old o5
    have hal5:=hal.step (o5.frO O3) (AT.refl O3 s4)
    obtain⟨q1,q2,q3,q4⟩:=S4 hvl hvm
    have hll:=Dm.le w5.st.ok hn3.mem hvl
    have hmm:=Dm.le w5.st.ok nu.mem hvm
    have hl5:=w5.len
    have JW:decide (id∈m)=false:=decide_eq_false q3
    have hut:ru=(k:Int)↔id ∉ l:=by
      have e1:ru=(k:Int)↔BM (CJ id (.con 11)) T=T:=⟨fun e=>by subst e;exact nu.eq hn3,fun e=>by rw[e]at nu;exact nu.inj hn3 w5.nd⟩
      rw[e1,NA,hvl.2 id];simp
    have hb:(decide (ru=(k:Int)) != !decide (id∈l))=false:=by
      by_cases hin:id∈l
      · have:¬ ru=(k:Int):=fun e=>hut.1 e hin
        simp[hin,this]
      · have:=hut.2 hin
        simp[hin,this]
    simp only[Qa,Qb,Qc,Qd,Qe,Qf,Qg,Qh,Qi,Qj,Qk,Ql,Qm,Qn,true_and,and_true,Qo,Qp,Qq,Qr,Qs,Qt,Qu,Qv,Qw,Qx,Qy,Qz,Ra,Rb,Rc,Rd,Re,Rf,Rg,Rh,Ri,Rj,Rk,Rl,Rm,Ya,Yb,Yc,Rn,Ro,Xv,Yd,Ye,Rq,Rs,Rt,Ru,Rw,Rx,Ry,Vd]
    refine IP hE ham.rd (by omega) ?_
    simp only[Qa,Qb,Qc,Qd,Qe,Qf,Qg,Qh,Qi,Qj,Qk,Ql,Qm,Qn,true_and,and_true,Qo,Qp,Qq,Qr,Qs,Qt,Qu,Qv,Qw,Qx,Qy,Qz,Ra,Rb,Rc,Rd,Re,Rf,Rg,Rh,Ri,Rj,Rk,Rl,Rm,Ya,Yb,Yc,Rn,Ro,Xv,Yd,Ye,Rq,Rs,Rt,Ru,Rw,Rx,Ry,JW]
    refine IP hE hal5.rd (by omega) ?_
    simp only[Qa,Qb,Qc,Qd,Qe,Qf,Qg,Qh,Qi,Qj,Qk,Ql,Qm,Qn,true_and,and_true,Qo,Qp,Qq,Qr,Qs,Qt,Qu,Qv,Qw,Qx,Qy,Qz,Ra,Rb,Rc,Rd,Re,Rf,Rg,Rh,Ri,Rj,Rk,Rl,Rm,Ya,Yb,Yc,Rn,Ro,Xv,Yd,Ye,Rq,Rs,Rt,Ru,Rw,Rx,Ry,Po,hb]
    refine YN hE w5 (by omega) hi1 fun s6 S6 O6 rv w6 f6 g6 p6 nv=>?_
    have hn6:=hn3.ext p6
    simp only[Qa,Qb,Qc,Qd,Qe,Qf,Qg,Qh,Qi,Qj,Qk,Ql,Qm,Qn,true_and,and_true,Qo,Qp,Qq,Qr,Qs,Qt,Qu,Qv,Qw,Qx,Qy,Qz,Ra,Rb,Rc,Rd,Re,Rf,Rg,Rh,Ri,Rj,Rk,Rl,Rm,Ya,Yb,Yc,Rn,Ro,Xv,Yd,Ye,Rq,Rs,Rt,Ru,Rw,Rx,Ry]
    refine G8 hE w6 (by omega) (L:=S) (by omega) hSk hn6 hTm nv fun s7 S7 O7 r7 w7 f7 g7 p7 n7=>?_
    rw[sub_self]at n7
    have hn7:=hn6.ext p7
    obtain rfl:=n7.inj hn7 w7.nd
    have hne:decide ((k:Int)≠(k:Int))=false:=by simp
    have hne2:decide ((T.sz:Int)≠(T.sz:Int))=false:=by simp
    simp only[Qa,Qb,Qc,Qd,Qe,Qf,Qg,Qh,Qi,Qj,Qk,Ql,Qm,Qn,true_and,and_true,Qo,Qp,Qq,Qr,Qs,Qt,Qu,Qv,Qw,Qx,Qy,Qz,Ra,Rb,Rc,Rd,Re,Rf,Rg,Rh,Ri,Rj,Rk,Rl,Rm,Ya,Yb,Yc,Rn,Ro,Xv,Yd,Ye,Rq,Rs,Rt,Ru,Rw,Rx,Ry,hne]
    refine OJ hE w7 ((nu.ext p6).ext p7) fun s8 o8=>?_
    rw[G7]
    simp only[Qa,Qb,Qc,Qd,Qe,Qf,Qg,Qh,Qi,Qj,Qk,Ql,Qm,Qn,true_and,and_true,Qo,Qp,Qq,Qr,Qs,Qt,Qu,Qv,Qw,Qx,Qy,Qz,Ra,Rb,Rc,Rd,Re,Rf,Rg,Rh,Ri,Rj,Rk,Rl,Rm,Ya,Yb,Yc,Rn,Ro,Xv,Yd,Ye,Rq,Rs,Rt,Ru,Rw,Rx,Ry]
    refine OJ hE (w7.old o8) hn7 fun s9 o9=>?_
    have o79:BK s7.next s7 s9:=o8.trans (o9.mono o8.1)
    have w9:=w7.old o79
    have f79:Bu O7 s7 s9:=o79.frO O7
    have hal9:=((hal5.step f6 g6).step f7 g7).step f79 (AT.refl O7 s7)
    have ham9:=((ham.step f6 g6).step f7 g7).step f79 (AT.refl O7 s7)
    have nb9:=(nb3.ext p6).ext p7
    simp only[Qa,Qb,Qc,Qd,Qe,Qf,Qg,Qh,Qi,Qj,Qk,Ql,Qm,Qn,true_and,and_true,Qo,Qp,Qq,Qr,Qs,Qt,Qu,Qv,Qw,Qx,Qy,Qz,Ra,Rb,Rc,Rd,Re,Rf,Rg,Rh,Ri,Rj,Rk,Rl,Rm,Ya,Yb,Yc,Rn,Ro,Xv,Yd,Ye,Rq,Rs,Rt,Ru,Rw,Rx,Ry,hne2,Ve]
    refine S5 hE hal9.rd ham9.rd (by omega) (by omega) q4 _ _ _ _ _ _ _ _ _ _ _ _ _ _ _ _ (fun y18 y19=>?_) l.length 0 _ _ (by omega)
    simp only[Qa,Qb,Qc,Qd,Qe,Qf,Qg,Qh,Qi,Qj,Qk,Ql,Qm,Qn,true_and,and_true,Qo,Qp,Qq,Qr,Qs,Qt,Qu,Qv,Qw,Qx,Qy,Qz,Ra,Rb,Rc,Rd,Re,Rf,Rg,Rh,Ri,Rj,Rk,Rl,Rm,Ya,Yb,Yc,Rn,Ro,Xv,Yd,Ye,Rq,Rs,Rt,Ru,Rw,Rx,Ry]
    rw[if_pos trivial]
    have hrest:∀ (y20:AV),Qb E Nc (fun v s'=>LA (Hb v 21) (fun x x_3 x_4=>Qb E QP (fun v s'=>I3 (Bs s' x_3) fun s'=>K (Hb v 3) s') [] x x_4)
          (fun x x_3 x_4=>Qb E QQ (fun v s'=>Qb E QR (fun v s'=>I3 (Bs s' x_3) fun s'=>K (Hb v 3) s') [] v s') [] x x_4) v [] s') []
        [v0,.agg [BU x0,BU x1,BU x2,BU x3],.ptr (some (nid b 0,0)),.bool false,.ptr (some (p,0)),iv (S.length:Int),iv (k:Int),iv id,iv ot,iv rb,iv ru,v11,v12,iv (l.length:Int),Az,.bool false,.bool false,.bool false,y18,y19,y20,Az] s9:=by
      intro y20
      by_cases he:id=ot
      · have hde:decide (id=ot)=true:=decide_eq_true he
        simp only[Nc,Qa,Qb,Qc,Qd,Qe,Qf,Qg,Qh,Qi,Qj,Qk,Ql,Qm,Qn,true_and,and_true,Qo,Qp,Qq,Qr,Qs,Qt,Qu,Qv,Qw,Qx,Qy,Qz,Ra,Rb,Rc,Rd,Re,Rf,Rg,Rh,Ri,Rj,Rk,Rl,Rm,Ya,Yb,Yc,Rn,Ro,Xv,Yd,Ye,Rq,Rs,Rt,Ru,Rw,Rx,Ry,-Qu,-Qv,hde]
        rw[Qu]
        simp only[QP,Qa,Qb,Qc,Qd,Qe,Qf,Qg,Qh,Qi,Qj,Qk,Ql,Qm,Qn,true_and,and_true,Qo,Qp,Qq,Qr,Qs,Qt,Qu,Qv,Qw,Qx,Qy,Qz,Ra,Rb,Rc,Rd,Re,Rf,Rg,Rh,Ri,Rj,Rk,Rl,Rm,Ya,Yb,Yc,Rn,Ro,Xv,Yd,Ye,Rq,Rs,Rt,Ru,Rw,Rx,Ry]
        exact hK _
      · have hde:decide (id=ot)=false:=decide_eq_false he
        simp only[Nc,Qa,Qb,Qc,Qd,Qe,Qf,Qg,Qh,Qi,Qj,Qk,Ql,Qm,Qn,true_and,and_true,Qo,Qp,Qq,Qr,Qs,Qt,Qu,Qv,Qw,Qx,Qy,Qz,Ra,Rb,Rc,Rd,Re,Rf,Rg,Rh,Ri,Rj,Rk,Rl,Rm,Ya,Yb,Yc,Rn,Ro,Xv,Yd,Ye,Rq,Rs,Rt,Ru,Rw,Rx,Ry,-Qu,-Qv,hde]
        rw[Qv]
        simp only[QQ,Yn,Qa,Qb,Qc,Qd,Qe,Qf,Qg,Qh,Qi,Qj,Qk,Ql,Qm,Qn,true_and,and_true,Qo,Qp,Qq,Qr,Qs,Qt,Qu,Qv,Qw,Qx,Qy,Qz,Ra,Rb,Rc,Rd,Re,Rf,Rg,Rh,Ri,Rj,Rk,Rl,Rm,Ya,Yb,Yc,Rn,Ro,Xv,Yd,Ye,Rq,Rs,Rt,Ru,Rw,Rx,Ry]
        refine Sv hE w9 (by omega) (n:=12) (by omega) fun s10 S10 O10 ry w10 f10 g10 p10 ny=>?_
        have hn10:=hn7.ext p10
        have nb10:=nb9.ext p10
        have hk1:∀t∈S.map (BM (CJ id (.con 11))),∀k∈t.kids,k∈S.map (BM (CJ id (.con 11))):=LX hSk fun t _ u h=>JU rfl t u h
        have hk2:∀t∈S.map (BM (CJ ot (.con 12))),∀k∈t.kids,k∈S.map (BM (CJ ot (.con 12))):=LX hSk fun t _ u h=>JU rfl t u h
        simp only[QR,Qa,Qb,Qc,Qd,Qe,Qf,Qg,Qh,Qi,Qj,Qk,Ql,Qm,Qn,true_and,and_true,Qo,Qp,Qq,Qr,Qs,Qt,Qu,Qv,Qw,Qx,Qy,Qz,Ra,Rb,Rc,Rd,Re,Rf,Rg,Rh,Ri,Rj,Rk,Rl,Rm,Ya,Yb,Yc,Rn,Ro,Xv,Yd,Ye,Rq,Rs,Rt,Ru,Rw,Rx,Ry]
        refine G8 hE w10 (by omega) (L:=S) (by omega) hSk hn10 hTm nb10 fun s11 S11 O11 r11 w11 f11 g11 p11 n11=>?_
        simp only[Qa,Qb,Qc,Qd,Qe,Qf,Qg,Qh,Qi,Qj,Qk,Ql,Qm,Qn,true_and,and_true,Qo,Qp,Qq,Qr,Qs,Qt,Qu,Qv,Qw,Qx,Qy,Qz,Ra,Rb,Rc,Rd,Re,Rf,Rg,Rh,Ri,Rj,Rk,Rl,Rm,Ya,Yb,Yc,Rn,Ro,Xv,Yd,Ye,Rq,Rs,Rt,Ru,Rw,Rx,Ry]
        refine G8 hE w11 (by omega) (L:=S.map (BM (CJ id (.con 11)))) (by rw[bX];omega) hk1 n11 (List.mem_map.2 ⟨T,hTm,rfl⟩) (ny.ext p11) fun s12 S12 O12 r12 w12 f12 g12 p12 n12=>?_
        simp only[Qa,Qb,Qc,Qd,Qe,Qf,Qg,Qh,Qi,Qj,Qk,Ql,Qm,Qn,true_and,and_true,Qo,Qp,Qq,Qr,Qs,Qt,Qu,Qv,Qw,Qx,Qy,Qz,Ra,Rb,Rc,Rd,Re,Rf,Rg,Rh,Ri,Rj,Rk,Rl,Rm,Ya,Yb,Yc,Rn,Ro,Xv,Yd,Ye,Rq,Rs,Rt,Ru,Rw,Rx,Ry]
        refine G8 hE w12 (by omega) (L:=S) (by omega) hSk ((hn10.ext p11).ext p12) hTm ((ny.ext p11).ext p12) fun s13 S13 O13 r13 w13 f13 g13 p13 n13=>?_
        simp only[Qa,Qb,Qc,Qd,Qe,Qf,Qg,Qh,Qi,Qj,Qk,Ql,Qm,Qn,true_and,and_true,Qo,Qp,Qq,Qr,Qs,Qt,Qu,Qv,Qw,Qx,Qy,Qz,Ra,Rb,Rc,Rd,Re,Rf,Rg,Rh,Ri,Rj,Rk,Rl,Rm,Ya,Yb,Yc,Rn,Ro,Xv,Yd,Ye,Rq,Rs,Rt,Ru,Rw,Rx,Ry]
        refine G8 hE w13 (by omega) (L:=S.map (BM (CJ ot (.con 12)))) (by rw[bX];omega) hk2 n13 (List.mem_map.2 ⟨T,hTm,rfl⟩) (((nb10.ext p11).ext p12).ext p13) fun s14 S14 O14 r14 w14 f14 g14 p14 n14=>?_
        have n12':=(n12.ext p13).ext p14
        rw[D9 he]at n12'
        obtain rfl:=n12'.inj n14 w14.nd
        have hd4:decide (r12=r12)=true:=by simp
        simp only[Qa,Qb,Qc,Qd,Qe,Qf,Qg,Qh,Qi,Qj,Qk,Ql,Qm,Qn,true_and,and_true,Qo,Qp,Qq,Qr,Qs,Qt,Qu,Qv,Qw,Qx,Qy,Qz,Ra,Rb,Rc,Rd,Re,Rf,Rg,Rh,Ri,Rj,Rk,Rl,Rm,Ya,Yb,Yc,Rn,Ro,Xv,Yd,Ye,Rq,Rs,Rt,Ru,Rw,Rx,Ry,hd4]
        exact hK _
    by_cases hin:id∈l
    · have hdl : decide (id ∈ l) = true := decide_eq_true hin
      have hq:=q2 hin
      have hs1:i64 ((l.length:Int) - 1):=by unfold i64;omega
      have hdn:decide ((m.length:Int)≠(l.length:Int) - 1)=false:=decide_eq_false (by omega)
      simp only[QO,Qa,Qb,Qc,Qd,Qe,Qf,Qg,Qh,Qi,Qj,Qk,Ql,Qm,Qn,true_and,and_true,Qo,Qp,Qq,Qr,Qs,Qt,Qu,Qv,Qw,Qx,Qy,Qz,Ra,Rb,Rc,Rd,Re,Rf,Rg,Rh,Ri,Rj,Rk,Rl,Rm,Ya,Yb,Yc,Rn,Ro,Xv,Yd,Ye,Rq,Rs,Rt,Ru,Rw,Rx,Ry]
      refine IP hE hal9.rd (by omega) ?_
      simp only[Qa,Qb,Qc,Qd,Qe,Qf,Qg,Qh,Qi,Qj,Qk,Ql,Qm,Qn,true_and,and_true,Qo,Qp,Qq,Qr,Qs,Qt,Qu,Qv,Qw,Qx,Qy,Qz,Ra,Rb,Rc,Rd,Re,Rf,Rg,Rh,Ri,Rj,Rk,Rl,Rm,Ya,Yb,Yc,Rn,Ro,Xv,Yd,Ye,Rq,Rs,Rt,Ru,Rw,Rx,Ry,hdl]
      refine IP hE hal9.rd (by omega) ?_
      simp only[Qa,Qb,Qc,Qd,Qe,Qf,Qg,Qh,Qi,Qj,Qk,Ql,Qm,Qn,true_and,and_true,Qo,Qp,Qq,Qr,Qs,Qt,Qu,Qv,Qw,Qx,Qy,Qz,Ra,Rb,Rc,Rd,Re,Rf,Rg,Rh,Ri,Rj,Rk,Rl,Rm,Ya,Yb,Yc,Rn,Ro,Xv,Yd,Ye,Rq,Rs,Rt,Ru,Rw,Rx,Ry,-Qu,-Qv,hdl,hal9.rd.len,ham9.rd.len,Db _ _ _ _ hs1,hdn]
      rw[Qv]
      exact hrest _
    · have hdl : decide (id ∈ l) = false := decide_eq_false hin
      have hq:=q1 hin
      have hdn:decide ((m.length:Int)≠(l.length:Int))=false:=decide_eq_false (by omega)
      simp only[QO,Qa,Qb,Qc,Qd,Qe,Qf,Qg,Qh,Qi,Qj,Qk,Ql,Qm,Qn,true_and,and_true,Qo,Qp,Qq,Qr,Qs,Qt,Qu,Qv,Qw,Qx,Qy,Qz,Ra,Rb,Rc,Rd,Re,Rf,Rg,Rh,Ri,Rj,Rk,Rl,Rm,Ya,Yb,Yc,Rn,Ro,Xv,Yd,Ye,Rq,Rs,Rt,Ru,Rw,Rx,Ry]
      refine IP hE hal9.rd (by omega) ?_
      simp only[Qa,Qb,Qc,Qd,Qe,Qf,Qg,Qh,Qi,Qj,Qk,Ql,Qm,Qn,true_and,and_true,Qo,Qp,Qq,Qr,Qs,Qt,Qu,Qv,Qw,Qx,Qy,Qz,Ra,Rb,Rc,Rd,Re,Rf,Rg,Rh,Ri,Rj,Rk,Rl,Rm,Ya,Yb,Yc,Rn,Ro,Xv,Yd,Ye,Rq,Rs,Rt,Ru,Rw,Rx,Ry,hdl,hal9.rd.len,ham9.rd.len,hdn]
      refine IP hE hal9.rd (by omega) ?_
      simp only[Qa,Qb,Qc,Qd,Qe,Qf,Qg,Qh,Qi,Qj,Qk,Ql,Qm,Qn,true_and,and_true,Qo,Qp,Qq,Qr,Qs,Qt,Qu,Qv,Qw,Qx,Qy,Qz,Ra,Rb,Rc,Rd,Re,Rf,Rg,Rh,Ri,Rj,Rk,Rl,Rm,Ya,Yb,Yc,Rn,Ro,Xv,Yd,Ye,Rq,Rs,Rt,Ru,Rw,Rx,Ry,-Qu,-Qv,hdl]
      rw[Qv]
      exact hrest _
end
end Go.Proofs.YtickdehehcmfbaaGreatDoor.Am
set_option linter.unusedVariables false
set_option linter.unusedSimpArgs false
set_option maxRecDepth 16000
namespace Go.Proofs.YtickdehehcmfbaaGreatDoor.Am
open Go Go.Proofs
noncomputable section
theorem TF{t e:TypeId}{n:Nat}(ht:Tryz.prog.underlying t=some (.array n e)){W:World}{base:Nat}{v:Value}(h:Value.okWide Tryz.prog W .any base t v){ρ:At}{us:List AV}(hr:AJ ρ us v.cells.toList):AL ρ (.agg us) v:=by
 unfold Value.okWide at h
 rw[ht]at h
 obtain⟨cs,rfl,_⟩:=h
 exact .agg hr
section
variable{H:Type}{enc:TypeId×Value→H}{w:World}{held:Bool}
theorem W1:Tryz.prog.cellsOf 53=4:=by kernel_rfl
theorem MX{ρ:At}{n:Nat}{cs:List Value}{y:DataW H×List MemPlace}(h:DataW.trod enc Tryz.prog w 0 (fun _=>true) held n 53 cs=some y):∃x0 x1 x2 x3:Nat,AJ ρ [BU x0,BU x1,BU x2,BU x3] cs∧x0<256∧x1<256∧x2<256:=by
 obtain⟨xs,m,_,rfl,h3,h4,h5⟩:=DataW.trod_array Tryz.underlying53 h
 rw[W1]at h3
 match cs,h3 with
 | [c0,c1,c2,c3],_ =>
  have e0:=h5 0 (by omega)
  have e1:=h5 1 (by omega)
  have e2:=h5 2 (by omega)
  have e3:=h5 3 (by omega)
  rw[Q9,bD (show 0<xs.length by omega)]at e0
  rw[Q9,bD (show 1<xs.length by omega)]at e1
  rw[Q9,bD (show 2<xs.length by omega)]at e2
  rw[Q9,bD (show 3<xs.length by omega)]at e3
  obtain⟨a,q0,_,w0⟩:=DataW.trod_int Tryz.underlying5 e0
  obtain⟨b,q1,_,w1⟩:=DataW.trod_int Tryz.underlying5 e1
  obtain⟨c,q2,_,w2⟩:=DataW.trod_int Tryz.underlying5 e2
  obtain⟨d,q3,_,w3⟩:=DataW.trod_int Tryz.underlying5 e3
  injection q0 with q0
  injection q1 with q1
  injection q2 with q2
  injection q3 with q3
  subst q0;subst q1;subst q2;subst q3
  have w0:=HZ w0
  have w1:=HZ w1
  have w2:=HZ w2
  have w3:=HZ w3
  obtain⟨a,rfl⟩:∃k:Nat,a=k:=⟨a.toNat,by omega⟩
  obtain⟨b,rfl⟩:∃k:Nat,b=k:=⟨b.toNat,by omega⟩
  obtain⟨c,rfl⟩:∃k:Nat,c=k:=⟨c.toNat,by omega⟩
  obtain⟨d,rfl⟩:∃k:Nat,d=k:=⟨d.toNat,by omega⟩
  exact⟨a,b,c,d,.cons (.int _ _) (.cons (.int _ _) (.cons (.int _ _) (.cons (.int _ _) .nil))),by omega,by omega,by omega⟩
end
section
variable{H:Type}{enc:TypeId×Value→H}{W:World}{base:Nat}
theorem subst14_true(hp:1<W.heap.size∧∀k v,A6[k]? = some v→∃v',W.cell? ⟨1,k,none⟩=some v'∧AL PD v v'){v0 v1:Value}(h0:Value.okWide Tryz.prog W .any base 22 v0)(h1:Value.okWide Tryz.prog W .any base 53 v1)
  {d0 d1:DataW H} {p0 p1:List MemPlace} (t0:DataW.Trod enc Tryz.prog W 0 (fun _=>true) true 22 v0 d0 p0) (t1:DataW.Trod enc Tryz.prog W 0 (fun _=>true) true 53 v1 d1 p1):
  Calls Tryz.prog 5 #[v0,v1] W fun e W'=>e=.returned (.bool true)∧Jz W W':=by
 obtain⟨n0,t0⟩:=t0
 obtain⟨n1,t1⟩:=t1
 obtain⟨ρ,hd⟩:=Oi hp
 obtain⟨ρ1,s1,us1,l,g1,g2,g3,g4,g5⟩:=LC O9 Tryz.underlying22 Q8 (by decide) (fun _ n cs y h _=>MZ n cs y h) t0 (fun a ha=>So Tryz.underlying22 h0 a ha) hd
 obtain⟨a0,rfl,m1,m2⟩:=Mo g5
 obtain⟨x0,x1,x2,x3,k4,b0,b1,b2⟩:=MX (ρ:=ρ1) t1
 have o2:BK 2 (PX 1 A6) s1:=g3
 refine OY g1 (.cons (TG Tryz.underlying22 h0 g4) (.cons (TF Tryz.underlying53 h1 k4) .nil)) (NB Ok ?_ ?_ m1 m2 b0 b1 b2 fun _=>rfl)
 ·rw[BP (o2.2 1 (by omega))];exact Tp
 ·exact bG (by show 1<2;omega) o2.1
end
end
end Go.Proofs.YtickdehehcmfbaaGreatDoor.Am
