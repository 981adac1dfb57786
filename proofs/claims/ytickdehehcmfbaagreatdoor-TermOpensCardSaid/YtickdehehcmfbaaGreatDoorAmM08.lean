/- The reference's parts: its loop, walked; conditions: none. -/
import Derived.Test.YtickdehehcmfbaaGreatDoorAmM07
import Derived.Test.YtickdehehcmfbaaGreatDoorAmM06
set_option linter.unusedVariables false
set_option linter.unusedSimpArgs false
namespace Go.Proofs.YtickdehehcmfbaaGreatDoor.Am
open Go Go.Proofs
noncomputable section
set_option maxRecDepth 20000 in
theorem MF          {E : Bb}  (hE : Ah    E) {s : AD}  {q : Nat} {T : List RT} {O : List Nat} (hT : T.length ≤ 800) {l : List Int} {v : AV} (hv : A2     s O v l) (hl : l.length ≤ 3) (a1 a3 : AV) {Q : Aw   → Prop} {marks : List Nat} (hq1 : 1 < s.next)
    (hnot:∀ (y6 y7 y8 y9 vo:AV) s' O' T' ks OB,RS s' q T' O'→Bk O s s'→AR O O' s→T'.length≤T.length+l.length→(∃x,T'=T++x)→C2 3 1 s' vo l.length (BP ks) OB→(∀k∈ks,0≤k∧k<(T'.length:Int))→(∀j∈OB,s.next≤j∧j ∉ O') →
      Ab 0 Q ⟨.exit 0,[.ptr (some (q,0)),a1,v,a3,iv (T.length:Int),vo,y6,y7,y8,y9],marks,s'⟩):
    ∀ (l2 l1:List Int) (s1:AD) (O1:List Nat) (T1:List RT) (ks:List Int) (OB:List Nat) (vo a7 a8 a9:AV),l=l1++l2→RS s1 q T1 O1→Bk O s s1→AR O O1 s→T1.length≤T.length+l1.length→(∃x,T1=T++x)→C2 3 1 s1 vo l1.length (BP ks) OB→(∀k∈ks,0≤k∧k<(T1.length:Int))→(∀j∈OB,s.next≤j∧j ∉ O1) →
      WC E none (AW.loop G3) (Ab 0 Q) [.ptr (some (q,0)),a1,v,a3,iv (T.length:Int),vo,iv (l1.length:Int),a7,a8,a9] marks s1:=by
  intro l2
  induction l2 with
  | nil =>
    intro l1 s1 O1 T1 ks OB vo a7 a8 a9 hll h1 h2 h3 h4 h5 h6 h7 h8
    have hll:l=l1:=by rw[hll];simp
    subst hll
    have hlen:=hv.rd.len
    refine WC.loop' ?_
    have hlt:¬ ((l.length:Int)<(l.length:Int)):=by omega
    simp only[G3,Nz,Qa,Qb,Qc,Qd,Qe,Qf,Qg,Qh,Qi,Qj,Qk,Ql,Qm,Qn,true_and,and_true,Qo,Qp,Qq,Qr,Qs,Qt,Qu,Qv,Qw,Qx,Qy,Qz,Ra,Rb,Rc,Rd,Re,Rf,Rg,Rh,Ri,Rj,Rk,Rl,Rm,Ya,Yb,Yc,Rn,Ro,Xv,Yd,Ye,Rq,Rs,Rt,Ru,Rw,Rx,Ry,hlen,Rq,hlt,decide_false]
    exact hnot _ _ _ _ vo s1 O1 T1 ks OB h1 h2 h3 h4 h5 h6 h7 h8
  | cons x l2 ih =>
    intro l1 s1 O1 T1 ks OB vo a7 a8 a9 hll h1 h2 h3 h4 h5 h6 h7 h8
    have hlen:=hv.rd.len
    have hvr:=(hv.step h2 h3).rd
    obtain⟨W,hW⟩:∃W,W=AW.loop G3:=⟨_,rfl⟩
    have hlt:((l1.length:Int)<(l.length:Int)):=by rw[hll];simp;omega
    have hltn:l1.length<l.length:=by omega
    have hadd:i64 ((l1.length:Int)+1):=by unfold i64;omega
    have hll3:l1.length≤3:=by omega
    have hBlt:=h6.lt
    have hrest:∀ (i:Nat) s2 O2 T2 (b7 b8 b9:AV),RS s2 q T2 O2→Bk O1 s1 s2→AR O1 O2 s1→(∃x,T2=T1++x)→T2.length≤T1.length+1→i<T2.length →
        ∃vo2 s3,Aj Tryz.prog (newObj s2 (R 3 1 false (BP [(i:Int)]))) [27,27] [vo,.slice (some (s2.next,0)) 1 (some 1)]=some (vo2,s3) ∧
          WC E none W (Ab 0 Q) [.ptr (some (q,0)),a1,v,a3,iv (T.length:Int),vo2,iv ((l1.length:Int)+1),b7,b8,b9] marks s3:=by
      intro i s2 O2 T2 b7 b8 b9 g1 g2 g3 g4 g5 g6
      have hBO:∀j∈OB,j ∉ O2:=fun j hj hm=>(g3 j hm).elim (h8 j hj).2 (fun hl=>by have:=hBlt j hj;omega)
      have hbuf':=h6.frame (s':=s2) g2.1 fun j hj=>g2.2 j (hBlt j hj) (h8 j hj).2
      have hnx:(ext s2 [R 3 1 false (BP [(i:Int)])]).next=s2.next+1:=by rw[Wm,AF];rfl
      have hrd:Ad (ext s2 [R 3 1 false (BP [(i:Int)])]) (.slice (some (nid s2.next 0,0)) 1 (some 1)) [(i:Int)]:=.inr ⟨nid s2.next 0,0,some 1,rfl,by rw[hnx,AF];omega,by rw[Wg rfl (by simp)];exact Wj (cJ _)⟩
      have hbuf2:=hbuf'.frame (s':=ext s2 [R 3 1 false (BP [(i:Int)])]) (by rw[hnx];omega) fun j hj=>Wh (hbuf'.lt j hj)
      obtain⟨v2,s3,OB2,happ,hb2,hn2,hf2,hO2,hsl⟩:=hbuf2.append (xt:=27) (m:=1) Tryz.underlying27 Dt Zb (by omega) FW JG (by omega) (FI hrd) rfl (FP _) (by omega) (by omega)
      rw[hnx]at hn2 hf2 hO2
      have hne:newObj s2 (R 3 1 false (BP [(i:Int)]))=ext s2 [R 3 1 false (BP [(i:Int)])]:=by
        have:=Wl s2 [] (R 3 1 false (BP [(i:Int)]))
        rw[Ac]at this;exact this
      rw[← hne,ED]at happ
      rw[← In]at hb2
      have hsn:s.next≤s2.next:=cw h2.1 g2.1
      have hsame:∀j,j<s2.next→j ∉ OB→s3.heap.get j=s2.heap.get j:=fun j hj hB=>by rw[hf2 j (by omega) hB,Wh (by omega)]
      have hlt2:=g1.at_.lt
      have hrs:RS s3 q T2 O2:=⟨g1.at_.frame (by rw[hn2];omega) (fun j hj=>hsame j (hlt2 j hj) fun hm=>hBO j hm hj),⟨by rw[BT (hsame 1 g1.gl.2.1 fun hm=>by have:=(h8 1 hm).1;omega)];exact g1.gl.1,by rw[hn2];have:=g1.gl.2.1;omega,g1.gl.2.2⟩,g1.kl⟩
      refine⟨v2,s3,happ,?_⟩
      have:=ih (l1++[x]) s3 O2 T2 (ks++[(i:Int)]) OB2 v2 b7 b8 b9 (by rw[hll];simp) hrs ⟨by rw[hn2];omega,fun j hj hjO=>?_⟩ (h3.trans g3 h2.1) (by simp;omega) (by obtain⟨y,rfl⟩:=h5;obtain⟨z,rfl⟩:=g4;exact⟨y++z,by simp⟩) (by rw[dC];exact hb2) ?_ ?_
      · rw [hW]
        rw[show((l1++[x]).length:Int)=(l1.length:Int)+1 from by simp]at this
        exact this
      · have hjB:j ∉ OB:=fun hm=>by have:=(h8 j hm).1;omega
        rw[hsame j (by omega) hjB,g2.2 j (by have:=h2.1;omega) fun hm=>(h3 j hm).elim hjO (fun hl=>by omega),h2.2 j hj hjO]
      · intro k hk
        obtain⟨z,rfl⟩:=g4
        rcases List.mem_append.1 hk with hk | hk
        · have:=h7 k hk;simp;omega
        · rw[List.mem_singleton.1 hk];omega
      · intro j hj
        rcases hO2 j hj with hj | hj
        · exact⟨(h8 j hj).1,hBO j hj⟩
        · exact⟨by omega,fun hm=>by have:=hlt2 j hm;omega⟩
    obtain⟨j,qq,cap,rfl,hj,hld⟩:=hvr.at (k:=l1.length) (x:=x) (by rw[hll];simp)
    refine WC.loop' ?_
    rw[← hW]
    by_cases hx:(T.length:Int)≤x
    · have hd:decide ((T.length:Int)≤x)=true:=decide_eq_true hx
      simp only[G3,Nz,RX,RY,X4,RZ,Qa,Qb,Qc,Qd,Qe,Qf,Qg,Qh,Qi,Qj,Qk,Ql,Qm,Qn,true_and,and_true,Qo,Qp,Qq,Qr,Qs,Qt,Qu,Qv,Qw,Qx,Qy,Qz,Ra,Rb,Rc,Rd,Re,Rf,Rg,Rh,Ri,Rj,Rk,Rl,Rm,Ya,Yb,Yc,Rn,Ro,Xv,Yd,Ye,Rq,Rs,Rt,Ru,Rw,Rx,Ry,hlen,Rq,Ru,hlt,decide_true,AU Tryz.underlying27 Dt hltn,CV,hld,ct,hd,Rz,Wa,Wb,Wc,Wd,We,Wf,Wg,Wh,Wi,Wj,Wl,Wm,Wn,Wp,Wq,Wr,Ws,Wt,Wu,Wv,Ww,Wx,Wy,Wz,Xa,Xb,Xc,Xd,Xe,Xf,Xg,Xh,Xi,Xj,Xk,Xl,Xm,Xn,Xo,Xp,Xq,Xr,cN,cP,cO,cL,cQ,cR,List.getElem?_cons_zero,List.getElem?_cons_succ,cM,cT,cU,cV,cK,Nat.reduceAdd,Nat.reduceLT,Nat.reduceLeDiff,decide_true,decide_false,Bool.true_and,Bool.and_true,cW,cJ,Option.some.injEq,Xs,Xt,Xu,Xv]
      refine J5 hE h1 (by omega) fun i s2 O2 T2 g1 g2 g3 g4 g5 g6=>?_
      obtain⟨vo2,s3,e1,e2⟩:=hrest i s2 O2 T2 (iv (-1)) (.bool true) (.bool true) g1 g2 g3 g4 g5 g6
      simp only[Qa,Qb,Qc,Qd,Qe,Qf,Qg,Qh,Qi,Qj,Qk,Ql,Qm,Qn,true_and,and_true,Qo,Qp,Qq,Qr,Qs,Qt,Qu,Qv,Qw,Qx,Qy,Qz,Ra,Rb,Rc,Rd,Re,Rf,Rg,Rh,Ri,Rj,Rk,Rl,Rm,Ya,Yb,Yc,Rn,Ro,Xv,Yd,Ye,Rq,Rs,Rt,Ru,Rw,Rx,Ry,B0,e1,Rp,A0 _ _ _ _ hadd,Rz,Wa,Wb,Wc,Wd,We,Wf,Wg,Wh,Wi,Wj,Wl,Wm,Wn,Wp,Wq,Wr,Ws,Wt,Wu,Wv,Ww,Wx,Wy,Wz,Xa,Xb,Xc,Xd,Xe,Xf,Xg,Xh,Xi,Xj,Xk,Xl,Xm,Xn,Xo,Xp,Xq,Xr,cN,cP,cO,cL,cQ,cR,List.getElem?_cons_zero,List.getElem?_cons_succ,cM,cT,cU,cV,cK,Nat.reduceAdd,Nat.reduceLT,Nat.reduceLeDiff,decide_true,decide_false,Bool.true_and,Bool.and_true,cW,cJ,Option.some.injEq,Xs,Xt,Xu,Xv]
      exact e2
    · have hd:decide ((T.length:Int)≤x)=false:=decide_eq_false hx
      simp only[G3,Nz,RX,RY,RZ,Qa,Qb,Qc,Qd,Qe,Qf,Qg,Qh,Qi,Qj,Qk,Ql,Qm,Qn,true_and,and_true,Qo,Qp,Qq,Qr,Qs,Qt,Qu,Qv,Qw,Qx,Qy,Qz,Ra,Rb,Rc,Rd,Re,Rf,Rg,Rh,Ri,Rj,Rk,Rl,Rm,Ya,Yb,Yc,Rn,Ro,Xv,Yd,Ye,Rq,Rs,Rt,Ru,Rw,Rx,Ry,hlen,Rq,Ru,hlt,decide_true,AU Tryz.underlying27 Dt hltn,CV,hld,ct,hd,Rz,Wa,Wb,Wc,Wd,We,Wf,Wg,Wh,Wi,Wj,Wl,Wm,Wn,Wp,Wq,Wr,Ws,Wt,Wu,Wv,Ww,Wx,Wy,Wz,Xa,Xb,Xc,Xd,Xe,Xf,Xg,Xh,Xi,Xj,Xk,Xl,Xm,Xn,Xo,Xp,Xq,Xr,cN,cP,cO,cL,cQ,cR,List.getElem?_cons_zero,List.getElem?_cons_succ,cM,cT,cU,cV,cK,Nat.reduceAdd,Nat.reduceLT,Nat.reduceLeDiff,decide_true,decide_false,Bool.true_and,Bool.and_true,cW,cJ,Option.some.injEq,Xs,Xt,Xu,Xv]
      refine J5 hE h1 (by omega) fun i s2 O2 T2 g1 g2 g3 g4 g5 g6=>?_
      obtain⟨vo2,s3,e1,e2⟩:=hrest i s2 O2 T2 (iv x) (.bool true) (.bool false) g1 g2 g3 g4 g5 g6
      simp only[Qa,Qb,Qc,Qd,Qe,Qf,Qg,Qh,Qi,Qj,Qk,Ql,Qm,Qn,true_and,and_true,Qo,Qp,Qq,Qr,Qs,Qt,Qu,Qv,Qw,Qx,Qy,Qz,Ra,Rb,Rc,Rd,Re,Rf,Rg,Rh,Ri,Rj,Rk,Rl,Rm,Ya,Yb,Yc,Rn,Ro,Xv,Yd,Ye,Rq,Rs,Rt,Ru,Rw,Rx,Ry,B0,e1,Rp,A0 _ _ _ _ hadd,Rz,Wa,Wb,Wc,Wd,We,Wf,Wg,Wh,Wi,Wj,Wl,Wm,Wn,Wp,Wq,Wr,Ws,Wt,Wu,Wv,Ww,Wx,Wy,Wz,Xa,Xb,Xc,Xd,Xe,Xf,Xg,Xh,Xi,Xj,Xk,Xl,Xm,Xn,Xo,Xp,Xq,Xr,cN,cP,cO,cL,cQ,cR,List.getElem?_cons_zero,List.getElem?_cons_succ,cM,cT,cU,cV,cK,Nat.reduceAdd,Nat.reduceLT,Nat.reduceLeDiff,decide_true,decide_false,Bool.true_and,Bool.and_true,cW,cJ,Option.some.injEq,Xs,Xt,Xu,Xv]
      exact e2
theorem Ou(a:Int)(j n:Nat):AT Tryz.prog 122 (zipIdx [0,3] [iv a,.slice (some (j,0)) n none])=some (.agg ([iv a,iv 0]++Tm.nullC++[.slice (some (j,0)) n none])):=by kernel_rfl
set_option maxRecDepth 20000 in
theorem J4{E:Bb}(hE:Ah E){s:AD}{q:Nat}{T:List RT}{O:List Nat}(h:RS s q T O)(hT:T.length≤800){l:List Int}{v:AV}(hv:A2 s O v l)(h0:0<l.length)(hl:l.length≤3){kind:Int}{K:AV→AD→Prop}
    (hK:∀ (i:Nat) s' O' T',RS s' q T' O'→Bk O s s'→AR O O' s→(∃x,T'=T++x)→T'.length≤T.length+4→i<T'.length→K (iv (i:Int)) s'):WF E 83 [.ptr (some (q,0)),iv kind,v] K s:=by
  obtain⟨tv,OT,hobj,hbuf,_⟩:=h.at_.ex
  obtain⟨a,c,rfl,_⟩:=hbuf.slice
  refine hE.go Y3 (by decide) rfl ?_
  simp only[cG,X0,X1,X2,X3,Qa,Qb,Qc,Qd,Qe,Qf,Qg,Qh,Qi,Qj,Qk,Ql,Qm,Qn,true_and,and_true,Qo,Qp,Qq,Qr,Qs,Qt,Qu,Qv,Qw,Qx,Qy,Qz,Ra,Rb,Rc,Rd,Re,Rf,Rg,Rh,Ri,Rj,Rk,Rl,Rm,Ya,Yb,Yc,Rn,Ro,Xv,Yd,Ye,Rq,Rs,Rt,Ru,Rw,Rx,Ry,hobj,Cf,G0,Af Tryz.underlying78,Rz,Wa,Wb,Wc,Wd,We,Wf,Wg,Wh,Wi,Wj,Wl,Wm,Wn,Wp,Wq,Wr,Ws,Wt,Wu,Wv,Ww,Wx,Wy,Wz,Xa,Xb,Xc,Xd,Xe,Xf,Xg,Xh,Xi,Xj,Xk,Xl,Xm,Xn,Xo,Xp,Xq,Xr,cN,cP,cO,cL,cQ,cR,List.getElem?_cons_zero,List.getElem?_cons_succ,cM,cT,cU,cV,cK,Nat.reduceAdd,Nat.reduceLT,Nat.reduceLeDiff,decide_true,decide_false,Bool.true_and,Bool.and_true,cW,cJ,Option.some.injEq,Xs,Xt,Xu,Xv]
  refine MF hE hT hv hl _ _ h.gl.2.1 (fun y6 y7 y8 y9 vo s' O' T' ks OB g1 g2 g3 g4 g5 g6 g7 g8=>?_) l [] s O T [] [] _ _ _ _ rfl h (Bk.refl _ _) (AR.refl _ _) (by simp) ⟨[],by simp⟩ (C2.nil _ _ _) (fun _ h=>by cases h) (fun _ h=>by cases h)
  simp only[Qa,Qb,Qc,Qd,Qe,Qf,Qg,Qh,Qi,Qj,Qk,Ql,Qm,Qn,true_and,and_true,Qo,Qp,Qq,Qr,Qs,Qt,Qu,Qv,Qw,Qx,Qy,Qz,Ra,Rb,Rc,Rd,Re,Rf,Rg,Rh,Ri,Rj,Rk,Rl,Rm,Ya,Yb,Yc,Rn,Ro,Xv,Yd,Ye,Rq,Rs,Rt,Ru,Rw,Rx,Ry]
  rw[if_pos trivial]
  have hks:=g6.len
  rw[BI,ct]at hks
  rcases g6.row with⟨_,hz,_⟩ | ⟨j,r,rfl,hj,hjr,hh⟩
  · omega
  simp only[RW,Ou,Qa,Qb,Qc,Qd,Qe,Qf,Qg,Qh,Qi,Qj,Qk,Ql,Qm,Qn,true_and,and_true,Qo,Qp,Qq,Qr,Qs,Qt,Qu,Qv,Qw,Qx,Qy,Qz,Ra,Rb,Rc,Rd,Re,Rf,Rg,Rh,Ri,Rj,Rk,Rl,Rm,Ya,Yb,Yc,Rn,Ro,Xv,Yd,Ye,Rq,Rs,Rt,Ru,Rw,Rx,Ry]
  have hln:BF (s'.heap.get j) 0 ks.length=some (BP ks):=by
    rw[hjr,ES hh (by rw[BI,cK];exact cJ _),cM,dD (by rw[BI];exact cJ _)]
  have hu:(⟨kind,0,0,ks,.slice (some (j,0)) l.length none⟩:RT).cells=[iv kind,iv 0]++Tm.nullC++[.slice (some (j,0)) l.length none]:=rfl
  rw[← hu]
  refine OX hE g1.at_ g1.gl.1 g1.gl.2.1 (by omega) g1.kl (u:=⟨kind,0,0,ks,.slice (some (j,0)) l.length none⟩) (by show 0<11;omega) (by show ks.length≤3;omega) (.inr ⟨j,by show _=AV.slice _ ks.length _;rw[hks],g6.lt j hj,(g8 j hj).2,hln⟩) g7 fun i s2 O2 T2 e1 e2 e3 e4 e5=>?_
  simp only[Qa,Qb,Qc,Qd,Qe,Qf,Qg,Qh,Qi,Qj,Qk,Ql,Qm,Qn,true_and,and_true,Qo,Qp,Qq,Qr,Qs,Qt,Qu,Qv,Qw,Qx,Qy,Qz,Ra,Rb,Rc,Rd,Re,Rf,Rg,Rh,Ri,Rj,Rk,Rl,Rm,Ya,Yb,Yc,Rn,Ro,Xv,Yd,Ye,Rq,Rs,Rt,Ru,Rw,Rx,Ry]
  have hgr:∀x∈O2,x∈O∨s.next≤x:=fun x hx=>by
    rcases e5 x hx with h' | h' | h'
    · exact g3 x h'
    · exact .inr (cw g2.1 h')
    · have:j=x:=by simpa[I9]using h'
      rw[← this];exact .inr (g8 j hj).1
  have h1O2:1 ∉ O2:=fun hm=>(hgr 1 hm).elim h.gl.2.2 (fun hl=>by have:=h.gl.2.1;omega)
  refine hK i s2 O2 T2 ⟨e3,⟨by rw[BT (e4.2 1 g1.gl.2.1 g1.gl.2.2)];exact g1.gl.1,cg g1.gl.2.1 e4.1,h1O2⟩,fun t ht=>?_⟩ (g2.trans e4 g3) hgr ?_ ?_ e2
  · rcases e1 with rfl | rfl
    · exact g1.kl t ht
    · rcases List.mem_append.1 ht with ht | ht
      · exact g1.kl t ht
      · rw[List.mem_singleton.1 ht];show ks.length≤3;omega
  · obtain⟨y,rfl⟩:=g5
    rcases e1 with rfl | rfl
    · exact⟨y,rfl⟩
    · exact⟨_,dP _ _ _⟩
  · rcases e1 with rfl | rfl
    · omega
    · simp;omega
section
variable{E:Bb}(hE:Ah E){s:AD}{q:Nat}{T:List RT}{O:List Nat}(h:RS s q T O)(hT:T.length≤800){K:AV→AD→Prop}
  (hK:∀ (i:Nat) s' O' T',RS s' q T' O'→Bk O s s'→AR O O' s→(∃x,T'=T++x)→T'.length≤T.length+4→i<T'.length→K (iv (i:Int)) s')
include hE h hT hK
theorem UU{a b:Int}:WF E 66 [.ptr (some (q,0)),iv a,iv b] K s:=by
 refine hE.go Yy (by decide) rfl ?_
 have hlt:=h.at_.lt
 generalize hs:s.next=bb
 have hs0:s=ext s []:=(Ac s).symm
 have hap:A2 (ext s [R 3 1 false (BP [a,b])]) O (.slice (some (nid bb 0,0)) 2 (some 2)) [a,b]:=A2.of (by rw[Wg hs (by simp)];rfl) (by rw[Wm,hs,AF,AF];simp) (fun hm=>by have:=hlt _ hm;rw[AF]at this;omega) (Wj (cJ _))
 have hp:=fun(K:AV→AD→Prop) hK=>J4 (K:=K) hE (h.old AM) hT hap (by simp) (by simp) (kind:=3) hK
 rw[hs0]
 simp only[cB,XK,XL,J2,hs,Qa,Qb,Qc,Qd,Qe,Qf,Qg,Qh,Qi,Qj,Qk,Ql,Qm,Qn,true_and,and_true,Qo,Qp,Qq,Qr,Qs,Qt,Qu,Qv,Qw,Qx,Qy,Qz,Ra,Rb,Rc,Rd,Re,Rf,Rg,Rh,Ri,Rj,Rk,Rl,Rm,Ya,Yb,Yc,Rn,Ro,Xv,Yd,Ye,Rq,Rs,Rt,Ru,Rw,Rx,Ry,Rz,Wa,Wb,Wc,Wd,We,Wf,Wg,Wh,Wi,Wj,Wl,Wm,Wn,Wp,Wq,Wr,Ws,Wt,Wu,Wv,Ww,Wx,Wy,Wz,Xa,Xb,Xc,Xd,Xe,Xf,Xg,Xh,Xi,Xj,Xk,Xl,Xm,Xn,Xo,Xp,Xq,Xr,cN,cP,cO,cL,cQ,cR,List.getElem?_cons_zero,List.getElem?_cons_succ,cM,cT,cU,cV,cK,Nat.reduceAdd,Nat.reduceLT,Nat.reduceLeDiff,decide_true,decide_false,Bool.true_and,Bool.and_true,cW,cJ,Option.some.injEq,Xs,Xt,Xu,Xv]
 refine hp _ fun i s' O' T' g1 g2 g3 g4 g5 g6=>?_
 simp only[Qa,Qb,Qc,Qd,Qe,Qf,Qg,Qh,Qi,Qj,Qk,Ql,Qm,Qn,true_and,and_true,Qo,Qp,Qq,Qr,Qs,Qt,Qu,Qv,Qw,Qx,Qy,Qz,Ra,Rb,Rc,Rd,Re,Rf,Rg,Rh,Ri,Rj,Rk,Rl,Rm,Ya,Yb,Yc,Rn,Ro,Xv,Yd,Ye,Rq,Rs,Rt,Ru,Rw,Rx,Ry]
 exact hK i s' O' T' g1 ((AM.frO O).trans g2 (AR.refl O s)) (AR.trans (AR.refl O s) g3 (by rw[Wm,AF];omega)) g4 g5 g6
theorem UV{a b c:Int}:WF E 67 [.ptr (some (q,0)),iv a,iv b,iv c] K s:=by
 refine hE.go Yz (by decide) rfl ?_
 have hlt:=h.at_.lt
 generalize hs:s.next=bb
 have hs0:s=ext s []:=(Ac s).symm
 have hap:A2 (ext s [R 3 1 false (BP [a,b,c])]) O (.slice (some (nid bb 0,0)) 3 (some 3)) [a,b,c]:=A2.of (by rw[Wg hs (by simp)];rfl) (by rw[Wm,hs,AF,AF];simp) (fun hm=>by have:=hlt _ hm;rw[AF]at this;omega) (Wj (cJ _))
 have hp:=fun(K:AV→AD→Prop) hK=>J4 (K:=K) hE (h.old AM) hT hap (by simp) (by simp) (kind:=4) hK
 rw[hs0]
 simp only[cC,XM,XN,J3,hs,Qa,Qb,Qc,Qd,Qe,Qf,Qg,Qh,Qi,Qj,Qk,Ql,Qm,Qn,true_and,and_true,Qo,Qp,Qq,Qr,Qs,Qt,Qu,Qv,Qw,Qx,Qy,Qz,Ra,Rb,Rc,Rd,Re,Rf,Rg,Rh,Ri,Rj,Rk,Rl,Rm,Ya,Yb,Yc,Rn,Ro,Xv,Yd,Ye,Rq,Rs,Rt,Ru,Rw,Rx,Ry,Rz,Wa,Wb,Wc,Wd,We,Wf,Wg,Wh,Wi,Wj,Wl,Wm,Wn,Wp,Wq,Wr,Ws,Wt,Wu,Wv,Ww,Wx,Wy,Wz,Xa,Xb,Xc,Xd,Xe,Xf,Xg,Xh,Xi,Xj,Xk,Xl,Xm,Xn,Xo,Xp,Xq,Xr,cN,cP,cO,cL,cQ,cR,List.getElem?_cons_zero,List.getElem?_cons_succ,cM,cT,cU,cV,cK,Nat.reduceAdd,Nat.reduceLT,Nat.reduceLeDiff,decide_true,decide_false,Bool.true_and,Bool.and_true,cW,cJ,Option.some.injEq,Xs,Xt,Xu,Xv]
 refine hp _ fun i s' O' T' g1 g2 g3 g4 g5 g6=>?_
 simp only[Qa,Qb,Qc,Qd,Qe,Qf,Qg,Qh,Qi,Qj,Qk,Ql,Qm,Qn,true_and,and_true,Qo,Qp,Qq,Qr,Qs,Qt,Qu,Qv,Qw,Qx,Qy,Qz,Ra,Rb,Rc,Rd,Re,Rf,Rg,Rh,Ri,Rj,Rk,Rl,Rm,Ya,Yb,Yc,Rn,Ro,Xv,Yd,Ye,Rq,Rs,Rt,Ru,Rw,Rx,Ry]
 exact hK i s' O' T' g1 ((AM.frO O).trans g2 (AR.refl O s)) (AR.trans (AR.refl O s) g3 (by rw[Wm,AF];omega)) g4 g5 g6
end
set_option maxRecDepth 20000 in
theorem ZP{E:Bb}(hE:Ah E){s:AD}{q:Nat}{T:List RT}{O:List Nat}(h:RS s q T O)(hT:T.length≤800){o:Fa}(ho:o.ok)(hcon:o.con<11){K:AV→AD→Prop}
  (hK:∀ (i:Nat) s' O' T',RS s' q T' O'→Bk O s s'→AR O O' s→(∃x,T'=T++x)→T'.length≤T.length+4→i<T'.length→K (iv (i:Int)) s'):WF E 42 [.ptr (some (q,0)),.agg o.cells] K s:=by
 obtain⟨kind,id,n,a,b',c⟩:=o
 obtain⟨hkd,hn,_,_⟩:=ho
 obtain⟨tag,c1,c2,c3,c5,c6,hc,_,d1,d2,d3,d5,d6⟩:=BL n hn
 have hcells:Fa.cells ⟨kind,id,n,a,b',c⟩=[iv kind,iv id,iv tag,c1,c2,c3,.slice none 0 (some 0),c5,c6,iv a,iv b',iv c]:=by
  show [iv kind,iv id]++(Tm.con n).cells++_=_
  rw[hc];rfl
 have hkd:kind=0∨kind=1∨kind=2∨kind=3∨kind=4:=hkd
 have hst:=fun os=>h.old (AM (os:=os))
 have hend:∀os (i:Nat) s' O' T',RS s' q T' O'→Bk O (ext s os) s'→AR O O' (ext s os)→(∃x,T'=T++x)→T'.length≤T.length+4→i<T'.length→K (iv (i:Int)) s':=fun os i s' O' T' g1 g2 g3 g4 g5 g6 =>
  hK i s' O' T' g1 ((AM.frO O).trans g2 (AR.refl O s)) (AR.trans (AR.refl O s) g3 (by rw[Wm,AF];omega)) g4 g5 g6
 have hvar:=fun os (K:AV→AD→Prop) hK=>UW (K:=K) hE (hst os) (by omega) hK (id:=id)
 have hbnd:=fun os (K:AV→AD→Prop) hK=>UT (K:=K) hE (hst os) (by omega) hK (id:=id)
 have hcst:=fun os (K:AV→AD→Prop) hK=>J1 (K:=K) hE (hst os) (by omega) hK (n:=n) hcon
 have hsel:=fun os (K:AV→AD→Prop) hK=>UU (K:=K) hE (hst os) hT hK (a:=a) (b:=b')
 have hupd:=fun os (K:AV→AD→Prop) hK=>UV (K:=K) hE (hst os) hT hK (a:=a) (b:=b') (c:=c)
 rw[hc]at hcst
 rw[hcells]
 refine hE.go Yq (by decide) rfl ?_
 generalize hs:s.next=b
 have hs0:s=ext s []:=(Ac s).symm
 rw[hs0]
 rcases hkd with rfl | rfl | rfl | rfl | rfl
 ·simp only[Zd,Jc,Jd,Je,WV,Qa,Qb,Qc,Qd,Qe,Qf,Qg,Qh,Qi,Qj,Qk,Ql,Qm,Qn,true_and,and_true,Qo,Qp,Qq,Qr,Qs,Qt,Qu,Qv,Qw,Qx,Qy,Qz,Ra,Rb,Rc,Rd,Re,Rf,Rg,Rh,Ri,Rj,Rk,Rl,Rm,Ya,Yb,Yc,Rn,Ro,Xv,Yd,Ye,Rq,Rs,Rt,Ru,Rw,Rx,Ry,hs,CV,Bf,B3,Rw,Int.reduceEq,Rz,Wa,Wb,Wc,Wd,We,Wf,Wg,Wh,Wi,Wj,Wl,Wm,Wn,Wp,Wq,Wr,Ws,Wt,Wu,Wv,Ww,Wx,Wy,Wz,Xa,Xb,Xc,Xd,Xe,Xf,Xg,Xh,Xi,Xj,Xk,Xl,Xm,Xn,Xo,Xp,Xq,Xr,cN,cP,cO,cL,cQ,cR,List.getElem?_cons_zero,List.getElem?_cons_succ,cM,cT,cU,cV,cK,Nat.reduceAdd,Nat.reduceLT,Nat.reduceLeDiff,decide_true,decide_false,Bool.true_and,Bool.and_true,cW,cJ,Option.some.injEq,Xs,Xt,Xu,Xv]
  refine hvar _ _ fun i s' O' T' g1 g2 g3 g4 g5 g6=>?_
  simp only[Qa,Qb,Qc,Qd,Qe,Qf,Qg,Qh,Qi,Qj,Qk,Ql,Qm,Qn,true_and,and_true,Qo,Qp,Qq,Qr,Qs,Qt,Qu,Qv,Qw,Qx,Qy,Qz,Ra,Rb,Rc,Rd,Re,Rf,Rg,Rh,Ri,Rj,Rk,Rl,Rm,Ya,Yb,Yc,Rn,Ro,Xv,Yd,Ye,Rq,Rs,Rt,Ru,Rw,Rx,Ry]
  exact hend _ i s' O' T' g1 g2 g3 g4 (by omega) g6
 ·simp only[Zd,Jc,Jd,Je,LQ,WW,Qa,Qb,Qc,Qd,Qe,Qf,Qg,Qh,Qi,Qj,Qk,Ql,Qm,Qn,true_and,and_true,Qo,Qp,Qq,Qr,Qs,Qt,Qu,Qv,Qw,Qx,Qy,Qz,Ra,Rb,Rc,Rd,Re,Rf,Rg,Rh,Ri,Rj,Rk,Rl,Rm,Ya,Yb,Yc,Rn,Ro,Xv,Yd,Ye,Rq,Rs,Rt,Ru,Rw,Rx,Ry,hs,CV,Bf,B3,Rw,Int.reduceEq,Rz,Wa,Wb,Wc,Wd,We,Wf,Wg,Wh,Wi,Wj,Wl,Wm,Wn,Wp,Wq,Wr,Ws,Wt,Wu,Wv,Ww,Wx,Wy,Wz,Xa,Xb,Xc,Xd,Xe,Xf,Xg,Xh,Xi,Xj,Xk,Xl,Xm,Xn,Xo,Xp,Xq,Xr,cN,cP,cO,cL,cQ,cR,List.getElem?_cons_zero,List.getElem?_cons_succ,cM,cT,cU,cV,cK,Nat.reduceAdd,Nat.reduceLT,Nat.reduceLeDiff,decide_true,decide_false,Bool.true_and,Bool.and_true,cW,cJ,Option.some.injEq,Xs,Xt,Xu,Xv]
  refine hbnd _ _ fun i s' O' T' g1 g2 g3 g4 g5 g6=>?_
  simp only[Qa,Qb,Qc,Qd,Qe,Qf,Qg,Qh,Qi,Qj,Qk,Ql,Qm,Qn,true_and,and_true,Qo,Qp,Qq,Qr,Qs,Qt,Qu,Qv,Qw,Qx,Qy,Qz,Ra,Rb,Rc,Rd,Re,Rf,Rg,Rh,Ri,Rj,Rk,Rl,Rm,Ya,Yb,Yc,Rn,Ro,Xv,Yd,Ye,Rq,Rs,Rt,Ru,Rw,Rx,Ry]
  exact hend _ i s' O' T' g1 g2 g3 g4 (by omega) g6
 ·simp only[Zd,Jc,Jd,Je,LQ,Nv,WX,Qa,Qb,Qc,Qd,Qe,Qf,Qg,Qh,Qi,Qj,Qk,Ql,Qm,Qn,true_and,and_true,Qo,Qp,Qq,Qr,Qs,Qt,Qu,Qv,Qw,Qx,Qy,Qz,Ra,Rb,Rc,Rd,Re,Rf,Rg,Rh,Ri,Rj,Rk,Rl,Rm,Ya,Yb,Yc,Rn,Ro,Xv,Yd,Ye,Rq,Rs,Rt,Ru,Rw,Rx,Ry,hs,CV,II,H0,Bf,B3,SL,Rw,Int.reduceEq,Rz,Wa,Wb,Wc,Wd,We,Wf,Wg,Wh,Wi,Wj,Wl,Wm,Wn,Wp,Wq,Wr,Ws,Wt,Wu,Wv,Ww,Wx,Wy,Wz,Xa,Xb,Xc,Xd,Xe,Xf,Xg,Xh,Xi,Xj,Xk,Xl,Xm,Xn,Xo,Xp,Xq,Xr,cN,cP,cO,cL,cQ,cR,List.getElem?_cons_zero,List.getElem?_cons_succ,cM,cT,cU,cV,cK,Nat.reduceAdd,Nat.reduceLT,Nat.reduceLeDiff,decide_true,decide_false,Bool.true_and,Bool.and_true,cW,cJ,Option.some.injEq,Xs,Xt,Xu,Xv]
  refine hcst _ _ fun i s' O' T' g1 g2 g3 g4 g5 g6=>?_
  simp only[Qa,Qb,Qc,Qd,Qe,Qf,Qg,Qh,Qi,Qj,Qk,Ql,Qm,Qn,true_and,and_true,Qo,Qp,Qq,Qr,Qs,Qt,Qu,Qv,Qw,Qx,Qy,Qz,Ra,Rb,Rc,Rd,Re,Rf,Rg,Rh,Ri,Rj,Rk,Rl,Rm,Ya,Yb,Yc,Rn,Ro,Xv,Yd,Ye,Rq,Rs,Rt,Ru,Rw,Rx,Ry]
  exact hend _ i s' O' T' g1 g2 g3 g4 (by omega) g6
 ·simp only[Zd,Jc,Jd,Je,LQ,Nv,RE,WY,Qa,Qb,Qc,Qd,Qe,Qf,Qg,Qh,Qi,Qj,Qk,Ql,Qm,Qn,true_and,and_true,Qo,Qp,Qq,Qr,Qs,Qt,Qu,Qv,Qw,Qx,Qy,Qz,Ra,Rb,Rc,Rd,Re,Rf,Rg,Rh,Ri,Rj,Rk,Rl,Rm,Ya,Yb,Yc,Rn,Ro,Xv,Yd,Ye,Rq,Rs,Rt,Ru,Rw,Rx,Ry,hs,CV,Bf,Kb,OF,OG,Rw,Int.reduceEq,Rz,Wa,Wb,Wc,Wd,We,Wf,Wg,Wh,Wi,Wj,Wl,Wm,Wn,Wp,Wq,Wr,Ws,Wt,Wu,Wv,Ww,Wx,Wy,Wz,Xa,Xb,Xc,Xd,Xe,Xf,Xg,Xh,Xi,Xj,Xk,Xl,Xm,Xn,Xo,Xp,Xq,Xr,cN,cP,cO,cL,cQ,cR,List.getElem?_cons_zero,List.getElem?_cons_succ,cM,cT,cU,cV,cK,Nat.reduceAdd,Nat.reduceLT,Nat.reduceLeDiff,decide_true,decide_false,Bool.true_and,Bool.and_true,cW,cJ,Option.some.injEq,Xs,Xt,Xu,Xv]
  refine hsel _ _ fun i s' O' T' g1 g2 g3 g4 g5 g6=>?_
  simp only[Qa,Qb,Qc,Qd,Qe,Qf,Qg,Qh,Qi,Qj,Qk,Ql,Qm,Qn,true_and,and_true,Qo,Qp,Qq,Qr,Qs,Qt,Qu,Qv,Qw,Qx,Qy,Qz,Ra,Rb,Rc,Rd,Re,Rf,Rg,Rh,Ri,Rj,Rk,Rl,Rm,Ya,Yb,Yc,Rn,Ro,Xv,Yd,Ye,Rq,Rs,Rt,Ru,Rw,Rx,Ry]
  exact hend _ i s' O' T' g1 g2 g3 g4 g5 g6
 ·simp only[Zd,Jc,Jd,Je,LQ,Nv,RE,RD,Qa,Qb,Qc,Qd,Qe,Qf,Qg,Qh,Qi,Qj,Qk,Ql,Qm,Qn,true_and,and_true,Qo,Qp,Qq,Qr,Qs,Qt,Qu,Qv,Qw,Qx,Qy,Qz,Ra,Rb,Rc,Rd,Re,Rf,Rg,Rh,Ri,Rj,Rk,Rl,Rm,Ya,Yb,Yc,Rn,Ro,Xv,Yd,Ye,Rq,Rs,Rt,Ru,Rw,Rx,Ry,hs,CV,Bf,Kb,OF,OG,X6,Rw,Int.reduceEq,Rz,Wa,Wb,Wc,Wd,We,Wf,Wg,Wh,Wi,Wj,Wl,Wm,Wn,Wp,Wq,Wr,Ws,Wt,Wu,Wv,Ww,Wx,Wy,Wz,Xa,Xb,Xc,Xd,Xe,Xf,Xg,Xh,Xi,Xj,Xk,Xl,Xm,Xn,Xo,Xp,Xq,Xr,cN,cP,cO,cL,cQ,cR,List.getElem?_cons_zero,List.getElem?_cons_succ,cM,cT,cU,cV,cK,Nat.reduceAdd,Nat.reduceLT,Nat.reduceLeDiff,decide_true,decide_false,Bool.true_and,Bool.and_true,cW,cJ,Option.some.injEq,Xs,Xt,Xu,Xv]
  refine hupd _ _ fun i s' O' T' g1 g2 g3 g4 g5 g6=>?_
  simp only[Qa,Qb,Qc,Qd,Qe,Qf,Qg,Qh,Qi,Qj,Qk,Ql,Qm,Qn,true_and,and_true,Qo,Qp,Qq,Qr,Qs,Qt,Qu,Qv,Qw,Qx,Qy,Qz,Ra,Rb,Rc,Rd,Re,Rf,Rg,Rh,Ri,Rj,Rk,Rl,Rm,Ya,Yb,Yc,Rn,Ro,Xv,Yd,Ye,Rq,Rs,Rt,Ru,Rw,Rx,Ry]
  exact hend _ i s' O' T' g1 g2 g3 g4 g5 g6
theorem GL:Cw Tryz.prog 5=some false:=by kernel_rfl
theorem Cb(n m:Int):AQ Tryz.prog .eql 5 (.int .u8 n) (.int .u8 m)=some (.bool (decide (n=m))):=by
 show some (AV.bool (N9 n m))=_
 rw[Cy]
 by_cases h:n=m<;>simp[h]
theorem Bo(k:IntKind)(n:Int):K9 (.int k n) (.int k n)=true:=by
 cases k<;>simp[K9,Bg,Cy]
theorem NG{n m:Nat}(hm:0<m):AQ Tryz.prog .rem 5 (CY n) (CY m)=some (CY (n % m)):=by
 have:=H3 (P:=Tryz.prog) (t:=5) (k:=.u8) (a:=(n:Int)) (b:=(m:Int)) (by omega) (by omega)
 rw[this];rfl
theorem Tt(a b c:Int):AT Tryz.prog 44 (zipIdx [0,1,2] [iv a,iv b,iv c])=some (.agg [iv a,iv b,iv c]):=by kernel_rfl
theorem Zs(c0 c1 c2 c3 c4 c5 c6:AV)(i a b c:Int):AT Tryz.prog 46 (zipIdx [2,1,3] [.agg [c0,c1,c2,c3,c4,c5,c6],iv i,.agg [iv a,iv b,iv c]])=some (.agg [iv 0,iv i,c0,c1,c2,c3,c4,c5,c6,iv a,iv b,iv c]):=by kernel_rfl
def Sq:List AV:=[iv 0,iv 0,iv 0,.bool false,.str [],.str [],.slice none 0 (some 0),.slice none 0 (some 0),iv 0,iv 0,iv 0,iv 0]
set_option maxRecDepth 20000 in
theorem ZR{E:Bb}(hE:Ah E){s:AD}{q:Nat}{T:List RT}{O:List Nat}(h:Nf s q T O)(hT:T.length≤900)(hkl:∀t∈T,t.kids.length≤3){w A B C:Nat}(hw:w<256)(hA:A<256)(hB:B<256)(hC:C<256){K:AV→AD→Prop}
  (hK:∀ (o:Fa) s',o.ok→o.con<11→BK s.next s s'→K (.agg o.cells) s'):WF E 41 [.agg [CY w,CY A,CY B,CY C],.ptr (some (q,0))] K s:=by
 obtain⟨tag,c1,c2,c3,c5,c6,hc,_,d1,d2,d3,d5,d6⟩:=BL (A % 11) (by omega)
 have hm7:=Nat.mod_lt A (show 0<7 by omega)
 have hm5:=Nat.mod_lt A (show 0<5 by omega)
 have hr7:AQ Tryz.prog .rem 5 (CY A) (.int .u8 7)=some (CY (A % 7)):=NG (n:=A) (m:=7) (by omega)
 have hr5:AQ Tryz.prog .rem 5 (CY A) (.int .u8 5)=some (CY (A % 5)):=NG (n:=A) (m:=5) (by omega)
 have hc7:=fun s=>GS (s:=s) (n:=A % 7) (by omega)
 have hc5:=fun s=>GS (s:=s) (n:=A % 5) (by omega)
 have hi2:i64 (((A % 7:Nat):Int) - 2):=by unfold i64;omega
 have hend:∀ (kd:Int) (id a b c:Int) s',(kd=0∨kd=1∨kd=2∨kd=3∨kd=4)→-1000≤id→id≤900→BK s.next s s'→K (.agg [iv kd,iv id,iv tag,c1,c2,c3,.slice none 0 (some 0),c5,c6,iv a,iv b,iv c]) s':=by
  intro kd id a b c s' h1 h2 h3 h4
  have:=hK ⟨kd,id,A % 11,a,b,c⟩ s' ⟨h1,by show A % 11<13;omega,h2,h3⟩ (by show A % 11<11;omega) h4
  have hcells:Fa.cells ⟨kd,id,A % 11,a,b,c⟩=[iv kd,iv id,iv tag,c1,c2,c3,.slice none 0 (some 0),c5,c6,iv a,iv b,iv c]:=by
   show [iv kd,iv id]++(Tm.con (A % 11)).cells++_=_
   rw[hc];rfl
  rwa[hcells]at this
 have hdata:=fun(s:AD) (K:AV→AD→Prop) hK=>T8 (K:=K) hE (s:=s) (n:=A) hA hK
 rw[hc]at hdata
 have hpart:=fun(s':AD) (ho:BK s.next s s') (n:Nat) hn (K:AV→AD→Prop) hK=>TU (K:=K) hE (h.old ho) hT hkl (n:=n) hn hK
 refine hE.go Yp (by decide) rfl ?_
 generalize hs:s.next=b at hend hpart
 have hs0:s=ext s []:=(Ac s).symm
 rw[hs0]
 simp only[bw,WQ,WS,Qa,Qb,Qc,Qd,Qe,Qf,Qg,Qh,Qi,Qj,Qk,Ql,Qm,Qn,true_and,and_true,Qo,Qp,Qq,Qr,Qs,Qt,Qu,Qv,Qw,Qx,Qy,Qz,Ra,Rb,Rc,Rd,Re,Rf,Rg,Rh,Ri,Rj,Rk,Rl,Rm,Ya,Yb,Yc,Rn,Ro,Xv,Yd,Ye,Rq,Rs,Rt,Ru,Rw,Rx,Ry,hs,az,GL,DW,Y9,ZA,hr7,hc7,FM _ _ _ _ hi2,Rz,Wa,Wb,Wc,Wd,We,Wf,Wg,Wh,Wi,Wj,Wl,Wm,Wn,Wp,Wq,Wr,Ws,Wt,Wu,Wv,Ww,Wx,Wy,Wz,Xa,Xb,Xc,Xd,Xe,Xf,Xg,Xh,Xi,Xj,Xk,Xl,Xm,Xn,Xo,Xp,Xq,Xr,cN,cP,cO,cL,cQ,cR,List.getElem?_cons_zero,List.getElem?_cons_succ,cM,cT,cU,cV,cK,Nat.reduceAdd,Nat.reduceLT,Nat.reduceLeDiff,decide_true,decide_false,Bool.true_and,Bool.and_true,cW,cJ,Option.some.injEq,Xs,Xt,Xu,Xv]
 have hstep:∀s1 s2,(BK b s s1∧s1.heap.get (nid b 0)=some (R 82 0 false [CY w,CY A,CY B,CY C])∧s1.heap.get (nid b 1)=some (R 46 0 false Sq)∧s1.heap.get (nid b 2)=some (R 46 0 false Sq)∧b+3≤s1.next)→BK s1.next s1 s2 →
   (BK b s s2∧s2.heap.get (nid b 0)=some (R 82 0 false [CY w,CY A,CY B,CY C])∧s2.heap.get (nid b 1)=some (R 46 0 false Sq)∧s2.heap.get (nid b 2)=some (R 46 0 false Sq)∧b+3≤s2.next):=by
  rintro s1 s2 ⟨h0,h1,h2,h3,h4⟩ ho
  exact⟨h0.trans (ho.mono (by omega)),by rw[ho.2 _ (by rw[AF];omega)];exact h1,by rw[ho.2 _ (by rw[AF];omega)];exact h2,by rw[ho.2 _ (by rw[AF];omega)];exact h3,cw h4 ho.1⟩
 have hfirst:(fun s1:AD=>BK b s s1∧s1.heap.get (nid b 0)=some (R 82 0 false [CY w,CY A,CY B,CY C])∧s1.heap.get (nid b 1)=some (R 46 0 false Sq)∧s1.heap.get (nid b 2)=some (R 46 0 false Sq)∧b+3≤s1.next) (ext s [R 82 0 false [CY w,CY A,CY B,CY C],R 46 0 false Sq,R 46 0 false Sq]):=
  ⟨by rw[← hs];exact AM,by rw[Wg hs (by simp)];rfl,by rw[Wg hs (by simp)];rfl,by rw[Wg hs (by simp)];rfl,by rw[Wm,hs,AF];exact cJ _⟩
 refine hdata _ _ fun s1 e1=>?_
 have f1:=hstep _ s1 hfirst e1
 have g1:=f1.2.1
 refine⟨⟨BA ?_ (Bo _ _),BA ?_ (Bo _ _),BA ?_ (Bo _ _),BA ?_ (Bo _ _),BA ?_ (Bo _ _),trivial⟩,?_⟩
 ·simp only[Qa,Qb,Qc,Qd,Qe,Qf,Qg,Qh,Qi,Qj,Qk,Ql,Qm,Qn,true_and,and_true,Qo,Qp,Qq,Qr,Qs,Qt,Qu,Qv,Qw,Qx,Qy,Qz,Ra,Rb,Rc,Rd,Re,Rf,Rg,Rh,Ri,Rj,Rk,Rl,Rm,Ya,Yb,Yc,Rn,Ro,Xv,Yd,Ye,Rq,Rs,Rt,Ru,Rw,Rx,Ry,GL,g1,Rz,Wa,Wb,Wc,Wd,We,Wf,Wg,Wh,Wi,Wj,Wl,Wm,Wn,Wp,Wq,Wr,Ws,Wt,Wu,Wv,Ww,Wx,Wy,Wz,Xa,Xb,Xc,Xd,Xe,Xf,Xg,Xh,Xi,Xj,Xk,Xl,Xm,Xn,Xo,Xp,Xq,Xr,cN,cP,cO,cL,cQ,cR,List.getElem?_cons_zero,List.getElem?_cons_succ,cM,cT,cU,cV,cK,Nat.reduceAdd,Nat.reduceLT,Nat.reduceLeDiff,decide_true,decide_false,Bool.true_and,Bool.and_true,cW,cJ,Option.some.injEq,Xs,Xt,Xu,Xv]
 ·simp only[Qa,Qb,Qc,Qd,Qe,Qf,Qg,Qh,Qi,Qj,Qk,Ql,Qm,Qn,true_and,and_true,Qo,Qp,Qq,Qr,Qs,Qt,Qu,Qv,Qw,Qx,Qy,Qz,Ra,Rb,Rc,Rd,Re,Rf,Rg,Rh,Ri,Rj,Rk,Rl,Rm,Ya,Yb,Yc,Rn,Ro,Xv,Yd,Ye,Rq,Rs,Rt,Ru,Rw,Rx,Ry,GL,g1,Rz,Wa,Wb,Wc,Wd,We,Wf,Wg,Wh,Wi,Wj,Wl,Wm,Wn,Wp,Wq,Wr,Ws,Wt,Wu,Wv,Ww,Wx,Wy,Wz,Xa,Xb,Xc,Xd,Xe,Xf,Xg,Xh,Xi,Xj,Xk,Xl,Xm,Xn,Xo,Xp,Xq,Xr,cN,cP,cO,cL,cQ,cR,List.getElem?_cons_zero,List.getElem?_cons_succ,cM,cT,cU,cV,cK,Nat.reduceAdd,Nat.reduceLT,Nat.reduceLeDiff,decide_true,decide_false,Bool.true_and,Bool.and_true,cW,cJ,Option.some.injEq,Xs,Xt,Xu,Xv]
 ·simp only[Qa,Qb,Qc,Qd,Qe,Qf,Qg,Qh,Qi,Qj,Qk,Ql,Qm,Qn,true_and,and_true,Qo,Qp,Qq,Qr,Qs,Qt,Qu,Qv,Qw,Qx,Qy,Qz,Ra,Rb,Rc,Rd,Re,Rf,Rg,Rh,Ri,Rj,Rk,Rl,Rm,Ya,Yb,Yc,Rn,Ro,Xv,Yd,Ye,Rq,Rs,Rt,Ru,Rw,Rx,Ry,GL,g1,Rz,Wa,Wb,Wc,Wd,We,Wf,Wg,Wh,Wi,Wj,Wl,Wm,Wn,Wp,Wq,Wr,Ws,Wt,Wu,Wv,Ww,Wx,Wy,Wz,Xa,Xb,Xc,Xd,Xe,Xf,Xg,Xh,Xi,Xj,Xk,Xl,Xm,Xn,Xo,Xp,Xq,Xr,cN,cP,cO,cL,cQ,cR,List.getElem?_cons_zero,List.getElem?_cons_succ,cM,cT,cU,cV,cK,Nat.reduceAdd,Nat.reduceLT,Nat.reduceLeDiff,decide_true,decide_false,Bool.true_and,Bool.and_true,cW,cJ,Option.some.injEq,Xs,Xt,Xu,Xv]
 ·exact hc7 _
 ·simp only[Qa,Qb,Qc,Qd,Qe,Qf,Qg,Qh,Qi,Qj,Qk,Ql,Qm,Qn,true_and,and_true,Qo,Qp,Qq,Qr,Qs,Qt,Qu,Qv,Qw,Qx,Qy,Qz,Ra,Rb,Rc,Rd,Re,Rf,Rg,Rh,Ri,Rj,Rk,Rl,Rm,Ya,Yb,Yc,Rn,Ro,Xv,Yd,Ye,Rq,Rs,Rt,Ru,Rw,Rx,Ry,GL,g1,Rz,Wa,Wb,Wc,Wd,We,Wf,Wg,Wh,Wi,Wj,Wl,Wm,Wn,Wp,Wq,Wr,Ws,Wt,Wu,Wv,Ww,Wx,Wy,Wz,Xa,Xb,Xc,Xd,Xe,Xf,Xg,Xh,Xi,Xj,Xk,Xl,Xm,Xn,Xo,Xp,Xq,Xr,cN,cP,cO,cL,cQ,cR,List.getElem?_cons_zero,List.getElem?_cons_succ,cM,cT,cU,cV,cK,Nat.reduceAdd,Nat.reduceLT,Nat.reduceLeDiff,decide_true,decide_false,Bool.true_and,Bool.and_true,cW,cJ,Option.some.injEq,Xs,Xt,Xu,Xv]
 refine hpart s1 f1.1 A hA _ fun pa s2 e2=>?_
 have f2:=hstep _ s2 f1 e2
 have g2:=f2.2.1
 refine⟨⟨BA ?_ (Bo _ _),BA ?_ (Bo _ _),BA ?_ (Bo _ _),BA ?_ (Bo _ _),trivial⟩,?_⟩
 ·simp only[Qa,Qb,Qc,Qd,Qe,Qf,Qg,Qh,Qi,Qj,Qk,Ql,Qm,Qn,true_and,and_true,Qo,Qp,Qq,Qr,Qs,Qt,Qu,Qv,Qw,Qx,Qy,Qz,Ra,Rb,Rc,Rd,Re,Rf,Rg,Rh,Ri,Rj,Rk,Rl,Rm,Ya,Yb,Yc,Rn,Ro,Xv,Yd,Ye,Rq,Rs,Rt,Ru,Rw,Rx,Ry,GL,g2,Rz,Wa,Wb,Wc,Wd,We,Wf,Wg,Wh,Wi,Wj,Wl,Wm,Wn,Wp,Wq,Wr,Ws,Wt,Wu,Wv,Ww,Wx,Wy,Wz,Xa,Xb,Xc,Xd,Xe,Xf,Xg,Xh,Xi,Xj,Xk,Xl,Xm,Xn,Xo,Xp,Xq,Xr,cN,cP,cO,cL,cQ,cR,List.getElem?_cons_zero,List.getElem?_cons_succ,cM,cT,cU,cV,cK,Nat.reduceAdd,Nat.reduceLT,Nat.reduceLeDiff,decide_true,decide_false,Bool.true_and,Bool.and_true,cW,cJ,Option.some.injEq,Xs,Xt,Xu,Xv]
 ·simp only[Qa,Qb,Qc,Qd,Qe,Qf,Qg,Qh,Qi,Qj,Qk,Ql,Qm,Qn,true_and,and_true,Qo,Qp,Qq,Qr,Qs,Qt,Qu,Qv,Qw,Qx,Qy,Qz,Ra,Rb,Rc,Rd,Re,Rf,Rg,Rh,Ri,Rj,Rk,Rl,Rm,Ya,Yb,Yc,Rn,Ro,Xv,Yd,Ye,Rq,Rs,Rt,Ru,Rw,Rx,Ry,GL,g2,Rz,Wa,Wb,Wc,Wd,We,Wf,Wg,Wh,Wi,Wj,Wl,Wm,Wn,Wp,Wq,Wr,Ws,Wt,Wu,Wv,Ww,Wx,Wy,Wz,Xa,Xb,Xc,Xd,Xe,Xf,Xg,Xh,Xi,Xj,Xk,Xl,Xm,Xn,Xo,Xp,Xq,Xr,cN,cP,cO,cL,cQ,cR,List.getElem?_cons_zero,List.getElem?_cons_succ,cM,cT,cU,cV,cK,Nat.reduceAdd,Nat.reduceLT,Nat.reduceLeDiff,decide_true,decide_false,Bool.true_and,Bool.and_true,cW,cJ,Option.some.injEq,Xs,Xt,Xu,Xv]
 ·exact hc7 _
 ·simp only[Qa,Qb,Qc,Qd,Qe,Qf,Qg,Qh,Qi,Qj,Qk,Ql,Qm,Qn,true_and,and_true,Qo,Qp,Qq,Qr,Qs,Qt,Qu,Qv,Qw,Qx,Qy,Qz,Ra,Rb,Rc,Rd,Re,Rf,Rg,Rh,Ri,Rj,Rk,Rl,Rm,Ya,Yb,Yc,Rn,Ro,Xv,Yd,Ye,Rq,Rs,Rt,Ru,Rw,Rx,Ry,GL,g2,Rz,Wa,Wb,Wc,Wd,We,Wf,Wg,Wh,Wi,Wj,Wl,Wm,Wn,Wp,Wq,Wr,Ws,Wt,Wu,Wv,Ww,Wx,Wy,Wz,Xa,Xb,Xc,Xd,Xe,Xf,Xg,Xh,Xi,Xj,Xk,Xl,Xm,Xn,Xo,Xp,Xq,Xr,cN,cP,cO,cL,cQ,cR,List.getElem?_cons_zero,List.getElem?_cons_succ,cM,cT,cU,cV,cK,Nat.reduceAdd,Nat.reduceLT,Nat.reduceLeDiff,decide_true,decide_false,Bool.true_and,Bool.and_true,cW,cJ,Option.some.injEq,Xs,Xt,Xu,Xv]
 refine hpart s2 f2.1 B hB _ fun pb s3 e3=>?_
 have f3:=hstep _ s3 f2 e3
 have g3:=f3.2.1
 refine⟨⟨BA ?_ (Bo _ _),BA ?_ (Bo _ _),BA ?_ (Bo _ _),trivial⟩,?_⟩
 ·simp only[Qa,Qb,Qc,Qd,Qe,Qf,Qg,Qh,Qi,Qj,Qk,Ql,Qm,Qn,true_and,and_true,Qo,Qp,Qq,Qr,Qs,Qt,Qu,Qv,Qw,Qx,Qy,Qz,Ra,Rb,Rc,Rd,Re,Rf,Rg,Rh,Ri,Rj,Rk,Rl,Rm,Ya,Yb,Yc,Rn,Ro,Xv,Yd,Ye,Rq,Rs,Rt,Ru,Rw,Rx,Ry,GL,g3,Rz,Wa,Wb,Wc,Wd,We,Wf,Wg,Wh,Wi,Wj,Wl,Wm,Wn,Wp,Wq,Wr,Ws,Wt,Wu,Wv,Ww,Wx,Wy,Wz,Xa,Xb,Xc,Xd,Xe,Xf,Xg,Xh,Xi,Xj,Xk,Xl,Xm,Xn,Xo,Xp,Xq,Xr,cN,cP,cO,cL,cQ,cR,List.getElem?_cons_zero,List.getElem?_cons_succ,cM,cT,cU,cV,cK,Nat.reduceAdd,Nat.reduceLT,Nat.reduceLeDiff,decide_true,decide_false,Bool.true_and,Bool.and_true,cW,cJ,Option.some.injEq,Xs,Xt,Xu,Xv]
 ·exact hc7 _
 ·simp only[Qa,Qb,Qc,Qd,Qe,Qf,Qg,Qh,Qi,Qj,Qk,Ql,Qm,Qn,true_and,and_true,Qo,Qp,Qq,Qr,Qs,Qt,Qu,Qv,Qw,Qx,Qy,Qz,Ra,Rb,Rc,Rd,Re,Rf,Rg,Rh,Ri,Rj,Rk,Rl,Rm,Ya,Yb,Yc,Rn,Ro,Xv,Yd,Ye,Rq,Rs,Rt,Ru,Rw,Rx,Ry,GL,g3,Rz,Wa,Wb,Wc,Wd,We,Wf,Wg,Wh,Wi,Wj,Wl,Wm,Wn,Wp,Wq,Wr,Ws,Wt,Wu,Wv,Ww,Wx,Wy,Wz,Xa,Xb,Xc,Xd,Xe,Xf,Xg,Xh,Xi,Xj,Xk,Xl,Xm,Xn,Xo,Xp,Xq,Xr,cN,cP,cO,cL,cQ,cR,List.getElem?_cons_zero,List.getElem?_cons_succ,cM,cT,cU,cV,cK,Nat.reduceAdd,Nat.reduceLT,Nat.reduceLeDiff,decide_true,decide_false,Bool.true_and,Bool.and_true,cW,cJ,Option.some.injEq,Xs,Xt,Xu,Xv]
 refine hpart s3 f3.1 C hC _ fun pc s4 e4=>?_
 obtain⟨o4,g40,g41,g42,n4⟩:=hstep _ s4 f3 e4
 refine⟨⟨BA ?_ (Bo _ _),BA ?_ (Bo _ _),trivial⟩,?_⟩
 ·exact hc7 _
 ·simp only[Qa,Qb,Qc,Qd,Qe,Qf,Qg,Qh,Qi,Qj,Qk,Ql,Qm,Qn,true_and,and_true,Qo,Qp,Qq,Qr,Qs,Qt,Qu,Qv,Qw,Qx,Qy,Qz,Ra,Rb,Rc,Rd,Re,Rf,Rg,Rh,Ri,Rj,Rk,Rl,Rm,Ya,Yb,Yc,Rn,Ro,Xv,Yd,Ye,Rq,Rs,Rt,Ru,Rw,Rx,Ry,GL,g40,Rz,Wa,Wb,Wc,Wd,We,Wf,Wg,Wh,Wi,Wj,Wl,Wm,Wn,Wp,Wq,Wr,Ws,Wt,Wu,Wv,Ww,Wx,Wy,Wz,Xa,Xb,Xc,Xd,Xe,Xf,Xg,Xh,Xi,Xj,Xk,Xl,Xm,Xn,Xo,Xp,Xq,Xr,cN,cP,cO,cL,cQ,cR,List.getElem?_cons_zero,List.getElem?_cons_succ,cM,cT,cU,cV,cK,Nat.reduceAdd,Nat.reduceLT,Nat.reduceLeDiff,decide_true,decide_false,Bool.true_and,Bool.and_true,cW,cJ,Option.some.injEq,Xs,Xt,Xu,Xv]
 have l0:nid b 0<s4.next:=by rw[AF];omega
 have l1:nid b 1<s4.next:=by rw[AF];omega
 have l2:nid b 2<s4.next:=by rw[AF];omega
 have hs4:s4=ext s4 []:=(Ac s4).symm
 have n01:nid b 0≠nid b 1:=by rw[AF,AF];omega
 have n02:nid b 0≠nid b 2:=by rw[AF,AF];omega
 have n12:nid b 1≠nid b 2:=by rw[AF,AF];omega
 have n21:nid b 2≠nid b 1:=by rw[AF,AF];omega
 have hw8:w % 8=0∨w % 8=1∨w % 8=2∨w % 8=3∨w % 8=4∨w % 8=5∨w % 8=6∨w % 8=7:=by omega
 have hr8:AQ Tryz.prog .rem 5 (CY w) (.int .u8 8)=some (CY (w % 8)):=NG (n:=w) (m:=8) (by omega)
 have hold5:∀X,BK b s (setObj s4 (nid b 2) X)∧(setObj s4 (nid b 2) X).heap.get (nid b 0)=some (R 82 0 false [CY w,CY A,CY B,CY C])∧(setObj s4 (nid b 2) X).heap.get (nid b 1)=some (R 46 0 false Sq)∧(setObj s4 (nid b 2) X).heap.get (nid b 2)=some X∧nid b 1<(setObj s4 (nid b 2) X).next∧nid b 2<(setObj s4 (nid b 2) X).next:=by
  intro X
  refine⟨⟨o4.1,fun j hj=>?_⟩,by rw[Wr _ n02];exact g40,by rw[Wr _ n12];exact g41,Wq _ _ _,l1,l2⟩
  rw[Wr _ (by rw[AF];omega)]
  exact o4.2 j hj
 simp only[Tt,Zs,Qa,Qb,Qc,Qd,Qe,Qf,Qg,Qh,Qi,Qj,Qk,Ql,Qm,Qn,true_and,and_true,Qo,Qp,Qq,Qr,Qs,Qt,Qu,Qv,Qw,Qx,Qy,Qz,Ra,Rb,Rc,Rd,Re,Rf,Rg,Rh,Ri,Rj,Rk,Rl,Rm,Ya,Yb,Yc,Rn,Ro,Xv,Yd,Ye,Rq,Rs,Rt,Ru,Rw,Rx,Ry,g42,Sq,l2,GK,Fe,d1,d2,d3,d5,d6,Rz,Wa,Wb,Wc,Wd,We,Wf,Wg,Wh,Wi,Wj,Wl,Wm,Wn,Wp,Wq,Wr,Ws,Wt,Wu,Wv,Ww,Wx,Wy,Wz,Xa,Xb,Xc,Xd,Xe,Xf,Xg,Xh,Xi,Xj,Xk,Xl,Xm,Xn,Xo,Xp,Xq,Xr,cN,cP,cO,cL,cQ,cR,List.getElem?_cons_zero,List.getElem?_cons_succ,cM,cT,cU,cV,cK,Nat.reduceAdd,Nat.reduceLT,Nat.reduceLeDiff,decide_true,decide_false,Bool.true_and,Bool.and_true,cW,cJ,Option.some.injEq,Xs,Xt,Xu,Xv]
 have hX:=hold5 (R 46 0 false [iv 0,iv (((A % 7:Nat):Int) - 2),iv tag,c1,c2,c3,.slice none 0 (some 0),c5,c6,iv pa,iv pb,iv pc])
 generalize setObj s4 (nid b 2) (R 46 0 false [iv 0,iv (((A % 7:Nat):Int) - 2),iv tag,c1,c2,c3,.slice none 0 (some 0),c5,c6,iv pa,iv pb,iv pc])=s5 at hX ⊢
 obtain⟨o5,g50,g51,g52,l51,l52⟩:=hX
 rw[Sq]at g51
 have hend':∀ (kd:Int) (id:Int) s' X Y,(kd=0∨kd=1∨kd=2∨kd=3∨kd=4)→-1000≤id→id≤900→s'=setObj (setObj s5 (nid b 2) X) (nid b 1) Y→K (.agg [iv kd,iv id,iv tag,c1,c2,c3,.slice none 0 (some 0),c5,c6,iv pa,iv pb,iv pc]) s':=by
  rintro kd id s' X Y h1 h2 h3 rfl
  refine hend kd id _ _ _ _ h1 h2 h3 ⟨o5.1,fun j hj=>?_⟩
  rw[Wr _ (by rw[AF];omega),Wr _ (by rw[AF];omega)]
  exact o5.2 j hj
 have g51s:∀X,(setObj s5 (nid b 2) X).heap.get (nid b 1)=some (R 46 0 false [iv 0,iv 0,iv 0,.bool false,.str [],.str [],.slice none 0 (some 0),.slice none 0 (some 0),iv 0,iv 0,iv 0,iv 0]):=fun X=>by rw[Wr _ n12];exact g51
 have g50s:∀X,(setObj s5 (nid b 2) X).heap.get (nid b 0)=some (R 82 0 false [CY w,CY A,CY B,CY C]):=fun X=>by rw[Wr _ n02];exact g50
 have g51t:∀X Y,(setObj (setObj s5 (nid b 2) X) (nid b 2) Y).heap.get (nid b 1)=some (R 46 0 false [iv 0,iv 0,iv 0,.bool false,.str [],.str [],.slice none 0 (some 0),.slice none 0 (some 0),iv 0,iv 0,iv 0,iv 0]):=fun X Y=>by rw[Wr _ n12,Wr _ n12];exact g51
 rcases hw8 with e | e | e | e | e | e | e | e
 ·rw[e]at hr8
  have hr8:AQ Tryz.prog .rem 5 (CY w) (.int .u8 8)=some (.int .u8 0):=hr8
  simp only[GM,Qa,Qb,Qc,Qd,Qe,Qf,Qg,Qh,Qi,Qj,Qk,Ql,Qm,Qn,true_and,and_true,Qo,Qp,Qq,Qr,Qs,Qt,Qu,Qv,Qw,Qx,Qy,Qz,Ra,Rb,Rc,Rd,Re,Rf,Rg,Rh,Ri,Rj,Rk,Rl,Rm,Ya,Yb,Yc,Rn,Ro,Xv,Yd,Ye,Rq,Rs,Rt,Ru,Rw,Rx,Ry,g50,GL,Ez,hr8,Rz,Wa,Wb,Wc,Wd,We,Wf,Wg,Wh,Wi,Wj,Wl,Wm,Wn,Wp,Wq,Wr,Ws,Wt,Wu,Wv,Ww,Wx,Wy,Wz,Xa,Xb,Xc,Xd,Xe,Xf,Xg,Xh,Xi,Xj,Xk,Xl,Xm,Xn,Xo,Xp,Xq,Xr,cN,cP,cO,cL,cQ,cR,List.getElem?_cons_zero,List.getElem?_cons_succ,cM,cT,cU,cV,cK,Nat.reduceAdd,Nat.reduceLT,Nat.reduceLeDiff,decide_true,decide_false,Bool.true_and,Bool.and_true,cW,cJ,Option.some.injEq,Xs,Xt,Xu,Xv]
  simp only[GN,RC,EN,Qa,Qb,Qc,Qd,Qe,Qf,Qg,Qh,Qi,Qj,Qk,Ql,Qm,Qn,true_and,and_true,Qo,Qp,Qq,Qr,Qs,Qt,Qu,Qv,Qw,Qx,Qy,Qz,Ra,Rb,Rc,Rd,Re,Rf,Rg,Rh,Ri,Rj,Rk,Rl,Rm,Ya,Yb,Yc,Rn,Ro,Xv,Yd,Ye,Rq,Rs,Rt,Ru,Rw,Rx,Ry,g50,g50s,g51s,g51t,g52,l51,l52,n01,n02,n12,n21,GL,GK,Fe,CV,Dt,DW,Bf,B3,d1,d2,d3,d5,d6,hr5,hc5,Cb,Int.reduceEq,An,Rz,Wa,Wb,Wc,Wd,We,Wf,Wg,Wh,Wi,Wj,Wl,Wm,Wn,Wp,Wq,Wr,Ws,Wt,Wu,Wv,Ww,Wx,Wy,Wz,Xa,Xb,Xc,Xd,Xe,Xf,Xg,Xh,Xi,Xj,Xk,Xl,Xm,Xn,Xo,Xp,Xq,Xr,cN,cP,cO,cL,cQ,cR,List.getElem?_cons_zero,List.getElem?_cons_succ,cM,cT,cU,cV,cK,Nat.reduceAdd,Nat.reduceLT,Nat.reduceLeDiff,decide_true,decide_false,Bool.true_and,Bool.and_true,cW,cJ,Option.some.injEq,Xs,Xt,Xu,Xv]
  refine hend' 0 _ _ _ _ (by decide) ?_ ?_ rfl<;>omega
 ·rw[e]at hr8
  have hr8:AQ Tryz.prog .rem 5 (CY w) (.int .u8 8)=some (.int .u8 1):=hr8
  simp only[GM,Qa,Qb,Qc,Qd,Qe,Qf,Qg,Qh,Qi,Qj,Qk,Ql,Qm,Qn,true_and,and_true,Qo,Qp,Qq,Qr,Qs,Qt,Qu,Qv,Qw,Qx,Qy,Qz,Ra,Rb,Rc,Rd,Re,Rf,Rg,Rh,Ri,Rj,Rk,Rl,Rm,Ya,Yb,Yc,Rn,Ro,Xv,Yd,Ye,Rq,Rs,Rt,Ru,Rw,Rx,Ry,g50,GL,Ez,hr8,Rz,Wa,Wb,Wc,Wd,We,Wf,Wg,Wh,Wi,Wj,Wl,Wm,Wn,Wp,Wq,Wr,Ws,Wt,Wu,Wv,Ww,Wx,Wy,Wz,Xa,Xb,Xc,Xd,Xe,Xf,Xg,Xh,Xi,Xj,Xk,Xl,Xm,Xn,Xo,Xp,Xq,Xr,cN,cP,cO,cL,cQ,cR,List.getElem?_cons_zero,List.getElem?_cons_succ,cM,cT,cU,cV,cK,Nat.reduceAdd,Nat.reduceLT,Nat.reduceLeDiff,decide_true,decide_false,Bool.true_and,Bool.and_true,cW,cJ,Option.some.injEq,Xs,Xt,Xu,Xv]
  simp only[GN,HV,RC,EN,Qa,Qb,Qc,Qd,Qe,Qf,Qg,Qh,Qi,Qj,Qk,Ql,Qm,Qn,true_and,and_true,Qo,Qp,Qq,Qr,Qs,Qt,Qu,Qv,Qw,Qx,Qy,Qz,Ra,Rb,Rc,Rd,Re,Rf,Rg,Rh,Ri,Rj,Rk,Rl,Rm,Ya,Yb,Yc,Rn,Ro,Xv,Yd,Ye,Rq,Rs,Rt,Ru,Rw,Rx,Ry,g50,g50s,g51s,g51t,g52,l51,l52,n01,n02,n12,n21,GL,GK,Fe,CV,Dt,DW,Bf,B3,d1,d2,d3,d5,d6,hr5,hc5,Cb,Int.reduceEq,An,Rz,Wa,Wb,Wc,Wd,We,Wf,Wg,Wh,Wi,Wj,Wl,Wm,Wn,Wp,Wq,Wr,Ws,Wt,Wu,Wv,Ww,Wx,Wy,Wz,Xa,Xb,Xc,Xd,Xe,Xf,Xg,Xh,Xi,Xj,Xk,Xl,Xm,Xn,Xo,Xp,Xq,Xr,cN,cP,cO,cL,cQ,cR,List.getElem?_cons_zero,List.getElem?_cons_succ,cM,cT,cU,cV,cK,Nat.reduceAdd,Nat.reduceLT,Nat.reduceLeDiff,decide_true,decide_false,Bool.true_and,Bool.and_true,cW,cJ,Option.some.injEq,Xs,Xt,Xu,Xv]
  refine hend' 0 _ _ _ _ (by decide) ?_ ?_ rfl<;>omega
 ·rw[e]at hr8
  have hr8:AQ Tryz.prog .rem 5 (CY w) (.int .u8 8)=some (.int .u8 2):=hr8
  simp only[GM,Qa,Qb,Qc,Qd,Qe,Qf,Qg,Qh,Qi,Qj,Qk,Ql,Qm,Qn,true_and,and_true,Qo,Qp,Qq,Qr,Qs,Qt,Qu,Qv,Qw,Qx,Qy,Qz,Ra,Rb,Rc,Rd,Re,Rf,Rg,Rh,Ri,Rj,Rk,Rl,Rm,Ya,Yb,Yc,Rn,Ro,Xv,Yd,Ye,Rq,Rs,Rt,Ru,Rw,Rx,Ry,g50,GL,Ez,hr8,Rz,Wa,Wb,Wc,Wd,We,Wf,Wg,Wh,Wi,Wj,Wl,Wm,Wn,Wp,Wq,Wr,Ws,Wt,Wu,Wv,Ww,Wx,Wy,Wz,Xa,Xb,Xc,Xd,Xe,Xf,Xg,Xh,Xi,Xj,Xk,Xl,Xm,Xn,Xo,Xp,Xq,Xr,cN,cP,cO,cL,cQ,cR,List.getElem?_cons_zero,List.getElem?_cons_succ,cM,cT,cU,cV,cK,Nat.reduceAdd,Nat.reduceLT,Nat.reduceLeDiff,decide_true,decide_false,Bool.true_and,Bool.and_true,cW,cJ,Option.some.injEq,Xs,Xt,Xu,Xv]
  simp only[GN,HV,IR,WT,WU,EN,Qa,Qb,Qc,Qd,Qe,Qf,Qg,Qh,Qi,Qj,Qk,Ql,Qm,Qn,true_and,and_true,Qo,Qp,Qq,Qr,Qs,Qt,Qu,Qv,Qw,Qx,Qy,Qz,Ra,Rb,Rc,Rd,Re,Rf,Rg,Rh,Ri,Rj,Rk,Rl,Rm,Ya,Yb,Yc,Rn,Ro,Xv,Yd,Ye,Rq,Rs,Rt,Ru,Rw,Rx,Ry,g50,g50s,g51s,g51t,g52,l51,l52,n01,n02,n12,n21,GL,GK,Fe,CV,Dt,DW,Bf,B3,d1,d2,d3,d5,d6,hr5,hc5,Cb,Int.reduceEq,An,Rz,Wa,Wb,Wc,Wd,We,Wf,Wg,Wh,Wi,Wj,Wl,Wm,Wn,Wp,Wq,Wr,Ws,Wt,Wu,Wv,Ww,Wx,Wy,Wz,Xa,Xb,Xc,Xd,Xe,Xf,Xg,Xh,Xi,Xj,Xk,Xl,Xm,Xn,Xo,Xp,Xq,Xr,cN,cP,cO,cL,cQ,cR,List.getElem?_cons_zero,List.getElem?_cons_succ,cM,cT,cU,cV,cK,Nat.reduceAdd,Nat.reduceLT,Nat.reduceLeDiff,decide_true,decide_false,Bool.true_and,Bool.and_true,cW,cJ,Option.some.injEq,Xs,Xt,Xu,Xv]
  refine hend 1 _ _ _ _ (setObj (setObj (setObj s5 _ _) _ _) _ _) (by decide) ?_ ?_ ⟨o5.1,fun j hj=>?_⟩
  ·omega
  ·omega
  ·rw[Wr _ (by rw[AF];omega),Wr _ (by rw[AF];omega),Wr _ (by rw[AF];omega)]
   exact o5.2 j hj
 ·rw[e]at hr8
  have hr8:AQ Tryz.prog .rem 5 (CY w) (.int .u8 8)=some (.int .u8 3):=hr8
  simp only[GM,Qa,Qb,Qc,Qd,Qe,Qf,Qg,Qh,Qi,Qj,Qk,Ql,Qm,Qn,true_and,and_true,Qo,Qp,Qq,Qr,Qs,Qt,Qu,Qv,Qw,Qx,Qy,Qz,Ra,Rb,Rc,Rd,Re,Rf,Rg,Rh,Ri,Rj,Rk,Rl,Rm,Ya,Yb,Yc,Rn,Ro,Xv,Yd,Ye,Rq,Rs,Rt,Ru,Rw,Rx,Ry,g50,GL,Ez,hr8,Rz,Wa,Wb,Wc,Wd,We,Wf,Wg,Wh,Wi,Wj,Wl,Wm,Wn,Wp,Wq,Wr,Ws,Wt,Wu,Wv,Ww,Wx,Wy,Wz,Xa,Xb,Xc,Xd,Xe,Xf,Xg,Xh,Xi,Xj,Xk,Xl,Xm,Xn,Xo,Xp,Xq,Xr,cN,cP,cO,cL,cQ,cR,List.getElem?_cons_zero,List.getElem?_cons_succ,cM,cT,cU,cV,cK,Nat.reduceAdd,Nat.reduceLT,Nat.reduceLeDiff,decide_true,decide_false,Bool.true_and,Bool.and_true,cW,cJ,Option.some.injEq,Xs,Xt,Xu,Xv]
  simp only[GN,HV,IR,Qa,Qb,Qc,Qd,Qe,Qf,Qg,Qh,Qi,Qj,Qk,Ql,Qm,Qn,true_and,and_true,Qo,Qp,Qq,Qr,Qs,Qt,Qu,Qv,Qw,Qx,Qy,Qz,Ra,Rb,Rc,Rd,Re,Rf,Rg,Rh,Ri,Rj,Rk,Rl,Rm,Ya,Yb,Yc,Rn,Ro,Xv,Yd,Ye,Rq,Rs,Rt,Ru,Rw,Rx,Ry,g50,g50s,g51s,g51t,g52,l51,l52,n01,n02,n12,n21,GL,GK,Fe,CV,Dt,DW,Bf,B3,d1,d2,d3,d5,d6,hr5,hc5,Cb,Int.reduceEq,An,Rz,Wa,Wb,Wc,Wd,We,Wf,Wg,Wh,Wi,Wj,Wl,Wm,Wn,Wp,Wq,Wr,Ws,Wt,Wu,Wv,Ww,Wx,Wy,Wz,Xa,Xb,Xc,Xd,Xe,Xf,Xg,Xh,Xi,Xj,Xk,Xl,Xm,Xn,Xo,Xp,Xq,Xr,cN,cP,cO,cL,cQ,cR,List.getElem?_cons_zero,List.getElem?_cons_succ,cM,cT,cU,cV,cK,Nat.reduceAdd,Nat.reduceLT,Nat.reduceLeDiff,decide_true,decide_false,Bool.true_and,Bool.and_true,cW,cJ,Option.some.injEq,Xs,Xt,Xu,Xv]
  simp only[Jb,Qa,Qb,Qc,Qd,Qe,Qf,Qg,Qh,Qi,Qj,Qk,Ql,Qm,Qn,true_and,and_true,Qo,Qp,Qq,Qr,Qs,Qt,Qu,Qv,Qw,Qx,Qy,Qz,Ra,Rb,Rc,Rd,Re,Rf,Rg,Rh,Ri,Rj,Rk,Rl,Rm,Ya,Yb,Yc,Rn,Ro,Xv,Yd,Ye,Rq,Rs,Rt,Ru,Rw,Rx,Ry,-Qu,-Qv,Cb,Int.reduceEq,Rz,Wa,Wb,Wc,Wd,We,Wf,Wg,Wh,Wi,Wj,Wl,Wm,Wn,Wp,Wq,Wr,Ws,Wt,Wu,Wv,Ww,Wx,Wy,Wz,Xa,Xb,Xc,Xd,Xe,Xf,Xg,Xh,Xi,Xj,Xk,Xl,Xm,Xn,Xo,Xp,Xq,Xr,cN,cP,cO,cL,cQ,cR,List.getElem?_cons_zero,List.getElem?_cons_succ,cM,cT,cU,cV,cK,Nat.reduceAdd,Nat.reduceLT,Nat.reduceLeDiff,decide_true,decide_false,Bool.true_and,Bool.and_true,cW,cJ,Option.some.injEq,Xs,Xt,Xu,Xv]
  rw[Qu]
  simp only[Qr,Qq]
  rw[Qu]
  simp only[Mg,EN,Qa,Qb,Qc,Qd,Qe,Qf,Qg,Qh,Qi,Qj,Qk,Ql,Qm,Qn,true_and,and_true,Qo,Qp,Qq,Qr,Qs,Qt,Qu,Qv,Qw,Qx,Qy,Qz,Ra,Rb,Rc,Rd,Re,Rf,Rg,Rh,Ri,Rj,Rk,Rl,Rm,Ya,Yb,Yc,Rn,Ro,Xv,Yd,Ye,Rq,Rs,Rt,Ru,Rw,Rx,Ry,g50,g50s,g51s,g51t,g52,l51,l52,n01,n02,n12,n21,GL,GK,Fe,CV,Dt,DW,Bf,B3,d1,d2,d3,d5,d6,hr5,hc5,Cb,Int.reduceEq,An,Rz,Wa,Wb,Wc,Wd,We,Wf,Wg,Wh,Wi,Wj,Wl,Wm,Wn,Wp,Wq,Wr,Ws,Wt,Wu,Wv,Ww,Wx,Wy,Wz,Xa,Xb,Xc,Xd,Xe,Xf,Xg,Xh,Xi,Xj,Xk,Xl,Xm,Xn,Xo,Xp,Xq,Xr,cN,cP,cO,cL,cQ,cR,List.getElem?_cons_zero,List.getElem?_cons_succ,cM,cT,cU,cV,cK,Nat.reduceAdd,Nat.reduceLT,Nat.reduceLeDiff,decide_true,decide_false,Bool.true_and,Bool.and_true,cW,cJ,Option.some.injEq,Xs,Xt,Xu,Xv]
  refine hend' 2 _ _ _ _ (by decide) ?_ ?_ rfl<;>omega
 ·rw[e]at hr8
  have hr8:AQ Tryz.prog .rem 5 (CY w) (.int .u8 8)=some (.int .u8 4):=hr8
  simp only[GM,Qa,Qb,Qc,Qd,Qe,Qf,Qg,Qh,Qi,Qj,Qk,Ql,Qm,Qn,true_and,and_true,Qo,Qp,Qq,Qr,Qs,Qt,Qu,Qv,Qw,Qx,Qy,Qz,Ra,Rb,Rc,Rd,Re,Rf,Rg,Rh,Ri,Rj,Rk,Rl,Rm,Ya,Yb,Yc,Rn,Ro,Xv,Yd,Ye,Rq,Rs,Rt,Ru,Rw,Rx,Ry,g50,GL,Ez,hr8,Rz,Wa,Wb,Wc,Wd,We,Wf,Wg,Wh,Wi,Wj,Wl,Wm,Wn,Wp,Wq,Wr,Ws,Wt,Wu,Wv,Ww,Wx,Wy,Wz,Xa,Xb,Xc,Xd,Xe,Xf,Xg,Xh,Xi,Xj,Xk,Xl,Xm,Xn,Xo,Xp,Xq,Xr,cN,cP,cO,cL,cQ,cR,List.getElem?_cons_zero,List.getElem?_cons_succ,cM,cT,cU,cV,cK,Nat.reduceAdd,Nat.reduceLT,Nat.reduceLeDiff,decide_true,decide_false,Bool.true_and,Bool.and_true,cW,cJ,Option.some.injEq,Xs,Xt,Xu,Xv]
  simp only[GN,HV,IR,Qa,Qb,Qc,Qd,Qe,Qf,Qg,Qh,Qi,Qj,Qk,Ql,Qm,Qn,true_and,and_true,Qo,Qp,Qq,Qr,Qs,Qt,Qu,Qv,Qw,Qx,Qy,Qz,Ra,Rb,Rc,Rd,Re,Rf,Rg,Rh,Ri,Rj,Rk,Rl,Rm,Ya,Yb,Yc,Rn,Ro,Xv,Yd,Ye,Rq,Rs,Rt,Ru,Rw,Rx,Ry,g50,g50s,g51s,g51t,g52,l51,l52,n01,n02,n12,n21,GL,GK,Fe,CV,Dt,DW,Bf,B3,d1,d2,d3,d5,d6,hr5,hc5,Cb,Int.reduceEq,An,Rz,Wa,Wb,Wc,Wd,We,Wf,Wg,Wh,Wi,Wj,Wl,Wm,Wn,Wp,Wq,Wr,Ws,Wt,Wu,Wv,Ww,Wx,Wy,Wz,Xa,Xb,Xc,Xd,Xe,Xf,Xg,Xh,Xi,Xj,Xk,Xl,Xm,Xn,Xo,Xp,Xq,Xr,cN,cP,cO,cL,cQ,cR,List.getElem?_cons_zero,List.getElem?_cons_succ,cM,cT,cU,cV,cK,Nat.reduceAdd,Nat.reduceLT,Nat.reduceLeDiff,decide_true,decide_false,Bool.true_and,Bool.and_true,cW,cJ,Option.some.injEq,Xs,Xt,Xu,Xv]
  simp only[Jb,Qa,Qb,Qc,Qd,Qe,Qf,Qg,Qh,Qi,Qj,Qk,Ql,Qm,Qn,true_and,and_true,Qo,Qp,Qq,Qr,Qs,Qt,Qu,Qv,Qw,Qx,Qy,Qz,Ra,Rb,Rc,Rd,Re,Rf,Rg,Rh,Ri,Rj,Rk,Rl,Rm,Ya,Yb,Yc,Rn,Ro,Xv,Yd,Ye,Rq,Rs,Rt,Ru,Rw,Rx,Ry,-Qu,-Qv,Cb,Int.reduceEq,Rz,Wa,Wb,Wc,Wd,We,Wf,Wg,Wh,Wi,Wj,Wl,Wm,Wn,Wp,Wq,Wr,Ws,Wt,Wu,Wv,Ww,Wx,Wy,Wz,Xa,Xb,Xc,Xd,Xe,Xf,Xg,Xh,Xi,Xj,Xk,Xl,Xm,Xn,Xo,Xp,Xq,Xr,cN,cP,cO,cL,cQ,cR,List.getElem?_cons_zero,List.getElem?_cons_succ,cM,cT,cU,cV,cK,Nat.reduceAdd,Nat.reduceLT,Nat.reduceLeDiff,decide_true,decide_false,Bool.true_and,Bool.and_true,cW,cJ,Option.some.injEq,Xs,Xt,Xu,Xv]
  rw[Qv]
  simp only[IQ,Qa,Qb,Qc,Qd,Qe,Qf,Qg,Qh,Qi,Qj,Qk,Ql,Qm,Qn,true_and,and_true,Qo,Qp,Qq,Qr,Qs,Qt,Qu,Qv,Qw,Qx,Qy,Qz,Ra,Rb,Rc,Rd,Re,Rf,Rg,Rh,Ri,Rj,Rk,Rl,Rm,Ya,Yb,Yc,Rn,Ro,Xv,Yd,Ye,Rq,Rs,Rt,Ru,Rw,Rx,Ry,-Qu,-Qv,Cb,Int.reduceEq,Rz,Wa,Wb,Wc,Wd,We,Wf,Wg,Wh,Wi,Wj,Wl,Wm,Wn,Wp,Wq,Wr,Ws,Wt,Wu,Wv,Ww,Wx,Wy,Wz,Xa,Xb,Xc,Xd,Xe,Xf,Xg,Xh,Xi,Xj,Xk,Xl,Xm,Xn,Xo,Xp,Xq,Xr,cN,cP,cO,cL,cQ,cR,List.getElem?_cons_zero,List.getElem?_cons_succ,cM,cT,cU,cV,cK,Nat.reduceAdd,Nat.reduceLT,Nat.reduceLeDiff,decide_true,decide_false,Bool.true_and,Bool.and_true,cW,cJ,Option.some.injEq,Xs,Xt,Xu,Xv]
  rw[Qu]
  simp only[Mg,EN,Qa,Qb,Qc,Qd,Qe,Qf,Qg,Qh,Qi,Qj,Qk,Ql,Qm,Qn,true_and,and_true,Qo,Qp,Qq,Qr,Qs,Qt,Qu,Qv,Qw,Qx,Qy,Qz,Ra,Rb,Rc,Rd,Re,Rf,Rg,Rh,Ri,Rj,Rk,Rl,Rm,Ya,Yb,Yc,Rn,Ro,Xv,Yd,Ye,Rq,Rs,Rt,Ru,Rw,Rx,Ry,g50,g50s,g51s,g51t,g52,l51,l52,n01,n02,n12,n21,GL,GK,Fe,CV,Dt,DW,Bf,B3,d1,d2,d3,d5,d6,hr5,hc5,Cb,Int.reduceEq,An,Rz,Wa,Wb,Wc,Wd,We,Wf,Wg,Wh,Wi,Wj,Wl,Wm,Wn,Wp,Wq,Wr,Ws,Wt,Wu,Wv,Ww,Wx,Wy,Wz,Xa,Xb,Xc,Xd,Xe,Xf,Xg,Xh,Xi,Xj,Xk,Xl,Xm,Xn,Xo,Xp,Xq,Xr,cN,cP,cO,cL,cQ,cR,List.getElem?_cons_zero,List.getElem?_cons_succ,cM,cT,cU,cV,cK,Nat.reduceAdd,Nat.reduceLT,Nat.reduceLeDiff,decide_true,decide_false,Bool.true_and,Bool.and_true,cW,cJ,Option.some.injEq,Xs,Xt,Xu,Xv]
  refine hend' 2 _ _ _ _ (by decide) ?_ ?_ rfl<;>omega
 ·rw[e]at hr8
  have hr8:AQ Tryz.prog .rem 5 (CY w) (.int .u8 8)=some (.int .u8 5):=hr8
  simp only[GM,Qa,Qb,Qc,Qd,Qe,Qf,Qg,Qh,Qi,Qj,Qk,Ql,Qm,Qn,true_and,and_true,Qo,Qp,Qq,Qr,Qs,Qt,Qu,Qv,Qw,Qx,Qy,Qz,Ra,Rb,Rc,Rd,Re,Rf,Rg,Rh,Ri,Rj,Rk,Rl,Rm,Ya,Yb,Yc,Rn,Ro,Xv,Yd,Ye,Rq,Rs,Rt,Ru,Rw,Rx,Ry,g50,GL,Ez,hr8,Rz,Wa,Wb,Wc,Wd,We,Wf,Wg,Wh,Wi,Wj,Wl,Wm,Wn,Wp,Wq,Wr,Ws,Wt,Wu,Wv,Ww,Wx,Wy,Wz,Xa,Xb,Xc,Xd,Xe,Xf,Xg,Xh,Xi,Xj,Xk,Xl,Xm,Xn,Xo,Xp,Xq,Xr,cN,cP,cO,cL,cQ,cR,List.getElem?_cons_zero,List.getElem?_cons_succ,cM,cT,cU,cV,cK,Nat.reduceAdd,Nat.reduceLT,Nat.reduceLeDiff,decide_true,decide_false,Bool.true_and,Bool.and_true,cW,cJ,Option.some.injEq,Xs,Xt,Xu,Xv]
  simp only[GN,HV,IR,Jb,IQ,KX,Mi,EN,Qa,Qb,Qc,Qd,Qe,Qf,Qg,Qh,Qi,Qj,Qk,Ql,Qm,Qn,true_and,and_true,Qo,Qp,Qq,Qr,Qs,Qt,Qu,Qv,Qw,Qx,Qy,Qz,Ra,Rb,Rc,Rd,Re,Rf,Rg,Rh,Ri,Rj,Rk,Rl,Rm,Ya,Yb,Yc,Rn,Ro,Xv,Yd,Ye,Rq,Rs,Rt,Ru,Rw,Rx,Ry,g50,g50s,g51s,g51t,g52,l51,l52,n01,n02,n12,n21,GL,GK,Fe,CV,Dt,DW,Bf,B3,d1,d2,d3,d5,d6,hr5,hc5,Cb,Int.reduceEq,An,Rz,Wa,Wb,Wc,Wd,We,Wf,Wg,Wh,Wi,Wj,Wl,Wm,Wn,Wp,Wq,Wr,Ws,Wt,Wu,Wv,Ww,Wx,Wy,Wz,Xa,Xb,Xc,Xd,Xe,Xf,Xg,Xh,Xi,Xj,Xk,Xl,Xm,Xn,Xo,Xp,Xq,Xr,cN,cP,cO,cL,cQ,cR,List.getElem?_cons_zero,List.getElem?_cons_succ,cM,cT,cU,cV,cK,Nat.reduceAdd,Nat.reduceLT,Nat.reduceLeDiff,decide_true,decide_false,Bool.true_and,Bool.and_true,cW,cJ,Option.some.injEq,Xs,Xt,Xu,Xv]
  refine hend' 3 _ _ _ _ (by decide) ?_ ?_ rfl<;>omega
 ·rw[e]at hr8
  have hr8:AQ Tryz.prog .rem 5 (CY w) (.int .u8 8)=some (.int .u8 6):=hr8
  simp only[GM,Qa,Qb,Qc,Qd,Qe,Qf,Qg,Qh,Qi,Qj,Qk,Ql,Qm,Qn,true_and,and_true,Qo,Qp,Qq,Qr,Qs,Qt,Qu,Qv,Qw,Qx,Qy,Qz,Ra,Rb,Rc,Rd,Re,Rf,Rg,Rh,Ri,Rj,Rk,Rl,Rm,Ya,Yb,Yc,Rn,Ro,Xv,Yd,Ye,Rq,Rs,Rt,Ru,Rw,Rx,Ry,g50,GL,Ez,hr8,Rz,Wa,Wb,Wc,Wd,We,Wf,Wg,Wh,Wi,Wj,Wl,Wm,Wn,Wp,Wq,Wr,Ws,Wt,Wu,Wv,Ww,Wx,Wy,Wz,Xa,Xb,Xc,Xd,Xe,Xf,Xg,Xh,Xi,Xj,Xk,Xl,Xm,Xn,Xo,Xp,Xq,Xr,cN,cP,cO,cL,cQ,cR,List.getElem?_cons_zero,List.getElem?_cons_succ,cM,cT,cU,cV,cK,Nat.reduceAdd,Nat.reduceLT,Nat.reduceLeDiff,decide_true,decide_false,Bool.true_and,Bool.and_true,cW,cJ,Option.some.injEq,Xs,Xt,Xu,Xv]
  simp only[GN,HV,IR,Jb,IQ,KX,Mh,Mi,EN,Qa,Qb,Qc,Qd,Qe,Qf,Qg,Qh,Qi,Qj,Qk,Ql,Qm,Qn,true_and,and_true,Qo,Qp,Qq,Qr,Qs,Qt,Qu,Qv,Qw,Qx,Qy,Qz,Ra,Rb,Rc,Rd,Re,Rf,Rg,Rh,Ri,Rj,Rk,Rl,Rm,Ya,Yb,Yc,Rn,Ro,Xv,Yd,Ye,Rq,Rs,Rt,Ru,Rw,Rx,Ry,g50,g50s,g51s,g51t,g52,l51,l52,n01,n02,n12,n21,GL,GK,Fe,CV,Dt,DW,Bf,B3,d1,d2,d3,d5,d6,hr5,hc5,Cb,Int.reduceEq,An,Rz,Wa,Wb,Wc,Wd,We,Wf,Wg,Wh,Wi,Wj,Wl,Wm,Wn,Wp,Wq,Wr,Ws,Wt,Wu,Wv,Ww,Wx,Wy,Wz,Xa,Xb,Xc,Xd,Xe,Xf,Xg,Xh,Xi,Xj,Xk,Xl,Xm,Xn,Xo,Xp,Xq,Xr,cN,cP,cO,cL,cQ,cR,List.getElem?_cons_zero,List.getElem?_cons_succ,cM,cT,cU,cV,cK,Nat.reduceAdd,Nat.reduceLT,Nat.reduceLeDiff,decide_true,decide_false,Bool.true_and,Bool.and_true,cW,cJ,Option.some.injEq,Xs,Xt,Xu,Xv]
  refine hend' 3 _ _ _ _ (by decide) ?_ ?_ rfl<;>omega
 ·rw[e]at hr8
  have hr8:AQ Tryz.prog .rem 5 (CY w) (.int .u8 8)=some (.int .u8 7):=hr8
  simp only[GM,Qa,Qb,Qc,Qd,Qe,Qf,Qg,Qh,Qi,Qj,Qk,Ql,Qm,Qn,true_and,and_true,Qo,Qp,Qq,Qr,Qs,Qt,Qu,Qv,Qw,Qx,Qy,Qz,Ra,Rb,Rc,Rd,Re,Rf,Rg,Rh,Ri,Rj,Rk,Rl,Rm,Ya,Yb,Yc,Rn,Ro,Xv,Yd,Ye,Rq,Rs,Rt,Ru,Rw,Rx,Ry,g50,GL,Ez,hr8,Rz,Wa,Wb,Wc,Wd,We,Wf,Wg,Wh,Wi,Wj,Wl,Wm,Wn,Wp,Wq,Wr,Ws,Wt,Wu,Wv,Ww,Wx,Wy,Wz,Xa,Xb,Xc,Xd,Xe,Xf,Xg,Xh,Xi,Xj,Xk,Xl,Xm,Xn,Xo,Xp,Xq,Xr,cN,cP,cO,cL,cQ,cR,List.getElem?_cons_zero,List.getElem?_cons_succ,cM,cT,cU,cV,cK,Nat.reduceAdd,Nat.reduceLT,Nat.reduceLeDiff,decide_true,decide_false,Bool.true_and,Bool.and_true,cW,cJ,Option.some.injEq,Xs,Xt,Xu,Xv]
  simp only[GN,HV,IR,Jb,IQ,KX,Mh,RA,EN,Qa,Qb,Qc,Qd,Qe,Qf,Qg,Qh,Qi,Qj,Qk,Ql,Qm,Qn,true_and,and_true,Qo,Qp,Qq,Qr,Qs,Qt,Qu,Qv,Qw,Qx,Qy,Qz,Ra,Rb,Rc,Rd,Re,Rf,Rg,Rh,Ri,Rj,Rk,Rl,Rm,Ya,Yb,Yc,Rn,Ro,Xv,Yd,Ye,Rq,Rs,Rt,Ru,Rw,Rx,Ry,g50,g50s,g51s,g51t,g52,l51,l52,n01,n02,n12,n21,GL,GK,Fe,CV,Dt,DW,Bf,B3,d1,d2,d3,d5,d6,hr5,hc5,Cb,Int.reduceEq,An,Rz,Wa,Wb,Wc,Wd,We,Wf,Wg,Wh,Wi,Wj,Wl,Wm,Wn,Wp,Wq,Wr,Ws,Wt,Wu,Wv,Ww,Wx,Wy,Wz,Xa,Xb,Xc,Xd,Xe,Xf,Xg,Xh,Xi,Xj,Xk,Xl,Xm,Xn,Xo,Xp,Xq,Xr,cN,cP,cO,cL,cQ,cR,List.getElem?_cons_zero,List.getElem?_cons_succ,cM,cT,cU,cV,cK,Nat.reduceAdd,Nat.reduceLT,Nat.reduceLeDiff,decide_true,decide_false,Bool.true_and,Bool.and_true,cW,cJ,Option.some.injEq,Xs,Xt,Xu,Xv]
  refine hend' 4 _ _ _ _ (by decide) ?_ ?_ rfl<;>omega
abbrev JI:=Nat×Nat×Nat×Nat
def JI.cells(m:JI):List AV:=[CY m.1,CY m.2.1,CY m.2.2.1,CY m.2.2.2]
def JI.ok(m:JI):Prop:=m.1<256∧m.2.1<256∧m.2.2.1<256∧m.2.2.2<256
def Cl(s:AD)(v:AV)(l:List JI):Prop:=
 ∃a cap,v=.slice a l.length cap∧∀ (k:Nat) (m:JI),l[k]? = some m→∃j q,a=some (j,q)∧j<s.next∧BF (s.heap.get j) (q+k * 4) 4=some m.cells
theorem Cl.old{s s':AD}{v:AV}{l:List JI}(h:Cl s v l)(k:BK s.next s s'):Cl s' v l:=by
 obtain⟨a,cap,h1,h2⟩:=h
 refine⟨a,cap,h1,fun i m hm=>?_⟩
 obtain⟨j,q,h3,h4,h5⟩:=h2 i m hm
 exact⟨j,q,h3,cg h4 k.1,by rw[k.2 j h4];exact h5⟩
theorem Cl.len{s:AD}{v:AV}{l:List JI}(h:Cl s v l)(s':AD):BN Tryz.prog s' 22 v=some (iv (l.length:Int)):=by
 obtain⟨a,cap,rfl,_⟩:=h
 exact Af Tryz.underlying22
theorem L5(o:Fa)(h:o.ok):∃ (tag:Int)(c1 c2 c3 c5 c6:AV),o.cells=[iv o.kind,iv o.id,iv tag,c1,c2,c3,.slice none 0 (some 0),c5,c6,iv o.a,iv o.b,iv o.c]∧c1.isCell=true∧c2.isCell=true∧c3.isCell=true∧c5.isCell=true∧c6.isCell=true:=by
 obtain⟨tag,c1,c2,c3,c5,c6,hc,_,d1,d2,d3,d5,d6⟩:=BL o.con h.2.1
 refine⟨tag,c1,c2,c3,c5,c6,?_,d1,d2,d3,d5,d6⟩
 show [iv o.kind,iv o.id]++(Tm.con o.con).cells++_=_
 rw[hc];rfl
theorem ZS(c0 c1 c2 c3 c4 c5 c6 c7 c8 c9 Zu Zx:AV):AY Tryz.prog 36 1 (zipIdx [0] [.agg [c0,c1,c2,c3,c4,c5,c6,c7,c8,c9,Zu,Zx]])=some (R 46 12 false [c0,c1,c2,c3,c4,c5,c6,c7,c8,c9,Zu,Zx]):=by kernel_rfl
theorem aw:B6 Tryz.prog 46 12=true:=by kernel_rfl
theorem ZZ:BW Tryz.prog 36=true:=by kernel_rfl
set_option maxRecDepth 20000 in
theorem PR        {E : Bb}  (hE : Ah    E) {s : AD}  (h1 : 1 < s.next) {v : AV} {l : List JI}  (hv : Cl      s v l) (hu : ∀ m ∈ l, JI.ok  m) (a1 a2 : AV) {q : Nat} {Q : Aw   → Prop} {marks : List Nat}
    (hend:∀ (y6 y7 vo:AV) s' O' T' (ops:List Fa) OB,(∀o∈ops,o.ok)→ops.length≤40→RS s' q T' O'→BK s.next s s'→C2 46 12 s' vo ops.length (ops.flatMap Fa.cells) OB→(∀j∈OB,s.next≤j) →
      Ab 0 Q ⟨.exit 0,[v,a1,a2,.ptr (some (q,0)),vo,iv (ops.length:Int),y6,y7],marks,s'⟩):
    ∀ (d:Nat) (ops:List Fa) s1 O1 T1 OB (vo a6 a7:AV),d+ops.length=min l.length 40→(∀o∈ops,o.ok)→RS s1 q T1 O1→(∀j∈O1,s.next≤j)→BK s.next s s1→T1.length≤4 * ops.length→C2 46 12 s1 vo ops.length (ops.flatMap Fa.cells) OB→(∀j∈OB,s.next≤j∧j ∉ O1) →
      WC E none (AW.loop JW) (Ab 0 Q) [v,a1,a2,.ptr (some (q,0)),vo,iv (ops.length:Int),a6,a7] marks s1:=by
  intro d
  induction d with
  | zero =>
    intro ops s1 O1 T1 OB vo a6 a7 hd hok h h3 h4 h5 h6 h7
    have hlen:=hv.len
    refine WC.loop' ?_
    by_cases hlt:(ops.length:Int)<(l.length:Int)
    · have hlt2:¬ ((ops.length:Int)<40):=by omega
      simp only[JW,Nm,Qa,Qb,Qc,Qd,Qe,Qf,Qg,Qh,Qi,Qj,Qk,Ql,Qm,Qn,true_and,and_true,Qo,Qp,Qq,Qr,Qs,Qt,Qu,Qv,Qw,Qx,Qy,Qz,Ra,Rb,Rc,Rd,Re,Rf,Rg,Rh,Ri,Rj,Rk,Rl,Rm,Ya,Yb,Yc,Rn,Ro,Xv,Yd,Ye,Rq,Rs,Rt,Ru,Rw,Rx,Ry,hlen,Rq,hlt,decide_true,hlt2,decide_false]
      exact hend _ _ vo s1 O1 T1 ops OB hok (by omega) h h4 h6 fun j hj=>(h7 j hj).1
    · simp only[JW,Nm,Qa,Qb,Qc,Qd,Qe,Qf,Qg,Qh,Qi,Qj,Qk,Ql,Qm,Qn,true_and,and_true,Qo,Qp,Qq,Qr,Qs,Qt,Qu,Qv,Qw,Qx,Qy,Qz,Ra,Rb,Rc,Rd,Re,Rf,Rg,Rh,Ri,Rj,Rk,Rl,Rm,Ya,Yb,Yc,Rn,Ro,Xv,Yd,Ye,Rq,Rs,Rt,Ru,Rw,Rx,Ry,hlen,Rq,hlt,decide_false]
      exact hend _ _ vo s1 O1 T1 ops OB hok (by omega) h h4 h6 fun j hj=>(h7 j hj).1
  | succ d ih =>
    intro ops s1 O1 T1 OB vo a6 a7 hd hok h h3 h4 h5 h6 h7
    have hlen:=hv.len
    have hltn:ops.length<l.length:=by omega
    have hlt:(ops.length:Int)<(l.length:Int):=by omega
    have hlt2:(ops.length:Int)<40:=by omega
    have hadd:i64 ((ops.length:Int)+1):=by unfold i64;omega
    obtain⟨m,hm⟩:∃m,l[ops.length]? = some m:=⟨_,cY hltn⟩
    have hmk:=hu m (cu hm)
    obtain⟨a,cap,rfl,hat⟩:=hv.old h4
    obtain⟨j,qq,rfl,hj,hld⟩:=hat _ m hm
    rw[JI.cells]at hld
    have hrop:=fun(K:AV→AD→Prop) hK=>ZR (K:=K) hE h.at_ (by omega) h.kl hmk.1 hmk.2.1 hmk.2.2.1 hmk.2.2.2 hK
    refine WC.loop' ?_
    obtain⟨W,hW⟩:∃W,W=AW.loop JW:=⟨_,rfl⟩
    rw[← hW]
    simp only[JW,Nm,VE,Qa,Qb,Qc,Qd,Qe,Qf,Qg,Qh,Qi,Qj,Qk,Ql,Qm,Qn,true_and,and_true,Qo,Qp,Qq,Qr,Qs,Qt,Qu,Qv,Qw,Qx,Qy,Qz,Ra,Rb,Rc,Rd,Re,Rf,Rg,Rh,Ri,Rj,Rk,Rl,Rm,Ya,Yb,Yc,Rn,Ro,Xv,Yd,Ye,Rq,Rs,Rt,Ru,Rw,Rx,Ry,hlen,Rq,hlt,hlt2,decide_true,AU Tryz.underlying22 ar hltn,hld,bF,ar,Rz,Wa,Wb,Wc,Wd,We,Wf,Wg,Wh,Wi,Wj,Wl,Wm,Wn,Wp,Wq,Wr,Ws,Wt,Wu,Wv,Ww,Wx,Wy,Wz,Xa,Xb,Xc,Xd,Xe,Xf,Xg,Xh,Xi,Xj,Xk,Xl,Xm,Xn,Xo,Xp,Xq,Xr,cN,cP,cO,cL,cQ,cR,List.getElem?_cons_zero,List.getElem?_cons_succ,cM,cT,cU,cV,cK,Nat.reduceAdd,Nat.reduceLT,Nat.reduceLeDiff,decide_true,decide_false,Bool.true_and,Bool.and_true,cW,cJ,Option.some.injEq,Xs,Xt,Xu,Xv]
    refine hrop _ fun o s2 ho hcon ho2=>?_
    obtain⟨tag,c1,c2,c3,c5,c6,hoc,d1,d2,d3,d5,d6⟩:=L5 o ho
    have h2:=h.old ho2
    have hlt2':=h2.at_.lt
    have hol:o.cells.length=12:=by rw[hoc];rfl
    have hoa:Aa o.cells=true:=by
      rw[hoc]
      simp only[Aa,Xl,Xq,d1,d2,d3,d5,d6,Bool.and_self]
    have hbx:∀s3,Bk O1 (ext s2 [R 46 0 false o.cells]) s3→s3.heap.get (nid s2.next 0)=some (R 46 0 false o.cells):=fun s3 hf=>by
      rw[hf.2 _ (by rw[Wm,AF,AF];simp) (fun hm=>by have:=hlt2' _ hm;rw[AF]at this;omega),Wg rfl (by simp)];rfl
    have hdo:=fun K hK=>ZP (K:=K) hE (h2.old (AM (os:=[R 46 0 false o.cells]))) (by omega) ho hcon hK
    have hrest:∀ (s3:AD) O3 T3 (b6 b7:AV),RS s3 q T3 O3→Bk O1 (ext s2 [R 46 0 false o.cells]) s3→AR O1 O3 (ext s2 [R 46 0 false o.cells])→T3.length≤T1.length+4 →
        ∃vo2 s4,Aj Tryz.prog (newObj s3 (R 46 12 false o.cells)) [36,36] [vo,.slice (some (s3.next,0)) 1 (some 1)]=some (vo2,s4) ∧
          WC E none W (Ab 0 Q) [.slice (some (j,qq)) l.length cap,a1,a2,.ptr (some (q,0)),vo2,iv ((ops.length:Int)+1),b6,b7] marks s4:=by
      intro s3 O3 T3 b6 b7 g1 g2 g3 g4
      have hB1:=h6.lt
      have hn12:s1.next≤s2.next:=ho2.1
      have hn23:s2.next+1≤s3.next:=by have:=g2.1;rw[Wm,AF]at this;exact this
      have hBO:∀x∈OB,x ∉ O3:=fun x hx hm=>(g3 x hm).elim (h7 x hx).2 (fun hl=>by have:=hB1 x hx;rw[Wm,AF]at hl;simp at hl;omega)
      have hsame13:∀x,x<s1.next→x ∉ O1→s3.heap.get x=s1.heap.get x:=fun x hx hxO=>by
        rw[g2.2 x (by rw[Wm,AF];omega) hxO,Wh (by omega),ho2.2 x hx]
      have hbuf':=h6.frame (s':=s3) (by omega) fun x hx=>hsame13 x (hB1 x hx) (h7 x hx).2
      have hnx:(ext s3 [R 46 12 false o.cells]).next=s3.next+1:=by rw[Wm,AF];rfl
      have hsrc:CU Tryz.prog (ext s3 [R 46 12 false o.cells]) 46 12 (.slice (some (nid s3.next 0,0)) 1 (some 1))=some (1,o.cells):=by
        show(JR _ (nid s3.next 0) 0 1 12).bind _=_
        rw[HP (l:=o.cells) (by rw[EY,Wg rfl (by simp)];show BF (some (R 46 12 false o.cells)) _ _=_;rw[Wj (by rw[hol];exact cJ _),cM,dD (by rw[hol];exact cJ _)])]
        rfl
      have hbuf2:=hbuf'.frame (s':=ext s3 [R 46 12 false o.cells]) (by rw[hnx];omega) fun x hx=>Wh (hbuf'.lt x hx)
      obtain⟨v2,s4,OB2,happ,hb2,hn2,hf2,hO2,_⟩:=hbuf2.append (xt:=36) (m:=1) Tryz.underlying36 Fe bH (by omega) ZZ aw (by omega) hsrc (by rw[hol]) hoa (by omega) (by omega)
      rw[hnx]at hn2 hf2 hO2
      have hne:newObj s3 (R 46 12 false o.cells)=ext s3 [R 46 12 false o.cells]:=by
        have:=Wl s3 [] (R 46 12 false o.cells)
        rw[Ac]at this;exact this
      rw[← hne,ED]at happ
      have hsame:∀x,x<s3.next→x ∉ OB→s4.heap.get x=s3.heap.get x:=fun x hx hB=>by rw[hf2 x (by omega) hB,Wh (by omega)]
      have hlt3:=g1.at_.lt
      have hrs:RS s4 q T3 O3:=⟨g1.at_.frame (by rw[hn2];omega) (fun x hx=>hsame x (hlt3 x hx) fun hm=>hBO x hm hx),⟨by rw[BT (hsame 1 g1.gl.2.1 fun hm=>by have:=(h7 1 hm).1;omega)];exact g1.gl.1,by rw[hn2];have:=g1.gl.2.1;omega,g1.gl.2.2⟩,g1.kl⟩
      refine⟨v2,s4,happ,?_⟩
      have h41:=h4.1
      have:=ih (ops++[o]) s4 O3 T3 OB2 v2 b6 b7 (by simp;omega) (fun x hx=>?_) hrs (fun x hx=>?_) ⟨by rw[hn2];omega,fun x hx=>?_⟩ (by simp;omega) (by rw[dC,show(ops++[o]).flatMap Fa.cells=ops.flatMap Fa.cells++o.cells from by simp];exact hb2) (fun x hx=>?_)
      · rw [hW]
        rw[show((ops++[o]).length:Int)=(ops.length:Int)+1 from by simp]at this
        exact this
      · rcases List.mem_append.1 hx with hx | hx
        · exact hok x hx
        · rw[List.mem_singleton.1 hx];exact ho
      · exact(g3 x hx).elim (h3 x) (fun hl=>by rw[Wm,AF]at hl;omega)
      · rw[hsame x (by omega) (fun hm=>by have:=(h7 x hm).1;omega),hsame13 x (by omega) (fun hm=>by have:=h3 x hm;omega),h4.2 x hx]
      · rcases hO2 x hx with hx | hx
        · exact⟨(h7 x hx).1,hBO x hx⟩
        · exact⟨by omega,fun hm=>by have:=hlt3 x hm;omega⟩
    rw[hoc]at hdo hbx hrest ⊢
    generalize hs2:s2.next=b2 at hbx
    have hs20:s2=ext s2 []:=(Ac s2).symm
    rw[hs20]
    simp only[VF,Qa,Qb,Qc,Qd,Qe,Qf,Qg,Qh,Qi,Qj,Qk,Ql,Qm,Qn,true_and,and_true,Qo,Qp,Qq,Qr,Qs,Qt,Qu,Qv,Qw,Qx,Qy,Qz,Ra,Rb,Rc,Rd,Re,Rf,Rg,Rh,Ri,Rj,Rk,Rl,Rm,Ya,Yb,Yc,Rn,Ro,Xv,Yd,Ye,Rq,Rs,Rt,Ru,Rw,Rx,Ry,hs2,az,GK,Fe,d1,d2,d3,d5,d6,Rz,Wa,Wb,Wc,Wd,We,Wf,Wg,Wh,Wi,Wj,Wl,Wm,Wn,Wp,Wq,Wr,Ws,Wt,Wu,Wv,Ww,Wx,Wy,Wz,Xa,Xb,Xc,Xd,Xe,Xf,Xg,Xh,Xi,Xj,Xk,Xl,Xm,Xn,Xo,Xp,Xq,Xr,cN,cP,cO,cL,cQ,cR,List.getElem?_cons_zero,List.getElem?_cons_succ,cM,cT,cU,cV,cK,Nat.reduceAdd,Nat.reduceLT,Nat.reduceLeDiff,decide_true,decide_false,Bool.true_and,Bool.and_true,cW,cJ,Option.some.injEq,Xs,Xt,Xu,Xv]
    refine hdo _ fun i s3 O3 T3 g1 g2 g3 g4 g5 g6=>?_
    have gb:=hbx s3 g2
    obtain⟨vo2,s4,e1,e2⟩:=hrest s3 O3 T3 (.ptr (some (nid b2 0,0))) (.bool true) g1 g2 g3 g5
    simp only[Qa,Qb,Qc,Qd,Qe,Qf,Qg,Qh,Qi,Qj,Qk,Ql,Qm,Qn,true_and,and_true,Qo,Qp,Qq,Qr,Qs,Qt,Qu,Qv,Qw,Qx,Qy,Qz,Ra,Rb,Rc,Rd,Re,Rf,Rg,Rh,Ri,Rj,Rk,Rl,Rm,Ya,Yb,Yc,Rn,Ro,Xv,Yd,Ye,Rq,Rs,Rt,Ru,Rw,Rx,Ry,VG,VH,gb,GK,Fe,ZS,e1,A0 _ _ _ _ hadd,Rz,Wa,Wb,Wc,Wd,We,Wf,Wg,Wh,Wi,Wj,Wl,Wm,Wn,Wp,Wq,Wr,Ws,Wt,Wu,Wv,Ww,Wx,Wy,Wz,Xa,Xb,Xc,Xd,Xe,Xf,Xg,Xh,Xi,Xj,Xk,Xl,Xm,Xn,Xo,Xp,Xq,Xr,cN,cP,cO,cL,cQ,cR,List.getElem?_cons_zero,List.getElem?_cons_succ,cM,cT,cU,cV,cK,Nat.reduceAdd,Nat.reduceLT,Nat.reduceLeDiff,decide_true,decide_false,Bool.true_and,Bool.and_true,cW,cJ,Option.some.injEq,Xs,Xt,Xu,Xv]
    exact e2
def Em:Ae:=R 80 0 false [.slice none 0 (some 0)]
theorem Oq:AT Tryz.prog 80 (zipIdx [] [])=some (.agg [.slice none 0 (some 0)]):=by kernel_rfl
set_option maxRecDepth 20000 in
theorem TD{E:Bb}(hE:Ah E){s:AD}(hg:Co s 1 BC=true)(h1:1<s.next){v:AV}{l:List JI}(hv:Cl s v l)(hu:∀m∈l,JI.ok m){K:AV→AD→Prop}
  (hK:∀ (q:Nat) (vo:AV) s' (ops:List Fa) OB,(∀o∈ops,o.ok)→ops.length≤40→BK s.next s s'→C2 46 12 s' vo ops.length (ops.flatMap Fa.cells) OB→(∀j∈OB,s.next≤j)→K (.tuple [.ptr (some (q,0)),vo]) s'):
  WF E 16 [v] K s:=by
 refine hE.go YV (by decide) rfl ?_
 generalize hs:s.next=b
 have hs0:s=ext s []:=(Ac s).symm
 have hnx:(ext s [Em]).next=b+1:=by rw[Wm,hs,AF];rfl
 have hq:(ext s [Em]).heap.get (nid b 0)=some Em:=by rw[Wg hs (by simp)];rfl
 have hrs:RS (ext s [Em]) (nid b 0) [] [nid b 0]:=by
  refine⟨⟨⟨.slice none 0 (some 0),[],hq,C2.nil _ _ _,fun t ht=>absurd ht (by simp),fun j hj=>hj,(by simp)⟩,fun i t h=>absurd h (by simp),fun j hj=>?_⟩,⟨by rw[BT (Wh h1)];exact hg,by rw[hnx];omega,fun hm=>?_⟩,fun t ht=>absurd ht (by simp)⟩
  ·rw[List.mem_singleton.1 hj,hnx,AF];omega
  ·have:=List.mem_singleton.1 hm
   rw[AF]at this;omega
 rw[hs0]
 simp only[bh,VA,VB,VC,VD,Qa,Qb,Qc,Qd,Qe,Qf,Qg,Qh,Qi,Qj,Qk,Ql,Qm,Qn,true_and,and_true,Qo,Qp,Qq,Qr,Qs,Qt,Qu,Qv,Qw,Qx,Qy,Qz,Ra,Rb,Rc,Rd,Re,Rf,Rg,Rh,Ri,Rj,Rk,Rl,Rm,Ya,Yb,Yc,Rn,Ro,Xv,Yd,Ye,Rq,Rs,Rt,Ru,Rw,Rx,Ry,hs,Oq,Rz,Wa,Wb,Wc,Wd,We,Wf,Wg,Wh,Wi,Wj,Wl,Wm,Wn,Wp,Wq,Wr,Ws,Wt,Wu,Wv,Ww,Wx,Wy,Wz,Xa,Xb,Xc,Xd,Xe,Xf,Xg,Xh,Xi,Xj,Xk,Xl,Xm,Xn,Xo,Xp,Xq,Xr,cN,cP,cO,cL,cQ,cR,List.getElem?_cons_zero,List.getElem?_cons_succ,cM,cT,cU,cV,cK,Nat.reduceAdd,Nat.reduceLT,Nat.reduceLeDiff,decide_true,decide_false,Bool.true_and,Bool.and_true,cW,cJ,Option.some.injEq,Xs,Xt,Xu,Xv]
 refine PR hE h1 hv hu _ _ (q:=nid b 0) (fun y6 y7 vo s' O' T' ops OB e1 e2 e3 e4 e5 e6=>?_) (min l.length 40) [] (ext s [Em]) [nid b 0] [] [] _ _ _ (by simp) (fun o ho=>by cases ho) hrs (fun j hj=>?_) AM (cp _) (C2.nil _ _ _) (fun j hj=>by cases hj)
 ·simp only[Qa,Qb,Qc,Qd,Qe,Qf,Qg,Qh,Qi,Qj,Qk,Ql,Qm,Qn,true_and,and_true,Qo,Qp,Qq,Qr,Qs,Qt,Qu,Qv,Qw,Qx,Qy,Qz,Ra,Rb,Rc,Rd,Re,Rf,Rg,Rh,Ri,Rj,Rk,Rl,Rm,Ya,Yb,Yc,Rn,Ro,Xv,Yd,Ye,Rq,Rs,Rt,Ru,Rw,Rx,Ry]
  rw[if_pos trivial]
  simp only[QO,Qa,Qb,Qc,Qd,Qe,Qf,Qg,Qh,Qi,Qj,Qk,Ql,Qm,Qn,true_and,and_true,Qo,Qp,Qq,Qr,Qs,Qt,Qu,Qv,Qw,Qx,Qy,Qz,Ra,Rb,Rc,Rd,Re,Rf,Rg,Rh,Ri,Rj,Rk,Rl,Rm,Ya,Yb,Yc,Rn,Ro,Xv,Yd,Ye,Rq,Rs,Rt,Ru,Rw,Rx,Ry]
  exact hK _ vo s' ops OB e1 e2 (hs▸e4) e5 (hs▸e6)
 ·rw[List.mem_singleton.1 hj,hs,AF];omega
theorem Ss:∀ {ops:List Fa},(∀o∈ops,o.ok)→∀ {i:Nat}{o:Fa},ops[i]? = some o→((ops.flatMap Fa.cells).drop (i * 12)).take 12=o.cells∧i * 12+12≤(ops.flatMap Fa.cells).length
 | [],_,i,t,h=>by simp at h
 | u::T,hT,i,t,h=>by
  have hl:u.cells.length=12:=by obtain⟨_,_,_,_,_,_,e,_⟩:=L5 u (hT u ck);rw[e];rfl
  have he:(u::T).flatMap Fa.cells=u.cells++T.flatMap Fa.cells:=rfl
  rw[he]
  cases i with
  | zero =>
   simp at h
   subst h
   rw[Nat.zero_mul,cM,dv (by omega),dD (by omega)]
   exact⟨rfl,by simp;omega⟩
  | succ i =>
   obtain⟨h1,h2⟩:=Ss (fun x hx=>hT x (cn _ hx)) (i:=i) (o:=t) (by simpa using h)
   rw[show(i+1) * 12=u.cells.length+i * 12 from by omega,List.drop_append,List.drop_of_length_le (show u.cells.length≤u.cells.length+i * 12 by omega),cL,show u.cells.length+i * 12 - u.cells.length=i * 12 from by omega]
   exact⟨h1,by rw[dC];omega⟩
theorem Hf{S:List Tm}{u t:Tm}(h:t∈push S u):t∈S∨t=u:=by
 unfold push at h
 split at h
 ·exact .inl h
 ·exact(List.mem_append.1 h).imp id List.mem_singleton.1
structure IE(S:List Tm)(k:Nat):Prop where
 len:S.length≤2 * k
 var:∀i,Tm.var i∈S→-1000≤i∧i≤900
 bnd:∀i,Tm.bnd i∈S→i≤1000
theorem N6{S:List Tm}{o:Fa}{t:Tm}(h:t∈X5 S o):t∈S∨t=Av∨t=Y6 S o:=by
  have hR:∀t∈Ze S o,t∈S∨t=Av:=fun t ht=>by
    have key:∀l,t∈Dl S.length S l→t∈S∨t=Av:=fun l hl=>by
      rcases GB (n:=S.length) (S:=S) l with e | e<;>rw[e]at hl
      · exact .inl hl
      · exact Hf hl
    unfold Ze at ht
    split at ht
    · exact key _ ht
    · split at ht
      · exact key _ ht
      · exact .inl ht
  rcases Hf h with h | h
  · exact(hR t h).imp id .inl
  · exact .inr (.inr h)
theorem T9{S:List Tm}{o:Fa}:(X5 S o).length≤S.length+2:=by
  have h1:=Cr (S:=Ze S o) (u:=Y6 S o)
  have h2:(Ze S o).length≤S.length+1:=by
    unfold Ze
    split
    · exact IB
    · split
      · exact IB
      · omega
  unfold X5
  omega
theorem IE.step    {S : List Tm} {k : Nat} (h : IE    S k) {o : Fa}  (ho : o.ok) : IE    (X5  S o) (k + 1) where
  len:=by have:=h.len;have:=T9 (S:=S) (o:=o);omega
  var:=fun i hi=>by
    rcases N6 hi with hi | hi | hi
    · exact h.var i hi
    · cases hi
    · unfold Y6 at hi
      split at hi
      · injection hi with hi;rw[hi];exact ho.2.2
      · split at hi
        · cases hi
        · split at hi
          · cases hi
          · split at hi<;>cases hi
  bnd:=fun i hi=>by
    rcases N6 hi with hi | hi | hi
    · exact h.bnd i hi
    · cases hi
    · unfold Y6 at hi
      split at hi
      · cases hi
      · split at hi
        · injection hi with hi;have:=ho.2.2;omega
        · split at hi
          · cases hi
          · split at hi<;>cases hi
set_option maxRecDepth 20000 in
theorem Lp{E:Bb}(hE:Ah E){s:AD}{p:Nat}{ops:List Fa}(hops:∀o∈ops,o.ok)(hl40:ops.length≤40){vo:AV}{OB:List Nat}(hb:C2 46 12 s vo ops.length (ops.flatMap Fa.cells) OB)(a0 a1:AV){Q:Aw→Prop}{marks:List Nat}
  (hend:∀ (y5:AV) s' S' O',AS s' p S' O'→Bw s' O'→IE S' 40→BK s.next s s'→(∀j∈O',s.next≤j)→Ab 0 Q ⟨.exit 0,[a0,a1,vo,.ptr (some (p,0)),iv (ops.length:Int),y5],marks,s'⟩):
  ∀ (d k:Nat) s1 S O (a5:AV),d+k=ops.length→AS s1 p S O→Bw s1 O→IE S k→BK s.next s s1→(∀j∈O,s.next≤j) →
   WC E none (AW.loop R0) (Ab 0 Q) [a0,a1,vo,.ptr (some (p,0)),iv (k:Int),a5] marks s1:=by
 intro d
 induction d with
 | zero =>
  intro k s1 S O a5 hd h hg hD ho hO
  have hk:k=ops.length:=by omega
  subst hk
  obtain⟨a,c,rfl,_⟩:=hb.slice
  refine WC.loop' ?_
  have hlt:¬ ((ops.length:Int)<(ops.length:Int)):=by omega
  simp only[R0,YM,Qa,Qb,Qc,Qd,Qe,Qf,Qg,Qh,Qi,Qj,Qk,Ql,Qm,Qn,true_and,and_true,Qo,Qp,Qq,Qr,Qs,Qt,Qu,Qv,Qw,Qx,Qy,Qz,Ra,Rb,Rc,Rd,Re,Rf,Rg,Rh,Ri,Rj,Rk,Rl,Rm,Ya,Yb,Yc,Rn,Ro,Xv,Yd,Ye,Rq,Rs,Rt,Ru,Rw,Rx,Ry,Af Tryz.underlying36,Rq,hlt,decide_false]
  exact hend _ s1 S O h hg ⟨by have:=hD.len;omega,hD.var,hD.bnd⟩ ho hO
 | succ d ih =>
  intro k s1 S O a5 hd h hg hD ho hO
  have hkl:k<ops.length:=by omega
  obtain⟨o,hko⟩:∃o,ops[k]? = some o:=⟨_,cY hkl⟩
  have hok:=hops o (cu hko)
  have hlt:(k:Int)<(ops.length:Int):=by omega
  have hadd:i64 ((k:Int)+1):=by unfold i64;omega
  obtain⟨hat,hle⟩:=Ss hops hko
  have hblt:=hb.lt
  rcases hb.row with⟨_,hz,_⟩ | ⟨j,r,rfl,hjO,hjr,hh⟩
  ·omega
  have hln:BF (s1.heap.get j) (k * 12) 12=some o.cells:=by rw[ho.2 j (hblt j hjO),hjr,ES hh hle,hat]
  have hlen:=hD.len
  have hdo:=fun K hK=>aZ (K:=K) hE h hg (by omega) hok hK
  refine WC.loop' ?_
  obtain⟨W,hW⟩:∃W,W=AW.loop R0:=⟨_,rfl⟩
  rw[← hW]
  simp only[R0,YM,aM,Qa,Qb,Qc,Qd,Qe,Qf,Qg,Qh,Qi,Qj,Qk,Ql,Qm,Qn,true_and,and_true,Qo,Qp,Qq,Qr,Qs,Qt,Qu,Qv,Qw,Qx,Qy,Qz,Ra,Rb,Rc,Rd,Re,Rf,Rg,Rh,Ri,Rj,Rk,Rl,Rm,Ya,Yb,Yc,Rn,Ro,Xv,Yd,Ye,Rq,Rs,Rt,Ru,Rw,Rx,Ry,Af Tryz.underlying36,Rq,hlt,decide_true,AU Tryz.underlying36 Fe hkl,GK,Fe,hln,Rz,Wa,Wb,Wc,Wd,We,Wf,Wg,Wh,Wi,Wj,Wl,Wm,Wn,Wp,Wq,Wr,Ws,Wt,Wu,Wv,Ww,Wx,Wy,Wz,Xa,Xb,Xc,Xd,Xe,Xf,Xg,Xh,Xi,Xj,Xk,Xl,Xm,Xn,Xo,Xp,Xq,Xr,cN,cP,cO,cL,cQ,cR,List.getElem?_cons_zero,List.getElem?_cons_succ,cM,cT,cU,cV,cK,Nat.reduceAdd,Nat.reduceLT,Nat.reduceLeDiff,decide_true,decide_false,Bool.true_and,Bool.and_true,cW,cJ,Option.some.injEq,Xs,Xt,Xu,Xv]
  refine hdo _ fun s2 O2 g1 g2 g3 g4=>?_
  have hso:=ho.1
  have:=ih (k+1) s2 _ O2 (.bool true) (by omega) g1 g2 (hD.step hok) ⟨cw ho.1 g3.1,fun x hx=>?_⟩ (fun x hx=>(g4 x hx).elim (hO x) (fun hl=>by omega))
  ·rw[← hW,show((k+1:Nat):Int)=(k:Int)+1 from by omega]at this
   simp only[Qa,Qb,Qc,Qd,Qe,Qf,Qg,Qh,Qi,Qj,Qk,Ql,Qm,Qn,true_and,and_true,Qo,Qp,Qq,Qr,Qs,Qt,Qu,Qv,Qw,Qx,Qy,Qz,Ra,Rb,Rc,Rd,Re,Rf,Rg,Rh,Ri,Rj,Rk,Rl,Rm,Ya,Yb,Yc,Rn,Ro,Xv,Yd,Ye,Rq,Rs,Rt,Ru,Rw,Rx,Ry,aN,A0 _ _ _ _ hadd]
   exact this
  ·rw[g3.2 x (by omega) (fun hm=>by have:=hO x hm;omega),ho.2 x hx]
set_option maxRecDepth 20000 in
theorem PQ{E:Bb}(hE:Ah E){s:AD}(hg:Co s 1 BC=true)(h1:1<s.next){v:AV}{l:List JI}(hv:Cl s v l)(hu:∀m∈l,JI.ok m){K:AV→AD→Prop}
  (hK:∀ (p:Nat) s' S O,AS s' p S O→Bw s' O→IE S 40→BK s.next s s'→(∀j∈O,s.next≤j)→K (.ptr (some (p,0))) s'):
  WF E 8 [v] K s:=by
 refine hE.go aW (by decide) rfl ?_
 simp only[c8,aI,aJ,Qa,Qb,Qc,Qd,Qe,Qf,Qg,Qh,Qi,Qj,Qk,Ql,Qm,Qn,true_and,and_true,Qo,Qp,Qq,Qr,Qs,Qt,Qu,Qv,Qw,Qx,Qy,Qz,Ra,Rb,Rc,Rd,Re,Rf,Rg,Rh,Ri,Rj,Rk,Rl,Rm,Ya,Yb,Yc,Rn,Ro,Xv,Yd,Ye,Rq,Rs,Rt,Ru,Rw,Rx,Ry]
 refine TD hE hg h1 hv hu fun q vo s1 ops OB e1 e2 e3 e4 e5=>?_
 simp only[Qa,Qb,Qc,Qd,Qe,Qf,Qg,Qh,Qi,Qj,Qk,Ql,Qm,Qn,true_and,and_true,Qo,Qp,Qq,Qr,Qs,Qt,Qu,Qv,Qw,Qx,Qy,Qz,Ra,Rb,Rc,Rd,Re,Rf,Rg,Rh,Ri,Rj,Rk,Rl,Rm,Ya,Yb,Yc,Rn,Ro,Xv,Yd,Ye,Rq,Rs,Rt,Ru,Rw,Rx,Ry,aK,aL,Rz,Wa,Wb,Wc,Wd,We,Wf,Wg,Wh,Wi,Wj,Wl,Wm,Wn,Wp,Wq,Wr,Ws,Wt,Wu,Wv,Ww,Wx,Wy,Wz,Xa,Xb,Xc,Xd,Xe,Xf,Xg,Xh,Xi,Xj,Xk,Xl,Xm,Xn,Xo,Xp,Xq,Xr,cN,cP,cO,cL,cQ,cR,List.getElem?_cons_zero,List.getElem?_cons_succ,cM,cT,cU,cV,cK,Nat.reduceAdd,Nat.reduceLT,Nat.reduceLeDiff,decide_true,decide_false,Bool.true_and,Bool.and_true,cW,cJ,Option.some.injEq,Xs,Xt,Xu,Xv]
 refine ZL hE (by rw[BT (e3.2 1 h1)];exact hg) (cg h1 e3.1) fun p s2 O g1 g2 g3 g4=>?_
 simp only[Qa,Qb,Qc,Qd,Qe,Qf,Qg,Qh,Qi,Qj,Qk,Ql,Qm,Qn,true_and,and_true,Qo,Qp,Qq,Qr,Qs,Qt,Qu,Qv,Qw,Qx,Qy,Qz,Ra,Rb,Rc,Rd,Re,Rf,Rg,Rh,Ri,Rj,Rk,Rl,Rm,Ya,Yb,Yc,Rn,Ro,Xv,Yd,Ye,Rq,Rs,Rt,Ru,Rw,Rx,Ry,Rz,Wa,Wb,Wc,Wd,We,Wf,Wg,Wh,Wi,Wj,Wl,Wm,Wn,Wp,Wq,Wr,Ws,Wt,Wu,Wv,Ww,Wx,Wy,Wz,Xa,Xb,Xc,Xd,Xe,Xf,Xg,Xh,Xi,Xj,Xk,Xl,Xm,Xn,Xo,Xp,Xq,Xr,cN,cP,cO,cL,cQ,cR,List.getElem?_cons_zero,List.getElem?_cons_succ,cM,cT,cU,cV,cK,Nat.reduceAdd,Nat.reduceLT,Nat.reduceLeDiff,decide_true,decide_false,Bool.true_and,Bool.and_true,cW,cJ,Option.some.injEq,Xs,Xt,Xu,Xv]
 refine Lp hE (s:=s1) e1 e2 e4 _ _ (fun y5 s' S' O' k1 k2 k3 k4 k5=>?_) ops.length 0 s2 [] O _ (by omega) g2 g3 ⟨cp _,fun i hi=>absurd hi (by simp),fun i hi=>absurd hi (by simp)⟩ g1 g4
 simp only[Qa,Qb,Qc,Qd,Qe,Qf,Qg,Qh,Qi,Qj,Qk,Ql,Qm,Qn,true_and,and_true,Qo,Qp,Qq,Qr,Qs,Qt,Qu,Qv,Qw,Qx,Qy,Qz,Ra,Rb,Rc,Rd,Re,Rf,Rg,Rh,Ri,Rj,Rk,Rl,Rm,Ya,Yb,Yc,Rn,Ro,Xv,Yd,Ye,Rq,Rs,Rt,Ru,Rw,Rx,Ry]
 rw[if_pos trivial]
 simp only[aO,Qa,Qb,Qc,Qd,Qe,Qf,Qg,Qh,Qi,Qj,Qk,Ql,Qm,Qn,true_and,and_true,Qo,Qp,Qq,Qr,Qs,Qt,Qu,Qv,Qw,Qx,Qy,Qz,Ra,Rb,Rc,Rd,Re,Rf,Rg,Rh,Ri,Rj,Rk,Rl,Rm,Ya,Yb,Yc,Rn,Ro,Xv,Yd,Ye,Rq,Rs,Rt,Ru,Rw,Rx,Ry]
 exact hK p s' S' O' k1 k2 k3 (e3.trans (k4.mono e3.1)) fun j hj=>cw e3.1 (k5 j hj)
def Tm.nat:Tm→Prop
 | .bnd i=>0≤i
 | .sel d k=>d.nat∧k.nat
 | .upd d k a=>d.nat∧k.nat∧a.nat
 | _=>True
theorem Hx.kidS{S:List Tm}(h:Hx S):∀t∈S,∀k∈t.kids,k∈S:=fun t ht k hk=>by
 obtain⟨j,_,hj⟩:=h.cl _ _ (C0 ht) k hk
 exact cu hj
theorem Hx.nat{S:List Tm}(h:Hx S):∀t,t∈S→t.nat
 | .var _,_=>trivial
 | .bnd i,ht=>(h.ok _ ht).1
 | .con _,_=>trivial
 | .sel d k,ht=>⟨h.nat d (h.kidS _ ht d (by simp[Tm.kids])),h.nat k (h.kidS _ ht k (by simp[Tm.kids]))⟩
 | .upd d k a,ht=>⟨h.nat d (h.kidS _ ht d (by simp[Tm.kids])),h.nat k (h.kidS _ ht k (by simp[Tm.kids])),h.nat a (h.kidS _ ht a (by simp[Tm.kids]))⟩
theorem DC{f:Tm→Option Tm}{d k:Tm}(h:f (.sel d k)=none):BM f (.sel d k)=.sel (BM f d) (BM f k):=by
 rw[BM,h]
theorem DD{f:Tm→Option Tm}{d k a:Tm}(h:f (.upd d k a)=none):BM f (.upd d k a)=.upd (BM f d) (BM f k) (BM f a):=by
 rw[BM,h]
theorem DE{ids:List Int}{i:Int}(h:i∈ids):BM (BY ids) (.var i)=.bnd (ids.idxOf i:Int):=D7 (if_pos h)
theorem B7{ids:List Int}{i:Int}(h:i ∉ ids):BM (BY ids) (.var i)=.var i:=Ew (if_neg h) rfl
theorem D8(ids:List Int)(i:Int):BM (BY ids) (.bnd i)=.bnd (i+(ids.length:Int)):=D7 rfl
theorem D9(ids:List Int)(n:Nat):BM (BY ids) (.con n)=.con n:=Ew rfl rfl
theorem Ge(us:List Tm)(i:Int):BM (B2 us) (.var i)=.var i:=Ew rfl rfl
theorem Gd(us:List Tm)(n:Nat):BM (B2 us) (.con n)=.con n:=Ew rfl rfl
theorem FA{us:List Tm}{i:Nat}{u:Tm}(h:us[i]? = some u):BM (B2 us) (.bnd (i:Int))=u:=by
 have hl:i<us.length:=by
  rcases cZ i us.length with h' | h'
  ·exact h'
  ·rw[cm h']at h;cases h
 refine D7 ?_
 show(if (i:Int)<(us.length:Int)then us[(i:Int).toNat]? else _)=_
 rw[if_pos (by omega),show(i:Int).toNat=i from by omega,h]
theorem DH{us:List Tm}{i:Int}(h:(us.length:Int)≤i):BM (B2 us) (.bnd i)=.bnd (i - (us.length:Int)):=D7 (if_neg (by omega))
theorem Ci{ids:List Int}:∀t:Tm,t.nat→BM (B2 (ids.map .var)) (BM (BY ids) t)=t
  | .var i,_=>by
    by_cases h:i∈ids
    · rw [DE           h]
      refine FA ?_
      have hl:=dp h
      rw[dG,cY hl,List.getElem_idxOf hl];rfl
    · rw[B7 h,Ge]
  | .bnd i,h=>by
    have h:0≤i:=h
    rw[D8,DH (by rw[co];omega),co]
    congr 1;omega
  | .con n,_=>by rw[D9,Gd]
  | .sel d k,h=>by rw[DC rfl,DC rfl,Ci d h.1,Ci k h.2]
  | .upd d k a,h=>by rw[DD rfl,DD rfl,Ci d h.1,Ci k h.2.1,Ci a h.2.2]
theorem Ce{ids:List Int}(hn:ids.Nodup):∀t:Tm,t.nat→(∀x∈ids,t.has x=false)→BM (BY ids) (BM (B2 (ids.map .var)) t)=t
  | .var i,_,h=>by
    rw[Ge,B7 fun hm=>by have:=h i hm;simp[Tm.has]at this]
  | .bnd i,h,_=>by
    have h:0≤i:=h
    by_cases hl:i<(ids.length:Int)
    · have hl' : i.toNat < ids.length := by omega
      have e:i=(i.toNat:Int):=by omega
      rw[e,FA (u:=.var ids[i.toNat]) (by rw[dG,cY hl'];rfl),DE (dd hl')]
      rw[hn.idxOf_getElem _ hl']
    · rw[DH (by rw[co];omega),co,D8]
      congr 1;omega
  | .con n,_,_=>by rw[Gd,D9]
  | .sel d k,h,g=>by
    have g1:∀x∈ids,d.has x=false:=fun x hx=>by have:=g x hx;simp only[Tm.has,Bool.or_eq_false_iff]at this;exact this.1
    have g2:∀x∈ids,k.has x=false:=fun x hx=>by have:=g x hx;simp only[Tm.has,Bool.or_eq_false_iff]at this;exact this.2
    rw[DC rfl,DC rfl,Ce hn d h.1 g1,Ce hn k h.2 g2]
  | .upd d k a,h,g=>by
    have g1:∀x∈ids,d.has x=false:=fun x hx=>by have:=g x hx;simp only[Tm.has,Bool.or_eq_false_iff]at this;exact this.1.1
    have g2:∀x∈ids,k.has x=false:=fun x hx=>by have:=g x hx;simp only[Tm.has,Bool.or_eq_false_iff]at this;exact this.1.2
    have g3:∀x∈ids,a.has x=false:=fun x hx=>by have:=g x hx;simp only[Tm.has,Bool.or_eq_false_iff]at this;exact this.2
    rw[DD rfl,DD rfl,Ce hn d h.1 g1,Ce hn k h.2.1 g2,Ce hn a h.2.2 g3]
theorem DL{ids:List Int}{x:Int}(hx:x∈ids):∀t:Tm,(BM (BY ids) t).has x=false
 | .var i=>by
  by_cases h:i∈ids
  ·rw[DE h];rfl
  ·rw[B7 h]
   show decide (i=x)=false
   exact decide_eq_false fun e=>h (e▸hx)
 | .bnd i=>by rw[D8];rfl
 | .con n=>by rw[D9];rfl
 | .sel d k=>by rw[DC rfl];simp only[Tm.has,DL hx d,DL hx k,Bool.or_false]
 | .upd d k a=>by rw[DD rfl];simp only[Tm.has,DL hx d,DL hx k,DL hx a,Bool.or_false]
theorem EI{ids:List Int}:∀t:Tm,(BM (BY ids) t).sz=t.sz
 | .var i=>by
  by_cases h:i∈ids
  ·rw[DE h];rfl
  ·rw[B7 h]
 | .bnd i=>by rw[D8];rfl
 | .con n=>by rw[D9]
 | .sel d k=>by rw[DC rfl];simp only[Tm.sz,EI d,EI k]
 | .upd d k a=>by rw[DD rfl];simp only[Tm.sz,EI d,EI k,EI a]
theorem PB(t:Tm):BM (BY []) t=t:=by
 induction t with
 | var i=>exact B7 (by simp)
 | bnd i=>rw[D8];simp
 | con n=>exact D9 _ _
 | sel d k h1 h2=>rw[DC rfl,h1,h2]
 | upd d k a h1 h2 h3=>rw[DD rfl,h1,h2,h3]
theorem Sr(t:Tm)(h:t.nat):BM (B2 []) t=t:=by
 induction t with
 | var i=>exact Ge _ _
 | bnd i=>rw[DH (show((0:Nat):Int)≤i from h)];simp
 | con n=>exact Gd _ _
 | sel d k h1 h2=>rw[DC rfl,h1 h.1,h2 h.2]
 | upd d k a h1 h2 h3=>rw[DD rfl,h1 h.1,h2 h.2.1,h3 h.2.2]
theorem Ls{f:Tm→Option Tm}{L:List Tm}(hk:∀t∈L,∀k∈t.kids,k∈L)(hf:∀t∈L,∀u,f t=some u→u.kids=[]):∀t∈L.map (BM f),∀k∈t.kids,k∈L.map (BM f):=fun t ht k hkt=>by
 obtain⟨u,hu,rfl⟩:=List.mem_map.1 ht
 cases h:f u with
 | some w=>rw[D7 h,hf u hu w h]at hkt;cases hkt
 | none =>
  rw[(LV h).1]at hkt
  obtain⟨w,hw,rfl⟩:=List.mem_map.1 hkt
  exact List.mem_map.2 ⟨w,hk u hu w hw,rfl⟩
theorem LZ{ids:List Int}(t u:Tm)(h:BY ids t=some u):u.kids=[]:=by
 cases t with
 | var i =>
  change (if i∈ids then some (Tm.bnd (ids.idxOf i:Int))else none)=some u at h
  split at h
  ·injection h with h;rw[← h];rfl
  ·cases h
 | bnd i=>injection h with h;rw[← h];rfl
 | con n=>cases h
 | sel d k=>cases h
 | upd d k a=>cases h
theorem Mv{us:List Tm}(hu:∀u∈us,u.kids=[])(t u:Tm)(h:B2 us t=some u):u.kids=[]:=by
 cases t with
 | bnd i =>
  change (if i<(us.length:Int)then us[i.toNat]? else some (.bnd (i - (us.length:Int))))=some u at h
  split at h
  ·exact hu u (cu h)
  ·injection h with h;rw[← h];rfl
 | var i=>cases h
 | con n=>cases h
 | sel d k=>cases h
 | upd d k a=>cases h
theorem QD{ids:List Int}{L:List Tm}{B:Int}(hB:∀i,Tm.bnd i∈L→0≤i∧i<B):∀i,Tm.bnd i∈L.map (BM (B2 (ids.map .var)))→i<B:=fun i hi=>by
  obtain⟨u,hu,e⟩:=List.mem_map.1 hi
  cases u with
  | var j=>rw[Ge]at e;cases e
  | con n=>rw[Gd]at e;cases e
  | sel d k=>rw[DC rfl]at e;cases e
  | upd d k a=>rw[DD rfl]at e;cases e
  | bnd j =>
    obtain⟨h0,h1⟩:=hB j hu
    by_cases hl:j<(ids.length:Int)
    · have hl' : j.toNat < ids.length := by omega
      have e2:j=(j.toNat:Int):=by omega
      rw[e2,FA (u:=.var ids[j.toNat]) (by rw[dG,cY hl'];rfl)]at e
      cases e
    · rw[DH (by rw[co];omega),co]at e
      injection e with e
      omega
def GH(S:List Tm)(x:Int)(u:Tm):Prop:=H9 S.length x=true∧As S x=u
theorem OH{n:Nat}{x:Int}:H9 n x=true↔0≤x∧x<(n:Int):=by
 unfold H9;simp
theorem MR{S:List Tm}{k:Nat}{u:Tm}(h:S[k]? = some u):GH S (k:Int) u:=by
 have hl:k<S.length:=by
  rcases cZ k S.length with h' | h'
  ·exact h'
  ·rw[cm h']at h;cases h
 have hr:H9 S.length (k:Int)=true:=OH.2 (by omega)
 refine⟨hr,?_⟩
 unfold As
 rw[if_pos hr,du,Int.toNat_natCast,h];rfl
theorem GH.at{S:List Tm}{x:Int}{u:Tm}(h:GH S x u):∃k:Nat,x=(k:Int)∧S[k]? = some u:=by
 obtain⟨h1,h2⟩:=h
 obtain⟨h3,h4⟩:=OH.1 h1
 refine⟨x.toNat,by omega,?_⟩
 unfold As at h2
 rw[if_pos h1,du]at h2
 have hl:x.toNat<S.length:=by omega
 rw[cY hl]at h2 ⊢
 rw[← h2];rfl
theorem GH.ext{S S':List Tm}{x:Int}{u:Tm}(h:GH S x u)(k:∃y,S'=S++y):GH S' x u:=by
 obtain⟨n,rfl,hn⟩:=h.at
 obtain⟨y,rfl⟩:=k
 refine MR ?_
 have hl:n<S.length:=by
  rcases cZ n S.length with h' | h'
  ·exact h'
  ·rw[cm h']at hn;cases hn
 rw[dA hl];exact hn
theorem GH.mem{S:List Tm}{x:Int}{u:Tm}(h:GH S x u):u∈S:=by
 have:=(FV h.1).1
 rw[h.2]at this;exact this
theorem GH.of{S:List Tm}{u:Tm}(h:u∈S):GH S (ix S u:Int) u:=⟨(Od h).2,(Od h).1⟩
theorem GH.ix{S:List Tm}{x:Int}{u:Tm}(h:GH S x u)(hn:S.Nodup):(ix S u:Int)=x:=by
 have:=(FV h.1).2 hn
 rw[h.2]at this;exact this
theorem GH.inj{S:List Tm}{x y:Int}{u:Tm}(h:GH S x u)(k:GH S y u)(hn:S.Nodup):x=y:=by rw[← h.ix hn,k.ix hn]
structure TW(S0:List Tm)(p:Nat)(s:AD)(S:List Tm)(O:List Nat)(m:Nat):Prop where
 st:AS s p S O
 gl:Bw s O
 pre:∃x,S=S0++x
 len:S.length≤200+82 * m
section
variable{E:Bb}(hE:Ah E){S0:List Tm}{p:Nat}{s:AD}{S:List Tm}{O:List Nat}{m:Nat}(h:TW S0 p s S O m)(hm:m≤900)
include h
theorem TW.old{s':AD}(k:BK s.next s s'):TW S0 p s' S O m:=⟨h.st.old k,h.gl.old k,h.pre,h.len⟩
theorem TW.nd:S.Nodup:=h.st.ok.nd
theorem TW.frame{s':AD}(hn:s.next≤s'.next)(k1:s'.heap.get 1=s.heap.get 1)(k:∀j∈O,s'.heap.get j=s.heap.get j):TW S0 p s' S O m:=
 ⟨h.st.frame hn k,⟨by rw[BT k1];exact h.gl.1,cg h.gl.2.1 hn,h.gl.2.2⟩,h.pre,h.len⟩
include hE
theorem Of{ti:Int}{u:Tm}(hn:GH S ti u){K:AV→AD→Prop}(hK:∀s',BK s.next s s'→K (iv (u.sz:Int)) s'):WF E 15 [.ptr (some (p,0)),iv ti] K s:=by
 rw[← hn.ix h.nd]
 exact UY hE h.st hn.mem hK
theorem Ug{ti:Int}{u:Tm}(hn:GH S ti u){K:AV→AD→Prop}(hK:∀v l s',BK s.next s s'→Fu u l→Ad s' v l→K v s'):WF E 13 [.ptr (some (p,0)),iv ti] K s:=by
 rw[← hn.ix h.nd]
 exact Uj hE h.st hn.mem fun v l s' h1 h2 h3 _=>hK v l s' h1 h2 h3
include hm
theorem ZW{i:Int}(hi:i64 i){K:AV→AD→Prop}(hK:∀s' S' O' r,TW S0 p s' S' O' (m+1)→Bk O s s'→AR O O' s→(∃x,S'=S++x)→GH S' r (.var i)→K (iv r) s'):WF E 11 [.ptr (some (p,0)),iv i] K s:=by
 have hl:=h.len
 refine Oe hE h.st (by omega) hi fun s' O' h1 h2 h3=>?_
 have h4:=Cr (S:=S) (u:=.var i)
 exact hK s' _ O' _ ⟨h1,h.gl.step h2 h3,Cj h.pre Gf,by omega⟩ h2 h3 Gf (GH.of Ct)
variable{L:List Tm}(hLl:L.length≤81)(hLk:∀t∈L,∀k∈t.kids,k∈L){ti:Int}{u:Tm}(hn:GH S ti u)(hu:u∈L)
include hLl hLk hn hu
theorem JE{v:AV}{ids:List Int}(hv:A2 s O v ids)(hl:ids.length≤1000)(hb:∀i,Tm.bnd i∈L→i<1000000000){K:AV→AD→Prop}
  (hK:∀s' S' O' r,TW S0 p s' S' O' (m+1)→Bk O s s'→AR O O' s→(∃x,S'=S++x)→GH S' r (BM (BY ids) u)→K (iv r) s'):WF E 12 [.ptr (some (p,0)),iv ti,v] K s:=by
 have hlen:=h.len
 refine R6 hE h.st h.gl (L:=L) (by omega) hv (by omega) hb hLk (by rw[hn.2];exact hu) fun s' S' O' h1 h2 h3 h4 h5 h6 h7=>?_
 rw[hn.2]at h7 ⊢
 rw[NX (fun x hx=>by rw[List.mem_singleton.1 hx];exact hn.1)]at h5
 exact hK s' S' O' _ ⟨h1,h2,Cj h.pre h5,by omega⟩ h3 h4 h5 (GH.of h7)
theorem K5{v:AV}{bs:List Int}{us:List Tm}(hv:Ad s v bs)(hl:bs.length≤900)(hbs:∀x∈bs,H9 S.length x=true)(hus:bs.map (As S)=us){K:AV→AD→Prop}
  (hK:∀s' S' O' r,TW S0 p s' S' O' (m+1)→Bk O s s'→AR O O' s→(∃x,S'=S++x)→GH S' r (BM (B2 us) u)→K (iv r) s'):WF E 14 [.ptr (some (p,0)),iv ti,v] K s:=by
 have hlen:=h.len
 refine UM hE h.st h.gl (L:=L) (by omega) hv hl hLk (by rw[hn.2];exact hu) fun s' S' O' h1 h2 h3 h4 h5 h6 h7=>?_
 rw[hn.2,hus]at h7 ⊢
 rw[NX (fun x hx=>(dE.1 hx).elim (fun e=>by rw[e];exact hn.1) (hbs x))]at h5
 exact hK s' S' O' _ ⟨h1,h2,Cj h.pre h5,by omega⟩ h3 h4 h5 (GH.of h7)
end
def GI(S:List Tm)(ks:List Int)(us:List Tm):Prop:=(∀x∈ks,H9 S.length x=true)∧ks.map (As S)=us
theorem GI.ext{S S':List Tm}{ks:List Int}{us:List Tm}(h:GI S ks us)(k:∃y,S'=S++y):GI S' ks us:=by
 obtain⟨h1,rfl⟩:=h
 refine⟨fun x hx=>((show GH S x _ from⟨h1 x hx,rfl⟩).ext k).1,dr fun x hx=>((show GH S x _ from⟨h1 x hx,rfl⟩).ext k).2⟩
theorem GI.snoc{S:List Tm}{ks:List Int}{us:List Tm}{x:Int}{u:Tm}(h:GI S ks us)(k:GH S x u):GI S (ks++[x]) (us++[u]):=by
 obtain⟨h1,rfl⟩:=h
 refine⟨fun y hy=>?_,by rw[dY,List.map_singleton,k.2]⟩
 rcases List.mem_append.1 hy with hy | hy
 ·exact h1 y hy
 ·rw[List.mem_singleton.1 hy];exact k.1
theorem GI.len{S:List Tm}{ks:List Int}{us:List Tm}(h:GI S ks us):ks.length=us.length:=by rw[← h.2,co]
theorem C2.ap{s:AD}{v:AV}{n:Nat}{l:List Int}{OB O:List Nat}(h:C2 3 1 s v n (BP l) OB)(hO:∀j∈OB,j ∉ O):A2 s O v l:=by
 have hl:=h.len
 rw[BI,ct]at hl
 subst hl
 have hlt:=h.lt
 rcases h.row with⟨rfl,h1,h2⟩ | ⟨i,r,rfl,h2,h3,h4⟩
 ·rw[dU h1];exact A2.nil s O
 ·exact A2.of h3 (hlt i h2) (hO i h2) (by rw[ES h4 (by rw[BI,cK];exact cJ _),cM,dD (by rw[BI];exact cJ _)])
theorem Zo:Cw Tryz.prog 28=some false:=by kernel_rfl
theorem ao:Ap Tryz.prog 28=some 1:=by kernel_rfl
abbrev j8(x:Int):AV:=.int .i8 x
theorem N4{s:AD}{x:Int}(h:-128≤x∧x≤127):BB Tryz.prog s 28 3 (j8 x)=some (iv x):=by
 simp[BB,Tryz.underlying28,Tryz.underlying3,Gs (n:=x) ⟨by omega,by omega⟩]
def HS(s:AD)(v:AV)(l:List Int):Prop:=
 ∃a cap,v=.slice a l.length cap∧∀ (k:Nat) (x:Int),l[k]? = some x→∃j q,a=some (j,q)∧j<s.next∧CW (s.heap.get j) (q+k)=some (j8 x)
theorem HS.old{s s':AD}{v:AV}{l:List Int}(h:HS s v l)(k:BK s.next s s'):HS s' v l:=by
 obtain⟨a,cap,h1,h2⟩:=h
 refine⟨a,cap,h1,fun i m hm=>?_⟩
 obtain⟨j,q,h3,h4,h5⟩:=h2 i m hm
 exact⟨j,q,h3,cg h4 k.1,by rw[k.2 j h4];exact h5⟩
theorem HS.len{s:AD}{v:AV}{l:List Int}(h:HS s v l)(s':AD):BN Tryz.prog s' 23 v=some (iv (l.length:Int)):=by
 obtain⟨a,cap,rfl,_⟩:=h
 exact Af Tryz.underlying23
theorem IK{s:AD}{v:AV}{l:List Int}{OB:List Nat}(hb:C2 3 1 s v l.length (BP l) OB)(x:Int)(hl:l.length≤1000000):
  ∃v2 s2 OB2,Aj Tryz.prog (newObj s (R 3 1 false (BP [x]))) [27,27] [v,.slice (some (s.next,0)) 1 (some 1)]=some (v2,s2)∧C2 3 1 s2 v2 (l++[x]).length (BP (l++[x])) OB2∧s2.next=s.next+2∧(∀j,j<s.next→j ∉ OB→s2.heap.get j=s.heap.get j)∧(∀j∈OB2,j∈OB∨s.next≤j):=by
 have hnx:(ext s [R 3 1 false (BP [x])]).next=s.next+1:=by rw[Wm,AF];rfl
 have hrd:Ad (ext s [R 3 1 false (BP [x])]) (.slice (some (nid s.next 0,0)) 1 (some 1)) [x]:=.inr ⟨nid s.next 0,0,some 1,rfl,by rw[hnx,AF];omega,by rw[Wg rfl (by simp)];exact Wj (cJ _)⟩
 have hbuf2:=hb.frame (s':=ext s [R 3 1 false (BP [x])]) (by rw[hnx];omega) fun j hj=>Wh (hb.lt j hj)
 obtain⟨v2,s3,OB2,happ,hb2,hn2,hf2,hO2,hsl⟩:=hbuf2.append (xt:=27) (m:=1) Tryz.underlying27 Dt Zb (by omega) FW JG (by omega) (FI hrd) rfl (FP _) (by omega) (by omega)
 rw[hnx]at hn2 hf2 hO2
 have hne:newObj s (R 3 1 false (BP [x]))=ext s [R 3 1 false (BP [x])]:=by
  have:=Wl s [] (R 3 1 false (BP [x]))
  rw[Ac]at this;exact this
 rw[← hne,ED]at happ
 rw[← In]at hb2
 refine⟨v2,s3,OB2,happ,by rw[dC];exact hb2,by omega,fun j hj hB=>by rw[hf2 j (by omega) hB,Wh (by omega)],fun j hj=>(hO2 j hj).imp id fun h=>by omega⟩
structure Eo(own far:List Int)(i:Nat):Prop where
 nd:own.Nodup
 nf:far.Nodup
 len:own.length=far.length
 le:own.length≤i
 own:∀x∈own,-128≤x∧x≤127
 far:∀x∈far,1000≤x∧x<1000+(i:Int)
theorem Eo.skip{own far:List Int}{i:Nat}(h:Eo own far i):Eo own far (i+1):=
 ⟨h.nd,h.nf,h.len,by have:=h.le;omega,h.own,fun x hx=>by have:=h.far x hx;omega⟩
theorem Eo.take{own far:List Int}{i:Nat}(h:Eo own far i){x:Int}(hx:x ∉ own)(h8:-128≤x∧x≤127):Eo (own++[x]) (far++[1000+(i:Int)]) (i+1) where
 nd:=List.nodup_append.2 ⟨h.nd,by simp,fun a ha b hb=>by rw[List.mem_singleton.1 hb];exact fun e=>hx (e▸ha)⟩
 nf:=List.nodup_append.2 ⟨h.nf,by simp,fun a ha b hb=>by rw[List.mem_singleton.1 hb];have:=h.far a ha;omega⟩
 len:=by rw[dC,dC,h.len];rfl
 le:=by have:=h.le;rw[dC];simp;omega
 own:=fun y hy=>(List.mem_append.1 hy).elim (h.own y) fun hy=>by rw[List.mem_singleton.1 hy];exact h8
 far:=fun y hy=>(List.mem_append.1 hy).elim (fun hy=>by have:=h.far y hy;omega) fun hy=>by rw[List.mem_singleton.1 hy];omega
set_option maxRecDepth 20000 in
theorem SX       {E : Bb}  (hE : Ah    E) {s : AD}  {v1 : AV} {l : List Int} (hv : HS    s v1 l) (h8 : ∀ x ∈ l, -128 ≤ x ∧ x ≤ 127) (a0 a2 a3 a6 a7 a10 a11 a12 a13 a14 a15 a16 a19 a20 a21 a22 a23 : AV) {Q : Aw   → Prop} {marks : List Nat}
    (hend:∀ (y8 y9 y17 y18 v4 v5:AV) s' own far OB4 OB5,Eo own far 5→BK s.next s s'→C2 3 1 s' v4 own.length (BP own) OB4→C2 3 1 s' v5 far.length (BP far) OB5→(∀j∈OB4,s.next≤j)→(∀j∈OB5,s.next≤j) →
      Ab 0 Q ⟨.exit 0,[a0,v1,a2,a3,v4,v5,a6,a7,y8,y9,a10,a11,a12,a13,a14,a15,a16,y17,y18,a19,a20,a21,a22,a23],marks,s'⟩):
    ∀ (d i:Nat) s1 own far OB4 OB5 (v4 v5 a9 a17 a18:AV),d+i=min l.length 5→Eo own far i→BK s.next s s1→C2 3 1 s1 v4 own.length (BP own) OB4→C2 3 1 s1 v5 far.length (BP far) OB5→(∀j∈OB4,s.next≤j)→(∀j∈OB5,s.next≤j∧j ∉ OB4) →
      WC E none (AW.loop IP) (Ab 0 Q) [a0,v1,a2,a3,v4,v5,a6,a7,iv (i:Int),a9,a10,a11,a12,a13,a14,a15,a16,a17,a18,a19,a20,a21,a22,a23] marks s1:=by
  intro d
  induction d with
  | zero =>
    intro i s1 own far OB4 OB5 v4 v5 a9 a17 a18 hd hT ho hb4 hb5 hO4 hO5
    have hlen:=hv.len
    have hT5:Eo own far 5:=⟨hT.nd,hT.nf,hT.len,by have:=hT.le;omega,hT.own,fun x hx=>by have:=hT.far x hx;omega⟩
    refine WC.loop' ?_
    by_cases hlt:(i:Int)<(l.length:Int)
    · have hlt2:¬ ((i:Int)<5):=by omega
      simp only[IP,Q8,Qa,Qb,Qc,Qd,Qe,Qf,Qg,Qh,Qi,Qj,Qk,Ql,Qm,Qn,true_and,and_true,Qo,Qp,Qq,Qr,Qs,Qt,Qu,Qv,Qw,Qx,Qy,Qz,Ra,Rb,Rc,Rd,Re,Rf,Rg,Rh,Ri,Rj,Rk,Rl,Rm,Ya,Yb,Yc,Rn,Ro,Xv,Yd,Ye,Rq,Rs,Rt,Ru,Rw,Rx,Ry,hlen,Rq,hlt,decide_true,hlt2,decide_false]
      exact hend _ _ _ _ v4 v5 s1 own far OB4 OB5 hT5 ho hb4 hb5 hO4 fun j hj=>(hO5 j hj).1
    · simp only[IP,Q8,Qa,Qb,Qc,Qd,Qe,Qf,Qg,Qh,Qi,Qj,Qk,Ql,Qm,Qn,true_and,and_true,Qo,Qp,Qq,Qr,Qs,Qt,Qu,Qv,Qw,Qx,Qy,Qz,Ra,Rb,Rc,Rd,Re,Rf,Rg,Rh,Ri,Rj,Rk,Rl,Rm,Ya,Yb,Yc,Rn,Ro,Xv,Yd,Ye,Rq,Rs,Rt,Ru,Rw,Rx,Ry,hlen,Rq,hlt,decide_false]
      exact hend _ _ _ _ v4 v5 s1 own far OB4 OB5 hT5 ho hb4 hb5 hO4 fun j hj=>(hO5 j hj).1
  | succ d ih =>
    intro i s1 own far OB4 OB5 v4 v5 a9 a17 a18 hd hT ho hb4 hb5 hO4 hO5
    have hlen:=hv.len
    have hil:i<l.length:=by omega
    have hlt:(i:Int)<(l.length:Int):=by omega
    have hlt2:(i:Int)<5:=by omega
    have hadd:i64 ((i:Int)+1):=by unfold i64;omega
    have hadd2:i64 (1000+(i:Int)):=by unfold i64;omega
    obtain⟨x,hx⟩:∃x,l[i]? = some x:=⟨_,cY hil⟩
    have hx8:=h8 x (cu hx)
    obtain⟨a,cap,rfl,hat⟩:=hv.old ho
    obtain⟨j,qq,rfl,hj,hld⟩:=hat _ x hx
    have hle:=hT.le
    have hrd:=hb4.rd
    have hin:=fun(K:AV→AD→Prop) hK=>X7 (K:=K) hE hrd (by omega) (x:=x) hK
    refine WC.loop' ?_
    obtain⟨W,hW⟩:∃W,W=AW.loop IP:=⟨_,rfl⟩
    rw[← hW]
    by_cases hm:x∈own
    · have F0  : decide (x ∈ own) = true := decide_eq_true hm
      have:=ih (i+1) s1 own far OB4 OB5 v4 v5 (iv x) (.bool true) (.bool true) (by omega) hT.skip ho hb4 hb5 hO4 hO5
      rw[← hW,show((i+1:Nat):Int)=(i:Int)+1 from by omega]at this
      simp only[IP,Q8,YK,YL,Qa,Qb,Qc,Qd,Qe,Qf,Qg,Qh,Qi,Qj,Qk,Ql,Qm,Qn,true_and,and_true,Qo,Qp,Qq,Qr,Qs,Qt,Qu,Qv,Qw,Qx,Qy,Qz,Ra,Rb,Rc,Rd,Re,Rf,Rg,Rh,Ri,Rj,Rk,Rl,Rm,Ya,Yb,Yc,Rn,Ro,Xv,Yd,Ye,Rq,Rs,Rt,Ru,Rw,Rx,Ry,hlen,Rq,hlt,hlt2,decide_true,AU Tryz.underlying23 ao hil,ct,hld,Zo,N4 hx8,Rz,Wa,Wb,Wc,Wd,We,Wf,Wg,Wh,Wi,Wj,Wl,Wm,Wn,Wp,Wq,Wr,Ws,Wt,Wu,Wv,Ww,Wx,Wy,Wz,Xa,Xb,Xc,Xd,Xe,Xf,Xg,Xh,Xi,Xj,Xk,Xl,Xm,Xn,Xo,Xp,Xq,Xr,cN,cP,cO,cL,cQ,cR,List.getElem?_cons_zero,List.getElem?_cons_succ,cM,cT,cU,cV,cK,Nat.reduceAdd,Nat.reduceLT,Nat.reduceLeDiff,decide_true,decide_false,Bool.true_and,Bool.and_true,cW,cJ,Option.some.injEq,Xs,Xt,Xu,Xv]
      refine hin _ ?_
      simp only[Qa,Qb,Qc,Qd,Qe,Qf,Qg,Qh,Qi,Qj,Qk,Ql,Qm,Qn,true_and,and_true,Qo,Qp,Qq,Qr,Qs,Qt,Qu,Qv,Qw,Qx,Qy,Qz,Ra,Rb,Rc,Rd,Re,Rf,Rg,Rh,Ri,Rj,Rk,Rl,Rm,Ya,Yb,Yc,Rn,Ro,Xv,Yd,Ye,Rq,Rs,Rt,Ru,Rw,Rx,Ry,F0]
      rw[if_pos trivial]
      simp only[Qa,Qb,Qc,Qd,Qe,Qf,Qg,Qh,Qi,Qj,Qk,Ql,Qm,Qn,true_and,and_true,Qo,Qp,Qq,Qr,Qs,Qt,Qu,Qv,Qw,Qx,Qy,Qz,Ra,Rb,Rc,Rd,Re,Rf,Rg,Rh,Ri,Rj,Rk,Rl,Rm,Ya,Yb,Yc,Rn,Ro,Xv,Yd,Ye,Rq,Rs,Rt,Ru,Rw,Rx,Ry,Q4,A0 _ _ _ _ hadd]
      exact this
    · have F0:decide (x∈own)=false:=decide_eq_false hm
      simp only[IP,Q8,YK,YL,Qa,Qb,Qc,Qd,Qe,Qf,Qg,Qh,Qi,Qj,Qk,Ql,Qm,Qn,true_and,and_true,Qo,Qp,Qq,Qr,Qs,Qt,Qu,Qv,Qw,Qx,Qy,Qz,Ra,Rb,Rc,Rd,Re,Rf,Rg,Rh,Ri,Rj,Rk,Rl,Rm,Ya,Yb,Yc,Rn,Ro,Xv,Yd,Ye,Rq,Rs,Rt,Ru,Rw,Rx,Ry,hlen,Rq,hlt,hlt2,decide_true,AU Tryz.underlying23 ao hil,ct,hld,Zo,N4 hx8,Rz,Wa,Wb,Wc,Wd,We,Wf,Wg,Wh,Wi,Wj,Wl,Wm,Wn,Wp,Wq,Wr,Ws,Wt,Wu,Wv,Ww,Wx,Wy,Wz,Xa,Xb,Xc,Xd,Xe,Xf,Xg,Xh,Xi,Xj,Xk,Xl,Xm,Xn,Xo,Xp,Xq,Xr,cN,cP,cO,cL,cQ,cR,List.getElem?_cons_zero,List.getElem?_cons_succ,cM,cT,cU,cV,cK,Nat.reduceAdd,Nat.reduceLT,Nat.reduceLeDiff,decide_true,decide_false,Bool.true_and,Bool.and_true,cW,cJ,Option.some.injEq,Xs,Xt,Xu,Xv]
      refine hin _ ?_
      simp only[Qa,Qb,Qc,Qd,Qe,Qf,Qg,Qh,Qi,Qj,Qk,Ql,Qm,Qn,true_and,and_true,Qo,Qp,Qq,Qr,Qs,Qt,Qu,Qv,Qw,Qx,Qy,Qz,Ra,Rb,Rc,Rd,Re,Rf,Rg,Rh,Ri,Rj,Rk,Rl,Rm,Ya,Yb,Yc,Rn,Ro,Xv,Yd,Ye,Rq,Rs,Rt,Ru,Rw,Rx,Ry,F0,aF,B0,Rz,Wa,Wb,Wc,Wd,We,Wf,Wg,Wh,Wi,Wj,Wl,Wm,Wn,Wp,Wq,Wr,Ws,Wt,Wu,Wv,Ww,Wx,Wy,Wz,Xa,Xb,Xc,Xd,Xe,Xf,Xg,Xh,Xi,Xj,Xk,Xl,Xm,Xn,Xo,Xp,Xq,Xr,cN,cP,cO,cL,cQ,cR,List.getElem?_cons_zero,List.getElem?_cons_succ,cM,cT,cU,cV,cK,Nat.reduceAdd,Nat.reduceLT,Nat.reduceLeDiff,decide_true,decide_false,Bool.true_and,Bool.and_true,cW,cJ,Option.some.injEq,Xs,Xt,Xu,Xv]
      obtain⟨v42,s2,OB42,e1,e2,e3,e4,e5⟩:=IK hb4 x (by omega)
      have hlt5:=hb5.lt
      have hlt4:=hb4.lt
      have hb5':=hb5.frame (s':=s2) (by omega) fun y hy=>e4 y (hlt5 y hy) (hO5 y hy).2
      obtain⟨v52,s3,OB52,g1,g2,g3,g4,g5⟩:=IK hb5' (1000+(i:Int)) (by have:=hT.len;omega)
      have hd42:∀y∈OB42,y ∉ OB5:=fun y hy hm5=>(e5 y hy).elim (fun h4=>(hO5 y hm5).2 h4) fun hl=>by have:=hlt5 y hm5;omega
      have hb4':=e2.frame (s':=s3) (by omega) fun y hy=>g4 y (e2.lt y hy) (hd42 y hy)
      have hso:=ho.1
      have:=ih (i+1) s3 (own++[x]) (far++[1000+(i:Int)]) OB42 OB52 v42 v52 (iv x) (.bool true) (.bool false) (by omega) (hT.take hm hx8) ⟨by omega,fun y hy=>?_⟩ hb4' g2 (fun y hy=>(e5 y hy).elim (hO4 y) (fun hl=>by omega)) (fun y hy=>?_)
      · rw[← hW,show((i+1:Nat):Int)=(i:Int)+1 from by omega]at this
        simp only[e1,g1,V5,Q4,Qa,Qb,Qc,Qd,Qe,Qf,Qg,Qh,Qi,Qj,Qk,Ql,Qm,Qn,true_and,and_true,Qo,Qp,Qq,Qr,Qs,Qt,Qu,Qv,Qw,Qx,Qy,Qz,Ra,Rb,Rc,Rd,Re,Rf,Rg,Rh,Ri,Rj,Rk,Rl,Rm,Ya,Yb,Yc,Rn,Ro,Xv,Yd,Ye,Rq,Rs,Rt,Ru,Rw,Rx,Ry,A0 _ _ _ _ hadd,A0 _ _ _ _ hadd2,B0,Rz,Wa,Wb,Wc,Wd,We,Wf,Wg,Wh,Wi,Wj,Wl,Wm,Wn,Wp,Wq,Wr,Ws,Wt,Wu,Wv,Ww,Wx,Wy,Wz,Xa,Xb,Xc,Xd,Xe,Xf,Xg,Xh,Xi,Xj,Xk,Xl,Xm,Xn,Xo,Xp,Xq,Xr,cN,cP,cO,cL,cQ,cR,List.getElem?_cons_zero,List.getElem?_cons_succ,cM,cT,cU,cV,cK,Nat.reduceAdd,Nat.reduceLT,Nat.reduceLeDiff,decide_true,decide_false,Bool.true_and,Bool.and_true,cW,cJ,Option.some.injEq,Xs,Xt,Xu,Xv]
        exact this
      · rw[g4 y (by omega) (fun hm5=>by have:=(hO5 y hm5).1;omega),e4 y (by omega) (fun hm4=>by have:=hO4 y hm4;omega),ho.2 y hy]
      · rcases g5 y hy with h5 | h5
        · refine⟨(hO5 y h5).1,fun hm4=>(e5 y hm4).elim (hO5 y h5).2 fun hl=>by have:=hlt5 y h5;omega⟩
        · exact⟨by omega,fun hm4=>by have:=e2.lt y hm4;omega⟩
theorem MT{E:Bb}(hE:Ah E){S0:List Tm}{p:Nat}{s:AD}{S:List Tm}{O:List Nat}{m:Nat}(h:TW S0 p s S O m)(hm:m≤900){i:Int}(hi:i64 i){v:AV}{ks:List Int}{OB:List Nat}(hb:C2 3 1 s v ks.length (BP ks) OB)(hks:ks.length≤1000)(hB:∀j∈OB,j ∉ O∧j≠1){K:AV→AD→Prop}
  (hK:∀r s2 v2 s3 S3 O3 OB3,Aj Tryz.prog (newObj s2 (R 3 1 false (BP [r]))) [27,27] [v,.slice (some (s2.next,0)) 1 (some 1)]=some (v2,s3)→TW S0 p s3 S3 O3 (m+1)→GH S3 r (.var i)→(∃x,S3=S++x) →
   C2 3 1 s3 v2 (ks++[r]).length (BP (ks++[r])) OB3→s.next≤s3.next→(∀j,j<s.next→j ∉ O→j ∉ OB→s3.heap.get j=s.heap.get j)→AR O O3 s→(∀j∈OB3,j∈OB∨s.next≤j)→(∀j∈OB3,j ∉ O3∧j≠1)→K (iv r) s2):
  WF E 11 [.ptr (some (p,0)),iv i] K s:=by
 refine ZW hE h hm hi fun s2 S2 O2 r g1 g2 g3 g4 g5=>?_
 have hblt:=hb.lt
 have h2l:=g1.st.lt
 have hn:=g2.1
 have hb2:=hb.frame (s':=s2) g2.1 fun j hj=>g2.2 j (hblt j hj) (hB j hj).1
 obtain⟨v2,s3,OB3,e1,e2,e3,e4,e5⟩:=IK hb2 r (by omega)
 have hBO2:∀j∈OB,j ∉ O2:=fun j hj hm=>(g3 j hm).elim (hB j hj).1 fun hl=>by have:=hblt j hj;omega
 have h12:=g1.gl.2.1
 have h3:TW S0 p s3 S2 O2 (m+1):=g1.frame (by omega) (e4 1 h12 fun hm=>(hB 1 hm).2 rfl) fun j hj=>e4 j (h2l j hj) fun hm=>hBO2 j hm hj
 refine hK r s2 v2 s3 S2 O2 OB3 e1 h3 g5 g4 e2 (by omega) (fun j hj hjO hjB=>by rw[e4 j (by omega) hjB,g2.2 j hj hjO]) g3 (fun j hj=>(e5 j hj).imp id fun hl=>by omega) (fun j hj=>?_)
 rcases e5 j hj with h' | h'
 ·exact⟨hBO2 j h',(hB j h').2⟩
 ·exact⟨fun hm=>by have:=h2l j hm;omega,by omega⟩
set_option maxRecDepth 20000 in
theorem P4{E:Bb}(hE:Ah E){S0:List Tm}{p:Nat}{s:AD}{O:List Nat}(h1s:1<s.next){own far:List Int}(hT:Eo own far 5){v4 v5:AV}(h4:A2 s O v4 own)(h5:A2 s O v5 far)
  (a0 a1 a2 a8 a9 a10 a12 a13 a14 a15 a16 a17 a18 a20 a21 a22 a23:AV) {Q:Aw→Prop} {marks:List Nat}
  (hend:∀ (y19 v6 v7:AV) s' S' O' k6 k7,TW S0 p s' S' O' 10→Bk O s s'→AR O O' s→A2 s' O' v6 k6→A2 s' O' v7 k7→GI S' k6 (own.map .var)→GI S' k7 (far.map .var) →
   Ab 2 Q ⟨.exit 2,[a0,a1,a2,.ptr (some (p,0)),v4,v5,v6,v7,a8,a9,a10,iv (own.length:Int),a12,a13,a14,a15,a16,a17,a18,y19,a20,a21,a22,a23],marks,s'⟩):
  ∀ (d k:Nat) s1 S1 O1 k6 k7 OB6 OB7 (v6 v7 a19:AV),d+k=own.length→TW S0 p s1 S1 O1 (2 * k)→Bk O s s1→AR O O1 s→C2 3 1 s1 v6 k6.length (BP k6) OB6→C2 3 1 s1 v7 k7.length (BP k7) OB7→(∀j∈OB6,s.next≤j∧j ∉ O1)→(∀j∈OB7,s.next≤j∧j ∉ O1∧j ∉ OB6) →
   GI S1 k6 ((own.take k).map .var)→GI S1 k7 ((far.take k).map .var) →
   WC E none (AW.loop LN) (Ab 2 Q) [a0,a1,a2,.ptr (some (p,0)),v4,v5,v6,v7,a8,a9,a10,iv (k:Int),a12,a13,a14,a15,a16,a17,a18,a19,a20,a21,a22,a23] marks s1:=by
 intro d
 induction d with
 | zero =>
  intro k s1 S1 O1 k6 k7 OB6 OB7 v6 v7 a19 hd h hf hg hb6 hb7 hO6 hO7 hN6 hN7
  have hk:k=own.length:=by omega
  subst hk
  have hlen:=h4.rd.len
  have hle:=hT.le
  refine WC.loop' ?_
  have hlt:¬ ((own.length:Int)<(own.length:Int)):=by omega
  simp only[LN,Q5,Qa,Qb,Qc,Qd,Qe,Qf,Qg,Qh,Qi,Qj,Qk,Ql,Qm,Qn,true_and,and_true,Qo,Qp,Qq,Qr,Qs,Qt,Qu,Qv,Qw,Qx,Qy,Qz,Ra,Rb,Rc,Rd,Re,Rf,Rg,Rh,Ri,Rj,Rk,Rl,Rm,Ya,Yb,Yc,Rn,Ro,Xv,Yd,Ye,Rq,Rs,Rt,Ru,Rw,Rx,Ry,hlen,Rq,hlt,decide_false]
  rw[dD (cJ _)]at hN6
  rw[hT.len,dD (cJ _)]at hN7
  have hw:TW S0 p s1 S1 O1 10:=⟨h.st,h.gl,h.pre,by have:=h.len;omega⟩
  exact hend _ v6 v7 s1 S1 O1 k6 k7 hw hf hg (hb6.ap fun j hj=>(hO6 j hj).2) (hb7.ap fun j hj=>(hO7 j hj).2.1) hN6 hN7
 | succ d ih =>
  intro k s1 S1 O1 k6 k7 OB6 OB7 v6 v7 a19 hd h hf hg hb6 hb7 hO6 hO7 hN6 hN7
  have hlen:=h4.rd.len
  have hle:=hT.le
  have hkl:k<own.length:=by omega
  have hkf:k<far.length:=by rw[← hT.len];exact hkl
  have hlt:(k:Int)<(own.length:Int):=by omega
  have hadd:i64 ((k:Int)+1):=by unfold i64;omega
  obtain⟨x,hx⟩:∃x,own[k]? = some x:=⟨_,cY hkl⟩
  obtain⟨y,hy⟩:∃y,far[k]? = some y:=⟨_,cY hkf⟩
  have hx8:=hT.own x (cu hx)
  have hy8:=hT.far y (cu hy)
  obtain⟨j4,q4,c4,hv4,hj4,hl4⟩:=(h4.step hf hg).rd.at hx
  have h61:=hb6.len
  have h71:=hb7.len
  rw[BI,ct]at h61 h71
  have hk6:k6.length=k:=by rw[hN6.len,co,List.length_take];omega
  have hk7:k7.length=k:=by rw[hN7.len,co,List.length_take];omega
  have hv:=fun K hK=>MT (K:=K) hE h (by omega) (i:=x) (by unfold i64;omega) hb6 (by omega) (fun j hj=>⟨(hO6 j hj).2,by have:=(hO6 j hj).1;omega⟩) hK
  refine WC.loop' ?_
  obtain⟨W,hW⟩:∃W,W=AW.loop LN:=⟨_,rfl⟩
  rw[← hW]
  rw[hv4]at ih hend hlen ⊢
  simp only[LN,Q5,V8,Qa,Qb,Qc,Qd,Qe,Qf,Qg,Qh,Qi,Qj,Qk,Ql,Qm,Qn,true_and,and_true,Qo,Qp,Qq,Qr,Qs,Qt,Qu,Qv,Qw,Qx,Qy,Qz,Ra,Rb,Rc,Rd,Re,Rf,Rg,Rh,Ri,Rj,Rk,Rl,Rm,Ya,Yb,Yc,Rn,Ro,Xv,Yd,Ye,Rq,Rs,Rt,Ru,Rw,Rx,Ry,hlen,Rq,hlt,decide_true,AU Tryz.underlying27 Dt hkl,CV,hl4,ct,Rz,Wa,Wb,Wc,Wd,We,Wf,Wg,Wh,Wi,Wj,Wl,Wm,Wn,Wp,Wq,Wr,Ws,Wt,Wu,Wv,Ww,Wx,Wy,Wz,Xa,Xb,Xc,Xd,Xe,Xf,Xg,Xh,Xi,Xj,Xk,Xl,Xm,Xn,Xo,Xp,Xq,Xr,cN,cP,cO,cL,cQ,cR,List.getElem?_cons_zero,List.getElem?_cons_succ,cM,cT,cU,cV,cK,Nat.reduceAdd,Nat.reduceLT,Nat.reduceLeDiff,decide_true,decide_false,Bool.true_and,Bool.and_true,cW,cJ,Option.some.injEq,Xs,Xt,Xu,Xv]
  refine hv _ fun r s2 v62 s3 S3 O3 OB62 e1 e2 e3 e4 e5 e6 e7 e8 e9 e10=>?_
  have hlt6:=hb6.lt
  have hlt7:=hb7.lt
  have hfn:=hf.1
  have hf3:Bk O s s3:=⟨by omega,fun j hj hjO=>by rw[e7 j (by omega) (fun hm=>(hg j hm).elim hjO (fun hl=>by omega)) (fun hm=>by have:=(hO6 j hm).1;omega),hf.2 j hj hjO]⟩
  have hg3:AR O O3 s:=AR.trans hg e8 hf.1
  have hb73:=hb7.frame (s':=s3) e6 fun j hj=>e7 j (hlt7 j hj) (hO7 j hj).2.1 (hO7 j hj).2.2
  have hO73:∀j∈OB7,s.next≤j∧j ∉ O3∧j ∉ OB62:=fun j hj=>⟨(hO7 j hj).1,fun hm=>(e8 j hm).elim (hO7 j hj).2.1 (fun hl=>by have:=hlt7 j hj;omega),fun hm=>(e9 j hm).elim (hO7 j hj).2.2 (fun hl=>by have:=hlt7 j hj;omega)⟩
  obtain⟨j5,q5,c5,hv5,hj5,hl5⟩:=(h5.step hf3 hg3).rd.at hy
  have hv2:=fun K hK=>MT (K:=K) hE e2 (by omega) (i:=y) (by unfold i64;omega) hb73 (by omega) (fun j hj=>⟨(hO73 j hj).2.1,by have:=(hO73 j hj).1;omega⟩) hK
  rw[hv5]at ih hend ⊢
  simp only[Qa,Qb,Qc,Qd,Qe,Qf,Qg,Qh,Qi,Qj,Qk,Ql,Qm,Qn,true_and,and_true,Qo,Qp,Qq,Qr,Qs,Qt,Qu,Qv,Qw,Qx,Qy,Qz,Ra,Rb,Rc,Rd,Re,Rf,Rg,Rh,Ri,Rj,Rk,Rl,Rm,Ya,Yb,Yc,Rn,Ro,Xv,Yd,Ye,Rq,Rs,Rt,Ru,Rw,Rx,Ry,B0,e1,V9,AU Tryz.underlying27 Dt hkf,CV,hl5,ct,Rz,Wa,Wb,Wc,Wd,We,Wf,Wg,Wh,Wi,Wj,Wl,Wm,Wn,Wp,Wq,Wr,Ws,Wt,Wu,Wv,Ww,Wx,Wy,Wz,Xa,Xb,Xc,Xd,Xe,Xf,Xg,Xh,Xi,Xj,Xk,Xl,Xm,Xn,Xo,Xp,Xq,Xr,cN,cP,cO,cL,cQ,cR,List.getElem?_cons_zero,List.getElem?_cons_succ,cM,cT,cU,cV,cK,Nat.reduceAdd,Nat.reduceLT,Nat.reduceLeDiff,decide_true,decide_false,Bool.true_and,Bool.and_true,cW,cJ,Option.some.injEq,Xs,Xt,Xu,Xv]
  refine hv2 _ fun r2 s4 v72 s5 S5 O5 OB72 g1 g2 g3 g4 g5 g6 g7 g8 g9 g10=>?_
  have hn3:=hf3.1
  have hf5:Bk O s s5:=⟨by omega,fun j hj hjO=>by rw[g7 j (by omega) (fun hm=>(hg3 j hm).elim hjO (fun hl=>by omega)) (fun hm=>by have:=(hO73 j hm).1;omega),hf3.2 j hj hjO]⟩
  have hg5:AR O O5 s:=AR.trans hg3 g8 hf3.1
  have hlt62:=e5.lt
  have hb65:=e5.frame (s':=s5) g6 fun j hj=>g7 j (hlt62 j hj) (e10 j hj).1 fun hm=>(hO73 j hm).2.2 hj
  have:=ih (k+1) s5 S5 O5 (k6++[r]) (k7++[r2]) OB62 OB72 v62 v72 (.bool true) (by omega) g2 hf5 hg5 hb65 g5 (fun j hj=>⟨?_,fun hm=>?_⟩) (fun j hj=>⟨?_,(g10 j hj).1,fun hm=>?_⟩) ?_ ?_
  ·rw[← hW,show((k+1:Nat):Int)=(k:Int)+1 from by omega]at this
   simp only[Qa,Qb,Qc,Qd,Qe,Qf,Qg,Qh,Qi,Qj,Qk,Ql,Qm,Qn,true_and,and_true,Qo,Qp,Qq,Qr,Qs,Qt,Qu,Qv,Qw,Qx,Qy,Qz,Ra,Rb,Rc,Rd,Re,Rf,Rg,Rh,Ri,Rj,Rk,Rl,Rm,Ya,Yb,Yc,Rn,Ro,Xv,Yd,Ye,Rq,Rs,Rt,Ru,Rw,Rx,Ry,B0,g1,WA,A0 _ _ _ _ hadd,Rz,Wa,Wb,Wc,Wd,We,Wf,Wg,Wh,Wi,Wj,Wl,Wm,Wn,Wp,Wq,Wr,Ws,Wt,Wu,Wv,Ww,Wx,Wy,Wz,Xa,Xb,Xc,Xd,Xe,Xf,Xg,Xh,Xi,Xj,Xk,Xl,Xm,Xn,Xo,Xp,Xq,Xr,cN,cP,cO,cL,cQ,cR,List.getElem?_cons_zero,List.getElem?_cons_succ,cM,cT,cU,cV,cK,Nat.reduceAdd,Nat.reduceLT,Nat.reduceLeDiff,decide_true,decide_false,Bool.true_and,Bool.and_true,cW,cJ,Option.some.injEq,Xs,Xt,Xu,Xv]
   exact this
  ·exact(e9 j hj).elim (fun h'=>(hO6 j h').1) fun hl=>by omega
  ·exact(g8 j hm).elim (e10 j hj).1 fun hl=>by have:=hlt62 j hj;omega
  ·exact(g9 j hj).elim (fun h'=>(hO73 j h').1) fun hl=>by omega
  ·exact(g9 j hj).elim (fun h'=>(hO73 j h').2.2 hm) fun hl=>by have:=hlt62 j hm;omega
  ·have:=(hN6.ext e4).snoc e3
   rw[List.take_add_one,hx,dY]
   exact this.ext g4
  ·have:=((hN7.ext e4).ext g4).snoc g3
   rw[List.take_add_one,hy,dY]
   exact this
theorem ER{S:List Tm}(h:Hx S){x:Int}:∀t:Tm,t∈S→t.has x=true→Tm.var x∈S
 | .var i,ht,hx=>by
  have:i=x:=by simpa[Tm.has]using hx
  rw[← this];exact ht
 | .bnd i,_,hx=>by cases hx
 | .con n,_,hx=>by cases hx
 | .sel d k,ht,hx=>by
  simp only[Tm.has,Bool.or_eq_true]at hx
  rcases hx with hx | hx
  ·exact ER h d (h.kidS _ ht d (by simp[Tm.kids])) hx
  ·exact ER h k (h.kidS _ ht k (by simp[Tm.kids])) hx
 | .upd d k a,ht,hx=>by
  simp only[Tm.has,Bool.or_eq_true]at hx
  rcases hx with(hx | hx) | hx
  ·exact ER h d (h.kidS _ ht d (by simp[Tm.kids])) hx
  ·exact ER h k (h.kidS _ ht k (by simp[Tm.kids])) hx
  ·exact ER h a (h.kidS _ ht a (by simp[Tm.kids])) hx
theorem Fu.le{S:List Tm}(h:Hx S){t:Tm}(ht:t∈S){l:List Int}(hv:Fu t l):l.length≤S.length:=by
 have h1:(l.map Tm.var).Nodup:=List.pairwise_map.2 (hv.1.imp fun h e=>by injection e with e;omega)
 have h2:=Dp h1 (L:=S) fun u hu=>by
  obtain⟨x,hx,rfl⟩:=List.mem_map.1 hu
  exact ER h t ht ((hv.2 x).1 hx)
 rwa[co]at h2
set_option maxRecDepth 20000 in
theorem PZ{E:Bb}(hE:Ah E){s:AD}{own l:List Int}{v4 v14:AV}(h4:Ad s v4 own)(h14:Ad s v14 l)(hl:l.length≤1000000)(ho:own.length≤5)(hno:∀x∈own,x ∉ l)
  (a0 a1 a2 a3 a5 a6 a7 a8 a9 a10 a11 a12 a13 a16 a17 a18 a19 a20 a23:AV) {Q:Aw→Prop} {marks:List Nat}
  (hend:∀y21 y22:AV,Ab 6 Q ⟨.exit 6,[a0,a1,a2,a3,v4,a5,a6,a7,a8,a9,a10,a11,a12,a13,v14,iv (own.length:Int),a16,a17,a18,a19,a20,y21,y22,a23],marks,s⟩):
  ∀ (d k:Nat) (a21 a22:AV),d+k=own.length →
   WC E none (AW.loop LO) (Ab 6 Q) [a0,a1,a2,a3,v4,a5,a6,a7,a8,a9,a10,a11,a12,a13,v14,iv (k:Int),a16,a17,a18,a19,a20,a21,a22,a23] marks s:=by
 intro d
 have hlen:=h4.len
 induction d with
 | zero =>
  intro k a21 a22 hd
  have hk:k=own.length:=by omega
  subst hk
  refine WC.loop' ?_
  have hlt:¬ ((own.length:Int)<(own.length:Int)):=by omega
  simp only[LO,Q7,Qa,Qb,Qc,Qd,Qe,Qf,Qg,Qh,Qi,Qj,Qk,Ql,Qm,Qn,true_and,and_true,Qo,Qp,Qq,Qr,Qs,Qt,Qu,Qv,Qw,Qx,Qy,Qz,Ra,Rb,Rc,Rd,Re,Rf,Rg,Rh,Ri,Rj,Rk,Rl,Rm,Ya,Yb,Yc,Rn,Ro,Xv,Yd,Ye,Rq,Rs,Rt,Ru,Rw,Rx,Ry,hlen,Rq,hlt,decide_false]
  exact hend _ _
 | succ d ih =>
  intro k a21 a22 hd
  have hkl:k<own.length:=by omega
  have hlt:(k:Int)<(own.length:Int):=by omega
  have hadd:i64 ((k:Int)+1):=by unfold i64;omega
  obtain⟨x,hx⟩:∃x,own[k]? = some x:=⟨_,cY hkl⟩
  have hxn:=hno x (cu hx)
  have F0:decide (x∈l)=false:=decide_eq_false hxn
  obtain⟨j4,q4,c4,hv4,hj4,hl4⟩:=h4.at hx
  have hin:=fun(K:AV→AD→Prop) hK=>X7 (K:=K) hE h14 hl (x:=x) hK
  refine WC.loop' ?_
  obtain⟨W,hW⟩:∃W,W=AW.loop LO:=⟨_,rfl⟩
  rw[← hW]
  rw[hv4]at ih hlen hend ⊢
  simp only[LO,Q7,WH,Qa,Qb,Qc,Qd,Qe,Qf,Qg,Qh,Qi,Qj,Qk,Ql,Qm,Qn,true_and,and_true,Qo,Qp,Qq,Qr,Qs,Qt,Qu,Qv,Qw,Qx,Qy,Qz,Ra,Rb,Rc,Rd,Re,Rf,Rg,Rh,Ri,Rj,Rk,Rl,Rm,Ya,Yb,Yc,Rn,Ro,Xv,Yd,Ye,Rq,Rs,Rt,Ru,Rw,Rx,Ry,hlen,Rq,hlt,decide_true,AU Tryz.underlying27 Dt hkl,CV,hl4,ct,Rz,Wa,Wb,Wc,Wd,We,Wf,Wg,Wh,Wi,Wj,Wl,Wm,Wn,Wp,Wq,Wr,Ws,Wt,Wu,Wv,Ww,Wx,Wy,Wz,Xa,Xb,Xc,Xd,Xe,Xf,Xg,Xh,Xi,Xj,Xk,Xl,Xm,Xn,Xo,Xp,Xq,Xr,cN,cP,cO,cL,cQ,cR,List.getElem?_cons_zero,List.getElem?_cons_succ,cM,cT,cU,cV,cK,Nat.reduceAdd,Nat.reduceLT,Nat.reduceLeDiff,decide_true,decide_false,Bool.true_and,Bool.and_true,cW,cJ,Option.some.injEq,Xs,Xt,Xu,Xv]
  refine hin _ ?_
  have:=ih (k+1) (.bool true) (.bool false) (by omega)
  rw[← hW,show((k+1:Nat):Int)=(k:Int)+1 from by omega]at this
  simp only[Qa,Qb,Qc,Qd,Qe,Qf,Qg,Qh,Qi,Qj,Qk,Ql,Qm,Qn,true_and,and_true,Qo,Qp,Qq,Qr,Qs,Qt,Qu,Qv,Qw,Qx,Qy,Qz,Ra,Rb,Rc,Rd,Re,Rf,Rg,Rh,Ri,Rj,Rk,Rl,Rm,Ya,Yb,Yc,Rn,Ro,Xv,Yd,Ye,Rq,Rs,Rt,Ru,Rw,Rx,Ry,F0,WJ,A0 _ _ _ _ hadd]
  exact this
set_option maxRecDepth 20000 in
theorem ND{E:Bb}(hE:Ah E){S0:List Tm}{p:Nat}(hS:Hx S0)(hD:IE S0 40){own far:List Int}(hT:Eo own far 5){v4 v5 v6 v7:AV}{k6 k7:List Int}
  (a0 a1 a2 a8 a9 a11 a16 a17 a18 a19:AV) {Q:Aw→Prop} {marks:List Nat}
  (hend:∀ (y13 y14 y15 y20 y21 y22 y23:AV) s',Ab 4 Q ⟨.exit 4,[a0,a1,a2,.ptr (some (p,0)),v4,v5,v6,v7,a8,a9,iv (S0.length:Int),a11,iv (S0.length:Int),y13,y14,y15,a16,a17,a18,a19,y20,y21,y22,y23],marks,s'⟩):
  ∀ (d k:Nat) s1 S1 O1 (a13 a14 a15 a20 a21 a22 a23:AV),d+k=S0.length→TW S0 p s1 S1 O1 (10+6 * k)→A2 s1 O1 v4 own→A2 s1 O1 v5 far→A2 s1 O1 v6 k6→A2 s1 O1 v7 k7→GI S1 k6 (own.map .var)→GI S1 k7 (far.map .var) →
   WC E none (AW.loop LP) (Ab 4 Q) [a0,a1,a2,.ptr (some (p,0)),v4,v5,v6,v7,a8,a9,iv (S0.length:Int),a11,iv (k:Int),a13,a14,a15,a16,a17,a18,a19,a20,a21,a22,a23] marks s1:=by
 intro d
 have hS80:=hD.len
 have hlow:=hT.le
 have hlof:far.length≤5:=by rw[← hT.len];exact hlow
 have hk0:=hS.kidS
 have hk1:∀t∈S0.map (BM (BY own)),∀k∈t.kids,k∈S0.map (BM (BY own)):=Ls hk0 fun t _ u h=>LZ t u h
 have hk2:∀t∈S0.map (BM (B2 (far.map .var))),∀k∈t.kids,k∈S0.map (BM (B2 (far.map .var))):=Ls hk0 fun t _ u h=>Mv (fun u hu=>by obtain⟨x,_,rfl⟩:=List.mem_map.1 hu;rfl) t u h
 have hb0:∀i,Tm.bnd i∈S0→i<1000000000:=fun i hi=>by have:=hD.bnd i hi;omega
 have hb2:∀i,Tm.bnd i∈S0.map (BM (B2 (far.map .var)))→i<1000000000:=QD fun i hi=>⟨(hS.ok _ hi).1,by have:=hD.bnd i hi;omega⟩
 induction d with
 | zero =>
  intro k s1 S1 O1 a13 a14 a15 a20 a21 a22 a23 hd h h4 h5 h6 h7 hN6 hN7
  have hk:k=S0.length:=by omega
  subst hk
  refine WC.loop' ?_
  have hlt:¬ ((S0.length:Int)<(S0.length:Int)):=by omega
  simp only[LP,Q6,Qa,Qb,Qc,Qd,Qe,Qf,Qg,Qh,Qi,Qj,Qk,Ql,Qm,Qn,true_and,and_true,Qo,Qp,Qq,Qr,Qs,Qt,Qu,Qv,Qw,Qx,Qy,Qz,Ra,Rb,Rc,Rd,Re,Rf,Rg,Rh,Ri,Rj,Rk,Rl,Rm,Ya,Yb,Yc,Rn,Ro,Xv,Yd,Ye,Rq,Rs,Rt,Ru,Rw,Rx,Ry,Rq,hlt,decide_false]
  exact hend _ _ _ _ _ _ _ s1
 | succ d ih =>
  intro k s1 S1 O1 a13 a14 a15 a20 a21 a22 a23 hd h h4 h5 h6 h7 hN6 hN7
  have hkl:k<S0.length:=by omega
  have hlt:(k:Int)<(S0.length:Int):=by omega
  have hadd:i64 ((k:Int)+1):=by unfold i64;omega
  obtain⟨u,hu⟩:∃u,S0[k]? = some u:=⟨_,cY hkl⟩
  have hum:=cu hu
  have hun:=hS.nat u hum
  have hn1:GH S1 (k:Int) u:=(MR hu).ext h.pre
  have hfar:∀x∈far,u.has x=false:=fun x hx=>by
   cases hh:u.has x with
   | false=>rfl
   | true=>have:=(hD.var x (ER hS u hum hh)).2;have:=(hT.far x hx).1;omega
  refine WC.loop' ?_
  obtain⟨W,hW⟩:∃W,W=AW.loop LP:=⟨_,rfl⟩
  rw[← hW]
  simp only[LP,Q6,WD,Qa,Qb,Qc,Qd,Qe,Qf,Qg,Qh,Qi,Qj,Qk,Ql,Qm,Qn,true_and,and_true,Qo,Qp,Qq,Qr,Qs,Qt,Qu,Qv,Qw,Qx,Qy,Qz,Ra,Rb,Rc,Rd,Re,Rf,Rg,Rh,Ri,Rj,Rk,Rl,Rm,Ya,Yb,Yc,Rn,Ro,Xv,Yd,Ye,Rq,Rs,Rt,Ru,Rw,Rx,Ry,Rq,hlt,decide_true,Rz,Wa,Wb,Wc,Wd,We,Wf,Wg,Wh,Wi,Wj,Wl,Wm,Wn,Wp,Wq,Wr,Ws,Wt,Wu,Wv,Ww,Wx,Wy,Wz,Xa,Xb,Xc,Xd,Xe,Xf,Xg,Xh,Xi,Xj,Xk,Xl,Xm,Xn,Xo,Xp,Xq,Xr,cN,cP,cO,cL,cQ,cR,List.getElem?_cons_zero,List.getElem?_cons_succ,cM,cT,cU,cV,cK,Nat.reduceAdd,Nat.reduceLT,Nat.reduceLeDiff,decide_true,decide_false,Bool.true_and,Bool.and_true,cW,cJ,Option.some.injEq,Xs,Xt,Xu,Xv]
  refine JE hE h (by omega) (L:=S0) (by omega) hk0 hn1 hum h4 (by omega) hb0 fun s2 S2 O2 c w2 f2 g2 p2 nc=>?_
  have h42:=h4.step f2 g2
  have h52:=h5.step f2 g2
  have h62:=h6.step f2 g2
  have h72:=h7.step f2 g2
  simp only[WE,Qa,Qb,Qc,Qd,Qe,Qf,Qg,Qh,Qi,Qj,Qk,Ql,Qm,Qn,true_and,and_true,Qo,Qp,Qq,Qr,Qs,Qt,Qu,Qv,Qw,Qx,Qy,Qz,Ra,Rb,Rc,Rd,Re,Rf,Rg,Rh,Ri,Rj,Rk,Rl,Rm,Ya,Yb,Yc,Rn,Ro,Xv,Yd,Ye,Rq,Rs,Rt,Ru,Rw,Rx,Ry,Rz,Wa,Wb,Wc,Wd,We,Wf,Wg,Wh,Wi,Wj,Wl,Wm,Wn,Wp,Wq,Wr,Ws,Wt,Wu,Wv,Ww,Wx,Wy,Wz,Xa,Xb,Xc,Xd,Xe,Xf,Xg,Xh,Xi,Xj,Xk,Xl,Xm,Xn,Xo,Xp,Xq,Xr,cN,cP,cO,cL,cQ,cR,List.getElem?_cons_zero,List.getElem?_cons_succ,cM,cT,cU,cV,cK,Nat.reduceAdd,Nat.reduceLT,Nat.reduceLeDiff,decide_true,decide_false,Bool.true_and,Bool.and_true,cW,cJ,Option.some.injEq,Xs,Xt,Xu,Xv]
  refine Ug hE w2 nc fun v14 l s3 o3 hvl hrl=>?_
  have w3:=w2.old o3
  have f3:Bk O2 s2 s3:=o3.frO O2
  have h43:=h42.step f3 (AR.refl O2 s2)
  have h53:=h52.step f3 (AR.refl O2 s2)
  have h63:=h62.step f3 (AR.refl O2 s2)
  have h73:=h72.step f3 (AR.refl O2 s2)
  simp only[WG,Qa,Qb,Qc,Qd,Qe,Qf,Qg,Qh,Qi,Qj,Qk,Ql,Qm,Qn,true_and,and_true,Qo,Qp,Qq,Qr,Qs,Qt,Qu,Qv,Qw,Qx,Qy,Qz,Ra,Rb,Rc,Rd,Re,Rf,Rg,Rh,Ri,Rj,Rk,Rl,Rm,Ya,Yb,Yc,Rn,Ro,Xv,Yd,Ye,Rq,Rs,Rt,Ru,Rw,Rx,Ry,Rz,Wa,Wb,Wc,Wd,We,Wf,Wg,Wh,Wi,Wj,Wl,Wm,Wn,Wp,Wq,Wr,Ws,Wt,Wu,Wv,Ww,Wx,Wy,Wz,Xa,Xb,Xc,Xd,Xe,Xf,Xg,Xh,Xi,Xj,Xk,Xl,Xm,Xn,Xo,Xp,Xq,Xr,cN,cP,cO,cL,cQ,cR,List.getElem?_cons_zero,List.getElem?_cons_succ,cM,cT,cU,cV,cK,Nat.reduceAdd,Nat.reduceLT,Nat.reduceLeDiff,decide_true,decide_false,Bool.true_and,Bool.and_true,cW,cJ,Option.some.injEq,Xs,Xt,Xu,Xv]
  have hl2:=Fu.le w2.st.ok nc.mem hvl
  have hlen2:=w2.len
  refine PZ hE h43.rd hrl (by omega) (by omega) (fun x hx hm=>?_) _ _ _ _ _ _ _ _ _ _ _ _ _ _ _ _ _ _ _ (fun y21 y22=>?_) own.length 0 _ _ (by omega)
  ·have:=(hvl.2 x).1 hm
   rw[DL hx]at this;cases this
  simp only[Qa,Qb,Qc,Qd,Qe,Qf,Qg,Qh,Qi,Qj,Qk,Ql,Qm,Qn,true_and,and_true,Qo,Qp,Qq,Qr,Qs,Qt,Qu,Qv,Qw,Qx,Qy,Qz,Ra,Rb,Rc,Rd,Re,Rf,Rg,Rh,Ri,Rj,Rk,Rl,Rm,Ya,Yb,Yc,Rn,Ro,Xv,Yd,Ye,Rq,Rs,Rt,Ru,Rw,Rx,Ry]
  rw[if_pos trivial]
  simp only[WK,Qa,Qb,Qc,Qd,Qe,Qf,Qg,Qh,Qi,Qj,Qk,Ql,Qm,Qn,true_and,and_true,Qo,Qp,Qq,Qr,Qs,Qt,Qu,Qv,Qw,Qx,Qy,Qz,Ra,Rb,Rc,Rd,Re,Rf,Rg,Rh,Ri,Rj,Rk,Rl,Rm,Ya,Yb,Yc,Rn,Ro,Xv,Yd,Ye,Rq,Rs,Rt,Ru,Rw,Rx,Ry,Rz,Wa,Wb,Wc,Wd,We,Wf,Wg,Wh,Wi,Wj,Wl,Wm,Wn,Wp,Wq,Wr,Ws,Wt,Wu,Wv,Ww,Wx,Wy,Wz,Xa,Xb,Xc,Xd,Xe,Xf,Xg,Xh,Xi,Xj,Xk,Xl,Xm,Xn,Xo,Xp,Xq,Xr,cN,cP,cO,cL,cQ,cR,List.getElem?_cons_zero,List.getElem?_cons_succ,cM,cT,cU,cV,cK,Nat.reduceAdd,Nat.reduceLT,Nat.reduceLeDiff,decide_true,decide_false,Bool.true_and,Bool.and_true,cW,cJ,Option.some.injEq,Xs,Xt,Xu,Xv]
  have hne:decide ((k:Int)≠(k:Int))=false:=by simp
  have hne2:decide ((u.sz:Int)≠(u.sz:Int))=false:=by simp
  have hN63:=hN6.ext p2
  have hN73:=hN7.ext p2
  refine K5 hE w3 (by omega) (L:=S0.map (BM (BY own))) (by rw[co];omega) hk1 nc (List.mem_map.2 ⟨u,hum,rfl⟩) h63.rd (by rw[hN63.len,co];omega) hN63.1 hN63.2 fun s4 S4 O4 r4 w4 f4 g4 p4 n4=>?_
  rw[Ci u hun]at n4
  have hn4:=(hn1.ext p2).ext p4
  obtain rfl:=n4.inj hn4 w4.nd
  have h44:=h43.step f4 g4
  have h54:=h53.step f4 g4
  have h64:=h63.step f4 g4
  have h74:=h73.step f4 g4
  have hN64:=hN63.ext p4
  have hN74:=hN73.ext p4
  simp only[Qa,Qb,Qc,Qd,Qe,Qf,Qg,Qh,Qi,Qj,Qk,Ql,Qm,Qn,true_and,and_true,Qo,Qp,Qq,Qr,Qs,Qt,Qu,Qv,Qw,Qx,Qy,Qz,Ra,Rb,Rc,Rd,Re,Rf,Rg,Rh,Ri,Rj,Rk,Rl,Rm,Ya,Yb,Yc,Rn,Ro,Xv,Yd,Ye,Rq,Rs,Rt,Ru,Rw,Rx,Ry,hne]
  refine K5 hE w4 (by omega) (L:=S0) (by omega) hk0 hn4 hum h74.rd (by rw[hN74.len,co];omega) hN74.1 hN74.2 fun s5 S5 O5 r5 w5 f5 g5 p5 n5=>?_
  have h45:=h44.step f5 g5
  have h55:=h54.step f5 g5
  have h65:=h64.step f5 g5
  have h75:=h74.step f5 g5
  have hn5:=hn4.ext p5
  have hN65:=hN64.ext p5
  have hN75:=hN74.ext p5
  simp only[Qa,Qb,Qc,Qd,Qe,Qf,Qg,Qh,Qi,Qj,Qk,Ql,Qm,Qn,true_and,and_true,Qo,Qp,Qq,Qr,Qs,Qt,Qu,Qv,Qw,Qx,Qy,Qz,Ra,Rb,Rc,Rd,Re,Rf,Rg,Rh,Ri,Rj,Rk,Rl,Rm,Ya,Yb,Yc,Rn,Ro,Xv,Yd,Ye,Rq,Rs,Rt,Ru,Rw,Rx,Ry]
  refine JE hE w5 (by omega) (L:=S0.map (BM (B2 (far.map .var)))) (by rw[co];omega) hk2 n5 (List.mem_map.2 ⟨u,hum,rfl⟩) h55 (by omega) hb2 fun s6 S6 O6 r6 w6 f6 g6 p6 n6=>?_
  rw[Ce hT.nf u hun hfar]at n6
  have hn6:=hn5.ext p6
  obtain rfl:=n6.inj hn6 w6.nd
  have h46:=h45.step f6 g6
  have h56:=h55.step f6 g6
  have h66:=h65.step f6 g6
  have h76:=h75.step f6 g6
  have hN66:=hN65.ext p6
  have hN76:=hN75.ext p6
  simp only[Qa,Qb,Qc,Qd,Qe,Qf,Qg,Qh,Qi,Qj,Qk,Ql,Qm,Qn,true_and,and_true,Qo,Qp,Qq,Qr,Qs,Qt,Qu,Qv,Qw,Qx,Qy,Qz,Ra,Rb,Rc,Rd,Re,Rf,Rg,Rh,Ri,Rj,Rk,Rl,Rm,Ya,Yb,Yc,Rn,Ro,Xv,Yd,Ye,Rq,Rs,Rt,Ru,Rw,Rx,Ry,hne]
  refine K5 hE w6 (by omega) (L:=S0) (by omega) hk0 hn6 hum (bs:=[]) (us:=[]) (.inl ⟨rfl,rfl⟩) (by simp) (fun x hx=>absurd hx (by simp)) rfl fun s7 S7 O7 r7 w7 f7 g7 p7 n7=>?_
  rw[Sr u hun]at n7
  have hn7:=hn6.ext p7
  obtain rfl:=n7.inj hn7 w7.nd
  have h47:=h46.step f7 g7
  have h57:=h56.step f7 g7
  have h67:=h66.step f7 g7
  have h77:=h76.step f7 g7
  have hN67:=hN66.ext p7
  have hN77:=hN76.ext p7
  simp only[Qa,Qb,Qc,Qd,Qe,Qf,Qg,Qh,Qi,Qj,Qk,Ql,Qm,Qn,true_and,and_true,Qo,Qp,Qq,Qr,Qs,Qt,Qu,Qv,Qw,Qx,Qy,Qz,Ra,Rb,Rc,Rd,Re,Rf,Rg,Rh,Ri,Rj,Rk,Rl,Rm,Ya,Yb,Yc,Rn,Ro,Xv,Yd,Ye,Rq,Rs,Rt,Ru,Rw,Rx,Ry,hne]
  refine JE hE w7 (by omega) (L:=S0) (by omega) hk0 hn7 hum (A2.nil _ _) (by simp) hb0 fun s8 S8 O8 r8 w8 f8 g8 p8 n8=>?_
  rw[PB u]at n8
  have hn8:=hn7.ext p8
  obtain rfl:=n8.inj hn8 w8.nd
  have h48:=h47.step f8 g8
  have h58:=h57.step f8 g8
  have h68:=h67.step f8 g8
  have h78:=h77.step f8 g8
  have hN68:=hN67.ext p8
  have hN78:=hN77.ext p8
  have nc8:=((((nc.ext p4).ext p5).ext p6).ext p7).ext p8
  simp only[Qa,Qb,Qc,Qd,Qe,Qf,Qg,Qh,Qi,Qj,Qk,Ql,Qm,Qn,true_and,and_true,Qo,Qp,Qq,Qr,Qs,Qt,Qu,Qv,Qw,Qx,Qy,Qz,Ra,Rb,Rc,Rd,Re,Rf,Rg,Rh,Ri,Rj,Rk,Rl,Rm,Ya,Yb,Yc,Rn,Ro,Xv,Yd,Ye,Rq,Rs,Rt,Ru,Rw,Rx,Ry,hne]
  refine Of hE w8 nc8 fun s9 o9=>?_
  rw[EI]
  simp only[Qa,Qb,Qc,Qd,Qe,Qf,Qg,Qh,Qi,Qj,Qk,Ql,Qm,Qn,true_and,and_true,Qo,Qp,Qq,Qr,Qs,Qt,Qu,Qv,Qw,Qx,Qy,Qz,Ra,Rb,Rc,Rd,Re,Rf,Rg,Rh,Ri,Rj,Rk,Rl,Rm,Ya,Yb,Yc,Rn,Ro,Xv,Yd,Ye,Rq,Rs,Rt,Ru,Rw,Rx,Ry]
  refine Of hE (w8.old o9) hn8 fun s10 o10=>?_
  have o810:BK s8.next s8 s10:=o9.trans (o10.mono o9.1)
  have f10:Bk O8 s8 s10:=o810.frO O8
  have:=ih (k+1) s10 S8 O8 (iv c) v14 (iv (own.length:Int)) (.bool true) y21 y22 (.bool false) (by omega) ((w8.old o810)) (h48.step f10 (AR.refl _ _)) (h58.step f10 (AR.refl _ _)) (h68.step f10 (AR.refl _ _)) (h78.step f10 (AR.refl _ _)) hN68 hN78
  rw[← hW,show((k+1:Nat):Int)=(k:Int)+1 from by omega]at this
  simp only[Qa,Qb,Qc,Qd,Qe,Qf,Qg,Qh,Qi,Qj,Qk,Ql,Qm,Qn,true_and,and_true,Qo,Qp,Qq,Qr,Qs,Qt,Qu,Qv,Qw,Qx,Qy,Qz,Ra,Rb,Rc,Rd,Re,Rf,Rg,Rh,Ri,Rj,Rk,Rl,Rm,Ya,Yb,Yc,Rn,Ro,Xv,Yd,Ye,Rq,Rs,Rt,Ru,Rw,Rx,Ry,hne2,WL,A0 _ _ _ _ hadd]
  exact this
set_option maxRecDepth 20000 in
theorem NC{E:Bb}(hE:Ah E){s:AD}(hg:Co s 1 BC=true)(h1:1<s.next){v0 v1:AV}{l:List JI}{ids:List Int}(hv0:Cl s v0 l)(hu:∀m∈l,JI.ok m)(hv1:HS s v1 ids)(h8:∀x∈ids,-128≤x∧x≤127):
  WF E 3 [v0,v1] (fun r _=>r=.bool true) s:=by
 refine hE.go aV (by decide) rfl ?_
 simp only[c3,Z8,Z9,Qa,Qb,Qc,Qd,Qe,Qf,Qg,Qh,Qi,Qj,Qk,Ql,Qm,Qn,true_and,and_true,Qo,Qp,Qq,Qr,Qs,Qt,Qu,Qv,Qw,Qx,Qy,Qz,Ra,Rb,Rc,Rd,Re,Rf,Rg,Rh,Ri,Rj,Rk,Rl,Rm,Ya,Yb,Yc,Rn,Ro,Xv,Yd,Ye,Rq,Rs,Rt,Ru,Rw,Rx,Ry]
 refine Na hE hg ?_
 simp only[Ry,Bool.not_true,aB,Qa,Qb,Qc,Qd,Qe,Qf,Qg,Qh,Qi,Qj,Qk,Ql,Qm,Qn,true_and,and_true,Qo,Qp,Qq,Qr,Qs,Qt,Qu,Qv,Qw,Qx,Qy,Qz,Ra,Rb,Rc,Rd,Re,Rf,Rg,Rh,Ri,Rj,Rk,Rl,Rm,Ya,Yb,Yc,Rn,Ro,Xv,Yd,Ye,Rq,Rs,Rt,Ru,Rw,Rx,Ry]
 refine PQ hE hg h1 hv0 hu fun p s1 S O k1 k2 k3 k4 k5=>?_
 simp only[aD,aE,Qa,Qb,Qc,Qd,Qe,Qf,Qg,Qh,Qi,Qj,Qk,Ql,Qm,Qn,true_and,and_true,Qo,Qp,Qq,Qr,Qs,Qt,Qu,Qv,Qw,Qx,Qy,Qz,Ra,Rb,Rc,Rd,Re,Rf,Rg,Rh,Ri,Rj,Rk,Rl,Rm,Ya,Yb,Yc,Rn,Ro,Xv,Yd,Ye,Rq,Rs,Rt,Ru,Rw,Rx,Ry]
 refine SX hE (hv1.old k4) h8 _ _ _ _ _ _ _ _ _ _ _ _ _ _ _ _ _ (fun y8 y9 y17 y18 v4 v5 s2 own far OB4 OB5 hT ho hb4 hb5 hO4 hO5=>?_) (min ids.length 5) 0 s1 [] [] [] [] _ _ _ _ _ (by omega) ⟨db,db,rfl,cp _,fun x hx=>absurd hx (by simp),fun x hx=>absurd hx (by simp)⟩ (BK.refl _ _) (C2.nil _ _ _) (C2.nil _ _ _) (fun j hj=>absurd hj (by simp)) (fun j hj=>absurd hj (by simp))
 simp only[Qa,Qb,Qc,Qd,Qe,Qf,Qg,Qh,Qi,Qj,Qk,Ql,Qm,Qn,true_and,and_true,Qo,Qp,Qq,Qr,Qs,Qt,Qu,Qv,Qw,Qx,Qy,Qz,Ra,Rb,Rc,Rd,Re,Rf,Rg,Rh,Ri,Rj,Rk,Rl,Rm,Ya,Yb,Yc,Rn,Ro,Xv,Yd,Ye,Rq,Rs,Rt,Ru,Rw,Rx,Ry]
 rw[if_pos trivial]
 have st2:=k1.old ho
 have gl2:=k2.old ho
 have hlt:=k1.lt
 have hlen:=k3.len
 have w2:TW S p s2 S O 0:=⟨st2,gl2,⟨[],by simp⟩,by omega⟩
 simp only[V6,Qa,Qb,Qc,Qd,Qe,Qf,Qg,Qh,Qi,Qj,Qk,Ql,Qm,Qn,true_and,and_true,Qo,Qp,Qq,Qr,Qs,Qt,Qu,Qv,Qw,Qx,Qy,Qz,Ra,Rb,Rc,Rd,Re,Rf,Rg,Rh,Ri,Rj,Rk,Rl,Rm,Ya,Yb,Yc,Rn,Ro,Xv,Yd,Ye,Rq,Rs,Rt,Ru,Rw,Rx,Ry]
 refine Sj hE st2 (by omega) ?_
 simp only[V7,Qa,Qb,Qc,Qd,Qe,Qf,Qg,Qh,Qi,Qj,Qk,Ql,Qm,Qn,true_and,and_true,Qo,Qp,Qq,Qr,Qs,Qt,Qu,Qv,Qw,Qx,Qy,Qz,Ra,Rb,Rc,Rd,Re,Rf,Rg,Rh,Ri,Rj,Rk,Rl,Rm,Ya,Yb,Yc,Rn,Ro,Xv,Yd,Ye,Rq,Rs,Rt,Ru,Rw,Rx,Ry]
 have i4:=hb4.ap fun j hj hm=>by have:=hlt j hm;have:=hO4 j hj;omega
 have i5:=hb5.ap fun j hj hm=>by have:=hlt j hm;have:=hO5 j hj;omega
 refine P4 hE gl2.2.1 hT i4 i5 _ _ _ _ _ _ _ _ _ _ _ _ _ _ _ _ _ (fun y19 v6 v7 s3 S3 O3 k6 k7 w3 f3 g3 h6 h7 n6 n7=>?_) own.length 0 s2 S O [] [] [] [] _ _ _ (by omega) w2 (Bk.refl _ _) (AR.refl _ _) (C2.nil _ _ _) (C2.nil _ _ _) (fun j hj=>absurd hj (by simp)) (fun j hj=>absurd hj (by simp)) ⟨fun x hx=>absurd hx (by simp),rfl⟩ ⟨fun x hx=>absurd hx (by simp),rfl⟩
 simp only[Qa,Qb,Qc,Qd,Qe,Qf,Qg,Qh,Qi,Qj,Qk,Ql,Qm,Qn,true_and,and_true,Qo,Qp,Qq,Qr,Qs,Qt,Qu,Qv,Qw,Qx,Qy,Qz,Ra,Rb,Rc,Rd,Re,Rf,Rg,Rh,Ri,Rj,Rk,Rl,Rm,Ya,Yb,Yc,Rn,Ro,Xv,Yd,Ye,Rq,Rs,Rt,Ru,Rw,Rx,Ry]
 rw[if_pos trivial]
 simp only[WB,Qa,Qb,Qc,Qd,Qe,Qf,Qg,Qh,Qi,Qj,Qk,Ql,Qm,Qn,true_and,and_true,Qo,Qp,Qq,Qr,Qs,Qt,Qu,Qv,Qw,Qx,Qy,Qz,Ra,Rb,Rc,Rd,Re,Rf,Rg,Rh,Ri,Rj,Rk,Rl,Rm,Ya,Yb,Yc,Rn,Ro,Xv,Yd,Ye,Rq,Rs,Rt,Ru,Rw,Rx,Ry]
 refine ND hE k1.ok k3 hT _ _ _ _ _ _ _ _ _ _ (fun y13 y14 y15 y20 y21 y22 y23 s4=>?_) S.length 0 s3 S3 O3 _ _ _ _ _ _ _ (by omega) w3 (i4.step f3 g3) (i5.step f3 g3) h6 h7 n6 n7
 simp only[Qa,Qb,Qc,Qd,Qe,Qf,Qg,Qh,Qi,Qj,Qk,Ql,Qm,Qn,true_and,and_true,Qo,Qp,Qq,Qr,Qs,Qt,Qu,Qv,Qw,Qx,Qy,Qz,Ra,Rb,Rc,Rd,Re,Rf,Rg,Rh,Ri,Rj,Rk,Rl,Rm,Ya,Yb,Yc,Rn,Ro,Xv,Yd,Ye,Rq,Rs,Rt,Ru,Rw,Rx,Ry]
 rw[if_pos trivial]
 simp only[WM,Qa,Qb,Qc,Qd,Qe,Qf,Qg,Qh,Qi,Qj,Qk,Ql,Qm,Qn,true_and,and_true,Qo,Qp,Qq,Qr,Qs,Qt,Qu,Qv,Qw,Qx,Qy,Qz,Ra,Rb,Rc,Rd,Re,Rf,Rg,Rh,Ri,Rj,Rk,Rl,Rm,Ya,Yb,Yc,Rn,Ro,Xv,Yd,Ye,Rq,Rs,Rt,Ru,Rw,Rx,Ry]
end
end Go.Proofs.YtickdehehcmfbaaGreatDoor.Am
