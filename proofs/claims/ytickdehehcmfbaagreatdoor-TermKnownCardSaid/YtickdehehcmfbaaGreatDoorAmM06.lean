/- The end of put, walked: a new entry is laid into a store; conditions: none. -/
import Derived.Test.YtickdehehcmfbaaGreatDoorAmM05
set_option linter.unusedVariables false
set_option linter.unusedSimpArgs false
namespace Go.Proofs.YtickdehehcmfbaaGreatDoor.Am
open Go Go.Proofs
noncomputable section
set_option maxRecDepth 100000 in
theorem Pj(k0 k1 k2 k3 k4 k5 c0 c1 c2 c3 c4 c5 c6:AV)(n z:Int)(m:Nat):Ab Tryz.prog 70 (zipIdx [0,1,2,3,4] [.agg [k0,k1,k2,k3,k4,k5],.agg [c0,c1,c2,c3,c4,c5,c6],iv n,iv z,.map (some m)]) =
  some (.agg [k0,k1,k2,k3,k4,k5,c0,c1,c2,c3,c4,c5,c6,iv n,iv z,.map (some m)]):=by kernel_rfl
theorem PE(k0 k1 k2 k3 k4 k5 c0 c1 c2 c3 c4 c5 c6 n z m:AV):AW Tryz.prog 59 1 (zipIdx [0] [.agg [k0,k1,k2,k3,k4,k5,c0,c1,c2,c3,c4,c5,c6,n,z,m]]) =
  some (R 70 16 false [k0,k1,k2,k3,k4,k5,c0,c1,c2,c3,c4,c5,c6,n,z,m]):=by kernel_rfl
theorem No:DH Tryz.prog 68=some 3:=by kernel_rfl
theorem TJ:B6 Tryz.prog 70 16=true:=by kernel_rfl
theorem OX:∀a,a<13→Af (Eg.getD a ([],Tm.nullC)).2=true:=by decide
theorem Tm.cells7{t:Tm}(h:t.ok):∃c0 c1 c2 c3 c4 c5 c6,t.cells=[c0,c1,c2,c3,c4,c5,c6]∧c0.isCell=true∧c1.isCell=true∧c2.isCell=true∧c3.isCell=true∧c4.isCell=true∧c5.isCell=true∧c6.isCell=true:=by
 have h7:=Dg h
 have ha:Af t.cells=true:=by
  cases t<;>first | rfl | exact OX _ h
 match hc:t.cells,h7,ha with
 | [c0,c1,c2,c3,c4,c5,c6],_,ha =>
  simp only[Af,Bool.and_eq_true,and_true]at ha
  exact⟨_,_,_,_,_,_,_,rfl,ha⟩
section
variable{E:Bt}{s:AE}{p:Nat}{S:List Tm}{O:List Nat}{tv:AV}{fi:Nat}{vm OT:List Nat}(e:EE s p S O tv fi vm OT)(hS:I5 S)(hsm:S.length<100000)
  {u:Tm} (hk:∀k∈u.kids,k∈S) (ho:u.ok) (hu:u ∉ S) (a1 a2 pv a5 a6 a7 a8 a10 a11 a12 a13 a14 a15 a16:AV) (vb:AX) {b:Nat} (hs:s.next=b) {ks:List Int} (hkn:ks.Nodup) (hkx:∀x,x∈ks↔u.has x=true)
include e hS hsm hk ho hu hs hkn hkx
theorem Tw      {K : AV → AE  → Prop} (hK : ∀ s' O', AN      s' p (S ++ [u]) O' → C2  O s s' → Ac   O O' s → K (iv (S.length : Int)) s') :
    Qb E J1 (fun v s'=>Qb E J2 (fun v s'=>Qb E J3 (fun v s'=>KZ (CR s' []) fun s'=>K (JC v 6) s') [] v s') [] v s') []
      [.ptr (some (p,0)),a1,a2,pv,.ptr (some (nid b 0,0)),a5,a6,a7,a8,.ptr (some (nid b 3,0)),a10,a11,a12,a13,a14,a15,a16]
      (ext s [R 65 0 false (BB S u),vb,.map 3 (A5 ks),R 70 0 false (A7 S u (nid b 2))]):=by
  obtain⟨c0,c1,c2,c3,c4,c5,c6,hc,d0,d1,d2,d3,d4,d5,d6⟩:=u.cells7 ho
  have hpb:=e.plt
  have hfb:=e.flt
  have hobj:=e.obj
  rw[hs]at hpb hfb
  have hbuf:=e.buf.frame (s':=ext s [R 65 0 false (BB S u),vb,.map 3 (A5 ks),R 70 0 false (A7 S u (nid b 2)),R 70 16 false (A7 S u (nid b 2))]) (by rw[Wm,AH];omega) (fun j hj=>Wh (e.buf.lt j hj))
  have hsrc:Co Tryz.prog (ext s [R 65 0 false (BB S u),vb,.map 3 (A5 ks),R 70 0 false (A7 S u (nid b 2)),R 70 16 false (A7 S u (nid b 2))]) 70 16 (.slice (some (nid b 4,0)) 1 (some 1))=some (1,A7 S u (nid b 2)):=by
    show(Ki _ (nid b 4) 0 1 16).bind _=_
    rw[Jk (l:=A7 S u (nid b 2)) (by rw[DD,Wg hs (by simp)];show Bs (some (R 70 16 false (A7 S u (nid b 2)))) _ _=_;rw[Wj (by rw[D4 ho];exact Y9 _),ZG,Zo (by rw[D4 ho];exact Y9 _)])]
    rfl
  have hac:Af (A7 S u (nid b 2))=true:=by
    simp only[A7,BB,hc,ZE,ZD,Af,d0,d1,d2,d3,d4,d5,d6,Xl,Xm,Xo,Bool.and_self]
  obtain⟨v',s2,O2,happ,hb2,hn2,hf2,hO2,hsl⟩:=hbuf.append (xt:=59) Tryz.underlying59 ER YI (by omega) (by kernel_rfl) TJ (by omega) hsrc (by rw[D4 ho]) hac (by omega) (by omega)
  have hv2:∃a c,v'=.slice a (S.length+1) c:=let ⟨a,c,h,_⟩:=hb2.slice;⟨a,c,h⟩
  obtain⟨av,cv,rfl⟩:=hv2
  have hnx:(ext s [R 65 0 false (BB S u),vb,.map 3 (A5 ks),R 70 0 false (A7 S u (nid b 2)),R 70 16 false (A7 S u (nid b 2))]).next=b+5:=by rw[Wm,AH,hs];rfl
  rw[hnx]at hn2 hf2 hO2 hsl
  have hOT:∀j∈OT,j<b:=fun j hj=>by have:=e.buf.lt j hj;omega
  have g0:s2.heap.get (nid b 0)=some (R 65 0 false (BB S u)):=by
    rw[hf2 _ (by rw[AH];omega) (fun h=>by have:=hOT _ h;rw[AH]at this;omega),Wg hs (by simp)];rfl
  have g2:s2.heap.get (nid b 2)=some (.map 3 (A5 ks)):=by
    rw[hf2 _ (by rw[AH];omega) (fun h=>by have:=hOT _ h;rw[AH]at this;omega),Wg hs (by simp)];rfl
  have gold:∀j,j<b→j ∉ OT→s2.heap.get j=s.heap.get j:=fun j h1 h2=>by
    rw[hf2 j (by omega) h2,Wh (by omega)]
  have gp:s2.heap.get p=some (R 62 0 false [tv,.map (some fi)]):=by rw[gold p hpb e.pO];exact hobj
  have gf:s2.heap.get fi=some (.map 65 (CJ S)):=by rw[gold fi hfb e.fO];exact e.fnd
  have hu2:A7 S u (nid b 2)=[iv u.kind,iv u.id,iv (part S u 0),iv (part S u 1),iv (part S u 2),.str u.ktext,c0,c1,c2,c3,c4,c5,c6,iv (u.kids.length:Int),iv (u.sz:Int),.map (some (nid b 2))]:=by
    simp only[A7,BB,hc,ZE,ZD]
  rw[hu2]at happ ⊢
  have hfp:fi≠p:=Ne.symm e.pf
  have hp0:nid b 0≠p:=by rw[AH];omega
  have hup:=Kn (s:=setObj s2 p (R 62 0 false [.slice av (S.length+1) cv,.map (some fi)])) (fi:=fi) (u:=u) (by rw[Wr _ hfp];exact gf) hS hsm hk ho hu
  have hsub:i64 (((S.length+1:Nat):Int) - 1):=by unfold i64;omega
  have hsub2:((S.length+1:Nat):Int) - 1=(S.length:Int):=by omega
  have g0:s2.heap.get (nid b 0)=some (R 65 0 false [iv u.kind,iv u.id,iv (part S u 0),iv (part S u 1),iv (part S u 2),.str u.ktext]):=g0
  simp only[BB]at hup happ
  simp only[BB,J1,J2,J3,Qa,Qb,Qc,Qd,Qe,Qf,Qg,Qh,Qi,Qj,Qk,Ql,Qm,Qn,true_and,and_true,Qo,Qp,Qq,Qr,Qs,Qt,Qu,Qv,Qw,Qx,Qy,Qz,Ra,Rb,Rc,Rd,Re,Rf,Rg,Rh,Ri,Rj,Rk,Rl,Rm,Ya,Yb,Yc,Rn,Ro,Xv,Yd,Ye,Rq,Rs,Rt,Ru,Rw,Rx,Ry,Fj,RE,hpb,hobj,hs,L7,XD,Vn,W0,YZ,F9,ER,PE,happ,gp,hfp,hp0,g0,A8 Tryz.underlying59,NI _ _ _ _ hsub,hsub2,hup,Ne.symm hfp,ne_eq,not_false_eq_true,not_true,Rz,Wa,Wb,Wc,Wd,We,Wf,Wg,Wh,Wi,Wj,Wl,Wm,Wn,Wp,Wq,Wr,Ws,Wt,Wu,Wv,Ww,Wx,Wy,Wz,Xa,Xb,Xc,Xd,Xe,Xf,Xg,Xh,Xi,Xj,Xk,Xl,Xm,Xn,Xo,Xp,Xq,Xr,ZC,ZF,ZE,ZD,ZH,ZI,List.getElem?_cons_zero,List.getElem?_cons_succ,ZG,ZJ,ZK,ZL,ZB,Nat.reduceAdd,Nat.reduceLT,Nat.reduceLeDiff,decide_true,decide_false,Bool.true_and,Bool.and_true,ZM,Y9,Option.some.injEq,Xs,Xt,Xu,Xv]
  have hok:=hS.push hu hk ho
  have hlen:(S++[u]).length=S.length+1:=by simp
  have hin:∀j,j∈O↔j=p∨j=fi∨j∈OT∨j∈vm:=fun j=>by rw[e.eq];simp
  have hpO2:p ∉ O2:=fun h=>(hO2 p h).elim e.pO (fun h=>by omega)
  have hfO2:fi ∉ O2:=fun h=>(hO2 fi h).elim e.fO (fun h=>by omega)
  have hget:∀j,j≠p→j≠fi→(setObj (setObj s2 p (R 62 0 false [.slice av (S.length+1) cv,.map (some fi)])) fi (.map 65 (CJ (S++[u])))).heap.get j=s2.heap.get j:=fun j h1 h2=>by
    rw[Wr _ h2,Wr _ h1]
  refine hK _ (p::fi::(O2++(vm++[nid b 2]))) ⟨hok,by omega,.slice av (S.length+1) cv,fi,vm++[nid b 2],O2,?_,?_,Wq _ _ _,by rw[Ze,e.vml,hlen];rfl,?_,rfl,?_,?_,e.pf,hpO2,hfO2⟩ ⟨?_,?_⟩ ?_
  · rw[Wr _ (Ne.symm hfp),Wq]
  · rw [hlen, FU            S vm e.vml.symm (fun t ht k hkk => (hS.kid ht hkk).1) hk]
    refine hb2.frame (Y9 _) fun j hj=>hget j (fun h=>hpO2 (h▸hj)) (fun h=>hfO2 (h▸hj))
  · intro i t m hi hm
    have hnx2:(setObj (setObj s2 p (R 62 0 false [.slice av (S.length+1) cv,.map (some fi)])) fi (.map 65 (CJ (S++[u])))).next=b+6:=by rw[Wp,Wp,hn2]
    rw[hnx2]
    rcases ZO i S.length with hl | hl
    · rw [Zb                        hl] at hi
      rw[Zb (by rw[e.vml];exact hl)]at hm
      obtain⟨h1,h2,h3⟩:=e.vars i t m hi hm
      have hmp:m≠p:=fun h=>h3 (by simp[h])
      have hmf:m≠fi:=fun h=>h3 (by simp[h])
      have hmT:m ∉ OT:=fun h=>h3 (by simp[h])
      refine⟨h1.frame (by rw[hget m hmp hmf,gold m (by omega) hmT]),by omega,fun h=>?_⟩
      rcases Zd.1 h with h | h
      · exact hmp h
      · rcases Zd.1            h with h | h
        · exact hmf h
        · rcases hO2 m h with h | h
          · exact hmT h
          · omega
    · have hi2:i<(S++[u]).length:=by
        rcases ZO i (S++[u]).length with h' | h'
        · exact h'
        · rw[ZT h']at hi;cases hi
      have hi3:i=S.length:=by omega
      subst hi3
      have ht:t=u:=by simpa using hi.symm
      rw[Zc (by rw[e.vml];exact Y9 _),e.vml,Nat.sub_self]at hm
      have hm:m=nid b 2:=by simpa using hm.symm
      subst ht;subst hm
      have hlt2:nid b 2<b+6∧b≤nid b 2∧nid b 2<b+5:=by rw[AH];omega
      refine⟨⟨ks,by rw[hget _ (by omega) (by omega)];exact g2,hkn,hkx,?_⟩,hlt2.1,fun h=>?_⟩
      · have:=TG hok (Zt _ (List.mem_singleton.2 rfl)) hkn (fun x hx=>(hkx x).1 hx)
        omega
      · rcases Zd.1            h with h | h
        · omega
        · rcases Zd.1            h with h | h
          · omega
          · rcases hO2 _ h with h | h
            · have:=hOT _ h;omega
            · omega
  · rw[Wp,Wp];omega
  · rw[Wp,Wp];omega
  · rw[Wp,Wp];omega
  · intro j hj hjO
    rw[hin]at hjO
    rw[hget j (fun h=>hjO (.inl h)) (fun h=>hjO (.inr (.inl h))),gold j (by omega) (fun h=>hjO (.inr (.inr (.inl h))))]
  · intro j hj
    rw[hin]
    rcases Zd.1 hj with h | h
    · exact .inl (.inl h)
    · rcases Zd.1            h with h | h
      · exact .inl (.inr (.inl h))
      · rcases List.mem_append.1 h with h | h
        · rcases hO2 _ h with h | h
          · exact .inl (.inr (.inr (.inl h)))
          · exact .inr (by omega)
        · rcases List.mem_append.1 h with h | h
          · exact .inl (.inr (.inr (.inr h)))
          · have h:=List.mem_singleton.1 h
            refine .inr ?_
            rw[h,AH];omega
end
theorem AK{s:AE}{os:List AX}:B7 s.next s (ext s os):=⟨by rw[Wm,AH];omega,fun j hj=>Wh hj⟩
theorem B7.frO{s s':AE}(O:List Nat)(h:B7 s.next s s'):C2 O s s':=⟨h.1,fun j hj _=>h.2 j hj⟩
theorem BW.old{s s':AE}{S l:List Tm}{v:AV}(h:BW s S l v)(k:B7 s.next s s'):BW s' S l v:=by
 rcases h with h | ⟨j,q,cap,h1,h2,h3,h4⟩
 ·exact .inl h
 ·exact .inr ⟨j,q,cap,h1,h2,ZS h3 k.1,by rw[k.2 j h3];exact h4⟩
theorem M3(k:Int):CA Tryz.prog 3 (iv k)=A4 .i64 k:=by kernel_rfl
theorem Lw{s:AE}{i:Nat}{ks:List Int}{k:Int}(hg:s.heap.get i=some (.map 3 (A5 ks)))(hk:i64 k):
  Br Tryz.prog s 68 (.map (some i)) (iv k) (iv 1)=some (setObj s i (.map 3 (A5 (Fh ks k)))):=by
 unfold Br
 simp only[Tryz.underlying68,M3,BN hk,Xa,FA,hg,D6,Option.bind_some,Jf]
set_option maxRecDepth 20000 in
theorem T9      {E : Bt}  (hE : A0    E) {s : AE}  {p : Nat} {S : List Tm} {O : List Nat} (h : AN      s p S O) (hsm : S.length < 100000) (u : Tm) (hk : ∀ k ∈ u.kids, k ∈ S) (ho : u.ok) {pv : AV} (hp : BW      s S u.kids pv) :
    WF E 32 [.ptr (some (p,0)),.agg [iv u.kind,iv u.id,iv 0,iv 0,iv 0,.str u.ktext],.agg u.cells,pv] (fun r s'=>r=iv (ix (push S u) u:Int)∧∃O',AN s' p (push S u) O'∧C2 O s s'∧Ac O O' s) s:=by
  obtain⟨tv,fi,vm,OT,e⟩:=h.ex
  have hc7:=Dg ho
  obtain⟨c0,c1,c2,c3,c4,c5,c6,hc,d0,d1,d2,d3,d4,d5,d6⟩:=u.cells7 ho
  refine hE.go Vy (by decide) rfl ?_
  have hplt:=e.plt
  have hflt:=e.flt
  have hobj:=e.obj
  have hfnd:=e.fnd
  have hlen:=PB hp
  generalize hs:s.next=b at hplt hflt
  have hs0:s=ext s []:=(AZ s).symm
  have hcp:=fun s' (hh:BW s' S u.kids pv) i o=>MS (s:=s') (i:=i) (o:=o) (Cd u) hh
  have hpe:∀os,BW (ext s os) S u.kids pv:=fun os=>hp.old AK
  generalize hK:(fun r s'=>r=iv (ix (push S u) u:Int)∧∃O',AN s' p (push S u) O'∧C2 O s s'∧Ac O O' s)=K
  rw[hs0]
  simp only[Yx,Uo,Up,hs,Qa,Qb,Qc,Qd,Qe,Qf,Qg,Qh,Qi,Qj,Qk,Ql,Qm,Qn,true_and,and_true,Qo,Qp,Qq,Qr,Qs,Qt,Qu,Qv,Qw,Qx,Qy,Qz,Ra,Rb,Rc,Rd,Re,Rf,Rg,Rh,Ri,Rj,Rk,Rl,Rm,Ya,Yb,Yc,Rn,Ro,Xv,Yd,Ye,Rq,Rs,Rt,Ru,Rw,Rx,Ry,Rz,Wa,Wb,Wc,Wd,We,Wf,Wg,Wh,Wi,Wj,Wl,Wm,Wn,Wp,Wq,Wr,Ws,Wt,Wu,Wv,Ww,Wx,Wy,Wz,Xa,Xb,Xc,Xd,Xe,Xf,Xg,Xh,Xi,Xj,Xk,Xl,Xm,Xn,Xo,Xp,Xq,Xr,ZC,ZF,ZE,ZD,ZH,ZI,List.getElem?_cons_zero,List.getElem?_cons_succ,ZG,ZJ,ZK,ZL,ZB,Nat.reduceAdd,Nat.reduceLT,Nat.reduceLeDiff,decide_true,decide_false,Bool.true_and,Bool.and_true,ZM,Y9,Option.some.injEq,Xs,Xt,Xu,Xv,IG,T3,hcp _ (hpe _),R7 hs]
  have hlk:∀os,Bp Tryz.prog (ext s os) 60 (.map (some fi)) (.agg (BB S u)) true=some (.tuple [if u∈S then iv (ix S u:Int)else iv 0,.bool (decide (u∈S))]):=fun os =>
    KO (by rw[Wh (by rw[hs];exact hflt),hfnd]) h.ok hsm hk ho
  simp only[BB]at hlk
  simp only[Uq,RE,XD,Vn,W0,hplt,hobj,hs,hlk,BB,Qa,Qb,Qc,Qd,Qe,Qf,Qg,Qh,Qi,Qj,Qk,Ql,Qm,Qn,true_and,and_true,Qo,Qp,Qq,Qr,Qs,Qt,Qu,Qv,Qw,Qx,Qy,Qz,Ra,Rb,Rc,Rd,Re,Rf,Rg,Rh,Ri,Rj,Rk,Rl,Rm,Ya,Yb,Yc,Rn,Ro,Xv,Yd,Ye,Rq,Rs,Rt,Ru,Rw,Rx,Ry,Rz,Wa,Wb,Wc,Wd,We,Wf,Wg,Wh,Wi,Wj,Wl,Wm,Wn,Wp,Wq,Wr,Ws,Wt,Wu,Wv,Ww,Wx,Wy,Wz,Xa,Xb,Xc,Xd,Xe,Xf,Xg,Xh,Xi,Xj,Xk,Xl,Xm,Xn,Xo,Xp,Xq,Xr,ZC,ZF,ZE,ZD,ZH,ZI,List.getElem?_cons_zero,List.getElem?_cons_succ,ZG,ZJ,ZK,ZL,ZB,Nat.reduceAdd,Nat.reduceLT,Nat.reduceLeDiff,decide_true,decide_false,Bool.true_and,Bool.and_true,ZM,Y9,Option.some.injEq,Xs,Xt,Xu,Xv]
  by_cases hu:u∈S
  · simp only [P3,    Ur,    hu, if_true, Qa, Qb, Qc, Qd, Qe, Qf, Qg, Qh, Qi, Qj, Qk, Ql, Qm, Qn, true_and, and_true, Qo, Qp, Qq, Qr, Qs, Qt, Qu, Qv, Qw, Qx, Qy, Qz, Ra, Rb, Rc, Rd, Re, Rf, Rg, Rh, Ri, Rj, Rk, Rl, Rm, Ya, Yb, Yc, Rn, Ro, Xv, Yd, Ye, Rq, Rs, Rt, Ru, Rw, Rx, Ry, Rz, Wa, Wb, Wc, Wd, We, Wf, Wg, Wh, Wi, Wj, Wl, Wm, Wn, Wp, Wq, Wr, Ws, Wt, Wu, Wv, Ww, Wx, Wy, Wz, Xa, Xb, Xc, Xd, Xe, Xf, Xg, Xh, Xi, Xj, Xk, Xl, Xm, Xn, Xo, Xp, Xq, Xr, ZC,               ZF,              ZE,               ZD,              ZH,                 ZI,                 List.getElem?_cons_zero, List.getElem?_cons_succ, ZG,             ZJ,                  ZK,                  ZL,             ZB,           Nat.reduceAdd, Nat.reduceLT, Nat.reduceLeDiff, decide_true, decide_false, Bool.true_and, Bool.and_true, ZM,             Y9,          Option.some.injEq, Xs, Xt, Xu, Xv]
    subst hK
    have hpu:push S u=S:=if_pos hu
    rw[hpu]
    exact⟨rfl,O,h.old AK,AK.frO O,Ac.refl O s⟩
  · have hpu : push S u = S ++ [u] := if_neg hu
    have hfin:∀s' O',AN s' p (S++[u]) O'→C2 O s s'→Ac O O' s→K (iv (S.length:Int)) s':=fun s' O' h1 h2 h3=>by
      subst hK
      rw[hpu]
      exact⟨by rw[R3 hu],O',h1,h2,h3⟩
    simp only[P3,Us,Ut,hu,if_false,hc,Vn,W0,FM,FR,hlen,No,Pj,G5,ER,F9,Dx,Bg,d0,d1,d2,d3,d4,d5,d6,hs,Rw,Qa,Qb,Qc,Qd,Qe,Qf,Qg,Qh,Qi,Qj,Qk,Ql,Qm,Qn,true_and,and_true,Qo,Qp,Qq,Qr,Qs,Qt,Qu,Qv,Qw,Qx,Qy,Qz,Ra,Rb,Rc,Rd,Re,Rf,Rg,Rh,Ri,Rj,Rk,Rl,Rm,Ya,Yb,Yc,Rn,Ro,Xv,Yd,Ye,Rq,Rs,Rt,Ru,Rw,Rx,Ry,Rz,Wa,Wb,Wc,Wd,We,Wf,Wg,Wh,Wi,Wj,Wl,Wm,Wn,Wp,Wq,Wr,Ws,Wt,Wu,Wv,Ww,Wx,Wy,Wz,Xa,Xb,Xc,Xd,Xe,Xf,Xg,Xh,Xi,Xj,Xk,Xl,Xm,Xn,Xo,Xp,Xq,Xr,ZC,ZF,ZE,ZD,ZH,ZI,List.getElem?_cons_zero,List.getElem?_cons_succ,ZG,ZJ,ZK,ZL,ZB,Nat.reduceAdd,Nat.reduceLT,Nat.reduceLeDiff,decide_true,decide_false,Bool.true_and,Bool.and_true,ZM,Y9,Option.some.injEq,Xs,Xt,Xu,Xv]
    have hpb:=fun os=>hpe os
    have hmain:∀ (ks:List Int) (a10 a12 a16:AV),ks.Nodup→ks.length≤100000→(∀x,(x∈ks∨∃t∈u.kids,t.has x=true)↔u.has x=true) →
        Qb E P4 (fun v s'=>WC E none (Ai.loop Gf) (A2 0 (Kg (fun x x_3 x_4=>Qb E J1 (fun v s'=>Qb E J2 (fun v s'=>Qb E J3 (fun v s'=>KZ (CR s' x_3) fun s'=>K (JC v 6) s') [] v s') [] v s') [] x x_4) (Ends Tryz.prog [(CX.var 6,none)] K))) v [] s') []
          [.ptr (some (p,0)),.agg [iv u.kind,iv u.id,iv 0,iv 0,iv 0,.str u.ktext],.agg [c0,c1,c2,c3,c4,c5,c6],pv,.ptr (some (nid b 0,0)),.ptr (some (nid b 1,0)),.int .i64 0,iv 0,.bool false,.ptr (some (nid b 3,0)),a10,.bool false,a12,A1,A1,A1,a16]
          (ext s [R 65 0 false [iv u.kind,iv u.id,iv (part S u 0),iv (part S u 1),iv (part S u 2),.str u.ktext],R 43 0 false [c0,c1,c2,c3,c4,c5,c6],.map 3 (A5 ks),
            R 70 0 false [iv u.kind,iv u.id,iv (part S u 0),iv (part S u 1),iv (part S u 2),.str u.ktext,c0,c1,c2,c3,c4,c5,c6,iv (u.kids.length:Int),iv ((1:Nat):Int),.map (some (nid b 2))]]):=by
      intro ks a10 a12 a16 hn hl hx
      simp only[P4,hlen,Qa,Qb,Qc,Qd,Qe,Qf,Qg,Qh,Qi,Qj,Qk,Ql,Qm,Qn,true_and,and_true,Qo,Qp,Qq,Qr,Qs,Qt,Qu,Qv,Qw,Qx,Qy,Qz,Ra,Rb,Rc,Rd,Re,Rf,Rg,Rh,Ri,Rj,Rk,Rl,Rm,Ya,Yb,Yc,Rn,Ro,Xv,Yd,Ye,Rq,Rs,Rt,Ru,Rw,Rx,Ry,Rz,Wa,Wb,Wc,Wd,We,Wf,Wg,Wh,Wi,Wj,Wl,Wm,Wn,Wp,Wq,Wr,Ws,Wt,Wu,Wv,Ww,Wx,Wy,Wz,Xa,Xb,Xc,Xd,Xe,Xf,Xg,Xh,Xi,Xj,Xk,Xl,Xm,Xn,Xo,Xp,Xq,Xr,ZC,ZF,ZE,ZD,ZH,ZI,List.getElem?_cons_zero,List.getElem?_cons_succ,ZG,ZJ,ZK,ZL,ZB,Nat.reduceAdd,Nat.reduceLT,Nat.reduceLeDiff,decide_true,decide_false,Bool.true_and,Bool.and_true,ZM,Y9,Option.some.injEq,Xs,Xt,Xu,Xv]
      refine Se hE e h.ok hp (Cd u) hk _ _ _ _ _ _ _ _ _ _ _ _ _ _ _ _ _ _ _ _ _ _ _ _ hs u.kids [] ks 1 _ _ rfl hn (by simp;omega) (by omega) ?_
      intro ks' b10 b15 b16 hn' hx'
      simp only[Qa,Qb,Qc,Qd,Qe,Qf,Qg,Qh,Qi,Qj,Qk,Ql,Qm,Qn,true_and,and_true,Qo,Qp,Qq,Qr,Qs,Qt,Qu,Qv,Qw,Qx,Qy,Qz,Ra,Rb,Rc,Rd,Re,Rf,Rg,Rh,Ri,Rj,Rk,Rl,Rm,Ya,Yb,Yc,Rn,Ro,Xv,Yd,Ye,Rq,Rs,Rt,Ru,Rw,Rx,Ry,Rz,Wa,Wb,Wc,Wd,We,Wf,Wg,Wh,Wi,Wj,Wl,Wm,Wn,Wp,Wq,Wr,Ws,Wt,Wu,Wv,Ww,Wx,Wy,Wz,Xa,Xb,Xc,Xd,Xe,Xf,Xg,Xh,Xi,Xj,Xk,Xl,Xm,Xn,Xo,Xp,Xq,Xr,ZC,ZF,ZE,ZD,ZH,ZI,List.getElem?_cons_zero,List.getElem?_cons_succ,ZG,ZJ,ZK,ZL,ZB,Nat.reduceAdd,Nat.reduceLT,Nat.reduceLeDiff,decide_true,decide_false,Bool.true_and,Bool.and_true,ZM,Y9,Option.some.injEq,Xs,Xt,Xu,Xv]
      rw[if_pos trivial,S6]
      have:=Tw (E:=E) e h.ok hsm hk ho hu (.agg [iv u.kind,iv u.id,iv 0,iv 0,iv 0,.str u.ktext]) (.agg [c0,c1,c2,c3,c4,c5,c6]) pv (.ptr (some (nid b 1,0))) (.int .i64 0) (iv 0) (.bool false) b10 (.bool false) a12 pv (iv (u.kids.length:Int)) b15 b16 (R 43 0 false [c0,c1,c2,c3,c4,c5,c6]) hs hn' (fun x=>by rw[hx',hx]) hfin
      simp only[A7,BB,hc,ZE,ZD]at this
      exact this
    by_cases hu0:u.kind=0
    · have hv:∃i,u=.var i:=by
        cases u<;>first | exact⟨_,rfl⟩ | (cases hu0;done)
      have hid:i64 u.id:=by obtain⟨i,rfl⟩:=hv;exact ho
      have hup:∀os,(ext s os).heap.get (nid b 2)=some (.map 3 [])→Br Tryz.prog (ext s os) 68 (.map (some (nid b 2))) (iv u.id) (iv 1)=some (setObj (ext s os) (nid b 2) (.map 3 (A5 [u.id]))):=fun os hg=>Lw (ks:=[]) hg hid
      have hd:decide (u.kind=0)=true:=decide_eq_true hu0
      rw[hd,Qu]
      simp only[Uu,OQ,Dx,RG,Ct,hs,Qa,Qb,Qc,Qd,Qe,Qf,Qg,Qh,Qi,Qj,Qk,Ql,Qm,Qn,true_and,and_true,Qo,Qp,Qq,Qr,Qs,Qt,Qu,Qv,Qw,Qx,Qy,Qz,Ra,Rb,Rc,Rd,Re,Rf,Rg,Rh,Ri,Rj,Rk,Rl,Rm,Ya,Yb,Yc,Rn,Ro,Xv,Yd,Ye,Rq,Rs,Rt,Ru,Rw,Rx,Ry,Rz,Wa,Wb,Wc,Wd,We,Wf,Wg,Wh,Wi,Wj,Wl,Wm,Wn,Wp,Wq,Wr,Ws,Wt,Wu,Wv,Ww,Wx,Wy,Wz,Xa,Xb,Xc,Xd,Xe,Xf,Xg,Xh,Xi,Xj,Xk,Xl,Xm,Xn,Xo,Xp,Xq,Xr,ZC,ZF,ZE,ZD,ZH,ZI,List.getElem?_cons_zero,List.getElem?_cons_succ,ZG,ZJ,ZK,ZL,ZB,Nat.reduceAdd,Nat.reduceLT,Nat.reduceLeDiff,decide_true,decide_false,Bool.true_and,Bool.and_true,ZM,Y9,Option.some.injEq,Xs,Xt,Xu,Xv]
      rw[hup _ (by rw[Wg hs (by simp)];rfl),Wn _ hs (by simp)]
      refine hmain [u.id] _ _ _ (by simp) (by simp) (fun x=>?_)
      obtain⟨i,rfl⟩:=hv
      show(x∈[i]∨∃t∈[],_)↔decide (i=x)=true
      simp only[List.mem_singleton,Zj,false_and,exists_false,or_false,decide_eq_true_eq]
      exact eq_comm
    · simp only[hu0,decide_false,Qa,Qb,Qc,Qd,Qe,Qf,Qg,Qh,Qi,Qj,Qk,Ql,Qm,Qn,true_and,and_true,Qo,Qp,Qq,Qr,Qs,Qt,Qu,Qv,Qw,Qx,Qy,Qz,Ra,Rb,Rc,Rd,Re,Rf,Rg,Rh,Ri,Rj,Rk,Rl,Rm,Ya,Yb,Yc,Rn,Ro,Xv,Yd,Ye,Rq,Rs,Rt,Ru,Rw,Rx,Ry,Rz,Wa,Wb,Wc,Wd,We,Wf,Wg,Wh,Wi,Wj,Wl,Wm,Wn,Wp,Wq,Wr,Ws,Wt,Wu,Wv,Ww,Wx,Wy,Wz,Xa,Xb,Xc,Xd,Xe,Xf,Xg,Xh,Xi,Xj,Xk,Xl,Xm,Xn,Xo,Xp,Xq,Xr,ZC,ZF,ZE,ZD,ZH,ZI,List.getElem?_cons_zero,List.getElem?_cons_succ,ZG,ZJ,ZK,ZL,ZB,Nat.reduceAdd,Nat.reduceLT,Nat.reduceLeDiff,decide_true,decide_false,Bool.true_and,Bool.and_true,ZM,Y9,Option.some.injEq,Xs,Xt,Xu,Xv]
      refine hmain [] _ _ _ List.nodup_nil (by simp) (fun x=>?_)
      cases u<;>first | exact absurd rfl hu0 | simp[Tm.kids,Tm.has,or_assoc]
theorem BR(i o:Nat):AU Tryz.prog .eql 25 (.ptr (some (i,o))) (.ptr none)=some (.bool false):=by kernel_rfl
theorem Bq(P:Program)(s:AE)(v:List AV)(x:CX)(t:TypeId)(l:List (CX×Option TypeId)):A6 P s v ((x,some t)::l)=(AO P s t (B8 [] v x)).bind fun u=>(A6 P s v l).bind fun r=>some (u::r):=rfl
theorem WS{S:List Tm}{t:Tm}:decide ((ix S t:Int)<0)=false:=by simp
theorem Xy{S:List Tm}{t:Tm}(h:t∈S):decide ((S.length:Int)≤(ix S t:Int))=false:=by have:=Ep h;simp;omega
def W7(s:AE)(S:List Tm)(t:Tm)(r:AV):Prop:=∃m,r=.agg (A7 S t m)∧Hx s m t∧m<s.next
theorem NG{E:Bt}(hE:A0 E){s:AE}{p:Nat}{S:List Tm}{O:List Nat}(h:AN s p S O){t:Tm}(ht:t∈S){K:AV→AE→Prop}
  (hK:∀r s',B7 s.next s s'→W7 s' S t r→K r s'):WF E 39 [.ptr (some (p,0)),iv (ix S t:Int)] K s:=by
 obtain⟨tv,fi,vm,OT,e⟩:=h.ex
 obtain⟨m,j,r,hvm,rfl,hjO,hjr,hln,_⟩:=e.entry h.ok (Cv ht)
 obtain⟨hva,hmb,_⟩:=e.vars _ _ _ (Cv ht) hvm
 obtain⟨c0,c1,c2,c3,c4,c5,c6,hc,d0,d1,d2,d3,d4,d5,d6⟩:=t.cells7 (h.ok.ok t ht)
 rw[← hjr]at hln
 have hent:A7 S t m=[iv t.kind,iv t.id,iv (part S t 0),iv (part S t 1),iv (part S t 2),.str t.ktext,c0,c1,c2,c3,c4,c5,c6,iv (t.kids.length:Int),iv (t.sz:Int),.map (some m)]:=by
  simp only[A7,BB,hc,ZE,ZD]
 rw[hent]at hln
 refine hE.go MO (by decide) rfl ?_
 have hplt:=e.plt
 have hjlt:=e.lt j hjO
 have hobj:=e.obj
 generalize hs:s.next=b at hplt hjlt hmb hK
 have hs0:s=ext s []:=(AZ s).symm
 have hfin:∀os,K (.agg (A7 S t m)) (ext s os):=fun os=>hK _ _ (by rw[← hs];exact AK) ⟨m,rfl,hva.frame (Wh (by omega)),by rw[Wm,AH];omega⟩
 rw[hent]at hfin
 rw[hs0]
 simp only[XK,K3,K4,NS,VF,G5,hs,BR,Rq,Ru,WS,Xy ht,hplt,hjlt,hobj,Fj,L7,F9,ER,A8 Tryz.underlying59,Ao Tryz.underlying59 ER (Ep ht),hln,Bq,d0,d1,d2,d3,d4,d5,d6,Qa,Qb,Qc,Qd,Qe,Qf,Qg,Qh,Qi,Qj,Qk,Ql,Qm,Qn,true_and,and_true,Qo,Qp,Qq,Qr,Qs,Qt,Qu,Qv,Qw,Qx,Qy,Qz,Ra,Rb,Rc,Rd,Re,Rf,Rg,Rh,Ri,Rj,Rk,Rl,Rm,Ya,Yb,Yc,Rn,Ro,Xv,Yd,Ye,Rq,Rs,Rt,Ru,Rw,Rx,Ry,Rz,Wa,Wb,Wc,Wd,We,Wf,Wg,Wh,Wi,Wj,Wl,Wm,Wn,Wp,Wq,Wr,Ws,Wt,Wu,Wv,Ww,Wx,Wy,Wz,Xa,Xb,Xc,Xd,Xe,Xf,Xg,Xh,Xi,Xj,Xk,Xl,Xm,Xn,Xo,Xp,Xq,Xr,ZC,ZF,ZE,ZD,ZH,ZI,List.getElem?_cons_zero,List.getElem?_cons_succ,ZG,ZJ,ZK,ZL,ZB,Nat.reduceAdd,Nat.reduceLT,Nat.reduceLeDiff,decide_true,decide_false,Bool.true_and,Bool.and_true,ZM,Y9,Option.some.injEq,Xs,Xt,Xu,Xv]
 exact hfin _
section
variable{E:Bt}(hE:A0 E){s:AE}{p:Nat}{S:List Tm}{O:List Nat}(h:AN s p S O){t:Tm}(ht:t∈S){K:AV→AE→Prop}
include hE h ht
theorem T1(hK:∀s',B7 s.next s s'→K (iv (t.sz:Int)) s'):WF E 15 [.ptr (some (p,0)),iv (ix S t:Int)] K s:=by
 refine hE.go MN (by decide) rfl ?_
 simp only[YB,NL,Qa,Qb,Qc,Qd,Qe,Qf,Qg,Qh,Qi,Qj,Qk,Ql,Qm,Qn,true_and,and_true,Qo,Qp,Qq,Qr,Qs,Qt,Qu,Qv,Qw,Qx,Qy,Qz,Ra,Rb,Rc,Rd,Re,Rf,Rg,Rh,Ri,Rj,Rk,Rl,Rm,Ya,Yb,Yc,Rn,Ro,Xv,Yd,Ye,Rq,Rs,Rt,Ru,Rw,Rx,Ry]
 simp only[NM,Qa,Qb,Qc,Qd,Qe,Qf,Qg,Qh,Qi,Qj,Qk,Ql,Qm,Qn,true_and,and_true,Qo,Qp,Qq,Qr,Qs,Qt,Qu,Qv,Qw,Qx,Qy,Qz,Ra,Rb,Rc,Rd,Re,Rf,Rg,Rh,Ri,Rj,Rk,Rl,Rm,Ya,Yb,Yc,Rn,Ro,Xv,Yd,Ye,Rq,Rs,Rt,Ru,Rw,Rx,Ry]
 refine NG hE h ht fun r s' ho he=>?_
 obtain⟨m,rfl,_,_⟩:=he
 obtain⟨c0,c1,c2,c3,c4,c5,c6,hc,_⟩:=t.cells7 (h.ok.ok t ht)
 simp only[Qa,Qb,Qc,Qd,Qe,Qf,Qg,Qh,Qi,Qj,Qk,Ql,Qm,Qn,true_and,and_true,Qo,Qp,Qq,Qr,Qs,Qt,Qu,Qv,Qw,Qx,Qy,Qz,Ra,Rb,Rc,Rd,Re,Rf,Rg,Rh,Ri,Rj,Rk,Rl,Rm,Ya,Yb,Yc,Rn,Ro,Xv,Yd,Ye,Rq,Rs,Rt,Ru,Rw,Rx,Ry,A7,BB,hc,MY,Rz,Wa,Wb,Wc,Wd,We,Wf,Wg,Wh,Wi,Wj,Wl,Wm,Wn,Wp,Wq,Wr,Ws,Wt,Wu,Wv,Ww,Wx,Wy,Wz,Xa,Xb,Xc,Xd,Xe,Xf,Xg,Xh,Xi,Xj,Xk,Xl,Xm,Xn,Xo,Xp,Xq,Xr,ZC,ZF,ZE,ZD,ZH,ZI,List.getElem?_cons_zero,List.getElem?_cons_succ,ZG,ZJ,ZK,ZL,ZB,Nat.reduceAdd,Nat.reduceLT,Nat.reduceLeDiff,decide_true,decide_false,Bool.true_and,Bool.and_true,ZM,Y9,Option.some.injEq,Xs,Xt,Xu,Xv]
 exact hK s' ho
end
def CS(l:List Int):List AV:=l.map iv
theorem Hk(l:List Int):Af (CS l)=true:=by
 induction l with
 | nil=>rfl
 | cons a l ih=>exact ih
theorem DC(l:List Int):(CS l).length=l.length:=ZY ..
theorem Nm{l:List Int}{k:Nat}{x:Int}(h:l[k]? = some x):(CS l)[k]? = some (iv x):=by rw[CS,Zg,h];rfl
def Ap(s:AE)(v:AV)(l:List Int):Prop:=
 (l=[]∧v=.slice none 0 (some 0))∨∃j q cap,v=.slice (some (j,q)) l.length cap∧j<s.next∧Bs (s.heap.get j) q l.length=some (CS l)
theorem Ap.old{s s':AE}{v:AV}{l:List Int}(h:Ap s v l)(k:B7 s.next s s'):Ap s' v l:=by
 rcases h with h | ⟨j,q,cap,h2,h3,h4⟩
 ·exact .inl h
 ·exact .inr ⟨j,q,cap,h2,ZS h3 k.1,by rw[k.2 j h3];exact h4⟩
theorem Ap.at{s:AE}{l:List Int}{v:AV}(h:Ap s v l){k:Nat}{x:Int}(hk:l[k]? = some x):∃j q cap,v=.slice (some (j,q)) l.length cap∧j<s.next∧Cz (s.heap.get j) (q+k)=some (iv x):=by
 rcases h with⟨rfl,rfl⟩ | ⟨j,q,cap,rfl,h1,h2⟩
 ·simp at hk
 ·have hlt:k<l.length:=by
   rcases ZO k l.length with h' | h'
   ·exact h'
   ·rw[ZT h']at hk;cases hk
  exact⟨j,q,cap,rfl,h1,by rw[LR h2 hlt];exact Nm hk⟩
theorem Ap.len{s:AE}{l:List Int}{v:AV}(h:Ap s v l)(s':AE):Ce Tryz.prog s' 27 v=some (iv (l.length:Int)):=by
 rcases h with⟨rfl,rfl⟩ | ⟨j,q,cap,rfl,_⟩<;>exact A8 Tryz.underlying27
theorem Ap.parts{s:AE}{S l:List Tm}{v:AV}(h:Ap s v (l.map fun t=>(ix S t:Int)))(h0:0<l.length):BW s S l v:=by
 have he:CS (l.map fun t=>(ix S t:Int))=Ez S l:=by simp[CS,Ez]
 rcases h with⟨h1,rfl⟩ | ⟨j,q,cap,rfl,h1,h2⟩
 ·exact .inl ⟨by simpa using h1,rfl⟩
 ·rw[he,ZY]at h2
  exact .inr ⟨j,q,cap,by rw[ZY],h0,h1,h2⟩
theorem PF:AW Tryz.prog 27 0 (zipIdx [] [])=some (R 3 1 false []):=by kernel_rfl
theorem RY(j q n:Nat)(cap:Option Nat):AU Tryz.prog .eql 27 (.slice (some (j,q)) n cap) (.slice none 0 (some 0))=some (.bool false):=by kernel_rfl
theorem NB:B6 Tryz.prog 3 1=true:=by kernel_rfl
theorem Hr:BX Tryz.prog 27=true:=by kernel_rfl
theorem Ix{s:AE}{v:AV}{l:List Int}(h:Ap s v l):Co Tryz.prog s 3 1 v=some (l.length,CS l):=by
  rcases h with⟨rfl,rfl⟩ | ⟨j,q,cap,rfl,h1,h2⟩
  · rfl
  · show(Ki s j q l.length 1).bind _=_
    by_cases h0:l.length=0
    · have:l=[]:=Zr h0
      subst this
      rfl
    · rw [show Ki   s j q l.length 1 = A9    s j q (l.length * 1) from by unfold Ki;   rw [Hb      h0]; rfl, Zf,          DD,      h2]
      rfl
theorem Kv{s:AE}{i:Nat}{sp:Bool}{v:AV}{l:List Int}(hi:s.heap.get i=some (R 3 1 sp []))(h:Ap s v l)(h0:0<l.length)(hl:l.length≤1000000):
  As Tryz.prog s [27,27] [.slice (some (i,0)) 0 (some 0),v]=some (.slice (some (s.next,0)) l.length none,newObj s (R 3 1 true (CS l))):=by
 have hsrc:=Ix h
 have hv:∃a n c,v=.slice a n c:=by
  rcases h with⟨_,rfl⟩ | ⟨_,_,_,rfl,_⟩<;>exact⟨_,_,_,rfl⟩
 obtain⟨a,n,c,rfl⟩:=hv
 have h1:Nat.ble (l.length * 8) 1099511627776=true:=BS (by omega)
 have h2:Nat.ble l.length 1099511627776=true:=BS (by omega)
 have h3:Nat.ble l.length 0=false:=Jy (by omega)
 have h4:A9 s i 0 (0 * 1)=some []:=by
  rw[DD,hi];rfl
 simp only[As,Tryz.underlying27,Ho,YA,Option.bind_some,hsrc,Hr,Hk,h1,h2,appTo,Dz,h3,h4,cond_false,Ba,NB,ZD,Xa,Bool.and_self,ZB]
 rfl
theorem K8{E:Bt}(hE:A0 E){s:AE}{v:AV}{l:List Int}(h:Ap s v l)(h0:0<l.length)(hl:l.length≤1000000){K:AV→AE→Prop}
  (hK:K (.slice (some (nid s.next 1,0)) l.length none) (ext s [R 3 1 false [],R 3 1 true (CS l)])):WF E 43 [v] K s:=by
 refine hE.go V5 (by decide) rfl ?_
 have hv:∃j q c,v=.slice (some (j,q)) l.length c:=by
  rcases h with⟨rfl,_⟩ | ⟨_,_,_,rfl,_⟩
  ·cases h0
  ·exact⟨_,_,_,rfl⟩
 obtain⟨j,q,c,rfl⟩:=hv
 generalize hs:s.next=b at hK
 have hs0:s=ext s []:=(AZ s).symm
 have happ:=Kv (s:=ext s [R 3 1 false []]) (i:=nid b 0) (by rw[Wg hs (by simp)];rfl) (h.old AK) h0 hl
 rw[Wm,hs,Wl]at happ
 rw[hs0]
 simp only[Y3,VJ,VK,VL,RY,PF,hs,happ,Qa,Qb,Qc,Qd,Qe,Qf,Qg,Qh,Qi,Qj,Qk,Ql,Qm,Qn,true_and,and_true,Qo,Qp,Qq,Qr,Qs,Qt,Qu,Qv,Qw,Qx,Qy,Qz,Ra,Rb,Rc,Rd,Re,Rf,Rg,Rh,Ri,Rj,Rk,Rl,Rm,Ya,Yb,Yc,Rn,Ro,Xv,Yd,Ye,Rq,Rs,Rt,Ru,Rw,Rx,Ry,Rz,Wa,Wb,Wc,Wd,We,Wf,Wg,Wh,Wi,Wj,Wl,Wm,Wn,Wp,Wq,Wr,Ws,Wt,Wu,Wv,Ww,Wx,Wy,Wz,Xa,Xb,Xc,Xd,Xe,Xf,Xg,Xh,Xi,Xj,Xk,Xl,Xm,Xn,Xo,Xp,Xq,Xr,ZC,ZF,ZE,ZD,ZH,ZI,List.getElem?_cons_zero,List.getElem?_cons_succ,ZG,ZJ,ZK,ZL,ZB,Nat.reduceAdd,Nat.reduceLT,Nat.reduceLeDiff,decide_true,decide_false,Bool.true_and,Bool.and_true,ZM,Y9,Option.some.injEq,Xs,Xt,Xu,Xv]
 exact hK
theorem OC{s:AE}{i o n:Nat}(h:n=0∨n=2∨n=3):Ad Tryz.prog 44 false true false s [.ptr (some (i,o)),iv (n:Int)]=some (.slice (some (i,o)) n (some 3)):=by
 have h0:Ad Tryz.prog 44 false true false s [.ptr (some (i,o)),iv 0]=some (.slice (some (i,o+0 * 1)) 0 (some 3)):=by kernel_rfl
 have h2:Ad Tryz.prog 44 false true false s [.ptr (some (i,o)),iv 2]=some (.slice (some (i,o+0 * 1)) 2 (some 3)):=by kernel_rfl
 have h3:Ad Tryz.prog 44 false true false s [.ptr (some (i,o)),iv 3]=some (.slice (some (i,o+0 * 1)) 3 (some 3)):=by kernel_rfl
 rcases h with rfl | rfl | rfl
 ·exact h0
 ·exact h2
 ·exact h3
theorem KG(t:Tm):t.kids.length=0∨t.kids.length=2∨t.kids.length=3:=by cases t<;>simp[Tm.kids]
def IZ(S:List Tm)(t:Tm):List Int:=t.kids.map fun u=>(ix S u:Int)
theorem D5(S:List Tm)(t:Tm):(IZ S t).length=t.kids.length:=ZY ..
section
variable{E:Bt}(hE:A0 E){s:AE}{p:Nat}{S:List Tm}{O:List Nat}(h:AN s p S O){t:Tm}(ht:t∈S){K:AV→AE→Prop}
include hE h ht
end
theorem LW(xs:List AV)(s:AE):Dq 37 xs s=E4 59 3 3 s xs:=by kernel_rfl
theorem Bl(l:List Nat):BU l l=true:=FH.2 rfl
theorem Q8(a:Int):Nd a a=true:=by rw[DS];simp
theorem TO(a:Nat):Nat.beq a a=true:=Hz rfl
theorem Nc(i o:Nat):Hg (.ptr (some (i,o))) (.ptr (some (i,o)))=true:=by simp[Hg,TO]
theorem QZ:∀n,n<13→Hg (.agg (Tm.con n).cells) (.agg (Tm.con n).cells)=true:=by
 intro n h
 have:n=0∨n=1∨n=2∨n=3∨n=4∨n=5∨n=6∨n=7∨n=8∨n=9∨n=10∨n=11∨n=12:=by omega
 rcases this with rfl | rfl | rfl | rfl | rfl | rfl | rfl | rfl | rfl | rfl | rfl | rfl | rfl<;>rfl
theorem Ck{s:AE}{loc var:List AV}{f:AE→AV→Option AV}{x ans:CX}(h:f s (B8 loc var x)=some (B8 loc var ans))(he:Hg (B8 loc var ans) (B8 loc var ans)=true):Ea s loc var ⟨none,.r1 f,[x],ans⟩=true:=by
 unfold Ea
 show(!true || Vj (f s (B8 loc var x)) (B8 loc var ans))=true
 rw[h]
 exact he
theorem Ob:∀n,n<13→∃tag c1 c2 c3 c5 c6,(Tm.con n).cells=[iv tag,c1,c2,c3,.slice none 0 (some 0),c5,c6]∧decide (tag=5)=false∧c1.isCell=true∧c2.isCell=true∧c3.isCell=true∧c5.isCell=true∧c6.isCell=true:=by
 intro n h
 have:n=0∨n=1∨n=2∨n=3∨n=4∨n=5∨n=6∨n=7∨n=8∨n=9∨n=10∨n=11∨n=12:=by omega
 rcases this with rfl | rfl | rfl | rfl | rfl | rfl | rfl | rfl | rfl | rfl | rfl | rfl | rfl<;>exact⟨_,_,_,_,_,_,rfl,by decide,rfl,rfl,rfl,rfl,rfl⟩
theorem LD:∀n,n<13→CT CV 44 [.agg (Tm.con n).cells]=some (.bool true)∧CT CV 30 [.agg (Tm.con n).cells]=some (.str (Tm.con n).ktext):=by
 intro n h
 have:n=0∨n=1∨n=2∨n=3∨n=4∨n=5∨n=6∨n=7∨n=8∨n=9∨n=10∨n=11∨n=12:=by omega
 rcases this with rfl | rfl | rfl | rfl | rfl | rfl | rfl | rfl | rfl | rfl | rfl | rfl | rfl<;>exact⟨by kernel_rfl,by kernel_rfl⟩
def BZ(s:AE)(O:List Nat):Prop:=C9 s 1 At=true∧1<s.next∧1 ∉ O
theorem DB{s s':AE}{g:Nat}{cells:List AV}(h:s'.heap.get g=s.heap.get g):C9 s' g cells=C9 s g cells:=by unfold C9;rw[h]
theorem BZ.step{s s':AE}{O O':List Nat}(h:BZ s O)(f:C2 O s s')(g:Ac O O' s):BZ s' O':=
 ⟨by rw[DB (f.2 1 h.2.1 h.2.2)];exact h.1,ZS h.2.1 f.1,fun hm=>(g 1 hm).elim h.2.2 (fun hl=>by have:=h.2.1;omega)⟩
theorem BZ.old{s s':AE}{O:List Nat}(h:BZ s O)(k:B7 s.next s s'):BZ s' O:=h.step (k.frO O) (Ac.refl O s)
theorem Mv{E:Bt}(hE:A0 E){s:AE}(hg:C9 s 1 At=true){n:Nat}(hn:n<13){K:AV→AE→Prop}(hK:K (.bool true) s):WF E 44 [.agg (Tm.con n).cells] K s:=by
 refine WF.native (hE.tab _ _ _ (.bool true,s) ?_) hK
 have h1:=(LD n hn).1
 have h2:CN 44 [.agg (Tm.con n).cells] s=(CT CV 44 [.agg (Tm.con n).cells]).bind fun r=>AF (C9 s 1 At) (some (r,s)):=rfl
 unfold Dq
 rw[h2,h1,Option.bind_some,hg]
 rfl
theorem FI{E:Bt}(hE:A0 E){s:AE}(hg:C9 s 1 At=true){n:Nat}(hn:n<13){K:AV→AE→Prop}(hK:K (.str (Tm.con n).ktext) s):WF E 30 [.agg (Tm.con n).cells] K s:=by
 refine WF.native (hE.tab _ _ _ (.str (Tm.con n).ktext,s) ?_) hK
 have h1:=(LD n hn).2
 have h2:CN 30 [.agg (Tm.con n).cells] s=(CT CV 30 [.agg (Tm.con n).cells]).bind fun r=>AF (C9 s 1 At) (some (r,s)):=rfl
 unfold Dq
 rw[h2,h1,Option.bind_some,hg]
 rfl
theorem EA{E:Bt}(hE:A0 E){s s1:AE}{p:Nat}{S:List Tm}{O:List Nat}(h:AN s p S O)(hsm:S.length<100000)(ho1:B7 s.next s s1)(u:Tm)(hk:∀k∈u.kids,k∈S)(ho:u.ok){pv:AV}(hp:BW s1 S u.kids pv){K:AV→AE→Prop}
  (hK:∀s' O',AN s' p (push S u) O'→C2 O s s'→Ac O O' s→K (iv (ix (push S u) u:Int)) s'):
  WF E 32 [.ptr (some (p,0)),.agg [iv u.kind,iv u.id,iv 0,iv 0,iv 0,.str u.ktext],.agg u.cells,pv] K s1:=by
 refine(T9 hE (h.old ho1) hsm u hk ho hp).mono ?_
 rintro r s' ⟨rfl,O',h1,h2,h3⟩
 exact hK s' O' h1 ((ho1.frO O).trans h2 (Ac.refl O s)) (Ac.trans (Ac.refl O s) h3 ho1.1)
theorem XC:Dy Tryz.prog 39=some false:=by kernel_rfl
theorem Kx(a b:Int):Ab Tryz.prog 65 (zipIdx [0,1] [iv a,iv b])=some (.agg [iv a,iv b,iv 0,iv 0,iv 0,.str []]):=by kernel_rfl
theorem NK(a:Int):Ab Tryz.prog 65 (zipIdx [0] [iv a])=some (.agg [iv a,iv 0,iv 0,iv 0,iv 0,.str []]):=by kernel_rfl
theorem DQ(a:Int)(l:List Nat):Ab Tryz.prog 65 (zipIdx [0,3] [iv a,.str l])=some (.agg [iv a,iv 0,iv 0,iv 0,iv 0,.str l]):=by kernel_rfl
theorem CG:Ab Tryz.prog 43 (zipIdx [] [])=some (.agg Tm.nullC):=by kernel_rfl
theorem PG(a b:Int):AW Tryz.prog 27 2 (zipIdx [0,1] [iv a,iv b])=some (R 3 1 false (CS [a,b])):=by kernel_rfl
theorem PH(a b c:Int):AW Tryz.prog 27 3 (zipIdx [0,1,2] [iv a,iv b,iv c])=some (R 3 1 false (CS [a,b,c])):=by kernel_rfl
theorem EB(a:Int):AW Tryz.prog 27 1 (zipIdx [0] [iv a])=some (R 3 1 false (CS [a])):=by kernel_rfl
theorem SO(a:Int):Dp true (iv a) [iv 0]=some (iv (max a 0)):=by
 show AF true (some (iv (bif KP a 0 then 0 else a)))=_
 rw[Cg]
 show some (iv _)=_
 by_cases h:a<(0:Int)
 ·simp only[h,decide_true,cond_true];rw[Int.max_eq_right (by omega)]
 ·simp only[h,decide_false,cond_false];rw[Int.max_eq_left (by omega)]
section
variable{E:Bt}(hE:A0 E){s:AE}{p:Nat}{S:List Tm}{O:List Nat}(h:AN s p S O)(hsm:S.length<100000){K:AV→AE→Prop}
include hE h hsm
theorem UA{i:Int}(hi:i64 i)(hK:∀s' O',AN s' p (push S (.var i)) O'→C2 O s s'→Ac O O' s→K (iv (ix (push S (.var i)) (.var i):Int)) s'):WF E 11 [.ptr (some (p,0)),iv i] K s:=by
 refine hE.go QV (by decide) rfl ?_
 simp only[YK,Pn,Po,UN,BR,Kx,CG,Qa,Qb,Qc,Qd,Qe,Qf,Qg,Qh,Qi,Qj,Qk,Ql,Qm,Qn,true_and,and_true,Qo,Qp,Qq,Qr,Qs,Qt,Qu,Qv,Qw,Qx,Qy,Qz,Ra,Rb,Rc,Rd,Re,Rf,Rg,Rh,Ri,Rj,Rk,Rl,Rm,Ya,Yb,Yc,Rn,Ro,Xv,Yd,Ye,Rq,Rs,Rt,Ru,Rw,Rx,Ry,Rz,Wa,Wb,Wc,Wd,We,Wf,Wg,Wh,Wi,Wj,Wl,Wm,Wn,Wp,Wq,Wr,Ws,Wt,Wu,Wv,Ww,Wx,Wy,Wz,Xa,Xb,Xc,Xd,Xe,Xf,Xg,Xh,Xi,Xj,Xk,Xl,Xm,Xn,Xo,Xp,Xq,Xr,ZC,ZF,ZE,ZD,ZH,ZI,List.getElem?_cons_zero,List.getElem?_cons_succ,ZG,ZJ,ZK,ZL,ZB,Nat.reduceAdd,Nat.reduceLT,Nat.reduceLeDiff,decide_true,decide_false,Bool.true_and,Bool.and_true,ZM,Y9,Option.some.injEq,Xs,Xt,Xu,Xv]
 refine EA hE h hsm (B7.refl _ _) (.var i) (fun _ h=>by cases h) hi (.inl ⟨rfl,rfl⟩) fun s' O' h1 h2 h3=>?_
 simp only[Qa,Qb,Qc,Qd,Qe,Qf,Qg,Qh,Qi,Qj,Qk,Ql,Qm,Qn,true_and,and_true,Qo,Qp,Qq,Qr,Qs,Qt,Qu,Qv,Qw,Qx,Qy,Qz,Ra,Rb,Rc,Rd,Re,Rf,Rg,Rh,Ri,Rj,Rk,Rl,Rm,Ya,Yb,Yc,Rn,Ro,Xv,Yd,Ye,Rq,Rs,Rt,Ru,Rw,Rx,Ry]
 exact hK s' O' h1 h2 h3
theorem Kl{i:Int}(hi:i64 i)(hK:∀s' O',AN s' p (push S (.bnd (max i 0))) O'→C2 O s s'→Ac O O' s→K (iv (ix (push S (.bnd (max i 0))) (.bnd (max i 0)):Int)) s'):WF E 21 [.ptr (some (p,0)),iv i] K s:=by
 refine hE.go Vt (by decide) rfl ?_
 simp only[Ys,Ua,Ub,Uc,BR,Kx,CG,SO,Qa,Qb,Qc,Qd,Qe,Qf,Qg,Qh,Qi,Qj,Qk,Ql,Qm,Qn,true_and,and_true,Qo,Qp,Qq,Qr,Qs,Qt,Qu,Qv,Qw,Qx,Qy,Qz,Ra,Rb,Rc,Rd,Re,Rf,Rg,Rh,Ri,Rj,Rk,Rl,Rm,Ya,Yb,Yc,Rn,Ro,Xv,Yd,Ye,Rq,Rs,Rt,Ru,Rw,Rx,Ry,Rz,Wa,Wb,Wc,Wd,We,Wf,Wg,Wh,Wi,Wj,Wl,Wm,Wn,Wp,Wq,Wr,Ws,Wt,Wu,Wv,Ww,Wx,Wy,Wz,Xa,Xb,Xc,Xd,Xe,Xf,Xg,Xh,Xi,Xj,Xk,Xl,Xm,Xn,Xo,Xp,Xq,Xr,ZC,ZF,ZE,ZD,ZH,ZI,List.getElem?_cons_zero,List.getElem?_cons_succ,ZG,ZJ,ZK,ZL,ZB,Nat.reduceAdd,Nat.reduceLT,Nat.reduceLeDiff,decide_true,decide_false,Bool.true_and,Bool.and_true,ZM,Y9,Option.some.injEq,Xs,Xt,Xu,Xv]
 refine EA hE h hsm (B7.refl _ _) (.bnd (max i 0)) (fun _ h=>by cases h) ⟨by omega,by unfold i64 at *;omega⟩ (.inl ⟨rfl,rfl⟩) fun s' O' h1 h2 h3=>?_
 simp only[Qa,Qb,Qc,Qd,Qe,Qf,Qg,Qh,Qi,Qj,Qk,Ql,Qm,Qn,true_and,and_true,Qo,Qp,Qq,Qr,Qs,Qt,Qu,Qv,Qw,Qx,Qy,Qz,Ra,Rb,Rc,Rd,Re,Rf,Rg,Rh,Ri,Rj,Rk,Rl,Rm,Ya,Yb,Yc,Rn,Ro,Xv,Yd,Ye,Rq,Rs,Rt,Ru,Rw,Rx,Ry]
 exact hK s' O' h1 h2 h3
theorem OH{n:Nat}(hn:n<13)(hg:BZ s O)(hK:∀s' O',AN s' p (push S (.con n)) O'→C2 O s s'→Ac O O' s→K (iv (ix (push S (.con n)) (.con n):Int)) s'):WF E 22 [.ptr (some (p,0)),.agg (Tm.con n).cells] K s:=by
 obtain⟨tag,c1,c2,c3,c5,c6,hc,h5,d1,d2,d3,d5,d6⟩:=Ob n hn
 have hp:=fun os (K:AV→AE→Prop)=>EA (K:=K) hE h hsm (AK (os:=os)) (.con n) (fun _ h=>by cases h) hn (.inl ⟨rfl,rfl⟩)
 have hr:=fun(K:AV→AE→Prop) os=>Mv (K:=K) hE (s:=ext s os) (hg.old AK).1 hn
 have ht:=fun(K:AV→AE→Prop) os=>FI (K:=K) hE (s:=ext s os) (hg.old AK).1 hn
 have hce:=QZ n hn
 rw[hc]at hr ht hce
 refine hE.go QY (by decide) rfl ?_
 generalize hs:s.next=b
 have hs0:s=ext s []:=(AZ s).symm
 rw[hs0]
 simp only[YN,Pt,Pu,Pv,hc,BR,hs,FR,FM,Qa,Qb,Qc,Qd,Qe,Qf,Qg,Qh,Qi,Qj,Qk,Ql,Qm,Qn,true_and,and_true,Qo,Qp,Qq,Qr,Qs,Qt,Qu,Qv,Qw,Qx,Qy,Qz,Ra,Rb,Rc,Rd,Re,Rf,Rg,Rh,Ri,Rj,Rk,Rl,Rm,Ya,Yb,Yc,Rn,Ro,Xv,Yd,Ye,Rq,Rs,Rt,Ru,Rw,Rx,Ry,Rz,Wa,Wb,Wc,Wd,We,Wf,Wg,Wh,Wi,Wj,Wl,Wm,Wn,Wp,Wq,Wr,Ws,Wt,Wu,Wv,Ww,Wx,Wy,Wz,Xa,Xb,Xc,Xd,Xe,Xf,Xg,Xh,Xi,Xj,Xk,Xl,Xm,Xn,Xo,Xp,Xq,Xr,ZC,ZF,ZE,ZD,ZH,ZI,List.getElem?_cons_zero,List.getElem?_cons_succ,ZG,ZJ,ZK,ZL,ZB,Nat.reduceAdd,Nat.reduceLT,Nat.reduceLeDiff,decide_true,decide_false,Bool.true_and,Bool.and_true,ZM,Y9,Option.some.injEq,Xs,Xt,Xu,Xv]
 refine hr _ _ ?_
 simp only[Ry,Bool.not_true,Bool.not_false,Rw,Rs,h5,Dx,XC,MX,RD,hs,A8 Tryz.underlying39,Qa,Qb,Qc,Qd,Qe,Qf,Qg,Qh,Qi,Qj,Qk,Ql,Qm,Qn,true_and,and_true,Qo,Qp,Qq,Qr,Qs,Qt,Qu,Qv,Qw,Qx,Qy,Qz,Ra,Rb,Rc,Rd,Re,Rf,Rg,Rh,Ri,Rj,Rk,Rl,Rm,Ya,Yb,Yc,Rn,Ro,Xv,Yd,Ye,Rq,Rs,Rt,Ru,Rw,Rx,Ry,Rz,Wa,Wb,Wc,Wd,We,Wf,Wg,Wh,Wi,Wj,Wl,Wm,Wn,Wp,Wq,Wr,Ws,Wt,Wu,Wv,Ww,Wx,Wy,Wz,Xa,Xb,Xc,Xd,Xe,Xf,Xg,Xh,Xi,Xj,Xk,Xl,Xm,Xn,Xo,Xp,Xq,Xr,ZC,ZF,ZE,ZD,ZH,ZI,List.getElem?_cons_zero,List.getElem?_cons_succ,ZG,ZJ,ZK,ZL,ZB,Nat.reduceAdd,Nat.reduceLT,Nat.reduceLeDiff,decide_true,decide_false,Bool.true_and,Bool.and_true,ZM,Y9,Option.some.injEq,Xs,Xt,Xu,Xv]
 have hgt:decide ((0:Int)<((0:Nat):Int))=false:=rfl
 simp only[hgt,H1,FR,FM,hs,Qa,Qb,Qc,Qd,Qe,Qf,Qg,Qh,Qi,Qj,Qk,Ql,Qm,Qn,true_and,and_true,Qo,Qp,Qq,Qr,Qs,Qt,Qu,Qv,Qw,Qx,Qy,Qz,Ra,Rb,Rc,Rd,Re,Rf,Rg,Rh,Ri,Rj,Rk,Rl,Rm,Ya,Yb,Yc,Rn,Ro,Xv,Yd,Ye,Rq,Rs,Rt,Ru,Rw,Rx,Ry,Rz,Wa,Wb,Wc,Wd,We,Wf,Wg,Wh,Wi,Wj,Wl,Wm,Wn,Wp,Wq,Wr,Ws,Wt,Wu,Wv,Ww,Wx,Wy,Wz,Xa,Xb,Xc,Xd,Xe,Xf,Xg,Xh,Xi,Xj,Xk,Xl,Xm,Xn,Xo,Xp,Xq,Xr,ZC,ZF,ZE,ZD,ZH,ZI,List.getElem?_cons_zero,List.getElem?_cons_succ,ZG,ZJ,ZK,ZL,ZB,Nat.reduceAdd,Nat.reduceLT,Nat.reduceLeDiff,decide_true,decide_false,Bool.true_and,Bool.and_true,ZM,Y9,Option.some.injEq,Xs,Xt,Xu,Xv]
 refine ht _ _ ?_
 refine⟨⟨Ck ?_ hce,trivial⟩,?_⟩
 ·simp only[Qa,Qb,Qc,Qd,Qe,Qf,Qg,Qh,Qi,Qj,Qk,Ql,Qm,Qn,true_and,and_true,Qo,Qp,Qq,Qr,Qs,Qt,Qu,Qv,Qw,Qx,Qy,Qz,Ra,Rb,Rc,Rd,Re,Rf,Rg,Rh,Ri,Rj,Rk,Rl,Rm,Ya,Yb,Yc,Rn,Ro,Xv,Yd,Ye,Rq,Rs,Rt,Ru,Rw,Rx,Ry,FR,FM,hs,Rz,Wa,Wb,Wc,Wd,We,Wf,Wg,Wh,Wi,Wj,Wl,Wm,Wn,Wp,Wq,Wr,Ws,Wt,Wu,Wv,Ww,Wx,Wy,Wz,Xa,Xb,Xc,Xd,Xe,Xf,Xg,Xh,Xi,Xj,Xk,Xl,Xm,Xn,Xo,Xp,Xq,Xr,ZC,ZF,ZE,ZD,ZH,ZI,List.getElem?_cons_zero,List.getElem?_cons_succ,ZG,ZJ,ZK,ZL,ZB,Nat.reduceAdd,Nat.reduceLT,Nat.reduceLeDiff,decide_true,decide_false,Bool.true_and,Bool.and_true,ZM,Y9,Option.some.injEq,Xs,Xt,Xu,Xv]
 simp only[DQ,Qa,Qb,Qc,Qd,Qe,Qf,Qg,Qh,Qi,Qj,Qk,Ql,Qm,Qn,true_and,and_true,Qo,Qp,Qq,Qr,Qs,Qt,Qu,Qv,Qw,Qx,Qy,Qz,Ra,Rb,Rc,Rd,Re,Rf,Rg,Rh,Ri,Rj,Rk,Rl,Rm,Ya,Yb,Yc,Rn,Ro,Xv,Yd,Ye,Rq,Rs,Rt,Ru,Rw,Rx,Ry,Rz,Wa,Wb,Wc,Wd,We,Wf,Wg,Wh,Wi,Wj,Wl,Wm,Wn,Wp,Wq,Wr,Ws,Wt,Wu,Wv,Ww,Wx,Wy,Wz,Xa,Xb,Xc,Xd,Xe,Xf,Xg,Xh,Xi,Xj,Xk,Xl,Xm,Xn,Xo,Xp,Xq,Xr,ZC,ZF,ZE,ZD,ZH,ZI,List.getElem?_cons_zero,List.getElem?_cons_succ,ZG,ZJ,ZK,ZL,ZB,Nat.reduceAdd,Nat.reduceLT,Nat.reduceLeDiff,decide_true,decide_false,Bool.true_and,Bool.and_true,ZM,Y9,Option.some.injEq,Xs,Xt,Xu,Xv]
 rw[← hc]
 refine hp _ _ fun s' O' h1 h2 h3=>?_
 simp only[Qa,Qb,Qc,Qd,Qe,Qf,Qg,Qh,Qi,Qj,Qk,Ql,Qm,Qn,true_and,and_true,Qo,Qp,Qq,Qr,Qs,Qt,Qu,Qv,Qw,Qx,Qy,Qz,Ra,Rb,Rc,Rd,Re,Rf,Rg,Rh,Ri,Rj,Rk,Rl,Rm,Ya,Yb,Yc,Rn,Ro,Xv,Yd,Ye,Rq,Rs,Rt,Ru,Rw,Rx,Ry]
 exact hK s' O' h1 h2 h3
theorem WQ(hK:K (iv (S.length:Int)) s):WF E 10 [.ptr (some (p,0))] K s:=by
 have _hs:=hsm
 obtain⟨tv,fi,vm,OT,e⟩:=h.ex
 obtain⟨a,c,htv,_⟩:=e.buf.slice
 subst htv
 refine hE.go QU (by decide) rfl ?_
 simp only[YJ,Pl,Pm,UL,BR,e.obj,L7,Fj,A8 Tryz.underlying59,Qa,Qb,Qc,Qd,Qe,Qf,Qg,Qh,Qi,Qj,Qk,Ql,Qm,Qn,true_and,and_true,Qo,Qp,Qq,Qr,Qs,Qt,Qu,Qv,Qw,Qx,Qy,Qz,Ra,Rb,Rc,Rd,Re,Rf,Rg,Rh,Ri,Rj,Rk,Rl,Rm,Ya,Yb,Yc,Rn,Ro,Xv,Yd,Ye,Rq,Rs,Rt,Ru,Rw,Rx,Ry,Rz,Wa,Wb,Wc,Wd,We,Wf,Wg,Wh,Wi,Wj,Wl,Wm,Wn,Wp,Wq,Wr,Ws,Wt,Wu,Wv,Ww,Wx,Wy,Wz,Xa,Xb,Xc,Xd,Xe,Xf,Xg,Xh,Xi,Xj,Xk,Xl,Xm,Xn,Xo,Xp,Xq,Xr,ZC,ZF,ZE,ZD,ZH,ZI,List.getElem?_cons_zero,List.getElem?_cons_succ,ZG,ZJ,ZK,ZL,ZB,Nat.reduceAdd,Nat.reduceLT,Nat.reduceLeDiff,decide_true,decide_false,Bool.true_and,Bool.and_true,ZM,Y9,Option.some.injEq,Xs,Xt,Xu,Xv]
 exact hK
end
def AP:Tm:=.con 0
def Kp(n:Nat)(x:Int):Bool:=decide (0≤x) && decide (x<n)
def BD(S:List Tm)(x:Int):Tm:=if Kp S.length x then S.getD x.toNat AP else AP
def EV(n:Nat):List Tm→List Int→List Tm
 | S,[]=>S
 | S,x::l=>EV n (if Kp n x then S else push S AP) l
theorem DX{S:List Tm}{u:Tm}:u∈push S u:=by
 unfold push
 split
 ·assumption
 ·simp
theorem Iq{S:List Tm}{u t:Tm}(h:t∈S):t∈push S u:=by
 unfold push
 split
 ·exact h
 ·exact Z3 _ h
theorem Nn{S:List Tm}{u t:Tm}(h:t∈S):ix (push S u) t=ix S t:=by
 unfold push
 split
 ·rfl
 ·exact DG _ h
theorem Et{S:List Tm}{u:Tm}:(push S u).length≤S.length+1:=by
 unfold push
 split<;>simp
theorem Je{S:List Tm}:push (push S AP) AP=push S AP:=if_pos DX
theorem Df{n:Nat}{S:List Tm}:∀l,EV n (push S AP) l=push S AP
 | []=>rfl
 | x::l=>by
  unfold EV
  split
  ·exact Df l
  ·rw[Je];exact Df l
theorem I0{n:Nat}{S:List Tm}:∀l,EV n S l=S∨EV n S l=push S AP
 | []=>.inl rfl
 | x::l=>by
  unfold EV
  split
  ·exact I0 l
  ·exact .inr (Df l)
theorem Km{n:Nat}{S:List Tm}:∀ {l},(∀x∈l,Kp n x=true)→EV n S l=S
 | [],_=>rfl
 | x::l,h=>by
  unfold EV
  rw[if_pos (h x ZU)]
  exact Km fun y hy=>h y (ZQ _ hy)
theorem T8{n:Nat}{S:List Tm}{l:List Int}{t:Tm}(h:t∈S):t∈EV n S l:=by
 rcases I0 (n:=n) (S:=S) l with e | e<;>rw[e]
 ·exact h
 ·exact Iq h
theorem WK{n:Nat}{S:List Tm}{l:List Int}{t:Tm}(h:t∈S):ix (EV n S l) t=ix S t:=by
 rcases I0 (n:=n) (S:=S) l with e | e<;>rw[e]
 exact Nn h
theorem FJ{S:List Tm}{x:Int}(h:Kp S.length x=true):BD S x∈S∧(S.Nodup→(ix S (BD S x):Int)=x):=by
 unfold Kp at h
 simp only[Bool.and_eq_true,decide_eq_true_eq]at h
 have hlt:x.toNat<S.length:=by omega
 have he:BD S x=S[x.toNat]:=by
  unfold BD Kp
  simp only[h.1,h.2,decide_true,Bool.and_self,if_true]
  rw[Z4,ZP hlt];rfl
 refine⟨by rw[he];exact List.getElem_mem _,fun hn=>?_⟩
 rw[he,Vd hn (ZP hlt)]
 omega
theorem OJ{S:List Tm}{t:Tm}(h:t∈S):BD S (ix S t:Int)=t∧Kp S.length (ix S t:Int)=true:=by
 have hl:=Ep h
 have h1:Kp S.length (ix S t:Int)=true:=by simp[Kp];omega
 refine⟨?_,h1⟩
 unfold BD
 rw[if_pos h1,Z4,Int.toNat_natCast,Cv h];rfl
theorem I2       {n : Nat} {S : List Tm} : ∀ {l : List Int}, n = S.length → ∀ x ∈ l, BD   S x ∈ EV  n S l
  | [],_,x,h=>by cases h
  | y :: l, hn, x, h => by
    by_cases hi:Kp S.length x=true
    · exact T8 (FJ hi).1
    · have ht:BD S x=AP:=by unfold BD;rw[if_neg hi]
      rw[ht]
      have:∀l,x∈l→AP∈EV n S l:=by
        intro l
        induction l with
        | nil=>intro h;cases h
        | cons z l ih =>
          intro h
          unfold EV
          rcases Zd.1 h with rfl | h
          · rw[hn,if_neg hi,Df];exact DX
          · split
            · exact ih h
            · rw[Df];exact DX
      exact this _ h
theorem Tc(done rest:List Int)(x y:Int):(CS (done++x::rest)).set done.length (iv y)=CS (done++y::rest):=by
 simp[CS,List.set_append]
section
variable{E:Bt}(hE:A0 E){s0:AE}{O:List Nat}{p:Nat}{S:List Tm}(hS:S.length<99990){j len:Nat}(hlen:len≤1000)(a1 a2:AV)(hj0:s0.next≤j)(hg0:1<s0.next)
include hE hS hlen hj0 hg0
theorem M7         {Q : Au   → Prop} {marks : List Nat} : ∀ (rest done : List Int) (S1 : List Tm) (O1 : List Nat) (s1 : AE)  (x5 x6 x10 x11 : AV),
    (S1=S∨S1=push S AP)→AN s1 p S1 O1→BZ s1 O1→C2 O s0 s1→Ac O O1 s0→s1.heap.get j=some (R 3 1 true (CS (done++rest)))→j<s1.next→j ∉ O1→(done++rest).length=len →
    (∀ (s2:AE) (O2:List Nat) (y5 y6 y9 y10 y11:AV),AN s2 p (EV S.length S1 rest) O2→BZ s2 O2→C2 O s0 s2→Ac O O2 s0 →
      s2.heap.get j=some (R 3 1 true (CS (done++rest.map fun x=>(ix (EV S.length S1 rest) (BD S x):Int))))→j<s2.next→j ∉ O2 →
      A2 0 Q ⟨.exit 0,[.ptr (some (p,0)),a1,a2,iv (S.length:Int),.slice (some (j,0)) len none,y5,y6,.slice (some (j,0)) len none,iv (len:Int),y9,y10,y11],marks,s2⟩) →
    WC E none (Ai.loop H4) (A2 0 Q) [.ptr (some (p,0)),a1,a2,iv (S.length:Int),.slice (some (j,0)) len none,x5,x6,.slice (some (j,0)) len none,iv (len:Int),iv (done.length:Int),x10,x11] marks s1:=by
  intro rest
  induction rest with
  | nil =>
    intro done S1 O1 s1 x5 x6 x10 x11 hS1 hst hg hf hgr hj hjl hjO hl hq
    refine WC.loop' ?_
    have hlt:¬ ((done.length:Int)<(len:Int)):=by rw[← hl];simp
    simp only[H4,K1,hlt,decide_false,Qa,Qb,Qc,Qd,Qe,Qf,Qg,Qh,Qi,Qj,Qk,Ql,Qm,Qn,true_and,and_true,Qo,Qp,Qq,Qr,Qs,Qt,Qu,Qv,Qw,Qx,Qy,Qz,Ra,Rb,Rc,Rd,Re,Rf,Rg,Rh,Ri,Rj,Rk,Rl,Rm,Ya,Yb,Yc,Rn,Ro,Xv,Yd,Ye,Rq,Rs,Rt,Ru,Rw,Rx,Ry,Rq]
    exact hq s1 O1 _ _ _ _ _ hst hg hf hgr hj hjl hjO
  | cons x rest ih =>
    intro done S1 O1 s1 x5 x6 x10 x11 hS1 hst hg hf hgr hj hjl hjO hl hq
    refine WC.loop' ?_
    obtain⟨L,hL⟩:∃L,L=Ai.loop H4:=⟨_,rfl⟩
    rw[← hL]
    have hlt:((done.length:Int)<(len:Int)):=by rw[← hl];simp;omega
    have hltn:done.length<len:=by omega
    have hld:Cz (s1.heap.get j) done.length=some (iv x):=by
      rw[hj,Wi];exact Nm (by simp)
    have hadd:i64 ((done.length:Int)+1):=by unfold i64;omega
    have hlen1:(done++[x]).length=done.length+1:=by simp
    have hS1l:S1.length<99991:=by
      rcases hS1 with rfl | rfl
      · omega
      · have:=Et (S:=S) (u:=AP);omega
    have hsub:∀t∈S,t∈S1∧ix S1 t=ix S t:=fun t ht=>by
      rcases hS1 with rfl | rfl
      · exact⟨ht,rfl⟩
      · exact⟨Iq ht,Nn ht⟩
    by_cases hi:Kp S.length x=true
    · have h1 : decide (x < 0) = false := by unfold Kp  at hi; simp only [Bool.and_eq_true, decide_eq_true_eq] at hi; simp; omega
      have h2:decide ((S.length:Int)≤x)=false:=by unfold Kp at hi;simp only[Bool.and_eq_true,decide_eq_true_eq]at hi;simp;omega
      have hth:EV S.length S1 (x::rest)=EV S.length S1 rest:=by conv=>lhs;unfold EV;rw[if_pos hi]
      have hSn:S.Nodup:=by
        rcases hS1 with rfl | rfl
        · exact hst.ok.nd
        · have := hst.ok.nd; unfold push at this; split at this
          · exact this
          · exact(List.nodup_append.1 this).1
      have hx:(ix (EV S.length S1 rest) (BD S x):Int)=x:=by
        rw[WK (hsub _ (FJ hi).1).1,(hsub _ (FJ hi).1).2]
        exact(FJ hi).2 hSn
      have:=ih (done++[x]) S1 O1 s1 (iv (done.length:Int)) (iv x) (.bool true) (.bool false) hS1 hst hg hf hgr (by rw[hj];simp) hjl hjO (by rw[← hl];simp) (fun s2 O2 y5 y6 y9 y10 y11 g1 g2 g3 g4 g5 g6 g7=>hq s2 O2 y5 y6 y9 y10 y11 (by rw[hth];exact g1) g2 g3 g4 (by rw[g5,hth,ZV,hx];simp) g6 g7)
      rw[← hL,hlen1]at this
      simp only[H4,K1,NN,NO,NP,hlt,decide_true,Qa,Qb,Qc,Qd,Qe,Qf,Qg,Qh,Qi,Qj,Qk,Ql,Qm,Qn,true_and,and_true,Qo,Qp,Qq,Qr,Qs,Qt,Qu,Qv,Qw,Qx,Qy,Qz,Ra,Rb,Rc,Rd,Re,Rf,Rg,Rh,Ri,Rj,Rk,Rl,Rm,Ya,Yb,Yc,Rn,Ro,Xv,Yd,Ye,Rq,Rs,Rt,Ru,Rw,Rx,Ry,Rq,Ru,h1,h2,Ao Tryz.underlying27 Ho hltn,Dx,hld,Zf,By _ _ _ _ hadd,Rz,Wa,Wb,Wc,Wd,We,Wf,Wg,Wh,Wi,Wj,Wl,Wm,Wn,Wp,Wq,Wr,Ws,Wt,Wu,Wv,Ww,Wx,Wy,Wz,Xa,Xb,Xc,Xd,Xe,Xf,Xg,Xh,Xi,Xj,Xk,Xl,Xm,Xn,Xo,Xp,Xq,Xr,ZC,ZF,ZE,ZD,ZH,ZI,List.getElem?_cons_zero,List.getElem?_cons_succ,ZG,ZJ,ZK,ZL,ZB,Nat.reduceAdd,Nat.reduceLT,Nat.reduceLeDiff,decide_true,decide_false,Bool.true_and,Bool.and_true,ZM,Y9,Option.some.injEq,Xs,Xt,Xu,Xv]
      exact this
    · have h12:decide (x<0)=true∨decide (x<0)=false∧decide ((S.length:Int)≤x)=true:=by
        unfold Kp at hi;simp only[Bool.and_eq_true,decide_eq_true_eq]at hi
        rcases Int.lt_or_le x 0 with h' | h'
        · exact .inl (decide_eq_true h')
        · exact .inr ⟨by simp;omega,by simp;omega⟩
      have hth:EV S.length S1 (x::rest)=push S1 AP:=by
        conv=>lhs;unfold EV
        rw[if_neg hi]
        exact Df rest
      have hth2:EV S.length (push S1 AP) rest=push S1 AP:=Df rest
      have htm:BD S x=AP:=by unfold BD;rw[if_neg hi]
      have hS2:push S1 AP=S∨push S1 AP=push S AP:=by
        rcases hS1 with rfl | rfl
        · exact .inr rfl
        · exact .inr Je
      have hcall:∀ (K:AV→AE→Prop),(∀s' O',AN s' p (push S1 AP) O'→C2 O1 s1 s'→Ac O1 O' s1→K (iv (ix (push S1 AP) AP:Int)) s')→WF E 22 [.ptr (some (p,0)),.agg Tm.nullC] K s1:=fun K hK =>
        OH hE hst (by omega) (n:=0) (by omega) hg hK
      have hafter:∀s' O' (g1:AN s' p (push S1 AP) O') (g2:C2 O1 s1 s') (g3:Ac O1 O' s1) (y10:AV),
          WC E none L (A2 0 Q) [.ptr (some (p,0)),a1,a2,iv (S.length:Int),.slice (some (j,0)) len none,iv (done.length:Int),iv x,.slice (some (j,0)) len none,iv (len:Int),iv ((done.length:Int)+1),y10,.bool true] marks
            (setObj s' j (R 3 1 true (CS (done++(ix (push S1 AP) AP:Int)::rest)))):=by
        intro s' O' g1 g2 g3 y10
        have hjO':j ∉ O':=fun hm=>(g3 j hm).elim hjO (fun hl=>by omega)
        have hfr:C2 O s0 s':=hf.trans g2 hgr
        have hst2:AN (setObj s' j (R 3 1 true (CS (done++(ix (push S1 AP) AP:Int)::rest)))) p (push S1 AP) O':=by
          refine g1.frame (Y9 _) fun k hk=>Wr _ fun e=>hjO' (e▸hk)
        have hg2:BZ (setObj s' j (R 3 1 true (CS (done++(ix (push S1 AP) AP:Int)::rest)))) O':=by
          obtain⟨q1,q2,q3⟩:=hg.step g2 g3
          exact⟨by rw[DB (Wr _ (by omega))];exact q1,q2,q3⟩
        have:=ih (done++[(ix (push S1 AP) AP:Int)]) (push S1 AP) O' _ (iv (done.length:Int)) (iv x) y10 (.bool true) hS2 hst2 hg2 ⟨hfr.1,fun k hk hkO=>by rw[Wr _ (by omega)];exact hfr.2 k hk hkO⟩ (hgr.trans g3 hf.1) (by rw[Wq];simp) (by rw[Wp];exact ZS hjl g2.1) hjO' (by rw[← hl];simp) (fun s2 O2 y5 y6 y9 y10 y11 k1 k2 k3 k4 k5 k6 k7=>hq s2 O2 y5 y6 y9 y10 y11 (by rw[hth,← hth2];exact k1) k2 k3 k4 (by rw[k5,hth,hth2,ZV,htm];simp) k6 k7)
        rw[← hL,show(done++[(ix (push S1 AP) AP:Int)]).length=done.length+1 from by simp]at this
        exact this
      have hrest:∀ (y10:AV) s' O',AN s' p (push S1 AP) O'→C2 O1 s1 s'→Ac O1 O' s1 →
          Qd [] Gc.push [.agg Tm.nullC] [.ptr (some (p,0)),a1,a2,iv (S.length:Int),.slice (some (j,0)) len none,iv (done.length:Int),iv x,.slice (some (j,0)) len none,iv (len:Int),iv (done.length:Int),y10,.bool true]
            (fun x x_1 x_2=>KZ (AQ Tryz.prog 27 (JC x_1 4) (JC x_1 5)) fun v =>
              KZ (match BH Tryz.prog x_2 3 v (JC x 0)with | some s=>some (A1,s) | none=>none) fun p=>Qb E NP (fun v s'=>WC E none L (A2 0 Q) v marks s') [] x_1 p.snd) (iv (ix (push S1 AP) AP:Int)) s':=by
        intro y10 s' O' g1 g2 g3
        have hgj:s'.heap.get j=some (R 3 1 true (CS (done++x::rest))):=by rw[g2.2 j hjl hjO];exact hj
        have hble:decide (done.length+1≤(CS (done++x::rest)).length)=true:=decide_eq_true (by rw[DC,Ze,ZC];omega)
        have:=hafter s' O' g1 g2 g3 y10
        simp only[Qa,Qb,Qc,Qd,Qe,Qf,Qg,Qh,Qi,Qj,Qk,Ql,Qm,Qn,true_and,and_true,Qo,Qp,Qq,Qr,Qs,Qt,Qu,Qv,Qw,Qx,Qy,Qz,Ra,Rb,Rc,Rd,Re,Rf,Rg,Rh,Ri,Rj,Rk,Rl,Rm,Ya,Yb,Yc,Rn,Ro,Xv,Yd,Ye,Rq,Rs,Rt,Ru,Rw,Rx,Ry,NP,Ao Tryz.underlying27 Ho hltn,hgj,Ho,Zf,hble,Tc,By _ _ _ _ hadd,Rz,Wa,Wb,Wc,Wd,We,Wf,Wg,Wh,Wi,Wj,Wl,Wm,Wn,Wp,Wq,Wr,Ws,Wt,Wu,Wv,Ww,Wx,Wy,Wz,Xa,Xb,Xc,Xd,Xe,Xf,Xg,Xh,Xi,Xj,Xk,Xl,Xm,Xn,Xo,Xp,Xq,Xr,ZC,ZF,ZE,ZD,ZH,ZI,List.getElem?_cons_zero,List.getElem?_cons_succ,ZG,ZJ,ZK,ZL,ZB,Nat.reduceAdd,Nat.reduceLT,Nat.reduceLeDiff,decide_true,decide_false,Bool.true_and,Bool.and_true,ZM,Y9,Option.some.injEq,Xs,Xt,Xu,Xv]
        exact this
      rcases h12 with h1 | ⟨h1,h2⟩
      · simp only[H4,K1,NN,NO,P7,hlt,decide_true,Qa,Qb,Qc,Qd,Qe,Qf,Qg,Qh,Qi,Qj,Qk,Ql,Qm,Qn,true_and,and_true,Qo,Qp,Qq,Qr,Qs,Qt,Qu,Qv,Qw,Qx,Qy,Qz,Ra,Rb,Rc,Rd,Re,Rf,Rg,Rh,Ri,Rj,Rk,Rl,Rm,Ya,Yb,Yc,Rn,Ro,Xv,Yd,Ye,Rq,Rs,Rt,Ru,Rw,Rx,Ry,Rq,Ru,h1,CG,Ao Tryz.underlying27 Ho hltn,Dx,hld,Zf,By _ _ _ _ hadd,Rz,Wa,Wb,Wc,Wd,We,Wf,Wg,Wh,Wi,Wj,Wl,Wm,Wn,Wp,Wq,Wr,Ws,Wt,Wu,Wv,Ww,Wx,Wy,Wz,Xa,Xb,Xc,Xd,Xe,Xf,Xg,Xh,Xi,Xj,Xk,Xl,Xm,Xn,Xo,Xp,Xq,Xr,ZC,ZF,ZE,ZD,ZH,ZI,List.getElem?_cons_zero,List.getElem?_cons_succ,ZG,ZJ,ZK,ZL,ZB,Nat.reduceAdd,Nat.reduceLT,Nat.reduceLeDiff,decide_true,decide_false,Bool.true_and,Bool.and_true,ZM,Y9,Option.some.injEq,Xs,Xt,Xu,Xv]
        exact hcall _ (hrest _)
      · simp only[H4,K1,NN,NO,P7,hlt,decide_true,Qa,Qb,Qc,Qd,Qe,Qf,Qg,Qh,Qi,Qj,Qk,Ql,Qm,Qn,true_and,and_true,Qo,Qp,Qq,Qr,Qs,Qt,Qu,Qv,Qw,Qx,Qy,Qz,Ra,Rb,Rc,Rd,Re,Rf,Rg,Rh,Ri,Rj,Rk,Rl,Rm,Ya,Yb,Yc,Rn,Ro,Xv,Yd,Ye,Rq,Rs,Rt,Ru,Rw,Rx,Ry,Rq,Ru,h1,h2,CG,Ao Tryz.underlying27 Ho hltn,Dx,hld,Zf,By _ _ _ _ hadd,Rz,Wa,Wb,Wc,Wd,We,Wf,Wg,Wh,Wi,Wj,Wl,Wm,Wn,Wp,Wq,Wr,Ws,Wt,Wu,Wv,Ww,Wx,Wy,Wz,Xa,Xb,Xc,Xd,Xe,Xf,Xg,Xh,Xi,Xj,Xk,Xl,Xm,Xn,Xo,Xp,Xq,Xr,ZC,ZF,ZE,ZD,ZH,ZI,List.getElem?_cons_zero,List.getElem?_cons_succ,ZG,ZJ,ZK,ZL,ZB,Nat.reduceAdd,Nat.reduceLT,Nat.reduceLeDiff,decide_true,decide_false,Bool.true_and,Bool.and_true,ZM,Y9,Option.some.injEq,Xs,Xt,Xu,Xv]
        exact hcall _ (hrest _)
end
def Vm(s:AE)(O:List Nat)(b:Nat)(v:AV)(l:List Int):Prop:=∃j,v=.slice (some (j,0)) l.length none∧s.heap.get j=some (R 3 1 true (CS l))∧j<s.next∧j ∉ O∧b≤j
theorem Vm.rd{s:AE}{O:List Nat}{b:Nat}{v:AV}{l:List Int}(h:Vm s O b v l):Ap s v l:=by
 obtain⟨j,rfl,h1,h2,_⟩:=h
 exact .inr ⟨j,0,none,rfl,h2,by rw[h1];exact(Wj (by rw[DC,ZB];exact Y9 _)).trans (by rw[ZG,Zo (by rw[DC];exact Y9 _)])⟩
section
variable{E:Bt}(hE:A0 E){s:AE}{p:Nat}{S:List Tm}{O:List Nat}(h:AN s p S O)(hsm:S.length<99990)(hg:BZ s O){K:AV→AE→Prop}
include hE h hsm hg
theorem I1{v:AV}{l:List Int}(hv:Ap s v l)(h0:0<l.length)(hl:l.length≤1000)
  (hK:∀w s' O',AN s' p (EV S.length S l) O'→BZ s' O'→C2 O s s'→Ac O O' s→Vm s' O' s.next w (l.map fun x=>(ix (EV S.length S l) (BD S x):Int))→K w s'):
  WF E 34 [.ptr (some (p,0)),v] K s:=by
 refine hE.go V0 (by decide) rfl ?_
 simp only[Yz,U0,U1,Qa,Qb,Qc,Qd,Qe,Qf,Qg,Qh,Qi,Qj,Qk,Ql,Qm,Qn,true_and,and_true,Qo,Qp,Qq,Qr,Qs,Qt,Qu,Qv,Qw,Qx,Qy,Qz,Ra,Rb,Rc,Rd,Re,Rf,Rg,Rh,Ri,Rj,Rk,Rl,Rm,Ya,Yb,Yc,Rn,Ro,Xv,Yd,Ye,Rq,Rs,Rt,Ru,Rw,Rx,Ry,Rz,Wa,Wb,Wc,Wd,We,Wf,Wg,Wh,Wi,Wj,Wl,Wm,Wn,Wp,Wq,Wr,Ws,Wt,Wu,Wv,Ww,Wx,Wy,Wz,Xa,Xb,Xc,Xd,Xe,Xf,Xg,Xh,Xi,Xj,Xk,Xl,Xm,Xn,Xo,Xp,Xq,Xr,ZC,ZF,ZE,ZD,ZH,ZI,List.getElem?_cons_zero,List.getElem?_cons_succ,ZG,ZJ,ZK,ZL,ZB,Nat.reduceAdd,Nat.reduceLT,Nat.reduceLeDiff,decide_true,decide_false,Bool.true_and,Bool.and_true,ZM,Y9,Option.some.injEq,Xs,Xt,Xu,Xv]
 refine WQ hE h (by omega) ?_
 simp only[U2,Qa,Qb,Qc,Qd,Qe,Qf,Qg,Qh,Qi,Qj,Qk,Ql,Qm,Qn,true_and,and_true,Qo,Qp,Qq,Qr,Qs,Qt,Qu,Qv,Qw,Qx,Qy,Qz,Ra,Rb,Rc,Rd,Re,Rf,Rg,Rh,Ri,Rj,Rk,Rl,Rm,Ya,Yb,Yc,Rn,Ro,Xv,Yd,Ye,Rq,Rs,Rt,Ru,Rw,Rx,Ry,Rz,Wa,Wb,Wc,Wd,We,Wf,Wg,Wh,Wi,Wj,Wl,Wm,Wn,Wp,Wq,Wr,Ws,Wt,Wu,Wv,Ww,Wx,Wy,Wz,Xa,Xb,Xc,Xd,Xe,Xf,Xg,Xh,Xi,Xj,Xk,Xl,Xm,Xn,Xo,Xp,Xq,Xr,ZC,ZF,ZE,ZD,ZH,ZI,List.getElem?_cons_zero,List.getElem?_cons_succ,ZG,ZJ,ZK,ZL,ZB,Nat.reduceAdd,Nat.reduceLT,Nat.reduceLeDiff,decide_true,decide_false,Bool.true_and,Bool.and_true,ZM,Y9,Option.some.injEq,Xs,Xt,Xu,Xv]
 refine K8 hE hv h0 (by omega) ?_
 generalize hs:s.next=b
 have hgj:(ext s [R 3 1 false [],R 3 1 true (CS l)]).heap.get (nid b 1)=some (R 3 1 true (CS ([]++l))):=by rw[Wg hs (by simp)];rfl
 have hnx:(ext s [R 3 1 false [],R 3 1 true (CS l)]).next=b+2:=by rw[Wm,hs,AH];rfl
 have hlt:=h.lt
 have hg1:=hg.2.1
 simp only[U3,A8 Tryz.underlying27,hs,Qa,Qb,Qc,Qd,Qe,Qf,Qg,Qh,Qi,Qj,Qk,Ql,Qm,Qn,true_and,and_true,Qo,Qp,Qq,Qr,Qs,Qt,Qu,Qv,Qw,Qx,Qy,Qz,Ra,Rb,Rc,Rd,Re,Rf,Rg,Rh,Ri,Rj,Rk,Rl,Rm,Ya,Yb,Yc,Rn,Ro,Xv,Yd,Ye,Rq,Rs,Rt,Ru,Rw,Rx,Ry,Rz,Wa,Wb,Wc,Wd,We,Wf,Wg,Wh,Wi,Wj,Wl,Wm,Wn,Wp,Wq,Wr,Ws,Wt,Wu,Wv,Ww,Wx,Wy,Wz,Xa,Xb,Xc,Xd,Xe,Xf,Xg,Xh,Xi,Xj,Xk,Xl,Xm,Xn,Xo,Xp,Xq,Xr,ZC,ZF,ZE,ZD,ZH,ZI,List.getElem?_cons_zero,List.getElem?_cons_succ,ZG,ZJ,ZK,ZL,ZB,Nat.reduceAdd,Nat.reduceLT,Nat.reduceLeDiff,decide_true,decide_false,Bool.true_and,Bool.and_true,ZM,Y9,Option.some.injEq,Xs,Xt,Xu,Xv]
 refine M7 hE hsm hl (s0:=s) (O:=O) (j:=nid b 1) _ _ (by rw[AH];omega) hg.2.1 l [] S O _ _ _ _ _ (.inl rfl) (h.old AK) (hg.old AK) (AK.frO O) (Ac.refl O s) hgj (by rw[hnx,AH];omega) (fun hm=>by have:=hlt _ hm;rw[AH]at this;omega) rfl ?_
 intro s2 O2 y5 y6 y9 y10 y11 g1 g2 g3 g4 g5 g6 g7
 simp only[Qa,Qb,Qc,Qd,Qe,Qf,Qg,Qh,Qi,Qj,Qk,Ql,Qm,Qn,true_and,and_true,Qo,Qp,Qq,Qr,Qs,Qt,Qu,Qv,Qw,Qx,Qy,Qz,Ra,Rb,Rc,Rd,Re,Rf,Rg,Rh,Ri,Rj,Rk,Rl,Rm,Ya,Yb,Yc,Rn,Ro,Xv,Yd,Ye,Rq,Rs,Rt,Ru,Rw,Rx,Ry]
 rw[if_pos trivial]
 simp only[P6,Qa,Qb,Qc,Qd,Qe,Qf,Qg,Qh,Qi,Qj,Qk,Ql,Qm,Qn,true_and,and_true,Qo,Qp,Qq,Qr,Qs,Qt,Qu,Qv,Qw,Qx,Qy,Qz,Ra,Rb,Rc,Rd,Re,Rf,Rg,Rh,Ri,Rj,Rk,Rl,Rm,Ya,Yb,Yc,Rn,Ro,Xv,Yd,Ye,Rq,Rs,Rt,Ru,Rw,Rx,Ry]
 refine hK _ _ _ g1 g2 g3 g4 ⟨nid b 1,by rw[ZY],by rw[g5];rfl,g6,g7,by rw[AH];omega⟩
theorem W2{d k a:Int}(hK:∀s' O',AN s' p (push (EV S.length S [d,k,a]) (.upd (BD S d) (BD S k) (BD S a))) O'→BZ s' O'→C2 O s s'→Ac O O' s→K (iv (ix (push (EV S.length S [d,k,a]) (.upd (BD S d) (BD S k) (BD S a))) (.upd (BD S d) (BD S k) (BD S a)):Int)) s'):
  WF E 25 [.ptr (some (p,0)),iv d,iv k,iv a] K s:=by
 have hm:∀x∈([d,k,a]:List Int),BD S x∈EV S.length S [d,k,a]:=I2 rfl
 have hlt:(EV S.length S [d,k,a]).length<100000:=by
  rcases I0 (n:=S.length) (S:=S) [d,k,a]with e | e<;>rw[e]
  ·omega
  ·have:=Et (S:=S) (u:=AP);omega
 refine hE.go Vw (by decide) rfl ?_
 generalize hs:s.next=b
 have hs0:s=ext s []:=(AZ s).symm
 have hrd:Ap (ext s [R 3 1 false (CS [d,k,a])]) (.slice (some (nid b 0,0)) 3 (some 3)) [d,k,a]:=.inr ⟨nid b 0,0,some 3,rfl,by rw[Wm,hs,AH,AH];simp,by rw[Wg hs (by simp)];exact Wj (Y9 _)⟩
 have hth:=fun(K:AV→AE→Prop)=>I1 (K:=K) hE (h.old (AK (os:=[R 3 1 false (CS [d,k,a])]))) hsm (hg.old AK) hrd (by simp) (by simp)
 rw[hs0]
 simp only[Yv,Ui,Uj,Uk,BR,NK,CG,PH,hs,Qa,Qb,Qc,Qd,Qe,Qf,Qg,Qh,Qi,Qj,Qk,Ql,Qm,Qn,true_and,and_true,Qo,Qp,Qq,Qr,Qs,Qt,Qu,Qv,Qw,Qx,Qy,Qz,Ra,Rb,Rc,Rd,Re,Rf,Rg,Rh,Ri,Rj,Rk,Rl,Rm,Ya,Yb,Yc,Rn,Ro,Xv,Yd,Ye,Rq,Rs,Rt,Ru,Rw,Rx,Ry,Rz,Wa,Wb,Wc,Wd,We,Wf,Wg,Wh,Wi,Wj,Wl,Wm,Wn,Wp,Wq,Wr,Ws,Wt,Wu,Wv,Ww,Wx,Wy,Wz,Xa,Xb,Xc,Xd,Xe,Xf,Xg,Xh,Xi,Xj,Xk,Xl,Xm,Xn,Xo,Xp,Xq,Xr,ZC,ZF,ZE,ZD,ZH,ZI,List.getElem?_cons_zero,List.getElem?_cons_succ,ZG,ZJ,ZK,ZL,ZB,Nat.reduceAdd,Nat.reduceLT,Nat.reduceLeDiff,decide_true,decide_false,Bool.true_and,Bool.and_true,ZM,Y9,Option.some.injEq,Xs,Xt,Xu,Xv]
 refine hth _ fun w s' O' g1 g2 g3 g4 g5=>?_
 have hf:C2 O s s':=(AK.frO O).trans g3 (Ac.refl O s)
 have hgr:Ac O O' s:=Ac.trans (Ac.refl O s) g4 (by rw[Wm,AH];omega)
 have hpa:BW s' (EV S.length S [d,k,a]) [BD S d,BD S k,BD S a] w:=Ap.parts (l:=[BD S d,BD S k,BD S a]) g5.rd (by simp)
 simp only[Qa,Qb,Qc,Qd,Qe,Qf,Qg,Qh,Qi,Qj,Qk,Ql,Qm,Qn,true_and,and_true,Qo,Qp,Qq,Qr,Qs,Qt,Qu,Qv,Qw,Qx,Qy,Qz,Ra,Rb,Rc,Rd,Re,Rf,Rg,Rh,Ri,Rj,Rk,Rl,Rm,Ya,Yb,Yc,Rn,Ro,Xv,Yd,Ye,Rq,Rs,Rt,Ru,Rw,Rx,Ry]
 refine EA hE g1 hlt (B7.refl _ _) (.upd (BD S d) (BD S k) (BD S a)) (fun k hk=>?_) trivial hpa fun s2 O2 k1 k2 k3=>?_
 ·simp only[Tm.kids,Zd,Zj,or_false]at hk
  rcases hk with rfl | rfl | rfl<;>exact hm _ (by simp)
 ·simp only[Qa,Qb,Qc,Qd,Qe,Qf,Qg,Qh,Qi,Qj,Qk,Ql,Qm,Qn,true_and,and_true,Qo,Qp,Qq,Qr,Qs,Qt,Qu,Qv,Qw,Qx,Qy,Qz,Ra,Rb,Rc,Rd,Re,Rf,Rg,Rh,Ri,Rj,Rk,Rl,Rm,Ya,Yb,Yc,Rn,Ro,Xv,Yd,Ye,Rq,Rs,Rt,Ru,Rw,Rx,Ry]
  exact hK _ _ k1 (g2.step k2 k3) (hf.trans k2 hgr) (hgr.trans k3 hf.1)
end
def B4(f:Tm→Option Tm)(t:Tm):Tm:=match f t with
 | some u=>u
 | none=>match t with
  | .sel d k=>.sel (B4 f d) (B4 f k)
  | .upd d k a=>.upd (B4 f d) (B4 f k) (B4 f a)
  | t=>t
theorem QQ{f:Tm→Option Tm}{t u:Tm}(h:f t=some u):B4 f t=u:=by
 unfold B4;rw[h]
theorem QP{f:Tm→Option Tm}{t:Tm}(h:f t=none)(k:t.kids=[]):B4 f t=t:=by
 unfold B4;rw[h]
 cases t<;>first | rfl | (simp[Tm.kids]at k;done)
theorem QO{f:Tm→Option Tm}{t:Tm}(h:f t=none):(B4 f t).kids=t.kids.map (B4 f)∧(t.kids≠[]→(B4 f t).kind=t.kind∧(B4 f t).id=0∧(B4 f t).ktext=[]∧(B4 f t).cells=Tm.nullC∧(B4 f t).ok):=by
 unfold B4;rw[h]
 cases t<;>simp[Tm.kids,Tm.kind,Tm.id,Tm.ktext,Tm.cells,Tm.ok]
def Eh(f:Tm→Option Tm)(S D:List Tm):List (AV×AV):=D.map fun u=>(iv (ix S u:Int),iv (ix S (B4 f u):Int))
theorem JN{f:Tm→Option Tm}{S S' D:List Tm}(hs:∃x,S'=S++x)(h:∀u∈D,u∈S∧B4 f u∈S):Eh f S' D=Eh f S D:=by
 obtain⟨x,rfl⟩:=hs
 refine Z2 fun u hu=>?_
 rw[DG x (h u hu).1,DG x (h u hu).2]
theorem R6(a b:Int):Cm (iv a) (iv b)=some (decide (a=b)):=by simp[Cm,Bh,AF,DS];rfl
theorem Fk{f:Tm→Option Tm}{S:List Tm}{t:Tm}(ht:t∈S):∀ (D:List Tm)(i:Nat),(∀u∈D,u∈S) →
  ∃r,CI (iv (ix S t:Int)) (Eh f S D) i=some r∧(t∈D→∃j,r=some (j,iv (ix S (B4 f t):Int)))∧(t ∉ D→r=none)
 | [],i,_=>⟨none,rfl,fun h=>absurd h (by simp),fun _=>rfl⟩
 | u::D,i,h=>by
  show ∃r,((Cm (iv (ix S t:Int)) (iv (ix S u:Int))).bind _)=some r∧_
  rw[R6,Option.bind_some]
  by_cases e:t=u
  ·subst e
   refine⟨some (i,iv (ix S (B4 f t):Int)),by simp,fun _=>⟨i,rfl⟩,fun hn=>absurd ZU hn⟩
  ·have hne:¬ ((ix S t:Int)=(ix S u:Int)):=fun h'=>e (Gm ht (h u ZU) (by omega))
   obtain⟨r,h1,h2,h3⟩:=Fk (f:=f) ht D (i+1) fun x hx=>h x (ZQ _ hx)
   refine⟨r,by simp only[hne,decide_false];exact h1,fun hm=>?_,fun hm=>h3 fun h'=>hm (ZQ _ h')⟩
   rcases Zd.1 hm with rfl | hm
   ·exact absurd rfl e
   ·exact h2 hm
theorem Ot{f:Tm→Option Tm}{S D:List Tm}{t:Tm}{s:AE}{dm:Nat}(hg:s.heap.get dm=some (.map 3 (Eh f S D)))(ht:t∈S)(hD:∀u∈D,u∈S)(hS:S.length<100000):
  Bp Tryz.prog s 68 (.map (some dm)) (iv (ix S t:Int)) true=some (.tuple [if t∈D then iv (ix S (B4 f t):Int)else iv 0,.bool (decide (t∈D))]):=by
 obtain⟨r,h1,h2,h3⟩:=Fk (f:=f) ht D 0 hD
 have hi:i64 (ix S t:Int):=by have:=Ep ht;unfold i64;omega
 unfold Bp
 simp only[Tryz.underlying68,M3,BN hi,Xa,FA,hg,D6,Option.bind_some,h1]
 by_cases hm:t∈D
 ·obtain⟨j,rfl⟩:=h2 hm
  simp[hm]
 ·rw[h3 hm]
  simp[hm,Y8]
theorem TD{f:Tm→Option Tm}{S D:List Tm}{t:Tm}{s:AE}{dm:Nat}(hg:s.heap.get dm=some (.map 3 (Eh f S D)))(ht:t∈S)(hD:∀u∈D,u∈S)(hS:S.length<100000)(hn:t ∉ D):
  Br Tryz.prog s 68 (.map (some dm)) (iv (ix S t:Int)) (iv (ix S (B4 f t):Int))=some (setObj s dm (.map 3 (Eh f S (D++[t])))):=by
 obtain⟨r,h1,_,h3⟩:=Fk (f:=f) ht D 0 hD
 have hi:i64 (ix S t:Int):=by have:=Ep ht;unfold i64;omega
 rw[h3 hn]at h1
 unfold Br
 simp only[Tryz.underlying68,M3,BN hi,Xa,FA,hg,D6,Option.bind_some,JD,h1]
 simp[Eh]
def OO(s:AE)(O:List Nat)(dm:Nat)(H:List (Nat×AX)):Prop:=∀x∈H,s.heap.get x.1=some x.2∧x.1<s.next∧x.1 ∉ O∧x.1≠dm
theorem OO.step{s s':AE}{O O':List Nat}{dm:Nat}{H:List (Nat×AX)}(h:OO s O dm H)(f:C2 (dm::O) s s')(g:Ac O O' s):OO s' O' dm H:=fun x hx=>by
 obtain⟨h1,h2,h3,h4⟩:=h x hx
 refine⟨by rw[f.2 _ h2 (fun hm=>(Zd.1 hm).elim h4 h3)];exact h1,ZS h2 f.1,fun hm=>(g _ hm).elim h3 (fun hl=>by omega),h4⟩
structure Wk(p dm:Nat)(f:Tm→Option Tm)(L S0:List Tm)(H:List (Nat×AX))(s:AE)(S:List Tm)(O:List Nat)(D:List Tm):Prop where
 st:AN s p S O
 gl:BZ s O
 hd:OO s O dm H
 mp:s.heap.get dm=some (.map 3 (Eh f S D))
 dl:dm<s.next
 dO:dm ∉ O
 pre:∃x,S=S0++x
 len:S.length≤S0.length+D.length
 dn:D.Nodup
 dL:∀u∈D,u∈L∧u∈S0∧B4 f u∈S
theorem BY{S0 S:List Tm}(h:∃x,S=S0++x){t:Tm}(ht:t∈S0):t∈S∧ix S t=ix S0 t:=by
 obtain⟨x,rfl⟩:=h
 exact⟨Z3 _ ht,DG x ht⟩
theorem Lg{S:List Tm}{u:Tm}:∃x,push S u=S++x:=by
 unfold push;split
 ·exact⟨[],by simp⟩
 ·exact⟨[u],rfl⟩
theorem FD{A B C:List Tm}(h:∃x,B=A++x)(k:∃x,C=B++x):∃x,C=A++x:=by
 obtain⟨x,rfl⟩:=h
 obtain⟨y,rfl⟩:=k
 exact⟨x++y,by simp⟩
theorem XB:Dy Tryz.prog 31=some false:=by kernel_rfl
theorem YY:An Tryz.prog 31=some 1:=by kernel_rfl
theorem XA:Dy Tryz.prog 103=some false:=by kernel_rfl
def GZ(ds sb bb wb:Nat):AV:=.func 56 [] [.ptr (some (ds,0)),.ptr (some (sb,0)),.ptr (some (bb,0)),.ptr (some (wb,0))]
def D3(p dm ds sb bb wb:Nat)(cb:AV):List (Nat×AX):=
 [(ds,R 68 0 false [.map (some dm)]),(sb,R 25 0 false [.ptr (some (p,0))]),(bb,R 103 0 false [cb]),(wb,R 31 0 false [GZ ds sb bb wb])]
def Pe(E:Bt)(p dm:Nat)(f:Tm→Option Tm)(L S0:List Tm)(ds sb bb wb:Nat)(Hm:List (Nat×AX))(t:Tm):Prop:=
  ∀ (H : List (Nat × AX))   (s : AE)  (S : List Tm) (O : List Nat) (D : List Tm) (K : AV → AE  → Prop), (∀ x ∈ Hm, x ∈ H) → Wk p dm f L S0 H s S O D →
    (∀s' S' O' D',Wk p dm f L S0 H s' S' O' D'→C2 (dm::O) s s'→Ac O O' s→(∃x,S'=S++x)→B4 f t∈S'→(∀u∈D',u∈D∨ix S0 u≤ix S0 t)→(f t=none→t.kids=[]→S'=S)→K (iv (ix S' (B4 f t):Int)) s') →
    WF E 56 [iv (ix S0 t:Int),.ptr (some (ds,0)),.ptr (some (sb,0)),.ptr (some (bb,0)),.ptr (some (wb,0))] K s
theorem Wk.keep{p dm:Nat}{f:Tm→Option Tm}{L S0:List Tm}{H:List (Nat×AX)}{s s':AE}{S:List Tm}{O:List Nat}{D:List Tm}(h:Wk p dm f L S0 H s S O D)(hn:s.next≤s'.next){B:List Nat}
  (hB:∀j∈B,j ∉ O∧j≠dm∧j≠1∧∀x∈H,x.1≠j) (k:∀j,j<s.next→j ∉ B→s'.heap.get j=s.heap.get j):Wk p dm f L S0 H s' S O D where
 st:=h.st.frame hn fun j hj=>k j (h.st.lt j hj) fun hb=>(hB j hb).1 hj
 gl:=⟨by rw[DB (k 1 h.gl.2.1 fun hb=>(hB 1 hb).2.2.1 rfl)];exact h.gl.1,ZS h.gl.2.1 hn,h.gl.2.2⟩
 hd:=fun x hx=>by
  obtain⟨h1,h2,h3,h4⟩:=h.hd x hx
  exact⟨by rw[k _ h2 fun hb=>(hB _ hb).2.2.2 x hx rfl];exact h1,ZS h2 hn,h3,h4⟩
 mp:=by rw[k _ h.dl fun hb=>(hB _ hb).2.1 rfl];exact h.mp
 dl:=ZS h.dl hn
 dO:=h.dO
 pre:=h.pre
 len:=h.len
 dn:=h.dn
 dL:=h.dL
theorem Wk.old{p dm:Nat}{f:Tm→Option Tm}{L S0:List Tm}{H:List (Nat×AX)}{s s':AE}{S:List Tm}{O:List Nat}{D:List Tm}(h:Wk p dm f L S0 H s S O D)(k:B7 s.next s s'):Wk p dm f L S0 H s' S O D:=
 h.keep (D:=D) k.1 (B:=[]) (fun _ h=>by cases h) fun j hj _=>k.2 j hj
theorem Wk.more{p dm:Nat}{f:Tm→Option Tm}{L S0:List Tm}{H:List (Nat×AX)}{s:AE}{S:List Tm}{O:List Nat}{D:List Tm}(h:Wk p dm f L S0 H s S O D){j:Nat}{o:AX}(hj:s.heap.get j=some o)(hl:j<s.next)(hO:j ∉ O)(hd:j≠dm):Wk p dm f L S0 ((j,o)::H) s S O D:=
 have hh:OO s O dm ((j,o)::H):=by
  intro x hx
  have hx:=Zd.1 hx
  rcases hx with rfl | hx
  ·exact⟨hj,hl,hO,hd⟩
  ·exact h.hd x hx
 { h with hd:=hh }
theorem Ou        {E : Bt}  {p dm : Nat} {f : Tm → Option Tm} {L S0 : List Tm} {ds sb bb wb : Nat} {Hm H : List (Nat × AX)}   {cb : AV}
    (hbx:∀x∈D3 p dm ds sb bb wb cb,x∈Hm) (hHm:∀x∈Hm,x∈H) (hL:S0.length+L.length<90000)
    {us:List Tm} (h3:us.length≤3) (hall:∀t∈us,Pe E p dm f L S0 ds sb bb wb Hm t) {eb:Nat} {ec:List AV} (heb:(eb,R 70 0 false ec)∈H)
    (hec:∀k u,us[k]? = some u→ec[2+k]? = some (iv (ix S0 u:Int))) {sB:AE} {OA:List Nat} {SA DA:List Tm} (a0 a5 a6 a7 a9 a10 a11 a14 a15 a16:AV) {Q:Au→Prop} {marks:List Nat}:
    ∀ (l2 l1:List Tm) (s:AE) (S:List Tm) (O:List Nat) (D:List Tm) (v:AV) (OB:List Nat) (x13 x20:AV),us=l1++l2→Wk p dm f L S0 H s S O D →
    F3 3 1 s v l1.length (CS (l1.map fun u=>(ix S (B4 f u):Int))) OB→(∀j∈OB,j ∉ O∧j≠dm∧j≠1∧∀x∈H,x.1≠j)→(∀j∈OB,sB.next≤j) →
    C2 (dm::OA) sB s→Ac OA O sB→(∃x,S=SA++x)→(∀u∈l1,B4 f u∈S)→(∀u∈D,u∈DA∨∃k∈us,ix S0 u≤ix S0 k) →
    (∀s' S' O' D' v' OB' y13 y19 y20,Wk p dm f L S0 H s' S' O' D'→F3 3 1 s' v' us.length (CS (us.map fun u=>(ix S' (B4 f u):Int))) OB'→C2 (dm::OA) sB s'→Ac OA O' sB→(∃x,S'=SA++x)→(∀u∈us,B4 f u∈S')→(∀u∈D',u∈DA∨∃k∈us,ix S0 u≤ix S0 k) →
      A2 0 Q ⟨.exit 0,[a0,.ptr (some (ds,0)),.ptr (some (sb,0)),.ptr (some (bb,0)),.ptr (some (wb,0)),a5,a6,a7,.ptr (some (eb,0)),a9,a10,a11,v',y13,a14,a15,a16,.slice (some (eb,2)) us.length (some 3),iv (us.length:Int),y19,y20],marks,s'⟩) →
    WC E none (Ai.loop H5) (A2 0 Q) [a0,.ptr (some (ds,0)),.ptr (some (sb,0)),.ptr (some (bb,0)),.ptr (some (wb,0)),a5,a6,a7,.ptr (some (eb,0)),a9,a10,a11,v,x13,a14,a15,a16,.slice (some (eb,2)) us.length (some 3),iv (us.length:Int),iv (l1.length:Int),x20] marks s:=by
  intro l2
  induction l2 with
  | nil =>
    intro l1 s S O D v OB x13 x20 hus hw hbuf hB hBn hf hgr hpre hm hD hq
    refine WC.loop' ?_
    have hul:us=l1:=by rw[hus];simp
    subst hul
    have hlt:¬ ((us.length:Int)<(us.length:Int)):=by omega
    simp only[H5,MI,hlt,decide_false,Qa,Qb,Qc,Qd,Qe,Qf,Qg,Qh,Qi,Qj,Qk,Ql,Qm,Qn,true_and,and_true,Qo,Qp,Qq,Qr,Qs,Qt,Qu,Qv,Qw,Qx,Qy,Qz,Ra,Rb,Rc,Rd,Re,Rf,Rg,Rh,Ri,Rj,Rk,Rl,Rm,Ya,Yb,Yc,Rn,Ro,Xv,Yd,Ye,Rq,Rs,Rt,Ru,Rw,Rx,Ry,Rq]
    exact hq s S O D v OB _ _ _ hw hbuf hf hgr hpre hm hD
  | cons t l2 ih =>
    intro l1 s S O D v OB x13 x20 hus hw hbuf hB hBn hf hgr hpre hm hD hq
    refine WC.loop' ?_
    obtain⟨W,hW⟩:∃W,W=Ai.loop H5:=⟨_,rfl⟩
    rw[← hW]
    have hlt:((l1.length:Int)<(us.length:Int)):=by rw[hus];simp;omega
    have hltn:l1.length<us.length:=by omega
    have hadd:i64 ((l1.length:Int)+1):=by unfold i64;omega
    have htus:us[l1.length]? = some t:=by rw[hus];simp
    have hebg:=(hw.hd _ heb).1
    have hwbg:s.heap.get wb=some (R 31 0 false [GZ ds sb bb wb]):=(hw.hd _ (hHm _ (hbx (wb,R 31 0 false [GZ ds sb bb wb]) (by simp[D3])))).1
    have hld:Cz (s.heap.get eb) (2+l1.length)=some (iv (ix S0 t:Int)):=by
      rw[show s.heap.get eb=some (R 70 0 false ec)from hebg,Wi];exact hec _ _ htus
    simp only[H5,MI,QG,QH,hlt,decide_true,Qa,Qb,Qc,Qd,Qe,Qf,Qg,Qh,Qi,Qj,Qk,Ql,Qm,Qn,true_and,and_true,Qo,Qp,Qq,Qr,Qs,Qt,Qu,Qv,Qw,Qx,Qy,Qz,Ra,Rb,Rc,Rd,Re,Rf,Rg,Rh,Ri,Rj,Rk,Rl,Rm,Ya,Yb,Yc,Rn,Ro,Xv,Yd,Ye,Rq,Rs,Rt,Ru,Rw,Rx,Ry,Rq,Ao Tryz.underlying27 Ho hltn,Dx,XB,hld,hwbg,GZ,Zf,Rz,Wa,Wb,Wc,Wd,We,Wf,Wg,Wh,Wi,Wj,Wl,Wm,Wn,Wp,Wq,Wr,Ws,Wt,Wu,Wv,Ww,Wx,Wy,Wz,Xa,Xb,Xc,Xd,Xe,Xf,Xg,Xh,Xi,Xj,Xk,Xl,Xm,Xn,Xo,Xp,Xq,Xr,ZC,ZF,ZE,ZD,ZH,ZI,List.getElem?_cons_zero,List.getElem?_cons_succ,ZG,ZJ,ZK,ZL,ZB,Nat.reduceAdd,Nat.reduceLT,Nat.reduceLeDiff,decide_true,decide_false,Bool.true_and,Bool.and_true,ZM,Y9,Option.some.injEq,Xs,Xt,Xu,Xv]
    refine hall t (ZZ htus) H s S O D _ hHm hw fun s' S' O' D' g1 g2 g3 g4 g5 g6 _=>?_
    have hbuf':=hbuf.frame (s':=s') g2.1 fun j hj=>g2.2 j (hbuf.lt j hj) fun hm=>(Zd.1 hm).elim (hB j hj).2.1 (hB j hj).1
    have hBlt:=hbuf.lt
    have hivs:(l1.map fun u=>(ix S (B4 f u):Int))=l1.map fun u=>(ix S' (B4 f u):Int):=Z2 fun u hu=>by rw[(BY g4 (hm u hu)).2]
    rw[hivs]at hbuf'
    generalize hb':s'.next=b'
    have hs0:s'=ext s' []:=(AZ s').symm
    have hrd:Ap (ext s' [R 3 1 false (CS [(ix S' (B4 f t):Int)])]) (.slice (some (nid b' 0,0)) 1 (some 1)) [(ix S' (B4 f t):Int)]:=.inr ⟨nid b' 0,0,some 1,rfl,by rw[Wm,hb',AH,AH];simp,by rw[Wg hb' (by simp)];exact Wj (Y9 _)⟩
    have hbuf2:=hbuf'.frame (s':=ext s' [R 3 1 false (CS [(ix S' (B4 f t):Int)])]) (by rw[Wm,AH];omega) fun j hj=>Wh (hbuf'.lt j hj)
    obtain⟨v2,s2,OB2,happ,hb2,hn2,hf2,hO2,hsl⟩:=hbuf2.append (xt:=27) (m:=1) Tryz.underlying27 Ho YA (by omega) Hr NB (by omega) (Ix hrd) rfl (Hk _) (by omega) (by omega)
    have hnx:(ext s' [R 3 1 false (CS [(ix S' (B4 f t):Int)])]).next=b'+1:=by rw[Wm,hb',AH];rfl
    rw[hnx]at hn2 hf2 hO2
    have hw2:Wk p dm f L S0 H s2 S' O' D':=by
      refine(g1.old AK).keep (D:=D') (by rw[hnx,hn2];omega) (B:=OB) (fun j hj=>?_) fun j hj hjB=>hf2 j (by rw[hnx]at hj;exact hj) hjB
      obtain⟨q1,q2,q3,q4⟩:=hB j hj
      exact⟨fun hm=>(g3 j hm).elim q1 fun hl=>by have:=hBlt j hj;omega,q2,q3,q4⟩
    have hBn2:∀j∈OB2,j∈OB∨b'+1≤j:=hO2
    have hsn:s.next≤b':=by rw[← hb'];exact g2.1
    have hsB:sB.next≤s.next:=hf.1
    have hcell:CS (l1.map fun u=>(ix S' (B4 f u):Int))++CS [(ix S' (B4 f t):Int)]=CS ((l1++[t]).map fun u=>(ix S' (B4 f u):Int)):=by simp[CS]
    rw[hcell]at hb2
    have hne:newObj s' (R 3 1 false (CS [(ix S' (B4 f t):Int)]))=ext s' [R 3 1 false (CS [(ix S' (B4 f t):Int)])]:=by
      have:=Wl s' [] (R 3 1 false (CS [(ix S' (B4 f t):Int)]))
      rw[AZ]at this;exact this
    rw[← hne,If]at happ
    have:=ih (l1++[t]) s2 S' O' D' v2 OB2 (iv (ix S0 t:Int)) (.bool true) (by rw[hus];simp) hw2 (by rw[Ze];exact hb2) ?_ ?_ ?_ ?_ ?_ ?_ ?_ hq
    · simp only[Qa,Qb,Qc,Qd,Qe,Qf,Qg,Qh,Qi,Qj,Qk,Ql,Qm,Qn,true_and,and_true,Qo,Qp,Qq,Qr,Qs,Qt,Qu,Qv,Qw,Qx,Qy,Qz,Ra,Rb,Rc,Rd,Re,Rf,Rg,Rh,Ri,Rj,Rk,Rl,Rm,Ya,Yb,Yc,Rn,Ro,Xv,Yd,Ye,Rq,Rs,Rt,Ru,Rw,Rx,Ry,QI,EB,hb',happ,By _ _ _ _ hadd,Rz,Wa,Wb,Wc,Wd,We,Wf,Wg,Wh,Wi,Wj,Wl,Wm,Wn,Wp,Wq,Wr,Ws,Wt,Wu,Wv,Ww,Wx,Wy,Wz,Xa,Xb,Xc,Xd,Xe,Xf,Xg,Xh,Xi,Xj,Xk,Xl,Xm,Xn,Xo,Xp,Xq,Xr,ZC,ZF,ZE,ZD,ZH,ZI,List.getElem?_cons_zero,List.getElem?_cons_succ,ZG,ZJ,ZK,ZL,ZB,Nat.reduceAdd,Nat.reduceLT,Nat.reduceLeDiff,decide_true,decide_false,Bool.true_and,Bool.and_true,ZM,Y9,Option.some.injEq,Xs,Xt,Xu,Xv]
      rw[hW]
      rw[show(l1++[t]).length=l1.length+1 from by simp]at this
      exact this
    · intro j hj
      rcases hBn2 j hj with h | h
      · obtain⟨q1,q2,q3,q4⟩:=hB j h
        exact⟨fun hm=>(g3 j hm).elim q1 fun hl=>by have:=hBlt j h;omega,q2,q3,q4⟩
      · have h1 := g1.gl.2.1
        have h2:=g1.dl
        exact⟨fun hm=>by have:=g1.st.lt j hm;omega,by omega,by omega,fun x hx=>by have:=(g1.hd x hx).2.1;omega⟩
    · intro j hj
      rcases hBn2 j hj with h | h
      · exact hBn j h
      · omega
    · refine⟨by rw[hn2];omega,fun j hj hjm=>?_⟩
      have hjB:j ∉ OB:=fun h=>by have:=hBn j h;omega
      rw[hf2 j (by omega) hjB,Wh (by omega),g2.2 j (by omega) fun hm=>?_,hf.2 j hj hjm]
      rcases Zd.1 hm with h | h
      · exact hjm (Zd.2 (.inl h))
      · exact(hgr j h).elim (fun h=>hjm (Zd.2 (.inr h))) (fun h=>by omega)
    · exact hgr.trans g3 hsB
    · exact FD hpre g4
    · intro u hu
      rcases List.mem_append.1 hu with h | h
      · exact(BY g4 (hm u h)).1
      · rw[List.mem_singleton.1 h];exact g5
    · intro u hu
      rcases g6 u hu with h | h
      · exact hD u h
      · exact .inr ⟨t,ZZ htus,h⟩
theorem Eu{L D:List Tm}(hn:D.Nodup)(h:∀u∈D,u∈L):D.length≤L.length:=Fo hn h
theorem Wk.small{p dm:Nat}{f:Tm→Option Tm}{L S0:List Tm}{H:List (Nat×AX)}{s:AE}{S:List Tm}{O:List Nat}{D:List Tm}(h:Wk p dm f L S0 H s S O D)(hL:S0.length+L.length<90000):S.length<90000:=by
 have:=Eu h.dn fun u hu=>(h.dL u hu).1
 have:=h.len
 omega
theorem Ln{s:AE}{dm:Nat}{es:List (AV×AV)}{kt:TypeId}{O:List Nat}(hg:BZ s O)(hm:s.heap.get dm=some (.map kt es)):dm≠1:=by
 intro e
 subst e
 obtain⟨r,h1,_⟩:=IR hg.1
 rw[hm]at h1
 cases h1
theorem Ly{E:Bt}{p dm:Nat}{f:Tm→Option Tm}{L S0:List Tm}{ds sb bb wb:Nat}{H:List (Nat×AX)}{cb:AV}
  (hbx:∀x∈D3 p dm ds sb bb wb cb,x∈H) (hL:S0.length+L.length<90000) {t:Tm} (ht:t∈S0) (htL:t∈L)
  {s:AE} {S:List Tm} {O:List Nat} {D:List Tm} (st:AN s p S O) (gl:BZ s O) (hd:OO s O dm H) (mp:s.heap.get dm=some (.map 3 (Eh f S D))) (dl:dm<s.next) (dO:dm ∉ O) (pre:∃x,S=S0++x)
  (len:S.length≤S0.length+D.length+1) (dn:D.Nodup) (dL:∀u∈D,u∈L∧u∈S0∧B4 f u∈S) (hcS:B4 f t∈S) (htD:t ∉ D)
  (a5 a6 a7 a8 a10 a11 a12 a13 a14 a15 a16 a17 a18 a19 a20:AV) {K:AV→AE→Prop}
  (hK:∀s',Wk p dm f L S0 H s' S O (D++[t])→s'.next=s.next→(∀j,j≠dm→s'.heap.get j=s.heap.get j)→K (iv (ix S (B4 f t):Int)) s'):
  Qb E MJ (fun v s'=>Qb E MK (fun v s'=>K (JC v 5) s') [] v s') []
   [iv (ix S0 t:Int),.ptr (some (ds,0)),.ptr (some (sb,0)),.ptr (some (bb,0)),.ptr (some (wb,0)),a5,a6,a7,a8,iv (ix S (B4 f t):Int),a10,a11,a12,a13,a14,a15,a16,a17,a18,a19,a20] s:=by
 have hds:s.heap.get ds=some (R 68 0 false [.map (some dm)]):=(hd _ (hbx (ds,R 68 0 false [.map (some dm)]) (by simp[D3]))).1
 have hDl:=Eu dn fun u hu=>(dL u hu).1
 have hup:=TD mp (BY pre ht).1 (fun u hu=>(BY pre (dL u hu).2.1).1) (by omega) htD
 rw[(BY pre ht).2]at hup
 have HX:=Ln gl mp
 have hdn:(D++[t]).Nodup:=by
  rw[List.nodup_append]
  exact⟨dn,by simp,fun a ha b hb e=>by simp at hb;subst hb;subst e;exact htD ha⟩
 have hdL:∀u∈D++[t],u∈L∧u∈S0∧B4 f u∈S:=fun u hu=>by
  rcases List.mem_append.1 hu with h | h
  ·exact dL u h
  ·rw[List.mem_singleton.1 h];exact⟨htL,ht,hcS⟩
 have hwk:Wk p dm f L S0 H (setObj s dm (.map 3 (Eh f S (D++[t])))) S O (D++[t]):={
  st:=st.frame (Y9 _) fun j hj=>Wr _ fun e=>dO (e▸hj)
  gl:=⟨by rw[DB (Wr _ (Ne.symm HX))];exact gl.1,gl.2.1,gl.2.2⟩
  hd:=fun x hx=>by
   obtain⟨h1,h2,h3,h4⟩:=hd x hx
   exact⟨by rw[Wr _ h4];exact h1,h2,h3,h4⟩
  mp:=Wq _ _ _
  dl:=dl
  dO:=dO
  pre:=pre
  len:=by rw[Ze];simp;omega
  dn:=hdn
  dL:=hdL }
 have:=hK _ hwk rfl fun j hj=>Wr _ hj
 simp only[MJ,MK,Qa,Qb,Qc,Qd,Qe,Qf,Qg,Qh,Qi,Qj,Qk,Ql,Qm,Qn,true_and,and_true,Qo,Qp,Qq,Qr,Qs,Qt,Qu,Qv,Qw,Qx,Qy,Qz,Ra,Rb,Rc,Rd,Re,Rf,Rg,Rh,Ri,Rj,Rk,Rl,Rm,Ya,Yb,Yc,Rn,Ro,Xv,Yd,Ye,Rq,Rs,Rt,Ru,Rw,Rx,Ry,hds,OQ,hup,Rz,Wa,Wb,Wc,Wd,We,Wf,Wg,Wh,Wi,Wj,Wl,Wm,Wn,Wp,Wq,Wr,Ws,Wt,Wu,Wv,Ww,Wx,Wy,Wz,Xa,Xb,Xc,Xd,Xe,Xf,Xg,Xh,Xi,Xj,Xk,Xl,Xm,Xn,Xo,Xp,Xq,Xr,ZC,ZF,ZE,ZD,ZH,ZI,List.getElem?_cons_zero,List.getElem?_cons_succ,ZG,ZJ,ZK,ZL,ZB,Nat.reduceAdd,Nat.reduceLT,Nat.reduceLeDiff,decide_true,decide_false,Bool.true_and,Bool.and_true,ZM,Y9,Option.some.injEq,Xs,Xt,Xu,Xv]
 exact this
def W5(E:Bt)(p dm:Nat)(f:Tm→Option Tm)(L S0:List Tm)(Hm:List (Nat×AX))(g:FuncId)(caps:List AV):Prop:=
  ∀ (H : List (Nat × AX))   (s : AE)  (S : List Tm) (O : List Nat) (D : List Tm) (t : Tm) (m : Nat) (K : AV → AE  → Prop), (∀ x ∈ Hm, x ∈ H) → Wk p dm f L S0 H s S O D → t ∈ S0 → t ∈ L →
    (∀s' S' O' x b,AN s' p S' O'→BZ s' O'→C2 O s s'→Ac O O' s→(S'=S∨∃u,S'=push S u)→(b=true∧(∃u,f t=some u∧u∈S'∧x=iv (ix S' u:Int))∨b=false∧f t=none∧S'=S)→K (.tuple [x,.bool b]) s') →
    WF E g ([iv (ix S0 t:Int),.agg (A7 S0 t m)]++caps) K s
theorem Q7{S0 S:List Tm}(hS0:I5 S0)(pre:∃x,S=S0++x){t:Tm}(ht:t∈S0)(m:Nat):A7 S t m=A7 S0 t m:=by
 obtain⟨x,rfl⟩:=pre
 unfold A7
 rw[Cl x fun k hk=>(hS0.kid ht hk).1]
theorem C2.weak{O:List Nat}{s s':AE}(h:C2 O s s')(d:Nat):C2 (d::O) s s':=⟨h.1,fun j hj hn=>h.2 j hj fun hm=>hn (ZQ _ hm)⟩
theorem Ac.cons{O O':List Nat}{s:AE}(h:Ac O O' s)(d:Nat):Ac (d::O) (d::O') s:=fun j hj=>by
 rcases Zd.1 hj with rfl | hj
 ·exact .inl ZU
 ·exact(h j hj).imp (ZQ _) id
theorem F3.rd{s:AE}{v:AV}{n:Nat}{l:List Int}{O:List Nat}(h:F3 3 1 s v n (CS l) O):Ap s v l:=by
 have hl:=h.len
 rw[DC,Zf]at hl
 subst hl
 have hlt:=h.lt
 rcases h.row with⟨rfl,h1,h2⟩ | ⟨i,r,rfl,h2,h3,h4⟩
 ·exact .inl ⟨Zr h1,rfl⟩
 ·exact .inr ⟨i,0,none,rfl,hlt i h2,by rw[h3,Hi h4 (by rw[DC,ZB];exact Y9 _),ZG,Zo (by rw[DC];exact Y9 _)]⟩
set_option maxRecDepth 20000 in
theorem UE      {E : Bt}  (hE : A0    E) {p dm : Nat} {f : Tm → Option Tm} {L S0 : List Tm} {ds sb bb wb : Nat} {Hm : List (Nat × AX)}   {g : FuncId} {caps : List AV}
    (hbx:∀x∈D3 p dm ds sb bb wb (.func g [] caps),x∈Hm) (hL:S0.length+L.length<90000) (hS0:I5 S0) (hLk:∀t∈L,f t=none→∀k∈t.kids,k∈L) (hcb:W5 E p dm f L S0 Hm g caps):
    ∀n t,ix S0 t<n→t∈S0→t∈L→Pe E p dm f L S0 ds sb bb wb Hm t:=by
  intro n
  induction n with
  | zero=>intro t h;omega
  | succ n ih =>
    intro t hn ht htL H s S O D K hHm hw hK
    obtain⟨tv,fi,vm,OT,e⟩:=hw.st.ex
    have htS:=BY hw.pre ht
    obtain⟨m,j,r,hvm,rfl,hjO,hjr,hln,_⟩:=e.entry hw.st.ok (Cv htS.1)
    rw[Q7 hS0 hw.pre ht,htS.2,← hjr]at hln
    obtain⟨c0,c1,c2,c3,c4,c5,c6,hc,d0,d1,d2,d3,d4,d5,d6⟩:=t.cells7 (hS0.ok t ht)
    have hent:A7 S0 t m=[iv t.kind,iv t.id,iv (part S0 t 0),iv (part S0 t 1),iv (part S0 t 2),.str t.ktext,c0,c1,c2,c3,c4,c5,c6,iv (t.kids.length:Int),iv (t.sz:Int),.map (some m)]:=by
      simp only[A7,BB,hc,ZE,ZD]
    have hsm:=hw.small hL
    have hlook:=fun os=>Ot (s:=ext s os) (t:=t) (by rw[Wh hw.dl];exact hw.mp) htS.1 (fun u hu=>(BY hw.pre (hw.dL u hu).2.1).1) (by omega)
    simp only[htS.2]at hlook
    have hbH:∀x∈D3 p dm ds sb bb wb (.func g [] caps),x∈H:=fun x hx=>hHm x (hbx x hx)
    have hds:=hw.hd _ (hbH (ds,R 68 0 false [.map (some dm)]) (by simp[D3]))
    have hsb:=hw.hd _ (hbH (sb,R 25 0 false [.ptr (some (p,0))]) (by simp[D3]))
    have hbb:=hw.hd _ (hbH (bb,R 103 0 false [.func g [] caps]) (by simp[D3]))
    have gds:s.heap.get ds=some (R 68 0 false [.map (some dm)]):=hds.1
    have gsb:s.heap.get sb=some (R 25 0 false [.ptr (some (p,0))]):=hsb.1
    have gbb:s.heap.get bb=some (R 103 0 false [.func g [] caps]):=hbb.1
    have lds:ds<s.next:=hds.2.1
    have lsb:sb<s.next:=hsb.2.1
    have lbb:bb<s.next:=hbb.2.1
    have hplt:=e.plt
    have hobj:=e.obj
    have hjlt:=e.lt j hjO
    have hixt:ix S0 t<S.length:=by rw[← htS.2];exact Ep htS.1
    refine hE.go V6 (by decide) rfl ?_
    generalize hs:s.next=b at lds lsb lbb hplt hjlt
    have hs0:s=ext s []:=(AZ s).symm
    have hbw:=hw.old (AK (os:=[R 70 0 false (A7 S0 t m)]))
    have hgb:(ext s [R 70 0 false (A7 S0 t m)]).heap.get (nid b 0)=some (R 70 0 false (A7 S0 t m)):=by rw[Wg hs (by simp)];rfl
    have hlt:=hw.st.lt
    have hbw:=hbw.more hgb (by rw[Wm,hs,AH,AH];simp) (fun hm=>by have:=hlt _ hm;rw[AH]at this;omega) (by have:=hw.dl;rw[AH];omega)
    rw[hent]at hbw hgb hln
    rw[hs0]
    simp only[Y4,VM,VN,VO,Qa,Qb,Qc,Qd,Qe,Qf,Qg,Qh,Qi,Qj,Qk,Ql,Qm,Qn,true_and,and_true,Qo,Qp,Qq,Qr,Qs,Qt,Qu,Qv,Qw,Qx,Qy,Qz,Ra,Rb,Rc,Rd,Re,Rf,Rg,Rh,Ri,Rj,Rk,Rl,Rm,Ya,Yb,Yc,Rn,Ro,Xv,Yd,Ye,Rq,Rs,Rt,Ru,Rw,Rx,Ry,hs,gds,lds,OQ,hlook,Rz,Wa,Wb,Wc,Wd,We,Wf,Wg,Wh,Wi,Wj,Wl,Wm,Wn,Wp,Wq,Wr,Ws,Wt,Wu,Wv,Ww,Wx,Wy,Wz,Xa,Xb,Xc,Xd,Xe,Xf,Xg,Xh,Xi,Xj,Xk,Xl,Xm,Xn,Xo,Xp,Xq,Xr,ZC,ZF,ZE,ZD,ZH,ZI,List.getElem?_cons_zero,List.getElem?_cons_succ,ZG,ZJ,ZK,ZL,ZB,Nat.reduceAdd,Nat.reduceLT,Nat.reduceLeDiff,decide_true,decide_false,Bool.true_and,Bool.and_true,ZM,Y9,Option.some.injEq,Xs,Xt,Xu,Xv]
    by_cases hD:t∈D
    · simp only[hD,if_true,VP,Qa,Qb,Qc,Qd,Qe,Qf,Qg,Qh,Qi,Qj,Qk,Ql,Qm,Qn,true_and,and_true,Qo,Qp,Qq,Qr,Qs,Qt,Qu,Qv,Qw,Qx,Qy,Qz,Ra,Rb,Rc,Rd,Re,Rf,Rg,Rh,Ri,Rj,Rk,Rl,Rm,Ya,Yb,Yc,Rn,Ro,Xv,Yd,Ye,Rq,Rs,Rt,Ru,Rw,Rx,Ry,Rz,Wa,Wb,Wc,Wd,We,Wf,Wg,Wh,Wi,Wj,Wl,Wm,Wn,Wp,Wq,Wr,Ws,Wt,Wu,Wv,Ww,Wx,Wy,Wz,Xa,Xb,Xc,Xd,Xe,Xf,Xg,Xh,Xi,Xj,Xk,Xl,Xm,Xn,Xo,Xp,Xq,Xr,ZC,ZF,ZE,ZD,ZH,ZI,List.getElem?_cons_zero,List.getElem?_cons_succ,ZG,ZJ,ZK,ZL,ZB,Nat.reduceAdd,Nat.reduceLT,Nat.reduceLeDiff,decide_true,decide_false,Bool.true_and,Bool.and_true,ZM,Y9,Option.some.injEq,Xs,Xt,Xu,Xv]
      rw[AZ]
      exact hK s S O D hw (C2.refl _ _) (Ac.refl _ _) ⟨[],by simp⟩ (hw.dL t hD).2.2 (fun u hu=>.inl hu) (fun _ _=>rfl)
    · simp only [hD, if_false, VQ,    VR,    VS,    Qa, Qb, Qc, Qd, Qe, Qf, Qg, Qh, Qi, Qj, Qk, Ql, Qm, Qn, true_and, and_true, Qo, Qp, Qq, Qr, Qs, Qt, Qu, Qv, Qw, Qx, Qy, Qz, Ra, Rb, Rc, Rd, Re, Rf, Rg, Rh, Ri, Rj, Rk, Rl, Rm, Ya, Yb, Yc, Rn, Ro, Xv, Yd, Ye, Rq, Rs, Rt, Ru, Rw, Rx, Ry, hs, gsb, lsb, hplt, hobj, hjlt, F8,   L7,   F9,   ER,   Fj,     Ao        Tryz.underlying59 ER   hixt, hln, G5,   gbb, lbb, XA,    d0, d1, d2, d3, d4, d5, d6, Rz, Wa, Wb, Wc, Wd, We, Wf, Wg, Wh, Wi, Wj, Wl, Wm, Wn, Wp, Wq, Wr, Ws, Wt, Wu, Wv, Ww, Wx, Wy, Wz, Xa, Xb, Xc, Xd, Xe, Xf, Xg, Xh, Xi, Xj, Xk, Xl, Xm, Xn, Xo, Xp, Xq, Xr, ZC,               ZF,              ZE,               ZD,              ZH,                 ZI,                 List.getElem?_cons_zero, List.getElem?_cons_succ, ZG,             ZJ,                  ZK,                  ZL,             ZB,           Nat.reduceAdd, Nat.reduceLT, Nat.reduceLeDiff, decide_true, decide_false, Bool.true_and, Bool.and_true, ZM,             Y9,          Option.some.injEq, Xs, Xt, Xu, Xv]
      have hcb':=fun K=>hcb _ _ S O D t m K (fun x hx=>ZQ _ (hHm x hx)) hbw ht htL
      rw[hent]at hcb'
      refine hcb' _ fun s' S' O' x bo g1 g2 g3 g4 g5 g6=>?_
      have hb1:C2 (dm::O) s s':=((AK.frO O).trans g3 (Ac.refl O s)).weak dm
      have hgr:Ac O O' s:=Ac.trans (Ac.refl O s) g4 (by rw[Wm,AH];omega)
      have hpre:∃x,S'=S++x:=by
        rcases g5 with rfl | ⟨u,rfl⟩
        · exact⟨[],by simp⟩
        · exact Lg
      have hlen':S'.length≤S.length+1:=by
        rcases g5 with rfl | ⟨u,rfl⟩
        · omega
        · exact Et
      have hheld:=hbw.hd.step (g3.weak dm) g4
      have hmp:s'.heap.get dm=some (.map 3 (Eh f S' D)):=by
        rw[g3.2 dm hbw.dl hw.dO,JN hpre fun u hu=>⟨(BY hw.pre (hw.dL u hu).2.1).1,(hw.dL u hu).2.2⟩];exact hbw.mp
      have hdl:dm<s'.next:=ZS hbw.dl g3.1
      have hdO:dm ∉ O':=fun hm=>(g4 dm hm).elim hw.dO (fun hl=>by have:=hbw.dl;omega)
      have hdL:∀u∈D,u∈L∧u∈S0∧B4 f u∈S':=fun u hu=>⟨(hw.dL u hu).1,(hw.dL u hu).2.1,(BY hpre (hw.dL u hu).2.2).1⟩
      have hlen:=hw.len
      have hend:=fun a5 a6 a7 a8 a10 a11 a12 a13 a14 a15 a16 a17 a18 a19 a20 hcS hlf=>Ly (E:=E) (K:=K) hbH hL ht htL g1 g2 (fun x hx=>hheld x (ZQ _ hx)) hmp hdl hdO (FD hw.pre hpre) (by omega) hw.dn hdL hcS hD a5 a6 a7 a8 a10 a11 a12 a13 a14 a15 a16 a17 a18 a19 a20 fun s2 k1 k2 k3 =>
        hK s2 S' O' (D++[t]) k1 ⟨by rw[k2];exact hb1.1,fun j hj hjm=>by rw[k3 j fun e=>hjm (Zd.2 (.inl e))];exact hb1.2 j hj hjm⟩ hgr hpre hcS (fun u hu=>by
          rcases List.mem_append.1 hu with h | h
          · exact .inl h
          · rw[List.mem_singleton.1 h];exact .inr (Y9 _)) hlf
      rcases g6 with⟨rfl,u,hfu,huS,rfl⟩ | ⟨rfl,hfn,rfl⟩
      · have hcu:=QQ hfu
        rw[hcu]at hend
        simp only[NV,VT,Qa,Qb,Qc,Qd,Qe,Qf,Qg,Qh,Qi,Qj,Qk,Ql,Qm,Qn,true_and,and_true,Qo,Qp,Qq,Qr,Qs,Qt,Qu,Qv,Qw,Qx,Qy,Qz,Ra,Rb,Rc,Rd,Re,Rf,Rg,Rh,Ri,Rj,Rk,Rl,Rm,Ya,Yb,Yc,Rn,Ro,Xv,Yd,Ye,Rq,Rs,Rt,Ru,Rw,Rx,Ry,Rz,Wa,Wb,Wc,Wd,We,Wf,Wg,Wh,Wi,Wj,Wl,Wm,Wn,Wp,Wq,Wr,Ws,Wt,Wu,Wv,Ww,Wx,Wy,Wz,Xa,Xb,Xc,Xd,Xe,Xf,Xg,Xh,Xi,Xj,Xk,Xl,Xm,Xn,Xo,Xp,Xq,Xr,ZC,ZF,ZE,ZD,ZH,ZI,List.getElem?_cons_zero,List.getElem?_cons_succ,ZG,ZJ,ZK,ZL,ZB,Nat.reduceAdd,Nat.reduceLT,Nat.reduceLeDiff,decide_true,decide_false,Bool.true_and,Bool.and_true,ZM,Y9,Option.some.injEq,Xs,Xt,Xu,Xv]
        exact hend _ _ _ _ _ _ _ _ _ _ _ _ _ _ _ huS (fun h=>by rw[hfu]at h;cases h)
      · rcases Zp                 t.kids.length with h0 | h0
        · have hk0 : t.kids = [] := Zr                            h0
          have hct:=QP hfn hk0
          rw[hct,(BY hw.pre ht).2]at hend
          have hgt:decide ((0:Int)<((0:Nat):Int))=false:=rfl
          have hgb2:s'.heap.get (nid b 0)=_:=(hheld _ (ZU)).1
          simp only[NV,QK,Qa,Qb,Qc,Qd,Qe,Qf,Qg,Qh,Qi,Qj,Qk,Ql,Qm,Qn,true_and,and_true,Qo,Qp,Qq,Qr,Qs,Qt,Qu,Qv,Qw,Qx,Qy,Qz,Ra,Rb,Rc,Rd,Re,Rf,Rg,Rh,Ri,Rj,Rk,Rl,Rm,Ya,Yb,Yc,Rn,Ro,Xv,Yd,Ye,Rq,Rs,Rt,Ru,Rw,Rx,Ry,Rz,Wa,Wb,Wc,Wd,We,Wf,Wg,Wh,Wi,Wj,Wl,Wm,Wn,Wp,Wq,Wr,Ws,Wt,Wu,Wv,Ww,Wx,Wy,Wz,Xa,Xb,Xc,Xd,Xe,Xf,Xg,Xh,Xi,Xj,Xk,Xl,Xm,Xn,Xo,Xp,Xq,Xr,ZC,ZF,ZE,ZD,ZH,ZI,List.getElem?_cons_zero,List.getElem?_cons_succ,ZG,ZJ,ZK,ZL,ZB,Nat.reduceAdd,Nat.reduceLT,Nat.reduceLeDiff,decide_true,decide_false,Bool.true_and,Bool.and_true,ZM,Y9,Option.some.injEq,Xs,Xt,Xu,Xv,hgb2,h0,IH,Dx,Rs,hgt]
          exact hend _ _ _ _ _ _ _ _ _ _ _ _ _ _ _ htS.1 (fun _ _=>rfl)
        · have hgt : decide ((0 : Int) < (t.kids.length : Int)) = true := decide_eq_true (by omega)
          have hgb2:s'.heap.get (nid b 0)=_:=(hheld _ (ZU)).1
          have hkn:t.kids≠[]:=fun e=>by rw[e]at h0;cases h0
          obtain⟨q1,q2⟩:=QO hfn
          obtain⟨q3,q4,q5,q6,q7⟩:=q2 hkn
          have hw1:Wk p dm f L S0 ((nid b 0,R 70 0 false [iv t.kind,iv t.id,iv (part S0 t 0),iv (part S0 t 1),iv (part S0 t 2),.str t.ktext,c0,c1,c2,c3,c4,c5,c6,iv (t.kids.length:Int),iv (t.sz:Int),.map (some m)])::H) s' S' O' D:=
            { st:=g1,gl:=g2,hd:=hheld,mp:=hmp,dl:=hdl,dO:=hdO,pre:=hw.pre,len:=hw.len,dn:=hw.dn,dL:=hdL }
          have hkS:∀k∈t.kids,k∈S0∧ix S0 k<ix S0 t:=fun k hk=>hS0.kid ht hk
          simp only[NV,QK,QE,QF,Qa,Qb,Qc,Qd,Qe,Qf,Qg,Qh,Qi,Qj,Qk,Ql,Qm,Qn,true_and,and_true,Qo,Qp,Qq,Qr,Qs,Qt,Qu,Qv,Qw,Qx,Qy,Qz,Ra,Rb,Rc,Rd,Re,Rf,Rg,Rh,Ri,Rj,Rk,Rl,Rm,Ya,Yb,Yc,Rn,Ro,Xv,Yd,Ye,Rq,Rs,Rt,Ru,Rw,Rx,Ry,Rz,Wa,Wb,Wc,Wd,We,Wf,Wg,Wh,Wi,Wj,Wl,Wm,Wn,Wp,Wq,Wr,Ws,Wt,Wu,Wv,Ww,Wx,Wy,Wz,Xa,Xb,Xc,Xd,Xe,Xf,Xg,Xh,Xi,Xj,Xk,Xl,Xm,Xn,Xo,Xp,Xq,Xr,ZC,ZF,ZE,ZD,ZH,ZI,List.getElem?_cons_zero,List.getElem?_cons_succ,ZG,ZJ,ZK,ZL,ZB,Nat.reduceAdd,Nat.reduceLT,Nat.reduceLeDiff,decide_true,decide_false,Bool.true_and,Bool.and_true,ZM,Y9,Option.some.injEq,Xs,Xt,Xu,Xv,hgb2,IH,Be,IG,Dx,Rs,hgt,OC (KG t),A8 Tryz.underlying27]
          refine Ou (E:=E) (sB:=s') (OA:=O') (SA:=S') (DA:=D) hbx (fun x hx=>ZQ _ (hHm x hx)) hL (Cd t) (fun k hk=>ih k (by have:=(hkS k hk).2;omega) (hkS k hk).1 (hLk t htL hfn k hk)) ZU (fun k u hku=>?_) _ _ _ _ _ _ _ _ _ _ t.kids [] s' S' O' D _ [] _ _ rfl hw1 (F3.nil _ _ _) (fun _ h=>by cases h) (fun _ h=>by cases h) (C2.refl _ _) (Ac.refl _ _) ⟨[],by simp⟩ (fun _ h=>by cases h) (fun u hu=>.inl hu) ?_
          · have hk3 := Cd         t
            have hlt3:k<t.kids.length:=by
              rcases ZO k t.kids.length with h' | h'
              · exact h'
              · rw[ZT h']at hku;cases hku
            have hpk:part S0 t k=(ix S0 u:Int):=by unfold part;rw[hku]
            have:k=0∨k=1∨k=2:=by omega
            rcases this with rfl | rfl | rfl<;>simp[hpk]
          · intro s2 S2 O2 D2 v2 OB2 y13 y19 y20 k1 k2 k3 k4 k5 k6 k7
            have gsb2:s2.heap.get sb=some (R 25 0 false [.ptr (some (p,0))]):=(k1.hd _ (ZQ _ (hbH (sb,R 25 0 false [.ptr (some (p,0))]) (by simp[D3])))).1
            have gb2:s2.heap.get (nid b 0)=_:=(k1.hd _ (ZU)).1
            have hrd:=k2.rd
            have hpa:BW s2 S2 (B4 f t).kids v2:=by
              rw[q1]
              refine Ap.parts (l:=t.kids.map (B4 f)) ?_ (by rw[ZY];exact h0)
              rw[Zx];exact hrd
            have hput:=fun K=>EA (K:=K) hE k1.st (by have:=k1.small hL;omega) (B7.refl _ _) (B4 f t) (fun k hk=>by rw[q1]at hk;obtain⟨x,hx,rfl⟩:=List.mem_map.1 hk;exact k6 x hx) q7 hpa
            rw[q3,q4,q5,q6]at hput
            simp only[Qa,Qb,Qc,Qd,Qe,Qf,Qg,Qh,Qi,Qj,Qk,Ql,Qm,Qn,true_and,and_true,Qo,Qp,Qq,Qr,Qs,Qt,Qu,Qv,Qw,Qx,Qy,Qz,Ra,Rb,Rc,Rd,Re,Rf,Rg,Rh,Ri,Rj,Rk,Rl,Rm,Ya,Yb,Yc,Rn,Ro,Xv,Yd,Ye,Rq,Rs,Rt,Ru,Rw,Rx,Ry]
            rw[if_pos trivial]
            simp only[QJ,Qa,Qb,Qc,Qd,Qe,Qf,Qg,Qh,Qi,Qj,Qk,Ql,Qm,Qn,true_and,and_true,Qo,Qp,Qq,Qr,Qs,Qt,Qu,Qv,Qw,Qx,Qy,Qz,Ra,Rb,Rc,Rd,Re,Rf,Rg,Rh,Ri,Rj,Rk,Rl,Rm,Ya,Yb,Yc,Rn,Ro,Xv,Yd,Ye,Rq,Rs,Rt,Ru,Rw,Rx,Ry,gsb2,gb2,F8,Be,Bg,Dx,NK,CG,Rz,Wa,Wb,Wc,Wd,We,Wf,Wg,Wh,Wi,Wj,Wl,Wm,Wn,Wp,Wq,Wr,Ws,Wt,Wu,Wv,Ww,Wx,Wy,Wz,Xa,Xb,Xc,Xd,Xe,Xf,Xg,Xh,Xi,Xj,Xk,Xl,Xm,Xn,Xo,Xp,Xq,Xr,ZC,ZF,ZE,ZD,ZH,ZI,List.getElem?_cons_zero,List.getElem?_cons_succ,ZG,ZJ,ZK,ZL,ZB,Nat.reduceAdd,Nat.reduceLT,Nat.reduceLeDiff,decide_true,decide_false,Bool.true_and,Bool.and_true,ZM,Y9,Option.some.injEq,Xs,Xt,Xu,Xv]
            refine hput _ fun s3 O3 j1 j2 j3=>?_
            have htD2:t ∉ D2:=fun hm=>by
              rcases k7 t hm with h' | ⟨k,hk,h'⟩
              · exact hD h'
              · have:=(hkS k hk).2;omega
            have hpre3:∃x,push S2 (B4 f t)=S2++x:=Lg
            have hfr2:C2 (dm::O) s s2:=hb1.trans k3 (hgr.cons dm)
            have hgr2:Ac O O2 s:=hgr.trans k4 hb1.1
            simp only[Qa,Qb,Qc,Qd,Qe,Qf,Qg,Qh,Qi,Qj,Qk,Ql,Qm,Qn,true_and,and_true,Qo,Qp,Qq,Qr,Qs,Qt,Qu,Qv,Qw,Qx,Qy,Qz,Ra,Rb,Rc,Rd,Re,Rf,Rg,Rh,Ri,Rj,Rk,Rl,Rm,Ya,Yb,Yc,Rn,Ro,Xv,Yd,Ye,Rq,Rs,Rt,Ru,Rw,Rx,Ry]
            refine Ly hbH hL ht htL j1 (k1.gl.step j2 j3) (fun x hx=>(k1.hd.step (j2.weak dm) j3) x (ZQ _ hx)) (D:=D2) ?_ (ZS k1.dl j2.1) (fun hm=>(j3 dm hm).elim k1.dO (fun hl=>by have:=k1.dl;omega)) (FD k1.pre hpre3) (by have:=Et (S:=S2) (u:=B4 f t);have:=k1.len;omega) k1.dn (fun u hu=>⟨(k1.dL u hu).1,(k1.dL u hu).2.1,Iq (k1.dL u hu).2.2⟩) DX htD2 _ _ _ _ _ _ _ _ _ _ _ _ _ _ _ ?_
            · rw[j2.2 dm k1.dl k1.dO,JN hpre3 fun u hu=>⟨(BY k1.pre (k1.dL u hu).2.1).1,(k1.dL u hu).2.2⟩];exact k1.mp
            · intro s4 e1 e2 e3
              have hfr3:C2 (dm::O) s s3:=hfr2.trans (j2.weak dm) (hgr2.cons dm)
              refine hK s4 _ O3 (D2++[t]) e1 ⟨by rw[e2];exact hfr3.1,fun j hj hjm=>by rw[e3 j fun e=>hjm (Zd.2 (.inl e))];exact hfr3.2 j hj hjm⟩ (hgr2.trans j3 hfr2.1) (FD k5 hpre3) DX (fun u hu=>?_) (fun _ h=>absurd h hkn)
              rcases List.mem_append.1 hu with h | h
              · rcases k7 u h with h | ⟨k, hk, h⟩
                · exact .inl h
                · exact .inr (by have:=(hkS k hk).2;omega)
              · rw[List.mem_singleton.1 h];exact .inr (Y9 _)
theorem Yj:Bw Tryz.prog 31=some .nilFunc:=by kernel_rfl
theorem IV:AV.nilFunc.isCell=true:=rfl
theorem I6:AV.nilFunc.cells=[.nilFunc]:=rfl
def L4(E:Bt)(p:Nat)(f:Tm→Option Tm)(L S0:List Tm)(Hc:List (Nat×AX))(g:FuncId)(caps:List AV):Prop:=
 ∀ (dm:Nat) (Hm:List (Nat×AX)),(∀x∈Hc,x∈Hm)→W5 E p dm f L S0 Hm g caps
set_option maxRecDepth 20000 in
theorem JM{E:Bt}(hE:A0 E){s:AE}{p:Nat}{S:List Tm}{O:List Nat}(h:AN s p S O)(hg:BZ s O){f:Tm→Option Tm}{L:List Tm}(hL:S.length+L.length<90000)
  (hLk:∀t∈L,f t=none→∀k∈t.kids,k∈L) {Hc:List (Nat×AX)} (hHc:∀x∈Hc,s.heap.get x.1=some x.2∧x.1<s.next∧x.1 ∉ O) {g:FuncId} {caps:List AV} (hcb:L4 E p f L S Hc g caps) {t:Tm} (ht:t∈S) (htL:t∈L) {K:AV→AE→Prop}
  (hK:∀s' S' O',AN s' p S' O'→BZ s' O'→C2 O s s'→Ac O O' s→(∃x,S'=S++x)→S'.length≤S.length+L.length→B4 f t∈S'→(f t=none→t.kids=[]→S'=S)→K (iv (ix S' (B4 f t):Int)) s'):
  WF E 33 [.ptr (some (p,0)),iv (ix S t:Int),.func g [] caps] K s:=by
 refine hE.go Vz (by decide) rfl ?_
 have hlt:=h.lt
 have hg1:=hg.2.1
 generalize hs:s.next=b at hg1
 have hs0:s=ext s []:=(AZ s).symm
 rw[hs0]
 simp only[Yy,Uv,Uw,Ux,Uy,Uz,Qa,Qb,Qc,Qd,Qe,Qf,Qg,Qh,Qi,Qj,Qk,Ql,Qm,Qn,true_and,and_true,Qo,Qp,Qq,Qr,Qs,Qt,Qu,Qv,Qw,Qx,Qy,Qz,Ra,Rb,Rc,Rd,Re,Rf,Rg,Rh,Ri,Rj,Rk,Rl,Rm,Ya,Yb,Yc,Rn,Ro,Xv,Yd,Ye,Rq,Rs,Rt,Ru,Rw,Rx,Ry,hs,No,Yl,Yf,OQ,Yj,YY,XB,IV,I6,Rz,Wa,Wb,Wc,Wd,We,Wf,Wg,Wh,Wi,Wj,Wl,Wm,Wn,Wp,Wq,Wr,Ws,Wt,Wu,Wv,Ww,Wx,Wy,Wz,Xa,Xb,Xc,Xd,Xe,Xf,Xg,Xh,Xi,Xj,Xk,Xl,Xm,Xn,Xo,Xp,Xq,Xr,ZC,ZF,ZE,ZD,ZH,ZI,List.getElem?_cons_zero,List.getElem?_cons_succ,ZG,ZJ,ZK,ZL,ZB,Nat.reduceAdd,Nat.reduceLT,Nat.reduceLeDiff,decide_true,decide_false,Bool.true_and,Bool.and_true,ZM,Y9,Option.some.injEq,Xs,Xt,Xu,Xv]
 have hst:=h.old (AK (os:=[R 25 0 false [.ptr (some (p,0))],R 103 0 false [.func g [] caps],.map 3 [],R 68 0 false [.map (some (nid b 2))],R 31 0 false [GZ (nid b 3) (nid b 0) (nid b 1) (nid b 4)]]))
 have hgl:=hg.old (AK (os:=[R 25 0 false [.ptr (some (p,0))],R 103 0 false [.func g [] caps],.map 3 [],R 68 0 false [.map (some (nid b 2))],R 31 0 false [GZ (nid b 3) (nid b 0) (nid b 1) (nid b 4)]]))
 have hnx:(ext s [R 25 0 false [.ptr (some (p,0))],R 103 0 false [.func g [] caps],.map 3 [],R 68 0 false [.map (some (nid b 2))],R 31 0 false [GZ (nid b 3) (nid b 0) (nid b 1) (nid b 4)]]).next=b+5:=by rw[Wm,hs,AH];rfl
 have hnO:∀k,nid b k ∉ O:=fun k hm=>by have:=hlt _ hm;rw[AH]at this;omega
 have hne:∀k,k≠2→nid b k≠nid b 2:=fun k hk=>by rw[AH,AH];omega
 have hnl:∀k,k<5→nid b k<b+5:=fun k hk=>by rw[AH];omega
 have hw:Wk p (nid b 2) f L S (D3 p (nid b 2) (nid b 3) (nid b 0) (nid b 1) (nid b 4) (.func g [] caps)++Hc) (ext s [R 25 0 false [.ptr (some (p,0))],R 103 0 false [.func g [] caps],.map 3 [],R 68 0 false [.map (some (nid b 2))],R 31 0 false [GZ (nid b 3) (nid b 0) (nid b 1) (nid b 4)]]) S O []:=by
  refine⟨hst,hgl,?_,by rw[Wg hs (by simp)];rfl,by rw[hnx];exact hnl 2 (by omega),hnO 2,⟨[],by simp⟩,by simp,List.nodup_nil,fun _ h=>by cases h⟩
  intro x hx
  rw[hnx]
  rcases List.mem_append.1 hx with hx | hx
  ·simp only[D3,Zd,Zj,or_false]at hx
   rcases hx with rfl | rfl | rfl | rfl
   ·exact⟨by rw[Wg hs (by simp)];rfl,hnl 3 (by omega),hnO 3,hne 3 (by omega)⟩
   ·exact⟨by rw[Wg hs (by simp)];rfl,hnl 0 (by omega),hnO 0,hne 0 (by omega)⟩
   ·exact⟨by rw[Wg hs (by simp)];rfl,hnl 1 (by omega),hnO 1,hne 1 (by omega)⟩
   ·exact⟨by rw[Wg hs (by simp)];rfl,hnl 4 (by omega),hnO 4,hne 4 (by omega)⟩
  ·obtain⟨h1,h2,h3⟩:=hHc x hx
   exact⟨by rw[Wh h2];exact h1,by omega,h3,by rw[AH];omega⟩
 refine UE hE (Hm:=D3 p (nid b 2) (nid b 3) (nid b 0) (nid b 1) (nid b 4) (.func g [] caps)++Hc) (fun x hx=>Z3 _ hx) hL h.ok hLk (hcb _ _ fun x hx=>Zt _ hx) (ix S t+1) t (by omega) ht htL _ _ S O [] _ (fun x hx=>hx) hw ?_
 intro s' S' O' D' k1 k2 k3 k4 k5 k6 k7
 simp only[Qa,Qb,Qc,Qd,Qe,Qf,Qg,Qh,Qi,Qj,Qk,Ql,Qm,Qn,true_and,and_true,Qo,Qp,Qq,Qr,Qs,Qt,Qu,Qv,Qw,Qx,Qy,Qz,Ra,Rb,Rc,Rd,Re,Rf,Rg,Rh,Ri,Rj,Rk,Rl,Rm,Ya,Yb,Yc,Rn,Ro,Xv,Yd,Ye,Rq,Rs,Rt,Ru,Rw,Rx,Ry]
 have hnx2:=hnx
 simp only[GZ]at hnx2
 have hDl:=Eu k1.dn fun u hu=>(k1.dL u hu).1
 have hl:=k1.len
 refine hK s' S' O' k1.st k1.gl ⟨by have:=k2.1;rw[hnx2]at this;omega,fun j hj hjO=>?_⟩ (Ac.trans (Ac.refl O s) k3 (by rw[hnx2];omega)) k4 (by omega) k5 k7
 rw[k2.2 j (by rw[hnx2];omega) fun hm=>(Zd.1 hm).elim (fun e=>by rw[e,AH]at hj;omega) hjO,Wh hj]
theorem OI{n:Nat}{S:List Tm}{l:List Int}:(EV n S l).length≤S.length+1:=by
 rcases I0 (n:=n) (S:=S) l with e | e<;>rw[e]
 ·omega
 ·exact Et
def Ma(l:List Int)(x:Int):Int:=if x∈l then (l.idxOf x:Int)else -1
theorem WJ     {E : Bt}  (hE : A0    E) {s : AE}  {v : AV} {l : List Int} (h : Ap     s v l) (hl : l.length ≤ 1000000) {x : Int} {K : AV → AE  → Prop} (hK : K (iv (Ma   l x)) s) : WF E 36 [v, iv x] K s := by
  refine hE.go V2 (by decide) rfl ?_
  have hlen:=h.len
  simp only[Y1,U8,U9,hlen,Qa,Qb,Qc,Qd,Qe,Qf,Qg,Qh,Qi,Qj,Qk,Ql,Qm,Qn,true_and,and_true,Qo,Qp,Qq,Qr,Qs,Qt,Qu,Qv,Qw,Qx,Qy,Qz,Ra,Rb,Rc,Rd,Re,Rf,Rg,Rh,Ri,Rj,Rk,Rl,Rm,Ya,Yb,Yc,Rn,Ro,Xv,Yd,Ye,Rq,Rs,Rt,Ru,Rw,Rx,Ry,Rz,Wa,Wb,Wc,Wd,We,Wf,Wg,Wh,Wi,Wj,Wl,Wm,Wn,Wp,Wq,Wr,Ws,Wt,Wu,Wv,Ww,Wx,Wy,Wz,Xa,Xb,Xc,Xd,Xe,Xf,Xg,Xh,Xi,Xj,Xk,Xl,Xm,Xn,Xo,Xp,Xq,Xr,ZC,ZF,ZE,ZD,ZH,ZI,List.getElem?_cons_zero,List.getElem?_cons_succ,ZG,ZJ,ZK,ZL,ZB,Nat.reduceAdd,Nat.reduceLT,Nat.reduceLeDiff,decide_true,decide_false,Bool.true_and,Bool.and_true,ZM,Y9,Option.some.injEq,Xs,Xt,Xu,Xv]
  have key:∀ (l2 l1:List Int) (a3 a6 a7:AV),l=l1++l2→x ∉ l1→WC E none (Ai.loop JK) (A2 0 (Kg (fun x_1 x_2 x_3=>Qb E QB (fun v s'=>KZ (CR s' x_2) fun s'=>K (JC v 2) s') [] x_1 x_3) (Ends Tryz.prog [(CX.var 2,none)] K)))
      [v,iv x,iv 0,a3,iv (l.length:Int),iv (l1.length:Int),a6,a7] [] s:=by
    intro l2
    induction l2 with
    | nil =>
      intro l1 a3 a6 a7 hll hx
      refine WC.loop' ?_
      have hlt:¬ ((l1.length:Int)<(l.length:Int)):=by rw[hll];simp
      simp only[JK,NR,hlt,decide_false,Qa,Qb,Qc,Qd,Qe,Qf,Qg,Qh,Qi,Qj,Qk,Ql,Qm,Qn,true_and,and_true,Qo,Qp,Qq,Qr,Qs,Qt,Qu,Qv,Qw,Qx,Qy,Qz,Ra,Rb,Rc,Rd,Re,Rf,Rg,Rh,Ri,Rj,Rk,Rl,Rm,Ya,Yb,Yc,Rn,Ro,Xv,Yd,Ye,Rq,Rs,Rt,Ru,Rw,Rx,Ry,Rq]
      rw[if_pos trivial]
      simp only[QB,Qa,Qb,Qc,Qd,Qe,Qf,Qg,Qh,Qi,Qj,Qk,Ql,Qm,Qn,true_and,and_true,Qo,Qp,Qq,Qr,Qs,Qt,Qu,Qv,Qw,Qx,Qy,Qz,Ra,Rb,Rc,Rd,Re,Rf,Rg,Rh,Ri,Rj,Rk,Rl,Rm,Ya,Yb,Yc,Rn,Ro,Xv,Yd,Ye,Rq,Rs,Rt,Ru,Rw,Rx,Ry]
      have hx2:Ma l x=-1:=by unfold Ma;rw[if_neg (by rw[hll];simpa using hx)]
      rw[hx2]at hK
      exact hK
    | cons y l2 ih =>
      intro l1 a3 a6 a7 hll hx
      refine WC.loop' ?_
      obtain⟨W,hW⟩:∃W,W=Ai.loop JK:=⟨_,rfl⟩
      rw[← hW]
      have hlt:((l1.length:Int)<(l.length:Int)):=by rw[hll];simp;omega
      have hltn:l1.length<l.length:=by omega
      have hadd:i64 ((l1.length:Int)+1):=by unfold i64;omega
      obtain⟨j,q,cap,rfl,hj,hld⟩:=h.at (k:=l1.length) (x:=y) (by rw[hll];simp)
      by_cases e:x=y
      · have hd:decide (x=y)=true:=decide_eq_true e
        simp only[JK,NR,P9,QA,VA,hlt,decide_true,Qa,Qb,Qc,Qd,Qe,Qf,Qg,Qh,Qi,Qj,Qk,Ql,Qm,Qn,true_and,and_true,Qo,Qp,Qq,Qr,Qs,Qt,Qu,Qv,Qw,Qx,Qy,Qz,Ra,Rb,Rc,Rd,Re,Rf,Rg,Rh,Ri,Rj,Rk,Rl,Rm,Ya,Yb,Yc,Rn,Ro,Xv,Yd,Ye,Rq,Rs,Rt,Ru,Rw,Rx,Ry,Rq,Rw,Ao Tryz.underlying27 Ho hltn,Dx,hld,hd,Zf,Rz,Wa,Wb,Wc,Wd,We,Wf,Wg,Wh,Wi,Wj,Wl,Wm,Wn,Wp,Wq,Wr,Ws,Wt,Wu,Wv,Ww,Wx,Wy,Wz,Xa,Xb,Xc,Xd,Xe,Xf,Xg,Xh,Xi,Xj,Xk,Xl,Xm,Xn,Xo,Xp,Xq,Xr,ZC,ZF,ZE,ZD,ZH,ZI,List.getElem?_cons_zero,List.getElem?_cons_succ,ZG,ZJ,ZK,ZL,ZB,Nat.reduceAdd,Nat.reduceLT,Nat.reduceLeDiff,decide_true,decide_false,Bool.true_and,Bool.and_true,ZM,Y9,Option.some.injEq,Xs,Xt,Xu,Xv]
        subst e
        have hx2:Ma l x=(l1.length:Int):=by
          unfold Ma
          rw[if_pos (by rw[hll];simp),hll,List.idxOf_append,if_neg hx]
          simp
        rw[hx2]at hK
        exact hK
      · have hd : decide (x = y) = false := decide_eq_false e
        have:=ih (l1++[y]) (iv (l1.length:Int)) (.bool true) (.bool false) (by rw[hll];simp) (by simp[hx,e])
        rw[← hW,show(l1++[y]).length=l1.length+1 from by simp]at this
        simp only[JK,NR,P9,QA,VB,hlt,decide_true,Qa,Qb,Qc,Qd,Qe,Qf,Qg,Qh,Qi,Qj,Qk,Ql,Qm,Qn,true_and,and_true,Qo,Qp,Qq,Qr,Qs,Qt,Qu,Qv,Qw,Qx,Qy,Qz,Ra,Rb,Rc,Rd,Re,Rf,Rg,Rh,Ri,Rj,Rk,Rl,Rm,Ya,Yb,Yc,Rn,Ro,Xv,Yd,Ye,Rq,Rs,Rt,Ru,Rw,Rx,Ry,Rq,Rw,Ao Tryz.underlying27 Ho hltn,Dx,hld,hd,Zf,By _ _ _ _ hadd,Rz,Wa,Wb,Wc,Wd,We,Wf,Wg,Wh,Wi,Wj,Wl,Wm,Wn,Wp,Wq,Wr,Ws,Wt,Wu,Wv,Ww,Wx,Wy,Wz,Xa,Xb,Xc,Xd,Xe,Xf,Xg,Xh,Xi,Xj,Xk,Xl,Xm,Xn,Xo,Xp,Xq,Xr,ZC,ZF,ZE,ZD,ZH,ZI,List.getElem?_cons_zero,List.getElem?_cons_succ,ZG,ZJ,ZK,ZL,ZB,Nat.reduceAdd,Nat.reduceLT,Nat.reduceLeDiff,decide_true,decide_false,Bool.true_and,Bool.and_true,ZM,Y9,Option.some.injEq,Xs,Xt,Xu,Xv]
        exact this
  exact key l [] _ _ _ rfl (by simp)
def EH(ids:List Int):Tm→Option Tm
 | .bnd i=>some (.bnd (i+(ids.length:Int)))
 | .var i=>if i∈ids then some (.bnd (ids.idxOf i:Int))else none
 | _=>none
theorem QS       {E : Bt}  (hE : A0    E) {p : Nat} {L S0 : List Tm} (hL : S0.length + L.length < 90000) (hbnd : ∀ i, Tm.bnd i ∈ L → i < 1000000000) {lb sb : Nat} {v : AV} {ids : List Int} (hl : ids.length ≤ 1000000) {Hv : List (Nat × AX)}   (hv : ∀ (s : AE),  (∀ x ∈ Hv, s.heap.get x.1 = some x.2 ∧ x.1 < s.next) → Ap     s v ids) :
    L4 E p (EH ids) L S0 ([(lb,R 27 0 false [v]),(sb,R 25 0 false [.ptr (some (p,0))])]++Hv) 35 [.ptr (some (lb,0)),.ptr (some (sb,0))]:=by
  intro dm Hm hHc H s S O D t m K hHm hw ht htL hK
  have hlbx:=hw.hd _ (hHm _ (hHc (lb,R 27 0 false [v]) (by simp)))
  have hsbx:=hw.hd _ (hHm _ (hHc (sb,R 25 0 false [.ptr (some (p,0))]) (by simp)))
  have hvr:Ap s v ids:=hv s fun x hx=>⟨(hw.hd _ (hHm _ (hHc x (Zt _ hx)))).1,(hw.hd _ (hHm _ (hHc x (Zt _ hx)))).2.1⟩
  have glb:s.heap.get lb=some (R 27 0 false [v]):=hlbx.1
  have gsb:s.heap.get sb=some (R 25 0 false [.ptr (some (p,0))]):=hsbx.1
  have llb:lb<s.next:=hlbx.2.1
  have lsb:sb<s.next:=hsbx.2.1
  have hvcell:v.isCell=true∧v.cells=[v]:=by
    rcases hvr with⟨_,rfl⟩ | ⟨_,_,_,rfl,_⟩<;>exact⟨rfl,rfl⟩
  have htok:=hw.st.ok.ok t (BY hw.pre ht).1
  obtain⟨c0,c1,c2,c3,c4,c5,c6,hc,d0,d1,d2,d3,d4,d5,d6⟩:=t.cells7 htok
  have hsm:=hw.small hL
  refine hE.go V1 (by decide) rfl ?_
  have hend:∀os (x:AV),EH ids t=none→K (.tuple [x,.bool false]) (ext s os):=fun os x hx =>
    hK (ext s os) S O x false (hw.st.old AK) (hw.gl.old AK) (AK.frO O) (Ac.refl O s) (.inl rfl) (.inr ⟨rfl,hx,rfl⟩)
  have hbn:=fun os (i:Int) (hi:i64 i) (K:AV→AE→Prop)=>Kl (K:=K) hE (hw.st.old (AK (os:=os))) (by omega) hi
  have hput:∀os (i:Int) s' O',0≤i→EH ids t=some (.bnd i)→AN s' p (push S (.bnd (max i 0))) O'→C2 O (ext s os) s'→Ac O O' (ext s os)→K (.tuple [iv (ix (push S (.bnd (max i 0))) (.bnd (max i 0)):Int),.bool true]) s':=fun os i s' O' h0 hf g1 g2 g3=>by
    rw[Int.max_eq_left h0]at *
    have hgl:BZ s' O':=(hw.gl.old (AK (os:=os))).step g2 g3
    exact hK s' _ O' _ true g1 hgl ((AK.frO O).trans g2 (Ac.refl O s)) (Ac.trans (Ac.refl O s) g3 (by rw[Wm,AH];omega)) (.inr ⟨_,rfl⟩) (.inl ⟨rfl,_,hf,DX,rfl⟩)
  have hix:=fun os (x:Int) (K:AV→AE→Prop)=>WJ (K:=K) hE (hvr.old (AK (os:=os))) hl (x:=x)
  have hlen:=hvr.len
  generalize hs:s.next=b at llb lsb
  have hs0:s=ext s []:=(AZ s).symm
  rw[hs0]
  simp only[Y0,U4,U5,A7,BB,hc,Qa,Qb,Qc,Qd,Qe,Qf,Qg,Qh,Qi,Qj,Qk,Ql,Qm,Qn,true_and,and_true,Qo,Qp,Qq,Qr,Qs,Qt,Qu,Qv,Qw,Qx,Qy,Qz,Ra,Rb,Rc,Rd,Re,Rf,Rg,Rh,Ri,Rj,Rk,Rl,Rm,Ya,Yb,Yc,Rn,Ro,Xv,Yd,Ye,Rq,Rs,Rt,Ru,Rw,Rx,Ry,hs,glb,gsb,llb,lsb,Js,Dx,Be,Bg,Ct,Rz,Wa,Wb,Wc,Wd,We,Wf,Wg,Wh,Wi,Wj,Wl,Wm,Wn,Wp,Wq,Wr,Ws,Wt,Wu,Wv,Ww,Wx,Wy,Wz,Xa,Xb,Xc,Xd,Xe,Xf,Xg,Xh,Xi,Xj,Xk,Xl,Xm,Xn,Xo,Xp,Xq,Xr,ZC,ZF,ZE,ZD,ZH,ZI,List.getElem?_cons_zero,List.getElem?_cons_succ,ZG,ZJ,ZK,ZL,ZB,Nat.reduceAdd,Nat.reduceLT,Nat.reduceLeDiff,decide_true,decide_false,Bool.true_and,Bool.and_true,ZM,Y9,Option.some.injEq,Xs,Xt,Xu,Xv]
  refine hix _ _ _ ?_
  by_cases hk1:t.kind=1
  · obtain⟨i,rfl⟩:∃i,t=.bnd i:=by
      cases t<;>first | exact⟨_,rfl⟩ | (cases hk1;done)
    have HX:decide ((Tm.bnd i).kind=1)=true:=rfl
    have hi9:=hbnd i htL
    have hi0:0≤i:=htok.1
    have hadd:i64 ((Tm.bnd i).id+(ids.length:Int)):=by show i64 (i+_);unfold i64;omega
    simp only[K2,U6,Qa,Qb,Qc,Qd,Qe,Qf,Qg,Qh,Qi,Qj,Qk,Ql,Qm,Qn,true_and,and_true,Qo,Qp,Qq,Qr,Qs,Qt,Qu,Qv,Qw,Qx,Qy,Qz,Ra,Rb,Rc,Rd,Re,Rf,Rg,Rh,Ri,Rj,Rk,Rl,Rm,Ya,Yb,Yc,Rn,Ro,Xv,Yd,Ye,Rq,Rs,Rt,Ru,Rw,Rx,Ry,hs,glb,gsb,llb,lsb,Js,Dx,F8,Be,Bg,Ct,Rw,HX,hlen,By _ _ _ _ hadd,Rz,Wa,Wb,Wc,Wd,We,Wf,Wg,Wh,Wi,Wj,Wl,Wm,Wn,Wp,Wq,Wr,Ws,Wt,Wu,Wv,Ww,Wx,Wy,Wz,Xa,Xb,Xc,Xd,Xe,Xf,Xg,Xh,Xi,Xj,Xk,Xl,Xm,Xn,Xo,Xp,Xq,Xr,ZC,ZF,ZE,ZD,ZH,ZI,List.getElem?_cons_zero,List.getElem?_cons_succ,ZG,ZJ,ZK,ZL,ZB,Nat.reduceAdd,Nat.reduceLT,Nat.reduceLeDiff,decide_true,decide_false,Bool.true_and,Bool.and_true,ZM,Y9,Option.some.injEq,Xs,Xt,Xu,Xv]
    refine hbn _ (i+(ids.length:Int)) hadd _ fun s' O' g1 g2 g3=>?_
    simp only[Qa,Qb,Qc,Qd,Qe,Qf,Qg,Qh,Qi,Qj,Qk,Ql,Qm,Qn,true_and,and_true,Qo,Qp,Qq,Qr,Qs,Qt,Qu,Qv,Qw,Qx,Qy,Qz,Ra,Rb,Rc,Rd,Re,Rf,Rg,Rh,Ri,Rj,Rk,Rl,Rm,Ya,Yb,Yc,Rn,Ro,Xv,Yd,Ye,Rq,Rs,Rt,Ru,Rw,Rx,Ry]
    exact hput _ _ s' O' (by omega) rfl g1 g2 g3
  · have HX:decide (t.kind=1)=false:=decide_eq_false hk1
    by_cases hk0:t.kind=0
    · obtain⟨i,rfl⟩:∃i,t=.var i:=by
        cases t<;>first | exact⟨_,rfl⟩ | (cases hk0;done)
      have hd0:decide ((Tm.var i).kind=0)=true:=rfl
      by_cases hm:i∈ids
      · have hlt : ids.idxOf i < ids.length := Z5                          hm
        have hidx:Ma ids (Tm.var i).id=(ids.idxOf i:Int):=if_pos hm
        have hge:decide ((0:Int)≤(ids.idxOf i:Int))=true:=decide_eq_true (by omega)
        have hi64:i64 (ids.idxOf i:Int):=by unfold i64;omega
        simp only[K2,NQ,U7,hidx,Qa,Qb,Qc,Qd,Qe,Qf,Qg,Qh,Qi,Qj,Qk,Ql,Qm,Qn,true_and,and_true,Qo,Qp,Qq,Qr,Qs,Qt,Qu,Qv,Qw,Qx,Qy,Qz,Ra,Rb,Rc,Rd,Re,Rf,Rg,Rh,Ri,Rj,Rk,Rl,Rm,Ya,Yb,Yc,Rn,Ro,Xv,Yd,Ye,Rq,Rs,Rt,Ru,Rw,Rx,Ry,hs,glb,gsb,llb,lsb,Js,Dx,F8,Be,Bg,Ct,Rw,Ru,HX,hd0,hge,Rz,Wa,Wb,Wc,Wd,We,Wf,Wg,Wh,Wi,Wj,Wl,Wm,Wn,Wp,Wq,Wr,Ws,Wt,Wu,Wv,Ww,Wx,Wy,Wz,Xa,Xb,Xc,Xd,Xe,Xf,Xg,Xh,Xi,Xj,Xk,Xl,Xm,Xn,Xo,Xp,Xq,Xr,ZC,ZF,ZE,ZD,ZH,ZI,List.getElem?_cons_zero,List.getElem?_cons_succ,ZG,ZJ,ZK,ZL,ZB,Nat.reduceAdd,Nat.reduceLT,Nat.reduceLeDiff,decide_true,decide_false,Bool.true_and,Bool.and_true,ZM,Y9,Option.some.injEq,Xs,Xt,Xu,Xv]
        refine hbn _ (ids.idxOf i:Int) hi64 _ fun s' O' g1 g2 g3=>?_
        simp only[Qa,Qb,Qc,Qd,Qe,Qf,Qg,Qh,Qi,Qj,Qk,Ql,Qm,Qn,true_and,and_true,Qo,Qp,Qq,Qr,Qs,Qt,Qu,Qv,Qw,Qx,Qy,Qz,Ra,Rb,Rc,Rd,Re,Rf,Rg,Rh,Ri,Rj,Rk,Rl,Rm,Ya,Yb,Yc,Rn,Ro,Xv,Yd,Ye,Rq,Rs,Rt,Ru,Rw,Rx,Ry]
        exact hput _ _ s' O' (by omega) (if_pos hm) g1 g2 g3
      · have hidx : Ma   ids (Tm.var i).id = -1 := if_neg hm
        have hge:decide ((0:Int)≤-1)=false:=rfl
        simp only[K2,NQ,P8,hidx,Qa,Qb,Qc,Qd,Qe,Qf,Qg,Qh,Qi,Qj,Qk,Ql,Qm,Qn,true_and,and_true,Qo,Qp,Qq,Qr,Qs,Qt,Qu,Qv,Qw,Qx,Qy,Qz,Ra,Rb,Rc,Rd,Re,Rf,Rg,Rh,Ri,Rj,Rk,Rl,Rm,Ya,Yb,Yc,Rn,Ro,Xv,Yd,Ye,Rq,Rs,Rt,Ru,Rw,Rx,Ry,hs,glb,gsb,llb,lsb,Js,Dx,F8,Be,Bg,Ct,Rw,Ru,HX,hd0,hge,Rz,Wa,Wb,Wc,Wd,We,Wf,Wg,Wh,Wi,Wj,Wl,Wm,Wn,Wp,Wq,Wr,Ws,Wt,Wu,Wv,Ww,Wx,Wy,Wz,Xa,Xb,Xc,Xd,Xe,Xf,Xg,Xh,Xi,Xj,Xk,Xl,Xm,Xn,Xo,Xp,Xq,Xr,ZC,ZF,ZE,ZD,ZH,ZI,List.getElem?_cons_zero,List.getElem?_cons_succ,ZG,ZJ,ZK,ZL,ZB,Nat.reduceAdd,Nat.reduceLT,Nat.reduceLeDiff,decide_true,decide_false,Bool.true_and,Bool.and_true,ZM,Y9,Option.some.injEq,Xs,Xt,Xu,Xv]
        exact hend _ _ (if_neg hm)
    · have hd0 : decide (t.kind = 0) = false := decide_eq_false hk0
      have hn:EH ids t=none:=by
        cases t<;>first | exact absurd rfl hk0 | exact absurd rfl hk1 | rfl
      simp only[K2,NQ,P8,Qa,Qb,Qc,Qd,Qe,Qf,Qg,Qh,Qi,Qj,Qk,Ql,Qm,Qn,true_and,and_true,Qo,Qp,Qq,Qr,Qs,Qt,Qu,Qv,Qw,Qx,Qy,Qz,Ra,Rb,Rc,Rd,Re,Rf,Rg,Rh,Ri,Rj,Rk,Rl,Rm,Ya,Yb,Yc,Rn,Ro,Xv,Yd,Ye,Rq,Rs,Rt,Ru,Rw,Rx,Ry,hs,glb,gsb,llb,lsb,Js,Dx,F8,Be,Bg,Ct,Rw,Ru,HX,hd0,Rz,Wa,Wb,Wc,Wd,We,Wf,Wg,Wh,Wi,Wj,Wl,Wm,Wn,Wp,Wq,Wr,Ws,Wt,Wu,Wv,Ww,Wx,Wy,Wz,Xa,Xb,Xc,Xd,Xe,Xf,Xg,Xh,Xi,Xj,Xk,Xl,Xm,Xn,Xo,Xp,Xq,Xr,ZC,ZF,ZE,ZD,ZH,ZI,List.getElem?_cons_zero,List.getElem?_cons_succ,ZG,ZJ,ZK,ZL,ZB,Nat.reduceAdd,Nat.reduceLT,Nat.reduceLeDiff,decide_true,decide_false,Bool.true_and,Bool.and_true,ZM,Y9,Option.some.injEq,Xs,Xt,Xu,Xv]
      exact hend _ _ hn
def Dk(s:AE)(O:List Nat)(v:AV)(l:List Int):Prop:=∃Hv:List (Nat×AX),(∀x∈Hv,s.heap.get x.1=some x.2∧x.1<s.next∧x.1 ∉ O)∧∀s':AE,(∀x∈Hv,s'.heap.get x.1=some x.2∧x.1<s'.next)→Ap s' v l
theorem Dk.step{s s':AE}{O O':List Nat}{v:AV}{l:List Int}(h:Dk s O v l)(f:C2 O s s')(g:Ac O O' s):Dk s' O' v l:=by
 obtain⟨Hv,h1,h2⟩:=h
 refine⟨Hv,fun x hx=>?_,h2⟩
 obtain⟨q1,q2,q3⟩:=h1 x hx
 exact⟨by rw[f.2 _ q2 q3];exact q1,ZS q2 f.1,fun hm=>(g _ hm).elim q3 (fun hl=>by omega)⟩
theorem Dk.rd{s:AE}{O:List Nat}{v:AV}{l:List Int}(h:Dk s O v l):Ap s v l:=by
 obtain⟨Hv,h1,h2⟩:=h
 exact h2 s fun x hx=>⟨(h1 x hx).1,(h1 x hx).2.1⟩
theorem Dk.of{s:AE}{O:List Nat}{j q:Nat}{cap:Option Nat}{ob:AX}{l:List Int}(hg:s.heap.get j=some ob)(hl:j<s.next)(hO:j ∉ O)(hr:Bs (some ob) q l.length=some (CS l)):Dk s O (.slice (some (j,q)) l.length cap) l:=
 ⟨[(j,ob)],fun x hx=>by rw[List.mem_singleton.1 hx];exact⟨hg,hl,hO⟩,fun s' h=>by
  have:=h (j,ob) (by simp)
  exact .inr ⟨j,q,cap,rfl,this.2,by rw[this.1];exact hr⟩⟩
set_option maxRecDepth 20000 in
theorem QT{E:Bt}(hE:A0 E){s:AE}{p:Nat}{S:List Tm}{O:List Nat}(h:AN s p S O)(hg:BZ s O){L:List Tm}(hL:S.length+L.length<89000){ti:Int}{v:AV}{ids:List Int}(hv:Dk s O v ids)(hl:ids.length≤1000000)
  (hbnd:∀i,Tm.bnd i∈L→i<1000000000) (hLk:∀t∈L,∀k∈t.kids,k∈L) (htL:BD S ti∈L) {K:AV→AE→Prop}
  (hK:∀s' S' O',AN s' p S' O'→BZ s' O'→C2 O s s'→Ac O O' s→(∃x,S'=EV S.length S [ti]++x)→S'.length≤S.length+L.length+1→B4 (EH ids) (BD S ti)∈S'→K (iv (ix S' (B4 (EH ids) (BD S ti)):Int)) s'):
  WF E 12 [.ptr (some (p,0)),iv ti,v] K s:=by
 have hm:∀x∈([ti]:List Int),BD S x∈EV S.length S [ti]:=I2 rfl
 have hvc:v.isCell=true∧v.cells=[v]:=by
  rcases hv.rd with⟨_,rfl⟩ | ⟨_,_,_,rfl,_⟩<;>exact⟨rfl,rfl⟩
 refine hE.go Vq (by decide) rfl ?_
 generalize hs:s.next=b
 have hs0:s=ext s []:=(AZ s).symm
 have hrd:Ap (ext s [R 25 0 false [.ptr (some (p,0))],R 27 0 false [v],R 3 1 false (CS [ti])]) (.slice (some (nid b 2,0)) 1 (some 1)) [ti]:=.inr ⟨nid b 2,0,some 1,rfl,by rw[Wm,hs,AH,AH];simp,by rw[Wg hs (by simp)];exact Wj (Y9 _)⟩
 have hth:=fun(K:AV→AE→Prop)=>I1 (K:=K) hE (h.old (AK (os:=[R 25 0 false [.ptr (some (p,0))],R 27 0 false [v],R 3 1 false (CS [ti])]))) (by omega) (hg.old AK) hrd (by simp) (by simp)
 rw[hs0]
 simp only[Yp,UO,UP,UQ,BR,EB,hs,F8,hvc.2,Qa,Qb,Qc,Qd,Qe,Qf,Qg,Qh,Qi,Qj,Qk,Ql,Qm,Qn,true_and,and_true,Qo,Qp,Qq,Qr,Qs,Qt,Qu,Qv,Qw,Qx,Qy,Qz,Ra,Rb,Rc,Rd,Re,Rf,Rg,Rh,Ri,Rj,Rk,Rl,Rm,Ya,Yb,Yc,Rn,Ro,Xv,Yd,Ye,Rq,Rs,Rt,Ru,Rw,Rx,Ry,Rz,Wa,Wb,Wc,Wd,We,Wf,Wg,Wh,Wi,Wj,Wl,Wm,Wn,Wp,Wq,Wr,Ws,Wt,Wu,Wv,Ww,Wx,Wy,Wz,Xa,Xb,Xc,Xd,Xe,Xf,Xg,Xh,Xi,Xj,Xk,Xl,Xm,Xn,Xo,Xp,Xq,Xr,ZC,ZF,ZE,ZD,ZH,ZI,List.getElem?_cons_zero,List.getElem?_cons_succ,ZG,ZJ,ZK,ZL,ZB,Nat.reduceAdd,Nat.reduceLT,Nat.reduceLeDiff,decide_true,decide_false,Bool.true_and,Bool.and_true,ZM,Y9,Option.some.injEq,Xs,Xt,Xu,Xv]
 refine hth _ fun w s1 O1 g1 g2 g3 g4 g5=>?_
 obtain⟨j,rfl,hgj,hjl,hjO,hjb⟩:=g5
 have hnx:(ext s [R 25 0 false [.ptr (some (p,0))],R 27 0 false [v],R 3 1 false (CS [ti])]).next=b+3:=by rw[Wm,hs,AH];rfl
 have hnO:∀k,nid b k ∉ O:=fun k hm=>by have:=h.lt _ hm;rw[AH]at this;omega
 have hnO1:∀k,k<3→nid b k ∉ O1:=fun k hk hm=>(g4 _ hm).elim (hnO k) (fun hl=>by rw[hnx,AH]at hl;omega)
 have hgs:s1.heap.get (nid b 0)=some (R 25 0 false [.ptr (some (p,0))]):=by
  rw[g3.2 _ (by rw[hnx,AH];omega) (hnO 0),Wg hs (by simp)];rfl
 have hgi:s1.heap.get (nid b 1)=some (R 27 0 false [v]):=by
  rw[g3.2 _ (by rw[hnx,AH];omega) (hnO 1),Wg hs (by simp)];rfl
 rw[hnx]at hjb
 have hn1:=g3.1
 rw[hnx]at hn1
 have hf:C2 O s s1:=(AK.frO O).trans g3 (Ac.refl O s)
 have hgr:Ac O O1 s:=Ac.trans (Ac.refl O s) g4 (by rw[hnx];omega)
 have hv1:=hv.step hf hgr
 obtain⟨Hv,hv2,hv3⟩:=hv1
 have htl:=OI (n:=S.length) (S:=S) (l:=[ti])
 have hi1:AQ Tryz.prog 27 (.slice (some (j,0)) 1 none) (iv 0)=some (.ptr (some (j,0))):=Ao (k:=0) (i:=j) (o:=0) (len:=1) (cap:=none) Tryz.underlying27 Ho (by omega)
 have hl0:Cz (s1.heap.get j) 0=some (iv (ix (EV S.length S [ti]) (BD S ti):Int)):=by rw[hgj,Wi];rfl
 refine⟨⟨Ck ?_ (Nc _ _),trivial⟩,?_⟩
 ·simp only[Qa,Qb,Qc,Qd,Qe,Qf,Qg,Qh,Qi,Qj,Qk,Ql,Qm,Qn,true_and,and_true,Qo,Qp,Qq,Qr,Qs,Qt,Qu,Qv,Qw,Qx,Qy,Qz,Ra,Rb,Rc,Rd,Re,Rf,Rg,Rh,Ri,Rj,Rk,Rl,Rm,Ya,Yb,Yc,Rn,Ro,Xv,Yd,Ye,Rq,Rs,Rt,Ru,Rw,Rx,Ry,F8,hgs,Rz,Wa,Wb,Wc,Wd,We,Wf,Wg,Wh,Wi,Wj,Wl,Wm,Wn,Wp,Wq,Wr,Ws,Wt,Wu,Wv,Ww,Wx,Wy,Wz,Xa,Xb,Xc,Xd,Xe,Xf,Xg,Xh,Xi,Xj,Xk,Xl,Xm,Xn,Xo,Xp,Xq,Xr,ZC,ZF,ZE,ZD,ZH,ZI,List.getElem?_cons_zero,List.getElem?_cons_succ,ZG,ZJ,ZK,ZL,ZB,Nat.reduceAdd,Nat.reduceLT,Nat.reduceLeDiff,decide_true,decide_false,Bool.true_and,Bool.and_true,ZM,Y9,Option.some.injEq,Xs,Xt,Xu,Xv]
 simp only[ZV,List.map_nil,ZC,ZF]
 simp only[Qa,Qb,Qc,Qd,Qe,Qf,Qg,Qh,Qi,Qj,Qk,Ql,Qm,Qn,true_and,and_true,Qo,Qp,Qq,Qr,Qs,Qt,Qu,Qv,Qw,Qx,Qy,Qz,Ra,Rb,Rc,Rd,Re,Rf,Rg,Rh,Ri,Rj,Rk,Rl,Rm,Ya,Yb,Yc,Rn,Ro,Xv,Yd,Ye,Rq,Rs,Rt,Ru,Rw,Rx,Ry,Dx,hi1,hl0,Rz,Wa,Wb,Wc,Wd,We,Wf,Wg,Wh,Wi,Wj,Wl,Wm,Wn,Wp,Wq,Wr,Ws,Wt,Wu,Wv,Ww,Wx,Wy,Wz,Xa,Xb,Xc,Xd,Xe,Xf,Xg,Xh,Xi,Xj,Xk,Xl,Xm,Xn,Xo,Xp,Xq,Xr,ZC,ZF,ZE,ZD,ZH,ZI,List.getElem?_cons_zero,List.getElem?_cons_succ,ZG,ZJ,ZK,ZL,ZB,Nat.reduceAdd,Nat.reduceLT,Nat.reduceLeDiff,decide_true,decide_false,Bool.true_and,Bool.and_true,ZM,Y9,Option.some.injEq,Xs,Xt,Xu,Xv]
 refine JM hE g1 g2 (f:=EH ids) (L:=L) (by omega) (fun t ht _ k hk=>hLk t ht k hk) (Hc:=[(nid b 1,R 27 0 false [v]),(nid b 0,R 25 0 false [.ptr (some (p,0))])]++Hv) ?_ (QS hE (by omega) hbnd hl hv3) (hm ti (by simp)) htL ?_
 ·intro x hx
  rcases List.mem_append.1 hx with hx | hx
  ·simp only[Zd,Zj,or_false]at hx
   rcases hx with rfl | rfl
   ·exact⟨hgi,by rw[AH];omega,hnO1 1 (by omega)⟩
   ·exact⟨hgs,by rw[AH];omega,hnO1 0 (by omega)⟩
  ·exact hv2 x hx
 ·intro s' S' O' k1 k2 k3 k4 k5 k6 k7 _
  simp only[Qa,Qb,Qc,Qd,Qe,Qf,Qg,Qh,Qi,Qj,Qk,Ql,Qm,Qn,true_and,and_true,Qo,Qp,Qq,Qr,Qs,Qt,Qu,Qv,Qw,Qx,Qy,Qz,Ra,Rb,Rc,Rd,Re,Rf,Rg,Rh,Ri,Rj,Rk,Rl,Rm,Ya,Yb,Yc,Rn,Ro,Xv,Yd,Ye,Rq,Rs,Rt,Ru,Rw,Rx,Ry]
  exact hK s' S' O' k1 k2 (hf.trans k3 hgr) (hgr.trans k4 hf.1) k5 (by omega) k7
def FV(us:List Tm):Tm→Option Tm
 | .bnd i=>if i<(us.length:Int)then us[i.toNat]? else some (.bnd (i - (us.length:Int)))
 | _=>none
theorem Tp      {E : Bt}  (hE : A0    E) {p : Nat} {L S0 : List Tm} (hL : S0.length + L.length < 90000) {lb sb : Nat} {v : AV} {us : List Tm} (hus : ∀ u ∈ us, u ∈ S0) (hl : us.length ≤ 1000000) {Hv : List (Nat × AX)}   (hv : ∀ (s : AE),  (∀ x ∈ Hv, s.heap.get x.1 = some x.2 ∧ x.1 < s.next) → Ap     s v (us.map fun u => (ix S0 u : Int))) :
    L4 E p (FV us) L S0 ([(lb,R 27 0 false [v]),(sb,R 25 0 false [.ptr (some (p,0))])]++Hv) 40 [.ptr (some (lb,0)),.ptr (some (sb,0))]:=by
  intro dm Hm hHc H s S O D t m K hHm hw ht htL hK
  have hlbx:=hw.hd _ (hHm _ (hHc (lb,R 27 0 false [v]) (by simp)))
  have hsbx:=hw.hd _ (hHm _ (hHc (sb,R 25 0 false [.ptr (some (p,0))]) (by simp)))
  have hvr:Ap s v (us.map fun u=>(ix S0 u:Int)):=hv s fun x hx=>⟨(hw.hd _ (hHm _ (hHc x (Zt _ hx)))).1,(hw.hd _ (hHm _ (hHc x (Zt _ hx)))).2.1⟩
  have glb:s.heap.get lb=some (R 27 0 false [v]):=hlbx.1
  have gsb:s.heap.get sb=some (R 25 0 false [.ptr (some (p,0))]):=hsbx.1
  have llb:lb<s.next:=hlbx.2.1
  have lsb:sb<s.next:=hsbx.2.1
  have hvcell:v.isCell=true∧v.cells=[v]:=by
    rcases hvr with⟨_,rfl⟩ | ⟨_,_,_,rfl,_⟩<;>exact⟨rfl,rfl⟩
  have htok:=hw.st.ok.ok t (BY hw.pre ht).1
  obtain⟨c0,c1,c2,c3,c4,c5,c6,hc,d0,d1,d2,d3,d4,d5,d6⟩:=t.cells7 htok
  have hsm:=hw.small hL
  refine hE.go V4 (by decide) rfl ?_
  have hend:∀os (x:AV),FV us t=none→K (.tuple [x,.bool false]) (ext s os):=fun os x hx =>
    hK (ext s os) S O x false (hw.st.old AK) (hw.gl.old AK) (AK.frO O) (Ac.refl O s) (.inl rfl) (.inr ⟨rfl,hx,rfl⟩)
  have hgot:∀os (u:Tm),FV us t=some u→u∈us→K (.tuple [iv (ix S0 u:Int),.bool true]) (ext s os):=fun os u hx hm =>
    hK (ext s os) S O _ true (hw.st.old AK) (hw.gl.old AK) (AK.frO O) (Ac.refl O s) (.inl rfl) (.inl ⟨rfl,u,hx,(BY hw.pre (hus u hm)).1,by rw[(BY hw.pre (hus u hm)).2]⟩)
  have hbn:=fun os (i:Int) (hi:i64 i) (K:AV→AE→Prop)=>Kl (K:=K) hE (hw.st.old (AK (os:=os))) (by omega) hi
  have hput:∀os (i:Int) s' O',0≤i→FV us t=some (.bnd i)→AN s' p (push S (.bnd (max i 0))) O'→C2 O (ext s os) s'→Ac O O' (ext s os)→K (.tuple [iv (ix (push S (.bnd (max i 0))) (.bnd (max i 0)):Int),.bool true]) s':=fun os i s' O' h0 hf g1 g2 g3=>by
    rw[Int.max_eq_left h0]at *
    have hgl:BZ s' O':=(hw.gl.old (AK (os:=os))).step g2 g3
    exact hK s' _ O' _ true g1 hgl ((AK.frO O).trans g2 (Ac.refl O s)) (Ac.trans (Ac.refl O s) g3 (by rw[Wm,AH];omega)) (.inr ⟨_,rfl⟩) (.inl ⟨rfl,_,hf,DX,rfl⟩)
  have hlen:=hvr.len
  simp only[ZY]at hlen
  generalize hs:s.next=b at llb lsb
  have hs0:s=ext s []:=(AZ s).symm
  rw[hs0]
  by_cases hk1:t.kind=1
  · obtain⟨i,rfl⟩:∃i,t=.bnd i:=by
      cases t<;>first | exact⟨_,rfl⟩ | (cases hk1;done)
    have HX:decide ((Tm.bnd i).kind≠1)=false:=rfl
    have hi0:0≤i:=htok.1
    have hi64:i64 i:=htok.2
    by_cases hlt:i<(us.length:Int)
    · have RQ  : decide ((Tm.bnd i).id < (us.length : Int)) = true := decide_eq_true hlt
      have hnat:i=(i.toNat:Int):=by omega
      have hin:i.toNat<us.length:=by omega
      obtain⟨j,q,cap,rfl,hj,hld⟩:=hvr.at (k:=i.toNat) (x:=(ix S0 us[i.toNat]:Int)) (by rw[Zg,ZP hin];rfl)
      have hidx:AQ Tryz.prog 27 (.slice (some (j,q)) (us.map fun u=>(ix S0 u:Int)).length cap) (iv (Tm.bnd i).id)=some (.ptr (some (j,q+i.toNat))):=by
        show AQ _ _ _ (iv i)=_
        rw[hnat]
        have:=Ao (P:=Tryz.prog) (i:=j) (o:=q) (cap:=cap) (k:=i.toNat) (len:=(us.map fun u=>(ix S0 u:Int)).length) Tryz.underlying27 Ho (by rw[ZY];exact hin)
        rw[Zf]at this
        exact this
      rw[hs]at hj
      simp only[ZY]at hlen hidx glb ⊢
      simp only[YC,NT,NU,QD,VH,A7,BB,hc,Qa,Qb,Qc,Qd,Qe,Qf,Qg,Qh,Qi,Qj,Qk,Ql,Qm,Qn,true_and,and_true,Qo,Qp,Qq,Qr,Qs,Qt,Qu,Qv,Qw,Qx,Qy,Qz,Ra,Rb,Rc,Rd,Re,Rf,Rg,Rh,Ri,Rj,Rk,Rl,Rm,Ya,Yb,Yc,Rn,Ro,Xv,Yd,Ye,Rq,Rs,Rt,Ru,Rw,Rx,Ry,hs,glb,gsb,llb,lsb,hj,Js,Dx,Be,Bg,Ct,Rx,Rq,HX,RQ,hlen,hidx,hld,Rz,Wa,Wb,Wc,Wd,We,Wf,Wg,Wh,Wi,Wj,Wl,Wm,Wn,Wp,Wq,Wr,Ws,Wt,Wu,Wv,Ww,Wx,Wy,Wz,Xa,Xb,Xc,Xd,Xe,Xf,Xg,Xh,Xi,Xj,Xk,Xl,Xm,Xn,Xo,Xp,Xq,Xr,ZC,ZF,ZE,ZD,ZH,ZI,List.getElem?_cons_zero,List.getElem?_cons_succ,ZG,ZJ,ZK,ZL,ZB,Nat.reduceAdd,Nat.reduceLT,Nat.reduceLeDiff,decide_true,decide_false,Bool.true_and,Bool.and_true,ZM,Y9,Option.some.injEq,Xs,Xt,Xu,Xv]
      exact hgot _ us[i.toNat] (by show(if i<(us.length:Int)then us[i.toNat]? else _)=_;rw[if_pos hlt,ZP hin]) (List.getElem_mem _)
    · have RQ  : decide ((Tm.bnd i).id < (us.length : Int)) = false := decide_eq_false hlt
      have hsub:i64 ((Tm.bnd i).id - (us.length:Int)):=by show i64 (i - _);unfold i64 at *;omega
      simp only[YC,NT,NU,QD,VI,A7,BB,hc,Qa,Qb,Qc,Qd,Qe,Qf,Qg,Qh,Qi,Qj,Qk,Ql,Qm,Qn,true_and,and_true,Qo,Qp,Qq,Qr,Qs,Qt,Qu,Qv,Qw,Qx,Qy,Qz,Ra,Rb,Rc,Rd,Re,Rf,Rg,Rh,Ri,Rj,Rk,Rl,Rm,Ya,Yb,Yc,Rn,Ro,Xv,Yd,Ye,Rq,Rs,Rt,Ru,Rw,Rx,Ry,hs,glb,gsb,llb,lsb,Js,Dx,F8,Be,Bg,Ct,Rx,Rq,HX,RQ,hlen,NI _ _ _ _ hsub,Rz,Wa,Wb,Wc,Wd,We,Wf,Wg,Wh,Wi,Wj,Wl,Wm,Wn,Wp,Wq,Wr,Ws,Wt,Wu,Wv,Ww,Wx,Wy,Wz,Xa,Xb,Xc,Xd,Xe,Xf,Xg,Xh,Xi,Xj,Xk,Xl,Xm,Xn,Xo,Xp,Xq,Xr,ZC,ZF,ZE,ZD,ZH,ZI,List.getElem?_cons_zero,List.getElem?_cons_succ,ZG,ZJ,ZK,ZL,ZB,Nat.reduceAdd,Nat.reduceLT,Nat.reduceLeDiff,decide_true,decide_false,Bool.true_and,Bool.and_true,ZM,Y9,Option.some.injEq,Xs,Xt,Xu,Xv]
      refine hbn _ (i - (us.length:Int)) hsub _ fun s' O' g1 g2 g3=>?_
      simp only[Qa,Qb,Qc,Qd,Qe,Qf,Qg,Qh,Qi,Qj,Qk,Ql,Qm,Qn,true_and,and_true,Qo,Qp,Qq,Qr,Qs,Qt,Qu,Qv,Qw,Qx,Qy,Qz,Ra,Rb,Rc,Rd,Re,Rf,Rg,Rh,Ri,Rj,Rk,Rl,Rm,Ya,Yb,Yc,Rn,Ro,Xv,Yd,Ye,Rq,Rs,Rt,Ru,Rw,Rx,Ry]
      exact hput _ _ s' O' (by omega) (if_neg hlt) g1 g2 g3
  · have HX  : decide (t.kind ≠ 1) = true := decide_eq_true hk1
    have hn:FV us t=none:=by
      cases t<;>first | exact absurd rfl hk1 | rfl
    simp only[YC,NT,NU,VG,A7,BB,hc,Qa,Qb,Qc,Qd,Qe,Qf,Qg,Qh,Qi,Qj,Qk,Ql,Qm,Qn,true_and,and_true,Qo,Qp,Qq,Qr,Qs,Qt,Qu,Qv,Qw,Qx,Qy,Qz,Ra,Rb,Rc,Rd,Re,Rf,Rg,Rh,Ri,Rj,Rk,Rl,Rm,Ya,Yb,Yc,Rn,Ro,Xv,Yd,Ye,Rq,Rs,Rt,Ru,Rw,Rx,Ry,hs,glb,gsb,llb,lsb,Js,Dx,F8,Be,Bg,Ct,Rx,HX,Rz,Wa,Wb,Wc,Wd,We,Wf,Wg,Wh,Wi,Wj,Wl,Wm,Wn,Wp,Wq,Wr,Ws,Wt,Wu,Wv,Ww,Wx,Wy,Wz,Xa,Xb,Xc,Xd,Xe,Xf,Xg,Xh,Xi,Xj,Xk,Xl,Xm,Xn,Xo,Xp,Xq,Xr,ZC,ZF,ZE,ZD,ZH,ZI,List.getElem?_cons_zero,List.getElem?_cons_succ,ZG,ZJ,ZK,ZL,ZB,Nat.reduceAdd,Nat.reduceLT,Nat.reduceLeDiff,decide_true,decide_false,Bool.true_and,Bool.and_true,ZM,Y9,Option.some.injEq,Xs,Xt,Xu,Xv]
    exact hend _ _ hn
theorem Ku{s:AE}{i:Nat}{x:Int}{v:AV}{l:List Int}(hi:s.heap.get i=some (R 3 1 false (CS [x])))(h:Ap s v l)(hl:l.length≤1000):
  (l=[]∧As Tryz.prog s [27,27] [.slice (some (i,0)) 1 (some 1),v]=some (.slice (some (i,0)) 1 (some 1),s)) ∨
  (0<l.length∧As Tryz.prog s [27,27] [.slice (some (i,0)) 1 (some 1),v]=some (.slice (some (s.next,0)) (l.length+1) none,newObj s (R 3 1 true (CS (x::l))))):=by
 have hsrc:=Ix h
 have hv:∃a n c,v=.slice a n c:=by
  rcases h with⟨_,rfl⟩ | ⟨_,_,_,rfl,_⟩<;>exact⟨_,_,_,rfl⟩
 obtain⟨a,n,c,rfl⟩:=hv
 have h1:Nat.ble ((1+l.length) * 8) 1099511627776=true:=BS (by omega)
 have h2:Nat.ble (1+l.length) 1099511627776=true:=BS (by omega)
 rcases Zp l.length with h0 | h0
 ·have hnil:l=[]:=Zr h0
  subst hnil
  refine .inl ⟨rfl,?_⟩
  simp only[As,Tryz.underlying27,Ho,YA,Option.bind_some,hsrc,Hr,Hk,h1,h2,appTo,Dz,Xa,Bool.and_self]
  rfl
 ·refine .inr ⟨h0,?_⟩
  have h3:Nat.ble (1+l.length) 1=false:=Jy (by omega)
  have h4:A9 s i 0 (1 * 1)=some [iv x]:=by rw[DD,hi];rfl
  simp only[As,Tryz.underlying27,Ho,YA,Option.bind_some,hsrc,Hr,Hk,h1,h2,appTo,Dz,h3,h4,cond_false,Ba,NB,Xa,Bool.and_self]
  rw[Nat.add_comm 1 l.length]
  rfl
theorem T4{s:AE}{j:Nat}{sp:Bool}{cs:List AV}(hg:s.heap.get j=some (R 3 1 sp cs))(n:Nat):Ad Tryz.prog 27 true false false s [.slice (some (j,0)) (n+1) none,iv 1]=some (.slice (some (j,1)) n none):=by
 have hr:∃r,rowAt s j=some r∧r.n=cs.length∧r.sz=1:=⟨_,by rw[Hl,hg];rfl,rfl,rfl⟩
 obtain⟨r,h1,h2,h3⟩:=hr
 have hb:BT (iv 1) (n+1)=some 1:=by
  show(bif Nat.ble 1 (n+1)then some 1 else none)=some 1
  rw[BS (show 1≤n+1 by omega)];rfl
 have h0:Nat.ble 0 cs.length=true:=BS (ZW _)
 show BO Tryz.prog s 27 (.slice (some (j,0)) (n+1) none) (some (iv 1)) none none=_
 simp[BO,Tryz.underlying27,Ho,h1,h2,h3,hb,AF,h0]
 rfl
set_option maxRecDepth 20000 in
theorem Tq      {E : Bt}  (hE : A0    E) {s : AE}  {p : Nat} {S : List Tm} {O : List Nat} (h : AN      s p S O) (hg : BZ   s O) {L : List Tm} (hL : S.length + L.length < 89000) {ti : Int} {v : AV} {bs : List Int} (hv : Ap     s v bs) (hl : bs.length ≤ 900)
    (hLk:∀t∈L,∀k∈t.kids,k∈L) (htL:BD S ti∈L) {K:AV→AE→Prop}
    (hK:∀s' S' O',AN s' p S' O'→BZ s' O'→C2 O s s'→Ac O O' s→(∃x,S'=EV S.length S (ti::bs)++x)→S'.length≤S.length+L.length+1→B4 (FV (bs.map (BD S))) (BD S ti)∈S'→K (iv (ix S' (B4 (FV (bs.map (BD S))) (BD S ti)):Int)) s'):
    WF E 14 [.ptr (some (p,0)),iv ti,v] K s:=by
  have hm:∀x∈ti::bs,BD S x∈EV S.length S (ti::bs):=I2 rfl
  refine hE.go QW (by decide) rfl ?_
  generalize hs:s.next=b
  have hs0:s=ext s []:=(AZ s).symm
  have hap:∃os ts,As Tryz.prog (ext s [R 25 0 false [.ptr (some (p,0))],R 3 1 false (CS [ti])]) [27,27] [.slice (some (nid b 1,0)) 1 (some 1),v]=some (ts,ext s os)∧os[0]? = some (R 25 0 false [.ptr (some (p,0))])∧2≤os.length∧Ap (ext s os) ts (ti::bs):=by
    rcases Ku (s:=ext s [R 25 0 false [.ptr (some (p,0))],R 3 1 false (CS [ti])]) (i:=nid b 1) (x:=ti) (by rw[Wg hs (by simp)];rfl) (hv.old AK) (by omega)with⟨hb,happ⟩ | ⟨h0,happ⟩
    · subst hb
      exact⟨_,_,happ,rfl,Y9 _,.inr ⟨nid b 1,0,some 1,rfl,by rw[Wm,hs,AH,AH];simp,by rw[Wg hs (by simp)];exact Wj (Y9 _)⟩⟩
    · rw [Wl] at happ
      refine⟨_,_,happ,rfl,by simp,.inr ⟨nid b 2,0,none,?_,by rw[Wm,hs,AH,AH];simp,?_⟩⟩
      · rw[Wm,hs];rfl
      · rw[Wg hs (by simp)]
        exact(Wj (by rw[DC,ZB];exact Y9 _)).trans (by rw[ZG,Zo (by rw[DC];exact Y9 _)])
  obtain⟨os,ts,happ,hos0,hosl,hrd⟩:=hap
  have hg0:(ext s os).heap.get (nid b 0)=some (R 25 0 false [.ptr (some (p,0))]):=by rw[Wg hs (by omega)];exact hos0
  have hth:=fun(K:AV→AE→Prop)=>I1 (K:=K) hE (h.old (AK (os:=os))) (by omega) (hg.old AK) hrd (by simp) (by simp;omega)
  rw[hs0]
  simp only[YL,Pp,Pq,UU,BR,EB,hs,F8,happ,Qa,Qb,Qc,Qd,Qe,Qf,Qg,Qh,Qi,Qj,Qk,Ql,Qm,Qn,true_and,and_true,Qo,Qp,Qq,Qr,Qs,Qt,Qu,Qv,Qw,Qx,Qy,Qz,Ra,Rb,Rc,Rd,Re,Rf,Rg,Rh,Ri,Rj,Rk,Rl,Rm,Ya,Yb,Yc,Rn,Ro,Xv,Yd,Ye,Rq,Rs,Rt,Ru,Rw,Rx,Ry,Rz,Wa,Wb,Wc,Wd,We,Wf,Wg,Wh,Wi,Wj,Wl,Wm,Wn,Wp,Wq,Wr,Ws,Wt,Wu,Wv,Ww,Wx,Wy,Wz,Xa,Xb,Xc,Xd,Xe,Xf,Xg,Xh,Xi,Xj,Xk,Xl,Xm,Xn,Xo,Xp,Xq,Xr,ZC,ZF,ZE,ZD,ZH,ZI,List.getElem?_cons_zero,List.getElem?_cons_succ,ZG,ZJ,ZK,ZL,ZB,Nat.reduceAdd,Nat.reduceLT,Nat.reduceLeDiff,decide_true,decide_false,Bool.true_and,Bool.and_true,ZM,Y9,Option.some.injEq,Xs,Xt,Xu,Xv]
  refine⟨Ck ?_ (Nc _ _),?_⟩
  · simp only[Qa,Qb,Qc,Qd,Qe,Qf,Qg,Qh,Qi,Qj,Qk,Ql,Qm,Qn,true_and,and_true,Qo,Qp,Qq,Qr,Qs,Qt,Qu,Qv,Qw,Qx,Qy,Qz,Ra,Rb,Rc,Rd,Re,Rf,Rg,Rh,Ri,Rj,Rk,Rl,Rm,Ya,Yb,Yc,Rn,Ro,Xv,Yd,Ye,Rq,Rs,Rt,Ru,Rw,Rx,Ry,F8,hg0,Rz,Wa,Wb,Wc,Wd,We,Wf,Wg,Wh,Wi,Wj,Wl,Wm,Wn,Wp,Wq,Wr,Ws,Wt,Wu,Wv,Ww,Wx,Wy,Wz,Xa,Xb,Xc,Xd,Xe,Xf,Xg,Xh,Xi,Xj,Xk,Xl,Xm,Xn,Xo,Xp,Xq,Xr,ZC,ZF,ZE,ZD,ZH,ZI,List.getElem?_cons_zero,List.getElem?_cons_succ,ZG,ZJ,ZK,ZL,ZB,Nat.reduceAdd,Nat.reduceLT,Nat.reduceLeDiff,decide_true,decide_false,Bool.true_and,Bool.and_true,ZM,Y9,Option.some.injEq,Xs,Xt,Xu,Xv]
  refine hth _ fun w s1 O1 g1 g2 g3 g4 g5=>?_
  obtain⟨j,rfl,hgj,hjl,hjO,hjb⟩:=g5
  have hnx:(ext s os).next=b+os.length:=by rw[Wm,hs,AH]
  have hnO:∀k,nid b k ∉ O:=fun k hm=>by have:=h.lt _ hm;rw[AH]at this;omega
  have hgs:s1.heap.get (nid b 0)=some (R 25 0 false [.ptr (some (p,0))]):=by
    rw[g3.2 _ (by rw[hnx,AH];omega) (hnO 0)];exact hg0
  have hsO1:nid b 0 ∉ O1:=fun hm=>(g4 _ hm).elim (hnO 0) (fun hl=>by rw[hnx,AH]at hl;omega)
  rw[hnx]at hjb
  have hn1:=g3.1
  rw[hnx]at hn1
  have hf:C2 O s s1:=(AK.frO O).trans g3 (Ac.refl O s)
  have hgr:Ac O O1 s:=Ac.trans (Ac.refl O s) g4 (by rw[hnx];omega)
  have hlt1:=g1.lt
  have htl:=OI (n:=S.length) (S:=S) (l:=ti::bs)
  generalize hs1:s1.next=b1 at hjl hn1 hlt1
  have hs10:s1=ext s1 []:=(AZ s1).symm
  have hst2:=g1.old (AK (os:=[R 27 0 false [.slice (some (j,1)) bs.length none]]))
  have hgl2:=g2.old (AK (os:=[R 27 0 false [.slice (some (j,1)) bs.length none]]))
  have hnx1:(ext s1 [R 27 0 false [.slice (some (j,1)) bs.length none]]).next=b1+1:=by rw[Wm,hs1,AH];rfl
  have hi1:AQ Tryz.prog 27 (.slice (some (j,0)) (bs.length+1) none) (iv 0)=some (.ptr (some (j,0))):=Ao (k:=0) (i:=j) (o:=0) (len:=bs.length+1) (cap:=none) Tryz.underlying27 Ho (by omega)
  have hl0:Cz (s1.heap.get j) 0=some (iv (ix (EV S.length S (ti::bs)) (BD S ti):Int)):=by rw[hgj,Wi];rfl
  have hsl:=T4 hgj bs.length
  simp only[ZV,ZC,ZY]
  rw[hs10]at hsl ⊢
  simp only[UV,UW,Qa,Qb,Qc,Qd,Qe,Qf,Qg,Qh,Qi,Qj,Qk,Ql,Qm,Qn,true_and,and_true,Qo,Qp,Qq,Qr,Qs,Qt,Qu,Qv,Qw,Qx,Qy,Qz,Ra,Rb,Rc,Rd,Re,Rf,Rg,Rh,Ri,Rj,Rk,Rl,Rm,Ya,Yb,Yc,Rn,Ro,Xv,Yd,Ye,Rq,Rs,Rt,Ru,Rw,Rx,Ry,hs1,hjl,hsl,hgs,show nid b 0<b1 from by rw[AH];omega,Yi,YX,Js,Dx,F8,hi1,hl0,Rz,Wa,Wb,Wc,Wd,We,Wf,Wg,Wh,Wi,Wj,Wl,Wm,Wn,Wp,Wq,Wr,Ws,Wt,Wu,Wv,Ww,Wx,Wy,Wz,Xa,Xb,Xc,Xd,Xe,Xf,Xg,Xh,Xi,Xj,Xk,Xl,Xm,Xn,Xo,Xp,Xq,Xr,ZC,ZF,ZE,ZD,ZH,ZI,List.getElem?_cons_zero,List.getElem?_cons_succ,ZG,ZJ,ZK,ZL,ZB,Nat.reduceAdd,Nat.reduceLT,Nat.reduceLeDiff,decide_true,decide_false,Bool.true_and,Bool.and_true,ZM,Y9,Option.some.injEq,Xs,Xt,Xu,Xv]
  refine JM hE hst2 hgl2 (f:=FV (bs.map (BD S))) (L:=L) (by omega) (fun t ht _ k hk=>hLk t ht k hk) (Hc:=[(nid b1 0,R 27 0 false [.slice (some (j,1)) bs.length none]),(nid b 0,R 25 0 false [.ptr (some (p,0))])]++[(j,R 3 1 true (CS ((ti::bs).map fun x=>(ix (EV S.length S (ti::bs)) (BD S x):Int))))]) ?_ (Tp hE (by omega) (fun u hu=>?_) (by rw[ZY];omega) ?_) (hm ti (by simp)) htL ?_
  · intro x hx
    simp only[ZE,ZD,Zd,Zj,or_false]at hx
    rw[hnx1]
    rcases hx with rfl | rfl | rfl
    · exact⟨by rw[Wg hs1 (by simp)];rfl,by rw[AH];omega,fun hm=>by have:=hlt1 _ hm;rw[AH]at this;omega⟩
    · exact⟨by rw[Wh (by rw[AH];omega)];exact hgs,by rw[AH];omega,hsO1⟩
    · exact⟨by rw[Wh (by omega)];exact hgj,by omega,hjO⟩
  · obtain⟨x,hx,rfl⟩:=List.mem_map.1 hu
    exact hm x (ZQ _ hx)
  · intro s' hs'
    obtain⟨q1,q2⟩:=hs' _ (List.mem_singleton.2 rfl)
    refine .inr ⟨j,1,none,by rw[ZY,ZY],q2,?_⟩
    rw[show s'.heap.get j=_ from q1,Wj (by rw[DC];simp;omega)]
    simp only[CS,ZV,ZJ,ZG,Zx,ZY]
    rw[Zo (by simp)]
    rfl
  · intro s' S' O' k1 k2 k3 k4 k5 k6 k7 _
    simp only[Qa,Qb,Qc,Qd,Qe,Qf,Qg,Qh,Qi,Qj,Qk,Ql,Qm,Qn,true_and,and_true,Qo,Qp,Qq,Qr,Qs,Qt,Qu,Qv,Qw,Qx,Qy,Qz,Ra,Rb,Rc,Rd,Re,Rf,Rg,Rh,Ri,Rj,Rk,Rl,Rm,Ya,Yb,Yc,Rn,Ro,Xv,Yd,Ye,Rq,Rs,Rt,Ru,Rw,Rx,Ry]
    have hf2:C2 O1 s1 s':=(AK.frO O1).trans k3 (Ac.refl O1 s1)
    exact hK s' S' O' k1 k2 (hf.trans hf2 hgr) (hgr.trans (Ac.trans (Ac.refl O1 s1) k4 (by rw[hnx1,hs1];omega)) hf.1) k5 (by omega) k7
end
end Go.Proofs.YtickdehehcmfbaaGreatDoor.Am
