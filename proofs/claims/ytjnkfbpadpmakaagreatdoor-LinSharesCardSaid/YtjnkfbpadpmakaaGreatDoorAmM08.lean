/- Package rat: two, walked; conditions: none. -/
import Derived.Test.YtjnkfbpadpmakaaGreatDoorAmM07
import Derived.Test.YtjnkfbpadpmakaaGreatDoorAmM04
import Derived.Test.YtjnkfbpadpmakaaGreatDoorAmM06
import Derived.Lib.SlKeysI
import Derived.Test.YtjnkfbpadpmakaaGreatDoorChecked
set_option linter.unusedVariables false
set_option linter.unusedSimpArgs false
set_option maxRecDepth 16000
namespace Go.Proofs.YtjnkfbpadpmakaaGreatDoor.Am
open Go Go.Proofs
noncomputable section
theorem pD:Dx Tryz.prog 84=some false:=by kernel_rfl
section
variable{E:CR}{s:AE}
theorem aH(hE:GoodN E){vn vd:AV}{z:Int}{kn kd D:Nat}(hn:BI s vn z kn)(hd:C7 s vd (AQ D))(hdl:(AQ D).length≤kd)(hk:kn+kd+1≤1000000000){K:AV→AE→Prop}(hK:∀s' v,Ae s.next s s'→BR s.next s' v (z * (D:Int))→K v s'):WF E 111 [vn,vd] K s:=by
 have hn0:=hn
 obtain⟨neg,mg,l,rfl,hm,hs,hl,hz⟩:=hn
 obtain⟨a,n,c,rfl⟩:=hm.shape
 refine hE.go bL (by decide) rfl ?_
 obtain⟨n1,o1,g1,g2⟩:=D4 s (BX neg (.slice a n c)) ZI
 simp only[nP,VZ,Va,Xa,Xh,EQ,Xc,Ap,Qa,Qb,Qc,Qd,Qe,Qf,Qg,Qh,Qi,Qj,Qk,Ql,Qm,Qn,true_and,and_true,Qo,Qp,Qq,Qr,Qs,Qt,Qu,Qv,Qw,Qx,Qy,Qz,Ra,Rb,Rc,Rd,Re,Rf,Rg,Rh,Ri,Rj,Rk,Rm,Rn,Ro,Rp,Rq,Rt,Ya,Yb,Yc,Ru,Rw,Zb,Yd,Ye,Ry,Rz,Wa,Wb,Wc,Wd,We]
 generalize newObj (newObj s (BX neg (.slice a n c))) ZI=s1 at *
 have l1:=AG (P:=Tryz.prog) (t:=24) Dl Cl g1 rfl
 simp only[l1,Qa,Qb,Qc,Qd,Qe,Qf,Qg,Qh,Qi,Qj,Qk,Ql,Qm,Qn,true_and,and_true,Qo,Qp,Qq,Qr,Qs,Qt,Qu,Qv,Qw,Qx,Qy,Qz,Ra,Rb,Rc,Rd,Re,Rf,Rg,Rh,Ri,Rj,Rk,Rm,Rn,Ro,Rp,Rq,Rt,Ya,Yb,Yc,Ru,Rw,Zb,Yd,Ye,Ry,Rz,Wa,Wb,Wc,Wd,We]
 refine Hc hE (hd.old o1) (by omega) (AX _) fun s2 v2 o2 r2=>?_
 rw[Ab,show Cj false D=(D:Int)from rfl]at r2
 have h2:=o2.1
 have f1:=(o2.2 s.next (by omega)).trans g1
 have f2:=(o2.2 (s.next+1) (by omega)).trans g2
 refine⟨⟨Ak (by simp only[Qa,Qb,Qc,Qd,Qe,Qf,Qg,Qh,Qi,Qj,Qk,Ql,Qm,Qn,true_and,and_true,Qo,Qp,Qq,Qr,Qs,Qt,Qu,Qv,Qw,Qx,Qy,Qz,Ra,Rb,Rc,Rd,Re,Rf,Rg,Rh,Ri,Rj,Rk,Rm,Rn,Ro,Rp,Rq,Rt,Ya,Yb,Yc,Ru,Rw,Zb,Yd,Ye,Ry,Rz,Wa,Wb,Wc,Wd,We];exact AG Dl Cl f1 rfl) (GW _ _ _ _),trivial⟩,?_⟩
 have o12:=o1.trans (o2.mono o1.1)
 have hb2:BI s2 v2 (D:Int) kd:=by
  obtain⟨m2,rfl,r2'⟩:=r2
  exact⟨_,m2,_,rfl,r2'.n32,AX _,by simpa using hdl,by rw[Ab,GZ]⟩
 obtain⟨x2,a2,n2,c2,rfl⟩:=hb2.shape
 obtain⟨n3,o3,g3⟩:=Bl s2 (R 24 2 false [.bool neg,.slice a n c,.bool x2,.slice a2 n2 c2])
 simp only[JJ,Xe,Qa,Qb,Qc,Qd,Qe,Qf,Qg,Qh,Qi,Qj,Qk,Ql,Qm,Qn,true_and,and_true,Qo,Qp,Qq,Qr,Qs,Qt,Qu,Qv,Qw,Qx,Qy,Qz,Ra,Rb,Rc,Rd,Re,Rf,Rg,Rh,Ri,Rj,Rk,Rm,Rn,Ro,Rp,Rq,Rt,Ya,Yb,Yc,Ru,Rw,Zb,Yd,Ye,Ry,Rz,Wa,Wb,Wc,Wd,We]
 generalize newObj s2 (R 24 2 false [.bool neg,.slice a n c,.bool x2,.slice a2 n2 c2])=s3 at *
 refine St hE (hn0.old (o12.trans (o3.mono o12.1))) (hb2.old o3) hk (xc:=[.bool neg,.slice a n c]) (yc:=[.bool x2,.slice a2 n2 c2]) rfl rfl (by omega) g3 fun s4 v4 o4 r4=>?_
 have f4:s4.heap.get (s.next+1)=some ZI:=by rw[o4.2 _ (by omega),o3.2 _ (by omega)];exact f2
 obtain⟨m4,rfl,r4⟩:=r4
 obtain⟨a4,n4,c4,rfl⟩:=r4.n32.shape
 obtain⟨st,ld⟩:=Fj (s1:=s) (x:=decide (z * (D:Int)<0)) (a:=a4) (n:=n4) (c:=c4) f4
 simp only[st,ld,AO,Xy,Za,Qa,Qb,Qc,Qd,Qe,Qf,Qg,Qh,Qi,Qj,Qk,Ql,Qm,Qn,true_and,and_true,Qo,Qp,Qq,Qr,Qs,Qt,Qu,Qv,Qw,Qx,Qy,Qz,Ra,Rb,Rc,Rd,Re,Rf,Rg,Rh,Ri,Rj,Rk,Rm,Rn,Ro,Rp,Rq,Rt,Ya,Yb,Yc,Ru,Rw,Zb,Yd,Ye,Ry,Rz,Wa,Wb,Wc,Wd,We]
 have o13:=o12.trans (o3.mono o12.1)
 exact hK _ _ ((o13.trans (o4.mono o13.1)).set (by omega) _) (BR.mono (b:=s3.next) ⟨_,rfl,r4.set (by omega) _⟩ (by omega))
theorem aG(hE:GoodN E){g:FuncId}{first cap:List AV}(heq:FJ (.func g first cap) (.func g first cap)=true){v va:AV}{qa qb:Rat}{ka kb ba bb pf pa:Nat}{ca:List AV}(hv:QR bb s v qb)(hva:QR ba s va qa)(hca:va=.agg ca)(hqa:QH qa ka)(hqb:QH qb kb)(hk:ka+kb+1≤1000000000)
  (hpf:pf<s.next) (hpa:pa<s.next) (gf:s.heap.get pf=some (R 84 0 false [.func g first cap])) (ga:s.heap.get pa=some (R 26 0 false ca)) {K:AV→AE→Prop}
  (hf:∀s1 vx vy vd,Ae s.next s s1→s.next+2≤s1.next→BR (s.next+2) s1 vx (qa.num * (qb.den:Int))→BR (s.next+2) s1 vy (qb.num * (qa.den:Int))→NR (s.next+2) s1 vd (AQ (qa.den * qb.den)) →
   WF E g (first++([vx,vy,vd]++cap)) (fun r s2=>∃cs,r=.agg cs∧cs.length=3∧Au cs=true∧s2.heap.get (s.next+1)=s1.heap.get (s.next+1)∧K r (setObj s2 (s.next+1) (R 26 0 false cs))) s1):
  WF E 110 [v,.ptr (some (pf,0)),.ptr (some (pa,0))] K s:=by
 obtain⟨ma,da,e1,hna,hda,hdla⟩:=hva.bi hqa
 obtain⟨mb,db,rfl,hnb,hdb,hdlb⟩:=hv.bi hqb
 rw[hca]at e1
 injection e1 with e1
 subst e1
 obtain⟨_,aa,an,ac,ea⟩:=hna.shape
 injection ea with ea
 injection ea with ea1 ea
 injection ea with ea2 _
 subst ea2
 obtain⟨_,xa,xn,xc,eb⟩:=hnb.shape
 injection eb with eb
 injection eb with eb1 eb
 injection eb with eb2 _
 subst eb2
 obtain⟨aad,and_,acd,rfl⟩:=hda.shape
 obtain⟨xad,xnd,xcd,rfl⟩:=hdb.shape
 refine hE.go bK (by decide) rfl ?_
 obtain⟨n1,o1,g1,g2⟩:=D4 s (BQ (decide (qb.num<0)) (.slice xa xn xc) (.slice xad xnd xcd)) ZQ
 simp only[nO,VW,VX,VY,Xa,Xh,Bb,Xc,Ap,ES,FD,Qa,Qb,Qc,Qd,Qe,Qf,Qg,Qh,Qi,Qj,Qk,Ql,Qm,Qn,true_and,and_true,Qo,Qp,Qq,Qr,Qs,Qt,Qu,Qv,Qw,Qx,Qy,Qz,Ra,Rb,Rc,Rd,Re,Rf,Rg,Rh,Ri,Rj,Rk,Rm,Rn,Ro,Rp,Rq,Rt,Ya,Yb,Yc,Ru,Rw,Zb,Yd,Ye,Ry,Rz,Wa,Wb,Wc,Wd,We]
 generalize newObj (newObj s (BQ (decide (qb.num<0)) (.slice xa xn xc) (.slice xad xnd xcd))) ZQ=s1 at *
 have lf:∀ {s'},Ae s1.next s1 s'→AA Tryz.prog s' 84 (.ptr (some (pf,0)))=some (.func g first cap):=fun o=>AI (o:=0) pD (((o.2 pf (by omega)).trans (o1.2 pf hpf)).trans gf) rfl
 have laN:∀ {s'},Ae s1.next s1 s'→AA Tryz.prog s' 24 (.ptr (some (pa,0+0)))=some (.agg [.bool (decide (qa.num<0)),.slice aa an ac]):=fun o=>Ag (o:=0) (n:=2) Dl Cl (((o.2 pa (by omega)).trans (o1.2 pa hpa)).trans ga) (by simp)
 have laD:∀ {s'},Ae s1.next s1 s'→AA Tryz.prog s' 22 (.ptr (some (pa,0+2)))=some (.slice aad and_ acd):=fun o=>AI (o:=0+2) CG (((o.2 pa (by omega)).trans (o1.2 pa hpa)).trans ga) rfl
 have lbN:∀ {s'},Ae s1.next s1 s'→AA Tryz.prog s' 24 (.ptr (some (s.next,0+0)))=some (.agg [.bool (decide (qb.num<0)),.slice xa xn xc]):=fun o=>Ag (o:=0) (n:=2) Dl Cl ((o.2 s.next (by omega)).trans g1) (by simp)
 have lbD:∀ {s'},Ae s1.next s1 s'→AA Tryz.prog s' 22 (.ptr (some (s.next,0+2)))=some (.slice xad xnd xcd):=fun o=>AI (o:=0+2) CG ((o.2 s.next (by omega)).trans g1) rfl
 have or:=Ae.refl s1.next s1
 simp only[lf or,laN or,laD or,lbN or,lbD or,Qa,Qb,Qc,Qd,Qe,Qf,Qg,Qh,Qi,Qj,Qk,Ql,Qm,Qn,true_and,and_true,Qo,Qp,Qq,Qr,Qs,Qt,Qu,Qv,Qw,Qx,Qy,Qz,Ra,Rb,Rc,Rd,Re,Rf,Rg,Rh,Ri,Rj,Rk,Rm,Rn,Ro,Rp,Rq,Rt,Ya,Yb,Yc,Ru,Rw,Zb,Yd,Ye,Ry,Rz,Wa,Wb,Wc,Wd,We]
 refine aH hE (hna.old o1) (hdb.old o1) hdlb hk fun s2 v2 o2 r2=>?_
 have h2:=o2.1
 refine⟨⟨Ak (by simp only[Qa,Qb,Qc,Qd,Qe,Qf,Qg,Qh,Qi,Qj,Qk,Ql,Qm,Qn,true_and,and_true,Qo,Qp,Qq,Qr,Qs,Qt,Qu,Qv,Qw,Qx,Qy,Qz,Ra,Rb,Rc,Rd,Re,Rf,Rg,Rh,Ri,Rj,Rk,Rm,Rn,Ro,Rp,Rq,Rt,Ya,Yb,Yc,Ru,Rw,Zb,Yd,Ye,Ry,Rz,Wa,Wb,Wc,Wd,We];exact lbD o2) (BT _ _ _),Ak (by simp only[Qa,Qb,Qc,Qd,Qe,Qf,Qg,Qh,Qi,Qj,Qk,Ql,Qm,Qn,true_and,and_true,Qo,Qp,Qq,Qr,Qs,Qt,Qu,Qv,Qw,Qx,Qy,Qz,Ra,Rb,Rc,Rd,Re,Rf,Rg,Rh,Ri,Rj,Rk,Rm,Rn,Ro,Rp,Rq,Rt,Ya,Yb,Yc,Ru,Rw,Zb,Yd,Ye,Ry,Rz,Wa,Wb,Wc,Wd,We];exact laD o2) (BT _ _ _),Ak (by simp only[Qa,Qb,Qc,Qd,Qe,Qf,Qg,Qh,Qi,Qj,Qk,Ql,Qm,Qn,true_and,and_true,Qo,Qp,Qq,Qr,Qs,Qt,Qu,Qv,Qw,Qx,Qy,Qz,Ra,Rb,Rc,Rd,Re,Rf,Rg,Rh,Ri,Rj,Rk,Rm,Rn,Ro,Rp,Rq,Rt,Ya,Yb,Yc,Ru,Rw,Zb,Yd,Ye,Ry,Rz,Wa,Wb,Wc,Wd,We];exact laD o2) (BT _ _ _),Ak (by simp only[Qa,Qb,Qc,Qd,Qe,Qf,Qg,Qh,Qi,Qj,Qk,Ql,Qm,Qn,true_and,and_true,Qo,Qp,Qq,Qr,Qs,Qt,Qu,Qv,Qw,Qx,Qy,Qz,Ra,Rb,Rc,Rd,Re,Rf,Rg,Rh,Ri,Rj,Rk,Rm,Rn,Ro,Rp,Rq,Rt,Ya,Yb,Yc,Ru,Rw,Zb,Yd,Ye,Ry,Rz,Wa,Wb,Wc,Wd,We];exact lbN o2) (GW _ _ _ _),Ak (by simp only[Qa,Qb,Qc,Qd,Qe,Qf,Qg,Qh,Qi,Qj,Qk,Ql,Qm,Qn,true_and,and_true,Qo,Qp,Qq,Qr,Qs,Qt,Qu,Qv,Qw,Qx,Qy,Qz,Ra,Rb,Rc,Rd,Re,Rf,Rg,Rh,Ri,Rj,Rk,Rm,Rn,Ro,Rp,Rq,Rt,Ya,Yb,Yc,Ru,Rw,Zb,Yd,Ye,Ry,Rz,Wa,Wb,Wc,Wd,We];exact lf o2) heq,trivial⟩,?_⟩
 simp only[Qa,Qb,Qc,Qd,Qe,Qf,Qg,Qh,Qi,Qj,Qk,Ql,Qm,Qn,true_and,and_true,Qo,Qp,Qq,Qr,Qs,Qt,Qu,Qv,Qw,Qx,Qy,Qz,Ra,Rb,Rc,Rd,Re,Rf,Rg,Rh,Ri,Rj,Rk,Rm,Rn,Ro,Rp,Rq,Rt,Ya,Yb,Yc,Ru,Rw,Zb,Yd,Ye,Ry,Rz,Wa,Wb,Wc,Wd,We]
 have o12:=o1.trans (o2.mono o1.1)
 refine aH hE (hnb.old o12) (hda.old o12) hdla (by omega) fun s3 v3 o3 r3=>?_
 have h3:=o3.1
 have o23:Ae s1.next s1 s3:=o2.trans (o3.mono h2)
 refine⟨⟨Ak (by simp only[Qa,Qb,Qc,Qd,Qe,Qf,Qg,Qh,Qi,Qj,Qk,Ql,Qm,Qn,true_and,and_true,Qo,Qp,Qq,Qr,Qs,Qt,Qu,Qv,Qw,Qx,Qy,Qz,Ra,Rb,Rc,Rd,Re,Rf,Rg,Rh,Ri,Rj,Rk,Rm,Rn,Ro,Rp,Rq,Rt,Ya,Yb,Yc,Ru,Rw,Zb,Yd,Ye,Ry,Rz,Wa,Wb,Wc,Wd,We];exact lbD o23) (BT _ _ _),Ak (by simp only[Qa,Qb,Qc,Qd,Qe,Qf,Qg,Qh,Qi,Qj,Qk,Ql,Qm,Qn,true_and,and_true,Qo,Qp,Qq,Qr,Qs,Qt,Qu,Qv,Qw,Qx,Qy,Qz,Ra,Rb,Rc,Rd,Re,Rf,Rg,Rh,Ri,Rj,Rk,Rm,Rn,Ro,Rp,Rq,Rt,Ya,Yb,Yc,Ru,Rw,Zb,Yd,Ye,Ry,Rz,Wa,Wb,Wc,Wd,We];exact laD o23) (BT _ _ _),Ak (by simp only[Qa,Qb,Qc,Qd,Qe,Qf,Qg,Qh,Qi,Qj,Qk,Ql,Qm,Qn,true_and,and_true,Qo,Qp,Qq,Qr,Qs,Qt,Qu,Qv,Qw,Qx,Qy,Qz,Ra,Rb,Rc,Rd,Re,Rf,Rg,Rh,Ri,Rj,Rk,Rm,Rn,Ro,Rp,Rq,Rt,Ya,Yb,Yc,Ru,Rw,Zb,Yd,Ye,Ry,Rz,Wa,Wb,Wc,Wd,We];exact lf o23) heq,trivial⟩,?_⟩
 simp only[Qa,Qb,Qc,Qd,Qe,Qf,Qg,Qh,Qi,Qj,Qk,Ql,Qm,Qn,true_and,and_true,Qo,Qp,Qq,Qr,Qs,Qt,Qu,Qv,Qw,Qx,Qy,Qz,Ra,Rb,Rc,Rd,Re,Rf,Rg,Rh,Ri,Rj,Rk,Rm,Rn,Ro,Rp,Rq,Rt,Ya,Yb,Yc,Ru,Rw,Zb,Yd,Ye,Ry,Rz,Wa,Wb,Wc,Wd,We]
 have o13:=o1.trans (o23.mono o1.1)
 refine Nz hE (hda.old o13) (hdb.old o13) (by omega) (by omega) (AX _) (AX _) fun s4 v4 o4 r4=>?_
 have h4:=o4.1
 rw[Ab,Ab]at r4
 have o24:Ae s1.next s1 s4:=o23.trans (o4.mono o23.1)
 refine⟨⟨Ak (by simp only[Qa,Qb,Qc,Qd,Qe,Qf,Qg,Qh,Qi,Qj,Qk,Ql,Qm,Qn,true_and,and_true,Qo,Qp,Qq,Qr,Qs,Qt,Qu,Qv,Qw,Qx,Qy,Qz,Ra,Rb,Rc,Rd,Re,Rf,Rg,Rh,Ri,Rj,Rk,Rm,Rn,Ro,Rp,Rq,Rt,Ya,Yb,Yc,Ru,Rw,Zb,Yd,Ye,Ry,Rz,Wa,Wb,Wc,Wd,We];exact lf o24) heq,trivial⟩,?_⟩
 simp only[Qa,Qb,Qc,Qd,Qe,Qf,Qg,Qh,Qi,Qj,Qk,Ql,Qm,Qn,true_and,and_true,Qo,Qp,Qq,Qr,Qs,Qt,Qu,Qv,Qw,Qx,Qy,Qz,Ra,Rb,Rc,Rd,Re,Rf,Rg,Rh,Ri,Rj,Rk,Rm,Rn,Ro,Rp,Rq,Rt,Ya,Yb,Yc,Ru,Rw,Zb,Yd,Ye,Ry,Rz,Wa,Wb,Wc,Wd,We]
 have o14:=o1.trans (o24.mono o1.1)
 refine(hf s4 v2 v3 v4 o14 (by omega) ((r2.old (o3.trans (o4.mono h3))).mono (by omega)) ((r3.old o4).mono (by omega)) (r4.mono (by omega))).mono ?_
 rintro r s5 ⟨cs,rfl,hl,hc,hg,hend⟩
 have g5:s5.heap.get (s.next+1)=some ZQ:=by rw[hg,o24.2 _ (by omega)];exact g2
 have st:=Ai (P:=Tryz.prog) (t:=26) (cs:=cs) Ar g5 rfl hl hc (by rintro rfl;cases hl)
 have ld:=AG (P:=Tryz.prog) (t:=26) (s:=setObj s5 (s.next+1) (R 26 0 false cs)) (i:=s.next+1) BH Ar (Ww _ _ _) hl
 simp only[st,ld,AO,Xy,Za,Qa,Qb,Qc,Qd,Qe,Qf,Qg,Qh,Qi,Qj,Qk,Ql,Qm,Qn,true_and,and_true,Qo,Qp,Qq,Qr,Qs,Qt,Qu,Qv,Qw,Qx,Qy,Qz,Ra,Rb,Rc,Rd,Re,Rf,Rg,Rh,Ri,Rj,Rk,Rm,Rn,Ro,Rp,Rq,Rt,Ya,Yb,Yc,Ru,Rw,Zb,Yd,Ye,Ry,Rz,Wa,Wb,Wc,Wd,We]
 exact hend
end
def oz(E:CR)(s:AE)(qa qb:Rat)(g:FuncId)(first cap:List AV)(K:AV→AE→Prop):Prop:=
 ∀s1 vx vy vd,Ae s.next s s1→BR s.next s1 vx (qa.num * (qb.den:Int))→BR s.next s1 vy (qb.num * (qa.den:Int))→NR s.next s1 vd (AQ (qa.den * qb.den)) →
  WF E g (first++([vx,vy,vd]++cap)) (fun r s2=>∃cs,r=.agg cs∧cs.length=3∧Au cs=true∧(∀j,s.next≤j→j<s1.next→s2.heap.get j=s1.heap.get j) ∧
   ∀s3,s3.next=s2.next→(∀j,(j<s.next∨s1.next≤j)→s3.heap.get j=s2.heap.get j)→K r s3) s1
section
variable{E:CR}{s:AE}
theorem cz(hE:GoodN E){g:FuncId}{first cap:List AV}(heq:FJ (.func g first cap) (.func g first cap)=true){v vb:AV}{qa qb:Rat}{ka kb ba pf pb:Nat}{cb:List AV}(hv:QR ba s v qa)(hvb:QI s vb qb kb)(hcb:vb=.agg cb)(hqa:QH qa ka)(hqb:QH qb kb)(hk:ka+kb+1≤1000000000)
  (hpf:pf<s.next) (hpb:pb<s.next) (gf:s.heap.get pf=some (R 84 0 false [.func g first cap])) (gb:s.heap.get pb=some (R 26 0 false cb)) {K:AV→AE→Prop} (hf:oz E s qa qb g first cap (fun r s3=>K r s3)):
  WF E 109 [v,.ptr (some (pb,0)),.ptr (some (pf,0))] (fun r s3=>(∃cs,r=.agg cs∧cs.length=3∧Au cs=true)∧K r s3) s:=by
 obtain⟨xa,aa,an,ac,ab,am,ad,rfl⟩:=hv.shape
 obtain⟨xb,ba',bn,bc,bb,bm,bd,eb⟩:=hvb.shape
 rw[hcb]at eb
 injection eb with eb
 subst eb
 refine hE.go bJ (by decide) rfl ?_
 obtain⟨n1,o1,g1,g2⟩:=D4 s (BQ xa (.slice aa an ac) (.slice ab am ad)) ZQ
 simp only[nN,VT,VU,Xa,Xh,Bb,Xc,Ap,Qa,Qb,Qc,Qd,Qe,Qf,Qg,Qh,Qi,Qj,Qk,Ql,Qm,Qn,true_and,and_true,Qo,Qp,Qq,Qr,Qs,Qt,Qu,Qv,Qw,Qx,Qy,Qz,Ra,Rb,Rc,Rd,Re,Rf,Rg,Rh,Ri,Rj,Rk,Rm,Rn,Ro,Rp,Rq,Rt,Ya,Yb,Yc,Ru,Rw,Zb,Yd,Ye,Ry,Rz,Wa,Wb,Wc,Wd,We]
 generalize newObj (newObj s (BQ xa (.slice aa an ac) (.slice ab am ad))) ZQ=s1 at *
 have l1:=AG (P:=Tryz.prog) (t:=26) BH Ar ((o1.2 pb hpb).trans gb) rfl
 simp only[l1,tD,sM,Qa,Qb,Qc,Qd,Qe,Qf,Qg,Qh,Qi,Qj,Qk,Ql,Qm,Qn,true_and,and_true,Qo,Qp,Qq,Qr,Qs,Qt,Qu,Qv,Qw,Qx,Qy,Qz,Ra,Rb,Rc,Rd,Re,Rf,Rg,Rh,Ri,Rj,Rk,Rm,Rn,Ro,Rp,Rq,Rt,Ya,Yb,Yc,Ru,Rw,Zb,Yd,Ye,Ry,Rz,Wa,Wb,Wc,Wd,We]
 rw[hcb]at hvb
 refine Tz hE (hvb.old o1) (by omega) fun s2 v2 o2 h2 r2=>?_
 have o12:=o1.trans (o2.mono o1.1)
 refine aG hE heq (ka:=ka) (kb:=kb) (pf:=pf) (pa:=s.next) r2 (hv.old o12) rfl hqa hqb hk (by omega) (by omega) ((o12.2 pf hpf).trans gf) ((o2.2 s.next (by omega)).trans g1) fun s3 vx vy vd o3 h3 rx ry rd=>?_
 have o13:=o12.trans (o3.mono o12.1)
 refine(hf s3 vx vy vd o13 (rx.mono (by omega)) (ry.mono (by omega)) (rd.mono (by omega))).mono ?_
 rintro r s4 ⟨cs,rfl,hl,hc,hfr,hend⟩
 have q1:=hfr (s.next+1) (by omega) (by omega)
 have q2:=hfr (s1.next+1) (by omega) (by omega)
 have q3:=hfr (s2.next+1) (by omega) (by omega)
 refine⟨cs,rfl,hl,hc,q3,cs,rfl,hl,hc,?_,?_⟩
 ·rw[Wx _ (by omega),q2,o3.2 _ (by omega)]
 have g4:(setObj (setObj s4 (s2.next+1) (R 26 0 false cs)) (s1.next+1) (R 26 0 false cs)).heap.get (s.next+1)=some ZQ:=by
  rw[Wx _ (by omega),Wx _ (by omega),q1,o3.2 _ (by omega),o2.2 _ (by omega)];exact g2
 have st:=Ai (P:=Tryz.prog) (t:=26) (cs:=cs) Ar g4 rfl hl hc (by rintro rfl;cases hl)
 have ld:=AG (P:=Tryz.prog) (t:=26) (s:=setObj (setObj (setObj s4 (s2.next+1) (R 26 0 false cs)) (s1.next+1) (R 26 0 false cs)) (s.next+1) (R 26 0 false cs)) (i:=s.next+1) BH Ar (Ww _ _ _) hl
 simp only[st,ld,AO,Xy,Za,Qa,Qb,Qc,Qd,Qe,Qf,Qg,Qh,Qi,Qj,Qk,Ql,Qm,Qn,true_and,and_true,Qo,Qp,Qq,Qr,Qs,Qt,Qu,Qv,Qw,Qx,Qy,Qz,Ra,Rb,Rc,Rd,Re,Rf,Rg,Rh,Ri,Rj,Rk,Rm,Rn,Ro,Rp,Rq,Rt,Ya,Yb,Yc,Ru,Rw,Zb,Yd,Ye,Ry,Rz,Wa,Wb,Wc,Wd,We]
 refine⟨⟨cs,rfl,hl,hc⟩,hend _ rfl fun j hj=>?_⟩
 rw[Wx _ (by omega),Wx _ (by omega),Wx _ (by omega)]
theorem mq(hE:GoodN E){g:FuncId}{first cap:List AV}(heq:FJ (.func g first cap) (.func g first cap)=true){va vb:AV}{qa qb:Rat}{ka kb:Nat}(hva:QI s va qa ka)(hvb:QI s vb qb kb)(hka:1≤ka)(hkb:1≤kb)(hk:ka+kb+1≤1000000000)
    {K:AV→AE→Prop} (hf:oz E s qa qb g first cap K):WF E 64 [va,vb,.func g first cap] K s:=by
  have hqa:=hva.qh hka
  have hqb:=hvb.qh hkb
  have hva0:=hva
  have hvb0:=hvb
  obtain⟨xa,aa,an,ac,ab,am,ad,ea⟩:=hva.shape
  obtain⟨xb,ba',bn,bc,bb,bm,bd,eb⟩:=hvb.shape
  subst ea;subst eb
  refine hE.go lQ (by decide) rfl ?_
  obtain⟨n3,o3,g1,g2,g3⟩:=LK s (BQ xa (.slice aa an ac) (.slice ab am ad)) (BQ xb (.slice ba' bn bc) (.slice bb bm bd)) (R 84 0 false [.func g first cap])
  obtain⟨n4,o4,g4⟩:=Bl (newObj (newObj (newObj s (BQ xa (.slice aa an ac) (.slice ab am ad))) (BQ xb (.slice ba' bn bc) (.slice bb bm bd))) (R 84 0 false [.func g first cap])) ZQ
  simp only[qc,iJ,iK,Xa,Xh,Xo,Bb,Xc,Ap,Qa,Qb,Qc,Qd,Qe,Qf,Qg,Qh,Qi,Qj,Qk,Ql,Qm,Qn,true_and,and_true,Qo,Qp,Qq,Qr,Qs,Qt,Qu,Qv,Qw,Qx,Qy,Qz,Ra,Rb,Rc,Rd,Re,Rf,Rg,Rh,Ri,Rj,Rk,Rm,Rn,Ro,Rp,Rq,Rt,Ya,Yb,Yc,Ru,Rw,Zb,Yd,Ye,Ry,Rz,Wa,Wb,Wc,Wd,We]
  generalize hs3:newObj (newObj (newObj s (BQ xa (.slice aa an ac) (.slice ab am ad))) (BQ xb (.slice ba' bn bc) (.slice bb bm bd))) (R 84 0 false [.func g first cap])=s3 at *
  generalize hs1:newObj s3 ZQ=s1 at *
  have o1:Ae s.next s s1:=o3.trans (o4.mono o3.1)
  have n1:s1.next=s.next+4:=by omega
  have k1:=(o4.2 s.next (by omega)).trans g1
  have k2:=(o4.2 (s.next+1) (by omega)).trans g2
  have k3:=(o4.2 (s.next+2) (by omega)).trans g3
  rw[n3]at g4
  have l1:=AG (P:=Tryz.prog) (t:=26) BH Ar k1 rfl
  simp only[l1,tD,sM,Qa,Qb,Qc,Qd,Qe,Qf,Qg,Qh,Qi,Qj,Qk,Ql,Qm,Qn,true_and,and_true,Qo,Qp,Qq,Qr,Qs,Qt,Qu,Qv,Qw,Qx,Qy,Qz,Ra,Rb,Rc,Rd,Re,Rf,Rg,Rh,Ri,Rj,Rk,Rm,Rn,Ro,Rp,Rq,Rt,Ya,Yb,Yc,Ru,Rw,Zb,Yd,Ye,Ry,Rz,Wa,Wb,Wc,Wd,We]
  refine Tz hE (hva0.old o1) (by omega) fun s2 v2 o2 h2 r2=>?_
  have o12:=o1.trans (o2.mono o1.1)
  refine(cz hE heq (ka:=ka) (kb:=kb) (pf:=s.next+1+1) (pb:=s.next+1) r2 (hvb0.old o12) rfl hqa hqb hk (by omega) (by omega) ((o2.2 _ (by omega)).trans k3) ((o2.2 _ (by omega)).trans k2)
    (K:=fun r s3=>s3.heap.get (s1.next+1)=s2.heap.get (s1.next+1)∧s3.heap.get (s.next+3)=some ZQ∧∀s5,s5.next=s3.next→(∀j,(j<s.next∨s2.next≤j)→s5.heap.get j=s3.heap.get j)→K r s5) (fun s4 vx vy vd o5 rx ry rd=>?_)).mono ?_
  · have o14:=o12.trans (o5.mono o12.1)
    refine(hf s4 vx vy vd o14 (rx.mono (by omega)) (ry.mono (by omega)) (rd.mono (by omega))).mono ?_
    rintro r s6 ⟨cs,rfl,hl,hc,hfr,hend⟩
    have h5:=o5.1
    refine⟨cs,rfl,hl,hc,fun j hj1 hj2=>hfr j (by omega) hj2,fun s7 n7 f7=>⟨?_,?_,fun s8 n8 f8=>hend s8 (by omega) fun j hj=>?_⟩⟩
    · rw[f7 _ (by omega),hfr _ (by omega) (by omega),o5.2 _ (by omega)]
    · rw[f7 _ (by omega),hfr _ (by omega) (by omega),o5.2 _ (by omega),o2.2 _ (by omega)];exact g4
    · rw[f8 j (by omega),f7 j (by omega)]
  · rintro r s6 ⟨⟨cs, rfl, hl, hc⟩, q1, q2, hend⟩
    refine⟨cs,rfl,hl,hc,q1,?_⟩
    have g6:(setObj s6 (s1.next+1) (R 26 0 false cs)).heap.get (s.next+1+1+1)=some ZQ:=by
      rw[Wx _ (by omega)];exact q2
    have st:=Ai (P:=Tryz.prog) (t:=26) (cs:=cs) Ar g6 rfl hl hc (by rintro rfl;cases hl)
    have ld:=AG (P:=Tryz.prog) (t:=26) (s:=setObj (setObj s6 (s1.next+1) (R 26 0 false cs)) (s.next+1+1+1) (R 26 0 false cs)) (i:=s.next+1+1+1) BH Ar (Ww _ _ _) hl
    simp only[st,ld,AO,Xy,Za,Qa,Qb,Qc,Qd,Qe,Qf,Qg,Qh,Qi,Qj,Qk,Ql,Qm,Qn,true_and,and_true,Qo,Qp,Qq,Qr,Qs,Qt,Qu,Qv,Qw,Qx,Qy,Qz,Ra,Rb,Rc,Rd,Re,Rf,Rg,Rh,Ri,Rj,Rk,Rm,Rn,Ro,Rp,Rq,Rt,Ya,Yb,Yc,Ru,Rw,Zb,Yd,Ye,Ry,Rz,Wa,Wb,Wc,Wd,We]
    refine hend _ rfl fun j hj=>?_
    rw[Wx _ (by omega),Wx _ (by omega)]
end
theorem jx(a b:Rat):mkRat (a.num * (b.den:Int)+b.num * (a.den:Int)) (a.den * b.den)=a+b:=by
 have:=mK (n1:=a.num) (n2:=b.num) a.den_nz b.den_nz
 rw[Rat.mkRat_self,Rat.mkRat_self]at this
 exact this.symm
theorem Fg{a:Int}{d j k:Nat}(ha:a.natAbs<LB ^ j)(hd:d<LB ^ k):(a * (d:Int)).natAbs<LB ^ (j+k):=by
 rw[Int.natAbs_mul,Int.natAbs_natCast]
 exact DD ha hd
theorem QH.le{q:Rat}{k k':Nat}(h:QH q k)(hk:k≤k'):QH q k':=⟨E4 h.1 hk,E4 h.2 hk⟩
theorem QH.add{a b:Rat}{j k:Nat}(ha:QH a j)(hb:QH b k):QH (a+b) (j+k+1):=by
  have hD:a.den * b.den≠0:=tE a.den_nz b.den_nz
  have h1:=Fg ha.1 hb.2
  have h2:=Fg hb.1 ha.2
  rw[Nat.add_comm k j]at h2
  rw[← jx]
  constructor
  · rw [Nx     _ hD, DC]
    refine rX (sY _ _) (rX (Int.natAbs_add_le _ _) (Hr h1 h2))
  · rw[SG _ hD]
    exact rX (sY _ _) (E4 (DD ha.2 hb.2) (by omega))
theorem oe:QH 0 1:=⟨by decide,by decide⟩
section
variable{E:CR}{s:AE}
theorem Zf(hE:GoodN E){vx vy vd:AV}{x y:Int}{D b k:Nat}(hx:BR b s vx x)(hy:BR b s vy y)(hd:NR b s vd (AQ D))(hxk:x.natAbs<LB ^ k)(hyk:y.natAbs<LB ^ k)(hdk:D<LB ^ k)(hD:D≠0)(hk:k+k+1≤1000000000){K:AV→AE→Prop}
  (hK:∀s' v,Ae s.next s s'→QR s.next s' v (mkRat (x+y) D)→K v s'):WF E 112 [vx,vy,vd] K s:=by
 have hbx:=hx.bi hxk
 have hby:=hy.bi hyk
 obtain⟨x1,a1,m1,c1,rfl⟩:=hbx.shape
 obtain⟨x2,a2,m2,c2,rfl⟩:=hby.shape
 refine hE.go bM (by decide) rfl ?_
 obtain⟨n1,o1,g1,g2,g3⟩:=LK s (BX x1 (.slice a1 m1 c1)) (BX x2 (.slice a2 m2 c2)) ZQ
 simp only[nQ,Vb,Vc,Xa,Xh,Bb,Xc,Ap,Qa,Qb,Qc,Qd,Qe,Qf,Qg,Qh,Qi,Qj,Qk,Ql,Qm,Qn,true_and,and_true,Qo,Qp,Qq,Qr,Qs,Qt,Qu,Qv,Qw,Qx,Qy,Qz,Ra,Rb,Rc,Rd,Re,Rf,Rg,Rh,Ri,Rj,Rk,Rm,Rn,Ro,Rp,Rq,Rt,Ya,Yb,Yc,Ru,Rw,Zb,Yd,Ye,Ry,Rz,Wa,Wb,Wc,Wd,We]
 generalize newObj (newObj (newObj s (BX x1 (.slice a1 m1 c1))) (BX x2 (.slice a2 m2 c2))) ZQ=s1 at *
 have l1:=AG (P:=Tryz.prog) (t:=24) Dl Cl g1 rfl
 have l2:=AG (P:=Tryz.prog) (t:=24) Dl Cl g2 rfl
 obtain⟨n2,o2,g4⟩:=Bl s1 (R 24 2 false [.bool x1,.slice a1 m1 c1,.bool x2,.slice a2 m2 c2])
 simp only[l1,l2,JJ,Xe,Qa,Qb,Qc,Qd,Qe,Qf,Qg,Qh,Qi,Qj,Qk,Ql,Qm,Qn,true_and,and_true,Qo,Qp,Qq,Qr,Qs,Qt,Qu,Qv,Qw,Qx,Qy,Qz,Ra,Rb,Rc,Rd,Re,Rf,Rg,Rh,Ri,Rj,Rk,Rm,Rn,Ro,Rp,Rq,Rt,Ya,Yb,Yc,Ru,Rw,Zb,Yd,Ye,Ry,Rz,Wa,Wb,Wc,Wd,We]
 generalize newObj s1 (R 24 2 false [.bool x1,.slice a1 m1 c1,.bool x2,.slice a2 m2 c2])=s2 at *
 have o12:=o1.trans (o2.mono o1.1)
 rw[n1]at g4
 refine aZ hE (ri:=s.next+1+1+1) (hbx.old o12) (hby.old o12) hk (xc:=[.bool x1,.slice a1 m1 c1]) (yc:=[.bool x2,.slice a2 m2 c2]) rfl rfl (by omega) g4 fun s3 v3 o3 r3=>?_
 have h3:=o3.1
 have o13:=o12.trans (o3.mono o12.1)
 simp only[Qa,Qb,Qc,Qd,Qe,Qf,Qg,Qh,Qi,Qj,Qk,Ql,Qm,Qn,true_and,and_true,Qo,Qp,Qq,Qr,Qs,Qt,Qu,Qv,Qw,Qx,Qy,Qz,Ra,Rb,Rc,Rd,Re,Rf,Rg,Rh,Ri,Rj,Rk,Rm,Rn,Ro,Rp,Rq,Rt,Ya,Yb,Yc,Ru,Rw,Zb,Yd,Ye,Ry,Rz,Wa,Wb,Wc,Wd,We]
 have hxy:(x+y).natAbs<LB ^ (k+1):=rX (Int.natAbs_add_le _ _) (Hr hxk hyk)
 refine D7 hE (r3.bi hxy) (hd.n32.old o13) (by omega) (rD (As hdk) (by omega)) (AX _) (by rw[Ab];exact hD) fun s4 v4 o4 r4=>?_
 rw[Ab]at r4
 have g5:s4.heap.get (s.next+1+1)=some ZQ:=by rw[o4.2 _ (by omega),o3.2 _ (by omega),o2.2 _ (by omega)];exact g3
 obtain⟨x4,a4,n4,c4,b4,m4,d4,rfl⟩:=r4.shape
 obtain⟨st,ld⟩:=Bj (cs0:=[.bool false,.slice none 0 (some 0),.slice none 0 (some 0)]) rfl (x:=x4) (a:=a4) (n:=n4) (c:=c4) (b:=b4) (m:=m4) (d:=d4) g5
 simp only[st,ld,AO,Xy,Za,Qa,Qb,Qc,Qd,Qe,Qf,Qg,Qh,Qi,Qj,Qk,Ql,Qm,Qn,true_and,and_true,Qo,Qp,Qq,Qr,Qs,Qt,Qu,Qv,Qw,Qx,Qy,Qz,Ra,Rb,Rc,Rd,Re,Rf,Rg,Rh,Ri,Rj,Rk,Rm,Rn,Ro,Rp,Rq,Rt,Ya,Yb,Yc,Ru,Rw,Zb,Yd,Ye,Ry,Rz,Wa,Wb,Wc,Wd,We]
 exact hK _ _ ((o13.trans (o4.mono o13.1)).set (by omega) _) ((r4.set (by omega) _).mono (by omega))
theorem ce(hE:GoodN E){qa qb:Rat}{ka kb:Nat}(hqa:QH qa ka)(hqb:QH qb kb)(hk:2 * (ka+kb)+1≤1000000000){K:AV→AE→Prop}(hK:∀s' v,Ae s.next s s'→QR s.next s' v (qa+qb)→K v s'):oz E s qa qb 112 [] [] K:=by
 intro s1 vx vy vd o1 rx ry rd
 have h2:=Fg hqb.1 hqa.2
 rw[Nat.add_comm kb ka]at h2
 refine Zf hE rx ry rd (Fg hqa.1 hqb.2) h2 (DD hqa.2 hqb.2) (tE qa.den_nz qb.den_nz) (by omega) fun s2 v2 o2 r2=>?_
 rw[jx]at r2
 obtain⟨x4,a4,n4,c4,b4,m4,d4,rfl⟩:=r2.shape
 have h1:=o1.1
 have h3:=o2.1
 refine⟨_,rfl,rfl,rfl,fun j _ hj=>o2.2 j hj,fun s3 n3 f3=>hK s3 _ ⟨by omega,fun j hj=>?_⟩ ((r2.keep (by omega) fun j hj _=>f3 j (.inr hj)).mono h1)⟩
 rw[f3 j (.inl hj),o2.2 j (by omega),o1.2 j hj]
theorem Mq(hE:GoodN E){S:AE}{p i:Nat}(hi:i<2){x0 x1:Bool}{a0 b0 a1 b1:Option (Nat×Nat)}{n0 m0 n1 m1:Nat}{c0 d0 c1 d1:Option Nat}{ri ka kb:Nat}{qa qb:Rat}
  (hp:p<S.next) (hb:S.heap.get p=some (BQ x0 (.slice a0 n0 c0) (.slice b0 m0 d0))) (hel:AA Tryz.prog S 26 (.ptr (some (ri,0+i * 3)))=some (.agg [.bool x1,.slice a1 n1 c1,.slice b1 m1 d1]))
  (ha:QI S (.agg [.bool x0,.slice a0 n0 c0,.slice b0 m0 d0]) qa ka) (hb':QI S (.agg [.bool x1,.slice a1 n1 c1,.slice b1 m1 d1]) qb kb) (hka:1≤ka) (hkb:1≤kb) (hk:2 * (ka+kb)+1≤1000000000)
  {Q:Ax→Prop} {y0 y2 y6:AV}
  (hgo:∀ (s':AE) (x2:Bool) (a2 b2:Option (Nat×Nat)) (n2 m2:Nat) (c2 d2:Option Nat) (y2 y6:AV),S.next≤s'.next→(∀j,j<S.next→j≠p→s'.heap.get j=S.heap.get j)→s'.heap.get p=some (BQ x2 (.slice a2 n2 c2) (.slice b2 m2 d2))→QR S.next s' (.agg [.bool x2,.slice a2 n2 c2,.slice b2 m2 d2]) (qa+qb) →
   WC E none (.loop MK) Q [y0,.ptr (some (p,0)),y2,.slice (some (ri,0)) 2 (some 2),iv 2,iv ((i+1:Nat):Int),y6] [] s'):
  WC E none (.loop MK) Q [y0,.ptr (some (p,0)),y2,.slice (some (ri,0)) 2 (some 2),iv 2,iv (i:Int),y6] [] S:=by
 have dd:decide ((i:Int)<2)=true:=decide_eq_true (by omega)
 have e1:=Ah (cap:=some 2) (i:=ri) (o:=0) (n:=3) Tryz.underlying28 Ar (show i<2 from hi)
 have e17:=BU Tryz.prog 3 (i:Int) 1 ⟨by omega,by omega⟩
 have e17':((i:Int)+1)=((i+1:Nat):Int):=by omega
 refine WC.loop' ?_
 generalize hW:WC E none (Ad.loop MK) Q=WW
 obtain⟨m3,o1,g1⟩:=Bl S ZQ
 simp only[MK,X7,iO,Ry,dd,e1,hel,Bb,Xc,Qa,Qb,Qc,Qd,Qe,Qf,Qg,Qh,Qi,Qj,Qk,Ql,Qm,Qn,true_and,and_true,Qo,Qp,Qq,Qr,Qs,Qt,Qu,Qv,Qw,Qx,Qy,Qz,Ra,Rb,Rc,Rd,Re,Rf,Rg,Rh,Ri,Rj,Rk,Rm,Rn,Ro,Rp,Rq,Rt,Ya,Yb,Yc,Ru,Rw,Zb,Yd,Ye,Ry,Rz,Wa,Wb,Wc,Wd,We]
 generalize hs1:newObj S ZQ=s1 at *
 have st:=Ai (P:=Tryz.prog) (t:=26) (cs:=[.bool x1,.slice a1 n1 c1,.slice b1 m1 d1]) Ar g1 rfl rfl rfl (by simp)
 generalize hs2:setObj s1 S.next (R 26 0 false [.bool x1,.slice a1 n1 c1,.slice b1 m1 d1])=s2 at st
 have o2:Ae S.next S s2:=by rw[← hs2];exact o1.set (qw _) _
 have n2:s2.next=S.next+1:=by rw[← hs2];exact m3
 have k1:s2.heap.get p=some (BQ x0 (.slice a0 n0 c0) (.slice b0 m0 d0)):=(o2.2 p (by omega)).trans hb
 have k2:s2.heap.get S.next=some (R 26 0 false [.bool x1,.slice a1 n1 c1,.slice b1 m1 d1]):=by rw[← hs2,Ww]
 have l1:=AG (P:=Tryz.prog) (t:=26) BH Ar k1 rfl
 have l2:=AG (P:=Tryz.prog) (t:=26) BH Ar k2 rfl
 simp only[iP,st,l1,l2,Xy,Za,Qa,Qb,Qc,Qd,Qe,Qf,Qg,Qh,Qi,Qj,Qk,Ql,Qm,Qn,true_and,and_true,Qo,Qp,Qq,Qr,Qs,Qt,Qu,Qv,Qw,Qx,Qy,Qz,Ra,Rb,Rc,Rd,Re,Rf,Rg,Rh,Ri,Rj,Rk,Rm,Rn,Ro,Rp,Rq,Rt,Ya,Yb,Yc,Ru,Rw,Zb,Yd,Ye,Ry,Rz,Wa,Wb,Wc,Wd,We]
 refine mq hE (TU _) (ha.old o2) (hb'.old o2) hka hkb (by omega) (ce hE (ha.qh hka) (hb'.qh hkb) hk fun s3 v3 o3 r3=>?_)
 have k3:s3.heap.get p=some (BQ x0 (.slice a0 n0 c0) (.slice b0 m0 d0)):=(o3.2 p (by omega)).trans k1
 obtain⟨x4,a4,n4,c4,b4,m4,d4,rfl⟩:=r3.shape
 have st3:=Ai (P:=Tryz.prog) (t:=26) (cs:=[.bool x4,.slice a4 n4 c4,.slice b4 m4 d4]) Ar k3 rfl rfl rfl (by simp)
 simp only[st3,Xy,Za,iQ,e17,e17',Qa,Qb,Qc,Qd,Qe,Qf,Qg,Qh,Qi,Qj,Qk,Ql,Qm,Qn,true_and,and_true,Qo,Qp,Qq,Qr,Qs,Qt,Qu,Qv,Qw,Qx,Qy,Qz,Ra,Rb,Rc,Rd,Re,Rf,Rg,Rh,Ri,Rj,Rk,Rm,Rn,Ro,Rp,Rq,Rt,Ya,Yb,Yc,Ru,Rw,Zb,Yd,Ye,Ry,Rz,Wa,Wb,Wc,Wd,We]
 rw[← hW]
 have h3:=o3.1
 refine hgo _ x4 a4 b4 n4 m4 c4 d4 _ _ ?_ (fun j hj hne=>?_) (Ww _ _ _) ((r3.set (by omega) _).mono (by omega))
 ·show S.next≤s3.next;omega
 ·rw[Wx _ hne,o3.2 j (by omega),o2.2 j hj]
theorem cU(hE:GoodN E){vx vy:AV}{x y:Rat}{kx ky ri:Nat}(hx:QI s vx x kx)(hy:QI s vy y ky)(hkx:1≤kx)(hky:1≤ky)(hk:2 * (kx+ky)+1≤1000000000){xc yc:List AV}(hxc:vx=.agg xc)(hyc:vy=.agg yc)(hri:ri<s.next)(hrow:s.heap.get ri=some (R 26 3 false (xc++yc)))
  {K:AV→AE→Prop} (hK:∀s' v,Ae s.next s s'→QR s.next s' v (x+y)→K v s'):WF E 67 [.slice (some (ri,0)) 2 (some 2)] K s:=by
 have hqx:=hx.qh hkx
 obtain⟨x1,a1,n1,c1,b1,m1,d1,e1⟩:=hx.shape
 obtain⟨x2,a2,n2,c2,b2,m2,d2,e2⟩:=hy.shape
 rw[hxc]at e1;rw[hyc]at e2
 injection e1 with e1;injection e2 with e2
 subst e1;subst e2;subst hxc;subst hyc
 refine hE.go lR (by decide) rfl ?_
 obtain⟨n3,o1,g1⟩:=Bl s ZQ
 simp only[qd,iL,iM,Bb,Xc,Qa,Qb,Qc,Qd,Qe,Qf,Qg,Qh,Qi,Qj,Qk,Ql,Qm,Qn,true_and,and_true,Qo,Qp,Qq,Qr,Qs,Qt,Qu,Qv,Qw,Qx,Qy,Qz,Ra,Rb,Rc,Rd,Re,Rf,Rg,Rh,Ri,Rj,Rk,Rm,Rn,Ro,Rp,Rq,Rt,Ya,Yb,Yc,Ru,Rw,Zb,Yd,Ye,Ry,Rz,Wa,Wb,Wc,Wd,We]
 generalize newObj s ZQ=s1 at *
 have l1:=AG (P:=Tryz.prog) (t:=26) BH Ar g1 rfl
 simp only[l1,Qa,Qb,Qc,Qd,Qe,Qf,Qg,Qh,Qi,Qj,Qk,Ql,Qm,Qn,true_and,and_true,Qo,Qp,Qq,Qr,Qs,Qt,Qu,Qv,Qw,Qx,Qy,Qz,Ra,Rb,Rc,Rd,Re,Rf,Rg,Rh,Ri,Rj,Rk,Rm,Rn,Ro,Rp,Rq,Rt,Ya,Yb,Yc,Ru,Rw,Zb,Yd,Ye,Ry,Rz,Wa,Wb,Wc,Wd,We]
 have hz:QI s1 (.agg [.bool false,.slice none 0 (some 0),.slice none 0 (some 0)]) 0 1:=⟨false,_,_,[],[],rfl,(NR.nil 0 s1).n32,(NR.nil 0 s1).n32,fun x hx=>(by cases hx),fun x hx=>(by cases hx),rB _,rB _,rfl⟩
 refine Gm hE hz (by omega) fun s2 v2 o2 r2=>?_
 have h2:=o2.1
 have o12:=o1.trans (o2.mono o1.1)
 obtain⟨x4,a4,n4,c4,b4,m4,d4,rfl⟩:=r2.shape
 have st:=Ai (P:=Tryz.prog) (t:=26) (cs:=[.bool x4,.slice a4 n4 c4,.slice b4 m4 d4]) Ar ((o2.2 s.next (by omega)).trans g1) rfl rfl rfl (by simp)
 simp only[iN,st,AN Tryz.underlying28,Xy,Za,Qa,Qb,Qc,Qd,Qe,Qf,Qg,Qh,Qi,Qj,Qk,Ql,Qm,Qn,true_and,and_true,Qo,Qp,Qq,Qr,Qs,Qt,Qu,Qv,Qw,Qx,Qy,Qz,Ra,Rb,Rc,Rd,Re,Rf,Rg,Rh,Ri,Rj,Rk,Rm,Rn,Ro,Rp,Rq,Rt,Ya,Yb,Yc,Ru,Rw,Zb,Yd,Ye,Ry,Rz,Wa,Wb,Wc,Wd,We]
 generalize hs3:setObj s2 s.next (R 26 0 false [.bool x4,.slice a4 n4 c4,.slice b4 m4 d4])=s3 at *
 have h3:s3.next=s2.next:=by rw[← hs3];rfl
 have o3:Ae s.next s s3:=by rw[← hs3];exact o12.set (qw _) _
 have g3:s3.heap.get s.next=some (BQ x4 (.slice a4 n4 c4) (.slice b4 m4 d4)):=by rw[← hs3,Ww]
 have r3:QR s1.next s3 (.agg [.bool x4,.slice a4 n4 c4,.slice b4 m4 d4]) 0:=by rw[← hs3];exact r2.set (by omega) _
 have el0:AA Tryz.prog s3 26 (.ptr (some (ri,0+0 * 3)))=some (.agg [.bool x1,.slice a1 n1 c1,.slice b1 m1 d1]):=Ag (o:=0) (n:=3) BH Ar ((o3.2 ri hri).trans hrow) (by simp)
 refine Mq hE (S:=s3) (p:=s.next) (i:=0) (by omega) (by omega) g3 el0 (r3.qi oe) (hx.old o3) (by omega) hkx (by omega) fun s4 x5 a5 b5 n5 m5 c5 d5 y2 y6 q1 q2 q3 q4=>?_
 rw[Rat.zero_add]at q4
 have o4:Ae s.next s s4:=⟨by omega,fun j hj=>by rw[q2 j (by omega) (by omega),o3.2 j hj]⟩
 have el1:AA Tryz.prog s4 26 (.ptr (some (ri,0+1 * 3)))=some (.agg [.bool x2,.slice a2 n2 c2,.slice b2 m2 d2]):=Ag (o:=3) (n:=3) BH Ar ((o4.2 ri hri).trans hrow) (by simp)
 refine Mq hE (S:=s4) (p:=s.next) (i:=0+1) (by omega) (by omega) q3 el1 (q4.qi hqx) (hy.old o4) hkx hky hk fun s5 x6 a6 b6 n6 m6 c6 d6 y2 y6 w1 w2 w3 w4=>?_
 have o5:Ae s.next s s5:=⟨by omega,fun j hj=>by rw[w2 j (by omega) (by omega),o4.2 j hj]⟩
 have dd:decide (((0+1+1:Nat):Int)<2)=false:=rfl
 refine WC.loop' ?_
 have l1:=AG (P:=Tryz.prog) (t:=26) BH Ar w3 rfl
 obtain⟨st,ld⟩:=Bj rfl (x:=x6) (a:=a6) (n:=n6) (c:=c6) (b:=b6) (m:=m6) (d:=d6) w3
 simp only[MK,X7,iR,Ry,dd,l1,st,ld,if_true,AO,Xy,Za,Qa,Qb,Qc,Qd,Qe,Qf,Qg,Qh,Qi,Qj,Qk,Ql,Qm,Qn,true_and,and_true,Qo,Qp,Qq,Qr,Qs,Qt,Qu,Qv,Qw,Qx,Qy,Qz,Ra,Rb,Rc,Rd,Re,Rf,Rg,Rh,Ri,Rj,Rk,Rm,Rn,Ro,Rp,Rq,Rt,Ya,Yb,Yc,Ru,Rw,Zb,Yd,Ye,Ry,Rz,Wa,Wb,Wc,Wd,We]
 exact hK _ _ (o5.set (qw _) _) ((w4.set (by omega) _).mono (by omega))
theorem Up(x y:Bool)(a b a' b':Option (Nat×Nat))(n m n' m':Nat)(c d c' d':Option Nat):Af Tryz.prog 28 2 (zipIdx [0,1] [.agg [.bool x,.slice a n c,.slice b m d],.agg [.bool y,.slice a' n' c',.slice b' m' d']])=some (R 26 3 false [.bool x,.slice a n c,.slice b m d,.bool y,.slice a' n' c',.slice b' m' d']):=by kernel_rfl
theorem KH(hE:GoodN E){vx vy:AV}{x y:Rat}{kx ky:Nat}(hx:QI s vx x kx)(hy:QI s vy y ky)(hkx:1≤kx)(hky:1≤ky)(hk:2 * (kx+ky)+1≤1000000000){K:AV→AE→Prop}(hK:∀s' v,Ae s.next s s'→QR s.next s' v (x+y)→K v s'):WF E 27 [vx,vy] K s:=by
 obtain⟨x1,a1,n1,c1,b1,m1,d1,rfl⟩:=hx.shape
 obtain⟨x2,a2,n2,c2,b2,m2,d2,rfl⟩:=hy.shape
 refine hE.go kh (by decide) rfl ?_
 obtain⟨n3,o1,g1,g2,g3⟩:=LK s (BQ x1 (.slice a1 n1 c1) (.slice b1 m1 d1)) (BQ x2 (.slice a2 n2 c2) (.slice b2 m2 d2)) ZQ
 simp only[qH,fG,fH,Xa,Xh,Bb,Xc,Ap,Qa,Qb,Qc,Qd,Qe,Qf,Qg,Qh,Qi,Qj,Qk,Ql,Qm,Qn,true_and,and_true,Qo,Qp,Qq,Qr,Qs,Qt,Qu,Qv,Qw,Qx,Qy,Qz,Ra,Rb,Rc,Rd,Re,Rf,Rg,Rh,Ri,Rj,Rk,Rm,Rn,Ro,Rp,Rq,Rt,Ya,Yb,Yc,Ru,Rw,Zb,Yd,Ye,Ry,Rz,Wa,Wb,Wc,Wd,We]
 generalize newObj (newObj (newObj s (BQ x1 (.slice a1 n1 c1) (.slice b1 m1 d1))) (BQ x2 (.slice a2 n2 c2) (.slice b2 m2 d2))) ZQ=s1 at *
 have l1:=AG (P:=Tryz.prog) (t:=26) BH Ar g1 rfl
 have l2:=AG (P:=Tryz.prog) (t:=26) BH Ar g2 rfl
 obtain⟨n4,o2,g4⟩:=Bl s1 (R 26 3 false [.bool x1,.slice a1 n1 c1,.slice b1 m1 d1,.bool x2,.slice a2 n2 c2,.slice b2 m2 d2])
 simp only[l1,l2,Up,Xe,Qa,Qb,Qc,Qd,Qe,Qf,Qg,Qh,Qi,Qj,Qk,Ql,Qm,Qn,true_and,and_true,Qo,Qp,Qq,Qr,Qs,Qt,Qu,Qv,Qw,Qx,Qy,Qz,Ra,Rb,Rc,Rd,Re,Rf,Rg,Rh,Ri,Rj,Rk,Rm,Rn,Ro,Rp,Rq,Rt,Ya,Yb,Yc,Ru,Rw,Zb,Yd,Ye,Ry,Rz,Wa,Wb,Wc,Wd,We]
 generalize newObj s1 (R 26 3 false [.bool x1,.slice a1 n1 c1,.slice b1 m1 d1,.bool x2,.slice a2 n2 c2,.slice b2 m2 d2])=s2 at *
 have o12:=o1.trans (o2.mono o1.1)
 rw[n3]at g4
 refine cU hE (ri:=s.next+1+1+1) (hx.old o12) (hy.old o12) hkx hky hk (xc:=[.bool x1,.slice a1 n1 c1,.slice b1 m1 d1]) (yc:=[.bool x2,.slice a2 n2 c2,.slice b2 m2 d2]) rfl rfl (by omega) g4 fun s3 v3 o3 r3=>?_
 have o13:=o12.trans (o3.mono o12.1)
 have g5:s3.heap.get (s.next+1+1)=some ZQ:=by rw[o3.2 _ (by omega),o2.2 _ (by omega)];exact g3
 obtain⟨x4,a4,n4,c4,b4,m4,d4,rfl⟩:=r3.shape
 obtain⟨st,ld⟩:=Bj (cs0:=[.bool false,.slice none 0 (some 0),.slice none 0 (some 0)]) rfl (x:=x4) (a:=a4) (n:=n4) (c:=c4) (b:=b4) (m:=m4) (d:=d4) g5
 simp only[st,ld,AO,Xy,Za,Qa,Qb,Qc,Qd,Qe,Qf,Qg,Qh,Qi,Qj,Qk,Ql,Qm,Qn,true_and,and_true,Qo,Qp,Qq,Qr,Qs,Qt,Qu,Qv,Qw,Qx,Qy,Qz,Ra,Rb,Rc,Rd,Re,Rf,Rg,Rh,Ri,Rj,Rk,Rm,Rn,Ro,Rp,Rq,Rt,Ya,Yb,Yc,Ru,Rw,Zb,Yd,Ye,Ry,Rz,Wa,Wb,Wc,Wd,We]
 exact hK _ _ (o13.set (by omega) _) ((r3.set (by omega) _).mono (by omega))
end
theorem jy(a b:Rat):mkRat (a.num * b.num) (a.den * b.den)=a * b:=by
 have:=mL a.num b.num a.den b.den
 rw[Rat.mkRat_self,Rat.mkRat_self]at this
 exact this.symm
theorem QH.mul{a b:Rat}{j k:Nat}(ha:QH a j)(hb:QH b k):QH (a * b) (j+k):=by
  have hD:a.den * b.den≠0:=tE a.den_nz b.den_nz
  rw[← jy]
  constructor
  · rw [Nx     _ hD, DC]
    refine rX (sY _ _) ?_
    rw[Int.natAbs_mul]
    exact DD ha.1 hb.1
  · rw[SG _ hD]
    exact rX (sY _ _) (DD ha.2 hb.2)
section
variable{E:CR}{s:AE}
theorem KJ(hE:GoodN E){vx vy:AV}{x y:Rat}{kx ky:Nat}(hx:QI s vx x kx)(hy:QI s vy y ky)(hkx:1≤kx)(hky:1≤ky)(hk:kx+ky+1≤1000000000){K:AV→AE→Prop}(hK:∀s' v,Ae s.next s s'→QR s.next s' v (x * y)→K v s'):WF E 29 [vx,vy] K s:=by
 have hqx:=hx.qh hkx
 have hqy:=hy.qh hky
 have hx0:=hx
 have hy0:=hy
 obtain⟨x1,a1,n1,c1,b1,m1,d1,ex⟩:=hx.shape
 obtain⟨x2,a2,n2,c2,b2,m2,d2,ey⟩:=hy.shape
 subst ex;subst ey
 refine hE.go ki (by decide) rfl ?_
 obtain⟨n3,o1,g1,g2,g3⟩:=LK s (BQ x1 (.slice a1 n1 c1) (.slice b1 m1 d1)) (BQ x2 (.slice a2 n2 c2) (.slice b2 m2 d2)) ZQ
 simp only[qI,fI,fJ,Xa,Xh,Bb,Xc,Ap,Qa,Qb,Qc,Qd,Qe,Qf,Qg,Qh,Qi,Qj,Qk,Ql,Qm,Qn,true_and,and_true,Qo,Qp,Qq,Qr,Qs,Qt,Qu,Qv,Qw,Qx,Qy,Qz,Ra,Rb,Rc,Rd,Re,Rf,Rg,Rh,Ri,Rj,Rk,Rm,Rn,Ro,Rp,Rq,Rt,Ya,Yb,Yc,Ru,Rw,Zb,Yd,Ye,Ry,Rz,Wa,Wb,Wc,Wd,We]
 generalize newObj (newObj (newObj s (BQ x1 (.slice a1 n1 c1) (.slice b1 m1 d1))) (BQ x2 (.slice a2 n2 c2) (.slice b2 m2 d2))) ZQ=s1 at *
 have l1:=AG (P:=Tryz.prog) (t:=26) BH Ar g1 rfl
 have l2:=AG (P:=Tryz.prog) (t:=26) BH Ar g2 rfl
 simp only[l1,l2,Qa,Qb,Qc,Qd,Qe,Qf,Qg,Qh,Qi,Qj,Qk,Ql,Qm,Qn,true_and,and_true,Qo,Qp,Qq,Qr,Qs,Qt,Qu,Qv,Qw,Qx,Qy,Qz,Ra,Rb,Rc,Rd,Re,Rf,Rg,Rh,Ri,Rj,Rk,Rm,Rn,Ro,Rp,Rq,Rt,Ya,Yb,Yc,Ru,Rw,Zb,Yd,Ye,Ry,Rz,Wa,Wb,Wc,Wd,We]
 refine Gm hE (hx0.old o1) (by omega) fun s2 v2 o2 r2=>?_
 have h2:=o2.1
 have f1:=(o2.2 s.next (by omega)).trans g1
 have f2:=(o2.2 (s.next+1) (by omega)).trans g2
 have f3:=(o2.2 (s.next+1+1) (by omega)).trans g3
 refine⟨⟨Ak (by simp only[Qa,Qb,Qc,Qd,Qe,Qf,Qg,Qh,Qi,Qj,Qk,Ql,Qm,Qn,true_and,and_true,Qo,Qp,Qq,Qr,Qs,Qt,Qu,Qv,Qw,Qx,Qy,Qz,Ra,Rb,Rc,Rd,Re,Rf,Rg,Rh,Ri,Rj,Rk,Rm,Rn,Ro,Rp,Rq,Rt,Ya,Yb,Yc,Ru,Rw,Zb,Yd,Ye,Ry,Rz,Wa,Wb,Wc,Wd,We];exact AG BH Ar f2 rfl) (Cr _ _ _ _ _ _ _),trivial⟩,?_⟩
 have o12:=o1.trans (o2.mono o1.1)
 simp only[Qa,Qb,Qc,Qd,Qe,Qf,Qg,Qh,Qi,Qj,Qk,Ql,Qm,Qn,true_and,and_true,Qo,Qp,Qq,Qr,Qs,Qt,Qu,Qv,Qw,Qx,Qy,Qz,Ra,Rb,Rc,Rd,Re,Rf,Rg,Rh,Ri,Rj,Rk,Rm,Rn,Ro,Rp,Rq,Rt,Ya,Yb,Yc,Ru,Rw,Zb,Yd,Ye,Ry,Rz,Wa,Wb,Wc,Wd,We]
 refine Gm hE (hy0.old o12) (by omega) fun s3 v3 o3 r3=>?_
 have h3:=o3.1
 have o13:=o12.trans (o3.mono o12.1)
 have r2':=r2.old o3
 have e1:=(o3.2 s.next (by omega)).trans f1
 have e2:=(o3.2 (s.next+1) (by omega)).trans f2
 have e3:=(o3.2 (s.next+1+1) (by omega)).trans f3
 obtain⟨ma,da,rfl,hna,hda,_⟩:=r2'
 obtain⟨mb,db,rfl,hnb,hdb,_⟩:=r3
 obtain⟨a4,n4,c4,rfl⟩:=hna.n32.shape
 obtain⟨b4,m4,d4,rfl⟩:=hda.n32.shape
 obtain⟨a5,n5,c5,rfl⟩:=hnb.n32.shape
 obtain⟨b5,m5,d5,rfl⟩:=hdb.n32.shape
 have st1:=Ai (P:=Tryz.prog) (t:=26) (cs:=[.bool (decide (x.num<0)),.slice a4 n4 c4,.slice b4 m4 d4]) Ar e1 rfl rfl rfl (by simp)
 generalize hs4:setObj s3 s.next (BQ (decide (x.num<0)) (.slice a4 n4 c4) (.slice b4 m4 d4))=s4 at st1
 have e2':s4.heap.get (s.next+1)=some (BQ x2 (.slice a2 n2 c2) (.slice b2 m2 d2)):=by rw[← hs4,Wx _ (by omega)];exact e2
 have st2:=Ai (P:=Tryz.prog) (t:=26) (cs:=[.bool (decide (y.num<0)),.slice a5 n5 c5,.slice b5 m5 d5]) Ar e2' rfl rfl rfl (by simp)
 generalize hs5:setObj s4 (s.next+1) (BQ (decide (y.num<0)) (.slice a5 n5 c5) (.slice b5 m5 d5))=s5 at st2
 have k1:s5.heap.get s.next=some (BQ (decide (x.num<0)) (.slice a4 n4 c4) (.slice b4 m4 d4)):=by rw[← hs5,Wx _ (by omega),← hs4,Ww]
 have k2:s5.heap.get (s.next+1)=some (BQ (decide (y.num<0)) (.slice a5 n5 c5) (.slice b5 m5 d5)):=by rw[← hs5,Ww]
 have k3:s5.heap.get (s.next+1+1)=some ZQ:=by rw[← hs5,Wx _ (by omega),← hs4,Wx _ (by omega)];exact e3
 have n6:s5.next=s3.next:=by rw[← hs5,← hs4];rfl
 have o5:Ae s.next s s5:=by
  rw[← hs5,← hs4]
  exact(o13.set (qw _) _).set (by omega) _
 have pna:NR s1.next s5 (.slice a4 n4 c4) (AQ x.num.natAbs):=by rw[← hs5,← hs4];exact(hna.set (by omega) _).set (by omega) _
 have pda:NR s1.next s5 (.slice b4 m4 d4) (AQ x.den):=by rw[← hs5,← hs4];exact(hda.set (by omega) _).set (by omega) _
 have pnb:NR s2.next s5 (.slice a5 n5 c5) (AQ y.num.natAbs):=by rw[← hs5,← hs4];exact(hnb.set (by omega) _).set (by omega) _
 have pdb:NR s2.next s5 (.slice b5 m5 d5) (AQ y.den):=by rw[← hs5,← hs4];exact(hdb.set (by omega) _).set (by omega) _
 have l1:AA Tryz.prog s5 24 (.ptr (some (s.next,0+0)))=some (.agg [.bool (decide (x.num<0)),.slice a4 n4 c4]):=Ag (o:=0) (n:=2) Dl Cl k1 (by simp)
 have l2:AA Tryz.prog s5 24 (.ptr (some (s.next+1,0+0)))=some (.agg [.bool (decide (y.num<0)),.slice a5 n5 c5]):=Ag (o:=0) (n:=2) Dl Cl k2 (by simp)
 obtain⟨n7,o6,g6⟩:=Bl s5 (R 24 2 false [.bool (decide (x.num<0)),.slice a4 n4 c4,.bool (decide (y.num<0)),.slice a5 n5 c5])
 simp only[fK,st1,st2,l1,l2,JJ,Xe,ES,FD,Xy,Za,Qa,Qb,Qc,Qd,Qe,Qf,Qg,Qh,Qi,Qj,Qk,Ql,Qm,Qn,true_and,and_true,Qo,Qp,Qq,Qr,Qs,Qt,Qu,Qv,Qw,Qx,Qy,Qz,Ra,Rb,Rc,Rd,Re,Rf,Rg,Rh,Ri,Rj,Rk,Rm,Rn,Ro,Rp,Rq,Rt,Ya,Yb,Yc,Ru,Rw,Zb,Yd,Ye,Ry,Rz,Wa,Wb,Wc,Wd,We]
 generalize newObj s5 (R 24 2 false [.bool (decide (x.num<0)),.slice a4 n4 c4,.bool (decide (y.num<0)),.slice a5 n5 c5])=s6 at *
 have o56:=o5.trans (o6.mono o5.1)
 have la:∀ {s'},Ae s5.next s5 s'→AA Tryz.prog s' 22 (.ptr (some (s.next,0+2)))=some (.slice b4 m4 d4):=fun o=>AI (o:=0+2) CG ((o.2 s.next (by omega)).trans k1) rfl
 have lb:∀ {s'},Ae s5.next s5 s'→AA Tryz.prog s' 22 (.ptr (some (s.next+1,0+2)))=some (.slice b5 m5 d5):=fun o=>AI (o:=0+2) CG ((o.2 (s.next+1) (by omega)).trans k2) rfl
 simp only[la o6,lb o6,Qa,Qb,Qc,Qd,Qe,Qf,Qg,Qh,Qi,Qj,Qk,Ql,Qm,Qn,true_and,and_true,Qo,Qp,Qq,Qr,Qs,Qt,Qu,Qv,Qw,Qx,Qy,Qz,Ra,Rb,Rc,Rd,Re,Rf,Rg,Rh,Ri,Rj,Rk,Rm,Rn,Ro,Rp,Rq,Rt,Ya,Yb,Yc,Ru,Rw,Zb,Yd,Ye,Ry,Rz,Wa,Wb,Wc,Wd,We]
 have bx:BI s5 (.agg [.bool (decide (x.num<0)),.slice a4 n4 c4]) x.num kx:=BR.bi (b:=s1.next) ⟨_,rfl,pna⟩ hqx.1
 have by':BI s5 (.agg [.bool (decide (y.num<0)),.slice a5 n5 c5]) y.num ky:=BR.bi (b:=s2.next) ⟨_,rfl,pnb⟩ hqy.1
 refine St hE (bx.old o6) (by'.old o6) hk (xc:=[.bool (decide (x.num<0)),.slice a4 n4 c4]) (yc:=[.bool (decide (y.num<0)),.slice a5 n5 c5]) rfl rfl (by omega) g6 fun s7 v7 o7 r7=>?_
 have h7:=o7.1
 have o57:Ae s5.next s5 s7:=o6.trans (o7.mono o6.1)
 refine⟨⟨Ak (by simp only[Qa,Qb,Qc,Qd,Qe,Qf,Qg,Qh,Qi,Qj,Qk,Ql,Qm,Qn,true_and,and_true,Qo,Qp,Qq,Qr,Qs,Qt,Qu,Qv,Qw,Qx,Qy,Qz,Ra,Rb,Rc,Rd,Re,Rf,Rg,Rh,Ri,Rj,Rk,Rm,Rn,Ro,Rp,Rq,Rt,Ya,Yb,Yc,Ru,Rw,Zb,Yd,Ye,Ry,Rz,Wa,Wb,Wc,Wd,We];exact lb o57) (BT _ _ _),Ak (by simp only[Qa,Qb,Qc,Qd,Qe,Qf,Qg,Qh,Qi,Qj,Qk,Ql,Qm,Qn,true_and,and_true,Qo,Qp,Qq,Qr,Qs,Qt,Qu,Qv,Qw,Qx,Qy,Qz,Ra,Rb,Rc,Rd,Re,Rf,Rg,Rh,Ri,Rj,Rk,Rm,Rn,Ro,Rp,Rq,Rt,Ya,Yb,Yc,Ru,Rw,Zb,Yd,Ye,Ry,Rz,Wa,Wb,Wc,Wd,We];exact la o57) (BT _ _ _),trivial⟩,?_⟩
 simp only[Qa,Qb,Qc,Qd,Qe,Qf,Qg,Qh,Qi,Qj,Qk,Ql,Qm,Qn,true_and,and_true,Qo,Qp,Qq,Qr,Qs,Qt,Qu,Qv,Qw,Qx,Qy,Qz,Ra,Rb,Rc,Rd,Re,Rf,Rg,Rh,Ri,Rj,Rk,Rm,Rn,Ro,Rp,Rq,Rt,Ya,Yb,Yc,Ru,Rw,Zb,Yd,Ye,Ry,Rz,Wa,Wb,Wc,Wd,We]
 have dxl:=As hqx.2
 have dyl:=As hqy.2
 refine Nz hE (pda.n32.old o57) (pdb.n32.old o57) (by omega) (by omega) (AX _) (AX _) fun s8 v8 o8 r8=>?_
 rw[Ab,Ab]at r8
 have h8:=o8.1
 have hxy:(x.num * y.num).natAbs<LB ^ (kx+ky):=by rw[Int.natAbs_mul];exact DD hqx.1 hqy.1
 simp only[Qa,Qb,Qc,Qd,Qe,Qf,Qg,Qh,Qi,Qj,Qk,Ql,Qm,Qn,true_and,and_true,Qo,Qp,Qq,Qr,Qs,Qt,Qu,Qv,Qw,Qx,Qy,Qz,Ra,Rb,Rc,Rd,Re,Rf,Rg,Rh,Ri,Rj,Rk,Rm,Rn,Ro,Rp,Rq,Rt,Ya,Yb,Yc,Ru,Rw,Zb,Yd,Ye,Ry,Rz,Wa,Wb,Wc,Wd,We]
 refine D7 hE ((r7.bi hxy).old o8) r8.n32 (by omega) (rD (As (DD hqx.2 hqy.2)) (by omega)) (AX _) (by rw[Ab];exact tE x.den_nz y.den_nz) fun s9 v9 o9 r9=>?_
 rw[Ab,jy]at r9
 have h9:=o9.1
 have o59:Ae s5.next s5 s9:=o57.trans ((o8.trans (o9.mono h8)).mono o57.1)
 obtain⟨x9,a9,n9,c9,b9,m9,d9,rfl⟩:=r9.shape
 obtain⟨st,ld⟩:=Bj (cs0:=[.bool false,.slice none 0 (some 0),.slice none 0 (some 0)]) rfl (x:=x9) (a:=a9) (n:=n9) (c:=c9) (b:=b9) (m:=m9) (d:=d9) ((o59.2 (s.next+1+1) (by omega)).trans k3)
 simp only[st,ld,AO,Xy,Za,Qa,Qb,Qc,Qd,Qe,Qf,Qg,Qh,Qi,Qj,Qk,Ql,Qm,Qn,true_and,and_true,Qo,Qp,Qq,Qr,Qs,Qt,Qu,Qv,Qw,Qx,Qy,Qz,Ra,Rb,Rc,Rd,Re,Rf,Rg,Rh,Ri,Rj,Rk,Rm,Rn,Ro,Rp,Rq,Rt,Ya,Yb,Yc,Ru,Rw,Zb,Yd,Ye,Ry,Rz,Wa,Wb,Wc,Wd,We]
 exact hK _ _ ((o5.trans (o59.mono o5.1)).set (by omega) _) ((r9.set (by omega) _).mono (by omega))
end
section
variable{P:Program}{ρ ρ1 ρ2:BD}{s s1 s2:AE}{w w0 w1 w2:World}
theorem BO.addRow  (h : BO  P ρ s w) (hf : Ay     ρ s) {r : Dh}   {rb : RB} (hok : Ca    (Bw     ρ s.next rb) w r rb) (hlt : rb.b < w.heap.size) (hne : ∀ j oj rj, s.heap.get j = some oj → ρ j = some rj → rj.b ≠ rb.b) : BO  P (Bw     ρ s.next rb) (newObj s (.row r)) w := by
  have hfn:=(hf s.next (qw _)).1
  have hle:=BZ (rb:=rb) hfn
  refine⟨?_,?_,?_,?_⟩
  · intro x ox rx hx hrx
    rw[Av]at hx
    by_cases e:x=s.next
    · subst e
      rw[if_pos rfl]at hx
      injection hx with hx
      rw[Aa]at hrx
      injection hrx with hrx
      subst hx;subst hrx
      exact hok
    · rw [if_neg e] at hx
      rw[AU rb e]at hrx
      exact(h.obj x ox rx hx hrx).mono hle rfl
  · intro x rx hrx
    by_cases e:x=s.next
    · subst e
      rw[Aa]at hrx
      injection hrx with hrx
      subst hrx
      exact hlt
    · rw[AU rb e]at hrx
      exact h.lt x rx hrx
  · intro x y ox oy rx ry hxy hx hy hrx hry hbb hw
    rw[Av]at hx hy
    by_cases ex:x=s.next
    · subst ex
      have ey:y≠s.next:=fun e=>hxy e.symm
      rw[Aa]at hrx
      injection hrx with hrx
      subst hrx
      rw[if_neg ey]at hy
      rw[AU rb ey]at hry
      exact absurd hbb.symm (hne y oy ry hy hry)
    · by_cases ey : y = s.next
      · subst ey
        rw[Aa]at hry
        injection hry with hry
        subst hry
        rw[if_neg ex]at hx
        rw[AU rb ex]at hrx
        exact absurd hbb (hne x ox rx hx hrx)
      · rw [if_neg ex] at hx
        rw[if_neg ey]at hy
        rw[AU rb ex]at hrx
        rw[AU rb ey]at hry
        exact h.sep x y ox oy rx ry hxy hx hy hrx hry hbb hw
  · intro x ox g hx hgo
    rw[Av]at hx
    by_cases e:x=s.next
    · subst e;exact⟨_,Aa _ _⟩
    · rw[if_neg e]at hx
      obtain⟨r',hr'⟩:=h.glb x ox g hx hgo
      exact⟨r',hle _ _ hr'⟩
theorem Fr.addRow(h:Fr ρ s w0 ρ1 s1 w)(hf:Ay ρ1 s1){r:Dh}{rb:RB}(hge:w0.heap.size≤rb.b):Fr ρ s w0 (Bw ρ1 s1.next rb) (newObj s1 (.row r)) w:=by
  have hfn:=(hf s1.next (qw _)).1
  have hle:=BZ (rb:=rb) hfn
  have hn:=h.next
  refine⟨BD.le_trans h.le hle,?_,by show s.next≤s1.next+1;omega,h.size,h.os,h.tape,h.output,h.keep,?_,?_⟩
  · intro x hx hxr
    have hxr':x<s.next∨s1.next+1≤x:=hxr
    have:x≠s1.next:=by omega
    rw[AU rb this]
    exact h.fresh x hx (by omega)
  · rintro b ⟨x, ox, rx, hx, hw, hrx, rfl⟩
    rw[Av]at hx
    by_cases e:x=s1.next
    · subst e
      rw[Aa]at hrx
      injection hrx with hrx
      subst hrx
      exact .inr hge
    · rw [if_neg e] at hx
      rw[AU rb e]at hrx
      exact h.own _ ⟨x,ox,rx,hx,hw,hrx,rfl⟩
  · intro x hx hxr
    have hxr':x<s.next∨s1.next+1≤x:=hxr
    rw[Av,if_neg (by omega)]
    exact h.unborn x hx (by omega)
def me(l:List Nat):Dh:={ elem:=76,sz:=1,n:=l.length,c:=AW.fill .leaf 0 (us l),spare:=true,mode:=.own,par:=none,bytes:=false }
def Hs(s:AE):List Nat→AV×AE
 | []=>(.slice none 0 (some 0),s)
 | x::l=>(.slice (some (s.next,0)) (x::l).length none,newObj s (.row (me (x::l))))
def KP(b:Nat)(s:AE)(v:AV)(l:List Nat):Prop:=
 (l=[]∧v=.slice none 0 (some 0))∨(l≠[]∧∃i,v=.slice (some (i,0)) l.length none∧b≤i∧∃r,s.heap.get i=some (.row r)∧JR r (us l)∧Dd r.mode=true∧r.sz=1∧r.elem=76)
theorem bl{l:List Nat}{k:Nat}{v:AV}(h:(us l)[k]? = some v):MU v=true:=by
 have:(l.map BV)[k]? = some v:=h
 rw[sF]at this
 obtain⟨x,_,rfl⟩:=Option.map_eq_some_iff.1 this
 rfl
theorem Lc       {ρ' : BD}  {s' : AE}  {b : Nat} {v : AV} {l : List Nat} {v' : Value} (hs : KP    b s' v l) (h' : BO  P ρ' s' w) (hv : AY   ρ' v v')
    (hge:∀i o rb,b≤i→s'.heap.get i=some o→wr o=true→ρ' i=some rb→w0.heap.size≤rb.b)
    (h1:BO P ρ1 s1 w) (hf1:Ay ρ1 s1) (hfr:Fr ρ s w0 ρ1 s1 w) (hne:∀i rb,CH v=some i→ρ' i=some rb→∀j oj rj,s1.heap.get j=some oj→ρ1 j=some rj→rj.b≠rb.b):
    ∃ρ2,BO P ρ2 (Hs s1 l).2 w∧Ay ρ2 (Hs s1 l).2∧Fr ρ s w0 ρ2 (Hs s1 l).2 w∧ρ1.le ρ2∧AY ρ2 (Hs s1 l).1 v' ∧
      (∀j oj rj,(Hs s1 l).2.heap.get j=some oj→ρ2 j=some rj→(∃o1,s1.heap.get j=some o1∧ρ1 j=some rj)∨∃i rb,CH v=some i∧ρ' i=some rb∧rj.b=rb.b):=by
  rcases hs with⟨rfl,rfl⟩ | ⟨hl,i,rfl,hbi,r,hg,hh,hm,hsz,hel⟩
  · refine⟨ρ1,h1,hf1,hfr,BD.le_refl _,Em rfl hv,fun j oj rj hj hr=>.inl ⟨oj,hj,hr⟩⟩
  · cases l with
    | nil=>exact absurd rfl hl
    | cons x l =>
      cases hv with
      | @sliceOpen _ _ _ c rb hr q1 q2 q3 q4 =>
        have hok:Ca ρ' w r rb:=h'.obj i _ rb hg hr
        have hrn:r.n=(x::l).length:=by rw[hh.1,CY]
        have hmo:r.mode≠.ro:=fun e=>by rw[e]at hm;cases hm
        obtain⟨cs,k1,k2⟩:=hok.own hmo
        have hno:∀ (σ:BD),Ca σ w (me (x::l)) rb:=fun σ=>by
          refine⟨fun k u hk hu=>?_,by show(x::l).length≤_;rw[← hrn];exact hok.le,by show 1=_;rw[← hsz];exact hok.sz,fun e=>(by cases e),fun _=>⟨cs,by show _=some (Obj.cells cs 76 (0,0));rw[← hel];exact k1,k2⟩,fun e=>(by cases e),fun g e=>(by cases e),fun p e=>(by cases e)⟩
          have hk':k<(x::l).length:=hk
          have hu':(us (x::l))[k]? = some u:=by
            have:(AW.fill .leaf 0 (us (x::l))).get k=some u:=hu
            rw[AW.get_fill,if_pos ⟨rB _,by rw[CY];omega⟩]at this
            simpa using this
          obtain⟨v',e1,e2⟩:=hok.cells k u (by omega) (hh.2 k u hu')
          exact⟨v',e1,Em (bl hu') e2⟩
        have hlt:=h'.lt i rb hr
        refine⟨Bw ρ1 s1.next rb,h1.addRow hf1 (hno _) hlt (hne i rb rfl hr),hf1.new _ _,hfr.addRow hf1 (hge i _ rb hbi hg hm hr),BZ (hf1 s1.next (qw _)).1,.sliceOpen (Aa _ _) q1 q2 q3 q4,fun j oj rj hj hr2=>?_⟩
        have hj':(newObj s1 (.row (me (x::l)))).heap.get j=some oj:=hj
        rw[Av]at hj'
        by_cases e:j=s1.next
        · subst e
          rw[Aa]at hr2
          injection hr2 with hr2
          exact .inr ⟨i,rb,rfl,hr,by rw[← hr2]⟩
        · rw [if_neg e] at hj'
          rw[AU rb e]at hr2
          exact .inl ⟨oj,hj',hr2⟩
end
end
end Go.Proofs.YtjnkfbpadpmakaaGreatDoor.Am
set_option linter.unusedVariables false
set_option linter.unusedSimpArgs false
set_option maxRecDepth 100000
namespace Go.Proofs.YtjnkfbpadpmakaaGreatDoor.Am
open Go Go.Proofs
noncomputable section
theorem Bp:A7 Tryz.prog 30=some 5:=by kernel_rfl
theorem B6:Dx Tryz.prog 30=some true:=by kernel_rfl
theorem Hg(i o:Nat):AC Tryz.prog 30 (.ptr (some (i,o))) 0=some (.ptr (some (i,o+0))):=by kernel_rfl
theorem ET(i o:Nat):AC Tryz.prog 30 (.ptr (some (i,o))) 1=some (.ptr (some (i,o+3))):=by kernel_rfl
theorem DA(i o:Nat):AC Tryz.prog 30 (.ptr (some (i,o))) 2=some (.ptr (some (i,o+4))):=by kernel_rfl
theorem GI:A7 Tryz.prog 56=some 4:=by kernel_rfl
theorem H9:Dx Tryz.prog 56=some true:=by kernel_rfl
theorem Kr(i o:Nat):AC Tryz.prog 56 (.ptr (some (i,o))) 0=some (.ptr (some (i,o+0))):=by kernel_rfl
theorem Fm(i o:Nat):AC Tryz.prog 56 (.ptr (some (i,o))) 1=some (.ptr (some (i,o+3))):=by kernel_rfl
theorem KS:Dx Tryz.prog 54=some false:=by kernel_rfl
theorem ph:A7 Tryz.prog 27=some 1:=by kernel_rfl
theorem Ix:Dx Tryz.prog 27=some false:=by kernel_rfl
def iF:List AB:=[
 ⟨none,.mk (fun l=>match l with | []=>Ac Tryz.prog 56 | _=>none),[],(.set 0),[]⟩]
def iG:List AB:=[
 ⟨none,.call 72,[],.push,[]⟩,
 ⟨none,.mk (fun l=>match l with | []=>(I8 Tryz.prog 54).bind fun kt=>some (.map kt [],.map) | _=>none),[],.push,[]⟩,
 ⟨none,.p (fun l=>B7 Tryz.prog 56 (zipIdx [0,1] l)),[.loc 1,.loc 0],.push,[]⟩,
 ⟨none,.e (fun s=>Xy (fun a x=>Za (AM Tryz.prog s 56 a x))),[.var 0,.loc 0],.push,[]⟩]
def qY:Aq:=⟨0,1,(.seq (.ops iF) (.seq (.ops iG) .ret)),[((.var 0),some 56)]⟩
def ii:List AB:=[
 ⟨none,.mk (fun l=>match l with | []=>Ac Tryz.prog 26 | _=>none),[],(.set 0),[]⟩]
def ij:List AB:=[
 ⟨none,.call 52,[(.const (.int .i64 (0)))],.push,[]⟩,
 ⟨none,.e (fun s=>Xy (fun a x=>Za (AM Tryz.prog s 26 a x))),[.var 0,.loc 0],.push,[]⟩]
def qj:Aq:=⟨0,1,(.seq (.ops ii) (.seq (.ops ij) .ret)),[((.var 0),some 26)]⟩
def X4:List AB:=[
 ⟨none,.mk (fun l=>match l with | [v]=>Bf 56 v | _=>none),[.var 0],(.set 3),[]⟩]
def X5:List AB:=[
 ⟨none,.p1 (fun x=>AC Tryz.prog 56 x 1),[.var 3],.push,[]⟩,
 ⟨none,.r1 (fun s a=>AA Tryz.prog s 54 a),[.loc 0],.push,[]⟩,
 ⟨none,.r (fun s=>Xy (fun m k=>C4 Tryz.prog s 54 m k true)),[.loc 0,.var 1],.push,[]⟩,
 ⟨none,.p1 (fun x=>Zb x 0),[.loc 0],.push,[]⟩,
 ⟨none,.p1 (fun x=>Zb x 1),[.loc 1],.push,[]⟩,
 ⟨none,.mk (fun l=>match l with | []=>Ac Tryz.prog 26 | _=>none),[],(.set 4),[]⟩,
 ⟨none,.e (fun s=>Xy (fun a x=>Za (AM Tryz.prog s 26 a x))),[.var 4,.loc 1],.push,[]⟩,
 ⟨none,.p1 some,[.loc 1],(.set 5),[]⟩]
def Ou:List AB:=[
 ⟨none,.p1 (U3 Tryz.prog Go.UnOp.not),[.var 5],(.set 6),[]⟩]
def X6:List AB:=[
 ⟨none,.call 72,[],.push,[]⟩,
 ⟨none,.e (fun s=>Xy (fun a x=>Za (AM Tryz.prog s 26 a x))),[.var 4,.loc 0],.push,[]⟩]
def Ov:List AB:=[
 ⟨none,.p1 (fun x=>AC Tryz.prog 56 x 1),[.var 3],.push,[]⟩,
 ⟨none,.r1 (fun s a=>AA Tryz.prog s 54 a),[.loc 0],.push,[]⟩,
 ⟨none,.r1 (fun s a=>AA Tryz.prog s 26 a),[.var 4],.push,[]⟩,
 ⟨none,.callv,[.var 2,.loc 0],.push,[⟨none,.r1 (fun s a=>AA Tryz.prog s 54 a),[.loc 3],(.loc 2)⟩]⟩,
 ⟨none,.e (fun s=>Xz (fun m k x=>Za (HE Tryz.prog s 54 m k x))),[.loc 2,.var 1,.loc 0],.push,[]⟩]
def pI:Aq:=⟨3,7,(.seq (.ops X4) (.seq (.ops X5) (.seq (.seq (.ops Ou) (.cond (.var 6)
 (.ops X6)
 .skip)) (.ops Ov)))),[]⟩
def fa:List AB:=[
 ⟨none,.mk (fun l=>match l with | [v]=>Bf 30 v | _=>none),[.var 1],(.set 3),[]⟩,
 ⟨none,.mk (fun l=>match l with | [v]=>Bf 26 v | _=>none),[.var 2],(.set 4),[]⟩]
def fb:List AB:=[
 ⟨none,.p1 D5,[.var 0],.push,[]⟩,
 ⟨none,.p1 (fun x=>AC Tryz.prog 56 x 0),[.loc 0],.push,[]⟩,
 ⟨none,.r1 (fun s a=>AA Tryz.prog s 26 a),[.loc 0],.push,[]⟩,
 ⟨none,.p1 (fun x=>AC Tryz.prog 30 x 0),[.var 3],.push,[]⟩,
 ⟨none,.r1 (fun s a=>AA Tryz.prog s 26 a),[.loc 0],.push,[]⟩,
 ⟨none,.r1 (fun s a=>AA Tryz.prog s 26 a),[.var 4],.push,[]⟩,
 ⟨none,.call 29,[.loc 1,.loc 0],.push,[⟨none,.r1 (fun s a=>AA Tryz.prog s 26 a),[.loc 5],(.loc 4)⟩]⟩,
 ⟨none,.call 27,[.loc 4,.loc 0],.push,[]⟩,
 ⟨none,.p1 D5,[.var 0],.push,[]⟩,
 ⟨none,.p1 (fun x=>AC Tryz.prog 56 x 0),[.loc 0],.push,[]⟩,
 ⟨none,.e (fun s=>Xy (fun a x=>Za (AM Tryz.prog s 26 a x))),[.loc 0,.loc 2],.push,[]⟩]
def fc:List AB:=[
 ⟨none,.p1 (fun x=>AC Tryz.prog 30 x 2),[.var 3],.push,[]⟩,
 ⟨none,.r1 (fun s a=>AA Tryz.prog s 28 a),[.loc 0],.push,[]⟩,
 ⟨none,.p1 (fun x=>AC Tryz.prog 30 x 2),[.var 3],.push,[]⟩,
 ⟨none,.r1 (fun s a=>AA Tryz.prog s 28 a),[.loc 0],.push,[]⟩,
 ⟨none,.r (fun s l=>match l with | [x]=>BN Tryz.prog s 28 x | _=>none),[.loc 0],.push,[]⟩,
 ⟨none,.p1 (fun x=>AC Tryz.prog 30 x 1),[.var 3],.push,[]⟩,
 ⟨none,.r1 (fun s a=>AA Tryz.prog s 27 a),[.loc 0],.push,[]⟩,
 ⟨none,.r (fun s l=>match l with | [x]=>BN Tryz.prog s 27 x | _=>none),[.loc 0],.push,[]⟩,
 ⟨none,.p (fun l=>match l with | v::l=>Cx false v l | []=>none),[.loc 3,.loc 0],.push,[]⟩,
 ⟨none,.r (BK Tryz.prog 28 false true false),[.loc 7,.loc 0],(.set 7),[]⟩,
 ⟨none,.r (fun s l=>match l with | [x]=>BN Tryz.prog s 28 x | _=>none),[.var 7],(.set 8),[]⟩,
 ⟨none,.p1 some,[(.const (.int .i64 (0)))],(.set 9),[]⟩]
def XK:List AB:=[
 ⟨none,.p2 (AS Tryz.prog .lss 3),[.var 9,.var 8],(.set 10),[]⟩]
def fe:List AB:=[
 ⟨none,.p2 (AK Tryz.prog 28),[.var 7,.var 9],.push,[]⟩,
 ⟨none,.r1 (fun s a=>AA Tryz.prog s 26 a),[.loc 0],.push,[]⟩,
 ⟨none,.mk (fun l=>match l with | []=>Ac Tryz.prog 26 | _=>none),[],(.set 6),[]⟩,
 ⟨none,.p1 some,[.var 9],(.set 5),[]⟩,
 ⟨none,.e (fun s=>Xy (fun a x=>Za (AM Tryz.prog s 26 a x))),[.var 6,.loc 0],.push,[]⟩]
def ff:List AB:=[
 ⟨none,.p1 D5,[.var 0],.push,[]⟩,
 ⟨none,.r1 (fun s a=>AA Tryz.prog s 56 a),[.loc 0],.push,[]⟩,
 ⟨none,.p1 (fun x=>AC Tryz.prog 30 x 1),[.var 3],.push,[]⟩,
 ⟨none,.r1 (fun s a=>AA Tryz.prog s 27 a),[.loc 0],.push,[]⟩,
 ⟨none,.p2 (AK Tryz.prog 27),[.loc 0,.var 5],.push,[]⟩,
 ⟨none,.r1 (fun s a=>AA Tryz.prog s 3 a),[.loc 0],.push,[]⟩,
 ⟨none,.p (fun l=>some (.func 73 (l.take 0) (l.drop 0))),[.var 6,.var 4],.push,[]⟩,
 ⟨none,.call 62,[.loc 5,.loc 1,.loc 0],.push,[]⟩]
def fg:List AB:=[
 ⟨none,.p2 (AS Tryz.prog .add 3),[(.var 9),(.const (.int .i64 (1)))],.push,[]⟩,
 ⟨none,.p1 some,[.loc 0],(.set 9),[]⟩]
def Oo:Ad:=(.seq (.ops XK) (.seq (.cond (.var 10)
 .skip
 (.exit 0)) (.seq (.block 1 (.seq (.ops fe) (.ops ff))) (.ops fg))))
def qM:Aq:=⟨3,11,(.seq (.ops fa) (.seq (.ops fb) (.seq (.ops fc) (.block 0 (.loop Oo))))),[]⟩
def ik:List AB:=[
 ⟨none,.mk (fun l=>match l with | [v]=>Bf 26 v | _=>none),[.var 0],(.set 3),[]⟩,
 ⟨none,.mk (fun l=>match l with | []=>Ac Tryz.prog 26 | _=>none),[],(.set 4),[]⟩]
def il:List AB:=[
 ⟨none,.r1 (fun s a=>AA Tryz.prog s 26 a),[.var 3],.push,[]⟩,
 ⟨none,.r1 (fun s a=>AA Tryz.prog s 26 a),[.var 1],.push,[]⟩,
 ⟨none,.r1 (fun s a=>AA Tryz.prog s 26 a),[.var 2],.push,[]⟩,
 ⟨none,.call 29,[.loc 1,.loc 0],.push,[⟨none,.r1 (fun s a=>AA Tryz.prog s 26 a),[.var 3],(.loc 3)⟩]⟩,
 ⟨none,.call 27,[.loc 3,.loc 0],.push,[]⟩,
 ⟨none,.e (fun s=>Xy (fun a x=>Za (AM Tryz.prog s 26 a x))),[.var 4,.loc 0],.push,[]⟩]
def qk:Aq:=⟨3,5,(.seq (.ops ik) (.seq (.ops il) .ret)),[((.var 4),some 26)]⟩
def fP:List AB:=[
 ⟨none,.mk (fun l=>match l with | [v]=>Bf 30 v | _=>none),[.var 0],(.set 1),[]⟩,
 ⟨none,.mk (fun l=>match l with | []=>Ac Tryz.prog 56 | _=>none),[],(.set 2),[]⟩]
def fQ:List AB:=[
 ⟨none,.call 61,[],.push,[]⟩,
 ⟨none,.mk (fun l=>match l with | []=>Ac Tryz.prog 56 | _=>none),[],(.set 3),[]⟩,
 ⟨none,.e (fun s=>Xy (fun a x=>Za (AM Tryz.prog s 56 a x))),[.var 3,.loc 0],.push,[]⟩]
def fR:List AB:=[
 ⟨none,.r1 (fun s a=>AA Tryz.prog s 30 a),[.var 1],.push,[]⟩,
 ⟨none,.call 52,[(.const (.int .i64 (1)))],.push,[⟨none,.r1 (fun s a=>AA Tryz.prog s 30 a),[.var 1],(.loc 1)⟩]⟩,
 ⟨none,.call 34,[.var 3,.loc 1,.loc 0],.push,[]⟩]
def fS:List AB:=[
 ⟨none,.r1 (fun s a=>AA Tryz.prog s 56 a),[.var 3],.push,[]⟩,
 ⟨none,.e (fun s=>Xy (fun a x=>Za (AM Tryz.prog s 56 a x))),[.var 2,.loc 0],.push,[]⟩]
def qK:Aq:=⟨1,4,(.seq (.ops fP) (.seq (.ops fQ) (.seq (.ops fR) (.seq (.ops fS) .ret)))),[((.var 2),some 56)]⟩
def fT:List AB:=[
 ⟨none,.mk (fun l=>match l with | [v]=>Bf 56 v | _=>none),[.var 0],(.set 1),[]⟩,
 ⟨none,.mk (fun l=>match l with | []=>Ac Tryz.prog 30 | _=>none),[],(.set 2),[]⟩]
def fU:List AB:=[
 ⟨none,.p1 (fun x=>AC Tryz.prog 56 x 0),[.var 1],.push,[]⟩,
 ⟨none,.r1 (fun s a=>AA Tryz.prog s 26 a),[.loc 0],.push,[]⟩,
 ⟨none,.p1 (fun x=>AC Tryz.prog 30 x 0),[.var 2],.push,[]⟩,
 ⟨none,.e (fun s=>Xy (fun a x=>Za (AM Tryz.prog s 26 a x))),[.loc 0,.loc 1],.push,[]⟩]
def fV:List AB:=[
 ⟨none,.r1 (fun s a=>AA Tryz.prog s 56 a),[.var 1],.push,[]⟩,
 ⟨none,.call 41,[.loc 0],(.set 5),[]⟩]
def fW:List AB:=[
 ⟨none,.p1 some,[.var 6],(.set 3),[]⟩]
def fX:List AB:=[
 ⟨none,.mk (fun l=>match l with | []=>Ac Tryz.prog 26 | _=>none),[],(.set 4),[]⟩,
 ⟨none,.e (fun s=>Xy (fun a x=>Za (AM Tryz.prog s 26 a x))),[.var 4,.var 7],.push,[]⟩]
def fY:List AB:=[
 ⟨none,.p1 (fun x=>AC Tryz.prog 30 x 1),[.var 2],.push,[]⟩,
 ⟨none,.r1 (fun s a=>AA Tryz.prog s 27 a),[.loc 0],.push,[]⟩,
 ⟨none,.mk (fun l=>(Af Tryz.prog 27 1 (zipIdx [0] l)).bind fun r=>some (r,.slice 1)),[.var 3],.push,[]⟩,
 ⟨none,.p1 (fun x=>AC Tryz.prog 30 x 2),[.var 2],.push,[]⟩,
 ⟨none,.r1 (fun s a=>AA Tryz.prog s 28 a),[.loc 0],.push,[]⟩,
 ⟨none,.r1 (fun s a=>AA Tryz.prog s 26 a),[.var 4],.push,[]⟩,
 ⟨none,.mk (fun l=>(Af Tryz.prog 28 1 (zipIdx [0] l)).bind fun r=>some (r,.slice 1)),[.loc 0],.push,[]⟩,
 ⟨none,.e (fun s l=>Aw Tryz.prog s [27,27] l),[.loc 5,.loc 4],.push,[⟨none,.r1 (fun s a=>AA Tryz.prog s 26 a),[.var 4],(.loc 2)⟩,⟨none,.r1 (fun s a=>AA Tryz.prog s 28 a),[.loc 4],(.loc 3)⟩]⟩,
 ⟨none,.p1 (fun x=>AC Tryz.prog 30 x 1),[.var 2],.push,[]⟩,
 ⟨none,.e (fun s l=>Aw Tryz.prog s [28,28] l),[.loc 4,.loc 2],.push,[]⟩,
 ⟨none,.e (fun s=>Xy (fun a x=>Za (AM Tryz.prog s 27 a x))),[.loc 1,.loc 2],.push,[]⟩,
 ⟨none,.p1 (fun x=>AC Tryz.prog 30 x 2),[.var 2],.push,[]⟩,
 ⟨none,.e (fun s=>Xy (fun a x=>Za (AM Tryz.prog s 28 a x))),[.loc 0,.loc 2],.push,[]⟩]
def XH:Ad:=(.seq (.ops fW) (.ops fX))
def XI:Ad:=(.block 1 (.ops fY))
def XF:Code:=(EE 33 0).1
def XG:Code:=(EE 33 0).2
theorem kL:DX Tryz.prog 33 XF=some XH:=by kernel_rfl
theorem kM:DX Tryz.prog 33 XG=some XI:=by kernel_rfl
theorem XJ:Cz Tryz.prog 33=[0,1,2,3,4,9,10,11]:=by kernel_rfl
def fZ:List AB:=[
 ⟨none,.r1 (fun s a=>AA Tryz.prog s 30 a),[.var 2],.push,[]⟩,
 ⟨none,.e (fun s=>Xy (fun a x=>Za (AM Tryz.prog s 30 a x))),[.var 2,.loc 0],.push,[]⟩]
def qL:Aq:=⟨1,8,(.seq (.ops fT) (.seq (.ops fU) (.seq (.seq (.ops fV) (.block 0 (.rangeFunc 33 (.var 5) #[10,11] XF XG))) (.seq (.ops fZ) .ret)))),[((.var 2),some 30)]⟩
def ft:List AB:=[
 ⟨none,.mk (fun l=>match l with | [v]=>Bf 56 v | _=>none),[.var 0],(.set 1),[]⟩,
 ⟨none,.p1 some,[(.const .nilFunc)],(.set 2),[]⟩]
def fu:List AB:=[
 ⟨none,.p (fun l=>some (.func 77 (l.take 0) (l.drop 0))),[.var 1],.push,[]⟩,
 ⟨none,.p1 some,[.loc 0],(.set 2),[]⟩]
def qO:Aq:=⟨1,3,(.seq (.ops ft) (.seq (.ops fu) .ret)),[((.var 2),none)]⟩
def im:List AB:=[
 ⟨none,.p1 (fun x=>AC Tryz.prog 56 x 1),[.var 1],.push,[]⟩,
 ⟨none,.r1 (fun s a=>AA Tryz.prog s 54 a),[.loc 0],.push,[]⟩,
 ⟨none,.call 79,[.loc 0],.push,[]⟩,
 ⟨none,.call 78,[.loc 0],(.set 4),[]⟩,
 ⟨none,.r (fun s l=>match l with | [x]=>BN Tryz.prog s 27 x | _=>none),[.var 4],(.set 5),[]⟩,
 ⟨none,.p1 some,[(.const (.int .i64 (0)))],(.set 6),[]⟩]
def YA:List AB:=[
 ⟨none,.p2 (AS Tryz.prog .lss 3),[.var 6,.var 5],(.set 7),[]⟩]
def ip:List AB:=[
 ⟨none,.p2 (AK Tryz.prog 27),[.var 4,.var 6],.push,[]⟩,
 ⟨none,.r1 (fun s a=>AA Tryz.prog s 3 a),[.loc 0],.push,[]⟩,
 ⟨none,.p1 some,[.loc 0],(.set 2),[]⟩]
def iq:List AB:=[
 ⟨none,.p1 (fun x=>AC Tryz.prog 56 x 1),[.var 1],.push,[]⟩,
 ⟨none,.r1 (fun s a=>AA Tryz.prog s 54 a),[.loc 0],.push,[]⟩,
 ⟨none,.r (fun s=>Xy (fun m k=>C4 Tryz.prog s 54 m k false)),[.loc 0,.var 2],.push,[]⟩,
 ⟨none,.mk (fun l=>match l with | []=>Ac Tryz.prog 26 | _=>none),[],(.set 3),[]⟩,
 ⟨none,.e (fun s=>Xy (fun a x=>Za (AM Tryz.prog s 26 a x))),[.var 3,.loc 0],.push,[]⟩]
def ir:List AB:=[
 ⟨none,.r1 (fun s a=>AA Tryz.prog s 26 a),[.var 3],.push,[]⟩,
 ⟨none,.call 53,[.loc 0],.push,[]⟩,
 ⟨none,.p2 (AS Tryz.prog .neq 3),[(.loc 0),(.const (.int .i64 (0)))],.push,[]⟩,
 ⟨(some ((.loc 0),true)),.p1 some,[.var 0],.push,[]⟩,
 ⟨(some ((.loc 1),true)),.p1 some,[.var 2],.push,[]⟩,
 ⟨(some ((.loc 2),true)),.r1 (fun s a=>AA Tryz.prog s 26 a),[.var 3],.push,[]⟩,
 ⟨(some ((.loc 3),true)),.callv,[.loc 2,.loc 1,.loc 0],.push,[]⟩,
 ⟨(some ((.loc 4),true)),.p1 (U3 Tryz.prog Go.UnOp.not),[.loc 0],.push,[]⟩,
 ⟨none,.p Ru,[(.loc 5),(.loc 0),(.const (.bool false))],(.set 8),[]⟩]
def YB:List AB:=[
 ⟨none,.p2 (AS Tryz.prog .add 3),[(.var 6),(.const (.int .i64 (1)))],.push,[]⟩,
 ⟨none,.p1 some,[.loc 0],(.set 6),[]⟩]
def JZ:Ad:=(.seq (.ops YA) (.seq (.cond (.var 7)
 .skip
 (.exit 0)) (.seq (.block 1 (.seq (.ops ip) (.seq (.ops iq) (.seq (.ops ir) (.cond (.var 8)
 .ret
 .skip))))) (.ops YB))))
def ql:Aq:=⟨2,9,(.seq (.ops im) (.block 0 (.loop JZ))),[]⟩
def eg:List AB:=[
 ⟨none,.mk (fun l=>match l with | [v]=>Bf 26 v | _=>none),[.var 0],(.set 1),[]⟩,
 ⟨none,.mk (fun l=>match l with | []=>Ac Tryz.prog 30 | _=>none),[],(.set 2),[]⟩]
def eh:List AB:=[
 ⟨none,.r1 (fun s a=>AA Tryz.prog s 26 a),[.var 1],.push,[]⟩,
 ⟨none,.p (fun l=>B7 Tryz.prog 30 (zipIdx [0] l)),[.loc 0],.push,[]⟩,
 ⟨none,.call 32,[.loc 0],.push,[]⟩,
 ⟨none,.call 33,[.loc 0],.push,[]⟩,
 ⟨none,.e (fun s=>Xy (fun a x=>Za (AM Tryz.prog s 30 a x))),[.var 2,.loc 0],.push,[]⟩]
def qE:Aq:=⟨1,3,(.seq (.ops eg) (.seq (.ops eh) .ret)),[((.var 2),some 30)]⟩
def eM:List AB:=[
 ⟨none,.mk (fun l=>match l with | []=>Ac Tryz.prog 30 | _=>none),[],(.set 1),[]⟩]
def eN:List AB:=[
 ⟨none,.call 61,[],.push,[]⟩,
 ⟨none,.mk (fun l=>match l with | []=>Ac Tryz.prog 56 | _=>none),[],(.set 2),[]⟩,
 ⟨none,.e (fun s=>Xy (fun a x=>Za (AM Tryz.prog s 56 a x))),[.var 2,.loc 0],.push,[]⟩]
def eO:List AB:=[
 ⟨none,.p1 some,[.var 0],(.set 4),[]⟩,
 ⟨none,.r (fun s l=>match l with | [x]=>BN Tryz.prog s 46 x | _=>none),[.var 4],(.set 5),[]⟩,
 ⟨none,.p1 some,[(.const (.int .i64 (0)))],(.set 6),[]⟩]
def XE:List AB:=[
 ⟨none,.p2 (AS Tryz.prog .lss 3),[.var 6,.var 5],(.set 7),[]⟩]
def eP:List AB:=[
 ⟨none,.p2 (AK Tryz.prog 46),[.var 4,.var 6],.push,[]⟩,
 ⟨none,.r1 (fun s a=>AA Tryz.prog s 30 a),[.loc 0],.push,[]⟩,
 ⟨none,.mk (fun l=>match l with | []=>Ac Tryz.prog 30 | _=>none),[],(.set 3),[]⟩,
 ⟨none,.e (fun s=>Xy (fun a x=>Za (AM Tryz.prog s 30 a x))),[.var 3,.loc 0],.push,[]⟩]
def eQ:List AB:=[
 ⟨none,.r1 (fun s a=>AA Tryz.prog s 30 a),[.var 3],.push,[]⟩,
 ⟨none,.call 52,[(.const (.int .i64 (1)))],.push,[⟨none,.r1 (fun s a=>AA Tryz.prog s 30 a),[.var 3],(.loc 1)⟩]⟩,
 ⟨none,.call 34,[.var 2,.loc 1,.loc 0],.push,[]⟩]
def eR:List AB:=[
 ⟨none,.p2 (AS Tryz.prog .add 3),[(.var 6),(.const (.int .i64 (1)))],.push,[]⟩,
 ⟨none,.p1 some,[.loc 0],(.set 6),[]⟩]
def On:Ad:=(.seq (.ops XE) (.seq (.cond (.var 7)
 .skip
 (.exit 0)) (.seq (.block 1 (.seq (.ops eP) (.ops eQ))) (.ops eR))))
def eS:List AB:=[
 ⟨none,.r1 (fun s a=>AA Tryz.prog s 56 a),[.var 2],.push,[]⟩,
 ⟨none,.call 33,[.loc 0],.push,[]⟩,
 ⟨none,.e (fun s=>Xy (fun a x=>Za (AM Tryz.prog s 30 a x))),[.var 1,.loc 0],.push,[]⟩]
def qB:Aq:=⟨1,8,(.seq (.ops eM) (.seq (.ops eN) (.seq (.seq (.ops eO) (.block 0 (.loop On))) (.seq (.ops eS) .ret)))),[((.var 1),some 30)]⟩
def eT:List AB:=[
 ⟨none,.mk (fun l=>match l with | [v]=>Bf 30 v | _=>none),[.var 0],(.set 2),[]⟩,
 ⟨none,.mk (fun l=>match l with | [v]=>Bf 30 v | _=>none),[.var 1],(.set 3),[]⟩,
 ⟨none,.mk (fun l=>match l with | []=>Ac Tryz.prog 30 | _=>none),[],(.set 4),[]⟩]
def eU:List AB:=[
 ⟨none,.r1 (fun s a=>AA Tryz.prog s 30 a),[.var 2],.push,[]⟩,
 ⟨none,.call 32,[.loc 0],.push,[]⟩,
 ⟨none,.mk (fun l=>match l with | []=>Ac Tryz.prog 56 | _=>none),[],(.set 5),[]⟩,
 ⟨none,.e (fun s=>Xy (fun a x=>Za (AM Tryz.prog s 56 a x))),[.var 5,.loc 0],.push,[]⟩]
def eV:List AB:=[
 ⟨none,.r1 (fun s a=>AA Tryz.prog s 30 a),[.var 3],.push,[]⟩,
 ⟨none,.call 52,[(.const (.int .i64 (-1)))],.push,[⟨none,.r1 (fun s a=>AA Tryz.prog s 30 a),[.var 3],(.loc 1)⟩]⟩,
 ⟨none,.call 34,[.var 5,.loc 1,.loc 0],.push,[]⟩]
def eW:List AB:=[
 ⟨none,.r1 (fun s a=>AA Tryz.prog s 56 a),[.var 5],.push,[]⟩,
 ⟨none,.call 33,[.loc 0],.push,[]⟩,
 ⟨none,.e (fun s=>Xy (fun a x=>Za (AM Tryz.prog s 30 a x))),[.var 4,.loc 0],.push,[]⟩]
def qC:Aq:=⟨2,6,(.seq (.ops eT) (.seq (.ops eU) (.seq (.ops eV) (.seq (.ops eW) .ret)))),[((.var 4),some 30)]⟩
def eX:List AB:=[
 ⟨none,.mk (fun l=>match l with | [v]=>Bf 30 v | _=>none),[.var 0],(.set 2),[]⟩,
 ⟨none,.mk (fun l=>match l with | [v]=>Bf 26 v | _=>none),[.var 1],(.set 3),[]⟩,
 ⟨none,.mk (fun l=>match l with | []=>Ac Tryz.prog 30 | _=>none),[],(.set 4),[]⟩]
def eY:List AB:=[
 ⟨none,.call 61,[],.push,[]⟩,
 ⟨none,.mk (fun l=>match l with | []=>Ac Tryz.prog 56 | _=>none),[],(.set 5),[]⟩,
 ⟨none,.e (fun s=>Xy (fun a x=>Za (AM Tryz.prog s 56 a x))),[.var 5,.loc 0],.push,[]⟩]
def eZ:List AB:=[
 ⟨none,.r1 (fun s a=>AA Tryz.prog s 30 a),[.var 2],.push,[]⟩,
 ⟨none,.r1 (fun s a=>AA Tryz.prog s 26 a),[.var 3],.push,[]⟩,
 ⟨none,.call 34,[.var 5,.loc 1,.loc 0],.push,[]⟩]
def ef:List AB:=[
 ⟨none,.r1 (fun s a=>AA Tryz.prog s 56 a),[.var 5],.push,[]⟩,
 ⟨none,.call 33,[.loc 0],.push,[]⟩,
 ⟨none,.e (fun s=>Xy (fun a x=>Za (AM Tryz.prog s 30 a x))),[.var 4,.loc 0],.push,[]⟩]
def qD:Aq:=⟨2,6,(.seq (.ops eX) (.seq (.ops eY) (.seq (.ops eZ) (.seq (.ops ef) .ret)))),[((.var 4),some 30)]⟩
def dN:List AB:=[
 ⟨none,.mk (fun l=>match l with | [v]=>Bf 30 v | _=>none),[.var 0],(.set 3),[]⟩,
 ⟨none,.mk (fun l=>match l with | [v]=>Bf 30 v | _=>none),[.var 2],(.set 4),[]⟩,
 ⟨none,.mk (fun l=>match l with | []=>Ac Tryz.prog 30 | _=>none),[],(.set 5),[]⟩]
def dO:List AB:=[
 ⟨none,.r1 (fun s a=>AA Tryz.prog s 30 a),[.var 3],.push,[]⟩,
 ⟨none,.call 32,[.loc 0],.push,[]⟩,
 ⟨none,.mk (fun l=>match l with | []=>Ac Tryz.prog 56 | _=>none),[],(.set 6),[]⟩,
 ⟨none,.e (fun s=>Xy (fun a x=>Za (AM Tryz.prog s 56 a x))),[.var 6,.loc 0],.push,[]⟩]
def dP:List AB:=[
 ⟨none,.p1 (fun x=>AC Tryz.prog 56 x 1),[.var 6],.push,[]⟩,
 ⟨none,.r1 (fun s a=>AA Tryz.prog s 54 a),[.loc 0],.push,[]⟩,
 ⟨none,.r (fun s=>Xy (fun m k=>C4 Tryz.prog s 54 m k true)),[.loc 0,.var 1],.push,[]⟩,
 ⟨none,.p1 (fun x=>Zb x 0),[.loc 0],.push,[]⟩,
 ⟨none,.p1 (fun x=>Zb x 1),[.loc 1],.push,[]⟩,
 ⟨none,.mk (fun l=>match l with | []=>Ac Tryz.prog 26 | _=>none),[],(.set 7),[]⟩,
 ⟨none,.e (fun s=>Xy (fun a x=>Za (AM Tryz.prog s 26 a x))),[.var 7,.loc 1],.push,[]⟩,
 ⟨none,.p1 some,[.loc 1],(.set 8),[]⟩]
def VV:List AB:=[
 ⟨none,.p1 (U3 Tryz.prog Go.UnOp.not),[.var 8],(.set 9),[]⟩]
def dQ:List AB:=[
 ⟨none,.r1 (fun s a=>AA Tryz.prog s 56 a),[.var 6],.push,[]⟩,
 ⟨none,.call 33,[.loc 0],.push,[]⟩,
 ⟨none,.e (fun s=>Xy (fun a x=>Za (AM Tryz.prog s 30 a x))),[.var 5,.loc 0],.push,[]⟩]
def dR:List AB:=[
 ⟨none,.p1 (fun x=>AC Tryz.prog 56 x 1),[.var 6],.push,[]⟩,
 ⟨none,.r1 (fun s a=>AA Tryz.prog s 54 a),[.loc 0],.push,[]⟩,
 ⟨none,.e (fun s=>Xy (fun m k=>Za (Fk Tryz.prog s 54 m k))),[.loc 0,.var 1],.push,[]⟩]
def dS:List AB:=[
 ⟨none,.r1 (fun s a=>AA Tryz.prog s 30 a),[.var 4],.push,[]⟩,
 ⟨none,.r1 (fun s a=>AA Tryz.prog s 26 a),[.var 7],.push,[]⟩,
 ⟨none,.call 34,[.var 6,.loc 1,.loc 0],.push,[]⟩]
def dT:List AB:=[
 ⟨none,.r1 (fun s a=>AA Tryz.prog s 56 a),[.var 6],.push,[]⟩,
 ⟨none,.call 33,[.loc 0],.push,[]⟩,
 ⟨none,.e (fun s=>Xy (fun a x=>Za (AM Tryz.prog s 30 a x))),[.var 5,.loc 0],.push,[]⟩]
def kE:Aq:=⟨3,10,(.seq (.ops dN) (.seq (.ops dO) (.seq (.ops dP) (.seq (.seq (.ops VV) (.cond (.var 9)
 (.seq (.ops dQ) .ret)
 .skip)) (.seq (.ops dR) (.seq (.ops dS) (.seq (.ops dT) .ret))))))),[((.var 5),some 30)]⟩
def dW:List AB:=[
 ⟨none,.mk (fun l=>match l with | [v]=>Bf 30 v | _=>none),[.var 0],(.set 3),[]⟩,
 ⟨none,.mk (fun l=>match l with | [v]=>Bf 27 v | _=>none),[.var 1],(.set 4),[]⟩,
 ⟨none,.mk (fun l=>match l with | [v]=>Bf 28 v | _=>none),[.var 2],(.set 5),[]⟩,
 ⟨none,.mk (fun l=>match l with | []=>Ac Tryz.prog 26 | _=>none),[],(.set 6),[]⟩]
def dX:List AB:=[
 ⟨none,.r1 (fun s a=>AA Tryz.prog s 30 a),[.var 3],.push,[]⟩,
 ⟨none,.call 32,[.loc 0],.push,[]⟩,
 ⟨none,.mk (fun l=>match l with | []=>Ac Tryz.prog 56 | _=>none),[],(.set 7),[]⟩,
 ⟨none,.e (fun s=>Xy (fun a x=>Za (AM Tryz.prog s 56 a x))),[.var 7,.loc 0],.push,[]⟩]
def dY:List AB:=[
 ⟨none,.p1 (fun x=>AC Tryz.prog 56 x 0),[.var 7],.push,[]⟩,
 ⟨none,.r1 (fun s a=>AA Tryz.prog s 26 a),[.loc 0],.push,[]⟩,
 ⟨none,.mk (fun l=>match l with | []=>Ac Tryz.prog 26 | _=>none),[],(.set 8),[]⟩,
 ⟨none,.e (fun s=>Xy (fun a x=>Za (AM Tryz.prog s 26 a x))),[.var 8,.loc 0],.push,[]⟩]
def dZ:List AB:=[
 ⟨none,.r1 (fun s a=>AA Tryz.prog s 56 a),[.var 7],.push,[]⟩,
 ⟨none,.call 41,[.loc 0],(.set 12),[]⟩]
def dc:List AB:=[
 ⟨none,.p1 some,[.var 13],(.set 9),[]⟩]
def df:List AB:=[
 ⟨none,.mk (fun l=>match l with | []=>Ac Tryz.prog 26 | _=>none),[],(.set 10),[]⟩,
 ⟨none,.e (fun s=>Xy (fun a x=>Za (AM Tryz.prog s 26 a x))),[.var 10,.var 14],.push,[]⟩]
def dh:List AB:=[
 ⟨none,.r1 (fun s a=>AA Tryz.prog s 27 a),[.var 4],.push,[]⟩,
 ⟨none,.call 42,[.loc 0,.var 9],.push,[]⟩,
 ⟨none,.p1 some,[.loc 0],(.set 11),[]⟩]
def Sw:List AB:=[
 ⟨none,.p2 (AS Tryz.prog .geq 3),[(.var 11),(.const (.int .i64 (0)))],.push,[]⟩,
 ⟨(some ((.loc 0),true)),.p1 some,[.var 11],.push,[]⟩,
 ⟨(some ((.loc 1),true)),.r1 (fun s a=>AA Tryz.prog s 28 a),[.var 5],.push,[]⟩,
 ⟨(some ((.loc 2),true)),.r (fun s l=>match l with | [x]=>BN Tryz.prog s 28 x | _=>none),[.loc 0],.push,[]⟩,
 ⟨(some ((.loc 3),true)),.p2 (AS Tryz.prog .lss 3),[.loc 2,.loc 0],.push,[]⟩,
 ⟨none,.p Ru,[(.loc 4),(.loc 0),(.const (.bool false))],(.set 15),[]⟩]
def di:List AB:=[
 ⟨none,.r1 (fun s a=>AA Tryz.prog s 26 a),[.var 8],.push,[]⟩,
 ⟨none,.r1 (fun s a=>AA Tryz.prog s 26 a),[.var 10],.push,[]⟩,
 ⟨none,.r1 (fun s a=>AA Tryz.prog s 28 a),[.var 5],.push,[]⟩,
 ⟨none,.p2 (AK Tryz.prog 28),[.loc 0,.var 11],.push,[]⟩,
 ⟨none,.r1 (fun s a=>AA Tryz.prog s 26 a),[.loc 0],.push,[]⟩,
 ⟨none,.call 29,[.loc 3,.loc 0],.push,[⟨none,.r1 (fun s a=>AA Tryz.prog s 26 a),[.var 8],(.loc 5)⟩]⟩,
 ⟨none,.call 27,[.loc 5,.loc 0],.push,[]⟩,
 ⟨none,.e (fun s=>Xy (fun a x=>Za (AM Tryz.prog s 26 a x))),[.var 8,.loc 0],.push,[]⟩]
def V3:Ad:=(.seq (.ops dc) (.ops df))
def V4:Ad:=(.block 1 (.seq (.ops dh) (.seq (.ops Sw) (.cond (.var 15)
 (.ops di)
 .skip))))
def V0:Code:=(EE 13 0).1
def V1:Code:=(EE 13 0).2
theorem kG:DX Tryz.prog 13 V0=some V3:=by kernel_rfl
theorem kH:DX Tryz.prog 13 V1=some V4:=by kernel_rfl
theorem V5:Cz Tryz.prog 13=[0,1,2,3,4,5,6,7,8,9,10,11,17,18,19,30]:=by kernel_rfl
def V2:List AB:=[
 ⟨none,.r1 (fun s a=>AA Tryz.prog s 26 a),[.var 8],.push,[]⟩,
 ⟨none,.e (fun s=>Xy (fun a x=>Za (AM Tryz.prog s 26 a x))),[.var 6,.loc 0],.push,[]⟩]
def pF:Aq:=⟨3,16,(.seq (.ops dW) (.seq (.ops dX) (.seq (.ops dY) (.seq (.seq (.ops dZ) (.block 0 (.rangeFunc 13 (.var 12) #[18,19] V0 V1))) (.seq (.ops V2) .ret))))),[((.var 6),some 26)]⟩
def fC:List AB:=[
 ⟨none,.mk (fun l=>match l with | [v]=>Bf 30 v | _=>none),[.var 0],(.set 2),[]⟩,
 ⟨none,.mk (fun l=>match l with | []=>Ac Tryz.prog 26 | _=>none),[],(.set 3),[]⟩]
def fD:List AB:=[
 ⟨none,.r1 (fun s a=>AA Tryz.prog s 30 a),[.var 2],.push,[]⟩,
 ⟨none,.call 32,[.loc 0],.push,[]⟩,
 ⟨none,.mk (fun l=>match l with | []=>Ac Tryz.prog 56 | _=>none),[],(.set 4),[]⟩,
 ⟨none,.e (fun s=>Xy (fun a x=>Za (AM Tryz.prog s 56 a x))),[.var 4,.loc 0],.push,[]⟩]
def fE:List AB:=[
 ⟨none,.r1 (fun s a=>AA Tryz.prog s 56 a),[.var 4],.push,[]⟩,
 ⟨none,.call 62,[(.loc 0),(.var 1),(.const (.func 63 [] []))],.push,[]⟩]
def fF:List AB:=[
 ⟨none,.p1 (fun x=>AC Tryz.prog 56 x 1),[.var 4],.push,[]⟩,
 ⟨none,.r1 (fun s a=>AA Tryz.prog s 54 a),[.loc 0],.push,[]⟩,
 ⟨none,.r (fun s=>Xy (fun m k=>C4 Tryz.prog s 54 m k false)),[.loc 0,.var 1],.push,[]⟩,
 ⟨none,.e (fun s=>Xy (fun a x=>Za (AM Tryz.prog s 26 a x))),[.var 3,.loc 0],.push,[]⟩]
def qG:Aq:=⟨2,5,(.seq (.ops fC) (.seq (.ops fD) (.seq (.ops fE) (.seq (.ops fF) .ret)))),[((.var 3),some 26)]⟩
def iH:List AB:=[
 ⟨none,.mk (fun l=>match l with | [v]=>Bf 26 v | _=>none),[.var 0],(.set 1),[]⟩,
 ⟨none,.mk (fun l=>match l with | []=>Ac Tryz.prog 26 | _=>none),[],(.set 2),[]⟩]
def iI:List AB:=[
 ⟨none,.r1 (fun s a=>AA Tryz.prog s 26 a),[.var 1],.push,[]⟩,
 ⟨none,.e (fun s=>Xy (fun a x=>Za (AM Tryz.prog s 26 a x))),[.var 2,.loc 0],.push,[]⟩]
def qZ:Aq:=⟨1,3,(.seq (.ops iH) (.seq (.ops iI) .ret)),[((.var 2),some 26)]⟩
theorem lN:AR Tryz.prog 61=some qY:=by kernel_rfl
theorem lW:AR Tryz.prog 72=some qj:=by kernel_rfl
theorem YW:AR Tryz.prog 62=some pI:=by kernel_rfl
theorem kq:AR Tryz.prog 34=some qM:=by kernel_rfl
theorem lX:AR Tryz.prog 73=some qk:=by kernel_rfl
theorem km:AR Tryz.prog 32=some qK:=by kernel_rfl
theorem kp:AR Tryz.prog 33=some qL:=by kernel_rfl
theorem kz:AR Tryz.prog 41=some qO:=by kernel_rfl
theorem lY:AR Tryz.prog 77=some ql:=by kernel_rfl
theorem ke:AR Tryz.prog 23=some qE:=by kernel_rfl
theorem kX:AR Tryz.prog 20=some qB:=by kernel_rfl
theorem kY:AR Tryz.prog 21=some qC:=by kernel_rfl
theorem kZ:AR Tryz.prog 22=some qD:=by kernel_rfl
theorem kR:AR Tryz.prog 10=some kE:=by kernel_rfl
theorem kT:AR Tryz.prog 13=some pF:=by kernel_rfl
theorem kg:AR Tryz.prog 25=some qG:=by kernel_rfl
theorem lP:AR Tryz.prog 63=some qZ:=by kernel_rfl
def iu:List AB:=[
 ⟨none,.mk (fun l=>match l with | [v]=>Bf 54 v | _=>none),[.var 0],(.set 1),[]⟩,
 ⟨none,.p1 some,[(.const .nilFunc)],(.set 2),[]⟩]
def iw:List AB:=[
 ⟨none,.p (fun l=>some (.func 121 (l.take 0) (l.drop 0))),[.var 1],.push,[]⟩,
 ⟨none,.p1 some,[.loc 0],(.set 2),[]⟩]
def qm:Aq:=⟨1,3,(.seq (.ops iu) (.seq (.ops iw) .ret)),[((.var 2),none)]⟩
def fv:List AB:=[
 ⟨none,.p1 some,[(.const (.int .i64 (0)))],(.set 2),[]⟩]
def fy:List AB:=[
 ⟨none,.r (fun s l=>match l with | [x]=>BN Tryz.prog s 27 x | _=>none),[.var 0],(.set 4),[]⟩,
 ⟨none,.p1 some,[(.const (.int .i64 (0)))],(.set 5),[]⟩]
def TD:List AB:=[
 ⟨none,.p2 (AS Tryz.prog .lss 3),[.var 5,.var 4],(.set 6),[]⟩]
def XM:List AB:=[
 ⟨none,.p1 some,[.var 5],(.set 3),[]⟩]
def XN:List AB:=[
 ⟨none,.p2 (AK Tryz.prog 27),[.var 0,.var 3],.push,[]⟩,
 ⟨none,.r1 (fun s a=>AA Tryz.prog s 3 a),[.loc 0],.push,[]⟩,
 ⟨none,.p2 (AS Tryz.prog .eql 3),[.var 1,.loc 0],(.set 7),[]⟩]
def fz:List AB:=[
 ⟨none,.p1 some,[.var 3],(.set 2),[]⟩]
def gC:List AB:=[
 ⟨none,.p2 (AS Tryz.prog .add 3),[(.var 5),(.const (.int .i64 (1)))],.push,[]⟩,
 ⟨none,.p1 some,[.loc 0],(.set 5),[]⟩]
def MJ:Ad:=(.seq (.ops TD) (.seq (.cond (.var 6)
 .skip
 (.exit 0)) (.seq (.block 1 (.seq (.ops XM) (.seq (.ops XN) (.cond (.var 7)
 (.seq (.ops fz) .ret)
 .skip)))) (.ops gC))))
def XO:List AB:=[
 ⟨none,.p1 some,[(.const (.int .i64 (-1)))],(.set 2),[]⟩]
def qP:Aq:=⟨2,8,(.seq (.ops fv) (.seq (.seq (.ops fy) (.block 0 (.loop MJ))) (.seq (.ops XO) .ret))),[((.var 2),none)]⟩
theorem lZ:AR Tryz.prog 79=some qm:=by kernel_rfl
theorem lD:AR Tryz.prog 42=some qP:=by kernel_rfl
end
end Go.Proofs.YtjnkfbpadpmakaaGreatDoor.Am
set_option linter.unusedVariables false
set_option linter.unusedSimpArgs false
namespace Go.Proofs.YtjnkfbpadpmakaaGreatDoor.Am
open Go Go.RowKit
noncomputable section
def R7(x:Int):List Int→List Int
 | []=>[x]
 | y::l=>bif Lz x y then x::y::l else y::R7 x l
def EJ:List Int→List Int
 | []=>[]
 | x::l=>R7 x (EJ l)
theorem I6(x:Int):∀l:List Int,(R7 x l).Perm (x::l)
 | []=>.refl _
 | y::l=>by
  unfold R7
  cases Lz x y with
  | true=>exact .refl _
  | false=>exact((I6 x l).cons y).trans (.swap x y l)
theorem DY:∀l:List Int,(EJ l).Perm l
 | []=>.refl _
 | x::l=>(I6 x _).trans ((DY l).cons x)
theorem Jc(x:Int):∀l:List Int,l.Pairwise (·≤·)→(R7 x l).Pairwise (·≤·)
 | [],_=>by simp[R7]
 | y::l,h=>by
  unfold R7
  have hl:=List.pairwise_cons.1 h
  rw[Cw]
  by_cases hxy:x<y
  ·simp only[hxy,decide_true,cond_true]
   refine List.pairwise_cons.2 ⟨fun z hz=>?_,h⟩
   rcases tN.1 hz with rfl | hz
   ·omega
   ·have:=hl.1 z hz;omega
  ·simp only[hxy,decide_false,cond_false]
   refine List.pairwise_cons.2 ⟨fun z hz=>?_,Jc x l hl.2⟩
   rcases tN.1 ((I6 x l).mem_iff.1 hz)with rfl | hz
   ·omega
   ·exact hl.1 z hz
theorem IP:∀l:List Int,(EJ l).Pairwise (·≤·)
 | []=>.nil
 | x::l=>Jc x _ (IP l)
theorem Ut        {l m : List Int} (hp : l.Perm m) (hl : l.Pairwise (· ≤ ·)) (hm : m.Pairwise (· ≤ ·)) : l = m := by
  induction l generalizing m with
  | nil=>exact(List.nil_perm.1 hp).symm
  | cons a l ih =>
    cases m with
    | nil=>exact absurd hp.length_eq (by simp)
    | cons b m =>
      have hl':=List.pairwise_cons.1 hl
      have hm':=List.pairwise_cons.1 hm
      have hab:a=b:=by
        have h1:a∈b::m:=hp.mem_iff.1 rH
        have h2:b∈a::l:=hp.mem_iff.2 rH
        rcases tN.1 h1 with e | h1
        · exact e
        · rcases tN.1            h2 with e | h2
          · exact e.symm
          · have:=hm'.1 a h1;have:=hl'.1 b h2;omega
      subst hab
      rw[ih hp.cons_inv hl'.2 hm'.2]
theorem PX{l m:List Int}(h:l.Perm m):m.mergeSort (fun x y=>decide (x≤y))=EJ l:=by
 refine Ut ((List.mergeSort_perm _ _).trans (h.symm.trans (DY l).symm)) ?_ (IP l)
 have:=List.pairwise_mergeSort (le:=fun(x y:Int)=>decide (x≤y)) (by intro a b c;simp;omega) (by intro a b;simp;omega) m
 exact this.imp (by intro a b h;simpa using h)
def Jg:List (AV×AV)→Option (List Int)
 | []=>some []
 | (.int .i64 n,_)::l=>(Jg l).bind fun r=>some (n::r)
 | _=>none
def UZ(n:Int):AV:=.int .i64 n
def HB(tI:TypeId)(ks:List Int)(s:AE):Option (AV×AE):=match ks with
 | []=>some (.slice none 0 (some 0),s)
 | k::ks=>AL (Nat.ble (k::ks).length 1000000) (some (.slice (some (s.next,0)) (k::ks).length none,newObj s (Ce tI 1 (AW.fill .leaf 0 ((EJ (k::ks)).map UZ)) (k::ks).length none true)))
def Fd(g:FuncId)(kt tI:TypeId)(s:AE):List AV→Option (AV×AE)
 | [.func f [] [.ptr (some (i,o))]]=>AL (Nat.beq f g && Nat.beq o 0) <| (rowAt s i).bind fun r=>AL r.bytes <| (Cm s i o).bind fun m=>match m with
  | .map none=>some (.slice none 0 (some 0),s)
  | .map (some j)=>(Gg s kt j).bind fun es=>(Jg es).bind fun ks=>HB tI ks s
  | _=>none
 | _=>none
section
variable{P:Program}{ρ ρ1 ρ2:BD}{s s1 s2:AE}{w w1 w2:World}
def So(P:Program)(f g:FuncId)(kt tI:TypeId):Prop:=
 (∀ (Bm b nn:Nat) (D0:DataW Value) (w:World),Bm<w.heap.size→w.cell? ⟨Bm,0,none⟩=some (.map (some b))→w.ownsMap P kt Rv b nn D0→Maps.size D0≤1000000 →
  Calls P f #[.func (.func g) #[] #[.pointer (some ⟨Bm,0,none⟩)]] w fun e w'=>∃ (v:Value) (ss:List Int),e=.returned v∧ss.Perm (intKeys D0) ∧
   w'.ownsRow w.heap.size tI 1 v ss.length ((ss.mergeSort (fun x y=>decide (x≤y))).map fun n=>.int .i64 n)∧(v=.slice none 0 0↔ss=[])∧Below w.heap.size w w') ∧
 ∀ (Bm:Nat) (w:World),Bm<w.heap.size→w.cell? ⟨Bm,0,none⟩=some (.map none) →
  Calls P f #[.func (.func g) #[] #[.pointer (some ⟨Bm,0,none⟩)]] w fun e w'=>e=.returned (.slice none 0 0)∧Below w.heap.size w w'
theorem Mb:∀ {es:List (AV×AV)}{ks:List Int}{l:List MapEntry},Jg es=some ks→EG ρ es l→l.map (·.key)=ks.map fun n=>Value.int .i64 n
  | [],ks,l,h,he=>by cases he;injection h with h;subst h;rfl
  | (k,v)::es,ks,l,h,he=>by
    cases he with
    | cons hk hv hs =>
      cases k<;>try (simp[Jg]at h;done)
      rename_i q n
      cases q<;>try (simp[Jg]at h;done)
      simp only[Jg,qv]at h
      obtain⟨r,h1,h2⟩:=h
      injection h2 with h2
      subst h2
      have:=Mb h1 hs
      generalize hkk:(_:MapEntry).key=kk at hk
      cases hk
      simp[this,hkk]
theorem GX(h:Below w.heap.size w w1):w.grownBy w1 none:=⟨h.os,h.tape,h.output,h.size,fun k hk _=>h.block k hk⟩
theorem QB          {f g : FuncId} {kt tI : TypeId} (hko : Fp     P kt = true) (hu : P.underlying kt = some (.int .i64)) (hc : So      P f g kt tI) (h : BO  P ρ s w) (hf : Ay     ρ s) {aS : List AV} {as' : Array Value} {v : AV} (hs : Fd       g kt tI s aS = some (v, s1)) (has : AT    ρ aS as'.toList) :
    CallsIn Fence.wide 0 P f as' w (FB P ρ s w v s1):=by
  refine callsIn_wide.2 ?_
  unfold Fd at hs
  split at hs<;>first | (cases hs;done) | skip
  rename_i f' i o
  obtain⟨hg,hs⟩:=AD hs
  simp only[qv,Bool.and_eq_true]at hs hg
  obtain⟨r,hrow,hs⟩:=hs
  obtain⟨hby,hs⟩:=AD hs
  simp only[qv]at hs
  obtain⟨m,hm,hs⟩:=hs
  have e1:=rJ hg.1
  have e2:=rJ hg.2
  subst e1;subst e2
  obtain⟨l0⟩:=as'
  cases has with
  | cons h1 h2 =>
  cases h2
  cases h1 with
  | func ha hcap =>
  rename_i a' c'
  obtain⟨la⟩:=a'
  obtain⟨lc⟩:=c'
  cases ha
  cases hcap with
  | cons hp hn =>
  cases hn
  cases hp with
  | ptr hr =>
  rename_i rb
  have hok:Ca ρ w r rb:=h.obj i _ rb (BY hrow) hr
  have hoff:=hok.base hby
  obtain⟨m',hvm,hcell⟩:=K6 h hr hm
  rw[hoff]at hcell ⊢
  have hlt:=h.lt i rb hr
  cases m<;>try (simp at hs;done)
  rename_i mj
  have nilDone:∀ (hs:some ((.slice none 0 (some 0),s):AV×AE)=some (v,s1)) (w':World),Below w.heap.size w w'→FB P ρ s w v s1 (.returned (.slice none 0 0)) w':=by
    intro hs w' hb
    injection hs with hs
    injection hs with q1 q2
    subst q1;subst q2
    obtain⟨g1,g2⟩:=h.grown (GX hb)
    exact⟨ρ,.sliceNil,g1,g2⟩
  cases mj with
  | none =>
    cases hvm
    refine(hc.2 rb.b w hlt hcell).mono ?_
    rintro e w' ⟨rfl,hb⟩
    exact nilDone hs w' hb
  | some j =>
    simp only[qv]at hs
    obtain⟨es,hes,ks,hks,hs⟩:=hs
    cases hvm with
    | map hrj =>
    rename_i rj
    obtain⟨ed,cd,d1,d2,⟨ld,d3,d4⟩,d5⟩:=(show JS P ρ w kt es rj from h.obj j _ rj (JC hes) hrj).ex
    have hkl:=Mb hks d4
    have hlenk:ks.length=ed.size:=by have:=congrArg List.length hkl;have:=d3.length_eq;simp at *;omega
    have hk6:ks.length≤1000000:=by
      cases ks with
      | nil=>simp
      | cons k ks =>
        simp only[HB]at hs
        have:=(AD hs).1
        simpa[rC]using this
    have hmax:(1000000:Nat)≤maxLen:=by unfold maxLen;omega
    have od:=cN d1 d2 d5 (by omega)
    have hsz:Maps.size (DataW.map ((ed.toList.map (WideElems.rg P kt Rv)).foldr DataW.insert []))=ed.size:=by
      show((ed.toList.map (WideElems.rg P kt Rv)).foldr DataW.insert []).length=_
      rw[(Go.WideShapes.sorted_perm _).length_eq]
      simp
    have hints:(intKeys (DataW.map ((ed.toList.map (WideElems.rg P kt Rv)).foldr DataW.insert []))).Perm ks:=by
      show(((ed.toList.map (WideElems.rg P kt Rv)).foldr DataW.insert []).map fun p=>Go.intOf p.1).Perm ks
      refine((Go.WideShapes.sorted_perm _).map _).trans ?_
      rw[sk]
      have:((ld.map fun e=>Go.intOf (WideElems.rg P kt Rv e).1))=ks:=by
        have:∀ (L:List MapEntry) (K:List Int),(∀e∈L,∃l,keyOf P kt e.key=some l)→L.map (·.key)=K.map (fun n=>Value.int .i64 n)→(L.map fun e=>Go.intOf (WideElems.rg P kt Rv e).1)=K:=by
          intro L
          induction L with
          | nil=>intro K _ hK;cases K with | nil=>rfl | cons=>simp at hK
          | cons e L ih =>
            intro K hty hK
            cases K with
            | nil=>simp at hK
            | cons n K =>
              simp only[sa,List.cons.injEq]at hK
              obtain⟨l,hl⟩:=hty e rH
              rw[sa,ih K (fun x hx=>hty x (rP _ hx)) hK.2,og hl]
              congr 1
              rw[hK.1]at hl
              simp only[keyOf,hu,mapKey]at hl
              split at hl
              · injection hl with hl;subst hl;rfl
              · cases hl
        exact this ld ks (fun e he=>d5 e (d3.mem_iff.1 he)) hkl
      rw[← this]
      exact d3.symm.map _
    refine(hc.1 rb.b rj.b _ _ w hlt hcell od (by rw[hsz];omega)).mono ?_
    rintro e w' ⟨v',ss,rfl,hperm,hrow',hnil,hb⟩
    have hss:ss.Perm ks:=hperm.trans hints
    cases ks with
    | nil =>
      have:ss=[]:=List.perm_nil.1 hss
      rw[hnil.2 this]
      exact nilDone hs w' hb
    | cons k ks =>
      simp only[HB]at hs
      obtain⟨_,hs⟩:=AD hs
      injection hs with hs
      injection hs with q1 q2
      subst q1;subst q2
      have hne:ss≠[]:=fun e=>by subst e;exact absurd (List.nil_perm.1 hss) (by simp)
      rw[PX hss.symm]at hrow'
      have hl:ss.length=(k::ks).length:=hss.length_eq
      rcases hrow'.2 with⟨q,_⟩ | ⟨gb,cap,cur,rfl,hbase,hgb,r1,r2,r3,r4⟩
      · exact absurd (hnil.1 q) hne
      · rw[hl]at r1 r4 ⊢
        have hilen:(EJ (k::ks)).length=(k::ks).length:=(DY _).length_eq
        generalize hn:(k::ks).length=n at r1 r4 hilen ⊢
        have hglt:gb<w'.heap.size:=(Array.getElem?_eq_some_iff.1 hgb).1
        obtain⟨g1,g2⟩:=h.grown (GX hb)
        let rbn:RB:=⟨gb,0,cap,1⟩
        have hfn:=(hf s.next (qw _)).1
        have hle:=BZ (rb:=rbn) hfn
        have hrok:Ca (Bw ρ s.next rbn) w' { elem:=tI,sz:=1,n:=n,c:=AW.fill .leaf 0 ((EJ (k::ks)).map UZ),spare:=true,mode:=.own,par:=none,bytes:=true } rbn:=by
          refine⟨?_,r1,rfl,(fun hh=>by cases hh),fun _=>⟨cur,hgb,by simp only[rbn];omega⟩,fun _=>rfl,(fun g hg=>by cases hg),fun p hp=>by cases hp⟩
          intro q u hq hu'
          simp only at hq
          simp only[AW.get_fill,rB,rE,true_and,Nat.sub_zero,sO,hilen]at hu'
          rw[if_pos hq,sF]at hu'
          obtain⟨x,hx,hx2⟩:=Option.map_eq_some_iff.1 hu'
          subst hx2
          refine⟨.int .i64 x,?_,.int _ _⟩
          have:(cur.toList.take (n * 1))[q]? = some (Value.int .i64 x):=by rw[r4,sF,hx];rfl
          rw[sS (by omega)]at this
          simp only[World.cell?,rbn,rE,hgb]
          simpa using this
        refine⟨Bw ρ s.next rbn,.sliceOpen (Aa _ _) (Nat.one_pos) r1 (by simp[rbn]) (by simp[rbn]),⟨?_,?_,?_,?_⟩,?_⟩
        · intro x ox rx hx hrx
          rw[Av]at hx
          by_cases e:x=s.next
          · subst e
            rw[if_pos rfl]at hx
            injection hx with hx
            rw[Aa]at hrx
            injection hrx with hrx
            subst hx;subst hrx
            exact hrok
          · rw [if_neg e] at hx
            rw[AU rbn e]at hrx
            exact(g1.obj x ox rx hx hrx).mono hle rfl
        · intro x rx hrx
          by_cases e:x=s.next
          · subst e
            rw[Aa]at hrx
            injection hrx with hrx
            subst hrx
            exact hglt
          · rw[AU rbn e]at hrx
            exact g1.lt x rx hrx
        · intro x y ox oy rx ry hxy hx hy hrx hry hbb hw
          rw[Av]at hx hy
          by_cases ex:x=s.next
          · subst ex
            have ey:y≠s.next:=fun e=>hxy e.symm
            rw[Aa]at hrx
            injection hrx with hrx
            subst hrx
            rw[AU rbn ey]at hry
            have:=h.lt y ry hry
            simp only[rbn]at hbb
            omega
          · by_cases ey : y = s.next
            · subst ey
              rw[Aa]at hry
              injection hry with hry
              subst hry
              rw[AU rbn ex]at hrx
              have:=h.lt x rx hrx
              simp only[rbn]at hbb
              omega
            · rw [if_neg ex] at hx
              rw[if_neg ey]at hy
              rw[AU rbn ex]at hrx
              rw[AU rbn ey]at hry
              exact g1.sep x y ox oy rx ry hxy hx hy hrx hry hbb hw
        · intro x ox g hx hgo
          rw[Av]at hx
          by_cases e:x=s.next
          · subst e;exact⟨_,Aa _ _⟩
          · rw[if_neg e]at hx
            obtain⟨r',hr'⟩:=h.glb x ox g hx hgo
            exact⟨r',hle _ _ hr'⟩
        · refine ⟨hle, ?_, by simp [newObj], hb.size, hb.os, hb.tape, hb.output, fun b hb' _ => hb.block b hb', ?_, ?_⟩
          · intro x hx hxr
            have:x≠s.next:=by simp[newObj]at hxr;omega
            rw[AU rbn this];exact hx
          · rintro b ⟨x, ox, rx, hx, hw, hrx, rfl⟩
            rw[Av]at hx
            by_cases e:x=s.next
            · subst e
              rw[Aa]at hrx
              injection hrx with hrx
              subst hrx
              exact .inr hbase
            · rw [if_neg e] at hx
              rw[AU rbn e]at hrx
              exact .inl ⟨x,ox,rx,hx,hw,hrx,rfl⟩
          · intro x _ hx
            rw[Av,if_neg (by simp[newObj]at hx;omega)]
end
end
end Go.Proofs.YtjnkfbpadpmakaaGreatDoor.Am
set_option linter.unusedVariables false
set_option linter.unusedSimpArgs false
set_option maxRecDepth 16000
namespace Go.Proofs.YtjnkfbpadpmakaaGreatDoor.Am
open Go Go.Proofs
noncomputable section
abbrev CD:=Int×Rat×AV
def Fl(T:List CD):List (AV×AV):=T.map fun t=>(iv t.1,t.2.2)
def Dp(n:Int):List CD→Option (Rat×AV)
 | []=>none
 | t::T=>if n=t.1 then some t.2 else Dp n T
def DL(n:Int)(q:Rat)(v:AV):List CD→List CD
 | []=>[(n,q,v)]
 | t::T=>if n=t.1 then (n,q,v)::T else t::DL n q v T
def HH(n:Int):List CD→List CD
 | []=>[]
 | t::T=>if n=t.1 then T else t::HH n T
theorem Tb(n m:Int):Ge (iv n) (iv m)=some (decide (n=m)):=by
 show AL (Bu .i64 .i64) (some (L4 n m))=_
 rw[ER]
 rfl
theorem Gh       (n : Int) (q : Rat) (v : AV) : ∀ (T : List CD)  (i : Nat), (Dp   n T = none ∧ GB    (iv n) (Fl  T) i = some none ∧ DL   n q v T = T ++ [(n, q, v)] ∧ HH   n T = T) ∨
    (∃j p,Dp n T=some p∧GB (iv n) (Fl T) i=some (some (i+j,p.2))∧setNth (Fl T) j v=Fl (DL n q v T)∧delNth (Fl T) j=Fl (HH n T))
  | [],i=>.inl ⟨rfl,rfl,rfl,rfl⟩
  | t::T,i=>by
    by_cases h:n=t.1
    · refine .inr ⟨0, t.2, if_pos h, ?_, ?_, ?_⟩
      · show(Ge (iv n) (iv t.1)).bind _=_
        rw[Tb,decide_eq_true h];rfl
      · show setNth ((iv t.1,t.2.2)::Fl T) 0 v=Fl (if n=t.1 then (n,q,v)::T else t::DL n q v T)
        rw[if_pos h]
        show(iv t.1,v)::Fl T=(iv n,v)::Fl T
        rw[h]
      · show Fl T=Fl (if n=t.1 then T else t::HH n T)
        rw[if_pos h]
    · have hf:GB (iv n) (Fl (t::T)) i=GB (iv n) (Fl T) (i+1):=by
        show(Ge (iv n) (iv t.1)).bind _=_
        rw[Tb,decide_eq_false h];rfl
      have hg:Dp n (t::T)=Dp n T:=if_neg h
      have hp:DL n q v (t::T)=t::DL n q v T:=if_neg h
      have hd:HH n (t::T)=t::HH n T:=if_neg h
      rcases Gh n q v T (i+1)with⟨h1,h2,h3,h4⟩ | ⟨j,p,h1,h2,h3,h4⟩
      · exact .inl ⟨hg.trans h1,hf.trans h2,by rw[hp,h3];rfl,by rw[hd,h4]⟩
      · refine .inr ⟨j + 1, p, hg.trans h1, ?_, ?_, ?_⟩
        · rw[hf,h2,show i+1+j=i+(j+1) by omega]
        · rw[hp]
          show(iv t.1,t.2.2)::setNth (Fl T) j v=(iv t.1,t.2.2)::Fl (DL n q v T)
          rw[h3]
        · rw[hd]
          show(iv t.1,t.2.2)::delNth (Fl T) j=(iv t.1,t.2.2)::Fl (HH n T)
          rw[h4]
def CB(n:Int)(T:List CD):Rat:=match Dp n T with
 | some p=>p.1
 | none=>0
def PM(a:Int→Rat):List CD→Rat
 | []=>0
 | t::T=>t.2.1 * a t.1+PM a T
theorem JO(n:Int)(t:CD)(T:List CD):CB n (t::T)=if n=t.1 then t.2.1 else CB n T:=by
 unfold CB
 show(match (if n=t.1 then some t.2 else Dp n T)with | some p=>p.1 | none=>0)=_
 by_cases h:n=t.1
 ·rw[if_pos h,if_pos h]
 ·rw[if_neg h,if_neg h]
theorem Yr(a:Int→Rat)(n:Int)(d:Rat)(v:AV):∀T:List CD,PM a (DL n (CB n T+d) v T)=PM a T+d * a n
 | []=>by
  show(0+d) * a n+0=0+d * a n
  rw[Rat.zero_add,Rat.add_zero,Rat.zero_add]
 | t::T=>by
  rw[JO]
  by_cases h:n=t.1
  ·rw[if_pos h]
   show PM a (if n=t.1 then (n,t.2.1+d,v)::T else t::DL n (t.2.1+d) v T)=t.2.1 * a t.1+PM a T+d * a n
   rw[if_pos h]
   show(t.2.1+d) * a n+PM a T=t.2.1 * a t.1+PM a T+d * a n
   rw[h,Rat.add_mul,Rat.add_assoc,Rat.add_comm (d * a t.1),Rat.add_assoc]
  ·rw[if_neg h]
   show PM a (if n=t.1 then (n,CB n T+d,v)::T else t::DL n (CB n T+d) v T)=t.2.1 * a t.1+PM a T+d * a n
   rw[if_neg h]
   show t.2.1 * a t.1+PM a (DL n (CB n T+d) v T)=_
   rw[Yr a n d v T,Rat.add_assoc]
def BE(T:List CD):List Int:=T.map (·.1)
theorem MW{n:Int}:∀ {T:List CD},Dp n T=none↔n ∉ BE T
 | []=>by simp[Dp,BE]
 | t::T=>by
  show(if n=t.1 then some t.2 else Dp n T)=none↔n ∉ t.1::BE T
  by_cases h:n=t.1
  ·rw[if_pos h];simp[h]
  ·rw[if_neg h,MW (T:=T)];simp[h]
theorem E1{n:Int}{p:Rat×AV}:∀ {T:List CD},Dp n T=some p→(n,p)∈T
 | [],h=>by cases h
 | t::T,h=>by
  have h':(if n=t.1 then some t.2 else Dp n T)=some p:=h
  by_cases hn:n=t.1
  ·rw[if_pos hn]at h'
   injection h' with h'
   have:(n,p)=t:=by rw[hn,← h']
   rw[this];exact rH
  ·rw[if_neg hn]at h'
   exact rP _ (E1 h')
theorem PZ       {n : Int} {q : Rat} {v : AV} {x : Int} : ∀ {T : List CD},  x ∈ BE    (DL   n q v T) ↔ x = n ∨ x ∈ BE    T
  | []=>by simp[DL,BE]
  | t::T=>by
    show x∈BE (if n=t.1 then (n,q,v)::T else t::DL n q v T)↔x=n∨x∈t.1::BE T
    by_cases h:n=t.1
    · rw[if_pos h]
      show x∈n::BE T↔_
      rw[h];simp
    · rw[if_neg h]
      show x∈t.1::BE (DL n q v T)↔_
      rw[tN,PZ (T:=T),tN]
      constructor
      · rintro (h | h | h)
        · exact .inr (.inl h)
        · exact .inl h
        · exact .inr (.inr h)
      · rintro (h | h | h)
        · exact .inr (.inl h)
        · exact .inl h
        · exact .inr (.inr h)
theorem Mi{n:Int}{q:Rat}{v:AV}:∀ {T:List CD},(BE T).Nodup→(BE (DL n q v T)).Nodup
 | [],_=>by simp[DL,BE]
 | t::T,h=>by
  obtain⟨h1,h2⟩:=List.nodup_cons.1 h
  show(BE (if n=t.1 then (n,q,v)::T else t::DL n q v T)).Nodup
  by_cases hn:n=t.1
  ·rw[if_pos hn]
   show(n::BE T).Nodup
   rw[hn];exact h
  ·rw[if_neg hn]
   show(t.1::BE (DL n q v T)).Nodup
   refine List.nodup_cons.2 ⟨fun hm=>?_,Mi h2⟩
   rcases PZ.1 hm with e | e
   ·exact hn e.symm
   ·exact h1 e
theorem KE      {n : Int} {q : Rat} {v : AV} {t : CD}  : ∀ {T : List CD},  t ∈ DL   n q v T → t = (n, q, v) ∨ t ∈ T
  | [],h=>.inl (List.mem_singleton.1 h)
  | u::T,h=>by
    have h':t∈(if n=u.1 then (n,q,v)::T else u::DL n q v T):=h
    by_cases hn:n=u.1
    · rw [if_pos hn] at h'
      rcases tN.1 h' with e | e
      · exact .inl e
      · exact .inr (rP _ e)
    · rw [if_neg hn] at h'
      rcases tN.1 h' with e | e
      · exact .inr (e▸rH)
      · rcases KE      e with e | e
        · exact .inl e
        · exact .inr (rP _ e)
theorem Pr{Rl:CD→CD→Prop}{n:Int}{q:Rat}{v:AV}:∀ {T:List CD},T.Pairwise Rl→(∀t∈T,Rl t (n,q,v)∧Rl (n,q,v) t)→(DL n q v T).Pairwise Rl
  | [],_,_=>by simp[DL]
  | t::T,h,hn=>by
    obtain⟨h1,h2⟩:=List.pairwise_cons.1 h
    show(if n=t.1 then (n,q,v)::T else t::DL n q v T).Pairwise Rl
    by_cases hk:n=t.1
    · rw[if_pos hk]
      exact List.pairwise_cons.2 ⟨fun u hu=>(hn u (rP _ hu)).2,h2⟩
    · rw [if_neg hk]
      refine List.pairwise_cons.2 ⟨fun u hu=>?_,Pr h2 fun u hu=>hn u (rP _ hu)⟩
      rcases KE hu with rfl | hu
      · exact(hn t rH).1
      · exact h1 u hu
theorem Gz(n:Int):∀T:List CD,(HH n T).Sublist T
 | []=>.slnil
 | t::T=>by
  show(if n=t.1 then T else t::HH n T).Sublist (t::T)
  by_cases h:n=t.1
  ·rw[if_pos h];exact List.sublist_cons_self t T
  ·rw[if_neg h];exact(Gz n T).cons_cons t
theorem Tc{n:Int}{q:Rat}{v:AV}:∀ {T:List CD},(DL n q v T).length≤T.length+1
 | []=>qw _
 | t::T=>by
  show(if n=t.1 then (n,q,v)::T else t::DL n q v T).length≤_
  by_cases h:n=t.1
  ·rw[if_pos h];simp
  ·rw[if_neg h];have:=Tc (n:=n) (q:=q) (v:=v) (T:=T);simp only[rn];omega
theorem OG(k:Int):Es Tryz.prog 3 (iv k)=By .i64 k:=by kernel_rfl
abbrev UA:AV:=.agg [.bool false,.slice none 0 (some 0),.slice none 0 (some 0)]
section
variable{s:AE}{mi:Nat}{T:List CD}{n:Int}
theorem K9(hg:s.heap.get mi=some (.map 3 (Fl T)))(hn:i64 n):C4 Tryz.prog s 54 (.map (some mi)) (iv n) true=some (.tuple [match Dp n T with | some p=>p.2 | none=>UA,.bool (Dp n T).isSome]):=by
 have hrd:Ji s 3 mi=some (Fl T):=by unfold Ji;rw[hg];rfl
 unfold C4
 simp only[Tryz.underlying54,OG,EI hn,Xg,hrd,Option.bind_some]
 rcases Gh n 0 UA T 0 with⟨h1,h2,_⟩ | ⟨j,p,h1,h2,_⟩
 ·rw[h2,h1,Option.bind_some,pm];rfl
 ·rw[h2,h1];rfl
theorem Me{p:Rat×AV}(hg:s.heap.get mi=some (.map 3 (Fl T)))(hn:i64 n)(hp:Dp n T=some p):C4 Tryz.prog s 54 (.map (some mi)) (iv n) false=some p.2:=by
 have hrd:Ji s 3 mi=some (Fl T):=by unfold Ji;rw[hg];rfl
 unfold C4
 simp only[Tryz.underlying54,OG,EI hn,Xg,hrd,Option.bind_some]
 rcases Gh n 0 UA T 0 with⟨h1,h2,_⟩ | ⟨j,p',h1,h2,_⟩
 ·rw[hp]at h1;cases h1
 ·rw[hp]at h1
  injection h1 with h1
  subst h1
  rw[h2];rfl
theorem QL(hg:s.heap.get mi=some (.map 3 (Fl T)))(hn:i64 n)(q:Rat)(v:AV):HE Tryz.prog s 54 (.map (some mi)) (iv n) v=some (setObj s mi (.map 3 (Fl (DL n q v T)))):=by
 have hat:Gg s 3 mi=some (Fl T):=by unfold Gg;rw[hg];rfl
 unfold HE
 simp only[Tryz.underlying54,OG,EI hn,Xg,hat,Option.bind_some]
 unfold mU
 rcases Gh n q v T 0 with⟨h1,h2,h3,_⟩ | ⟨j,p,h1,h2,h3,_⟩
 ·rw[h2,h3,Option.bind_some]
  show some (setObj s mi (.map 3 (Fl T++[(iv n,v)])))=_
  unfold Fl
  rw[List.map_append];rfl
 ·rw[h2,Option.bind_some,rE]
  show some (setObj s mi (.map 3 (setNth (Fl T) j v)))=_
  rw[h3]
theorem Yl(hg:s.heap.get mi=some (.map 3 (Fl T)))(hn:i64 n)(hp:Dp n T≠none):Fk Tryz.prog s 54 (.map (some mi)) (iv n)=some (setObj s mi (.map 3 (Fl (HH n T)))):=by
 have hat:Gg s 3 mi=some (Fl T):=by unfold Gg;rw[hg];rfl
 unfold Fk
 simp only[Tryz.underlying54,OG,EI hn,Xg,hat,Option.bind_some]
 rcases Gh n 0 UA T 0 with⟨h1,_⟩ | ⟨j,p,h1,h2,_,h4⟩
 ·exact absurd h1 hp
 ·rw[h2,Option.bind_some,rE,← h4]
end
def Bx:AV→List Nat
 | .agg [_,m,d]=>(CH m).toList++(CH d).toList
 | _=>[]
def UB(u v:AV):Prop:=∀j∈Bx u,j ∉ Bx v
theorem UB.symm{u v:AV}(h:UB u v):UB v u:=fun j h1 h2=>h j h2 h1
def OX(s:AE)(j:Nat):Prop:=∃r,s.heap.get j=some (.row r)∧r.elem=76
theorem NR.u32{b:Nat}{s:AE}{v:AV}{l:List Nat}(h:NR b s v l)(hl:l≠[]){j:Nat}(hj:CH v=some j):OX s j:=by
 obtain⟨O,h1,_,_,h4⟩:=h
 obtain⟨i,e,_,_⟩:=h4 hl
 rcases h1 with⟨a,e',_⟩ | ⟨i',p,e',h6,_⟩
 ·rw[e]at e';injection e' with _ _ e';cases e'
 ·rw[e']at hj
  injection hj with hj
  subst hj
  rcases h6.ex with⟨e'',_⟩ | ⟨_,_,_,_,r,k4,_,_,_,_,_,k9⟩
  ·rw[e']at e'';cases e''
  ·exact⟨r,k4,k9⟩
theorem Bi{v:AV}{x m d:AV}(e:v=.agg [x,m,d]){j:Nat}:j∈Bx v↔CH m=some j∨CH d=some j:=by
 subst e
 show j∈(CH m).toList++(CH d).toList↔_
 rw[List.mem_append,Option.mem_toList,Option.mem_toList]
theorem QR.u32{b:Nat}{s:AE}{v:AV}{q:Rat}(h:QR b s v q){j:Nat}(hj:j∈Bx v):OX s j:=by
  obtain⟨m,d,e,h2,h3,_,h5⟩:=h
  rcases(Bi e).1 hj with hj | hj
  · by_cases h0 : q.num = 0
    · rw[h5 h0]at hj;cases hj
    · exact h2.u32 (Bs (by omega)) hj
  · exact h3.u32 (Bs q.den_nz) hj
theorem QR.slots{b:Nat}{s:AE}{v:AV}{q:Rat}(h:QR b s v q){j:Nat}(hj:j∈Bx v):b≤j∧j<s.next:=by
 obtain⟨m,d,e,h2,h3,_⟩:=h
 rcases(Bi e).1 hj with hj | hj
 ·exact h2.lt hj
 ·exact h3.lt hj
theorem QR.dj{b b':Nat}{s s':AE}{u v:AV}{p q:Rat}(h:QR b s u p)(h':QR b' s' v q)(hb:s.next≤b'):UB u v:=fun j h1 h2=>by
 have:=(h.slots h1).2
 have:=(h'.slots h2).1
 omega
structure GF(b:Nat)(s:AE)(mi:Nat)(T:List CD)(k:Nat):Prop where
 obj:s.heap.get mi=some (.map 3 (Fl T))
 lo:b≤mi
 lt:mi<s.next
 ent:∀t∈T,QR b s t.2.2 t.2.1∧QH t.2.1 k∧i64 t.1
 nd:(BE T).Nodup
 dj:T.Pairwise fun t u=>UB t.2.2 u.2.2
structure EO(b:Nat)(s:AE)(cv:AV)(mi:Nat)(c:Rat)(T:List CD)(k:Nat):Prop where
 cq:QR b s cv c
 ch:QH c k
 map:GF b s mi T k
 dj:∀t∈T,UB cv t.2.2
def PV(b:Nat)(s:AE)(v:AV)(mi:Nat)(c:Rat)(T:List CD)(k:Nat):Prop:=∃x a n ca d m cd,v=.agg [.bool x,.slice a n ca,.slice d m cd,.map (some mi)]∧EO b s (.agg [.bool x,.slice a n ca,.slice d m cd]) mi c T k
theorem EK{s:AE}{mi kt:Nat}{es:List (AV×AV)}(h:s.heap.get mi=some (.map kt es)){j:Nat}(hj:OX s j):j≠mi:=by
 rintro rfl
 obtain⟨r,h1,_⟩:=hj
 rw[h]at h1;cases h1
theorem EL{s:AE}{p e sz:Nat}{sp:Bool}{cs:List AV}(h:s.heap.get p=some (R e sz sp cs))(he:e≠76){j:Nat}(hj:OX s j):j≠p:=by
 rintro rfl
 obtain⟨r,h1,h2⟩:=hj
 rw[h]at h1
 injection h1 with h1
 injection h1 with h1
 subst h1
 exact he h2
theorem QR.keepS{b:Nat}{s s':AE}{v:AV}{q:Rat}(h:QR b s v q)(hn:s.next≤s'.next)(hf:∀j,j<s.next→OX s j→s'.heap.get j=s.heap.get j):QR b s' v q:=by
 have hu:=fun j=>h.u32 (j:=j)
 have hl:=fun j=>h.slots (j:=j)
 obtain⟨m,d,e,h2,h3,h4⟩:=h
 exact⟨m,d,e,h2.keep hn fun j hj=>hf j (hl j ((Bi e).2 (.inl hj))).2 (hu j ((Bi e).2 (.inl hj))),h3.keep hn fun j hj=>hf j (hl j ((Bi e).2 (.inr hj))).2 (hu j ((Bi e).2 (.inr hj))),h4⟩
theorem GF.keepS{b:Nat}{s s':AE}{mi:Nat}{T:List CD}{k:Nat}(h:GF b s mi T k)(hn:s.next≤s'.next)(hm:s'.heap.get mi=s.heap.get mi)(hf:∀j,j<s.next→OX s j→s'.heap.get j=s.heap.get j):GF b s' mi T k:=
 ⟨hm.trans h.obj,h.lo,rA h.lt hn,fun t ht=>⟨(h.ent t ht).1.keepS hn hf,(h.ent t ht).2⟩,h.nd,h.dj⟩
theorem GF.old{b:Nat}{s s':AE}{mi:Nat}{T:List CD}{k:Nat}(h:GF b s mi T k)(o:Ae s.next s s'):GF b s' mi T k:=h.keepS o.1 (o.2 mi h.lt) fun j hj _=>o.2 j hj
theorem GF.le{b:Nat}{s:AE}{mi:Nat}{T:List CD}{k k':Nat}(h:GF b s mi T k)(hk:k≤k'):GF b s mi T k':=⟨h.obj,h.lo,h.lt,fun t ht=>⟨(h.ent t ht).1,(h.ent t ht).2.1.le hk,(h.ent t ht).2.2⟩,h.nd,h.dj⟩
theorem GF.mono{b b':Nat}{s:AE}{mi:Nat}{T:List CD}{k:Nat}(h:GF b s mi T k)(hb:b'≤b):GF b' s mi T k:=⟨h.obj,rD hb h.lo,h.lt,fun t ht=>⟨(h.ent t ht).1.mono hb,(h.ent t ht).2⟩,h.nd,h.dj⟩
theorem EO.keepS{b:Nat}{s s':AE}{cv:AV}{mi:Nat}{c:Rat}{T:List CD}{k:Nat}(h:EO b s cv mi c T k)(hn:s.next≤s'.next)(hm:s'.heap.get mi=s.heap.get mi)(hf:∀j,j<s.next→OX s j→s'.heap.get j=s.heap.get j):EO b s' cv mi c T k:=
 ⟨h.cq.keepS hn hf,h.ch,h.map.keepS hn hm hf,h.dj⟩
theorem EO.old{b:Nat}{s s':AE}{cv:AV}{mi:Nat}{c:Rat}{T:List CD}{k:Nat}(h:EO b s cv mi c T k)(o:Ae s.next s s'):EO b s' cv mi c T k:=h.keepS o.1 (o.2 mi h.map.lt) fun j hj _=>o.2 j hj
theorem EO.le{b:Nat}{s:AE}{cv:AV}{mi:Nat}{c:Rat}{T:List CD}{k k':Nat}(h:EO b s cv mi c T k)(hk:k≤k'):EO b s cv mi c T k':=⟨h.cq,h.ch.le hk,h.map.le hk,h.dj⟩
theorem EO.mono{b b':Nat}{s:AE}{cv:AV}{mi:Nat}{c:Rat}{T:List CD}{k:Nat}(h:EO b s cv mi c T k)(hb:b'≤b):EO b' s cv mi c T k:=⟨h.cq.mono hb,h.ch,h.map.mono hb,h.dj⟩
theorem EO.set{b:Nat}{s:AE}{cv:AV}{mi:Nat}{c:Rat}{T:List CD}{k p e sz:Nat}{sp:Bool}{cs:List AV}(h:EO b s cv mi c T k)(hp:s.heap.get p=some (R e sz sp cs))(he:e≠76)(o:BC):EO b (setObj s p o) cv mi c T k:=
 h.keepS (qw _) (Wx _ (by rintro rfl;have:=h.map.obj;rw[hp]at this;cases this)) fun j _ hj=>Wx _ (EL hp he hj)
theorem Tt{b:Nat}{s:AE}{mi:Nat}{T:List CD}{k:Nat}(h:GF b s mi T k)(hk:1≤k)(n:Int):QH (CB n T) k:=by
 unfold CB
 cases hg:Dp n T with
 | none=>exact oe.le hk
 | some p=>exact(h.ent _ (E1 hg)).2.1
theorem UJ(x:Bool)(a b:Option (Nat×Nat))(n m:Nat)(c d:Option Nat)(mi:Nat):B7 Tryz.prog 56 (zipIdx [0,1] [.agg [.bool x,.slice a n c,.slice b m d],.map (some mi)])=some (.agg [.bool x,.slice a n c,.slice b m d,.map (some mi)]):=by kernel_rfl
theorem DQ:Ac Tryz.prog 56=some (R 56 0 false [.bool false,.slice none 0 (some 0),.slice none 0 (some 0),.map none],.ptr):=by kernel_rfl
theorem cG:I8 Tryz.prog 54=some 3:=by kernel_rfl
section
variable{E:CR}{s:AE}
theorem LG(hE:GoodN E){K:AV→AE→Prop}(hK:∀s' v,Ae s.next s s'→QR s.next s' v 0→K v s'):WF E 72 [] K s:=by
 refine hE.go lW (by decide) rfl ?_
 obtain⟨n1,o1,g1⟩:=Bl s ZQ
 simp only[qj,ii,ij,Bb,Xc,Qa,Qb,Qc,Qd,Qe,Qf,Qg,Qh,Qi,Qj,Qk,Ql,Qm,Qn,true_and,and_true,Qo,Qp,Qq,Qr,Qs,Qt,Qu,Qv,Qw,Qx,Qy,Qz,Ra,Rb,Rc,Rd,Re,Rf,Rg,Rh,Ri,Rj,Rk,Rm,Rn,Ro,Rp,Rq,Rt,Ya,Yb,Yc,Ru,Rw,Zb,Yd,Ye,Ry,Rz,Wa,Wb,Wc,Wd,We]
 generalize newObj s ZQ=s1 at *
 refine FZ hE (n:=0) (.inl rfl) fun s2 v2 o2 r2=>?_
 have h2:=o2.1
 obtain⟨x,a,n,c,b,m,d,rfl⟩:=r2.shape
 obtain⟨st,ld⟩:=Bj (cs0:=[.bool false,.slice none 0 (some 0),.slice none 0 (some 0)]) rfl (x:=x) (a:=a) (n:=n) (c:=c) (b:=b) (m:=m) (d:=d) ((o2.2 s.next (by omega)).trans g1)
 simp only[st,ld,AO,Xy,Za,Qa,Qb,Qc,Qd,Qe,Qf,Qg,Qh,Qi,Qj,Qk,Ql,Qm,Qn,true_and,and_true,Qo,Qp,Qq,Qr,Qs,Qt,Qu,Qv,Qw,Qx,Qy,Qz,Ra,Rb,Rc,Rd,Re,Rf,Rg,Rh,Ri,Rj,Rk,Rm,Rn,Ro,Rp,Rq,Rt,Ya,Yb,Yc,Ru,Rw,Zb,Yd,Ye,Ry,Rz,Wa,Wb,Wc,Wd,We]
 exact hK _ _ ((o1.trans (o2.mono o1.1)).set (qw _) _) ((r2.set (by omega) _).mono (by omega))
theorem K4(hE:GoodN E){K:AV→AE→Prop}(hK:∀s' v mi,Ae s.next s s'→PV s.next s' v mi 0 [] 1→K v s'):WF E 61 [] K s:=by
 refine hE.go lN (by decide) rfl ?_
 obtain⟨n1,o1,g1⟩:=Bl s (R 56 0 false [.bool false,.slice none 0 (some 0),.slice none 0 (some 0),.map none])
 simp only[qY,iF,iG,DQ,Xc,Qa,Qb,Qc,Qd,Qe,Qf,Qg,Qh,Qi,Qj,Qk,Ql,Qm,Qn,true_and,and_true,Qo,Qp,Qq,Qr,Qs,Qt,Qu,Qv,Qw,Qx,Qy,Qz,Ra,Rb,Rc,Rd,Re,Rf,Rg,Rh,Ri,Rj,Rk,Rm,Rn,Ro,Rp,Rq,Rt,Ya,Yb,Yc,Ru,Rw,Zb,Yd,Ye,Ry,Rz,Wa,Wb,Wc,Wd,We]
 generalize newObj s (R 56 0 false [.bool false,.slice none 0 (some 0),.slice none 0 (some 0),.map none])=s1 at *
 refine LG hE fun s2 v2 o2 r2=>?_
 have h2:=o2.1
 obtain⟨x,a,n,c,b,m,d,rfl⟩:=r2.shape
 obtain⟨n3,o3,g3⟩:=Bl s2 (.map 3 [])
 have g4:(newObj s2 (.map 3 [])).heap.get s.next=some (R 56 0 false [.bool false,.slice none 0 (some 0),.slice none 0 (some 0),.map none]):=by
  rw[o3.2 _ (by omega),o2.2 _ (by omega)];exact g1
 simp only[cG,Option.bind_some,Xd,UJ,Qa,Qb,Qc,Qd,Qe,Qf,Qg,Qh,Qi,Qj,Qk,Ql,Qm,Qn,true_and,and_true,Qo,Qp,Qq,Qr,Qs,Qt,Qu,Qv,Qw,Qx,Qy,Qz,Ra,Rb,Rc,Rd,Re,Rf,Rg,Rh,Ri,Rj,Rk,Rm,Rn,Ro,Rp,Rq,Rt,Ya,Yb,Yc,Ru,Rw,Zb,Yd,Ye,Ry,Rz,Wa,Wb,Wc,Wd,We]
 generalize newObj s2 (.map 3 [])=s3 at *
 have st:=Ai (P:=Tryz.prog) (t:=56) (cs:=[.bool x,.slice a n c,.slice b m d,.map (some s2.next)]) GI g4 rfl rfl rfl (by simp)
 have ld:=AG (P:=Tryz.prog) (t:=56) (s:=setObj s3 s.next (R 56 0 false [.bool x,.slice a n c,.slice b m d,.map (some s2.next)])) (i:=s.next) H9 GI (Ww _ _ _) rfl
 have o13:=o1.trans ((o2.trans (o3.mono h2)).mono o1.1)
 simp only[st,ld,AO,Xy,Za,Qa,Qb,Qc,Qd,Qe,Qf,Qg,Qh,Qi,Qj,Qk,Ql,Qm,Qn,true_and,and_true,Qo,Qp,Qq,Qr,Qs,Qt,Qu,Qv,Qw,Qx,Qy,Qz,Ra,Rb,Rc,Rd,Re,Rf,Rg,Rh,Ri,Rj,Rk,Rm,Rn,Ro,Rp,Rq,Rt,Ya,Yb,Yc,Ru,Rw,Zb,Yd,Ye,Ry,Rz,Wa,Wb,Wc,Wd,We]
 refine hK _ _ s2.next (o13.set (qw _) _) ⟨_,_,_,_,_,_,_,rfl,((r2.old o3).set (by omega) _).mono (by omega),oe,⟨?_,by omega,by show s2.next<s3.next;omega,fun t ht=>(by cases ht),List.nodup_nil,.nil⟩,fun t ht=>by cases ht⟩
 rw[Wx _ (by omega)];exact g3
theorem aR(hE:GoodN E){va:AV}{a c o:Rat}{ka kc ko pc po:Nat}{cc co:List AV}(ha:QI s va a ka)(hc:QI s (.agg cc) c kc)(ho:QI s (.agg co) o ko)(gc:s.heap.get pc=some (R 26 0 false cc))(go:s.heap.get po=some (R 26 0 false co))(hpc:pc<s.next)(hpo:po<s.next)
  (hka:1≤ka) (hkc:1≤kc) (hko:1≤ko) (hk:2 * (ka+(kc+ko))+1≤1000000000) {K:AV→AE→Prop} (hK:∀s' v,Ae s.next s s'→QR s.next s' v (a+c * o)→K v s'):WF E 73 [va,.ptr (some (pc,0)),.ptr (some (po,0))] K s:=by
 have hcl:cc.length=3:=by obtain⟨_,_,_,_,_,_,_,e⟩:=hc.shape;injection e with e;rw[e];rfl
 have hol:co.length=3:=by obtain⟨_,_,_,_,_,_,_,e⟩:=ho.shape;injection e with e;rw[e];rfl
 have hqc:=hc.qh hkc
 have hqo:=ho.qh hko
 obtain⟨x1,a1,n1,c1,b1,m1,d1,rfl⟩:=ha.shape
 refine hE.go lX (by decide) rfl ?_
 obtain⟨n2,o1,g1,g2⟩:=D4 s (BQ x1 (.slice a1 n1 c1) (.slice b1 m1 d1)) ZQ
 simp only[qk,ik,il,Xa,Xh,Bb,Xc,Ap,Qa,Qb,Qc,Qd,Qe,Qf,Qg,Qh,Qi,Qj,Qk,Ql,Qm,Qn,true_and,and_true,Qo,Qp,Qq,Qr,Qs,Qt,Qu,Qv,Qw,Qx,Qy,Qz,Ra,Rb,Rc,Rd,Re,Rf,Rg,Rh,Ri,Rj,Rk,Rm,Rn,Ro,Rp,Rq,Rt,Ya,Yb,Yc,Ru,Rw,Zb,Yd,Ye,Ry,Rz,Wa,Wb,Wc,Wd,We]
 generalize newObj (newObj s (BQ x1 (.slice a1 n1 c1) (.slice b1 m1 d1))) ZQ=s1 at *
 have l1:=AG (P:=Tryz.prog) (t:=26) BH Ar g1 rfl
 have l2:=AG (P:=Tryz.prog) (t:=26) BH Ar ((o1.2 pc hpc).trans gc) hcl
 have l3:=AG (P:=Tryz.prog) (t:=26) BH Ar ((o1.2 po hpo).trans go) hol
 simp only[l1,l2,l3,Qa,Qb,Qc,Qd,Qe,Qf,Qg,Qh,Qi,Qj,Qk,Ql,Qm,Qn,true_and,and_true,Qo,Qp,Qq,Qr,Qs,Qt,Qu,Qv,Qw,Qx,Qy,Qz,Ra,Rb,Rc,Rd,Re,Rf,Rg,Rh,Ri,Rj,Rk,Rm,Rn,Ro,Rp,Rq,Rt,Ya,Yb,Yc,Ru,Rw,Zb,Yd,Ye,Ry,Rz,Wa,Wb,Wc,Wd,We]
 refine KJ hE (hc.old o1) (ho.old o1) hkc hko (by omega) fun s2 v2 o2 r2=>?_
 have h2:=o2.1
 have f1:=(o2.2 s.next (by omega)).trans g1
 refine⟨⟨Ak (by simp only[Qa,Qb,Qc,Qd,Qe,Qf,Qg,Qh,Qi,Qj,Qk,Ql,Qm,Qn,true_and,and_true,Qo,Qp,Qq,Qr,Qs,Qt,Qu,Qv,Qw,Qx,Qy,Qz,Ra,Rb,Rc,Rd,Re,Rf,Rg,Rh,Ri,Rj,Rk,Rm,Rn,Ro,Rp,Rq,Rt,Ya,Yb,Yc,Ru,Rw,Zb,Yd,Ye,Ry,Rz,Wa,Wb,Wc,Wd,We];exact AG BH Ar f1 rfl) (Cr _ _ _ _ _ _ _),trivial⟩,?_⟩
 simp only[Qa,Qb,Qc,Qd,Qe,Qf,Qg,Qh,Qi,Qj,Qk,Ql,Qm,Qn,true_and,and_true,Qo,Qp,Qq,Qr,Qs,Qt,Qu,Qv,Qw,Qx,Qy,Qz,Ra,Rb,Rc,Rd,Re,Rf,Rg,Rh,Ri,Rj,Rk,Rm,Rn,Ro,Rp,Rq,Rt,Ya,Yb,Yc,Ru,Rw,Zb,Yd,Ye,Ry,Rz,Wa,Wb,Wc,Wd,We]
 have o12:=o1.trans (o2.mono o1.1)
 refine KH hE (ha.old o12) (r2.qi (hqc.mul hqo)) hka (by omega) hk fun s3 v3 o3 r3=>?_
 obtain⟨x3,a3,n3,c3,b3,m3,d3,rfl⟩:=r3.shape
 obtain⟨st,ld⟩:=Bj (cs0:=[.bool false,.slice none 0 (some 0),.slice none 0 (some 0)]) rfl (x:=x3) (a:=a3) (n:=n3) (c:=c3) (b:=b3) (m:=m3) (d:=d3) ((o3.2 (s.next+1) (by omega)).trans ((o2.2 (s.next+1) (by omega)).trans g2))
 simp only[st,ld,AO,Xy,Za,Qa,Qb,Qc,Qd,Qe,Qf,Qg,Qh,Qi,Qj,Qk,Ql,Qm,Qn,true_and,and_true,Qo,Qp,Qq,Qr,Qs,Qt,Qu,Qv,Qw,Qx,Qy,Qz,Ra,Rb,Rc,Rd,Re,Rf,Rg,Rh,Ri,Rj,Rk,Rm,Rn,Ro,Rp,Rq,Rt,Ya,Yb,Yc,Ru,Rw,Zb,Yd,Ye,Ry,Rz,Wa,Wb,Wc,Wd,We]
 exact hK _ _ ((o12.trans (o3.mono o12.1)).set (by omega) _) ((r3.set (by omega) _).mono (by omega))
end
theorem N4:Tryz.prog.follows .mixedOrders=true:=by kernel_rfl
theorem LM:LL Tryz.prog=true:=by kernel_rfl
theorem MX:GoodN (oo Tryz.prog):=⟨rfl,fun _ _ _ _=>rfl⟩
def cI:List AV→Option (List Nat)
 | []=>some []
 | .int .u32 (.ofNat x)::l=>AL (Nat.blt x LB) ((cI l).bind fun r=>some (x::r))
 | _=>none
theorem Td:∀ {cs:List AV}{l:List Nat},cI cs=some l→cs=us l∧Bv l
 | [],l,h=>by
  injection h with h
  subst h
  exact⟨rfl,fun x hx=>by cases hx⟩
 | v::cs,l,h=>by
  unfold cI at h
  split at h
  ·rename_i e;cases e
  ·rename_i x l' e
   injection e with e1 e2
   subst e1;subst e2
   obtain⟨h1,h2⟩:=AD h
   simp only[qv]at h2
   obtain⟨r,h3,h4⟩:=h2
   injection h4 with h4
   subst h4
   obtain⟨h5,h6⟩:=Td h3
   refine⟨by rw[h5];rfl,fun y hy=>?_⟩
   rcases tN.1 hy with rfl | hy
   ·simpa[rN]using h1
   ·exact h6 y hy
  ·cases h
def Lf(s:AE):AV→Option (List Nat)
 | .slice none n (some c)=>AL (Nat.beq n 0 && Nat.beq c 0) (some [])
 | .slice (some (i,o)) n cap=>AL (Nat.blt i s.next) <| (rowAt s i).bind fun r=>AL (Nat.ble (o+n) r.n && (match cap with | some c=>Nat.ble n c | none=>Nat.beq r.sz 1)) <| (r.c.take o n).bind cI
 | _=>none
theorem bs{s:AE}{i:Nat}{r:Dh}(h:s.heap.get i=some (.row r)):(frz s.next s.heap).heap.get i=some (.row { r with mode:=.ro,par:=none }):=by
 unfold frz
 simp only[AW.get_mapO,h]
 rfl
theorem Gn       {s : AE}  {v : AV} {l : List Nat} (h : Lf    s v = some l) : C7  (frz s.next s.heap) v l ∧ Bv  l := by
  unfold Lf at h
  split at h
  · obtain⟨h1,h2⟩:=AD h
    simp only[Bool.and_eq_true]at h1
    injection h2 with h2
    subst h2
    have e1:=rJ h1.1
    have e2:=rJ h1.2
    subst e1;subst e2
    exact⟨⟨none,some 0,rfl,.inl ⟨0,rfl,qw _,fun _=>rfl⟩,AZ.nil⟩,fun x hx=>by cases hx⟩
  · rename_i i o n cap
    obtain⟨h1,h2⟩:=AD h
    simp only[qv]at h2
    obtain⟨r,h3,h4⟩:=h2
    obtain⟨h5,h6⟩:=AD h4
    simp only[qv]at h6
    obtain⟨cs,h7,h8⟩:=h6
    obtain⟨rfl,hsm⟩:=Td h8
    simp only[Bool.and_eq_true]at h5
    have hle:o+n≤r.n:=by simpa[rC]using h5.1
    have hlt:i<s.next:=by simpa[rN]using h1
    have hlen:l.length=n:=by have:=AW.take_length h7;rw[CY]at this;exact this
    have hg:=bs (BY h3)
    refine⟨⟨some (i,o),cap,by rw[hlen],?_,fun k u hk=>⟨i,o,rfl,hlt,?_⟩⟩,hsm⟩
    · rw[hlen]
      cases cap with
      | some c=>exact .inl ⟨c,rfl,by simpa[rC]using h5.2,fun e=>by cases e⟩
      | none=>exact .inr ⟨rfl,i,o,_,rfl,hlt,hg,rJ h5.2,hle⟩
    · have hkn:k<n:=by
        rw[← hlen,← CY]
        rcases qz k (us l).length with h' | h'
        · exact h'
        · rw[rI h']at hk;cases hk
      have:=AW.take_get h7 k hkn
      unfold Cm rowAt
      rw[hg]
      simp only[Option.bind_some,AL,show Nat.blt (o+k) r.n=true from by simp[rN];omega,cond_true]
      rw[this];exact hk
  · cases h
def Lg(s:AE):AV→Option Rat
 | .agg [.bool neg,m,d]=>(Lf s m).bind fun lm=>(Lf s d).bind fun ld=>AL (Nat.ble lm.length 1000 && Nat.ble ld.length 1000) (some (JH neg (AH lm) (AH ld)))
 | _=>none
theorem Gp{s:AE}{v:AV}{q:Rat}(h:Lg s v=some q):QI (frz s.next s.heap) v q 1000:=by
 unfold Lg at h
 split at h
 ·rename_i neg m d
  simp only[qv]at h
  obtain⟨lm,h1,ld,h2,h3⟩:=h
  obtain⟨h4,h5⟩:=AD h3
  injection h5 with h5
  simp only[Bool.and_eq_true,rC]at h4
  obtain⟨q1,q2⟩:=Gn h1
  obtain⟨q3,q4⟩:=Gn h2
  exact⟨neg,m,d,lm,ld,rfl,q1,q3,q2,q4,h4.1,h4.2,h5⟩
 ·cases h
def Nq:Nat→Nat→List Nat
 | 0,_=>[]
 | f+1,n=>bif Nat.beq n 0 then []else n % LB::Nq f (n / LB)
theorem KD:∀ (f n:Nat),n<LB ^ f→Nq f n=AQ n
 | 0,n,h=>by
  have:n=0:=by simpa using h
  rw[this,BJ];rfl
 | f+1,n,h=>by
  unfold Nq
  by_cases h0:n=0
  ·subst h0;rw[BJ];rfl
  ·rw[show Nat.beq n 0=false from ED h0,cond_false,En h0,KD f (n / LB) (by rw[sK BG];rwa[sP]at h)]
def Ul(s:AE)(q:Rat):Option (AV×AE):=
 AL (Nat.blt q.num.natAbs (LB ^ 8) && Nat.blt q.den (LB ^ 8)) (some (.agg [.bool (Lz q.num 0),(Hs s (Nq 8 q.num.natAbs)).1,(Hs (Hs s (Nq 8 q.num.natAbs)).2 (Nq 8 q.den)).1],(Hs (Hs s (Nq 8 q.num.natAbs)).2 (Nq 8 q.den)).2))
theorem NR.slotV{b:Nat}{s:AE}{v:AV}{l:List Nat}(h:NR b s v l)(h0:l=[]→v=.slice none 0 (some 0)):KP b s v l:=by
 by_cases hl:l=[]
 ·exact .inl ⟨hl,h0 hl⟩
 ·refine .inr ⟨hl,?_⟩
  have h1:=h
  obtain⟨O,_,_,q3,q4⟩:=h
  obtain⟨i,rfl,hi,r,hg,hh,hm,hsz,_⟩:=q4 hl
  obtain⟨r',hg',hel⟩:=h1.u32 hl (j:=i) rfl
  rw[hg]at hg'
  injection hg' with hg'
  injection hg' with hg'
  subst hg'
  exact⟨i,rfl,q3 i rfl,r,hg,hh,hm,hsz,hel⟩
theorem KP.obj{b:Nat}{s:AE}{v:AV}{l:List Nat}(h:KP b s v l){i:Nat}(hi:CH v=some i):∃o,s.heap.get i=some o∧wr o=true∧b≤i:=by
 rcases h with⟨_,rfl⟩ | ⟨_,j,rfl,hb,r,hg,_,hm,_⟩
 ·cases hi
 ·injection hi with hi
  subst hi
  exact⟨_,hg,hm,hb⟩
section
variable{ρ:BD}{s:AE}{w:World}
theorem TX{f:FuncId}{xs:List AV}{xs':Array Value}(h:BO Tryz.prog ρ s w)(hf:Ay ρ s)(hxs:AT ρ xs xs'.toList){K:AV→AE→Prop}(hw:WF (oo Tryz.prog) f xs K (frz s.next s.heap)){Q:Ending→World→Prop}
  (hQ:∀v0 s0 ρ' v' w',K v0 s0→AY ρ' v0 v'→BO Tryz.prog ρ' s0 w'→BO Tryz.prog ρ s w'→Fr ρ s w ρ s w'→(∀i o rb,s0.heap.get i=some o→wr o=true→ρ' i=some rb→w.heap.size≤rb.b)→Q (.returned v') w'):
  (∃fn c,Tryz.prog.funcs[f]? = some fn∧fn.body=some c)∧CallsIn Fence.wide 0 Tryz.prog f xs' w Q:=by
 obtain⟨n,p,hrun,hK⟩:=hw
 have hcall:=(pg N4 (Hm LM) rfl (ZO Tryz.prog) n).call ρ (frz s.next s.heap) w f xs p.1 p.2 xs' hrun (h.frz _) hf.frz hxs
 refine⟨hcall.1,CallsIn.mono hcall.2 ?_⟩
 intro e w' he
 cases e with
 | panicked c=>exact he.elim
 | outgrown=>exact he.elim
 | returned v' =>
  obtain⟨ρ',k1,k2,k3⟩:=he
  obtain⟨g1,g2⟩:=h.grown (w1:=w') ⟨k3.os,k3.tape,k3.output,k3.size,fun b hb _=>k3.keep b hb (I5 Tryz.prog _ _ b)⟩
  refine hQ p.1 p.2 ρ' v' w' hK k1 k2 g1 g2 fun i o rb hi hwr hr=>?_
  rcases k3.own rb.b ⟨i,o,rb,hi,hwr,hr,rfl⟩with h' | h'
  ·exact absurd h' (I5 Tryz.prog _ _ _)
  ·exact h'
theorem Id{f:FuncId}{xs:List AV}{xs':Array Value}(h:BO Tryz.prog ρ s w)(hf:Ay ρ s)(hxs:AT ρ xs xs'.toList){q:Rat}(hw:WF (oo Tryz.prog) f xs (fun v s'=>QR s.next s' v q) (frz s.next s.heap)){v:AV}{s1:AE}(hp:Ul s q=some (v,s1)):
    (∃fn c,Tryz.prog.funcs[f]? = some fn∧fn.body=some c)∧CallsIn Fence.wide 0 Tryz.prog f xs' w (FB Tryz.prog ρ s w v s1):=by
  refine TX h hf hxs hw fun v0 s0 ρ' v' w' hK hv hi hs hfr hge=>?_
  obtain⟨g1,g2⟩:=AD hp
  simp only[Bool.and_eq_true,rN]at g1
  rw[KD 8 _ g1.1,KD 8 _ g1.2]at g2
  injection g2 with g2
  injection g2 with e1 e2
  obtain⟨m,d,rfl,hm,hd,hdj,hz⟩:=hK
  have sm:KP s.next s0 m (AQ q.num.natAbs):=hm.slotV fun e=>hz (by
    rcases sE q.num.natAbs with h' | h'
    · omega
    · exact absurd e (Bs (by omega)))
  have sd:KP s.next s0 d (AQ q.den):=hd.slotV fun e=>absurd e (Bs q.den_nz)
  cases hv with
  | agg hv =>
  rename_i cs'
  obtain⟨lc⟩:=cs'
  cases hv with
  | cons hb hv =>
  cases hv with
  | cons hvm hv =>
  cases hv with
  | cons hvd hv =>
  cases hv
  obtain⟨ρ1,a1,a2,a3,a4,a5,a6⟩:=Lc (w0:=w) sm hi hvm (fun i o rb _ hio hwo hr=>hge i o rb hio hwo hr) hs (hf.step hfr) hfr (fun i rb hsl hr j oj rj hj hrj=>by
    obtain⟨o,hg,hwo,_⟩:=sm.obj hsl
    have h1:=hge i o rb hg hwo hr
    have h2:=h.lt j rj hrj
    omega)
  obtain⟨ρ2,b1,b2,b3,b4,b5,_⟩:=Lc (w0:=w) sd hi hvd (fun i o rb _ hio hwo hr=>hge i o rb hio hwo hr) a1 a2 a3 (fun i rb hsl hr j oj rj hj hrj=>by
    obtain⟨o,hg,hwo,_⟩:=sd.obj hsl
    rcases a6 j oj rj hj hrj with⟨o1,_,h2⟩ | ⟨i2,rb2,hs2,hr2,e⟩
    · have h1 := hge i o rb hg hwo hr
      have h3:=h.lt j rj h2
      omega
    · obtain⟨o2,hg2,hwo2,_⟩:=sm.obj hs2
      intro hbb
      have hne:i≠i2:=fun e=>by subst e;exact hdj i hs2 hsl
      have:=(hi.sep i i2 o o2 rb rb2 hne hg hg2 hr hr2 (by rw[← hbb,e]) hwo2).2
      rw[hwo]at this
      cases this)
  subst e1;subst e2
  refine⟨ρ2,.agg (.cons ?_ (.cons (a5.mono b4) (.cons b5 .nil))),b1,b3⟩
  rw[Cw]
  exact Em rfl hb
end
def jo(s:AE):List AV→Option (AV×AE)
 | [x,y]=>(Lg s x).bind fun a=>(Lg s y).bind fun b=>Ul s (a+b)
 | _=>none
def jp(s:AE):List AV→Option (AV×AE)
 | [x,y]=>(Lg s x).bind fun a=>(Lg s y).bind fun b=>Ul s (a * b)
 | _=>none
def ZG(s:AE):List AV→Option (AV×AE)
 | [x]=>(Lg s x).bind fun a=>Ul s a
 | _=>none
def jq(s:AE):List AV→Option (AV×AE)
 | [.agg [.bool neg,m],d]=>(Lf s m).bind fun lm=>(Lf s d).bind fun ld=>AL (Nat.ble lm.length 1000 && Nat.ble ld.length 1000 && Nat.blt 0 (AH ld)) (Ul s (mkRat (Cj neg (AH lm)) (AH ld)))
 | _=>none
def ZF(s:AE):List AV→Option (AV×AE)
 | [.int .i64 n]=>bif L4 n 0 || (L4 n 1 || L4 n (-1))then Ul s (n:Rat)else none
 | _=>none
def ZH(s:AE):List AV→Option (AV×AE)
 | [v]=>(Lf s v).bind fun l=>AL (Nat.ble l.length 1000 && Nat.blt 0 (AH l) && Nat.blt (AH l) (LB ^ 8)) (some (Hs s (Nq 8 (AH l))))
 | _=>none
def mM:OT:=fun f xs s =>
 bif Nat.beq f 27 then jo s xs else bif Nat.beq f 29 then jp s xs else bif Nat.beq f 69 then ZG s xs else
 bif Nat.beq f 70 then jq s xs else bif Nat.beq f 52 then ZF s xs else bif Nat.beq f 92 then ZH s xs else none
section
variable{ρ:BD}{s:AE}{w:World}
theorem cR{f:FuncId}{xs:List AV}{xs':Array Value}(h:BO Tryz.prog ρ s w)(hf:Ay ρ s)(hxs:AT ρ xs xs'.toList){l:List Nat}(hl:l≠[])(hw:WF (oo Tryz.prog) f xs (fun v s'=>NR s.next s' v l) (frz s.next s.heap)):
  (∃fn c,Tryz.prog.funcs[f]? = some fn∧fn.body=some c)∧CallsIn Fence.wide 0 Tryz.prog f xs' w (FB Tryz.prog ρ s w (Hs s l).1 (Hs s l).2):=by
 refine TX h hf hxs hw fun v0 s0 ρ' v' w' hK hv hi hs hfr hge=>?_
 have sm:KP s.next s0 v0 l:=hK.slotV fun e=>absurd e hl
 obtain⟨ρ1,a1,a2,a3,a4,a5,a6⟩:=Lc (w0:=w) sm hi hv (fun i o rb _ hio hwo hr=>hge i o rb hio hwo hr) hs (hf.step hfr) hfr (fun i rb hsl hr j oj rj hj hrj=>by
  obtain⟨o,hg,hwo,_⟩:=sm.obj hsl
  have h1:=hge i o rb hg hwo hr
  have h2:=h.lt j rj hrj
  omega)
 exact⟨ρ1,a5,a1,a3⟩
theorem cK      : EN     Tryz.prog mM   := by
  intro ρ s w f xs v s1 xs' hc h hf ha
  unfold mM at hc
  have nx:(frz s.next s.heap).next=s.next:=rfl
  cases h1:Nat.beq f 27 with
  | true =>
    rw[h1]at hc
    have:=rJ h1
    subst this
    rw[cond_true]at hc
    unfold jo at hc
    split at hc
    · simp only[qv]at hc
      obtain⟨a,ha',b,hb',hp⟩:=hc
      exact Id h hf ha (KH MX (Gp ha') (Gp hb') (by decide) (by decide) (by decide) fun s' v _ hv=>hv) hp
    · cases hc
  | false =>
  rw[h1,cond_false]at hc
  cases h2:Nat.beq f 29 with
  | true =>
    rw[h2]at hc
    have:=rJ h2
    subst this
    rw[cond_true]at hc
    unfold jp at hc
    split at hc
    · simp only[qv]at hc
      obtain⟨a,ha',b,hb',hp⟩:=hc
      exact Id h hf ha (KJ MX (Gp ha') (Gp hb') (by decide) (by decide) (by decide) fun s' v _ hv=>hv) hp
    · cases hc
  | false =>
  rw[h2,cond_false]at hc
  cases h3:Nat.beq f 69 with
  | true =>
    rw[h3]at hc
    have:=rJ h3
    subst this
    rw[cond_true]at hc
    unfold ZG at hc
    split at hc
    · simp only[qv]at hc
      obtain⟨a,ha',hp⟩:=hc
      exact Id h hf ha (Gm MX (Gp ha') (by decide) fun s' v _ hv=>hv) hp
    · cases hc
  | false =>
  rw[h3,cond_false]at hc
  cases h4:Nat.beq f 70 with
  | true =>
    rw[h4]at hc
    have:=rJ h4
    subst this
    rw[cond_true]at hc
    unfold jq at hc
    split at hc
    · simp only[qv]at hc
      obtain⟨lm,hm,ld,hd,hp⟩:=hc
      obtain⟨hg,hp⟩:=AD hp
      simp only[Bool.and_eq_true,rC,rN]at hg
      obtain⟨⟨g1,g2⟩,g3⟩:=hg
      obtain⟨m1,m2⟩:=Gn hm
      obtain⟨d1,d2⟩:=Gn hd
      exact Id h hf ha (D7 MX (kn:=1000) ⟨_,_,lm,rfl,m1,m2,g1,rfl⟩ d1 (by decide) (by omega) d2 (by omega) fun s' v _ hv=>hv) hp
    · cases hc
  | false =>
  rw[h4,cond_false]at hc
  cases h5:Nat.beq f 52 with
  | true =>
    rw[h5]at hc
    have:=rJ h5
    subst this
    rw[cond_true]at hc
    unfold ZF at hc
    split at hc
    · rename_i n
      cases hn:L4 n 0 || (L4 n 1 || L4 n (-1))with
      | false=>rw[hn]at hc;cases hc
      | true =>
        rw[hn,cond_true]at hc
        simp only[Bool.or_eq_true,ER,beq_iff_eq]at hn
        exact Id h hf ha (FZ MX hn fun s' v _ hv=>hv) hc
    · cases hc
  | false =>
  rw[h5,cond_false]at hc
  cases h6:Nat.beq f 92 with
  | true =>
    rw[h6]at hc
    have:=rJ h6
    subst this
    rw[cond_true]at hc
    unfold ZH at hc
    split at hc
    · simp only[qv]at hc
      obtain⟨l,hl,hp⟩:=hc
      obtain⟨hg,hp⟩:=AD hp
      simp only[Bool.and_eq_true,rC,rN]at hg
      obtain⟨⟨g1,g2⟩,g3⟩:=hg
      obtain⟨l1,l2⟩:=Gn hl
      rw[KD 8 _ g3]at hp
      injection hp with hp
      have e1:(Hs s (AQ (AH l))).1=v:=by rw[hp]
      have e2:(Hs s (AQ (AH l))).2=s1:=by rw[hp]
      rw[← e1,← e2]
      refine cR h hf ha (Bs (by omega)) (Cc MX l1 (by omega) fun s' v' _ hv=>?_)
      rw[Br l2]at hv
      exact hv
    · cases hc
  | false =>
    rw[h6]at hc
    cases hc
end
end
end Go.Proofs.YtjnkfbpadpmakaaGreatDoor.Am
set_option linter.unusedVariables false
set_option linter.unusedSimpArgs false
namespace Go.Proofs.YtjnkfbpadpmakaaGreatDoor.Am
open Go Go.Proofs Go.RowKit
noncomputable section
theorem Zw(m:Nat):AnyZI.SortsIn Tryz.prog Gf Fence.wide m:=
  ⟨fun blk off cap ss W hH hblk hsz=>callsIn_wide.2 (AnyM.slices_Sort_int Pb blk off cap ss W hH hblk hsz),
   fun p cap W=>callsIn_wide.2 (AnyM.slices_Sort_int_none Pb p cap W)⟩
theorem cY:So Tryz.prog 78 121 3 3:=by
  refine⟨fun Bm b nn D0 w hBm hm hown hsz=>?_,fun Bm w hBm hm=>?_⟩
  · have hseq := AnyZI.keys_gives (ρ := Fq)           { Pa       with } Fence.wide 2 trivial rfl (by omega) Bm b nn D0 w hBm hm hown
    have cS:=AnyZI.sorted_in K0 Fence.wide 5 trivial trivial trivial trivial rfl (by omega) (Zw _) (enters_of Tryz.func120 (by kernel_rfl) rfl) 121 #[.pointer (some ⟨Bm,0,none⟩)] trivial (enters_of Tryz.func121 (by kernel_rfl) rfl) _ _ (rD hsz (by unfold maxLen;omega)) (by omega) _ hseq
    exact callsIn_wide.1 cS
  · have hseq := AnyZI.keys_gives_nil (ρ := Fq)           { Pa       with } Fence.wide 2 trivial rfl Bm w hBm hm
    have cS:=AnyZI.sorted_in K0 Fence.wide 5 trivial trivial trivial trivial rfl (by omega) (Zw _) (enters_of Tryz.func120 (by kernel_rfl) rfl) 121 #[.pointer (some ⟨Bm,0,none⟩)] trivial (enters_of Tryz.func121 (by kernel_rfl) rfl) _ 0 (rB _) (by omega) _ hseq
    refine(callsIn_wide.1 cS).mono ?_
    rintro e w' ⟨v,ss,rfl,hS,_,hnil,hb⟩
    rw[hnil.2 hS]
    exact⟨rfl,hb⟩
def SH:OT:=fun f xs s=>bif Nat.beq f 78 then Fd 121 3 3 s xs else none
theorem Th:EN Tryz.prog SH:=by
 intro ρ s w f xs v s1 xs' hc hi hf ha
 unfold SH at hc
 cases h2:Nat.beq f 78 with
 | true =>
  rw[h2]at hc
  have:=rJ h2
  subst this
  exact⟨⟨_,_,Tryz.func78,rfl⟩,QB (by kernel_rfl) Tryz.underlying3 cY hi hf hc ha⟩
 | false=>rw[h2]at hc;cases hc
def mN:OT:=fun f xs s=>match SH f xs s with
 | some p=>some p
 | none=>mM f xs s
theorem cL:EN Tryz.prog mN:=by
 intro ρ s w f xs v s1 xs' hc hi hf ha
 unfold mN at hc
 cases h:SH f xs s with
 | some p=>rw[h]at hc;injection hc with hc;subst hc;exact Th ρ s w f xs v s1 xs' h hi hf ha
 | none=>rw[h]at hc;exact cK ρ s w f xs v s1 xs' hc hi hf ha
def pW:CR:=⟨Tryz.prog,mN⟩
end
end Go.Proofs.YtjnkfbpadpmakaaGreatDoor.Am
set_option linter.unusedVariables false
set_option linter.unusedSimpArgs false
namespace Go.Proofs.YtjnkfbpadpmakaaGreatDoor.Am
open Go
noncomputable section
def KG(fs:List FuncId)(T:List Row):OT:=fun f xs s=>bif fs.any (Nat.beq f)then (TV T f xs).bind fun r=>some (r,s)else none
theorem SI         {P : Program} (hm : P.follows .mixedOrders = true) (hng : Ed      P) {E : CR}  (hE : E.P = P) (hnat : EN     P E.nat) {n : Nat} {fs : List FuncId} {T : List Row}
    (hT:∀r∈T,I4 r.args=true∧MU r.res=true∧jz r.res ((D8 E n).call r.f r.args ⟨0,.leaf⟩)=true):EN P (KG fs T):=by
  intro ρ s w f xs v s1 as' hc h hf ha
  unfold KG at hc
  cases hfs:fs.any (Nat.beq f)with
  | false=>rw[hfs]at hc;cases hc
  | true =>
    rw[hfs]at hc
    simp only[cond_true,qv]at hc
    obtain⟨u,hu,hc⟩:=hc
    injection hc with hc
    injection hc with e1 e2
    subst e1;subst e2
    obtain⟨r,hr,rfl,rfl,rfl⟩:=Ku hu
    obtain⟨p1,p2,p3⟩:=hT r hr
    cases hrun:(D8 E n).call r.f r.args ⟨0,.leaf⟩with
    | none=>rw[hrun]at p3;cases p3
    | some p =>
      obtain⟨v0,s2⟩:=p
      rw[hrun]at p3
      have hv0:r.res=v0:=Kn (show FJ r.res v0=true from p3)
      subst hv0
      let ρ0:BD:=fun _=>none
      have hinv:BO P ρ0 ⟨0,.leaf⟩ w:=
        ⟨fun i o x hi hx=>(by cases hx),fun i x hx=>(by cases hx),fun i j oi oj ri rj hne hi hj hri hrj=>(by cases hri),fun i o g' hi _=>(by cases (show(AW.leaf:AW BC).get i=some o from hi))⟩
      have hfr:Ay ρ0 ⟨0,.leaf⟩:=fun i hi=>⟨rfl,rfl⟩
      have hcall:=(pg hm hng hE hnat n).call ρ0 ⟨0,.leaf⟩ w r.f r.args r.res s2 as' hrun hinv hfr (Hh p1 ha)
      refine⟨hcall.1,CallsIn.mono hcall.2 ?_⟩
      intro e w' he
      cases e with
      | panicked c=>exact he.elim
      | outgrown=>exact he.elim
      | returned v' =>
        obtain⟨ρ',k1,k2,k3⟩:=he
        have hno:∀b,¬ GA ρ0 (⟨0,.leaf⟩:AE) b:=by
          rintro b ⟨i,o,x,hi,hw,hx,_⟩
          cases hx
        obtain⟨g1,g2⟩:=h.grown (w1:=w') ⟨k3.os,k3.tape,k3.output,k3.size,fun b hb' _=>k3.keep b hb' (hno b)⟩
        exact⟨ρ,Em p2 k1,g1,g2⟩
end
end Go.Proofs.YtjnkfbpadpmakaaGreatDoor.Am
