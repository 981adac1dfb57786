/- Package rat: values; one, reduced, walked; conditions: none. -/
import Derived.Test.YtfgmceookgelcaaGreatDoorAmM07
import Derived.Test.YtfgmceookgelcaaGreatDoorAmM04
import Derived.Lib.SlKeysI
import Derived.Test.YtfgmceookgelcaaGreatDoorAmM06
import Derived.Test.YtfgmceookgelcaaGreatDoorChecked
set_option linter.unusedVariables false
set_option linter.unusedSimpArgs false
set_option maxRecDepth 16000
namespace Go.Proofs.YtfgmceookgelcaaGreatDoor.Am
open Go Go.Proofs
noncomputable section
theorem ZX(x:Bool)(a b:Option (Nat×Nat))(n m:Nat)(c d:Option Nat):FA Tryz.prog 63 (zipIdx [0,1] [.agg [.bool x,.slice a n c],.slice b m d])=some (.agg [.bool x,.slice a n c,.slice b m d]):=by kernel_rfl
abbrev ZQ:AX:=R 63 0 false [.bool false,.slice none 0 (some 0),.slice none 0 (some 0)]
abbrev BQ(x:Bool)(m d:AV):AX:=R 63 0 false [.bool x,m,d]
theorem DD:Ar Tryz.prog 63=some (ZQ,.ptr):=by kernel_rfl
theorem Xe(x:Bool)(a b:Option (Nat×Nat))(n m:Nat)(c d:Option Nat):EV (.agg [.bool x,.slice a n c,.slice b m d]) (.agg [.bool x,.slice a n c,.slice b m d])=true:=by
 cases a<;>cases b<;>cases c<;>cases d<;>cases x<;>simp[EV,EV.eqAs]
def QI(s:AE)(v:AV)(q:Rat)(k:Nat):Prop:=∃neg m d lm ld,v=.agg [.bool neg,m,d]∧CW s m lm∧CW s d ld∧BV lm∧BV ld∧lm.length≤k∧ld.length≤k∧My neg (AD lm) (AD ld)=q
def QR(b:Nat)(s:AE)(v:AV)(q:Rat):Prop:=∃m d,v=.agg [.bool (decide (q.num<0)),m,d]∧NR b s m (AI q.num.natAbs)∧NR b s d (AI q.den)∧(∀j,C8 m=some j→C8 d≠some j)∧(q.num=0→m=.slice none 0 (some 0))
def QH(q:Rat)(k:Nat):Prop:=q.num.natAbs<LB ^ k∧q.den<LB ^ k
theorem QI.old{s s':AE}{v:AV}{q:Rat}{k:Nat}(h:QI s v q k)(o:A8 s.next s s'):QI s' v q k:=by
 obtain⟨neg,m,d,lm,ld,h1,h2,h3,h4⟩:=h
 exact⟨neg,m,d,lm,ld,h1,h2.old o,h3.old o,h4⟩
theorem QI.shape{s:AE}{v:AV}{q:Rat}{k:Nat}(h:QI s v q k):∃x a n c b m d,v=.agg [.bool x,.slice a n c,.slice b m d]:=by
 obtain⟨neg,m,d,lm,ld,rfl,h2,h3,_⟩:=h
 obtain⟨a,n,c,rfl⟩:=h2.shape
 obtain⟨b,m,d,rfl⟩:=h3.shape
 exact⟨_,_,_,_,_,_,_,rfl⟩
theorem NR.lt{b:Nat}{s:AE}{v:AV}{l:List Nat}(h:NR b s v l){j:Nat}(hj:C8 v=some j):b≤j∧j<s.next:=by
 obtain⟨O,q1,_,q,_⟩:=h
 refine⟨q j hj,?_⟩
 rcases q1 with⟨a,rfl,_,_,_,h5⟩ | ⟨i,p,rfl,h6,_⟩
 ·cases a with
  | none=>cases hj
  | some io=>obtain⟨i,o⟩:=io;injection hj with hj;subst hj;exact(h5 i o rfl).1
 ·injection hj with hj
  subst hj
  rcases h6.ex with⟨e',_⟩ | ⟨_,_,k2,_⟩
  ·cases e'
  ·exact k2
theorem QR.keep{b:Nat}{s s':AE}{v:AV}{q:Rat}(h:QR b s v q)(hn:s.next≤s'.next)(hf:∀j,b≤j→j<s.next→s'.heap.get j=s.heap.get j):QR b s' v q:=by
 obtain⟨m,d,h1,h2,h3,h4⟩:=h
 exact⟨m,d,h1,h2.keep hn fun j hj=>hf j (h2.lt hj).1 (h2.lt hj).2,h3.keep hn fun j hj=>hf j (h3.lt hj).1 (h3.lt hj).2,h4⟩
theorem QR.old{b:Nat}{s s':AE}{v:AV}{q:Rat}(h:QR b s v q)(o:A8 s.next s s'):QR b s' v q:=h.keep o.1 fun j _ hj=>o.2 j hj
theorem QR.set{b i:Nat}{s:AE}{v:AV}{q:Rat}(h:QR b s v q)(hi:i<b)(o:AX):QR b (setObj s i o) v q:=h.keep (fu _) fun j hj _=>Ww _ (by omega)
theorem QR.mono{b b':Nat}{s:AE}{v:AV}{q:Rat}(h:QR b s v q)(k:b'≤b):QR b' s v q:=by
 obtain⟨m,d,h1,h2,h3,h4⟩:=h
 exact⟨m,d,h1,h2.mono k,h3.mono k,h4⟩
theorem QR.qi{b k:Nat}{s:AE}{v:AV}{q:Rat}(h:QR b s v q)(hq:QH q k):QI s v q k:=by
 obtain⟨m,d,h1,h2,h3,_⟩:=h
 exact⟨_,m,d,_,_,h1,h2.n32,h3.n32,AR _,AR _,BH hq.1,BH hq.2,by rw[AY,AY];exact bj q⟩
theorem QR.shape{b:Nat}{s:AE}{v:AV}{q:Rat}(h:QR b s v q):∃x a n c b m d,v=.agg [.bool x,.slice a n c,.slice b m d]:=by
 obtain⟨m,d,rfl,h2,h3,_⟩:=h
 obtain⟨a,n,c,rfl⟩:=h2.n32.shape
 obtain⟨b,m,d,rfl⟩:=h3.n32.shape
 exact⟨_,_,_,_,_,_,_,rfl⟩
theorem QI.qh{s:AE}{v:AV}{q:Rat}{k:Nat}(h:QI s v q k)(hk:1≤k):QH q k:=by
  obtain⟨neg,m,d,lm,ld,rfl,h2,h3,h4,h5,h6,h7,rfl⟩:=h
  constructor
  · rw[KY,Int.natAbs_ediv_of_dvd (Int.ofNat_dvd_left.2 (by rw[DU];exact Nat.gcd_dvd_left _ _)),DU]
    exact gm (iR _ _) (GE h4 h6)
  · rw [OO]
    refine gm (iR _ _) ?_
    unfold Di
    split
    · exact Ha (j:=1) (by decide) hk
    · exact GE h5 h7
theorem X0(neg:Bool)(m g:Nat)(h:g ∣ m):B1 neg (m / g)=B1 neg m / (g:Int):=by
 unfold B1
 cases neg with
 | false=>rw[if_neg (by decide),if_neg (by decide)];exact Int.natCast_ediv m g
 | true=>rw[if_pos rfl,if_pos rfl,Int.neg_ediv_of_dvd (Int.natCast_dvd_natCast.2 h),Int.natCast_ediv]
theorem YA(z:Int){D:Nat}(hD:D≠0):(mkRat z D).num=B1 (decide (z<0)) (z.natAbs / z.natAbs.gcd D):=by
 rw[← Mz hD _ _ (Fk z),KY,X0 _ _ _ (Nat.gcd_dvd_left _ _)]
 unfold Di
 rw[if_neg hD]
theorem dJ(z:Int){D:Nat}(hD:D≠0):(mkRat z D).den=D / z.natAbs.gcd D:=by
 rw[← Mz hD _ _ (Fk z),OO]
 unfold Di
 rw[if_neg hD]
section
variable{E:Cg}{s:AE}
theorem YU(hE:An E){K:AV→AE→Prop}(hK:∀s' v,A8 s.next s s'→NR s.next s' v (AI 1)→K v s'):WF E 129 [] K s:=by
 refine hE.go Zk (by decide) rfl ?_
 simp only[dy,UE,UF,Qa,Qb,Qc,Qd,Qe,Qf,Qg,Qh,Qi,Qj,Qk,Ql,Qm,Qn,true_and,and_true,Qo,Qp,Qq,Qr,Qs,Qt,Qu,Qv,Qw,Qx,Qy,Qz,Ra,Rb,Rc,Rd,Re,Rf,Rg,Rh,Ri,Rj,Rk,Rm,Rn,Ro,Rp,Rq,Rs,Ya,Yb,Yc,Rt,Ru,Za,Yd,Ye,Rx,Ry,Rz,Wa,Wb,Wc,Wd]
 refine SR hE (n:=1) (by decide) fun s' v' o r=>?_
 simp only[Qa,Qb,Qc,Qd,Qe,Qf,Qg,Qh,Qi,Qj,Qk,Ql,Qm,Qn,true_and,and_true,Qo,Qp,Qq,Qr,Qs,Qt,Qu,Qv,Qw,Qx,Qy,Qz,Ra,Rb,Rc,Rd,Re,Rf,Rg,Rh,Ri,Rj,Rk,Rm,Rn,Ro,Rp,Rq,Rs,Ya,Yb,Yc,Rt,Ru,Za,Yd,Ye,Rx,Ry,Rz,Wa,Wb,Wc,Wd]
 exact hK s' v' o r
theorem DT{s2:AE}{p:Nat}{cs0:List AV}(h0:cs0.length=3){x:Bool}{a b:Option (Nat×Nat)}{n m:Nat}{c d:Option Nat}(hg:s2.heap.get p=some (R 63 0 false cs0)):
  AZ Tryz.prog s2 63 (.ptr (some (p,0))) (.agg [.bool x,.slice a n c,.slice b m d])=some (setObj s2 p (BQ x (.slice a n c) (.slice b m d)))∧AF Tryz.prog (setObj s2 p (BQ x (.slice a n c) (.slice b m d))) 63 (.ptr (some (p,0)))=some (.agg [.bool x,.slice a n c,.slice b m d]):=
 ⟨A5 Cu hg h0 rfl rfl (by simp),Aj E7 Cu (Wv _ _ _) rfl⟩
theorem EJ(hE:An E){vn vd:AV}{z:Int}{kn:Nat}{ld:List Nat}(hn:BI s vn z kn)(hd:CW s vd ld)(hkn:kn≤1000000000)(hld:ld.length≤1000000000)(hsd:BV ld)(h0:AD ld≠0){K:AV→AE→Prop}
  (hK:∀s' v,A8 s.next s s'→QR s.next s' v (mkRat z (AD ld))→K v s'):WF E 128 [vn,vd] K s:=by
 have zabs:=hn.abs
 obtain⟨neg,mg,l,rfl,hm,hs,hl,hz⟩:=hn
 obtain⟨a,n,c,rfl⟩:=hm.shape
 obtain⟨ad,nd,cd,rfl⟩:=hd.shape
 refine hE.go Zj (by decide) rfl ?_
 obtain⟨n1,o1,g1,g2⟩:=Ky s (BX neg (.slice a n c)) ZQ
 simp only[dx,T8,T9,Wz,Xg,DD,Xb,BM,Db,EX,Qa,Qb,Qc,Qd,Qe,Qf,Qg,Qh,Qi,Qj,Qk,Ql,Qm,Qn,true_and,and_true,Qo,Qp,Qq,Qr,Qs,Qt,Qu,Qv,Qw,Qx,Qy,Qz,Ra,Rb,Rc,Rd,Re,Rf,Rg,Rh,Ri,Rj,Rk,Rm,Rn,Ro,Rp,Rq,Rs,Ya,Yb,Yc,Rt,Ru,Za,Yd,Ye,Rx,Ry,Rz,Wa,Wb,Wc,Wd]
 generalize newObj (newObj s (BX neg (.slice a n c))) ZQ=s1 at *
 have l1:=Ae (P:=Tryz.prog) (t:=4) (o:=0+0) Ox g1 rfl
 have l2:=Ae (P:=Tryz.prog) (t:=59) (o:=0+1) D7 g1 rfl
 simp only[l1,l2,Qa,Qb,Qc,Qd,Qe,Qf,Qg,Qh,Qi,Qj,Qk,Ql,Qm,Qn,true_and,and_true,Qo,Qp,Qq,Qr,Qs,Qt,Qu,Qv,Qw,Qx,Qy,Qz,Ra,Rb,Rc,Rd,Re,Rf,Rg,Rh,Ri,Rj,Rk,Rm,Rn,Ro,Rp,Rq,Rs,Ya,Yb,Yc,Rt,Ru,Za,Yd,Ye,Rx,Ry,Rz,Wa,Wb,Wc,Wd]
 refine Gm hE (hm.old o1) (by omega) hs fun s2 v2 o2 r2=>?_
 rw[hz]at r2
 have h2:=o2.1
 have f1:=(o2.2 s.next (by omega)).trans g1
 have f2:=(o2.2 (s.next+1) (by omega)).trans g2
 obtain⟨m2,rfl,r2⟩:=r2
 obtain⟨a2,n2,c2,rfl⟩:=r2.n32.shape
 have st:=A5 (P:=Tryz.prog) (t:=61) (cs:=[.bool (decide (z<0)),.slice a2 n2 c2]) CH f1 rfl rfl rfl (by simp)
 generalize hs3:setObj s2 s.next (R 61 0 false [.bool (decide (z<0)),.slice a2 n2 c2])=s3 at st
 have n3:s3.next=s2.next:=by rw[← hs3];rfl
 have o3:A8 s.next s s3:=by rw[← hs3];exact(o1.trans (o2.mono o1.1)).set (fu _) _
 have k1:s3.heap.get s.next=some (BX (decide (z<0)) (.slice a2 n2 c2)):=by rw[← hs3,Wv]
 have k2:s3.heap.get (s.next+1)=some ZQ:=by rw[← hs3,Ww _ (by omega)];exact f2
 have w2:NR s1.next s3 (.slice a2 n2 c2) (AI z.natAbs):=by rw[← hs3];exact r2.set (by omega) _
 have l3:=Ae (P:=Tryz.prog) (t:=59) (o:=0+1) D7 k1 rfl
 have zl:=BH zabs
 simp only[UA,st,l3,EX,Xx,Xz,Qa,Qb,Qc,Qd,Qe,Qf,Qg,Qh,Qi,Qj,Qk,Ql,Qm,Qn,true_and,and_true,Qo,Qp,Qq,Qr,Qs,Qt,Qu,Qv,Qw,Qx,Qy,Qz,Ra,Rb,Rc,Rd,Re,Rf,Rg,Rh,Ri,Rj,Rk,Rm,Rn,Ro,Rp,Rq,Rs,Ya,Yb,Yc,Rt,Ru,Za,Yd,Ye,Rx,Ry,Rz,Wa,Wb,Wc,Wd]
 refine dF hE w2.n32 (hd.old o3) (by omega) (by omega) (AR _) hsd fun s4 v4 o4 r4=>?_
 rw[AY]at r4
 have h4:=o4.1
 have e1:=(o4.2 s.next (by omega)).trans k1
 have l4:=Ae (P:=Tryz.prog) (t:=59) (o:=0+1) D7 e1 rfl
 have hgp:z.natAbs.gcd (AD ld)≠0:=fun e=>h0 (Nat.eq_zero_of_gcd_eq_zero_right e)
 have hgl:(AI (z.natAbs.gcd (AD ld))).length≤1000000000:=fx (FJ (Nat.gcd_le_right _ (by omega))) (fx (BH (GE hsd (fu _))) hld)
 simp only[UB,l4,EX,Qa,Qb,Qc,Qd,Qe,Qf,Qg,Qh,Qi,Qj,Qk,Ql,Qm,Qn,true_and,and_true,Qo,Qp,Qq,Qr,Qs,Qt,Qu,Qv,Qw,Qx,Qy,Qz,Ra,Rb,Rc,Rd,Re,Rf,Rg,Rh,Ri,Rj,Rk,Rm,Rn,Ro,Rp,Rq,Rs,Ya,Yb,Yc,Rt,Ru,Za,Yd,Ye,Rx,Ry,Rz,Wa,Wb,Wc,Wd]
 refine SH hE (w2.n32.old o4) r4.n32 (by omega) hgl (AR _) (AR _) (fun e=>absurd (by rw[AY]at e;exact e) hgp) fun _ s5 vq vr o5 rq _ rz=>?_
 rw[AY,AY]at rq rz
 have h5:=o5.1
 simp only[UC,Za,Qa,Qb,Qc,Qd,Qe,Qf,Qg,Qh,Qi,Qj,Qk,Ql,Qm,Qn,true_and,and_true,Qo,Qp,Qq,Qr,Qs,Qt,Qu,Qv,Qw,Qx,Qy,Qz,Ra,Rb,Rc,Rd,Re,Rf,Rg,Rh,Ri,Rj,Rk,Rm,Rn,Ro,Rp,Rq,Rs,Ya,Yb,Yc,Rt,Ru,Za,Yd,Ye,Rx,Ry,Rz,Wa,Wb,Wc,Wd]
 have o35:A8 s.next s s5:=o3.trans ((o4.trans (o5.mono h4)).mono o3.1)
 refine XY hE (hd.old o35) (r4.n32.old o5) (by omega) hgl hsd (AR _) (fun e=>absurd (by rw[AY]at e;exact e) hgp) fun _ s6 vq2 vr2 o6 rq2 _=>?_
 rw[AY]at rq2
 have h6:=o6.1
 have e2:=(o6.2 s.next (by omega)).trans ((o5.2 s.next (by omega)).trans e1)
 have l5:=Ae (P:=Tryz.prog) (t:=4) (o:=0+0) Ox e2 rfl
 have hul:(AI (z.natAbs / z.natAbs.gcd (AD ld))).length≤1000000000:=fx (FJ (iR _ _)) (by omega)
 simp only[UD,Za,l5,Db,Qa,Qb,Qc,Qd,Qe,Qf,Qg,Qh,Qi,Qj,Qk,Ql,Qm,Qn,true_and,and_true,Qo,Qp,Qq,Qr,Qs,Qt,Qu,Qv,Qw,Qx,Qy,Qz,Ra,Rb,Rc,Rd,Re,Rf,Rg,Rh,Ri,Rj,Rk,Rm,Rn,Ro,Rp,Rq,Rs,Ya,Yb,Yc,Rt,Ru,Za,Yd,Ye,Rx,Ry,Rz,Wa,Wb,Wc,Wd]
 refine Zb hE (rq.n32.old o6) hul (AR _) fun s7 v7 o7 r7 r0=>?_
 rw[AY,← YA z h0]at r7
 have h7:=o7.1
 have e3:s7.heap.get (s.next+1)=some ZQ:=by rw[o7.2 _ (by omega),o6.2 _ (by omega),o5.2 _ (by omega),o4.2 _ (by omega)];exact k2
 obtain⟨m7,rfl,r7⟩:=r7
 have hz0:(mkRat z (AD ld)).num=0→m7=.slice none 0 (some 0):=fun h=>by
  rw[YA z h0]at h
  have h1:z.natAbs / z.natAbs.gcd (AD ld)=0:=by have:=congrArg Int.natAbs h;rw[DU]at this;exact this
  have h2:z.natAbs<z.natAbs.gcd (AD ld):=(Nat.div_eq_zero_iff_lt (by omega)).1 h1
  have h3:=r0 (rz h2)
  injection h3 with h3
  injection h3 with _ h3
  injection h3 with h3 _
 have rd:=rq2.old o7
 rw[← dJ z h0]at rd
 have hdj:∀j,C8 m7=some j→C8 vq2≠some j:=fun j hj h=>by
  have q1:=(r7.lt hj).1
  have q2:=(rq2.lt h).2
  omega
 obtain⟨a7,n7,c7,rfl⟩:=r7.n32.shape
 obtain⟨b7,m7,d7,rfl⟩:=rd.n32.shape
 obtain⟨st,ld'⟩:=DT (cs0:=[.bool false,.slice none 0 (some 0),.slice none 0 (some 0)]) rfl (x:=decide ((mkRat z (AD ld)).num<0)) (a:=a7) (n:=n7) (c:=c7) (b:=b7) (m:=m7) (d:=d7) e3
 simp only[ZX,st,ld',AU,Xx,Xz,Qa,Qb,Qc,Qd,Qe,Qf,Qg,Qh,Qi,Qj,Qk,Ql,Qm,Qn,true_and,and_true,Qo,Qp,Qq,Qr,Qs,Qt,Qu,Qv,Qw,Qx,Qy,Qz,Ra,Rb,Rc,Rd,Re,Rf,Rg,Rh,Ri,Rj,Rk,Rm,Rn,Ro,Rp,Rq,Rs,Ya,Yb,Yc,Rt,Ru,Za,Yd,Ye,Rx,Ry,Rz,Wa,Wb,Wc,Wd]
 refine hK _ _ ((o35.trans ((o6.trans (o7.mono h6)).mono o35.1)).set (by omega) _) ?_
 refine QR.mono (b:=s5.next) (QR.set ⟨_,_,rfl,r7.mono h6,rd,hdj,hz0⟩ (by omega) _) (by omega)
end
section
variable{E:Cg}{s:AE}
theorem Fy       (hE : An    E) {v : AV} {q : Rat} {k : Nat} (hv : QI s v q k) (hk : k ≤ 1000000000) {K : AV → AE  → Prop} (hK : ∀ s' v, A8  s.next s s' → QR s.next s' v q → K v s') : WF E 232 [v] K s := by
  obtain⟨neg,m,d,lm,ld,rfl,hm,hd,hsm,hsd,hlm,hld,rfl⟩:=hv
  obtain⟨a,n,c,rfl⟩:=hm.shape
  obtain⟨b,nd,cd,rfl⟩:=hd.shape
  refine hE.go Z4 (by decide) rfl ?_
  obtain⟨n1,o1,g1,g2⟩:=Ky s (BQ neg (.slice a n c) (.slice b nd cd)) ZQ
  simp only[eU,Vr,Vs,Wz,Xg,DD,Xb,BM,Pq,Qa,Qb,Qc,Qd,Qe,Qf,Qg,Qh,Qi,Qj,Qk,Ql,Qm,Qn,true_and,and_true,Qo,Qp,Qq,Qr,Qs,Qt,Qu,Qv,Qw,Qx,Qy,Qz,Ra,Rb,Rc,Rd,Re,Rf,Rg,Rh,Ri,Rj,Rk,Rm,Rn,Ro,Rp,Rq,Rs,Ya,Yb,Yc,Rt,Ru,Za,Yd,Ye,Rx,Ry,Rz,Wa,Wb,Wc,Wd]
  generalize newObj (newObj s (BQ neg (.slice a n c) (.slice b nd cd))) ZQ=s1 at *
  have l1:=Ae (P:=Tryz.prog) (t:=59) (o:=0+2) D7 g1 rfl
  simp only[l1,Qa,Qb,Qc,Qd,Qe,Qf,Qg,Qh,Qi,Qj,Qk,Ql,Qm,Qn,true_and,and_true,Qo,Qp,Qq,Qr,Qs,Qt,Qu,Qv,Qw,Qx,Qy,Qz,Ra,Rb,Rc,Rd,Re,Rf,Rg,Rh,Ri,Rj,Rk,Rm,Rn,Ro,Rp,Rq,Rs,Ya,Yb,Yc,Rt,Ru,Za,Yd,Ye,Rx,Ry,Rz,Wa,Wb,Wc,Wd]
  refine Bz hE (hd.old o1) (by omega) fun s2 v2 o2 r2=>?_
  rw[BJ hsd]at r2
  have h2:=o2.1
  have f1:=(o2.2 s.next (by omega)).trans g1
  have f2:=(o2.2 (s.next+1) (by omega)).trans g2
  have o12:=o1.trans (o2.mono o1.1)
  obtain⟨a2,c2,e2,_⟩:=r2.n32
  have hN:∀ {s'},A8 s.next s s'→BI s' (.agg [.bool neg,.slice a n c]) (B1 neg (AD lm)) k:=fun o=>⟨neg,_,lm,rfl,hm.old o,hsm,hlm,rfl⟩
  have e3:∀z:Int,AN Tryz.prog .eql 3 (iv ((AI (AD ld)).length:Int)) (iv 0)=some (.bool (decide (((AI (AD ld)).length:Int)=0))):=fun _=>Wb ..
  have fin:∀ (s3:AE) (v3:AV) (D:Nat),A8 s2.next s2 s3→NR s1.next s3 v3 (AI D)→D=Di (AD ld)→(AI D).length≤1000000000→∀K2:AV→AE→Prop,
      (∀s4 x4 a4 n4 c4 b4 m4 d4,AZ Tryz.prog s4 63 (.ptr (some (s.next+1,0))) (.agg [.bool x4,.slice a4 n4 c4,.slice b4 m4 d4])=some (setObj s4 (s.next+1) (BQ x4 (.slice a4 n4 c4) (.slice b4 m4 d4))) →
        AF Tryz.prog (setObj s4 (s.next+1) (BQ x4 (.slice a4 n4 c4) (.slice b4 m4 d4))) 63 (.ptr (some (s.next+1,0)))=some (.agg [.bool x4,.slice a4 n4 c4,.slice b4 m4 d4]) →
        K (.agg [.bool x4,.slice a4 n4 c4,.slice b4 m4 d4]) (setObj s4 (s.next+1) (BQ x4 (.slice a4 n4 c4) (.slice b4 m4 d4)))→K2 (.agg [.bool x4,.slice a4 n4 c4,.slice b4 m4 d4]) s4) →
      WF E 128 [.agg [.bool neg,.slice a n c],v3] K2 s3:=by
    intro s3 v3 D o3 r3 hD hlen K2 hK2
    have o13:=o12.trans (o3.mono o12.1)
    refine EJ hE (hN o13) r3.n32 hk hlen (AR _) (by rw[AY,hD];exact HJ _) fun s4 v4 o4 r4=>?_
    have h3:=o3.1
    rw[AY,hD]at r4
    have k4:s4.heap.get (s.next+1)=some ZQ:=by rw[o4.2 _ (by omega),o3.2 _ (by omega)];exact f2
    obtain⟨x4,a4,n4,c4,b4,m4,d4,rfl⟩:=r4.shape
    obtain⟨st,ld⟩:=DT (cs0:=[.bool false,.slice none 0 (some 0),.slice none 0 (some 0)]) rfl (x:=x4) (a:=a4) (n:=n4) (c:=c4) (b:=b4) (m:=m4) (d:=d4) k4
    exact hK2 _ _ _ _ _ _ _ _ st ld (hK _ _ ((o13.trans (o4.mono o13.1)).set (by omega) _) ((r4.set (by omega) _).mono (by omega)))
  have ldN:∀s3,A8 s2.next s2 s3→AF Tryz.prog s3 61 (.ptr (some (s.next,0+0)))=some (.agg [.bool neg,.slice a n c]):=fun s3 o3=>Bh (o:=0) (n:=2) DY CH ((o3.2 s.next (by omega)).trans f1) (by simp)
  by_cases h0:AD ld=0
  · have e4 : (AI    (AD   ld)).length = 0 := by rw [h0, A6];         rfl
    have d1:decide (((AI (AD ld)).length:Int)=0)=true:=decide_eq_true (by omega)
    subst e2
    simp only[PV,Vt,AW Tryz.underlying59,e3 0,d1,Qa,Qb,Qc,Qd,Qe,Qf,Qg,Qh,Qi,Qj,Qk,Ql,Qm,Qn,true_and,and_true,Qo,Qp,Qq,Qr,Qs,Qt,Qu,Qv,Qw,Qx,Qy,Qz,Ra,Rb,Rc,Rd,Re,Rf,Rg,Rh,Ri,Rj,Rk,Rm,Rn,Ro,Rp,Rq,Rs,Ya,Yb,Yc,Rt,Ru,Za,Yd,Ye,Rx,Ry,Rz,Wa,Wb,Wc,Wd]
    refine YU hE fun s3 v3 o3 r3=>?_
    simp only[PW,Js,ldN s3 o3,Qa,Qb,Qc,Qd,Qe,Qf,Qg,Qh,Qi,Qj,Qk,Ql,Qm,Qn,true_and,and_true,Qo,Qp,Qq,Qr,Qs,Qt,Qu,Qv,Qw,Qx,Qy,Qz,Ra,Rb,Rc,Rd,Re,Rf,Rg,Rh,Ri,Rj,Rk,Rm,Rn,Ro,Rp,Rq,Rs,Ya,Yb,Yc,Rt,Ru,Za,Yd,Ye,Rx,Ry,Rz,Wa,Wb,Wc,Wd]
    refine fin s3 v3 1 o3 (r3.mono h2) (by rw[h0];rfl) (fx (BH (k:=1) (by decide)) (by omega)) _ fun s4 x4 a4 n4 c4 b4 m4 d4 st ld hk=>?_
    simp only[st,ld,AU,Xx,Xz,Qa,Qb,Qc,Qd,Qe,Qf,Qg,Qh,Qi,Qj,Qk,Ql,Qm,Qn,true_and,and_true,Qo,Qp,Qq,Qr,Qs,Qt,Qu,Qv,Qw,Qx,Qy,Qz,Ra,Rb,Rc,Rd,Re,Rf,Rg,Rh,Ri,Rj,Rk,Rm,Rn,Ro,Rp,Rq,Rs,Ya,Yb,Yc,Rt,Ru,Za,Yd,Ye,Rx,Ry,Rz,Wa,Wb,Wc,Wd]
    exact hk
  · have e4 := List.length_pos_iff.2 (Cb       h0)
    have d1:decide (((AI (AD ld)).length:Int)=0)=false:=decide_eq_false (by omega)
    have hr:=r2
    subst e2
    simp only[PV,PW,AW Tryz.underlying59,e3 0,d1,Js,ldN s2 (A8.refl _ _),Qa,Qb,Qc,Qd,Qe,Qf,Qg,Qh,Qi,Qj,Qk,Ql,Qm,Qn,true_and,and_true,Qo,Qp,Qq,Qr,Qs,Qt,Qu,Qv,Qw,Qx,Qy,Qz,Ra,Rb,Rc,Rd,Re,Rf,Rg,Rh,Ri,Rj,Rk,Rm,Rn,Ro,Rp,Rq,Rs,Ya,Yb,Yc,Rt,Ru,Za,Yd,Ye,Rx,Ry,Rz,Wa,Wb,Wc,Wd]
    refine fin s2 _ (AD ld) (A8.refl _ _) r2 (by unfold Di;rw[if_neg h0]) (fx (BH (GE hsd (fu _))) (by omega)) _ fun s4 x4 a4 n4 c4 b4 m4 d4 st ld hk=>?_
    simp only[st,ld,AU,Xx,Xz,Qa,Qb,Qc,Qd,Qe,Qf,Qg,Qh,Qi,Qj,Qk,Ql,Qm,Qn,true_and,and_true,Qo,Qp,Qq,Qr,Qs,Qt,Qu,Qv,Qw,Qx,Qy,Qz,Ra,Rb,Rc,Rd,Re,Rf,Rg,Rh,Ri,Rj,Rk,Rm,Rn,Ro,Rp,Rq,Rs,Ya,Yb,Yc,Rt,Ru,Za,Yd,Ye,Rx,Ry,Rz,Wa,Wb,Wc,Wd]
    exact hk
theorem St(hE:An E){v:AV}{q:Rat}{k:Nat}(hv:QI s v q k)(hk:k≤1000000000){g:FuncId}{first cap:List AV}{K:AV→AE→Prop}
  (hf:∀s1 v1,A8 s.next s s1→s.next+2≤s1.next→QR (s.next+2) s1 v1 q→WF E g (first++([v1]++cap)) (fun r s2=>∃cs,r=.agg cs∧cs.length=3∧Aq cs=true∧s2.heap.get (s.next+1)=s1.heap.get (s.next+1)∧K r (setObj s2 (s.next+1) (R 63 0 false cs))) s1):
  WF E 224 [v,.func g first cap] K s:=by
 obtain⟨x,a,n,c,b,m,d,rfl⟩:=hv.shape
 refine hE.go Z1 (by decide) rfl ?_
 obtain⟨n1,o1,g1,g2⟩:=Ky s (BQ x (.slice a n c) (.slice b m d)) ZQ
 simp only[eR,Vc,Vd,Wz,Xg,DD,Xb,BM,Qa,Qb,Qc,Qd,Qe,Qf,Qg,Qh,Qi,Qj,Qk,Ql,Qm,Qn,true_and,and_true,Qo,Qp,Qq,Qr,Qs,Qt,Qu,Qv,Qw,Qx,Qy,Qz,Ra,Rb,Rc,Rd,Re,Rf,Rg,Rh,Ri,Rj,Rk,Rm,Rn,Ro,Rp,Rq,Rs,Ya,Yb,Yc,Rt,Ru,Za,Yd,Ye,Rx,Ry,Rz,Wa,Wb,Wc,Wd]
 generalize newObj (newObj s (BQ x (.slice a n c) (.slice b m d))) ZQ=s1 at *
 have l1:=Aj (P:=Tryz.prog) (t:=63) E7 Cu g1 rfl
 simp only[l1,Qa,Qb,Qc,Qd,Qe,Qf,Qg,Qh,Qi,Qj,Qk,Ql,Qm,Qn,true_and,and_true,Qo,Qp,Qq,Qr,Qs,Qt,Qu,Qv,Qw,Qx,Qy,Qz,Ra,Rb,Rc,Rd,Re,Rf,Rg,Rh,Ri,Rj,Rk,Rm,Rn,Ro,Rp,Rq,Rs,Ya,Yb,Yc,Rt,Ru,Za,Yd,Ye,Rx,Ry,Rz,Wa,Wb,Wc,Wd]
 refine Fy hE (hv.old o1) hk fun s2 v2 o2 r2=>?_
 have h2:=o2.1
 simp only[Qa,Qb,Qc,Qd,Qe,Qf,Qg,Qh,Qi,Qj,Qk,Ql,Qm,Qn,true_and,and_true,Qo,Qp,Qq,Qr,Qs,Qt,Qu,Qv,Qw,Qx,Qy,Qz,Ra,Rb,Rc,Rd,Re,Rf,Rg,Rh,Ri,Rj,Rk,Rm,Rn,Ro,Rp,Rq,Rs,Ya,Yb,Yc,Rt,Ru,Za,Yd,Ye,Rx,Ry,Rz,Wa,Wb,Wc,Wd]
 refine(hf s2 v2 (o1.trans (o2.mono o1.1)) (by omega) (r2.mono (by omega))).mono ?_
 rintro r s3 ⟨cs,rfl,hl,hc,hg,hend⟩
 have g3:s3.heap.get (s.next+1)=some ZQ:=by rw[hg,o2.2 _ (by omega)];exact g2
 have st:=A5 (P:=Tryz.prog) (t:=63) (cs:=cs) Cu g3 rfl hl hc (by rintro rfl;cases hl)
 have ld:=Aj (P:=Tryz.prog) (t:=63) (s:=setObj s3 (s.next+1) (R 63 0 false cs)) (i:=s.next+1) E7 Cu (Wv _ _ _) hl
 simp only[st,ld,AU,Xx,Xz,Qa,Qb,Qc,Qd,Qe,Qf,Qg,Qh,Qi,Qj,Qk,Ql,Qm,Qn,true_and,and_true,Qo,Qp,Qq,Qr,Qs,Qt,Qu,Qv,Qw,Qx,Qy,Qz,Ra,Rb,Rc,Rd,Re,Rf,Rg,Rh,Ri,Rj,Rk,Rm,Rn,Ro,Rp,Rq,Rs,Ya,Yb,Yc,Rt,Ru,Za,Yd,Ye,Rx,Ry,Rz,Wa,Wb,Wc,Wd]
 exact hend
end
theorem QR.bi{b k:Nat}{s:AE}{v:AV}{q:Rat}(h:QR b s v q)(hq:QH q k):∃m d,v=.agg [.bool (decide (q.num<0)),m,d]∧BI s (.agg [.bool (decide (q.num<0)),m]) q.num k∧CW s d (AI q.den)∧(AI q.den).length≤k:=by
 obtain⟨m,d,rfl,h2,h3,_⟩:=h
 exact⟨m,d,rfl,BR.bi (b:=b) ⟨m,rfl,h2⟩ hq.1,h3.n32,BH hq.2⟩
section
variable{E:Cg}{s:AE}
theorem bG(hE:An E){v:AV}{z:Int}{k:Nat}(hv:BI s v z k)(hk:k≤1000000000){K:AV→AE→Prop}(hK:∀s' v,A8 s.next s s'→QR s.next s' v (z:Rat)→K v s'):WF E 94 [v] K s:=by
 obtain⟨x,a,n,c,rfl⟩:=hv.shape
 refine hE.go ce (by decide) rfl ?_
 obtain⟨n1,o1,g1,g2⟩:=Ky s (BX x (.slice a n c)) ZQ
 simp only[fh,bp,bu,Wz,Xg,DD,Xb,BM,Qa,Qb,Qc,Qd,Qe,Qf,Qg,Qh,Qi,Qj,Qk,Ql,Qm,Qn,true_and,and_true,Qo,Qp,Qq,Qr,Qs,Qt,Qu,Qv,Qw,Qx,Qy,Qz,Ra,Rb,Rc,Rd,Re,Rf,Rg,Rh,Ri,Rj,Rk,Rm,Rn,Ro,Rp,Rq,Rs,Ya,Yb,Yc,Rt,Ru,Za,Yd,Ye,Rx,Ry,Rz,Wa,Wb,Wc,Wd]
 generalize newObj (newObj s (BX x (.slice a n c))) ZQ=s1 at *
 have l1:=Aj (P:=Tryz.prog) (t:=61) DY CH g1 rfl
 simp only[l1,Qa,Qb,Qc,Qd,Qe,Qf,Qg,Qh,Qi,Qj,Qk,Ql,Qm,Qn,true_and,and_true,Qo,Qp,Qq,Qr,Qs,Qt,Qu,Qv,Qw,Qx,Qy,Qz,Ra,Rb,Rc,Rd,Re,Rf,Rg,Rh,Ri,Rj,Rk,Rm,Rn,Ro,Rp,Rq,Rs,Ya,Yb,Yc,Rt,Ru,Za,Yd,Ye,Rx,Ry,Rz,Wa,Wb,Wc,Wd]
 refine YU hE fun s2 v2 o2 r2=>?_
 have h2:=o2.1
 have f1:=(o2.2 s.next (by omega)).trans g1
 have f2:=(o2.2 (s.next+1) (by omega)).trans g2
 refine⟨⟨BG (by simp only[Qa,Qb,Qc,Qd,Qe,Qf,Qg,Qh,Qi,Qj,Qk,Ql,Qm,Qn,true_and,and_true,Qo,Qp,Qq,Qr,Qs,Qt,Qu,Qv,Qw,Qx,Qy,Qz,Ra,Rb,Rc,Rd,Re,Rf,Rg,Rh,Ri,Rj,Rk,Rm,Rn,Ro,Rp,Rq,Rs,Ya,Yb,Yc,Rt,Ru,Za,Yd,Ye,Rx,Ry,Rz,Wa,Wb,Wc,Wd];exact Aj DY CH f1 rfl) (HL _ _ _ _),trivial⟩,?_⟩
 simp only[Qa,Qb,Qc,Qd,Qe,Qf,Qg,Qh,Qi,Qj,Qk,Ql,Qm,Qn,true_and,and_true,Qo,Qp,Qq,Qr,Qs,Qt,Qu,Qv,Qw,Qx,Qy,Qz,Ra,Rb,Rc,Rd,Re,Rf,Rg,Rh,Ri,Rj,Rk,Rm,Rn,Ro,Rp,Rq,Rs,Ya,Yb,Yc,Rt,Ru,Za,Yd,Ye,Rx,Ry,Rz,Wa,Wb,Wc,Wd]
 have o12:=o1.trans (o2.mono o1.1)
 refine EJ hE (hv.old o12) r2.n32 hk (fx (BH (k:=1) (by decide)) (by omega)) (AR _) (by rw[AY];decide) fun s3 v3 o3 r3=>?_
 rw[AY,show mkRat z 1=(z:Rat)from by rw[Rat.mkRat_one]]at r3
 obtain⟨x3,a3,n3,c3,b3,m3,d3,rfl⟩:=r3.shape
 obtain⟨st,ld⟩:=DT (cs0:=[.bool false,.slice none 0 (some 0),.slice none 0 (some 0)]) rfl (x:=x3) (a:=a3) (n:=n3) (c:=c3) (b:=b3) (m:=m3) (d:=d3) ((o3.2 (s.next+1) (by omega)).trans f2)
 simp only[st,ld,AU,Xx,Xz,Qa,Qb,Qc,Qd,Qe,Qf,Qg,Qh,Qi,Qj,Qk,Ql,Qm,Qn,true_and,and_true,Qo,Qp,Qq,Qr,Qs,Qt,Qu,Qv,Qw,Qx,Qy,Qz,Ra,Rb,Rc,Rd,Re,Rf,Rg,Rh,Ri,Rj,Rk,Rm,Rn,Ro,Rp,Rq,Rs,Ya,Yb,Yc,Rt,Ru,Za,Yd,Ye,Rx,Ry,Rz,Wa,Wb,Wc,Wd]
 exact hK _ _ ((o12.trans (o3.mono o12.1)).set (by omega) _) ((r3.set (by omega) _).mono (by omega))
theorem Yh(hE:An E){n:Int}(h:n=0∨n=1∨n=-1){K:AV→AE→Prop}(hK:∀s' v,A8 s.next s s'→QR s.next s' v (n:Rat)→K v s'):WF E 93 [iv n] K s:=by
 refine hE.go cZ (by decide) rfl ?_
 obtain⟨n1,o1,g1⟩:=GS s ZQ
 simp only[fg,bl,bo,DD,Xb,Qa,Qb,Qc,Qd,Qe,Qf,Qg,Qh,Qi,Qj,Qk,Ql,Qm,Qn,true_and,and_true,Qo,Qp,Qq,Qr,Qs,Qt,Qu,Qv,Qw,Qx,Qy,Qz,Ra,Rb,Rc,Rd,Re,Rf,Rg,Rh,Ri,Rj,Rk,Rm,Rn,Ro,Rp,Rq,Rs,Ya,Yb,Yc,Rt,Ru,Za,Yd,Ye,Rx,Ry,Rz,Wa,Wb,Wc,Wd]
 generalize newObj s ZQ=s1 at *
 refine NX hE h fun s2 v2 o2 r2=>?_
 have h2:=o2.1
 simp only[Qa,Qb,Qc,Qd,Qe,Qf,Qg,Qh,Qi,Qj,Qk,Ql,Qm,Qn,true_and,and_true,Qo,Qp,Qq,Qr,Qs,Qt,Qu,Qv,Qw,Qx,Qy,Qz,Ra,Rb,Rc,Rd,Re,Rf,Rg,Rh,Ri,Rj,Rk,Rm,Rn,Ro,Rp,Rq,Rs,Ya,Yb,Yc,Rt,Ru,Za,Yd,Ye,Rx,Ry,Rz,Wa,Wb,Wc,Wd]
 refine bG hE (r2.bi (k:=1) (by rcases h with rfl | rfl | rfl<;>decide)) (by omega) fun s3 v3 o3 r3=>?_
 obtain⟨x3,a3,n3,c3,b3,m3,d3,rfl⟩:=r3.shape
 obtain⟨st,ld⟩:=DT (cs0:=[.bool false,.slice none 0 (some 0),.slice none 0 (some 0)]) rfl (x:=x3) (a:=a3) (n:=n3) (c:=c3) (b:=b3) (m:=m3) (d:=d3) ((o3.2 s.next (by omega)).trans ((o2.2 s.next (by omega)).trans g1))
 have o12:=o1.trans (o2.mono o1.1)
 simp only[st,ld,AU,Xx,Xz,Qa,Qb,Qc,Qd,Qe,Qf,Qg,Qh,Qi,Qj,Qk,Ql,Qm,Qn,true_and,and_true,Qo,Qp,Qq,Qr,Qs,Qt,Qu,Qv,Qw,Qx,Qy,Qz,Ra,Rb,Rc,Rd,Re,Rf,Rg,Rh,Ri,Rj,Rk,Rm,Rn,Ro,Rp,Rq,Rs,Ya,Yb,Yc,Rt,Ru,Za,Yd,Ye,Rx,Ry,Rz,Wa,Wb,Wc,Wd]
 exact hK _ _ ((o12.trans (o3.mono o12.1)).set (by omega) _) ((r3.set (by omega) _).mono (by omega))
theorem Yi(hE:An E){v:AV}{q:Rat}{k:Nat}(hv:QI s v q k)(hk:k≤1000000000){K:AV→AE→Prop}(hK:∀s',A8 s.next s s'→K (iv (Iz q.num)) s'):WF E 132 [v] K s:=by
 obtain⟨neg,m,d,lm,ld,rfl,hm,hd,hsm,hsd,hlm,hld,hqv⟩:=hv
 obtain⟨a,n,c,rfl⟩:=hm.shape
 obtain⟨b,nd,cd,rfl⟩:=hd.shape
 refine hE.go Zl (by decide) rfl ?_
 obtain⟨n1,o1,g1⟩:=GS s (BQ neg (.slice a n c) (.slice b nd cd))
 simp only[dz,UG,UH,Wz,Xg,Xb,BM,Js,Qa,Qb,Qc,Qd,Qe,Qf,Qg,Qh,Qi,Qj,Qk,Ql,Qm,Qn,true_and,and_true,Qo,Qp,Qq,Qr,Qs,Qt,Qu,Qv,Qw,Qx,Qy,Qz,Ra,Rb,Rc,Rd,Re,Rf,Rg,Rh,Ri,Rj,Rk,Rm,Rn,Ro,Rp,Rq,Rs,Ya,Yb,Yc,Rt,Ru,Za,Yd,Ye,Rx,Ry,Rz,Wa,Wb,Wc,Wd]
 generalize newObj s (BQ neg (.slice a n c) (.slice b nd cd))=s1 at *
 have l1:AF Tryz.prog s1 61 (.ptr (some (s.next,0+0)))=some (.agg [.bool neg,.slice a n c]):=Bh (o:=0) (n:=2) DY CH g1 (by simp)
 simp only[l1,Qa,Qb,Qc,Qd,Qe,Qf,Qg,Qh,Qi,Qj,Qk,Ql,Qm,Qn,true_and,and_true,Qo,Qp,Qq,Qr,Qs,Qt,Qu,Qv,Qw,Qx,Qy,Qz,Ra,Rb,Rc,Rd,Re,Rf,Rg,Rh,Ri,Rj,Rk,Rm,Rn,Ro,Rp,Rq,Rs,Ya,Yb,Yc,Rt,Ru,Za,Yd,Ye,Rx,Ry,Rz,Wa,Wb,Wc,Wd]
 have hbi:BI s1 (.agg [.bool neg,.slice a n c]) (B1 neg (AD lm)) k:=⟨neg,_,lm,rfl,hm.old o1,hsm,hlm,rfl⟩
 refine T6 hE hbi hk fun s2 o2=>?_
 have hs:Iz (B1 neg (AD lm))=Iz q.num:=by
  rw[← hqv,KY]
  have hg:((AD lm).gcd (Di (AD ld)):Nat)≠0:=fun e=>HJ _ (Nat.eq_zero_of_gcd_eq_zero_right e)
  have hdv:((((AD lm).gcd (Di (AD ld)):Nat)):Int) ∣ B1 neg (AD lm):=Int.ofNat_dvd_left.2 (by rw[DU];exact Nat.gcd_dvd_left _ _)
  obtain⟨w,hw⟩:=hdv
  have hgp:(0:Int)<(((AD lm).gcd (Di (AD ld)):Nat):Int):=by omega
  rw[hw,Int.mul_ediv_cancel_left _ (by omega)]
  generalize ((((AD lm).gcd (Di (AD ld)):Nat)):Int)=G at *
  rcases QP w with⟨e1,e2⟩ | ⟨e1,e2⟩ | ⟨e1,e2⟩
  ·rw[e2];unfold Iz;rw[if_pos (Int.mul_neg_of_pos_of_neg hgp e1)]
  ·rw[e2,e1,Int.mul_zero];rfl
  ·have:=Int.mul_pos hgp e1
   rw[e2];unfold Iz;rw[if_neg (by omega),if_pos this]
 rw[hs]
 simp only[Qa,Qb,Qc,Qd,Qe,Qf,Qg,Qh,Qi,Qj,Qk,Ql,Qm,Qn,true_and,and_true,Qo,Qp,Qq,Qr,Qs,Qt,Qu,Qv,Qw,Qx,Qy,Qz,Ra,Rb,Rc,Rd,Re,Rf,Rg,Rh,Ri,Rj,Rk,Rm,Rn,Ro,Rp,Rq,Rs,Ya,Yb,Yc,Rt,Ru,Za,Yd,Ye,Rx,Ry,Rz,Wa,Wb,Wc,Wd]
 exact hK s2 (o1.trans (o2.mono o1.1))
end
theorem du:EM Tryz.prog 303=some false:=by kernel_rfl
section
variable{E:Cg}{s:AE}
theorem ZE(hE:An E){vn vd:AV}{z:Int}{kn kd D:Nat}(hn:BI s vn z kn)(hd:CW s vd (AI D))(hdl:(AI D).length≤kd)(hk:kn+kd+1≤1000000000){K:AV→AE→Prop}(hK:∀s' v,A8 s.next s s'→BR s.next s' v (z * (D:Int))→K v s'):WF E 286 [vn,vd] K s:=by
 have hn0:=hn
 obtain⟨neg,mg,l,rfl,hm,hs,hl,hz⟩:=hn
 obtain⟨a,n,c,rfl⟩:=hm.shape
 refine hE.go aJ (by decide) rfl ?_
 obtain⟨n1,o1,g1,g2⟩:=Ky s (BX neg (.slice a n c)) ZI
 simp only[eo,Wl,Wm,Wz,Xg,Da,Xb,BM,Qa,Qb,Qc,Qd,Qe,Qf,Qg,Qh,Qi,Qj,Qk,Ql,Qm,Qn,true_and,and_true,Qo,Qp,Qq,Qr,Qs,Qt,Qu,Qv,Qw,Qx,Qy,Qz,Ra,Rb,Rc,Rd,Re,Rf,Rg,Rh,Ri,Rj,Rk,Rm,Rn,Ro,Rp,Rq,Rs,Ya,Yb,Yc,Rt,Ru,Za,Yd,Ye,Rx,Ry,Rz,Wa,Wb,Wc,Wd]
 generalize newObj (newObj s (BX neg (.slice a n c))) ZI=s1 at *
 have l1:=Aj (P:=Tryz.prog) (t:=61) DY CH g1 rfl
 simp only[l1,Qa,Qb,Qc,Qd,Qe,Qf,Qg,Qh,Qi,Qj,Qk,Ql,Qm,Qn,true_and,and_true,Qo,Qp,Qq,Qr,Qs,Qt,Qu,Qv,Qw,Qx,Qy,Qz,Ra,Rb,Rc,Rd,Re,Rf,Rg,Rh,Ri,Rj,Rk,Rm,Rn,Ro,Rp,Rq,Rs,Ya,Yb,Yc,Rt,Ru,Za,Yd,Ye,Rx,Ry,Rz,Wa,Wb,Wc,Wd]
 refine Gm hE (hd.old o1) (by omega) (AR _) fun s2 v2 o2 r2=>?_
 rw[AY,show B1 false D=(D:Int)from rfl]at r2
 have h2:=o2.1
 have f1:=(o2.2 s.next (by omega)).trans g1
 have f2:=(o2.2 (s.next+1) (by omega)).trans g2
 refine⟨⟨BG (by simp only[Qa,Qb,Qc,Qd,Qe,Qf,Qg,Qh,Qi,Qj,Qk,Ql,Qm,Qn,true_and,and_true,Qo,Qp,Qq,Qr,Qs,Qt,Qu,Qv,Qw,Qx,Qy,Qz,Ra,Rb,Rc,Rd,Re,Rf,Rg,Rh,Ri,Rj,Rk,Rm,Rn,Ro,Rp,Rq,Rs,Ya,Yb,Yc,Rt,Ru,Za,Yd,Ye,Rx,Ry,Rz,Wa,Wb,Wc,Wd];exact Aj DY CH f1 rfl) (HL _ _ _ _),trivial⟩,?_⟩
 have o12:=o1.trans (o2.mono o1.1)
 have hb2:BI s2 v2 (D:Int) kd:=by
  obtain⟨m2,rfl,r2'⟩:=r2
  exact⟨_,m2,_,rfl,r2'.n32,AR _,by simpa using hdl,by rw[AY,Fk]⟩
 obtain⟨x2,a2,n2,c2,rfl⟩:=hb2.shape
 obtain⟨n3,o3,g3⟩:=GS s2 (R 61 2 false [.bool neg,.slice a n c,.bool x2,.slice a2 n2 c2])
 simp only[IK,Xd,Qa,Qb,Qc,Qd,Qe,Qf,Qg,Qh,Qi,Qj,Qk,Ql,Qm,Qn,true_and,and_true,Qo,Qp,Qq,Qr,Qs,Qt,Qu,Qv,Qw,Qx,Qy,Qz,Ra,Rb,Rc,Rd,Re,Rf,Rg,Rh,Ri,Rj,Rk,Rm,Rn,Ro,Rp,Rq,Rs,Ya,Yb,Yc,Rt,Ru,Za,Yd,Ye,Rx,Ry,Rz,Wa,Wb,Wc,Wd]
 generalize newObj s2 (R 61 2 false [.bool neg,.slice a n c,.bool x2,.slice a2 n2 c2])=s3 at *
 refine RA hE (hn0.old (o12.trans (o3.mono o12.1))) (hb2.old o3) hk (xc:=[.bool neg,.slice a n c]) (yc:=[.bool x2,.slice a2 n2 c2]) rfl rfl (by omega) g3 fun s4 v4 o4 r4=>?_
 have f4:s4.heap.get (s.next+1)=some ZI:=by rw[o4.2 _ (by omega),o3.2 _ (by omega)];exact f2
 obtain⟨m4,rfl,r4⟩:=r4
 obtain⟨a4,n4,c4,rfl⟩:=r4.n32.shape
 obtain⟨st,ld⟩:=E9 (s1:=s) (x:=decide (z * (D:Int)<0)) (a:=a4) (n:=n4) (c:=c4) f4
 simp only[st,ld,AU,Xx,Xz,Qa,Qb,Qc,Qd,Qe,Qf,Qg,Qh,Qi,Qj,Qk,Ql,Qm,Qn,true_and,and_true,Qo,Qp,Qq,Qr,Qs,Qt,Qu,Qv,Qw,Qx,Qy,Qz,Ra,Rb,Rc,Rd,Re,Rf,Rg,Rh,Ri,Rj,Rk,Rm,Rn,Ro,Rp,Rq,Rs,Ya,Yb,Yc,Rt,Ru,Za,Yd,Ye,Rx,Ry,Rz,Wa,Wb,Wc,Wd]
 have o13:=o12.trans (o3.mono o12.1)
 exact hK _ _ ((o13.trans (o4.mono o13.1)).set (by omega) _) (BR.mono (b:=s3.next) ⟨_,rfl,r4.set (by omega) _⟩ (by omega))
theorem ZA(hE:An E){g:FuncId}{first cap:List AV}(heq:EV (.func g first cap) (.func g first cap)=true){v va:AV}{qa qb:Rat}{ka kb ba bb pf pa:Nat}{ca:List AV}(hv:QR bb s v qb)(hva:QR ba s va qa)(hca:va=.agg ca)(hqa:QH qa ka)(hqb:QH qb kb)(hk:ka+kb+1≤1000000000)
  (hpf:pf<s.next) (hpa:pa<s.next) (gf:s.heap.get pf=some (R 303 0 false [.func g first cap])) (ga:s.heap.get pa=some (R 63 0 false ca)) {K:AV→AE→Prop}
  (hf:∀s1 vx vy vd,A8 s.next s s1→s.next+2≤s1.next→BR (s.next+2) s1 vx (qa.num * (qb.den:Int))→BR (s.next+2) s1 vy (qb.num * (qa.den:Int))→NR (s.next+2) s1 vd (AI (qa.den * qb.den)) →
   WF E g (first++([vx,vy,vd]++cap)) (fun r s2=>∃cs,r=.agg cs∧cs.length=3∧Aq cs=true∧s2.heap.get (s.next+1)=s1.heap.get (s.next+1)∧K r (setObj s2 (s.next+1) (R 63 0 false cs))) s1):
  WF E 285 [v,.ptr (some (pf,0)),.ptr (some (pa,0))] K s:=by
 obtain⟨ma,da,e1,hna,hda,hdla⟩:=hva.bi hqa
 obtain⟨mb,db,rfl,hnb,hdb,hdlb⟩:=hv.bi hqb
 rw[hca]at e1
 injection e1 with e1
 subst e1
 obtain⟨_,aa,an,ac,ea⟩:=hna.shape
 injection ea with ea
 injection ea with ea1 ea
 injection ea with ea2 _
 subst ea2
 obtain⟨_,xa,xn,xc,eb⟩:=hnb.shape
 injection eb with eb
 injection eb with eb1 eb
 injection eb with eb2 _
 subst eb2
 obtain⟨aad,and_,acd,rfl⟩:=hda.shape
 obtain⟨xad,xnd,xcd,rfl⟩:=hdb.shape
 refine hE.go aI (by decide) rfl ?_
 obtain⟨n1,o1,g1,g2⟩:=Ky s (BQ (decide (qb.num<0)) (.slice xa xn xc) (.slice xad xnd xcd)) ZQ
 simp only[en,Wi,Wj,Wk,Wz,Xg,DD,Xb,BM,Js,Pq,Qa,Qb,Qc,Qd,Qe,Qf,Qg,Qh,Qi,Qj,Qk,Ql,Qm,Qn,true_and,and_true,Qo,Qp,Qq,Qr,Qs,Qt,Qu,Qv,Qw,Qx,Qy,Qz,Ra,Rb,Rc,Rd,Re,Rf,Rg,Rh,Ri,Rj,Rk,Rm,Rn,Ro,Rp,Rq,Rs,Ya,Yb,Yc,Rt,Ru,Za,Yd,Ye,Rx,Ry,Rz,Wa,Wb,Wc,Wd]
 generalize newObj (newObj s (BQ (decide (qb.num<0)) (.slice xa xn xc) (.slice xad xnd xcd))) ZQ=s1 at *
 have lf:∀ {s'},A8 s1.next s1 s'→AF Tryz.prog s' 303 (.ptr (some (pf,0)))=some (.func g first cap):=fun o=>Ae (o:=0) du (((o.2 pf (by omega)).trans (o1.2 pf hpf)).trans gf) rfl
 have laN:∀ {s'},A8 s1.next s1 s'→AF Tryz.prog s' 61 (.ptr (some (pa,0+0)))=some (.agg [.bool (decide (qa.num<0)),.slice aa an ac]):=fun o=>Bh (o:=0) (n:=2) DY CH (((o.2 pa (by omega)).trans (o1.2 pa hpa)).trans ga) (by simp)
 have laD:∀ {s'},A8 s1.next s1 s'→AF Tryz.prog s' 59 (.ptr (some (pa,0+2)))=some (.slice aad and_ acd):=fun o=>Ae (o:=0+2) D7 (((o.2 pa (by omega)).trans (o1.2 pa hpa)).trans ga) rfl
 have lbN:∀ {s'},A8 s1.next s1 s'→AF Tryz.prog s' 61 (.ptr (some (s.next,0+0)))=some (.agg [.bool (decide (qb.num<0)),.slice xa xn xc]):=fun o=>Bh (o:=0) (n:=2) DY CH ((o.2 s.next (by omega)).trans g1) (by simp)
 have lbD:∀ {s'},A8 s1.next s1 s'→AF Tryz.prog s' 59 (.ptr (some (s.next,0+2)))=some (.slice xad xnd xcd):=fun o=>Ae (o:=0+2) D7 ((o.2 s.next (by omega)).trans g1) rfl
 have or:=A8.refl s1.next s1
 simp only[lf or,laN or,laD or,lbN or,lbD or,Qa,Qb,Qc,Qd,Qe,Qf,Qg,Qh,Qi,Qj,Qk,Ql,Qm,Qn,true_and,and_true,Qo,Qp,Qq,Qr,Qs,Qt,Qu,Qv,Qw,Qx,Qy,Qz,Ra,Rb,Rc,Rd,Re,Rf,Rg,Rh,Ri,Rj,Rk,Rm,Rn,Ro,Rp,Rq,Rs,Ya,Yb,Yc,Rt,Ru,Za,Yd,Ye,Rx,Ry,Rz,Wa,Wb,Wc,Wd]
 refine ZE hE (hna.old o1) (hdb.old o1) hdlb hk fun s2 v2 o2 r2=>?_
 have h2:=o2.1
 refine⟨⟨BG (by simp only[Qa,Qb,Qc,Qd,Qe,Qf,Qg,Qh,Qi,Qj,Qk,Ql,Qm,Qn,true_and,and_true,Qo,Qp,Qq,Qr,Qs,Qt,Qu,Qv,Qw,Qx,Qy,Qz,Ra,Rb,Rc,Rd,Re,Rf,Rg,Rh,Ri,Rj,Rk,Rm,Rn,Ro,Rp,Rq,Rs,Ya,Yb,Yc,Rt,Ru,Za,Yd,Ye,Rx,Ry,Rz,Wa,Wb,Wc,Wd];exact lbD o2) (Cn _ _ _),BG (by simp only[Qa,Qb,Qc,Qd,Qe,Qf,Qg,Qh,Qi,Qj,Qk,Ql,Qm,Qn,true_and,and_true,Qo,Qp,Qq,Qr,Qs,Qt,Qu,Qv,Qw,Qx,Qy,Qz,Ra,Rb,Rc,Rd,Re,Rf,Rg,Rh,Ri,Rj,Rk,Rm,Rn,Ro,Rp,Rq,Rs,Ya,Yb,Yc,Rt,Ru,Za,Yd,Ye,Rx,Ry,Rz,Wa,Wb,Wc,Wd];exact laD o2) (Cn _ _ _),BG (by simp only[Qa,Qb,Qc,Qd,Qe,Qf,Qg,Qh,Qi,Qj,Qk,Ql,Qm,Qn,true_and,and_true,Qo,Qp,Qq,Qr,Qs,Qt,Qu,Qv,Qw,Qx,Qy,Qz,Ra,Rb,Rc,Rd,Re,Rf,Rg,Rh,Ri,Rj,Rk,Rm,Rn,Ro,Rp,Rq,Rs,Ya,Yb,Yc,Rt,Ru,Za,Yd,Ye,Rx,Ry,Rz,Wa,Wb,Wc,Wd];exact laD o2) (Cn _ _ _),BG (by simp only[Qa,Qb,Qc,Qd,Qe,Qf,Qg,Qh,Qi,Qj,Qk,Ql,Qm,Qn,true_and,and_true,Qo,Qp,Qq,Qr,Qs,Qt,Qu,Qv,Qw,Qx,Qy,Qz,Ra,Rb,Rc,Rd,Re,Rf,Rg,Rh,Ri,Rj,Rk,Rm,Rn,Ro,Rp,Rq,Rs,Ya,Yb,Yc,Rt,Ru,Za,Yd,Ye,Rx,Ry,Rz,Wa,Wb,Wc,Wd];exact lbN o2) (HL _ _ _ _),BG (by simp only[Qa,Qb,Qc,Qd,Qe,Qf,Qg,Qh,Qi,Qj,Qk,Ql,Qm,Qn,true_and,and_true,Qo,Qp,Qq,Qr,Qs,Qt,Qu,Qv,Qw,Qx,Qy,Qz,Ra,Rb,Rc,Rd,Re,Rf,Rg,Rh,Ri,Rj,Rk,Rm,Rn,Ro,Rp,Rq,Rs,Ya,Yb,Yc,Rt,Ru,Za,Yd,Ye,Rx,Ry,Rz,Wa,Wb,Wc,Wd];exact lf o2) heq,trivial⟩,?_⟩
 simp only[Qa,Qb,Qc,Qd,Qe,Qf,Qg,Qh,Qi,Qj,Qk,Ql,Qm,Qn,true_and,and_true,Qo,Qp,Qq,Qr,Qs,Qt,Qu,Qv,Qw,Qx,Qy,Qz,Ra,Rb,Rc,Rd,Re,Rf,Rg,Rh,Ri,Rj,Rk,Rm,Rn,Ro,Rp,Rq,Rs,Ya,Yb,Yc,Rt,Ru,Za,Yd,Ye,Rx,Ry,Rz,Wa,Wb,Wc,Wd]
 have o12:=o1.trans (o2.mono o1.1)
 refine ZE hE (hnb.old o12) (hda.old o12) hdla (by omega) fun s3 v3 o3 r3=>?_
 have h3:=o3.1
 have o23:A8 s1.next s1 s3:=o2.trans (o3.mono h2)
 refine⟨⟨BG (by simp only[Qa,Qb,Qc,Qd,Qe,Qf,Qg,Qh,Qi,Qj,Qk,Ql,Qm,Qn,true_and,and_true,Qo,Qp,Qq,Qr,Qs,Qt,Qu,Qv,Qw,Qx,Qy,Qz,Ra,Rb,Rc,Rd,Re,Rf,Rg,Rh,Ri,Rj,Rk,Rm,Rn,Ro,Rp,Rq,Rs,Ya,Yb,Yc,Rt,Ru,Za,Yd,Ye,Rx,Ry,Rz,Wa,Wb,Wc,Wd];exact lbD o23) (Cn _ _ _),BG (by simp only[Qa,Qb,Qc,Qd,Qe,Qf,Qg,Qh,Qi,Qj,Qk,Ql,Qm,Qn,true_and,and_true,Qo,Qp,Qq,Qr,Qs,Qt,Qu,Qv,Qw,Qx,Qy,Qz,Ra,Rb,Rc,Rd,Re,Rf,Rg,Rh,Ri,Rj,Rk,Rm,Rn,Ro,Rp,Rq,Rs,Ya,Yb,Yc,Rt,Ru,Za,Yd,Ye,Rx,Ry,Rz,Wa,Wb,Wc,Wd];exact laD o23) (Cn _ _ _),BG (by simp only[Qa,Qb,Qc,Qd,Qe,Qf,Qg,Qh,Qi,Qj,Qk,Ql,Qm,Qn,true_and,and_true,Qo,Qp,Qq,Qr,Qs,Qt,Qu,Qv,Qw,Qx,Qy,Qz,Ra,Rb,Rc,Rd,Re,Rf,Rg,Rh,Ri,Rj,Rk,Rm,Rn,Ro,Rp,Rq,Rs,Ya,Yb,Yc,Rt,Ru,Za,Yd,Ye,Rx,Ry,Rz,Wa,Wb,Wc,Wd];exact lf o23) heq,trivial⟩,?_⟩
 simp only[Qa,Qb,Qc,Qd,Qe,Qf,Qg,Qh,Qi,Qj,Qk,Ql,Qm,Qn,true_and,and_true,Qo,Qp,Qq,Qr,Qs,Qt,Qu,Qv,Qw,Qx,Qy,Qz,Ra,Rb,Rc,Rd,Re,Rf,Rg,Rh,Ri,Rj,Rk,Rm,Rn,Ro,Rp,Rq,Rs,Ya,Yb,Yc,Rt,Ru,Za,Yd,Ye,Rx,Ry,Rz,Wa,Wb,Wc,Wd]
 have o13:=o1.trans (o23.mono o1.1)
 refine P8 hE (hda.old o13) (hdb.old o13) (by omega) (by omega) (AR _) (AR _) fun s4 v4 o4 r4=>?_
 have h4:=o4.1
 rw[AY,AY]at r4
 have o24:A8 s1.next s1 s4:=o23.trans (o4.mono o23.1)
 refine⟨⟨BG (by simp only[Qa,Qb,Qc,Qd,Qe,Qf,Qg,Qh,Qi,Qj,Qk,Ql,Qm,Qn,true_and,and_true,Qo,Qp,Qq,Qr,Qs,Qt,Qu,Qv,Qw,Qx,Qy,Qz,Ra,Rb,Rc,Rd,Re,Rf,Rg,Rh,Ri,Rj,Rk,Rm,Rn,Ro,Rp,Rq,Rs,Ya,Yb,Yc,Rt,Ru,Za,Yd,Ye,Rx,Ry,Rz,Wa,Wb,Wc,Wd];exact lf o24) heq,trivial⟩,?_⟩
 simp only[Qa,Qb,Qc,Qd,Qe,Qf,Qg,Qh,Qi,Qj,Qk,Ql,Qm,Qn,true_and,and_true,Qo,Qp,Qq,Qr,Qs,Qt,Qu,Qv,Qw,Qx,Qy,Qz,Ra,Rb,Rc,Rd,Re,Rf,Rg,Rh,Ri,Rj,Rk,Rm,Rn,Ro,Rp,Rq,Rs,Ya,Yb,Yc,Rt,Ru,Za,Yd,Ye,Rx,Ry,Rz,Wa,Wb,Wc,Wd]
 have o14:=o1.trans (o24.mono o1.1)
 refine(hf s4 v2 v3 v4 o14 (by omega) ((r2.old (o3.trans (o4.mono h3))).mono (by omega)) ((r3.old o4).mono (by omega)) (r4.mono (by omega))).mono ?_
 rintro r s5 ⟨cs,rfl,hl,hc,hg,hend⟩
 have g5:s5.heap.get (s.next+1)=some ZQ:=by rw[hg,o24.2 _ (by omega)];exact g2
 have st:=A5 (P:=Tryz.prog) (t:=63) (cs:=cs) Cu g5 rfl hl hc (by rintro rfl;cases hl)
 have ld:=Aj (P:=Tryz.prog) (t:=63) (s:=setObj s5 (s.next+1) (R 63 0 false cs)) (i:=s.next+1) E7 Cu (Wv _ _ _) hl
 simp only[st,ld,AU,Xx,Xz,Qa,Qb,Qc,Qd,Qe,Qf,Qg,Qh,Qi,Qj,Qk,Ql,Qm,Qn,true_and,and_true,Qo,Qp,Qq,Qr,Qs,Qt,Qu,Qv,Qw,Qx,Qy,Qz,Ra,Rb,Rc,Rd,Re,Rf,Rg,Rh,Ri,Rj,Rk,Rm,Rn,Ro,Rp,Rq,Rs,Ya,Yb,Yc,Rt,Ru,Za,Yd,Ye,Rx,Ry,Rz,Wa,Wb,Wc,Wd]
 exact hend
end
def fX(E:Cg)(s:AE)(qa qb:Rat)(g:FuncId)(first cap:List AV)(K:AV→AE→Prop):Prop:=
 ∀s1 vx vy vd,A8 s.next s s1→BR s.next s1 vx (qa.num * (qb.den:Int))→BR s.next s1 vy (qb.num * (qa.den:Int))→NR s.next s1 vd (AI (qa.den * qb.den)) →
  WF E g (first++([vx,vy,vd]++cap)) (fun r s2=>∃cs,r=.agg cs∧cs.length=3∧Aq cs=true∧(∀j,s.next≤j→j<s1.next→s2.heap.get j=s1.heap.get j) ∧
   ∀s3,s3.next=s2.next→(∀j,(j<s.next∨s1.next≤j)→s3.heap.get j=s2.heap.get j)→K r s3) s1
section
variable{E:Cg}{s:AE}
theorem bU(hE:An E){g:FuncId}{first cap:List AV}(heq:EV (.func g first cap) (.func g first cap)=true){v vb:AV}{qa qb:Rat}{ka kb ba pf pb:Nat}{cb:List AV}(hv:QR ba s v qa)(hvb:QI s vb qb kb)(hcb:vb=.agg cb)(hqa:QH qa ka)(hqb:QH qb kb)(hk:ka+kb+1≤1000000000)
  (hpf:pf<s.next) (hpb:pb<s.next) (gf:s.heap.get pf=some (R 303 0 false [.func g first cap])) (gb:s.heap.get pb=some (R 63 0 false cb)) {K:AV→AE→Prop} (hf:fX E s qa qb g first cap (fun r s3=>K r s3)):
  WF E 284 [v,.ptr (some (pb,0)),.ptr (some (pf,0))] (fun r s3=>(∃cs,r=.agg cs∧cs.length=3∧Aq cs=true)∧K r s3) s:=by
 obtain⟨xa,aa,an,ac,ab,am,ad,rfl⟩:=hv.shape
 obtain⟨xb,ba',bn,bc,bb,bm,bd,eb⟩:=hvb.shape
 rw[hcb]at eb
 injection eb with eb
 subst eb
 refine hE.go aH (by decide) rfl ?_
 obtain⟨n1,o1,g1,g2⟩:=Ky s (BQ xa (.slice aa an ac) (.slice ab am ad)) ZQ
 simp only[em,WZ,Wh,Wz,Xg,DD,Xb,BM,Qa,Qb,Qc,Qd,Qe,Qf,Qg,Qh,Qi,Qj,Qk,Ql,Qm,Qn,true_and,and_true,Qo,Qp,Qq,Qr,Qs,Qt,Qu,Qv,Qw,Qx,Qy,Qz,Ra,Rb,Rc,Rd,Re,Rf,Rg,Rh,Ri,Rj,Rk,Rm,Rn,Ro,Rp,Rq,Rs,Ya,Yb,Yc,Rt,Ru,Za,Yd,Ye,Rx,Ry,Rz,Wa,Wb,Wc,Wd]
 generalize newObj (newObj s (BQ xa (.slice aa an ac) (.slice ab am ad))) ZQ=s1 at *
 have l1:=Aj (P:=Tryz.prog) (t:=63) E7 Cu ((o1.2 pb hpb).trans gb) rfl
 simp only[l1,iT,iI,Qa,Qb,Qc,Qd,Qe,Qf,Qg,Qh,Qi,Qj,Qk,Ql,Qm,Qn,true_and,and_true,Qo,Qp,Qq,Qr,Qs,Qt,Qu,Qv,Qw,Qx,Qy,Qz,Ra,Rb,Rc,Rd,Re,Rf,Rg,Rh,Ri,Rj,Rk,Rm,Rn,Ro,Rp,Rq,Rs,Ya,Yb,Yc,Rt,Ru,Za,Yd,Ye,Rx,Ry,Rz,Wa,Wb,Wc,Wd]
 rw[hcb]at hvb
 refine St hE (hvb.old o1) (by omega) fun s2 v2 o2 h2 r2=>?_
 have o12:=o1.trans (o2.mono o1.1)
 refine ZA hE heq (ka:=ka) (kb:=kb) (pf:=pf) (pa:=s.next) r2 (hv.old o12) rfl hqa hqb hk (by omega) (by omega) ((o12.2 pf hpf).trans gf) ((o2.2 s.next (by omega)).trans g1) fun s3 vx vy vd o3 h3 rx ry rd=>?_
 have o13:=o12.trans (o3.mono o12.1)
 refine(hf s3 vx vy vd o13 (rx.mono (by omega)) (ry.mono (by omega)) (rd.mono (by omega))).mono ?_
 rintro r s4 ⟨cs,rfl,hl,hc,hfr,hend⟩
 have q1:=hfr (s.next+1) (by omega) (by omega)
 have q2:=hfr (s1.next+1) (by omega) (by omega)
 have q3:=hfr (s2.next+1) (by omega) (by omega)
 refine⟨cs,rfl,hl,hc,q3,cs,rfl,hl,hc,?_,?_⟩
 ·rw[Ww _ (by omega),q2,o3.2 _ (by omega)]
 have g4:(setObj (setObj s4 (s2.next+1) (R 63 0 false cs)) (s1.next+1) (R 63 0 false cs)).heap.get (s.next+1)=some ZQ:=by
  rw[Ww _ (by omega),Ww _ (by omega),q1,o3.2 _ (by omega),o2.2 _ (by omega)];exact g2
 have st:=A5 (P:=Tryz.prog) (t:=63) (cs:=cs) Cu g4 rfl hl hc (by rintro rfl;cases hl)
 have ld:=Aj (P:=Tryz.prog) (t:=63) (s:=setObj (setObj (setObj s4 (s2.next+1) (R 63 0 false cs)) (s1.next+1) (R 63 0 false cs)) (s.next+1) (R 63 0 false cs)) (i:=s.next+1) E7 Cu (Wv _ _ _) hl
 simp only[st,ld,AU,Xx,Xz,Qa,Qb,Qc,Qd,Qe,Qf,Qg,Qh,Qi,Qj,Qk,Ql,Qm,Qn,true_and,and_true,Qo,Qp,Qq,Qr,Qs,Qt,Qu,Qv,Qw,Qx,Qy,Qz,Ra,Rb,Rc,Rd,Re,Rf,Rg,Rh,Ri,Rj,Rk,Rm,Rn,Ro,Rp,Rq,Rs,Ya,Yb,Yc,Rt,Ru,Za,Yd,Ye,Rx,Ry,Rz,Wa,Wb,Wc,Wd]
 refine⟨⟨cs,rfl,hl,hc⟩,hend _ rfl fun j hj=>?_⟩
 rw[Ww _ (by omega),Ww _ (by omega),Ww _ (by omega)]
theorem dc(hE:An E){g:FuncId}{first cap:List AV}(heq:EV (.func g first cap) (.func g first cap)=true){va vb:AV}{qa qb:Rat}{ka kb:Nat}(hva:QI s va qa ka)(hvb:QI s vb qb kb)(hka:1≤ka)(hkb:1≤kb)(hk:ka+kb+1≤1000000000)
    {K:AV→AE→Prop} (hf:fX E s qa qb g first cap K):WF E 266 [va,vb,.func g first cap] K s:=by
  have hqa:=hva.qh hka
  have hqb:=hvb.qh hkb
  have hva0:=hva
  have hvb0:=hvb
  obtain⟨xa,aa,an,ac,ab,am,ad,ea⟩:=hva.shape
  obtain⟨xb,ba',bn,bc,bb,bm,bd,eb⟩:=hvb.shape
  subst ea;subst eb
  refine hE.go Z7 (by decide) rfl ?_
  obtain⟨n3,o3,g1,g2,g3⟩:=TR s (BQ xa (.slice aa an ac) (.slice ab am ad)) (BQ xb (.slice ba' bn bc) (.slice bb bm bd)) (R 303 0 false [.func g first cap])
  obtain⟨n4,o4,g4⟩:=GS (newObj (newObj (newObj s (BQ xa (.slice aa an ac) (.slice ab am ad))) (BQ xb (.slice ba' bn bc) (.slice bb bm bd))) (R 303 0 false [.func g first cap])) ZQ
  simp only[eX,V2,V3,Wz,Xg,Xn,DD,Xb,BM,Qa,Qb,Qc,Qd,Qe,Qf,Qg,Qh,Qi,Qj,Qk,Ql,Qm,Qn,true_and,and_true,Qo,Qp,Qq,Qr,Qs,Qt,Qu,Qv,Qw,Qx,Qy,Qz,Ra,Rb,Rc,Rd,Re,Rf,Rg,Rh,Ri,Rj,Rk,Rm,Rn,Ro,Rp,Rq,Rs,Ya,Yb,Yc,Rt,Ru,Za,Yd,Ye,Rx,Ry,Rz,Wa,Wb,Wc,Wd]
  generalize hs3:newObj (newObj (newObj s (BQ xa (.slice aa an ac) (.slice ab am ad))) (BQ xb (.slice ba' bn bc) (.slice bb bm bd))) (R 303 0 false [.func g first cap])=s3 at *
  generalize hs1:newObj s3 ZQ=s1 at *
  have o1:A8 s.next s s1:=o3.trans (o4.mono o3.1)
  have n1:s1.next=s.next+4:=by omega
  have k1:=(o4.2 s.next (by omega)).trans g1
  have k2:=(o4.2 (s.next+1) (by omega)).trans g2
  have k3:=(o4.2 (s.next+2) (by omega)).trans g3
  rw[n3]at g4
  have l1:=Aj (P:=Tryz.prog) (t:=63) E7 Cu k1 rfl
  simp only[l1,iT,iI,Qa,Qb,Qc,Qd,Qe,Qf,Qg,Qh,Qi,Qj,Qk,Ql,Qm,Qn,true_and,and_true,Qo,Qp,Qq,Qr,Qs,Qt,Qu,Qv,Qw,Qx,Qy,Qz,Ra,Rb,Rc,Rd,Re,Rf,Rg,Rh,Ri,Rj,Rk,Rm,Rn,Ro,Rp,Rq,Rs,Ya,Yb,Yc,Rt,Ru,Za,Yd,Ye,Rx,Ry,Rz,Wa,Wb,Wc,Wd]
  refine St hE (hva0.old o1) (by omega) fun s2 v2 o2 h2 r2=>?_
  have o12:=o1.trans (o2.mono o1.1)
  refine(bU hE heq (ka:=ka) (kb:=kb) (pf:=s.next+1+1) (pb:=s.next+1) r2 (hvb0.old o12) rfl hqa hqb hk (by omega) (by omega) ((o2.2 _ (by omega)).trans k3) ((o2.2 _ (by omega)).trans k2)
    (K:=fun r s3=>s3.heap.get (s1.next+1)=s2.heap.get (s1.next+1)∧s3.heap.get (s.next+3)=some ZQ∧∀s5,s5.next=s3.next→(∀j,(j<s.next∨s2.next≤j)→s5.heap.get j=s3.heap.get j)→K r s5) (fun s4 vx vy vd o5 rx ry rd=>?_)).mono ?_
  · have o14:=o12.trans (o5.mono o12.1)
    refine(hf s4 vx vy vd o14 (rx.mono (by omega)) (ry.mono (by omega)) (rd.mono (by omega))).mono ?_
    rintro r s6 ⟨cs,rfl,hl,hc,hfr,hend⟩
    have h5:=o5.1
    refine⟨cs,rfl,hl,hc,fun j hj1 hj2=>hfr j (by omega) hj2,fun s7 n7 f7=>⟨?_,?_,fun s8 n8 f8=>hend s8 (by omega) fun j hj=>?_⟩⟩
    · rw[f7 _ (by omega),hfr _ (by omega) (by omega),o5.2 _ (by omega)]
    · rw[f7 _ (by omega),hfr _ (by omega) (by omega),o5.2 _ (by omega),o2.2 _ (by omega)];exact g4
    · rw[f8 j (by omega),f7 j (by omega)]
  · rintro r s6 ⟨⟨cs, rfl, hl, hc⟩, q1, q2, hend⟩
    refine⟨cs,rfl,hl,hc,q1,?_⟩
    have g6:(setObj s6 (s1.next+1) (R 63 0 false cs)).heap.get (s.next+1+1+1)=some ZQ:=by
      rw[Ww _ (by omega)];exact q2
    have st:=A5 (P:=Tryz.prog) (t:=63) (cs:=cs) Cu g6 rfl hl hc (by rintro rfl;cases hl)
    have ld:=Aj (P:=Tryz.prog) (t:=63) (s:=setObj (setObj s6 (s1.next+1) (R 63 0 false cs)) (s.next+1+1+1) (R 63 0 false cs)) (i:=s.next+1+1+1) E7 Cu (Wv _ _ _) hl
    simp only[st,ld,AU,Xx,Xz,Qa,Qb,Qc,Qd,Qe,Qf,Qg,Qh,Qi,Qj,Qk,Ql,Qm,Qn,true_and,and_true,Qo,Qp,Qq,Qr,Qs,Qt,Qu,Qv,Qw,Qx,Qy,Qz,Ra,Rb,Rc,Rd,Re,Rf,Rg,Rh,Ri,Rj,Rk,Rm,Rn,Ro,Rp,Rq,Rs,Ya,Yb,Yc,Rt,Ru,Za,Yd,Ye,Rx,Ry,Rz,Wa,Wb,Wc,Wd]
    refine hend _ rfl fun j hj=>?_
    rw[Ww _ (by omega),Ww _ (by omega)]
end
theorem fJ(a b:Rat):mkRat (a.num * (b.den:Int)+b.num * (a.den:Int)) (a.den * b.den)=a+b:=by
 have:=dI (n1:=a.num) (n2:=b.num) a.den_nz b.den_nz
 rw[Rat.mkRat_self,Rat.mkRat_self]at this
 exact this.symm
theorem JR{a:Int}{d j k:Nat}(ha:a.natAbs<LB ^ j)(hd:d<LB ^ k):(a * (d:Int)).natAbs<LB ^ (j+k):=by
 rw[Int.natAbs_mul,Int.natAbs_natCast]
 exact EI ha hd
theorem qh0:QH 0 1:=⟨by decide,by decide⟩
section
variable{E:Cg}{s:AE}
theorem Yj(hE:An E){vx vy vd:AV}{x y:Int}{D b k:Nat}(hx:BR b s vx x)(hy:BR b s vy y)(hd:NR b s vd (AI D))(hxk:x.natAbs<LB ^ k)(hyk:y.natAbs<LB ^ k)(hdk:D<LB ^ k)(hD:D≠0)(hk:k+k+1≤1000000000){K:AV→AE→Prop}
  (hK:∀s' v,A8 s.next s s'→QR s.next s' v (mkRat (x+y) D)→K v s'):WF E 267 [vx,vy,vd] K s:=by
 have hbx:=hx.bi hxk
 have hby:=hy.bi hyk
 obtain⟨x1,a1,m1,c1,rfl⟩:=hbx.shape
 obtain⟨x2,a2,m2,c2,rfl⟩:=hby.shape
 refine hE.go Z8 (by decide) rfl ?_
 obtain⟨n1,o1,g1,g2,g3⟩:=TR s (BX x1 (.slice a1 m1 c1)) (BX x2 (.slice a2 m2 c2)) ZQ
 simp only[eY,V4,V5,Wz,Xg,DD,Xb,BM,Qa,Qb,Qc,Qd,Qe,Qf,Qg,Qh,Qi,Qj,Qk,Ql,Qm,Qn,true_and,and_true,Qo,Qp,Qq,Qr,Qs,Qt,Qu,Qv,Qw,Qx,Qy,Qz,Ra,Rb,Rc,Rd,Re,Rf,Rg,Rh,Ri,Rj,Rk,Rm,Rn,Ro,Rp,Rq,Rs,Ya,Yb,Yc,Rt,Ru,Za,Yd,Ye,Rx,Ry,Rz,Wa,Wb,Wc,Wd]
 generalize newObj (newObj (newObj s (BX x1 (.slice a1 m1 c1))) (BX x2 (.slice a2 m2 c2))) ZQ=s1 at *
 have l1:=Aj (P:=Tryz.prog) (t:=61) DY CH g1 rfl
 have l2:=Aj (P:=Tryz.prog) (t:=61) DY CH g2 rfl
 obtain⟨n2,o2,g4⟩:=GS s1 (R 61 2 false [.bool x1,.slice a1 m1 c1,.bool x2,.slice a2 m2 c2])
 simp only[l1,l2,IK,Xd,Qa,Qb,Qc,Qd,Qe,Qf,Qg,Qh,Qi,Qj,Qk,Ql,Qm,Qn,true_and,and_true,Qo,Qp,Qq,Qr,Qs,Qt,Qu,Qv,Qw,Qx,Qy,Qz,Ra,Rb,Rc,Rd,Re,Rf,Rg,Rh,Ri,Rj,Rk,Rm,Rn,Ro,Rp,Rq,Rs,Ya,Yb,Yc,Rt,Ru,Za,Yd,Ye,Rx,Ry,Rz,Wa,Wb,Wc,Wd]
 generalize newObj s1 (R 61 2 false [.bool x1,.slice a1 m1 c1,.bool x2,.slice a2 m2 c2])=s2 at *
 have o12:=o1.trans (o2.mono o1.1)
 rw[n1]at g4
 refine ZU hE (ri:=s.next+1+1+1) (hbx.old o12) (hby.old o12) hk (xc:=[.bool x1,.slice a1 m1 c1]) (yc:=[.bool x2,.slice a2 m2 c2]) rfl rfl (by omega) g4 fun s3 v3 o3 r3=>?_
 have h3:=o3.1
 have o13:=o12.trans (o3.mono o12.1)
 simp only[Qa,Qb,Qc,Qd,Qe,Qf,Qg,Qh,Qi,Qj,Qk,Ql,Qm,Qn,true_and,and_true,Qo,Qp,Qq,Qr,Qs,Qt,Qu,Qv,Qw,Qx,Qy,Qz,Ra,Rb,Rc,Rd,Re,Rf,Rg,Rh,Ri,Rj,Rk,Rm,Rn,Ro,Rp,Rq,Rs,Ya,Yb,Yc,Rt,Ru,Za,Yd,Ye,Rx,Ry,Rz,Wa,Wb,Wc,Wd]
 have hxy:(x+y).natAbs<LB ^ (k+1):=gm (Int.natAbs_add_le _ _) (KU hxk hyk)
 refine EJ hE (r3.bi hxy) (hd.n32.old o13) (by omega) (fx (BH hdk) (by omega)) (AR _) (by rw[AY];exact hD) fun s4 v4 o4 r4=>?_
 rw[AY]at r4
 have g5:s4.heap.get (s.next+1+1)=some ZQ:=by rw[o4.2 _ (by omega),o3.2 _ (by omega),o2.2 _ (by omega)];exact g3
 obtain⟨x4,a4,n4,c4,b4,m4,d4,rfl⟩:=r4.shape
 obtain⟨st,ld⟩:=DT (cs0:=[.bool false,.slice none 0 (some 0),.slice none 0 (some 0)]) rfl (x:=x4) (a:=a4) (n:=n4) (c:=c4) (b:=b4) (m:=m4) (d:=d4) g5
 simp only[st,ld,AU,Xx,Xz,Qa,Qb,Qc,Qd,Qe,Qf,Qg,Qh,Qi,Qj,Qk,Ql,Qm,Qn,true_and,and_true,Qo,Qp,Qq,Qr,Qs,Qt,Qu,Qv,Qw,Qx,Qy,Qz,Ra,Rb,Rc,Rd,Re,Rf,Rg,Rh,Ri,Rj,Rk,Rm,Rn,Ro,Rp,Rq,Rs,Ya,Yb,Yc,Rt,Ru,Za,Yd,Ye,Rx,Ry,Rz,Wa,Wb,Wc,Wd]
 exact hK _ _ ((o13.trans (o4.mono o13.1)).set (by omega) _) ((r4.set (by omega) _).mono (by omega))
theorem bQ(hE:An E){qa qb:Rat}{ka kb:Nat}(hqa:QH qa ka)(hqb:QH qb kb)(hk:2 * (ka+kb)+1≤1000000000){K:AV→AE→Prop}(hK:∀s' v,A8 s.next s s'→QR s.next s' v (qa+qb)→K v s'):fX E s qa qb 267 [] [] K:=by
 intro s1 vx vy vd o1 rx ry rd
 have h2:=JR hqb.1 hqa.2
 rw[Nat.add_comm kb ka]at h2
 refine Yj hE rx ry rd (JR hqa.1 hqb.2) h2 (EI hqa.2 hqb.2) (Nat.mul_ne_zero qa.den_nz qb.den_nz) (by omega) fun s2 v2 o2 r2=>?_
 rw[fJ]at r2
 obtain⟨x4,a4,n4,c4,b4,m4,d4,rfl⟩:=r2.shape
 have h1:=o1.1
 have h3:=o2.1
 refine⟨_,rfl,rfl,rfl,fun j _ hj=>o2.2 j hj,fun s3 n3 f3=>hK s3 _ ⟨by omega,fun j hj=>?_⟩ ((r2.keep (by omega) fun j hj _=>f3 j (.inr hj)).mono h1)⟩
 rw[f3 j (.inl hj),o2.2 j (by omega),o1.2 j hj]
theorem Lc(hE:An E){S:AE}{p i:Nat}(hi:i<2){x0 x1:Bool}{a0 b0 a1 b1:Option (Nat×Nat)}{n0 m0 n1 m1:Nat}{c0 d0 c1 d1:Option Nat}{ri ka kb:Nat}{qa qb:Rat}
  (hp:p<S.next) (hb:S.heap.get p=some (BQ x0 (.slice a0 n0 c0) (.slice b0 m0 d0))) (hel:AF Tryz.prog S 63 (.ptr (some (ri,0+i * 3)))=some (.agg [.bool x1,.slice a1 n1 c1,.slice b1 m1 d1]))
  (ha:QI S (.agg [.bool x0,.slice a0 n0 c0,.slice b0 m0 d0]) qa ka) (hb':QI S (.agg [.bool x1,.slice a1 n1 c1,.slice b1 m1 d1]) qb kb) (hka:1≤ka) (hkb:1≤kb) (hk:2 * (ka+kb)+1≤1000000000)
  {Q:Au→Prop} {y0 y2 y6:AV}
  (hgo:∀ (s':AE) (x2:Bool) (a2 b2:Option (Nat×Nat)) (n2 m2:Nat) (c2 d2:Option Nat) (y2 y6:AV),S.next≤s'.next→(∀j,j<S.next→j≠p→s'.heap.get j=S.heap.get j)→s'.heap.get p=some (BQ x2 (.slice a2 n2 c2) (.slice b2 m2 d2))→QR S.next s' (.agg [.bool x2,.slice a2 n2 c2,.slice b2 m2 d2]) (qa+qb) →
   WC E none (.loop Hx) Q [y0,.ptr (some (p,0)),y2,.slice (some (ri,0)) 2 (some 2),iv 2,iv ((i+1:Nat):Int),y6] [] s'):
  WC E none (.loop Hx) Q [y0,.ptr (some (p,0)),y2,.slice (some (ri,0)) 2 (some 2),iv 2,iv (i:Int),y6] [] S:=by
 have dd:decide ((i:Int)<2)=true:=decide_eq_true (by omega)
 have e1:=Aw (cap:=some 2) (i:=ri) (o:=0) (n:=3) Tryz.underlying64 Cu (show i<2 from hi)
 have e17:=By Tryz.prog 3 (i:Int) 1 ⟨by omega,by omega⟩
 have e17':((i:Int)+1)=((i+1:Nat):Int):=by omega
 refine WC.loop' ?_
 generalize hW:WC E none (Ab.loop Hx) Q=WW
 obtain⟨m3,o1,g1⟩:=GS S ZQ
 simp only[Hx,PU,Vn,Rx,dd,e1,hel,DD,Xb,Qa,Qb,Qc,Qd,Qe,Qf,Qg,Qh,Qi,Qj,Qk,Ql,Qm,Qn,true_and,and_true,Qo,Qp,Qq,Qr,Qs,Qt,Qu,Qv,Qw,Qx,Qy,Qz,Ra,Rb,Rc,Rd,Re,Rf,Rg,Rh,Ri,Rj,Rk,Rm,Rn,Ro,Rp,Rq,Rs,Ya,Yb,Yc,Rt,Ru,Za,Yd,Ye,Rx,Ry,Rz,Wa,Wb,Wc,Wd]
 generalize hs1:newObj S ZQ=s1 at *
 have st:=A5 (P:=Tryz.prog) (t:=63) (cs:=[.bool x1,.slice a1 n1 c1,.slice b1 m1 d1]) Cu g1 rfl rfl rfl (by simp)
 generalize hs2:setObj s1 S.next (R 63 0 false [.bool x1,.slice a1 n1 c1,.slice b1 m1 d1])=s2 at st
 have o2:A8 S.next S s2:=by rw[← hs2];exact o1.set (fu _) _
 have n2:s2.next=S.next+1:=by rw[← hs2];exact m3
 have k1:s2.heap.get p=some (BQ x0 (.slice a0 n0 c0) (.slice b0 m0 d0)):=(o2.2 p (by omega)).trans hb
 have k2:s2.heap.get S.next=some (R 63 0 false [.bool x1,.slice a1 n1 c1,.slice b1 m1 d1]):=by rw[← hs2,Wv]
 have l1:=Aj (P:=Tryz.prog) (t:=63) E7 Cu k1 rfl
 have l2:=Aj (P:=Tryz.prog) (t:=63) E7 Cu k2 rfl
 simp only[Vo,st,l1,l2,Xx,Xz,Qa,Qb,Qc,Qd,Qe,Qf,Qg,Qh,Qi,Qj,Qk,Ql,Qm,Qn,true_and,and_true,Qo,Qp,Qq,Qr,Qs,Qt,Qu,Qv,Qw,Qx,Qy,Qz,Ra,Rb,Rc,Rd,Re,Rf,Rg,Rh,Ri,Rj,Rk,Rm,Rn,Ro,Rp,Rq,Rs,Ya,Yb,Yc,Rt,Ru,Za,Yd,Ye,Rx,Ry,Rz,Wa,Wb,Wc,Wd]
 refine dc hE (SK _) (ha.old o2) (hb'.old o2) hka hkb (by omega) (bQ hE (ha.qh hka) (hb'.qh hkb) hk fun s3 v3 o3 r3=>?_)
 have k3:s3.heap.get p=some (BQ x0 (.slice a0 n0 c0) (.slice b0 m0 d0)):=(o3.2 p (by omega)).trans k1
 obtain⟨x4,a4,n4,c4,b4,m4,d4,rfl⟩:=r3.shape
 have st3:=A5 (P:=Tryz.prog) (t:=63) (cs:=[.bool x4,.slice a4 n4 c4,.slice b4 m4 d4]) Cu k3 rfl rfl rfl (by simp)
 simp only[st3,Xx,Xz,Vp,e17,e17',Qa,Qb,Qc,Qd,Qe,Qf,Qg,Qh,Qi,Qj,Qk,Ql,Qm,Qn,true_and,and_true,Qo,Qp,Qq,Qr,Qs,Qt,Qu,Qv,Qw,Qx,Qy,Qz,Ra,Rb,Rc,Rd,Re,Rf,Rg,Rh,Ri,Rj,Rk,Rm,Rn,Ro,Rp,Rq,Rs,Ya,Yb,Yc,Rt,Ru,Za,Yd,Ye,Rx,Ry,Rz,Wa,Wb,Wc,Wd]
 rw[← hW]
 have h3:=o3.1
 refine hgo _ x4 a4 b4 n4 m4 c4 d4 _ _ ?_ (fun j hj hne=>?_) (Wv _ _ _) ((r3.set (by omega) _).mono (by omega))
 ·show S.next≤s3.next;omega
 ·rw[Ww _ hne,o3.2 j (by omega),o2.2 j hj]
theorem bI(hE:An E){vx vy:AV}{x y:Rat}{kx ky ri:Nat}(hx:QI s vx x kx)(hy:QI s vy y ky)(hkx:1≤kx)(hky:1≤ky)(hk:2 * (kx+ky)+1≤1000000000){xc yc:List AV}(hxc:vx=.agg xc)(hyc:vy=.agg yc)(hri:ri<s.next)(hrow:s.heap.get ri=some (R 63 3 false (xc++yc)))
  {K:AV→AE→Prop} (hK:∀s' v,A8 s.next s s'→QR s.next s' v (x+y)→K v s'):WF E 231 [.slice (some (ri,0)) 2 (some 2)] K s:=by
 have hqx:=hx.qh hkx
 obtain⟨x1,a1,n1,c1,b1,m1,d1,e1⟩:=hx.shape
 obtain⟨x2,a2,n2,c2,b2,m2,d2,e2⟩:=hy.shape
 rw[hxc]at e1;rw[hyc]at e2
 injection e1 with e1;injection e2 with e2
 subst e1;subst e2;subst hxc;subst hyc
 refine hE.go Z3 (by decide) rfl ?_
 obtain⟨n3,o1,g1⟩:=GS s ZQ
 simp only[eT,Vk,Vl,DD,Xb,Qa,Qb,Qc,Qd,Qe,Qf,Qg,Qh,Qi,Qj,Qk,Ql,Qm,Qn,true_and,and_true,Qo,Qp,Qq,Qr,Qs,Qt,Qu,Qv,Qw,Qx,Qy,Qz,Ra,Rb,Rc,Rd,Re,Rf,Rg,Rh,Ri,Rj,Rk,Rm,Rn,Ro,Rp,Rq,Rs,Ya,Yb,Yc,Rt,Ru,Za,Yd,Ye,Rx,Ry,Rz,Wa,Wb,Wc,Wd]
 generalize newObj s ZQ=s1 at *
 have l1:=Aj (P:=Tryz.prog) (t:=63) E7 Cu g1 rfl
 simp only[l1,Qa,Qb,Qc,Qd,Qe,Qf,Qg,Qh,Qi,Qj,Qk,Ql,Qm,Qn,true_and,and_true,Qo,Qp,Qq,Qr,Qs,Qt,Qu,Qv,Qw,Qx,Qy,Qz,Ra,Rb,Rc,Rd,Re,Rf,Rg,Rh,Ri,Rj,Rk,Rm,Rn,Ro,Rp,Rq,Rs,Ya,Yb,Yc,Rt,Ru,Za,Yd,Ye,Rx,Ry,Rz,Wa,Wb,Wc,Wd]
 have hz:QI s1 (.agg [.bool false,.slice none 0 (some 0),.slice none 0 (some 0)]) 0 1:=⟨false,_,_,[],[],rfl,(NR.nil 0 s1).n32,(NR.nil 0 s1).n32,fun x hx=>(by cases hx),fun x hx=>(by cases hx),gF _,gF _,rfl⟩
 refine Fy hE hz (by omega) fun s2 v2 o2 r2=>?_
 have h2:=o2.1
 have o12:=o1.trans (o2.mono o1.1)
 obtain⟨x4,a4,n4,c4,b4,m4,d4,rfl⟩:=r2.shape
 have st:=A5 (P:=Tryz.prog) (t:=63) (cs:=[.bool x4,.slice a4 n4 c4,.slice b4 m4 d4]) Cu ((o2.2 s.next (by omega)).trans g1) rfl rfl rfl (by simp)
 simp only[Vm,st,AW Tryz.underlying64,Xx,Xz,Qa,Qb,Qc,Qd,Qe,Qf,Qg,Qh,Qi,Qj,Qk,Ql,Qm,Qn,true_and,and_true,Qo,Qp,Qq,Qr,Qs,Qt,Qu,Qv,Qw,Qx,Qy,Qz,Ra,Rb,Rc,Rd,Re,Rf,Rg,Rh,Ri,Rj,Rk,Rm,Rn,Ro,Rp,Rq,Rs,Ya,Yb,Yc,Rt,Ru,Za,Yd,Ye,Rx,Ry,Rz,Wa,Wb,Wc,Wd]
 generalize hs3:setObj s2 s.next (R 63 0 false [.bool x4,.slice a4 n4 c4,.slice b4 m4 d4])=s3 at *
 have h3:s3.next=s2.next:=by rw[← hs3];rfl
 have o3:A8 s.next s s3:=by rw[← hs3];exact o12.set (fu _) _
 have g3:s3.heap.get s.next=some (BQ x4 (.slice a4 n4 c4) (.slice b4 m4 d4)):=by rw[← hs3,Wv]
 have r3:QR s1.next s3 (.agg [.bool x4,.slice a4 n4 c4,.slice b4 m4 d4]) 0:=by rw[← hs3];exact r2.set (by omega) _
 have el0:AF Tryz.prog s3 63 (.ptr (some (ri,0+0 * 3)))=some (.agg [.bool x1,.slice a1 n1 c1,.slice b1 m1 d1]):=Bh (o:=0) (n:=3) E7 Cu ((o3.2 ri hri).trans hrow) (by simp)
 refine Lc hE (S:=s3) (p:=s.next) (i:=0) (by omega) (by omega) g3 el0 (r3.qi qh0) (hx.old o3) (by omega) hkx (by omega) fun s4 x5 a5 b5 n5 m5 c5 d5 y2 y6 q1 q2 q3 q4=>?_
 rw[Rat.zero_add]at q4
 have o4:A8 s.next s s4:=⟨by omega,fun j hj=>by rw[q2 j (by omega) (by omega),o3.2 j hj]⟩
 have el1:AF Tryz.prog s4 63 (.ptr (some (ri,0+1 * 3)))=some (.agg [.bool x2,.slice a2 n2 c2,.slice b2 m2 d2]):=Bh (o:=3) (n:=3) E7 Cu ((o4.2 ri hri).trans hrow) (by simp)
 refine Lc hE (S:=s4) (p:=s.next) (i:=0+1) (by omega) (by omega) q3 el1 (q4.qi hqx) (hy.old o4) hkx hky hk fun s5 x6 a6 b6 n6 m6 c6 d6 y2 y6 w1 w2 w3 w4=>?_
 have o5:A8 s.next s s5:=⟨by omega,fun j hj=>by rw[w2 j (by omega) (by omega),o4.2 j hj]⟩
 have dd:decide (((0+1+1:Nat):Int)<2)=false:=rfl
 refine WC.loop' ?_
 have l1:=Aj (P:=Tryz.prog) (t:=63) E7 Cu w3 rfl
 obtain⟨st,ld⟩:=DT rfl (x:=x6) (a:=a6) (n:=n6) (c:=c6) (b:=b6) (m:=m6) (d:=d6) w3
 simp only[Hx,PU,Vq,Rx,dd,l1,st,ld,if_true,AU,Xx,Xz,Qa,Qb,Qc,Qd,Qe,Qf,Qg,Qh,Qi,Qj,Qk,Ql,Qm,Qn,true_and,and_true,Qo,Qp,Qq,Qr,Qs,Qt,Qu,Qv,Qw,Qx,Qy,Qz,Ra,Rb,Rc,Rd,Re,Rf,Rg,Rh,Ri,Rj,Rk,Rm,Rn,Ro,Rp,Rq,Rs,Ya,Yb,Yc,Rt,Ru,Za,Yd,Ye,Rx,Ry,Rz,Wa,Wb,Wc,Wd]
 exact hK _ _ (o5.set (fu _) _) ((w4.set (by omega) _).mono (by omega))
theorem Td(x y:Bool)(a b a' b':Option (Nat×Nat))(n m n' m':Nat)(c d c' d':Option Nat):Ak Tryz.prog 64 2 (zipIdx [0,1] [.agg [.bool x,.slice a n c,.slice b m d],.agg [.bool y,.slice a' n' c',.slice b' m' d']])=some (R 63 3 false [.bool x,.slice a n c,.slice b m d,.bool y,.slice a' n' c',.slice b' m' d']):=by kernel_rfl
theorem bF(hE:An E){vx vy:AV}{x y:Rat}{kx ky:Nat}(hx:QI s vx x kx)(hy:QI s vy y ky)(hkx:1≤kx)(hky:1≤ky)(hk:2 * (kx+ky)+1≤1000000000){K:AV→AE→Prop}(hK:∀s' v,A8 s.next s s'→QR s.next s' v (x+y)→K v s'):WF E 183 [vx,vy] K s:=by
 obtain⟨x1,a1,n1,c1,b1,m1,d1,rfl⟩:=hx.shape
 obtain⟨x2,a2,n2,c2,b2,m2,d2,rfl⟩:=hy.shape
 refine hE.go Zr (by decide) rfl ?_
 obtain⟨n3,o1,g1,g2,g3⟩:=TR s (BQ x1 (.slice a1 n1 c1) (.slice b1 m1 d1)) (BQ x2 (.slice a2 n2 c2) (.slice b2 m2 d2)) ZQ
 simp only[eH,Uk,Ul,Wz,Xg,DD,Xb,BM,Qa,Qb,Qc,Qd,Qe,Qf,Qg,Qh,Qi,Qj,Qk,Ql,Qm,Qn,true_and,and_true,Qo,Qp,Qq,Qr,Qs,Qt,Qu,Qv,Qw,Qx,Qy,Qz,Ra,Rb,Rc,Rd,Re,Rf,Rg,Rh,Ri,Rj,Rk,Rm,Rn,Ro,Rp,Rq,Rs,Ya,Yb,Yc,Rt,Ru,Za,Yd,Ye,Rx,Ry,Rz,Wa,Wb,Wc,Wd]
 generalize newObj (newObj (newObj s (BQ x1 (.slice a1 n1 c1) (.slice b1 m1 d1))) (BQ x2 (.slice a2 n2 c2) (.slice b2 m2 d2))) ZQ=s1 at *
 have l1:=Aj (P:=Tryz.prog) (t:=63) E7 Cu g1 rfl
 have l2:=Aj (P:=Tryz.prog) (t:=63) E7 Cu g2 rfl
 obtain⟨n4,o2,g4⟩:=GS s1 (R 63 3 false [.bool x1,.slice a1 n1 c1,.slice b1 m1 d1,.bool x2,.slice a2 n2 c2,.slice b2 m2 d2])
 simp only[l1,l2,Td,Xd,Qa,Qb,Qc,Qd,Qe,Qf,Qg,Qh,Qi,Qj,Qk,Ql,Qm,Qn,true_and,and_true,Qo,Qp,Qq,Qr,Qs,Qt,Qu,Qv,Qw,Qx,Qy,Qz,Ra,Rb,Rc,Rd,Re,Rf,Rg,Rh,Ri,Rj,Rk,Rm,Rn,Ro,Rp,Rq,Rs,Ya,Yb,Yc,Rt,Ru,Za,Yd,Ye,Rx,Ry,Rz,Wa,Wb,Wc,Wd]
 generalize newObj s1 (R 63 3 false [.bool x1,.slice a1 n1 c1,.slice b1 m1 d1,.bool x2,.slice a2 n2 c2,.slice b2 m2 d2])=s2 at *
 have o12:=o1.trans (o2.mono o1.1)
 rw[n3]at g4
 refine bI hE (ri:=s.next+1+1+1) (hx.old o12) (hy.old o12) hkx hky hk (xc:=[.bool x1,.slice a1 n1 c1,.slice b1 m1 d1]) (yc:=[.bool x2,.slice a2 n2 c2,.slice b2 m2 d2]) rfl rfl (by omega) g4 fun s3 v3 o3 r3=>?_
 have o13:=o12.trans (o3.mono o12.1)
 have g5:s3.heap.get (s.next+1+1)=some ZQ:=by rw[o3.2 _ (by omega),o2.2 _ (by omega)];exact g3
 obtain⟨x4,a4,n4,c4,b4,m4,d4,rfl⟩:=r3.shape
 obtain⟨st,ld⟩:=DT (cs0:=[.bool false,.slice none 0 (some 0),.slice none 0 (some 0)]) rfl (x:=x4) (a:=a4) (n:=n4) (c:=c4) (b:=b4) (m:=m4) (d:=d4) g5
 simp only[st,ld,AU,Xx,Xz,Qa,Qb,Qc,Qd,Qe,Qf,Qg,Qh,Qi,Qj,Qk,Ql,Qm,Qn,true_and,and_true,Qo,Qp,Qq,Qr,Qs,Qt,Qu,Qv,Qw,Qx,Qy,Qz,Ra,Rb,Rc,Rd,Re,Rf,Rg,Rh,Ri,Rj,Rk,Rm,Rn,Ro,Rp,Rq,Rs,Ya,Yb,Yc,Rt,Ru,Za,Yd,Ye,Rx,Ry,Rz,Wa,Wb,Wc,Wd]
 exact hK _ _ (o13.set (by omega) _) ((r3.set (by omega) _).mono (by omega))
end
theorem fK(a b:Rat):mkRat (a.num * b.num) (a.den * b.den)=a * b:=by
 have:=dK a.num b.num a.den b.den
 rw[Rat.mkRat_self,Rat.mkRat_self]at this
 exact this.symm
section
variable{E:Cg}{s:AE}
theorem bH(hE:An E){vx vy:AV}{x y:Rat}{kx ky:Nat}(hx:QI s vx x kx)(hy:QI s vy y ky)(hkx:1≤kx)(hky:1≤ky)(hk:kx+ky+1≤1000000000){K:AV→AE→Prop}(hK:∀s' v,A8 s.next s s'→QR s.next s' v (x * y)→K v s'):WF E 184 [vx,vy] K s:=by
 have hqx:=hx.qh hkx
 have hqy:=hy.qh hky
 have hx0:=hx
 have hy0:=hy
 obtain⟨x1,a1,n1,c1,b1,m1,d1,ex⟩:=hx.shape
 obtain⟨x2,a2,n2,c2,b2,m2,d2,ey⟩:=hy.shape
 subst ex;subst ey
 refine hE.go Zs (by decide) rfl ?_
 obtain⟨n3,o1,g1,g2,g3⟩:=TR s (BQ x1 (.slice a1 n1 c1) (.slice b1 m1 d1)) (BQ x2 (.slice a2 n2 c2) (.slice b2 m2 d2)) ZQ
 simp only[eI,Um,Un,Wz,Xg,DD,Xb,BM,Qa,Qb,Qc,Qd,Qe,Qf,Qg,Qh,Qi,Qj,Qk,Ql,Qm,Qn,true_and,and_true,Qo,Qp,Qq,Qr,Qs,Qt,Qu,Qv,Qw,Qx,Qy,Qz,Ra,Rb,Rc,Rd,Re,Rf,Rg,Rh,Ri,Rj,Rk,Rm,Rn,Ro,Rp,Rq,Rs,Ya,Yb,Yc,Rt,Ru,Za,Yd,Ye,Rx,Ry,Rz,Wa,Wb,Wc,Wd]
 generalize newObj (newObj (newObj s (BQ x1 (.slice a1 n1 c1) (.slice b1 m1 d1))) (BQ x2 (.slice a2 n2 c2) (.slice b2 m2 d2))) ZQ=s1 at *
 have l1:=Aj (P:=Tryz.prog) (t:=63) E7 Cu g1 rfl
 have l2:=Aj (P:=Tryz.prog) (t:=63) E7 Cu g2 rfl
 simp only[l1,l2,Qa,Qb,Qc,Qd,Qe,Qf,Qg,Qh,Qi,Qj,Qk,Ql,Qm,Qn,true_and,and_true,Qo,Qp,Qq,Qr,Qs,Qt,Qu,Qv,Qw,Qx,Qy,Qz,Ra,Rb,Rc,Rd,Re,Rf,Rg,Rh,Ri,Rj,Rk,Rm,Rn,Ro,Rp,Rq,Rs,Ya,Yb,Yc,Rt,Ru,Za,Yd,Ye,Rx,Ry,Rz,Wa,Wb,Wc,Wd]
 refine Fy hE (hx0.old o1) (by omega) fun s2 v2 o2 r2=>?_
 have h2:=o2.1
 have f1:=(o2.2 s.next (by omega)).trans g1
 have f2:=(o2.2 (s.next+1) (by omega)).trans g2
 have f3:=(o2.2 (s.next+1+1) (by omega)).trans g3
 refine⟨⟨BG (by simp only[Qa,Qb,Qc,Qd,Qe,Qf,Qg,Qh,Qi,Qj,Qk,Ql,Qm,Qn,true_and,and_true,Qo,Qp,Qq,Qr,Qs,Qt,Qu,Qv,Qw,Qx,Qy,Qz,Ra,Rb,Rc,Rd,Re,Rf,Rg,Rh,Ri,Rj,Rk,Rm,Rn,Ro,Rp,Rq,Rs,Ya,Yb,Yc,Rt,Ru,Za,Yd,Ye,Rx,Ry,Rz,Wa,Wb,Wc,Wd];exact Aj E7 Cu f2 rfl) (Xe _ _ _ _ _ _ _),trivial⟩,?_⟩
 have o12:=o1.trans (o2.mono o1.1)
 simp only[Qa,Qb,Qc,Qd,Qe,Qf,Qg,Qh,Qi,Qj,Qk,Ql,Qm,Qn,true_and,and_true,Qo,Qp,Qq,Qr,Qs,Qt,Qu,Qv,Qw,Qx,Qy,Qz,Ra,Rb,Rc,Rd,Re,Rf,Rg,Rh,Ri,Rj,Rk,Rm,Rn,Ro,Rp,Rq,Rs,Ya,Yb,Yc,Rt,Ru,Za,Yd,Ye,Rx,Ry,Rz,Wa,Wb,Wc,Wd]
 refine Fy hE (hy0.old o12) (by omega) fun s3 v3 o3 r3=>?_
 have h3:=o3.1
 have o13:=o12.trans (o3.mono o12.1)
 have r2':=r2.old o3
 have e1:=(o3.2 s.next (by omega)).trans f1
 have e2:=(o3.2 (s.next+1) (by omega)).trans f2
 have e3:=(o3.2 (s.next+1+1) (by omega)).trans f3
 obtain⟨ma,da,rfl,hna,hda,_⟩:=r2'
 obtain⟨mb,db,rfl,hnb,hdb,_⟩:=r3
 obtain⟨a4,n4,c4,rfl⟩:=hna.n32.shape
 obtain⟨b4,m4,d4,rfl⟩:=hda.n32.shape
 obtain⟨a5,n5,c5,rfl⟩:=hnb.n32.shape
 obtain⟨b5,m5,d5,rfl⟩:=hdb.n32.shape
 have st1:=A5 (P:=Tryz.prog) (t:=63) (cs:=[.bool (decide (x.num<0)),.slice a4 n4 c4,.slice b4 m4 d4]) Cu e1 rfl rfl rfl (by simp)
 generalize hs4:setObj s3 s.next (BQ (decide (x.num<0)) (.slice a4 n4 c4) (.slice b4 m4 d4))=s4 at st1
 have e2':s4.heap.get (s.next+1)=some (BQ x2 (.slice a2 n2 c2) (.slice b2 m2 d2)):=by rw[← hs4,Ww _ (by omega)];exact e2
 have st2:=A5 (P:=Tryz.prog) (t:=63) (cs:=[.bool (decide (y.num<0)),.slice a5 n5 c5,.slice b5 m5 d5]) Cu e2' rfl rfl rfl (by simp)
 generalize hs5:setObj s4 (s.next+1) (BQ (decide (y.num<0)) (.slice a5 n5 c5) (.slice b5 m5 d5))=s5 at st2
 have k1:s5.heap.get s.next=some (BQ (decide (x.num<0)) (.slice a4 n4 c4) (.slice b4 m4 d4)):=by rw[← hs5,Ww _ (by omega),← hs4,Wv]
 have k2:s5.heap.get (s.next+1)=some (BQ (decide (y.num<0)) (.slice a5 n5 c5) (.slice b5 m5 d5)):=by rw[← hs5,Wv]
 have k3:s5.heap.get (s.next+1+1)=some ZQ:=by rw[← hs5,Ww _ (by omega),← hs4,Ww _ (by omega)];exact e3
 have n6:s5.next=s3.next:=by rw[← hs5,← hs4];rfl
 have o5:A8 s.next s s5:=by
  rw[← hs5,← hs4]
  exact(o13.set (fu _) _).set (by omega) _
 have pna:NR s1.next s5 (.slice a4 n4 c4) (AI x.num.natAbs):=by rw[← hs5,← hs4];exact(hna.set (by omega) _).set (by omega) _
 have pda:NR s1.next s5 (.slice b4 m4 d4) (AI x.den):=by rw[← hs5,← hs4];exact(hda.set (by omega) _).set (by omega) _
 have pnb:NR s2.next s5 (.slice a5 n5 c5) (AI y.num.natAbs):=by rw[← hs5,← hs4];exact(hnb.set (by omega) _).set (by omega) _
 have pdb:NR s2.next s5 (.slice b5 m5 d5) (AI y.den):=by rw[← hs5,← hs4];exact(hdb.set (by omega) _).set (by omega) _
 have l1:AF Tryz.prog s5 61 (.ptr (some (s.next,0+0)))=some (.agg [.bool (decide (x.num<0)),.slice a4 n4 c4]):=Bh (o:=0) (n:=2) DY CH k1 (by simp)
 have l2:AF Tryz.prog s5 61 (.ptr (some (s.next+1,0+0)))=some (.agg [.bool (decide (y.num<0)),.slice a5 n5 c5]):=Bh (o:=0) (n:=2) DY CH k2 (by simp)
 obtain⟨n7,o6,g6⟩:=GS s5 (R 61 2 false [.bool (decide (x.num<0)),.slice a4 n4 c4,.bool (decide (y.num<0)),.slice a5 n5 c5])
 simp only[Uo,st1,st2,l1,l2,IK,Xd,Js,Pq,Xx,Xz,Qa,Qb,Qc,Qd,Qe,Qf,Qg,Qh,Qi,Qj,Qk,Ql,Qm,Qn,true_and,and_true,Qo,Qp,Qq,Qr,Qs,Qt,Qu,Qv,Qw,Qx,Qy,Qz,Ra,Rb,Rc,Rd,Re,Rf,Rg,Rh,Ri,Rj,Rk,Rm,Rn,Ro,Rp,Rq,Rs,Ya,Yb,Yc,Rt,Ru,Za,Yd,Ye,Rx,Ry,Rz,Wa,Wb,Wc,Wd]
 generalize newObj s5 (R 61 2 false [.bool (decide (x.num<0)),.slice a4 n4 c4,.bool (decide (y.num<0)),.slice a5 n5 c5])=s6 at *
 have o56:=o5.trans (o6.mono o5.1)
 have la:∀ {s'},A8 s5.next s5 s'→AF Tryz.prog s' 59 (.ptr (some (s.next,0+2)))=some (.slice b4 m4 d4):=fun o=>Ae (o:=0+2) D7 ((o.2 s.next (by omega)).trans k1) rfl
 have lb:∀ {s'},A8 s5.next s5 s'→AF Tryz.prog s' 59 (.ptr (some (s.next+1,0+2)))=some (.slice b5 m5 d5):=fun o=>Ae (o:=0+2) D7 ((o.2 (s.next+1) (by omega)).trans k2) rfl
 simp only[la o6,lb o6,Qa,Qb,Qc,Qd,Qe,Qf,Qg,Qh,Qi,Qj,Qk,Ql,Qm,Qn,true_and,and_true,Qo,Qp,Qq,Qr,Qs,Qt,Qu,Qv,Qw,Qx,Qy,Qz,Ra,Rb,Rc,Rd,Re,Rf,Rg,Rh,Ri,Rj,Rk,Rm,Rn,Ro,Rp,Rq,Rs,Ya,Yb,Yc,Rt,Ru,Za,Yd,Ye,Rx,Ry,Rz,Wa,Wb,Wc,Wd]
 have bx:BI s5 (.agg [.bool (decide (x.num<0)),.slice a4 n4 c4]) x.num kx:=BR.bi (b:=s1.next) ⟨_,rfl,pna⟩ hqx.1
 have by':BI s5 (.agg [.bool (decide (y.num<0)),.slice a5 n5 c5]) y.num ky:=BR.bi (b:=s2.next) ⟨_,rfl,pnb⟩ hqy.1
 refine RA hE (bx.old o6) (by'.old o6) hk (xc:=[.bool (decide (x.num<0)),.slice a4 n4 c4]) (yc:=[.bool (decide (y.num<0)),.slice a5 n5 c5]) rfl rfl (by omega) g6 fun s7 v7 o7 r7=>?_
 have h7:=o7.1
 have o57:A8 s5.next s5 s7:=o6.trans (o7.mono o6.1)
 refine⟨⟨BG (by simp only[Qa,Qb,Qc,Qd,Qe,Qf,Qg,Qh,Qi,Qj,Qk,Ql,Qm,Qn,true_and,and_true,Qo,Qp,Qq,Qr,Qs,Qt,Qu,Qv,Qw,Qx,Qy,Qz,Ra,Rb,Rc,Rd,Re,Rf,Rg,Rh,Ri,Rj,Rk,Rm,Rn,Ro,Rp,Rq,Rs,Ya,Yb,Yc,Rt,Ru,Za,Yd,Ye,Rx,Ry,Rz,Wa,Wb,Wc,Wd];exact lb o57) (Cn _ _ _),BG (by simp only[Qa,Qb,Qc,Qd,Qe,Qf,Qg,Qh,Qi,Qj,Qk,Ql,Qm,Qn,true_and,and_true,Qo,Qp,Qq,Qr,Qs,Qt,Qu,Qv,Qw,Qx,Qy,Qz,Ra,Rb,Rc,Rd,Re,Rf,Rg,Rh,Ri,Rj,Rk,Rm,Rn,Ro,Rp,Rq,Rs,Ya,Yb,Yc,Rt,Ru,Za,Yd,Ye,Rx,Ry,Rz,Wa,Wb,Wc,Wd];exact la o57) (Cn _ _ _),trivial⟩,?_⟩
 simp only[Qa,Qb,Qc,Qd,Qe,Qf,Qg,Qh,Qi,Qj,Qk,Ql,Qm,Qn,true_and,and_true,Qo,Qp,Qq,Qr,Qs,Qt,Qu,Qv,Qw,Qx,Qy,Qz,Ra,Rb,Rc,Rd,Re,Rf,Rg,Rh,Ri,Rj,Rk,Rm,Rn,Ro,Rp,Rq,Rs,Ya,Yb,Yc,Rt,Ru,Za,Yd,Ye,Rx,Ry,Rz,Wa,Wb,Wc,Wd]
 have dxl:=BH hqx.2
 have dyl:=BH hqy.2
 refine P8 hE (pda.n32.old o57) (pdb.n32.old o57) (by omega) (by omega) (AR _) (AR _) fun s8 v8 o8 r8=>?_
 rw[AY,AY]at r8
 have h8:=o8.1
 have hxy:(x.num * y.num).natAbs<LB ^ (kx+ky):=by rw[Int.natAbs_mul];exact EI hqx.1 hqy.1
 simp only[Qa,Qb,Qc,Qd,Qe,Qf,Qg,Qh,Qi,Qj,Qk,Ql,Qm,Qn,true_and,and_true,Qo,Qp,Qq,Qr,Qs,Qt,Qu,Qv,Qw,Qx,Qy,Qz,Ra,Rb,Rc,Rd,Re,Rf,Rg,Rh,Ri,Rj,Rk,Rm,Rn,Ro,Rp,Rq,Rs,Ya,Yb,Yc,Rt,Ru,Za,Yd,Ye,Rx,Ry,Rz,Wa,Wb,Wc,Wd]
 refine EJ hE ((r7.bi hxy).old o8) r8.n32 (by omega) (fx (BH (EI hqx.2 hqy.2)) (by omega)) (AR _) (by rw[AY];exact Nat.mul_ne_zero x.den_nz y.den_nz) fun s9 v9 o9 r9=>?_
 rw[AY,fK]at r9
 have h9:=o9.1
 have o59:A8 s5.next s5 s9:=o57.trans ((o8.trans (o9.mono h8)).mono o57.1)
 obtain⟨x9,a9,n9,c9,b9,m9,d9,rfl⟩:=r9.shape
 obtain⟨st,ld⟩:=DT (cs0:=[.bool false,.slice none 0 (some 0),.slice none 0 (some 0)]) rfl (x:=x9) (a:=a9) (n:=n9) (c:=c9) (b:=b9) (m:=m9) (d:=d9) ((o59.2 (s.next+1+1) (by omega)).trans k3)
 simp only[st,ld,AU,Xx,Xz,Qa,Qb,Qc,Qd,Qe,Qf,Qg,Qh,Qi,Qj,Qk,Ql,Qm,Qn,true_and,and_true,Qo,Qp,Qq,Qr,Qs,Qt,Qu,Qv,Qw,Qx,Qy,Qz,Ra,Rb,Rc,Rd,Re,Rf,Rg,Rh,Ri,Rj,Rk,Rm,Rn,Ro,Rp,Rq,Rs,Ya,Yb,Yc,Rt,Ru,Za,Yd,Ye,Rx,Ry,Rz,Wa,Wb,Wc,Wd]
 exact hK _ _ ((o5.trans (o59.mono o5.1)).set (by omega) _) ((r9.set (by omega) _).mono (by omega))
end
section
variable{P:Program}{ρ ρ1 ρ2:A4}{s s1 s2:AE}{w w0 w1 w2:World}
theorem Av.addRow  (h : Av  P ρ s w) (hf : Ag     ρ s) {r : B6}   {rb : RB} (hok : BF    (Bc     ρ s.next rb) w r rb) (hlt : rb.b < w.heap.size) (hne : ∀ j oj rj, s.heap.get j = some oj → ρ j = some rj → rj.b ≠ rb.b) : Av  P (Bc     ρ s.next rb) (newObj s (.row r)) w := by
  have hfn:=(hf s.next (fu _)).1
  have hle:=Ax (rb:=rb) hfn
  refine⟨?_,?_,?_,?_⟩
  · intro x ox rx hx hrx
    rw[Ah]at hx
    by_cases e:x=s.next
    · subst e
      rw[if_pos rfl]at hx
      injection hx with hx
      rw[AM]at hrx
      injection hrx with hrx
      subst hx;subst hrx
      exact hok
    · rw [if_neg e] at hx
      rw[AJ rb e]at hrx
      exact(h.obj x ox rx hx hrx).mono hle rfl
  · intro x rx hrx
    by_cases e:x=s.next
    · subst e
      rw[AM]at hrx
      injection hrx with hrx
      subst hrx
      exact hlt
    · rw[AJ rb e]at hrx
      exact h.lt x rx hrx
  · intro x y ox oy rx ry hxy hx hy hrx hry hbb hw
    rw[Ah]at hx hy
    by_cases ex:x=s.next
    · subst ex
      have ey:y≠s.next:=fun e=>hxy e.symm
      rw[AM]at hrx
      injection hrx with hrx
      subst hrx
      rw[if_neg ey]at hy
      rw[AJ rb ey]at hry
      exact absurd hbb.symm (hne y oy ry hy hry)
    · by_cases ey : y = s.next
      · subst ey
        rw[AM]at hry
        injection hry with hry
        subst hry
        rw[if_neg ex]at hx
        rw[AJ rb ex]at hrx
        exact absurd hbb (hne x ox rx hx hrx)
      · rw [if_neg ex] at hx
        rw[if_neg ey]at hy
        rw[AJ rb ex]at hrx
        rw[AJ rb ey]at hry
        exact h.sep x y ox oy rx ry hxy hx hy hrx hry hbb hw
  · intro x ox g hx hgo
    rw[Ah]at hx
    by_cases e:x=s.next
    · subst e;exact⟨_,AM _ _⟩
    · rw[if_neg e]at hx
      obtain⟨r',hr'⟩:=h.glb x ox g hx hgo
      exact⟨r',hle _ _ hr'⟩
theorem Fr.addRow(h:Fr ρ s w0 ρ1 s1 w)(hf:Ag ρ1 s1){r:B6}{rb:RB}(hge:w0.heap.size≤rb.b):Fr ρ s w0 (Bc ρ1 s1.next rb) (newObj s1 (.row r)) w:=by
  have hfn:=(hf s1.next (fu _)).1
  have hle:=Ax (rb:=rb) hfn
  have hn:=h.next
  refine⟨A4.le_trans h.le hle,?_,by show s.next≤s1.next+1;omega,h.size,h.os,h.tape,h.output,h.keep,?_,?_,fun x rb' hx h0=>?_,fun x ox rb' hx h0=>?_⟩
  · intro x hx hxr
    have hxr':x<s.next∨s1.next+1≤x:=hxr
    have:x≠s1.next:=by omega
    rw[AJ rb this]
    exact h.fresh x hx (by omega)
  · rintro b ⟨x, ox, rx, hx, hw, hrx, rfl⟩
    rw[Ah]at hx
    by_cases e:x=s1.next
    · subst e
      rw[AM]at hrx
      injection hrx with hrx
      subst hrx
      exact .inr hge
    · rw [if_neg e] at hx
      rw[AJ rb e]at hrx
      exact h.own _ ⟨x,ox,rx,hx,hw,hrx,rfl⟩
  · intro x hx hxr
    have hxr':x<s.next∨s1.next+1≤x:=hxr
    rw[Ah,if_neg (by omega)]
    exact h.unborn x hx (by omega)
  · by_cases e : x = s1.next
    · subst e;rw[AM]at hx;injection hx with hx;subst hx;exact .inl hge
    · rw[AJ rb e]at hx;exact h.blk x rb' hx h0
  · rw[Ah]at hx
    by_cases e:x=s1.next
    · subst e;have h1:=h.le _ _ h0;rw[hfn]at h1;cases h1
    · rw[if_neg e]at hx;exact h.dom x ox rb' hx h0
def dT(l:List Nat):B6:={ elem:=203,sz:=1,n:=l.length,c:=AB.fill .leaf 0 (us l),spare:=true,mode:=.own,par:=none,bytes:=false }
def Gx(s:AE):List Nat→AV×AE
 | []=>(.slice none 0 (some 0),s)
 | x::l=>(.slice (some (s.next,0)) (x::l).length none,newObj s (.row (dT (x::l))))
def JP(b:Nat)(s:AE)(v:AV)(l:List Nat):Prop:=
 (l=[]∧v=.slice none 0 (some 0))∨(l≠[]∧∃i,v=.slice (some (i,0)) l.length none∧b≤i∧∃r,s.heap.get i=some (.row r)∧JM r (us l)∧CS r.mode=true∧r.sz=1∧r.elem=203)
theorem aX{l:List Nat}{k:Nat}{v:AV}(h:(us l)[k]? = some v):IZ v=true:=by
 have:(l.map BO)[k]? = some v:=h
 rw[iJ]at this
 obtain⟨x,_,rfl⟩:=Option.map_eq_some_iff.1 this
 rfl
theorem KW       {ρ' : A4}  {s' : AE}  {b : Nat} {v : AV} {l : List Nat} {v' : Value} (hs : JP    b s' v l) (h' : Av  P ρ' s' w) (hv : AL   ρ' v v')
    (hge:∀i o rb,b≤i→s'.heap.get i=some o→wr o=true→ρ' i=some rb→w0.heap.size≤rb.b)
    (h1:Av P ρ1 s1 w) (hf1:Ag ρ1 s1) (hfr:Fr ρ s w0 ρ1 s1 w) (hne:∀i rb,C8 v=some i→ρ' i=some rb→∀j oj rj,s1.heap.get j=some oj→ρ1 j=some rj→rj.b≠rb.b):
    ∃ρ2,Av P ρ2 (Gx s1 l).2 w∧Ag ρ2 (Gx s1 l).2∧Fr ρ s w0 ρ2 (Gx s1 l).2 w∧ρ1.le ρ2∧AL ρ2 (Gx s1 l).1 v' ∧
      (∀j oj rj,(Gx s1 l).2.heap.get j=some oj→ρ2 j=some rj→(∃o1,s1.heap.get j=some o1∧ρ1 j=some rj)∨∃i rb,C8 v=some i∧ρ' i=some rb∧rj.b=rb.b):=by
  rcases hs with⟨rfl,rfl⟩ | ⟨hl,i,rfl,hbi,r,hg,hh,hm,hsz,hel⟩
  · refine⟨ρ1,h1,hf1,hfr,A4.le_refl _,Co rfl hv,fun j oj rj hj hr=>.inl ⟨oj,hj,hr⟩⟩
  · cases l with
    | nil=>exact absurd rfl hl
    | cons x l =>
      cases hv with
      | @sliceOpen _ _ _ c rb hr q1 q2 q3 q4 =>
        have hok:BF ρ' w r rb:=h'.obj i _ rb hg hr
        have hrn:r.n=(x::l).length:=by rw[hh.1,CM]
        have hmo:r.mode≠.ro:=fun e=>by rw[e]at hm;cases hm
        obtain⟨cs,k1,k2⟩:=hok.own hmo
        have hno:∀ (σ:A4),BF σ w (dT (x::l)) rb:=fun σ=>by
          refine⟨fun k u hk hu=>?_,by show(x::l).length≤_;rw[← hrn];exact hok.le,by show 1=_;rw[← hsz];exact hok.sz,fun e=>(by cases e),fun _=>⟨cs,by show _=some (Obj.cells cs 203 (0,0));rw[← hel];exact k1,k2⟩,fun e=>(by cases e),fun g e=>(by cases e),fun p e=>(by cases e)⟩
          have hk':k<(x::l).length:=hk
          have hu':(us (x::l))[k]? = some u:=by
            have:(AB.fill .leaf 0 (us (x::l))).get k=some u:=hu
            rw[AB.get_fill,if_pos ⟨gF _,by rw[CM];omega⟩]at this
            simpa using this
          obtain⟨v',e1,e2⟩:=hok.cells k u (by omega) (hh.2 k u hu')
          exact⟨v',e1,Co (aX hu') e2⟩
        have hlt:=h'.lt i rb hr
        refine⟨Bc ρ1 s1.next rb,h1.addRow hf1 (hno _) hlt (hne i rb rfl hr),hf1.new _ _,hfr.addRow hf1 (hge i _ rb hbi hg hm hr),Ax (hf1 s1.next (fu _)).1,.sliceOpen (AM _ _) q1 q2 q3 q4,fun j oj rj hj hr2=>?_⟩
        have hj':(newObj s1 (.row (dT (x::l)))).heap.get j=some oj:=hj
        rw[Ah]at hj'
        by_cases e:j=s1.next
        · subst e
          rw[AM]at hr2
          injection hr2 with hr2
          exact .inr ⟨i,rb,rfl,hr,by rw[← hr2]⟩
        · rw [if_neg e] at hj'
          rw[AJ rb e]at hr2
          exact .inl ⟨oj,hj',hr2⟩
end
end
end Go.Proofs.YtfgmceookgelcaaGreatDoor.Am
set_option linter.unusedVariables false
set_option linter.unusedSimpArgs false
namespace Go.Proofs.YtfgmceookgelcaaGreatDoor.Am
open Go Go.RowKit
noncomputable section
def Py(x:Int):List Int→List Int
 | []=>[x]
 | y::l=>bif Kw x y then x::y::l else y::Py x l
def J1:List Int→List Int
 | []=>[]
 | x::l=>Py x (J1 l)
theorem H9(x:Int):∀l:List Int,(Py x l).Perm (x::l)
 | []=>.refl _
 | y::l=>by
  unfold Py
  cases Kw x y with
  | true=>exact .refl _
  | false=>exact((H9 x l).cons y).trans (.swap x y l)
theorem Gq:∀l:List Int,(J1 l).Perm l
 | []=>.refl _
 | x::l=>(H9 x _).trans ((Gq l).cons x)
theorem Ia(x:Int):∀l:List Int,l.Pairwise (·≤·)→(Py x l).Pairwise (·≤·)
 | [],_=>by simp[Py]
 | y::l,h=>by
  unfold Py
  have hl:=List.pairwise_cons.1 h
  rw[CV]
  by_cases hxy:x<y
  ·simp only[hxy,decide_true,cond_true]
   refine List.pairwise_cons.2 ⟨fun z hz=>?_,h⟩
   rcases hZ.1 hz with rfl | hz
   ·omega
   ·have:=hl.1 z hz;omega
  ·simp only[hxy,decide_false,cond_false]
   refine List.pairwise_cons.2 ⟨fun z hz=>?_,Ia x l hl.2⟩
   rcases hZ.1 ((H9 x l).mem_iff.1 hz)with rfl | hz
   ·omega
   ·exact hl.1 z hz
theorem HR:∀l:List Int,(J1 l).Pairwise (·≤·)
 | []=>.nil
 | x::l=>Ia x _ (HR l)
theorem Tf        {l m : List Int} (hp : l.Perm m) (hl : l.Pairwise (· ≤ ·)) (hm : m.Pairwise (· ≤ ·)) : l = m := by
  induction l generalizing m with
  | nil=>exact(List.nil_perm.1 hp).symm
  | cons a l ih =>
    cases m with
    | nil=>exact absurd hp.length_eq (by simp)
    | cons b m =>
      have hl':=List.pairwise_cons.1 hl
      have hm':=List.pairwise_cons.1 hm
      have hab:a=b:=by
        have h1:a∈b::m:=hp.mem_iff.1 gC
        have h2:b∈a::l:=hp.mem_iff.2 gC
        rcases hZ.1 h1 with e | h1
        · exact e
        · rcases hZ.1            h2 with e | h2
          · exact e.symm
          · have:=hm'.1 a h1;have:=hl'.1 b h2;omega
      subst hab
      rw[ih hp.cons_inv hl'.2 hm'.2]
theorem Nt{l m:List Int}(h:l.Perm m):m.mergeSort (fun x y=>decide (x≤y))=J1 l:=by
 refine Tf ((List.mergeSort_perm _ _).trans (h.symm.trans (Gq l).symm)) ?_ (HR l)
 have:=List.pairwise_mergeSort (le:=fun(x y:Int)=>decide (x≤y)) (by intro a b c;simp;omega) (by intro a b;simp;omega) m
 exact this.imp (by intro a b h;simpa using h)
def LK:List (AV×AV)→Option (List Int)
 | []=>some []
 | (.int .i64 n,_)::l=>(LK l).bind fun r=>some (n::r)
 | _=>none
def fF(n:Int):AV:=.int .i64 n
def IP(tI:TypeId)(ks:List Int)(s:AE):Option (AV×AE):=match ks with
 | []=>some (.slice none 0 (some 0),s)
 | k::ks=>AH (Nat.ble (k::ks).length 1000000) (some (.slice (some (s.next,0)) (k::ks).length none,newObj s (Ca tI 1 (AB.fill .leaf 0 ((J1 (k::ks)).map fF)) (k::ks).length none true)))
def Hl(g:FuncId)(kt tI:TypeId)(s:AE):List AV→Option (AV×AE)
 | [.func f [] [.ptr (some (i,o))]]=>AH (Nat.beq f g && Nat.beq o 0) <| (rowAt s i).bind fun r=>AH r.bytes <| (Cc s i o).bind fun m=>match m with
  | .map none=>some (.slice none 0 (some 0),s)
  | .map (some j)=>(KC s kt j).bind fun es=>(LK es).bind fun ks=>IP tI ks s
  | _=>none
 | _=>none
section
variable{P:Program}{ρ ρ1 ρ2:A4}{s s1 s2:AE}{w w1 w2:World}
def L4(P:Program)(f g:FuncId)(kt tI:TypeId):Prop:=
 (∀ (Bm b nn:Nat) (D0:DataW Value) (w:World),Bm<w.heap.size→w.cell? ⟨Bm,0,none⟩=some (.map (some b))→w.ownsMap P kt Rv b nn D0→Maps.size D0≤1000000 →
  Calls P f #[.func (.func g) #[] #[.pointer (some ⟨Bm,0,none⟩)]] w fun e w'=>∃ (v:Value) (ss:List Int),e=.returned v∧ss.Perm (intKeys D0) ∧
   w'.ownsRow w.heap.size tI 1 v ss.length ((ss.mergeSort (fun x y=>decide (x≤y))).map fun n=>.int .i64 n)∧(v=.slice none 0 0↔ss=[])∧Below w.heap.size w w') ∧
 ∀ (Bm:Nat) (w:World),Bm<w.heap.size→w.cell? ⟨Bm,0,none⟩=some (.map none) →
  Calls P f #[.func (.func g) #[] #[.pointer (some ⟨Bm,0,none⟩)]] w fun e w'=>e=.returned (.slice none 0 0)∧Below w.heap.size w w'
theorem LL:∀ {es:List (AV×AV)}{ks:List Int}{l:List MapEntry},LK es=some ks→CI ρ es l→l.map (·.key)=ks.map fun n=>Value.int .i64 n
  | [],ks,l,h,he=>by cases he;injection h with h;subst h;rfl
  | (k,v)::es,ks,l,h,he=>by
    cases he with
    | cons hk hv hs =>
      cases k<;>try (simp[LK]at h;done)
      rename_i q n
      cases q<;>try (simp[LK]at h;done)
      simp only[LK,ft]at h
      obtain⟨r,h1,h2⟩:=h
      injection h2 with h2
      subst h2
      have:=LL h1 hs
      generalize hkk:(_:MapEntry).key=kk at hk
      cases hk
      simp[this,hkk]
theorem Fj(h:Below w.heap.size w w1):w.grownBy w1 none:=⟨h.os,h.tape,h.output,h.size,fun k hk _=>h.block k hk⟩
theorem Ir          {f g : FuncId} {kt tI : TypeId} (hko : EZ     P kt = true) (hu : P.underlying kt = some (.int .i64)) (hc : L4      P f g kt tI) (h : Av  P ρ s w) (hf : Ag     ρ s) {aS : List AV} {as' : Array Value} {v : AV} (hs : Hl       g kt tI s aS = some (v, s1)) (has : AK    ρ aS as'.toList) :
    CallsIn Fence.wide 0 P f as' w (CU P ρ s w v s1):=by
  refine callsIn_wide.2 ?_
  unfold Hl at hs
  split at hs<;>first | (cases hs;done) | skip
  rename_i f' i o
  obtain⟨hg,hs⟩:=AA hs
  simp only[ft,Bool.and_eq_true]at hs hg
  obtain⟨r,hrow,hs⟩:=hs
  obtain⟨hby,hs⟩:=AA hs
  simp only[ft]at hs
  obtain⟨m,hm,hs⟩:=hs
  have e1:=fz hg.1
  have e2:=fz hg.2
  subst e1;subst e2
  obtain⟨l0⟩:=as'
  cases has with
  | cons h1 h2 =>
  cases h2
  cases h1 with
  | func ha hcap =>
  rename_i a' c'
  obtain⟨la⟩:=a'
  obtain⟨lc⟩:=c'
  cases ha
  cases hcap with
  | cons hp hn =>
  cases hn
  cases hp with
  | ptr hr =>
  rename_i rb
  have hok:BF ρ w r rb:=h.obj i _ rb (As hrow) hr
  have hoff:=hok.base hby
  obtain⟨m',hvm,hcell⟩:=J5 h hr hm
  rw[hoff]at hcell ⊢
  have hlt:=h.lt i rb hr
  cases m<;>try (simp at hs;done)
  rename_i mj
  have nilDone:∀ (hs:some ((.slice none 0 (some 0),s):AV×AE)=some (v,s1)) (w':World),Below w.heap.size w w'→CU P ρ s w v s1 (.returned (.slice none 0 0)) w':=by
    intro hs w' hb
    injection hs with hs
    injection hs with q1 q2
    subst q1;subst q2
    obtain⟨g1,g2⟩:=h.grown (Fj hb)
    exact⟨ρ,.sliceNil,g1,g2⟩
  cases mj with
  | none =>
    cases hvm
    refine(hc.2 rb.b w hlt hcell).mono ?_
    rintro e w' ⟨rfl,hb⟩
    exact nilDone hs w' hb
  | some j =>
    simp only[ft]at hs
    obtain⟨es,hes,ks,hks,hs⟩:=hs
    cases hvm with
    | map hrj =>
    rename_i rj
    obtain⟨ed,cd,d1,d2,⟨ld,d3,d4⟩,d5⟩:=(show GU P ρ w kt es rj from h.obj j _ rj (Em hes) hrj).ex
    have hkl:=LL hks d4
    have hlenk:ks.length=ed.size:=by have:=congrArg List.length hkl;have:=d3.length_eq;simp at *;omega
    have hk6:ks.length≤1000000:=by
      cases ks with
      | nil=>simp
      | cons k ks =>
        simp only[IP]at hs
        have:=(AA hs).1
        simpa[fw]using this
    have hmax:(1000000:Nat)≤maxLen:=by unfold maxLen;omega
    have od:=Mw d1 d2 d5 (by omega)
    have hsz:Maps.size (DataW.map ((ed.toList.map (WideElems.rg P kt Rv)).foldr DataW.insert []))=ed.size:=by
      show((ed.toList.map (WideElems.rg P kt Rv)).foldr DataW.insert []).length=_
      rw[(Go.WideShapes.sorted_perm _).length_eq]
      simp
    have hints:(intKeys (DataW.map ((ed.toList.map (WideElems.rg P kt Rv)).foldr DataW.insert []))).Perm ks:=by
      show(((ed.toList.map (WideElems.rg P kt Rv)).foldr DataW.insert []).map fun p=>Go.intOf p.1).Perm ks
      refine((Go.WideShapes.sorted_perm _).map _).trans ?_
      rw[List.map_map]
      have:((ld.map fun e=>Go.intOf (WideElems.rg P kt Rv e).1))=ks:=by
        have:∀ (L:List MapEntry) (K:List Int),(∀e∈L,∃l,keyOf P kt e.key=some l)→L.map (·.key)=K.map (fun n=>Value.int .i64 n)→(L.map fun e=>Go.intOf (WideElems.rg P kt Rv e).1)=K:=by
          intro L
          induction L with
          | nil=>intro K _ hK;cases K with | nil=>rfl | cons=>simp at hK
          | cons e L ih =>
            intro K hty hK
            cases K with
            | nil=>simp at hK
            | cons n K =>
              simp only[gN,List.cons.injEq]at hK
              obtain⟨l,hl⟩:=hty e gC
              rw[gN,ih K (fun x hx=>hty x (gG _ hx)) hK.2,Yp hl]
              congr 1
              rw[hK.1]at hl
              simp only[keyOf,hu,mapKey]at hl
              split at hl
              · injection hl with hl;subst hl;rfl
              · cases hl
        exact this ld ks (fun e he=>d5 e (d3.mem_iff.1 he)) hkl
      rw[← this]
      exact d3.symm.map _
    refine(hc.1 rb.b rj.b _ _ w hlt hcell od (by rw[hsz];omega)).mono ?_
    rintro e w' ⟨v',ss,rfl,hperm,hrow',hnil,hb⟩
    have hss:ss.Perm ks:=hperm.trans hints
    cases ks with
    | nil =>
      have:ss=[]:=List.perm_nil.1 hss
      rw[hnil.2 this]
      exact nilDone hs w' hb
    | cons k ks =>
      simp only[IP]at hs
      obtain⟨_,hs⟩:=AA hs
      injection hs with hs
      injection hs with q1 q2
      subst q1;subst q2
      have hne:ss≠[]:=fun e=>by subst e;exact absurd (List.nil_perm.1 hss) (by simp)
      rw[Nt hss.symm]at hrow'
      have hl:ss.length=(k::ks).length:=hss.length_eq
      rcases hrow'.2 with⟨q,_⟩ | ⟨gb,cap,cur,rfl,hbase,hgb,r1,r2,r3,r4⟩
      · exact absurd (hnil.1 q) hne
      · rw[hl]at r1 r4 ⊢
        have hilen:(J1 (k::ks)).length=(k::ks).length:=(Gq _).length_eq
        generalize hn:(k::ks).length=n at r1 r4 hilen ⊢
        have hglt:gb<w'.heap.size:=(Array.getElem?_eq_some_iff.1 hgb).1
        obtain⟨g1,g2⟩:=h.grown (Fj hb)
        let rbn:RB:=⟨gb,0,cap,1⟩
        have hfn:=(hf s.next (fu _)).1
        have hle:=Ax (rb:=rbn) hfn
        have hrok:BF (Bc ρ s.next rbn) w' { elem:=tI,sz:=1,n:=n,c:=AB.fill .leaf 0 ((J1 (k::ks)).map fF),spare:=true,mode:=.own,par:=none,bytes:=true } rbn:=by
          refine⟨?_,r1,rfl,(fun hh=>by cases hh),fun _=>⟨cur,hgb,by simp only[rbn];omega⟩,fun _=>rfl,(fun g hg=>by cases hg),fun p hp=>by cases hp⟩
          intro q u hq hu'
          simp only at hq
          simp only[AB.get_fill,gF,gA,true_and,Nat.sub_zero,List.length_map,hilen]at hu'
          rw[if_pos hq,iJ]at hu'
          obtain⟨x,hx,hx2⟩:=Option.map_eq_some_iff.1 hu'
          subst hx2
          refine⟨.int .i64 x,?_,.int _ _⟩
          have:(cur.toList.take (n * 1))[q]? = some (Value.int .i64 x):=by rw[r4,iJ,hx];rfl
          rw[iP (by omega)]at this
          simp only[World.cell?,rbn,gA,hgb]
          simpa using this
        refine⟨Bc ρ s.next rbn,.sliceOpen (AM _ _) (Nat.one_pos) r1 (by simp[rbn]) (by simp[rbn]),⟨?_,?_,?_,?_⟩,?_⟩
        · intro x ox rx hx hrx
          rw[Ah]at hx
          by_cases e:x=s.next
          · subst e
            rw[if_pos rfl]at hx
            injection hx with hx
            rw[AM]at hrx
            injection hrx with hrx
            subst hx;subst hrx
            exact hrok
          · rw [if_neg e] at hx
            rw[AJ rbn e]at hrx
            exact(g1.obj x ox rx hx hrx).mono hle rfl
        · intro x rx hrx
          by_cases e:x=s.next
          · subst e
            rw[AM]at hrx
            injection hrx with hrx
            subst hrx
            exact hglt
          · rw[AJ rbn e]at hrx
            exact g1.lt x rx hrx
        · intro x y ox oy rx ry hxy hx hy hrx hry hbb hw
          rw[Ah]at hx hy
          by_cases ex:x=s.next
          · subst ex
            have ey:y≠s.next:=fun e=>hxy e.symm
            rw[AM]at hrx
            injection hrx with hrx
            subst hrx
            rw[AJ rbn ey]at hry
            have:=h.lt y ry hry
            simp only[rbn]at hbb
            omega
          · by_cases ey : y = s.next
            · subst ey
              rw[AM]at hry
              injection hry with hry
              subst hry
              rw[AJ rbn ex]at hrx
              have:=h.lt x rx hrx
              simp only[rbn]at hbb
              omega
            · rw [if_neg ex] at hx
              rw[if_neg ey]at hy
              rw[AJ rbn ex]at hrx
              rw[AJ rbn ey]at hry
              exact g1.sep x y ox oy rx ry hxy hx hy hrx hry hbb hw
        · intro x ox g hx hgo
          rw[Ah]at hx
          by_cases e:x=s.next
          · subst e;exact⟨_,AM _ _⟩
          · rw[if_neg e]at hx
            obtain⟨r',hr'⟩:=h.glb x ox g hx hgo
            exact⟨r',hle _ _ hr'⟩
        · refine ⟨hle, ?_, by simp [newObj], hb.size, hb.os, hb.tape, hb.output, fun b hb' _ => hb.block b hb', ?_, ?_, fun x r hx h0 => ?_, fun x ox r hx h0 => ?_⟩
          · intro x hx hxr
            have:x≠s.next:=by simp[newObj]at hxr;omega
            rw[AJ rbn this];exact hx
          · rintro b ⟨x, ox, rx, hx, hw, hrx, rfl⟩
            rw[Ah]at hx
            by_cases e:x=s.next
            · subst e
              rw[AM]at hrx
              injection hrx with hrx
              subst hrx
              exact .inr hbase
            · rw [if_neg e] at hx
              rw[AJ rbn e]at hrx
              exact .inl ⟨x,ox,rx,hx,hw,hrx,rfl⟩
          · intro x _ hx
            rw[Ah,if_neg (by simp[newObj]at hx;omega)]
          · by_cases e : x = s.next
            · subst e;rw[AM]at hx;injection hx with hx;subst hx;exact .inl hbase
            · rw[AJ rbn e,h0]at hx;cases hx
          · rw[Ah]at hx
            by_cases e:x=s.next
            · subst e;rw[hf s.next (fu _) |>.1]at h0;cases h0
            · rw[if_neg e]at hx;exact⟨ox,hx⟩
end
end
end Go.Proofs.YtfgmceookgelcaaGreatDoor.Am
set_option linter.unusedVariables false
set_option linter.unusedSimpArgs false
set_option maxRecDepth 16000
namespace Go.Proofs.YtfgmceookgelcaaGreatDoor.Am
open Go Go.Proofs
noncomputable section
abbrev Ent:=Int×Rat×AV
section
variable{s:AE}{mi:Nat}{T:List Ent}{n:Int}
end
def U32(s:AE)(j:Nat):Prop:=∃r,s.heap.get j=some (.row r)∧r.elem=203
theorem NR.u32{b:Nat}{s:AE}{v:AV}{l:List Nat}(h:NR b s v l)(hl:l≠[]){j:Nat}(hj:C8 v=some j):U32 s j:=by
 obtain⟨O,h1,_,_,h4⟩:=h
 obtain⟨i,e,_,_⟩:=h4 hl
 rcases h1 with⟨a,e',_⟩ | ⟨i',p,e',h6,_⟩
 ·rw[e]at e';injection e' with _ _ e';cases e'
 ·rw[e']at hj
  injection hj with hj
  subst hj
  rcases h6.ex with⟨e'',_⟩ | ⟨_,_,_,_,r,k4,_,_,_,_,_,k9⟩
  ·rw[e']at e'';cases e''
  ·exact⟨r,k4,k9⟩
section
variable{E:Cg}{s:AE}
end
theorem Dv:Tryz.prog.follows .mixedOrders=true:=by kernel_rfl
theorem C4:KH Tryz.prog=true:=by kernel_rfl
theorem Jx:An (fB Tryz.prog):=⟨rfl,fun _ _ _ _=>rfl⟩
def aj:List AV→Option (List Nat)
 | []=>some []
 | .int .u32 (.ofNat x)::l=>AH (Nat.blt x LB) ((aj l).bind fun r=>some (x::r))
 | _=>none
theorem SW:∀ {cs:List AV}{l:List Nat},aj cs=some l→cs=us l∧BV l
 | [],l,h=>by
  injection h with h
  subst h
  exact⟨rfl,fun x hx=>by cases hx⟩
 | v::cs,l,h=>by
  unfold aj at h
  split at h
  ·rename_i e;cases e
  ·rename_i x l' e
   injection e with e1 e2
   subst e1;subst e2
   obtain⟨h1,h2⟩:=AA h
   simp only[ft]at h2
   obtain⟨r,h3,h4⟩:=h2
   injection h4 with h4
   subst h4
   obtain⟨h5,h6⟩:=SW h3
   refine⟨by rw[h5];rfl,fun y hy=>?_⟩
   rcases hZ.1 hy with rfl | hy
   ·simpa[gE]using h1
   ·exact h6 y hy
  ·cases h
def Il(s:AE):AV→Option (List Nat)
 | .slice none n (some c)=>AH (Nat.beq n 0 && Nat.beq c 0) (some [])
 | .slice (some (i,o)) n cap=>AH (Nat.blt i s.next) <| (rowAt s i).bind fun r=>AH (Nat.ble (o+n) r.n && (match cap with | some c=>Nat.ble n c | none=>Nat.beq r.sz 1)) <| (r.c.take o n).bind aj
 | _=>none
theorem aY{s:AE}{i:Nat}{r:B6}(h:s.heap.get i=some (.row r)):(frz s.next s.heap).heap.get i=some (.row { r with mode:=.ro,par:=none }):=by
 unfold frz
 simp only[AB.get_mapO,h]
 rfl
theorem Eu       {s : AE}  {v : AV} {l : List Nat} (h : Il    s v = some l) : CW  (frz s.next s.heap) v l ∧ BV  l := by
  unfold Il at h
  split at h
  · obtain⟨h1,h2⟩:=AA h
    simp only[Bool.and_eq_true]at h1
    injection h2 with h2
    subst h2
    have e1:=fz h1.1
    have e2:=fz h1.2
    subst e1;subst e2
    exact⟨⟨none,some 0,rfl,.inl ⟨0,rfl,fu _,fun _=>rfl⟩,Ai.nil⟩,fun x hx=>by cases hx⟩
  · rename_i i o n cap
    obtain⟨h1,h2⟩:=AA h
    simp only[ft]at h2
    obtain⟨r,h3,h4⟩:=h2
    obtain⟨h5,h6⟩:=AA h4
    simp only[ft]at h6
    obtain⟨cs,h7,h8⟩:=h6
    obtain⟨rfl,hsm⟩:=SW h8
    simp only[Bool.and_eq_true]at h5
    have hle:o+n≤r.n:=by simpa[fw]using h5.1
    have hlt:i<s.next:=by simpa[gE]using h1
    have hlen:l.length=n:=by have:=AB.take_length h7;rw[CM]at this;exact this
    have hg:=aY (As h3)
    refine⟨⟨some (i,o),cap,by rw[hlen],?_,fun k u hk=>⟨i,o,rfl,hlt,?_⟩⟩,hsm⟩
    · rw[hlen]
      cases cap with
      | some c=>exact .inl ⟨c,rfl,by simpa[fw]using h5.2,fun e=>by cases e⟩
      | none=>exact .inr ⟨rfl,i,o,_,rfl,hlt,hg,fz h5.2,hle⟩
    · have hkn:k<n:=by
        rw[← hlen,← CM]
        rcases fv k (us l).length with h' | h'
        · exact h'
        · rw[gH h']at hk;cases hk
      have:=AB.take_get h7 k hkn
      unfold Cc rowAt
      rw[hg]
      simp only[Option.bind_some,AH,show Nat.blt (o+k) r.n=true from by simp[gE];omega,cond_true]
      rw[this];exact hk
  · cases h
def Im(s:AE):AV→Option Rat
 | .agg [.bool neg,m,d]=>(Il s m).bind fun lm=>(Il s d).bind fun ld=>AH (Nat.ble lm.length 1000 && Nat.ble ld.length 1000) (some (My neg (AD lm) (AD ld)))
 | _=>none
theorem Ev{s:AE}{v:AV}{q:Rat}(h:Im s v=some q):QI (frz s.next s.heap) v q 1000:=by
 unfold Im at h
 split at h
 ·rename_i neg m d
  simp only[ft]at h
  obtain⟨lm,h1,ld,h2,h3⟩:=h
  obtain⟨h4,h5⟩:=AA h3
  injection h5 with h5
  simp only[Bool.and_eq_true,fw]at h4
  obtain⟨q1,q2⟩:=Eu h1
  obtain⟨q3,q4⟩:=Eu h2
  exact⟨neg,m,d,lm,ld,rfl,q1,q3,q2,q4,h4.1,h4.2,h5⟩
 ·cases h
def Ml:Nat→Nat→List Nat
 | 0,_=>[]
 | f+1,n=>bif Nat.beq n 0 then []else n % LB::Ml f (n / LB)
theorem JE:∀ (f n:Nat),n<LB ^ f→Ml f n=AI n
 | 0,n,h=>by
  have:n=0:=by simpa using h
  rw[this,A6];rfl
 | f+1,n,h=>by
  unfold Ml
  by_cases h0:n=0
  ·subst h0;rw[A6];rfl
  ·rw[show Nat.beq n 0=false from Dq h0,cond_false,D1 h0,JE f (n / LB) (by rw[ge A3];rwa[gg]at h)]
def TX(s:AE)(q:Rat):Option (AV×AE):=
 AH (Nat.blt q.num.natAbs (LB ^ 8) && Nat.blt q.den (LB ^ 8)) (some (.agg [.bool (Kw q.num 0),(Gx s (Ml 8 q.num.natAbs)).1,(Gx (Gx s (Ml 8 q.num.natAbs)).2 (Ml 8 q.den)).1],(Gx (Gx s (Ml 8 q.num.natAbs)).2 (Ml 8 q.den)).2))
theorem NR.slotV{b:Nat}{s:AE}{v:AV}{l:List Nat}(h:NR b s v l)(h0:l=[]→v=.slice none 0 (some 0)):JP b s v l:=by
 by_cases hl:l=[]
 ·exact .inl ⟨hl,h0 hl⟩
 ·refine .inr ⟨hl,?_⟩
  have h1:=h
  obtain⟨O,_,_,q3,q4⟩:=h
  obtain⟨i,rfl,hi,r,hg,hh,hm,hsz,_⟩:=q4 hl
  obtain⟨r',hg',hel⟩:=h1.u32 hl (j:=i) rfl
  rw[hg]at hg'
  injection hg' with hg'
  injection hg' with hg'
  subst hg'
  exact⟨i,rfl,q3 i rfl,r,hg,hh,hm,hsz,hel⟩
theorem JP.obj{b:Nat}{s:AE}{v:AV}{l:List Nat}(h:JP b s v l){i:Nat}(hi:C8 v=some i):∃o,s.heap.get i=some o∧wr o=true∧b≤i:=by
 rcases h with⟨_,rfl⟩ | ⟨_,j,rfl,hb,r,hg,_,hm,_⟩
 ·cases hi
 ·injection hi with hi
  subst hi
  exact⟨_,hg,hm,hb⟩
section
variable{ρ:A4}{s:AE}{w:World}
theorem Md{f:FuncId}{xs:List AV}{xs':Array Value}(h:Av Tryz.prog ρ s w)(hf:Ag ρ s)(hxs:AK ρ xs xs'.toList){K:AV→AE→Prop}(hw:WF (fB Tryz.prog) f xs K (frz s.next s.heap)){Q:Ending→World→Prop}
  (hQ:∀v0 s0 ρ' v' w',K v0 s0→AL ρ' v0 v'→Av Tryz.prog ρ' s0 w'→Av Tryz.prog ρ s w'→Fr ρ s w ρ s w'→(∀i o rb,s0.heap.get i=some o→wr o=true→ρ' i=some rb→w.heap.size≤rb.b)→Q (.returned v') w'):
  (∃fn c,Tryz.prog.funcs[f]? = some fn∧fn.body=some c)∧CallsIn Fence.wide 0 Tryz.prog f xs' w Q:=by
 obtain⟨n,p,hrun,hK⟩:=hw
 have hcall:=(fT Dv (B4 C4) rfl (YR Tryz.prog) n).call ρ (frz s.next s.heap) w f xs p.1 p.2 xs' hrun (h.frz _) hf.frz hxs
 refine⟨hcall.1,CallsIn.mono hcall.2 ?_⟩
 intro e w' he
 cases e with
 | panicked c=>exact he.elim
 | outgrown=>exact he.elim
 | returned v' =>
  obtain⟨ρ',k1,k2,k3⟩:=he
  obtain⟨g1,g2⟩:=h.grown (w1:=w') ⟨k3.os,k3.tape,k3.output,k3.size,fun b hb _=>k3.keep b hb (H8 Tryz.prog _ _ b)⟩
  refine hQ p.1 p.2 ρ' v' w' hK k1 k2 g1 g2 fun i o rb hi hwr hr=>?_
  rcases k3.own rb.b ⟨i,o,rb,hi,hwr,hr,rfl⟩with h' | h'
  ·exact absurd h' (H8 Tryz.prog _ _ _)
  ·exact h'
theorem Hc{f:FuncId}{xs:List AV}{xs':Array Value}(h:Av Tryz.prog ρ s w)(hf:Ag ρ s)(hxs:AK ρ xs xs'.toList){q:Rat}(hw:WF (fB Tryz.prog) f xs (fun v s'=>QR s.next s' v q) (frz s.next s.heap)){v:AV}{s1:AE}(hp:TX s q=some (v,s1)):
    (∃fn c,Tryz.prog.funcs[f]? = some fn∧fn.body=some c)∧CallsIn Fence.wide 0 Tryz.prog f xs' w (CU Tryz.prog ρ s w v s1):=by
  refine Md h hf hxs hw fun v0 s0 ρ' v' w' hK hv hi hs hfr hge=>?_
  obtain⟨g1,g2⟩:=AA hp
  simp only[Bool.and_eq_true,gE]at g1
  rw[JE 8 _ g1.1,JE 8 _ g1.2]at g2
  injection g2 with g2
  injection g2 with e1 e2
  obtain⟨m,d,rfl,hm,hd,hdj,hz⟩:=hK
  have sm:JP s.next s0 m (AI q.num.natAbs):=hm.slotV fun e=>hz (by
    rcases gq q.num.natAbs with h' | h'
    · omega
    · exact absurd e (Cb (by omega)))
  have sd:JP s.next s0 d (AI q.den):=hd.slotV fun e=>absurd e (Cb q.den_nz)
  cases hv with
  | agg hv =>
  rename_i cs'
  obtain⟨lc⟩:=cs'
  cases hv with
  | cons hb hv =>
  cases hv with
  | cons hvm hv =>
  cases hv with
  | cons hvd hv =>
  cases hv
  obtain⟨ρ1,a1,a2,a3,a4,a5,a6⟩:=KW (w0:=w) sm hi hvm (fun i o rb _ hio hwo hr=>hge i o rb hio hwo hr) hs (hf.step hfr) hfr (fun i rb hsl hr j oj rj hj hrj=>by
    obtain⟨o,hg,hwo,_⟩:=sm.obj hsl
    have h1:=hge i o rb hg hwo hr
    have h2:=h.lt j rj hrj
    omega)
  obtain⟨ρ2,b1,b2,b3,b4,b5,_⟩:=KW (w0:=w) sd hi hvd (fun i o rb _ hio hwo hr=>hge i o rb hio hwo hr) a1 a2 a3 (fun i rb hsl hr j oj rj hj hrj=>by
    obtain⟨o,hg,hwo,_⟩:=sd.obj hsl
    rcases a6 j oj rj hj hrj with⟨o1,_,h2⟩ | ⟨i2,rb2,hs2,hr2,e⟩
    · have h1 := hge i o rb hg hwo hr
      have h3:=h.lt j rj h2
      omega
    · obtain⟨o2,hg2,hwo2,_⟩:=sm.obj hs2
      intro hbb
      have hne:i≠i2:=fun e=>by subst e;exact hdj i hs2 hsl
      have:=(hi.sep i i2 o o2 rb rb2 hne hg hg2 hr hr2 (by rw[← hbb,e]) hwo2).2
      rw[hwo]at this
      cases this)
  subst e1;subst e2
  refine⟨ρ2,.agg (.cons ?_ (.cons (a5.mono b4) (.cons b5 .nil))),b1,b3⟩
  rw[CV]
  exact Co rfl hb
end
def bw(s:AE):List AV→Option (AV×AE)
 | [x,y]=>(Im s x).bind fun a=>(Im s y).bind fun b=>TX s (a+b)
 | _=>none
def bz(s:AE):List AV→Option (AV×AE)
 | [x,y]=>(Im s x).bind fun a=>(Im s y).bind fun b=>TX s (a * b)
 | _=>none
def YD(s:AE):List AV→Option (AV×AE)
 | [x]=>(Im s x).bind fun a=>TX s a
 | _=>none
def b8(s:AE):List AV→Option (AV×AE)
 | [.agg [.bool neg,m],d]=>(Il s m).bind fun lm=>(Il s d).bind fun ld=>AH (Nat.ble lm.length 1000 && Nat.ble ld.length 1000 && Nat.blt 0 (AD ld)) (TX s (mkRat (B1 neg (AD lm)) (AD ld)))
 | _=>none
def YC(s:AE):List AV→Option (AV×AE)
 | [.int .i64 n]=>bif Ma n 0 || (Ma n 1 || Ma n (-1))then TX s (n:Rat)else none
 | _=>none
def YF(s:AE):List AV→Option (AV×AE)
 | [v]=>(Il s v).bind fun l=>AH (Nat.ble l.length 1000 && Nat.blt 0 (AD l) && Nat.blt (AD l) (LB ^ 8)) (some (Gx s (Ml 8 (AD l))))
 | _=>none
def dL:Do:=fun f xs s =>
 bif Nat.beq f 183 then bw s xs else bif Nat.beq f 184 then bz s xs else bif Nat.beq f 232 then YD s xs else
 bif Nat.beq f 128 then b8 s xs else bif Nat.beq f 93 then YC s xs else bif Nat.beq f 208 then YF s xs else none
section
variable{ρ:A4}{s:AE}{w:World}
theorem bD{f:FuncId}{xs:List AV}{xs':Array Value}(h:Av Tryz.prog ρ s w)(hf:Ag ρ s)(hxs:AK ρ xs xs'.toList){l:List Nat}(hl:l≠[])(hw:WF (fB Tryz.prog) f xs (fun v s'=>NR s.next s' v l) (frz s.next s.heap)):
  (∃fn c,Tryz.prog.funcs[f]? = some fn∧fn.body=some c)∧CallsIn Fence.wide 0 Tryz.prog f xs' w (CU Tryz.prog ρ s w (Gx s l).1 (Gx s l).2):=by
 refine Md h hf hxs hw fun v0 s0 ρ' v' w' hK hv hi hs hfr hge=>?_
 have sm:JP s.next s0 v0 l:=hK.slotV fun e=>absurd e hl
 obtain⟨ρ1,a1,a2,a3,a4,a5,a6⟩:=KW (w0:=w) sm hi hv (fun i o rb _ hio hwo hr=>hge i o rb hio hwo hr) hs (hf.step hfr) hfr (fun i rb hsl hr j oj rj hj hrj=>by
  obtain⟨o,hg,hwo,_⟩:=sm.obj hsl
  have h1:=hge i o rb hg hwo hr
  have h2:=h.lt j rj hrj
  omega)
 exact⟨ρ1,a5,a1,a3⟩
theorem au      : BL     Tryz.prog dL   := by
  intro ρ s w f xs v s1 xs' hc h hf ha
  unfold dL at hc
  have nx:(frz s.next s.heap).next=s.next:=rfl
  cases h1:Nat.beq f 183 with
  | true =>
    rw[h1]at hc
    have:=fz h1
    subst this
    rw[cond_true]at hc
    unfold bw at hc
    split at hc
    · simp only[ft]at hc
      obtain⟨a,ha',b,hb',hp⟩:=hc
      exact Hc h hf ha (bF Jx (Ev ha') (Ev hb') (by decide) (by decide) (by decide) fun s' v _ hv=>hv) hp
    · cases hc
  | false =>
  rw[h1,cond_false]at hc
  cases h2:Nat.beq f 184 with
  | true =>
    rw[h2]at hc
    have:=fz h2
    subst this
    rw[cond_true]at hc
    unfold bz at hc
    split at hc
    · simp only[ft]at hc
      obtain⟨a,ha',b,hb',hp⟩:=hc
      exact Hc h hf ha (bH Jx (Ev ha') (Ev hb') (by decide) (by decide) (by decide) fun s' v _ hv=>hv) hp
    · cases hc
  | false =>
  rw[h2,cond_false]at hc
  cases h3:Nat.beq f 232 with
  | true =>
    rw[h3]at hc
    have:=fz h3
    subst this
    rw[cond_true]at hc
    unfold YD at hc
    split at hc
    · simp only[ft]at hc
      obtain⟨a,ha',hp⟩:=hc
      exact Hc h hf ha (Fy Jx (Ev ha') (by decide) fun s' v _ hv=>hv) hp
    · cases hc
  | false =>
  rw[h3,cond_false]at hc
  cases h4:Nat.beq f 128 with
  | true =>
    rw[h4]at hc
    have:=fz h4
    subst this
    rw[cond_true]at hc
    unfold b8 at hc
    split at hc
    · simp only[ft]at hc
      obtain⟨lm,hm,ld,hd,hp⟩:=hc
      obtain⟨hg,hp⟩:=AA hp
      simp only[Bool.and_eq_true,fw,gE]at hg
      obtain⟨⟨g1,g2⟩,g3⟩:=hg
      obtain⟨m1,m2⟩:=Eu hm
      obtain⟨d1,d2⟩:=Eu hd
      exact Hc h hf ha (EJ Jx (kn:=1000) ⟨_,_,lm,rfl,m1,m2,g1,rfl⟩ d1 (by decide) (by omega) d2 (by omega) fun s' v _ hv=>hv) hp
    · cases hc
  | false =>
  rw[h4,cond_false]at hc
  cases h5:Nat.beq f 93 with
  | true =>
    rw[h5]at hc
    have:=fz h5
    subst this
    rw[cond_true]at hc
    unfold YC at hc
    split at hc
    · rename_i n
      cases hn:Ma n 0 || (Ma n 1 || Ma n (-1))with
      | false=>rw[hn]at hc;cases hc
      | true =>
        rw[hn,cond_true]at hc
        simp only[Bool.or_eq_true,EW,beq_iff_eq]at hn
        exact Hc h hf ha (Yh Jx hn fun s' v _ hv=>hv) hc
    · cases hc
  | false =>
  rw[h5,cond_false]at hc
  cases h6:Nat.beq f 208 with
  | true =>
    rw[h6]at hc
    have:=fz h6
    subst this
    rw[cond_true]at hc
    unfold YF at hc
    split at hc
    · simp only[ft]at hc
      obtain⟨l,hl,hp⟩:=hc
      obtain⟨hg,hp⟩:=AA hp
      simp only[Bool.and_eq_true,fw,gE]at hg
      obtain⟨⟨g1,g2⟩,g3⟩:=hg
      obtain⟨l1,l2⟩:=Eu hl
      rw[JE 8 _ g3]at hp
      injection hp with hp
      have e1:(Gx s (AI (AD l))).1=v:=by rw[hp]
      have e2:(Gx s (AI (AD l))).2=s1:=by rw[hp]
      rw[← e1,← e2]
      refine bD h hf ha (Cb (by omega)) (Bz Jx l1 (by omega) fun s' v' _ hv=>?_)
      rw[BJ l2]at hv
      exact hv
    · cases hc
  | false =>
    rw[h6]at hc
    cases hc
end
end
end Go.Proofs.YtfgmceookgelcaaGreatDoor.Am
set_option linter.unusedVariables false
set_option linter.unusedSimpArgs false
set_option maxRecDepth 16000
namespace Go.Proofs.YtfgmceookgelcaaGreatDoor.Am
open Go Go.Proofs Go.RowKit
noncomputable section
theorem ez:bk Tryz.prog 83 3:=by
 refine⟨fun bd bs nd ns Dd Ds w hd hs hne hroom=>AnyX.maps_Copy (ρ:=FF) Nv (Go.Maps.int_keyed Tryz.underlying3) Rv bd bs nd ns Dd Ds w hd hs hne hroom,fun pd w=>AnyX.maps_Copy_nil (ρ:=FF) Nv pd w⟩
theorem NA(m:Nat):AnyZI.SortsIn Tryz.prog Fq Fence.wide m:=
  ⟨fun blk off cap ss W hH hblk hsz=>callsIn_wide.2 (AnyM.slices_Sort_int Ny blk off cap ss W hH hblk hsz),
   fun p cap W=>callsIn_wide.2 (AnyM.slices_Sort_int_none Ny p cap W)⟩
theorem Yz:L4 Tryz.prog 74 251 3 3:=by
  refine⟨fun Bm b nn D0 w hBm hm hown hsz=>?_,fun Bm w hBm hm=>?_⟩
  · have hseq := AnyZI.keys_gives (ρ := FG)           { Nw       with } Fence.wide 2 trivial rfl (by omega) Bm b nn D0 w hBm hm hown
    have cS:=AnyZI.sorted_in FI Fence.wide 5 trivial trivial trivial trivial rfl (by omega) (NA _) (enters_of Tryz.func110 (by kernel_rfl) rfl) 251 #[.pointer (some ⟨Bm,0,none⟩)] trivial (enters_of Tryz.func251 (by kernel_rfl) rfl) _ _ (fx hsz (by unfold maxLen;omega)) (by omega) _ hseq
    exact callsIn_wide.1 cS
  · have hseq := AnyZI.keys_gives_nil (ρ := FG)           { Nw       with } Fence.wide 2 trivial rfl Bm w hBm hm
    have cS:=AnyZI.sorted_in FI Fence.wide 5 trivial trivial trivial trivial rfl (by omega) (NA _) (enters_of Tryz.func110 (by kernel_rfl) rfl) 251 #[.pointer (some ⟨Bm,0,none⟩)] trivial (enters_of Tryz.func251 (by kernel_rfl) rfl) _ 0 (gF _) (by omega) _ hseq
    refine(callsIn_wide.1 cS).mono ?_
    rintro e w' ⟨v,ss,rfl,hS,_,hnil,hb⟩
    rw[hnil.2 hS]
    exact⟨rfl,hb⟩
theorem Y0:L4 Tryz.prog 74 111 3 3:=by
  refine⟨fun Bm b nn D0 w hBm hm hown hsz=>?_,fun Bm w hBm hm=>?_⟩
  · have hseq := AnyZI.keys_gives (ρ := FH)           { Nx       with } Fence.wide 2 trivial rfl (by omega) Bm b nn D0 w hBm hm hown
    have cS:=AnyZI.sorted_in FI Fence.wide 5 trivial trivial trivial trivial rfl (by omega) (NA _) (enters_of Tryz.func110 (by kernel_rfl) rfl) 111 #[.pointer (some ⟨Bm,0,none⟩)] trivial (enters_of Tryz.func111 (by kernel_rfl) rfl) _ _ (fx hsz (by unfold maxLen;omega)) (by omega) _ hseq
    exact callsIn_wide.1 cS
  · have hseq := AnyZI.keys_gives_nil (ρ := FH)           { Nx       with } Fence.wide 2 trivial rfl Bm w hBm hm
    have cS:=AnyZI.sorted_in FI Fence.wide 5 trivial trivial trivial trivial rfl (by omega) (NA _) (enters_of Tryz.func110 (by kernel_rfl) rfl) 111 #[.pointer (some ⟨Bm,0,none⟩)] trivial (enters_of Tryz.func111 (by kernel_rfl) rfl) _ 0 (gF _) (by omega) _ hseq
    refine(callsIn_wide.1 cS).mono ?_
    rintro e w' ⟨v,ss,rfl,hS,_,hnil,hb⟩
    rw[hnil.2 hS]
    exact⟨rfl,hb⟩
def Ou(a b:Do):Do:=fun f xs s=>match a f xs s with
 | some p=>some p
 | none=>b f xs s
theorem C5{P:Program}{a b:Do}(ha:BL P a)(hb:BL P b):BL P (Ou a b):=by
 intro ρ s w f xs v s1 xs' hc hi hf hx
 unfold Ou at hc
 cases h:a f xs s with
 | some p=>rw[h]at hc;injection hc with hc;subst hc;exact ha ρ s w f xs v s1 xs' h hi hf hx
 | none=>rw[h]at hc;exact hb ρ s w f xs v s1 xs' hc hi hf hx
def Ts (g:FuncId) (a:List AV→AE→Option (AV×AE)):Do:=fun f xs s=>bif Nat.beq f g then a xs s else none
theorem Fc{P:Program}{g:FuncId}{a:List AV→AE→Option (AV×AE)}(h:∀ρ s w xs v s1 xs',a xs s=some (v,s1)→Av P ρ s w→Ag ρ s→AK ρ xs xs'.toList →
  (∃fn c,P.funcs[g]? = some fn∧fn.body=some c)∧CallsIn Fence.wide 0 P g xs' w (CU P ρ s w v s1)):BL P (Ts g a):=by
 intro ρ s w f xs v s1 xs' hc hi hf hx
 unfold Ts at hc
 cases h2:Nat.beq f g with
 | true =>
  rw[h2]at hc
  have:=fz h2
  subst this
  exact h ρ s w xs v s1 xs' hc hi hf hx
 | false=>rw[h2]at hc;cases hc
def fH:Do:=Ou (Ts 83 fun xs s=>Pm 3 s xs) (Ou (Ts 74 fun xs s=>Hl 251 3 3 s xs)
 (Ts 74 fun xs s=>Hl 111 3 3 s xs))
theorem ar:BL Tryz.prog fH:=
 C5 (Fc fun ρ s w xs v s1 xs' hc hi hf ha=>⟨⟨_,_,Tryz.func83,rfl⟩,TB (by kernel_rfl) ez hi hc ha⟩)
  (C5 (Fc fun ρ s w xs v s1 xs' hc hi hf ha=>⟨⟨_,_,Tryz.func74,rfl⟩,Ir (by kernel_rfl) Tryz.underlying3 Yz hi hf hc ha⟩)
   (Fc fun ρ s w xs v s1 xs' hc hi hf ha=>⟨⟨_,_,Tryz.func74,rfl⟩,Ir (by kernel_rfl) Tryz.underlying3 Y0 hi hf hc ha⟩))
def YE(s:AE):List AV→Option (AV×AE)
 | [x]=>(Im s x).bind fun q=>some (.int .i64 (Iz q.num),s)
 | _=>none
section
variable{ρ:A4}{s:AE}{w:World}
theorem aW{f:FuncId}{xs:List AV}{xs':Array Value}(h:Av Tryz.prog ρ s w)(hf:Ag ρ s)(hxs:AK ρ xs xs'.toList){v:AV}(hv:IZ v=true)(hw:WF (fB Tryz.prog) f xs (fun u s'=>u=v) (frz s.next s.heap)):
  (∃fn c,Tryz.prog.funcs[f]? = some fn∧fn.body=some c)∧CallsIn Fence.wide 0 Tryz.prog f xs' w (CU Tryz.prog ρ s w v s):=by
 refine Md h hf hxs hw fun v0 s0 ρ' v' w' hK hv0 hi hs hfr hge=>?_
 subst hK
 exact⟨ρ,Co hv hv0,hs,hfr⟩
end
def cF:Do:=Ou fH (Ou dL (Ts 132 fun xs s=>YE s xs))
theorem YJ:BL Tryz.prog cF:=C5 ar (C5 au (Fc fun ρ s w xs v s1 xs' hc hi hf ha=>by
 unfold YE at hc
 split at hc
 ·simp only[ft]at hc
  obtain⟨q,hq,hp⟩:=hc
  injection hp with hp
  injection hp with e1 e2
  subst e1;subst e2
  exact aW hi hf ha rfl (Yi Jx (Ev hq) (by decide) fun s' _=>rfl)
 ·cases hc))
end
end Go.Proofs.YtfgmceookgelcaaGreatDoor.Am
set_option linter.unusedVariables false
set_option linter.unusedSimpArgs false
set_option maxRecDepth 100000
namespace Go.Proofs.YtfgmceookgelcaaGreatDoor.Am
open Go Go.Proofs
noncomputable section
theorem fM:A2 Tryz.prog 5=some 1:=by kernel_rfl
theorem by5:Cz Tryz.prog 5=some 1:=by kernel_rfl
theorem ff:EM Tryz.prog 5=some false:=by kernel_rfl
theorem fL:A2 Tryz.prog 134=some 1:=by kernel_rfl
theorem Tx:EM Tryz.prog 134=some false:=by kernel_rfl
theorem fP:DW Tryz.prog 134=some (.slice none 0 (some 0)):=by kernel_rfl
def Ve:List AC:=[
 ⟨none,.p1 some,[(.const (.str []))],(.set 1),[]⟩]
def Vf:List AC:=[
 ⟨none,.mk (fun l=>match l with | []=>Ar Tryz.prog 134 | _=>none),[],(.set 2),[]⟩]
def Vg:List AC:=[
 ⟨none,.p (fun l=>some (.func 263 (l.take 0) (l.drop 0))),[.var 2],.push,[]⟩,
 ⟨none,.p1 some,[.loc 0],(.set 3),[]⟩]
def PP:List AC:=[
 ⟨none,.p1 some,[.var 0],.push,[]⟩,
 ⟨none,.call 208,[.loc 0],.push,[]⟩,
 ⟨none,.p1 some,[.loc 0],(.set 0),[]⟩]
def PQ:List AC:=[
 ⟨none,.r (fun s l=>match l with | [x]=>Bk Tryz.prog s 59 x | _=>none),[.var 0],.push,[]⟩,
 ⟨none,.p2 (AN Tryz.prog .gtr 3),[(.loc 0),(.const (.int .i64 (0)))],(.set 7),[]⟩]
def PR:List AC:=[
 ⟨none,.call 210,[(.var 0),(.const (.int .u64 (1000000000)))],.push,[]⟩,
 ⟨none,.p1 (fun x=>Za x 0),[.loc 0],.push,[]⟩,
 ⟨none,.p1 (fun x=>Za x 1),[.loc 1],.push,[]⟩,
 ⟨none,.p1 some,[.loc 1],(.set 4),[]⟩,
 ⟨none,.p1 some,[.loc 0],(.set 5),[]⟩]
def Vh:List AC:=[
 ⟨none,.p1 some,[.var 4],(.set 0),[]⟩]
def Vi:List AC:=[
 ⟨none,.p1 some,[(.const (.int .i64 (0)))],(.set 8),[]⟩]
def PS:List AC:=[
 ⟨none,.p2 (AN Tryz.prog .lss 3),[(.var 8),(.const (.int .i64 (9)))],(.set 9),[]⟩]
def Vj:List AC:=[
 ⟨none,.p1 some,[.var 5],.push,[]⟩,
 ⟨none,.callv,[.var 3,.loc 0],.push,[]⟩,
 ⟨none,.p1 some,[.loc 0],(.set 5),[]⟩]
def Rl:List AC:=[
 ⟨none,.p2 (AN Tryz.prog .add 3),[(.var 8),(.const (.int .i64 (1)))],.push,[]⟩,
 ⟨none,.p1 some,[.loc 0],(.set 8),[]⟩]
def HD:Ab:=(.seq (.ops PS) (.seq (.cond (.var 9)
 .skip
 (.exit 2)) (.seq (.block 3 (.ops Vj)) (.ops Rl))))
def F9:Ab:=(.seq (.seq (.ops PQ) (.cond (.var 7)
 .skip
 (.exit 0))) (.block 1 (.seq (.ops PR) (.seq (.ops Vh) (.seq (.ops Vi) (.block 2 (.loop HD)))))))
def MM:List AC:=[
 ⟨none,.r1 (fun s a=>AF Tryz.prog s 134 a),[.var 2],.push,[]⟩,
 ⟨none,.call 264,[.loc 0],.push,[]⟩]
def MN:List AC:=[
 ⟨none,.r1 (fun s a=>AF Tryz.prog s 134 a),[.var 2],.push,[]⟩,
 ⟨none,.r1 (fun s x=>Af Tryz.prog s 134 9 x),[.loc 0],.push,[]⟩,
 ⟨none,.call 265,[(.loc 0),(.const (.str [48]))],.push,[]⟩,
 ⟨none,.p1 some,[.loc 0],(.set 6),[]⟩]
def I5:List AC:=[
 ⟨none,.p2 (AN Tryz.prog .eql 9),[(.var 6),(.const (.str []))],(.set 10),[]⟩]
def I6:List AC:=[
 ⟨none,.p1 some,[(.const (.str [48]))],(.set 1),[]⟩]
def MO:List AC:=[
 ⟨none,.p1 some,[.var 6],(.set 1),[]⟩]
def eS:Ay:=⟨1,11,(.seq (.ops Ve) (.seq (.ops Vf) (.seq (.ops Vg) (.seq (.seq (.ops PP) (.block 0 (.loop F9))) (.seq (.ops MM) (.seq (.ops MN) (.seq (.seq (.ops I5) (.cond (.var 10)
 (.seq (.ops I6) .ret)
 .skip)) (.seq (.ops MO) .ret)))))))),[((.var 1),none)]⟩
def Vx:List AC:=[
 ⟨none,.p1 some,[(.const (.int .u64 (0)))],(.set 2),[]⟩]
def Vy:List AC:=[
 ⟨none,.r1 (fun s a=>AF Tryz.prog s 134 a),[.var 1],.push,[]⟩,
 ⟨none,.p2 (AN Tryz.prog .rem 205),[(.var 0),(.const (.int .u64 (10)))],.push,[]⟩,
 ⟨none,.p2 (AN Tryz.prog .add 205),[(.const (.int .u64 (48))),(.loc 0)],.push,[]⟩,
 ⟨none,.r1 (fun s x=>Af Tryz.prog s 205 5 x),[.loc 0],.push,[]⟩,
 ⟨none,.mk (fun l=>(Ak Tryz.prog 134 1 (zipIdx [0] l)).bind fun r=>some (r,.slice 1)),[.loc 0],.push,[]⟩,
 ⟨none,.e (fun s l=>A7 Tryz.prog s [134,134] l),[.loc 4,.loc 0],.push,[]⟩,
 ⟨none,.e (fun s=>Xx (fun a x=>Xz (AZ Tryz.prog s 134 a x))),[.var 1,.loc 0],.push,[]⟩]
def Vz:List AC:=[
 ⟨none,.p2 (AN Tryz.prog .quo 205),[(.var 0),(.const (.int .u64 (10)))],.push,[]⟩,
 ⟨none,.p1 some,[.loc 0],(.set 2),[]⟩]
def eW:Ay:=⟨2,3,(.seq (.ops Vx) (.seq (.ops Vy) (.seq (.ops Vz) .ret))),[((.var 2),none)]⟩
def PY:List AC:=[
 ⟨none,.r (fun s l=>match l with | [x]=>Bk Tryz.prog s 134 x | _=>none),[.var 0],.push,[]⟩,
 ⟨none,.p2 (AN Tryz.prog .sub 3),[(.loc 0),(.const (.int .i64 (1)))],.push,[]⟩,
 ⟨none,.p1 some,[(.const (.int .i64 (0)))],(.set 1),[]⟩,
 ⟨none,.p1 some,[.loc 0],(.set 2),[]⟩]
def MR:List AC:=[
 ⟨none,.p2 (AN Tryz.prog .lss 3),[.var 1,.var 2],(.set 3),[]⟩]
def V0:List AC:=[
 ⟨none,.p2 (AQ Tryz.prog 134),[.var 0,.var 2],.push,[]⟩,
 ⟨none,.r1 (fun s a=>AF Tryz.prog s 5 a),[.loc 0],.push,[]⟩,
 ⟨none,.p2 (AQ Tryz.prog 134),[.var 0,.var 1],.push,[]⟩,
 ⟨none,.r1 (fun s a=>AF Tryz.prog s 5 a),[.loc 0],.push,[]⟩,
 ⟨none,.p2 (AQ Tryz.prog 134),[.var 0,.var 1],.push,[]⟩,
 ⟨none,.e (fun s=>Xx (fun a x=>Xz (AZ Tryz.prog s 5 a x))),[.loc 0,.loc 3],.push,[]⟩,
 ⟨none,.p2 (AQ Tryz.prog 134),[.var 0,.var 2],.push,[]⟩,
 ⟨none,.e (fun s=>Xx (fun a x=>Xz (AZ Tryz.prog s 5 a x))),[.loc 0,.loc 3],.push,[]⟩]
def V1:List AC:=[
 ⟨none,.p1 some,[.var 1],.push,[]⟩,
 ⟨none,.p2 (AN Tryz.prog .add 3),[(.loc 0),(.const (.int .i64 (1)))],.push,[]⟩,
 ⟨none,.p1 some,[.var 2],.push,[]⟩,
 ⟨none,.p2 (AN Tryz.prog .sub 3),[(.loc 0),(.const (.int .i64 (1)))],.push,[]⟩,
 ⟨none,.p1 some,[.loc 2],(.set 1),[]⟩,
 ⟨none,.p1 some,[.loc 0],(.set 2),[]⟩]
def Hy:Ab:=(.seq (.seq (.ops MR) (.cond (.var 3)
 .skip
 (.exit 0))) (.seq (.block 1 (.ops V0)) (.ops V1)))
def cX:Ay:=⟨1,4,(.seq (.ops PY) (.block 0 (.loop Hy))),[]⟩
theorem Z2:AS Tryz.prog 230=some eS:=by kernel_rfl
theorem Z6:AS Tryz.prog 263=some eW:=by kernel_rfl
theorem SE:AS Tryz.prog 264=some cX:=by kernel_rfl
end
end Go.Proofs.YtfgmceookgelcaaGreatDoor.Am
set_option linter.unusedVariables false
set_option linter.unusedSimpArgs false
set_option maxRecDepth 16000
namespace Go.Proofs.YtfgmceookgelcaaGreatDoor.Am
open Go Go.Proofs
noncomputable section
def QZ(n:Nat):AV:=.int .u8 (n:Int)
def bs(l:List Nat):List AV:=l.map QZ
theorem O3(l:List Nat):(bs l).length=l.length:=by simp[bs]
theorem S0(a b:List Nat):bs (a++b)=bs a++bs b:=by simp[bs]
theorem T4{l:List Nat}{k x:Nat}(h:l[k]? = some x):(bs l)[k]? = some (QZ x):=by simp[bs,h]
theorem T5(l:List Nat)(k x:Nat):(bs l).set k (QZ x)=bs (l.set k x):=by simp[bs,List.map_set]
theorem cT(l:List Nat):Aq (bs l)=true:=by
 induction l with
 | nil=>rfl
 | cons x l ih=>show(true && Aq (bs l))=true;rw[ih];rfl
theorem dU(x:Int):Ak Tryz.prog 134 1 (zipIdx [0] [.int .u8 x])=some (R 5 1 false [.int .u8 x]):=by kernel_rfl
theorem ZL:Bs Tryz.prog 134=true:=by kernel_rfl
theorem fO:Cm Tryz.prog 5 1=true:=by kernel_rfl
theorem aP{s:AE}{n:Nat}(h:n<256):Af Tryz.prog s 205 5 (AT n)=some (QZ n):=by
 have:Af Tryz.prog s 205 5 (AT n)=some (.int .u8 (CN .u8 (n:Int))):=by
  simp[Af,Tryz.underlying205,Tryz.underlying5,AT]
 rw[this,Kq (by simp only[BY,fw];omega)]
 rfl
section
variable{E:Cg}{s:AE}
theorem Tn(hE:An E){p n m:Nat}{v:AV}{cs:List Nat}{OB:List Nat}(hn:n<18446744073709551616)(hp:s.heap.get p=some (R 134 0 false [v]))(hpl:p<s.next)(hb:Hr 5 1 s v m (bs cs) OB)(hpo:p ∉ OB)(hm:m≤10000000000){K:AV→AE→Prop}
  (hK:∀s' v' OB',s.next≤s'.next→(∀j,j<s.next→j≠p→j ∉ OB→s'.heap.get j=s.heap.get j)→s'.heap.get p=some (R 134 0 false [v'])→Hr 5 1 s' v' (m+1) (bs (cs++[48+n % 10])) OB'→p ∉ OB'→(∀j∈OB',j∈OB∨s.next≤j)→K (AT (n / 10)) s'):
  WF E 263 [AT n,.ptr (some (p,0))] K s:=by
 have e1:AF Tryz.prog s 134 (.ptr (some (p,0)))=some v:=Ae Tx hp rfl
 have e2:AN Tryz.prog .rem 205 (AT n) (.int .u64 10)=some (AT (n % 10)):=ZD Tryz.prog 205 (a:=n) (b:=10) (by decide)
 have e3:AN Tryz.prog .add 205 (.int .u64 48) (AT (n % 10))=some (AT (48+n % 10)):=F4 Tryz.prog 205 (a:=48) (b:=n % 10) (by omega)
 have e4:=aP (s:=s) (n:=48+n % 10) (by omega)
 have e5:Ak Tryz.prog 134 1 (zipIdx [0] [QZ (48+n % 10)])=some (R 5 1 false [QZ (48+n % 10)]):=dU _
 have e6:AN Tryz.prog .quo 205 (AT n) (.int .u64 10)=some (AT (n / 10)):=ZC Tryz.prog 205 (a:=n) (b:=10) hn (by decide)
 have hnx:(newObj s (R 5 1 false [QZ (48+n % 10)])).next=s.next+1:=rfl
 have hb2:=hb.frame (s':=newObj s (R 5 1 false [QZ (48+n % 10)])) (by rw[hnx];omega) fun j hj=>by rw[AO,if_neg (by have:=hb.lt j hj;omega)]
 have hsrc:B0 Tryz.prog (newObj s (R 5 1 false [QZ (48+n % 10)])) 5 1 (.slice (some (s.next,0)) 1 (some 1))=some (1,bs [48+n % 10]):=NB 5 1 (by rw[AO,if_pos rfl];rfl) rfl
 obtain⟨v2,s3,OB2,happ,hbuf,hn3,hf3,hO3,hsl⟩:=hb2.append (xt:=134) (m:=1) Tryz.underlying134 fM by5 (by decide) ZL fO (by decide) hsrc rfl (cT _) (by omega) (by omega)
 rw[hnx]at hn3 hf3 hO3
 have hp3:s3.heap.get p=some (R 134 0 false [v]):=by rw[hf3 p (by omega) hpo,AO,if_neg (by omega)];exact hp
 have hpo2:p ∉ OB2:=fun h=>(hO3 p h).elim hpo fun h=>by omega
 obtain⟨a2,c2,hv2,_⟩:=hbuf.slice
 have e8:=Cf (P:=Tryz.prog) (t:=134) (o:=0) (v:=v2) fL hp3 (by simp) (by rw[hv2];rfl)
 simp only[gk]at e8
 refine hE.go Z6 (by decide) rfl ?_
 simp only[eW,Vx,Vy,Vz,e1,e2,e3,e4,e5,e6,happ,e8,Xx,Xz,Xd,Qa,Qb,Qc,Qd,Qe,Qf,Qg,Qh,Qi,Qj,Qk,Ql,Qm,Qn,true_and,and_true,Qo,Qp,Qq,Qr,Qs,Qt,Qu,Qv,Qw,Qx,Qy,Qz,Ra,Rb,Rc,Rd,Re,Rf,Rg,Rh,Ri,Rj,Rk,Rm,Rn,Ro,Rp,Rq,Rs,Ya,Yb,Yc,Rt,Ru,Za,Yd,Ye,Rx,Ry,Rz,Wa,Wb,Wc,Wd]
 refine hK _ v2 OB2 (by show s.next≤s3.next;omega) (fun j hj hjp hjo=>?_) (Wv _ _ _) ?_ hpo2 (fun j hj=>(hO3 j hj).imp id fun h=>by omega)
 ·rw[Ww _ hjp,hf3 j (by omega) hjo,AO,if_neg (by omega)]
 ·rw[S0]
  exact hbuf.frame (fu _) fun j hj=>Ww _ fun e=>hpo2 (by rw[← e];exact hj)
def DR(G:Nat→Prop)(s:AE)(p:Nat)(cs:List Nat):Prop:=∃v OB,s.heap.get p=some (R 134 0 false [v])∧p<s.next∧G p∧Hr 5 1 s v cs.length (bs cs) OB∧p ∉ OB∧∀j∈OB,G j
def Oq(G:Nat→Prop)(s s':AE):Prop:=s.next≤s'.next∧∀j,j<s.next→¬ G j→s'.heap.get j=s.heap.get j
theorem Oq.refl(G:Nat→Prop)(s:AE):Oq G s s:=⟨fu _,fun _ _ _=>rfl⟩
theorem Oq.trans{G:Nat→Prop}{s s1 s2:AE}(h:Oq G s s1)(k:Oq G s1 s2):Oq G s s2:=⟨fx h.1 k.1,fun j hj hg=>(k.2 j (fy hj h.1) hg).trans (h.2 j hj hg)⟩
theorem DR.old{G:Nat→Prop}{p:Nat}{s s':AE}{cs:List Nat}(h:DR G s p cs)(k:A8 s.next s s'):DR G s' p cs:=by
 obtain⟨v,OB,h1,h2,h3,h4,h5,h6⟩:=h
 exact⟨v,OB,(k.2 p h2).trans h1,fy h2 k.1,h3,h4.frame k.1 fun j hj=>k.2 j (h4.lt j hj),h5,h6⟩
theorem DR.sub{G G':Nat→Prop}{p:Nat}{s:AE}{cs:List Nat}(h:DR G s p cs)(k:∀j,j<s.next→G j→G' j):DR G' s p cs:=by
 obtain⟨v,OB,h1,h2,h3,h4,h5,h6⟩:=h
 exact⟨v,OB,h1,h2,k p h2 h3,h4,h5,fun j hj=>k j (h4.lt j hj) (h6 j hj)⟩
theorem bC(hE:An E){G:Nat→Prop}{p n:Nat}{cs:List Nat}(hn:n<18446744073709551616)(h:DR G s p cs)(hG:∀j,s.next≤j→G j)(hm:cs.length≤10000000000){K:AV→AE→Prop}
    (hK:∀s',Oq G s s'→DR G s' p (cs++[48+n % 10])→K (AT (n / 10)) s'):WF E 263 [AT n,.ptr (some (p,0))] K s:=by
  obtain⟨v,OB,h1,h2,h3,h4,h5,h6⟩:=h
  refine Tn hE hn h1 h2 h4 h5 hm fun s' v' OB' g1 g2 g3 g4 g5 g6=>hK s' ⟨g1,fun j hj hg=>g2 j hj (fun e=>hg (by rw[e];exact h3)) fun hm=>hg (h6 j hm)⟩ ⟨v',OB',g3,by omega,h3,?_,g5,fun j hj=>?_⟩
  · rw[gI];exact g4
  · rcases g6 j hj with h | h
    · exact h6 j h
    · exact hG j h
def Po:Nat→Nat→List Nat
 | 0,_=>[]
 | k+1,n=>(48+n % 10)::Po k (n / 10)
theorem Jo:∀ (k n:Nat),(Po k n).length=k
 | 0,_=>rfl
 | k+1,n=>by simp[Po,Jo k]
theorem TS(hE:An E){G:Nat→Prop}{p:Nat}{Q:Au→Prop}{x0 x1 x4 x6 x7 x10:AV}:∀ (k n:Nat)(cs:List Nat)(s:AE)(x9:AV),k≤9→n<18446744073709551616→DR G s p cs→(∀j,s.next≤j→G j)→cs.length+k≤10000000000 →
  (∀s' y5 y8 y9,Oq G s s'→DR G s' p (cs++Po k n)→Q ⟨.exit 2,[x0,x1,.ptr (some (p,0)),.func 263 [] [.ptr (some (p,0))],x4,y5,x6,x7,y8,y9,x10],[],s'⟩) →
  WC E none (.loop HD) Q [x0,x1,.ptr (some (p,0)),.func 263 [] [.ptr (some (p,0))],x4,AT n,x6,x7,iv ((9:Int) - (k:Int)),x9,x10] [] s:=by
 intro k
 induction k with
 | zero =>
  intro n cs s x9 _ _ h hG _ hQ
  refine WC.loop' ?_
  have d0:decide ((9:Int) - ((0:Nat):Int)<9)=false:=rfl
  simp only[HD,PS,Rx,d0,Qa,Qb,Qc,Qd,Qe,Qf,Qg,Qh,Qi,Qj,Qk,Ql,Qm,Qn,true_and,and_true,Qo,Qp,Qq,Qr,Qs,Qt,Qu,Qv,Qw,Qx,Qy,Qz,Ra,Rb,Rc,Rd,Re,Rf,Rg,Rh,Ri,Rj,Rk,Rm,Rn,Ro,Rp,Rq,Rs,Ya,Yb,Yc,Rt,Ru,Za,Yd,Ye,Rx,Ry,Rz,Wa,Wb,Wc,Wd]
  exact hQ s _ _ _ (Oq.refl _ _) (by simpa[Po]using h)
 | succ k ih =>
  intro n cs s x9 hk hn h hG hl hQ
  refine WC.loop' ?_
  generalize hW:WC E none (Ab.loop HD) Q=WW
  have d0:decide ((9:Int) - ((k+1:Nat):Int)<9)=true:=decide_eq_true (by omega)
  have e1:AN Tryz.prog .add 3 (iv ((9:Int) - ((k+1:Nat):Int))) (.int .i64 1)=some (iv ((9:Int) - (k:Int))):=by
   have:=By Tryz.prog 3 ((9:Int) - ((k+1:Nat):Int)) 1 ⟨by omega,by omega⟩
   rw[this];congr 2;omega
  simp only[HD,PS,Vj,Rl,Rx,d0,Qa,Qb,Qc,Qd,Qe,Qf,Qg,Qh,Qi,Qj,Qk,Ql,Qm,Qn,true_and,and_true,Qo,Qp,Qq,Qr,Qs,Qt,Qu,Qv,Qw,Qx,Qy,Qz,Ra,Rb,Rc,Rd,Re,Rf,Rg,Rh,Ri,Rj,Rk,Rm,Rn,Ro,Rp,Rq,Rs,Ya,Yb,Yc,Rt,Ru,Za,Yd,Ye,Rx,Ry,Rz,Wa,Wb,Wc,Wd]
  refine bC hE hn h hG (by omega) fun s1 o1 h1=>?_
  simp only[e1,Qa,Qb,Qc,Qd,Qe,Qf,Qg,Qh,Qi,Qj,Qk,Ql,Qm,Qn,true_and,and_true,Qo,Qp,Qq,Qr,Qs,Qt,Qu,Qv,Qw,Qx,Qy,Qz,Ra,Rb,Rc,Rd,Re,Rf,Rg,Rh,Ri,Rj,Rk,Rm,Rn,Ro,Rp,Rq,Rs,Ya,Yb,Yc,Rt,Ru,Za,Yd,Ye,Rx,Ry,Rz,Wa,Wb,Wc,Wd]
  rw[← hW]
  refine ih (n / 10) _ s1 _ (by omega) (by omega) h1 (fun j hj=>hG j (fx o1.1 hj)) (by rw[gI];simp;omega) fun s' y5 y8 y9 o2 h2=>?_
  exact hQ s' _ _ _ (o1.trans o2) (by rw[gP]at h2;exact h2)
end
theorem Hr.own1{e:TypeId}{s:AE}{v:AV}{n:Nat}{cs:List AV}{O:List Nat}(h:Hr e 1 s v n cs O):(v=.slice none 0 (some 0)∧n=0)∨∃i p,v=.slice (some (i,0)) n none∧i∈O∧i<s.next∧B3 s i cs p∧∀q,p=some q→q∈O:=by
  rcases h with⟨h1,h3,_⟩ | ⟨i,p,rfl,h3,rfl⟩
  · exact .inl ⟨h1,h3⟩
  · rcases h3.ex with ⟨e, _⟩ | ⟨_, _, k2, k3, r, k4, k5, _, k7, k8, k9, _⟩
    · cases e
    · exact .inr ⟨i,p,rfl,by simp,k2,⟨r,k4,k5,by rw[k7];rfl,k8,.inr k9⟩,fun q hq=>by simp[hq]⟩
def E5(orig l:List Nat)(k:Nat):Prop:=l.length=orig.length∧∀t,t<orig.length→l[t]? = if t<k∨orig.length - 1 - t<k then orig[orig.length - 1 - t]? else orig[t]?
theorem E5.zero(l:List Nat):E5 l l 0:=⟨rfl,fun t _=>by simp⟩
theorem E5.done{orig l:List Nat}{k:Nat}(h:E5 orig l k)(hk:orig.length≤2 * k+1):l=orig.reverse:=by
 apply List.ext_getElem?
 intro t
 by_cases ht:t<orig.length
 ·rw[h.2 t ht,List.getElem?_reverse ht]
  by_cases c:t<k∨orig.length - 1 - t<k
  ·rw[if_pos c]
  ·rw[if_neg c]
   have:orig.length - 1 - t=t:=by omega
   rw[this]
 ·rw[gH (by rw[h.1];omega),gH (by simp;omega)]
theorem E5.step{orig l:List Nat}{k x y:Nat}(h:E5 orig l k)(hk:2 * k+1<orig.length)(hx:l[orig.length - 1 - k]? = some x)(hy:l[k]? = some y):E5 orig ((l.set k x).set (orig.length - 1 - k) y) (k+1):=by
 refine⟨by simp[h.1],fun t ht=>?_⟩
 have ex:=h.2 (orig.length - 1 - k) (by omega)
 have ey:=h.2 k (by omega)
 rw[if_neg (by omega)]at ex ey
 rw[hx]at ex
 rw[hy]at ey
 by_cases c1:t=orig.length - 1 - k
 ·subst c1
  rw[iQ (by simp[h.1];omega),if_pos (.inr (by omega))]
  rw[show orig.length - 1 - (orig.length - 1 - k)=k from by omega]
  exact ey
 ·rw[gy (Ne.symm c1)]
  by_cases c2:t=k
  ·subst c2
   rw[iQ (by rw[h.1];omega),if_pos (.inl (by omega))]
   exact ex
  ·rw[gy (Ne.symm c2),h.2 t ht]
   by_cases c:t<k∨orig.length - 1 - t<k
   ·rw[if_pos c,if_pos (by omega)]
   ·rw[if_neg c,if_neg (by omega)]
section
variable{E:Cg}{s:AE}
theorem Yo       {i n : Nat} {p : Option Nat} {orig : List Nat} (hn : orig.length = n) (hn1 : n ≤ 10000000000) {Q : Au   → Prop} : ∀ (m k : Nat) (l : List Nat) (s : AE)  (x3 : AV), n ≤ 2 * k + m → k ≤ n → B3   s i (bs l) p → E5     orig l k →
    (∀s' y1 y2 y3,CY s s' i p→B3 s' i (bs orig.reverse) p→Q ⟨.exit 0,[.slice (some (i,0)) n none,y1,y2,y3],[],s'⟩) →
    WC E none (.loop Hy) Q [.slice (some (i,0)) n none,iv (k:Int),iv ((n:Int) - 1 - (k:Int)),x3] [] s:=by
  intro m
  induction m using Nat.strongRecOn with
  | _ m ih =>
    intro k l s x3 hm hk ho ht hQ
    refine WC.loop' ?_
    generalize hW:WC E none (Ab.loop Hy) Q=WW
    by_cases hlt:2 * k+1<n
    · have d0 : decide ((k : Int) < (n : Int) - 1 - (k : Int)) = true := decide_eq_true (by omega)
      have ej:(n:Int) - 1 - (k:Int)=((n - 1 - k:Nat):Int):=by omega
      have hx:l[n - 1 - k]? = some (l[n - 1 - k]'(by rw[ht.1];omega)):=f9 _
      have hy:l[k]? = some (l[k]'(by rw[ht.1];omega)):=f9 _
      generalize l[n - 1 - k]'(by rw[ht.1];omega)=x at hx
      generalize l[k]'(by rw[ht.1];omega)=y at hy
      have e1:=Aw (cap:=none) (i:=i) (o:=0) Tryz.underlying134 fM (show n - 1 - k<n by omega)
      have e2:AF Tryz.prog s 5 (.ptr (some (i,0+(n - 1 - k) * 1)))=some (QZ x):=by rw[gB,gA];exact Ft ff ho (T4 hx)
      have e3:=Aw (cap:=none) (i:=i) (o:=0) Tryz.underlying134 fM (show k<n by omega)
      have e4:AF Tryz.prog s 5 (.ptr (some (i,0+k * 1)))=some (QZ y):=by rw[gB,gA];exact Ft ff ho (T4 hy)
      obtain⟨s1,e5,o5,n5,f5⟩:=DL (P:=Tryz.prog) (t:=5) (o:=k) (v:=QZ x) fM ho (by rw[O3,ht.1];omega) rfl
      obtain⟨s2,e6,o6,n6,f6⟩:=DL (P:=Tryz.prog) (t:=5) (o:=n - 1 - k) (v:=QZ y) fM o5 (by rw[iA,O3,ht.1];omega) rfl
      rw[T5,T5]at o6
      have e5':AZ Tryz.prog s 5 (.ptr (some (i,0+k * 1))) (QZ x)=some s1:=by rw[gB,gA];exact e5
      have e6':AZ Tryz.prog s1 5 (.ptr (some (i,0+(n - 1 - k) * 1))) (QZ y)=some s2:=by rw[gB,gA];exact e6
      have e7:AN Tryz.prog .add 3 (iv (k:Int)) (.int .i64 1)=some (iv ((k+1:Nat):Int)):=by
        have:=By Tryz.prog 3 (k:Int) 1 ⟨by omega,by omega⟩
        rw[this];congr 2
      have e8:AN Tryz.prog .sub 3 (iv ((n - 1 - k:Nat):Int)) (.int .i64 1)=some (iv ((n:Int) - 1 - ((k+1:Nat):Int))):=by
        have:=Br Tryz.prog 3 ((n - 1 - k:Nat):Int) 1 ⟨by omega,by omega⟩
        rw[this];congr 2;omega
      rw[ej]at d0 ⊢
      simp only[Hy,MR,V0,V1,Rx,d0,e1,e2,e3,e4,e5',e6',e7,e8,Xx,Xz,Qa,Qb,Qc,Qd,Qe,Qf,Qg,Qh,Qi,Qj,Qk,Ql,Qm,Qn,true_and,and_true,Qo,Qp,Qq,Qr,Qs,Qt,Qu,Qv,Qw,Qx,Qy,Qz,Ra,Rb,Rc,Rd,Re,Rf,Rg,Rh,Ri,Rj,Rk,Rm,Rn,Ro,Rp,Rq,Rs,Ya,Yb,Yc,Rt,Ru,Za,Yd,Ye,Rx,Ry,Rz,Wa,Wb,Wc,Wd]
      rw[← hW]
      subst hn
      refine ih (m - 2) (by omega) (k+1) _ s2 _ (by omega) (by omega) o6 (ht.step hlt hx hy) fun s' y1 y2 y3 q1 q2=>?_
      exact hQ s' y1 y2 y3 (CY.step ((CY.refl s i p).step n5 f5) (q1.next.trans n6) fun j hj hp=>(q1.get j hj hp).trans (f6 j hj hp)) q2
    · have d0:decide ((k:Int)<(n:Int) - 1 - (k:Int))=false:=decide_eq_false (by omega)
      simp only[Hy,MR,Rx,d0,Qa,Qb,Qc,Qd,Qe,Qf,Qg,Qh,Qi,Qj,Qk,Ql,Qm,Qn,true_and,and_true,Qo,Qp,Qq,Qr,Qs,Qt,Qu,Qv,Qw,Qx,Qy,Qz,Ra,Rb,Rc,Rd,Re,Rf,Rg,Rh,Ri,Rj,Rk,Rm,Rn,Ro,Rp,Rq,Rs,Ya,Yb,Yc,Rt,Ru,Za,Yd,Ye,Rx,Ry,Rz,Wa,Wb,Wc,Wd]
      have:=ht.done (by omega)
      exact hQ s _ _ _ (CY.refl _ _ _) (by rw[← this];exact ho)
theorem dR(hE:An E){i:Nat}{p:Option Nat}{l:List Nat}(hl:l.length≤10000000000)(ho:B3 s i (bs l) p){K:AV→AE→Prop}
  (hK:∀s',CY s s' i p→B3 s' i (bs l.reverse) p→K (.tuple []) s'):WF E 264 [.slice (some (i,0)) l.length none] K s:=by
 have e2:=Br Tryz.prog 3 (l.length:Int) 1 ⟨by omega,by omega⟩
 refine hE.go SE (by decide) rfl ?_
 simp only[cX,PY,AW Tryz.underlying134,e2,Qa,Qb,Qc,Qd,Qe,Qf,Qg,Qh,Qi,Qj,Qk,Ql,Qm,Qn,true_and,and_true,Qo,Qp,Qq,Qr,Qs,Qt,Qu,Qv,Qw,Qx,Qy,Qz,Ra,Rb,Rc,Rd,Re,Rf,Rg,Rh,Ri,Rj,Rk,Rm,Rn,Ro,Rp,Rq,Rs,Ya,Yb,Yc,Rt,Ru,Za,Yd,Ye,Rx,Ry,Rz,Wa,Wb,Wc,Wd]
 rw[show(l.length:Int) - 1=(l.length:Int) - 1 - ((0:Nat):Int)from by omega]
 refine Yo (orig:=l) rfl hl l.length 0 l s _ (by omega) (by omega) ho (E5.zero l) fun s' y1 y2 y3 q1 q2=>?_
 simp only[if_true,Qa,Qb,Qc,Qd,Qe,Qf,Qg,Qh,Qi,Qj,Qk,Ql,Qm,Qn,true_and,and_true,Qo,Qp,Qq,Qr,Qs,Qt,Qu,Qv,Qw,Qx,Qy,Qz,Ra,Rb,Rc,Rd,Re,Rf,Rg,Rh,Ri,Rj,Rk,Rm,Rn,Ro,Rp,Rq,Rs,Ya,Yb,Yc,Rt,Ru,Za,Yd,Ye,Rx,Ry,Rz,Wa,Wb,Wc,Wd]
 exact hK s' q1 q2
end
section
variable{E:Cg}{s:AE}
theorem bK(hE:An E){K:AV→AE→Prop}(hK:K (.tuple []) s):WF E 264 [.slice none 0 (some 0)] K s:=by
 refine hE.go SE (by decide) rfl ?_
 have e2:=Br Tryz.prog 3 ((0:Nat):Int) 1 ⟨by decide,by decide⟩
 simp only[cX,PY,AW Tryz.underlying134,e2,Qa,Qb,Qc,Qd,Qe,Qf,Qg,Qh,Qi,Qj,Qk,Ql,Qm,Qn,true_and,and_true,Qo,Qp,Qq,Qr,Qs,Qt,Qu,Qv,Qw,Qx,Qy,Qz,Ra,Rb,Rc,Rd,Re,Rf,Rg,Rh,Ri,Rj,Rk,Rm,Rn,Ro,Rp,Rq,Rs,Ya,Yb,Yc,Rt,Ru,Za,Yd,Ye,Rx,Ry,Rz,Wa,Wb,Wc,Wd]
 refine WC.loop' ?_
 have d0:decide ((0:Int)<((0:Nat):Int) - 1)=false:=rfl
 simp only[Hy,MR,Rx,d0,if_true,Qa,Qb,Qc,Qd,Qe,Qf,Qg,Qh,Qi,Qj,Qk,Ql,Qm,Qn,true_and,and_true,Qo,Qp,Qq,Qr,Qs,Qt,Qu,Qv,Qw,Qx,Qy,Qz,Ra,Rb,Rc,Rd,Re,Rf,Rg,Rh,Ri,Rj,Rk,Rm,Rn,Ro,Rp,Rq,Rs,Ya,Yb,Yc,Rt,Ru,Za,Yd,Ye,Rx,Ry,Rz,Wa,Wb,Wc,Wd]
 exact hK
end
theorem XO{s:AE}{i:Nat}{l:List Nat}{p:Option Nat}(ho:B3 s i (bs l) p)(hl:∀x∈l,x<256):Af Tryz.prog s 134 9 (.slice (some (i,0)) l.length none)=some (.str l):=by
 have h1:Be s i 0 l.length=some (bs l):=by
  obtain⟨r,g1,g2,_⟩:=ho
  have:=Fs (s:=s) (i:=i) (r:=r) g1 g2 0 (bs l) (by simp) (fun j u hj=>by simpa using hj)
  rw[O3]at this
  exact this
 have h2:∀l:List Nat,(∀x∈l,x<256)→Af.bytesOf (bs l)=some l:=by
  intro l
  induction l with
  | nil=>intro _;rfl
  | cons x l ih =>
   intro h
   show AH (Nat.blt x 256) ((Af.bytesOf (bs l)).bind fun r=>some (x::r))=_
   rw[ih fun y hy=>h y (gG _ hy),cR (h x (gC ..))]
   rfl
 unfold Af
 rw[Tryz.underlying134,Tryz.underlying9]
 simp only[Tryz.underlying5,h1,h2 l hl,Option.bind_some]
theorem Jp:∀ (k n:Nat),∀x∈Po k n,x<256
 | 0,_,x,h=>by cases h
 | k+1,n,x,h=>by
  rcases hZ.1 h with rfl | h
  ·omega
  ·exact Jp k _ x h
def Fh:Nat→Nat→List Nat
 | 0,_=>[]
 | f+1,n=>bif Nat.beq n 0 then []else Po 9 (n % 1000000000)++Fh f (n / 1000000000)
theorem IX:∀ (f n:Nat),∀x∈Fh f n,x<256
 | 0,_,x,h=>by cases h
 | f+1,n,x,h=>by
  unfold Fh at h
  cases hb:Nat.beq n 0 with
  | true=>rw[hb]at h;cases h
  | false =>
   rw[hb,cond_false,List.mem_append]at h
   rcases h with h | h
   ·exact Jp _ _ x h
   ·exact IX f _ x h
def HK:List Nat→List Nat
 | []=>[]
 | x::l=>bif Nat.beq x 48 then HK l else x::l
def YN(f n:Nat):List Nat:=match HK (Fh f n).reverse with
 | []=>[48]
 | x::l=>x::l
section
variable{E:Cg}{s:AE}
theorem ZB       (hE : An    E) {b p : Nat} {Q : Au   → Prop} {x1 x6 x10 : AV} : ∀ (f n : Nat) (cs : List Nat) (s : AE)  (va x4 x5 x7 x8 x9 : AV), n < 1000000000 ^ f → CW  s va (AI    n) → (AI    n).length ≤ 1000 → DR    (b ≤ ·) s p cs → b ≤ s.next → cs.length + 9 * f ≤ 1000000000 →
    (∀s' ya y4 y5 y7 y8 y9,Oq (b≤·) s s'→DR (b≤·) s' p (cs++Fh f n)→Q ⟨.exit 0,[ya,x1,.ptr (some (p,0)),.func 263 [] [.ptr (some (p,0))],y4,y5,x6,y7,y8,y9,x10],[],s'⟩) →
    WC E none (.loop F9) Q [va,x1,.ptr (some (p,0)),.func 263 [] [.ptr (some (p,0))],x4,x5,x6,x7,x8,x9,x10] [] s:=by
  have zero:∀ (f:Nat) (cs:List Nat) (s:AE) (va x4 x5 x7 x8 x9:AV),CW s va (AI 0)→DR (b≤·) s p cs →
      (∀s' ya y4 y5 y7 y8 y9,Oq (b≤·) s s'→DR (b≤·) s' p (cs++Fh f 0)→Q ⟨.exit 0,[ya,x1,.ptr (some (p,0)),.func 263 [] [.ptr (some (p,0))],y4,y5,x6,y7,y8,y9,x10],[],s'⟩) →
      WC E none (.loop F9) Q [va,x1,.ptr (some (p,0)),.func 263 [] [.ptr (some (p,0))],x4,x5,x6,x7,x8,x9,x10] [] s:=by
    intro f cs s va x4 x5 x7 x8 x9 hv h hQ
    obtain⟨a,c,rfl,_⟩:=hv
    refine WC.loop' ?_
    have hl0:(AI 0).length=0:=by rw[A6];rfl
    have d0:decide ((0:Int)<(((AI 0).length:Nat):Int))=false:=by rw[hl0];rfl
    have hd:Fh f 0=[]:=by cases f<;>rfl
    simp only[F9,PQ,AW Tryz.underlying59,Ry,d0,Qa,Qb,Qc,Qd,Qe,Qf,Qg,Qh,Qi,Qj,Qk,Ql,Qm,Qn,true_and,and_true,Qo,Qp,Qq,Qr,Qs,Qt,Qu,Qv,Qw,Qx,Qy,Qz,Ra,Rb,Rc,Rd,Re,Rf,Rg,Rh,Ri,Rj,Rk,Rm,Rn,Ro,Rp,Rq,Rs,Ya,Yb,Yc,Rt,Ru,Za,Yd,Ye,Rx,Ry,Rz,Wa,Wb,Wc,Wd]
    exact hQ s _ _ _ _ _ _ (Oq.refl _ _) (by rw[hd,iC];exact h)
  intro f
  induction f with
  | zero =>
    intro n cs s va x4 x5 x7 x8 x9 hn hv hk h hb hl hQ
    have h0:n=0:=by simpa using hn
    subst h0
    exact zero 0 cs s va x4 x5 x7 x8 x9 hv h hQ
  | succ f ih =>
    intro n cs s va x4 x5 x7 x8 x9 hn hv hk h hb hl hQ
    by_cases hn0:n=0
    · subst hn0
      exact zero (f+1) cs s va x4 x5 x7 x8 x9 hv h hQ
    · have hv2:=hv
      obtain⟨a,c,rfl,_⟩:=hv
      have hlne:(AI n).length≠0:=fun e=>Cb hn0 (hY e)
      have d0:decide ((0:Int)<(((AI n).length:Nat):Int))=true:=decide_eq_true (by omega)
      obtain⟨w1,w2,w3⟩:=Cl (x:=1000000000) (by decide) (AI n)
      rw[AY]at w1
      have hq:AD (A1 1000000000 (AI n)).1=n / 1000000000:=by omega
      have hr:(A1 1000000000 (AI n)).2=n % 1000000000:=by omega
      refine WC.loop' ?_
      generalize hW:WC E none (Ab.loop F9) Q=WW
      simp only[F9,PQ,PR,AW Tryz.underlying59,Ry,d0,Qa,Qb,Qc,Qd,Qe,Qf,Qg,Qh,Qi,Qj,Qk,Ql,Qm,Qn,true_and,and_true,Qo,Qp,Qq,Qr,Qs,Qt,Qu,Qv,Qw,Qx,Qy,Qz,Ra,Rb,Rc,Rd,Re,Rf,Rg,Rh,Ri,Rj,Rk,Rm,Rn,Ro,Rp,Rq,Rs,Ya,Yb,Yc,Rt,Ru,Za,Yd,Ye,Rx,Ry,Rz,Wa,Wb,Wc,Wd]
      refine Ki hE (x:=1000000000) hv2 (by omega) (AR n) (by decide) (by decide) fun s1 v1 o1 r1=>?_
      rw[BJ (Dx (by decide) (AR n)),hq]at r1
      rw[hr]
      have h1:DR (fun j=>b≤j∧C8 v1≠some j) s1 p cs:=(h.sub fun j hj hg=>⟨hg,fun e=>by have:=(r1.lt e).1;omega⟩).old o1
      simp only[PR,Vh,Vi,Qa,Qb,Qc,Qd,Qe,Qf,Qg,Qh,Qi,Qj,Qk,Ql,Qm,Qn,true_and,and_true,Qo,Qp,Qq,Qr,Qs,Qt,Qu,Qv,Qw,Qx,Qy,Qz,Ra,Rb,Rc,Rd,Re,Rf,Rg,Rh,Ri,Rj,Rk,Rm,Rn,Ro,Rp,Rq,Rs,Ya,Yb,Yc,Rt,Ru,Za,Yd,Ye,Rx,Ry,Rz,Wa,Wb,Wc,Wd]
      have hlen:(AI (n / 1000000000)).length≤1000:=by
        rcases fv 1000 (AI (n / 1000000000)).length with h' | h'
        · have := C1           (a := n) (b := n / 1000000000) (by omega)
          have:=iR n 1000000000
          omega
        · exact h'
      have hs1:=o1.1
      refine TS hE (p:=p) 9 (n % 1000000000) cs s1 _ (fu _) (by omega) h1 (fun j hj=>⟨by omega,fun e=>by have:=(r1.lt e).2;omega⟩) (by omega) fun s2 y5 y8 y9 o2 h2=>?_
      simp only[if_true,Qa,Qb,Qc,Qd,Qe,Qf,Qg,Qh,Qi,Qj,Qk,Ql,Qm,Qn,true_and,and_true,Qo,Qp,Qq,Qr,Qs,Qt,Qu,Qv,Qw,Qx,Qy,Qz,Ra,Rb,Rc,Rd,Re,Rf,Rg,Rh,Ri,Rj,Rk,Rm,Rn,Ro,Rp,Rq,Rs,Ya,Yb,Yc,Rt,Ru,Za,Yd,Ye,Rx,Ry,Rz,Wa,Wb,Wc,Wd]
      rw[← hW]
      refine ih (n / 1000000000) _ s2 v1 _ _ _ _ _ (by rw[gg]at hn;exact Nat.div_lt_of_lt_mul (by rw[gD];exact hn)) (r1.keep o2.1 fun j hj=>o2.2 j (r1.lt hj).2 fun hg=>hg.2 hj).n32 hlen (h2.sub fun j _ hg=>hg.1) (fx hb (fx hs1 o2.1)) (by rw[gI,Jo];omega) fun s' ya y4 y5 y7 y8 y9 o3 h3=>?_
      have o12:Oq (b≤·) s s2:=⟨fx hs1 o2.1,fun j hj hg=>(o2.2 j (by omega) fun h'=>hg h'.1).trans (o1.2 j hj)⟩
      refine hQ s' _ _ _ _ _ _ (o12.trans o3) ?_
      rw[gP]at h3
      unfold Fh
      rw[show Nat.beq n 0=false from Dq hn0,cond_false]
      exact h3
theorem LA:∀ (f n:Nat),(Fh f n).length≤9 * f
 | 0,_=>fu _
 | f+1,n=>by
  unfold Fh
  cases Nat.beq n 0 with
  | true=>simp
  | false=>rw[cond_false,gI,Jo];have:=LA f (n / 1000000000);omega
theorem YT       (hE : An    E) (hT : ∀ (l : List Nat) (s : AE)  (K : AV → AE  → Prop), K (.str (HK    l)) s → WF E 265 [.str l, .str [48]] K s) {va : AV} {la : List Nat} (ha : CW  s va la) (hla : la.length ≤ 1000) (hsa : BV  la) {f : Nat} (hf : AD   la < 1000000000 ^ f) (hf1 : f ≤ 1000) {K : AV → AE  → Prop}
    (hK:∀s',A8 s.next s s'→K (.str (YN f (AD la))) s'):WF E 230 [va] K s:=by
  refine hE.go Z2 (by decide) rfl ?_
  obtain⟨n1,o1,g1⟩:=GS s (R 134 0 false [.slice none 0 (some 0)])
  simp only[eS,Ve,Vf,Vg,PP,Xa,fP,Xm,Xb,iT,iI,Qa,Qb,Qc,Qd,Qe,Qf,Qg,Qh,Qi,Qj,Qk,Ql,Qm,Qn,true_and,and_true,Qo,Qp,Qq,Qr,Qs,Qt,Qu,Qv,Qw,Qx,Qy,Qz,Ra,Rb,Rc,Rd,Re,Rf,Rg,Rh,Ri,Rj,Rk,Rm,Rn,Ro,Rp,Rq,Rs,Ya,Yb,Yc,Rt,Ru,Za,Yd,Ye,Rx,Ry,Rz,Wa,Wb,Wc,Wd]
  generalize newObj s (R 134 0 false [.slice none 0 (some 0)])=s1 at *
  refine Bz hE (ha.old o1) (by omega) fun s2 v2 o2 r2=>?_
  rw[BJ hsa]at r2
  have hl2:(AI (AD la)).length≤1000:=by rw[← BJ hsa];have:=DM la;omega
  simp only[PP,Qa,Qb,Qc,Qd,Qe,Qf,Qg,Qh,Qi,Qj,Qk,Ql,Qm,Qn,true_and,and_true,Qo,Qp,Qq,Qr,Qs,Qt,Qu,Qv,Qw,Qx,Qy,Qz,Ra,Rb,Rc,Rd,Re,Rf,Rg,Rh,Ri,Rj,Rk,Rm,Rn,Ro,Rp,Rq,Rs,Ya,Yb,Yc,Rt,Ru,Za,Yd,Ye,Rx,Ry,Rz,Wa,Wb,Wc,Wd]
  have h2:DR (s.next≤·) s2 s.next []:=by
    have:DR (s.next≤·) s1 s.next []:=⟨_,[],g1,by omega,fu _,Hr.nil _ _ _,by simp,fun j hj=>by cases hj⟩
    exact this.old o2
  refine ZB hE (b:=s.next) (p:=s.next) f (AD la) [] s2 v2 _ _ _ _ _ hf r2.n32 hl2 h2 (by have:=o2.1;omega) (by simp;omega) fun s3 ya y4 y5 y7 y8 y9 o3 h3=>?_
  have o23:Oq (s.next≤·) s s3:=Oq.trans (G:=(s.next≤·)) ⟨by have:=o2.1;omega,fun j hj _=>(o2.2 j (by omega)).trans (o1.2 j hj)⟩ o3
  rw[List.nil_append]at h3
  have hdl:=LA f (AD la)
  have hds:=IX f (AD la)
  have hend:=hK
  unfold YN at hend
  generalize Fh f (AD la)=D at *
  obtain⟨v,OB,k1,k2,k3,k4,k5,k6⟩:=h3
  have e1:AF Tryz.prog s3 134 (.ptr (some (s.next,0)))=some v:=Ae Tx k1 rfl
  have fin:∀s4:AE,Oq (s.next≤·) s s4→∀v':AV,AF Tryz.prog s4 134 (.ptr (some (s.next,0)))=some v'→Af Tryz.prog s4 134 9 v'=some (.str D.reverse)→∀z0,
      Qb E MN (fun v s'=>Qb E I5 (fun v s'=>Ni (If v 10) (fun x x_1 x_2=>Qb E I6 (fun v s'=>QC (DA s' x_1) fun s'=>K (If v 1) s') [] x x_2)
        (fun x x_1 x_2=>Qb E MO (fun v s'=>QC (DA s' x_1) fun s'=>K (If v 1) s') [] x x_2) v [] s') [] v s') [] [ya,z0,.ptr (some (s.next,0)),.func 263 [] [.ptr (some (s.next,0))],y4,y5,BU,y7,y8,y9,BU] s4:=by
    intro s4 o4 v' l4 c4 z0
    have e2:AN Tryz.prog .eql 9 (.str (HK D.reverse)) (.str [])=some (.bool (CB (HK D.reverse) [])):=rfl
    simp only[MN,l4,c4,Qa,Qb,Qc,Qd,Qe,Qf,Qg,Qh,Qi,Qj,Qk,Ql,Qm,Qn,true_and,and_true,Qo,Qp,Qq,Qr,Qs,Qt,Qu,Qv,Qw,Qx,Qy,Qz,Ra,Rb,Rc,Rd,Re,Rf,Rg,Rh,Ri,Rj,Rk,Rm,Rn,Ro,Rp,Rq,Rs,Ya,Yb,Yc,Rt,Ru,Za,Yd,Ye,Rx,Ry,Rz,Wa,Wb,Wc,Wd]
    refine hT _ _ _ ?_
    have hfin:=hend s4 ⟨o4.1,fun j hj=>o4.2 j hj (by omega)⟩
    cases hz:HK D.reverse with
    | nil =>
      rw[hz]at hfin e2
      simp only[I5,I6,e2,CB,Qa,Qb,Qc,Qd,Qe,Qf,Qg,Qh,Qi,Qj,Qk,Ql,Qm,Qn,true_and,and_true,Qo,Qp,Qq,Qr,Qs,Qt,Qu,Qv,Qw,Qx,Qy,Qz,Ra,Rb,Rc,Rd,Re,Rf,Rg,Rh,Ri,Rj,Rk,Rm,Rn,Ro,Rp,Rq,Rs,Ya,Yb,Yc,Rt,Ru,Za,Yd,Ye,Rx,Ry,Rz,Wa,Wb,Wc,Wd]
      exact hfin
    | cons x l =>
      rw[hz]at hfin e2
      simp only[I5,I6,MO,e2,CB,Qa,Qb,Qc,Qd,Qe,Qf,Qg,Qh,Qi,Qj,Qk,Ql,Qm,Qn,true_and,and_true,Qo,Qp,Qq,Qr,Qs,Qt,Qu,Qv,Qw,Qx,Qy,Qz,Ra,Rb,Rc,Rd,Re,Rf,Rg,Rh,Ri,Rj,Rk,Rm,Rn,Ro,Rp,Rq,Rs,Ya,Yb,Yc,Rt,Ru,Za,Yd,Ye,Rx,Ry,Rz,Wa,Wb,Wc,Wd]
      exact hfin
  rcases k4.own1 with⟨rfl,h0⟩ | ⟨i,q,rfl,hi,hil,hown,hq⟩
  · have hD:D=[]:=hY h0
    subst hD
    simp only[if_true,MM,e1,Qa,Qb,Qc,Qd,Qe,Qf,Qg,Qh,Qi,Qj,Qk,Ql,Qm,Qn,true_and,and_true,Qo,Qp,Qq,Qr,Qs,Qt,Qu,Qv,Qw,Qx,Qy,Qz,Ra,Rb,Rc,Rd,Re,Rf,Rg,Rh,Ri,Rj,Rk,Rm,Rn,Ro,Rp,Rq,Rs,Ya,Yb,Yc,Rt,Ru,Za,Yd,Ye,Rx,Ry,Rz,Wa,Wb,Wc,Wd]
    refine bK hE ?_
    simp only[Qa,Qb,Qc,Qd,Qe,Qf,Qg,Qh,Qi,Qj,Qk,Ql,Qm,Qn,true_and,and_true,Qo,Qp,Qq,Qr,Qs,Qt,Qu,Qv,Qw,Qx,Qy,Qz,Ra,Rb,Rc,Rd,Re,Rf,Rg,Rh,Ri,Rj,Rk,Rm,Rn,Ro,Rp,Rq,Rs,Ya,Yb,Yc,Rt,Ru,Za,Yd,Ye,Rx,Ry,Rz,Wa,Wb,Wc,Wd]
    exact fin s3 o23 _ e1 (by simp[Af,Tryz.underlying134,Tryz.underlying9,Tryz.underlying5]) _
  · simp only[if_true,MM,e1,Qa,Qb,Qc,Qd,Qe,Qf,Qg,Qh,Qi,Qj,Qk,Ql,Qm,Qn,true_and,and_true,Qo,Qp,Qq,Qr,Qs,Qt,Qu,Qv,Qw,Qx,Qy,Qz,Ra,Rb,Rc,Rd,Re,Rf,Rg,Rh,Ri,Rj,Rk,Rm,Rn,Ro,Rp,Rq,Rs,Ya,Yb,Yc,Rt,Ru,Za,Yd,Ye,Rx,Ry,Rz,Wa,Wb,Wc,Wd]
    refine dR hE (by omega) hown fun s4 q4 w4=>?_
    have hni:s.next≠i:=fun e=>k5 (by rw[e];exact hi)
    have hnq:some s.next≠q:=fun e=>k5 (hq _ e.symm)
    have l4:AF Tryz.prog s4 134 (.ptr (some (s.next,0)))=some (.slice (some (i,0)) D.length none):=Ae Tx ((q4.get _ hni hnq).trans k1) rfl
    have hlen:D.reverse.length=D.length:=List.length_reverse
    have c4:=XO w4 (fun x hx=>hds x (List.mem_reverse.1 hx))
    rw[hlen]at c4
    simp only[Qa,Qb,Qc,Qd,Qe,Qf,Qg,Qh,Qi,Qj,Qk,Ql,Qm,Qn,true_and,and_true,Qo,Qp,Qq,Qr,Qs,Qt,Qu,Qv,Qw,Qx,Qy,Qz,Ra,Rb,Rc,Rd,Re,Rf,Rg,Rh,Ri,Rj,Rk,Rm,Rn,Ro,Rp,Rq,Rs,Ya,Yb,Yc,Rt,Ru,Za,Yd,Ye,Rx,Ry,Rz,Wa,Wb,Wc,Wd]
    exact fin s4 (o23.trans ⟨by rw[q4.next];exact fu _,fun j hj hg=>q4.get j (fun e=>hg (by rw[e];exact k6 i hi)) fun e=>hg (k6 j (hq j e.symm))⟩) _ l4 c4 _
end
end
end Go.Proofs.YtfgmceookgelcaaGreatDoor.Am
