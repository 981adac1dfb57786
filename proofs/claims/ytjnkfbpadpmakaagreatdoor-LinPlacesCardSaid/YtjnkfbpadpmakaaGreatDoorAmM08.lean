/- Package rat: made, with, Neg, Int, From, Sign, walked; conditions: none. -/
import Derived.Test.YtjnkfbpadpmakaaGreatDoorAmM07
import Derived.Test.YtjnkfbpadpmakaaGreatDoorAmM04
import Derived.Test.YtjnkfbpadpmakaaGreatDoorAmM06
import Derived.Lib.SlKeysI
set_option linter.unusedVariables false
set_option linter.unusedSimpArgs false
set_option maxRecDepth 16000
namespace Go.Proofs.YtjnkfbpadpmakaaGreatDoor.Am
open Go Go.Proofs
noncomputable section
section
variable{E:CP}{s:AD}
theorem GT       (hE : GoodN E) {v : AV} {q : Rat} {k : Nat} (hv : QI s v q k) (hk : k ≤ 1000000000) {K : AV → AD  → Prop} (hK : ∀ s' v, Ac  s.next s s' → QR s.next s' v q → K v s') : WF E 69 [v] K s := by
  obtain⟨neg,m,d,lm,ld,rfl,hm,hd,hsm,hsd,hlm,hld,rfl⟩:=hv
  obtain⟨a,n,c,rfl⟩:=hm.shape
  obtain⟨b,nd,cd,rfl⟩:=hd.shape
  refine hE.go jC (by decide) rfl ?_
  obtain⟨n1,o1,g1,g2⟩:=Eu s (BQ neg (.slice a n c) (.slice b nd cd)) ZQ
  simp only[nQ,en,er,Wz,Xg,BU,Xb,Aq,KW,Qa,Qb,Qc,Qd,Qe,Qf,Qg,Qh,Qi,Qj,Qk,Ql,Qm,Qn,true_and,and_true,Qo,Qp,Qq,Qr,Qs,Qt,Qu,Qv,Qw,Qx,Qy,Qz,Ra,Rb,Rc,Rd,Re,Rf,Rg,Rh,Ri,Rj,Rk,Rm,Rn,Ro,Rp,Rq,Rs,Ya,Yb,Yc,Rt,Ru,Za,Yd,Ye,Rx,Ry,Rz,Wa,Wb,Wc,Wd]
  generalize newObj (newObj s (BQ neg (.slice a n c) (.slice b nd cd))) ZQ=s1 at *
  have l1:=AX (P:=Tryz.prog) (t:=22) (o:=0+2) DO g1 rfl
  simp only[l1,Qa,Qb,Qc,Qd,Qe,Qf,Qg,Qh,Qi,Qj,Qk,Ql,Qm,Qn,true_and,and_true,Qo,Qp,Qq,Qr,Qs,Qt,Qu,Qv,Qw,Qx,Qy,Qz,Ra,Rb,Rc,Rd,Re,Rf,Rg,Rh,Ri,Rj,Rk,Rm,Rn,Ro,Rp,Rq,Rs,Ya,Yb,Yc,Rt,Ru,Za,Yd,Ye,Rx,Ry,Rz,Wa,Wb,Wc,Wd]
  refine CT hE (hd.old o1) (by omega) fun s2 v2 o2 r2=>?_
  rw[Bq hsd]at r2
  have h2:=o2.1
  have f1:=(o2.2 s.next (by omega)).trans g1
  have f2:=(o2.2 (s.next+1) (by omega)).trans g2
  have o12:=o1.trans (o2.mono o1.1)
  obtain⟨a2,c2,e2,_⟩:=r2.n32
  have hN:∀ {s'},Ac s.next s s'→BI s' (.agg [.bool neg,.slice a n c]) (B8 neg (AG lm)) k:=fun o=>⟨neg,_,lm,rfl,hm.old o,hsm,hlm,rfl⟩
  have e3:∀z:Int,AT Tryz.prog .eql 3 (iv ((AR (AG ld)).length:Int)) (iv 0)=some (.bool (decide (((AR (AG ld)).length:Int)=0))):=fun _=>Wb ..
  have fin:∀ (s3:AD) (v3:AV) (D:Nat),Ac s2.next s2 s3→NR s1.next s3 v3 (AR D)→D=EE (AG ld)→(AR D).length≤1000000000→∀K2:AV→AD→Prop,
      (∀s4 x4 a4 n4 c4 b4 m4 d4,AK Tryz.prog s4 26 (.ptr (some (s.next+1,0))) (.agg [.bool x4,.slice a4 n4 c4,.slice b4 m4 d4])=some (setObj s4 (s.next+1) (BQ x4 (.slice a4 n4 c4) (.slice b4 m4 d4))) →
        AC Tryz.prog (setObj s4 (s.next+1) (BQ x4 (.slice a4 n4 c4) (.slice b4 m4 d4))) 26 (.ptr (some (s.next+1,0)))=some (.agg [.bool x4,.slice a4 n4 c4,.slice b4 m4 d4]) →
        K (.agg [.bool x4,.slice a4 n4 c4,.slice b4 m4 d4]) (setObj s4 (s.next+1) (BQ x4 (.slice a4 n4 c4) (.slice b4 m4 d4)))→K2 (.agg [.bool x4,.slice a4 n4 c4,.slice b4 m4 d4]) s4) →
      WF E 70 [.agg [.bool neg,.slice a n c],v3] K2 s3:=by
    intro s3 v3 D o3 r3 hD hlen K2 hK2
    have o13:=o12.trans (o3.mono o12.1)
    refine Er hE (hN o13) r3.n32 hk hlen (Ae _) (by rw[Ah,hD];exact Hu _) fun s4 v4 o4 r4=>?_
    have h3:=o3.1
    rw[Ah,hD]at r4
    have k4:s4.heap.get (s.next+1)=some ZQ:=by rw[o4.2 _ (by omega),o3.2 _ (by omega)];exact f2
    obtain⟨x4,a4,n4,c4,b4,m4,d4,rfl⟩:=r4.shape
    obtain⟨st,ld⟩:=BS (cs0:=[.bool false,.slice none 0 (some 0),.slice none 0 (some 0)]) rfl (x:=x4) (a:=a4) (n:=n4) (c:=c4) (b:=b4) (m:=m4) (d:=d4) k4
    exact hK2 _ _ _ _ _ _ _ _ st ld (hK _ _ ((o13.trans (o4.mono o13.1)).set (by omega) _) ((r4.set (by omega) _).mono (by omega)))
  have ldN:∀s3,Ac s2.next s2 s3→AC Tryz.prog s3 24 (.ptr (some (s.next,0+0)))=some (.agg [.bool neg,.slice a n c]):=fun s3 o3=>Au (o:=0) (n:=2) C6 CC ((o3.2 s.next (by omega)).trans f1) (by simp)
  by_cases h0:AG ld=0
  · have e4 : (AR    (AG   ld)).length = 0 := by rw [h0, BM];         rfl
    have d1:decide (((AR (AG ld)).length:Int)=0)=true:=decide_eq_true (by omega)
    subst e2
    simp only[Wx,eu,AU Tryz.underlying22,e3 0,d1,Qa,Qb,Qc,Qd,Qe,Qf,Qg,Qh,Qi,Qj,Qk,Ql,Qm,Qn,true_and,and_true,Qo,Qp,Qq,Qr,Qs,Qt,Qu,Qv,Qw,Qx,Qy,Qz,Ra,Rb,Rc,Rd,Re,Rf,Rg,Rh,Ri,Rj,Rk,Rm,Rn,Ro,Rp,Rq,Rs,Ya,Yb,Yc,Rt,Ru,Za,Yd,Ye,Rx,Ry,Rz,Wa,Wb,Wc,Wd]
    refine YP hE fun s3 v3 o3 r3=>?_
    simp only[Wy,HK,ldN s3 o3,Qa,Qb,Qc,Qd,Qe,Qf,Qg,Qh,Qi,Qj,Qk,Ql,Qm,Qn,true_and,and_true,Qo,Qp,Qq,Qr,Qs,Qt,Qu,Qv,Qw,Qx,Qy,Qz,Ra,Rb,Rc,Rd,Re,Rf,Rg,Rh,Ri,Rj,Rk,Rm,Rn,Ro,Rp,Rq,Rs,Ya,Yb,Yc,Rt,Ru,Za,Yd,Ye,Rx,Ry,Rz,Wa,Wb,Wc,Wd]
    refine fin s3 v3 1 o3 (r3.mono h2) (by rw[h0];rfl) (ny (Bc (k:=1) (by decide)) (by omega)) _ fun s4 x4 a4 n4 c4 b4 m4 d4 st ld hk=>?_
    simp only[st,ld,AL,Xx,Xz,Qa,Qb,Qc,Qd,Qe,Qf,Qg,Qh,Qi,Qj,Qk,Ql,Qm,Qn,true_and,and_true,Qo,Qp,Qq,Qr,Qs,Qt,Qu,Qv,Qw,Qx,Qy,Qz,Ra,Rb,Rc,Rd,Re,Rf,Rg,Rh,Ri,Rj,Rk,Rm,Rn,Ro,Rp,Rq,Rs,Ya,Yb,Yc,Rt,Ru,Za,Yd,Ye,Rx,Ry,Rz,Wa,Wb,Wc,Wd]
    exact hk
  · have e4 := List.length_pos_iff.2 (Cg       h0)
    have d1:decide (((AR (AG ld)).length:Int)=0)=false:=decide_eq_false (by omega)
    have hr:=r2
    subst e2
    simp only[Wx,Wy,AU Tryz.underlying22,e3 0,d1,HK,ldN s2 (Ac.refl _ _),Qa,Qb,Qc,Qd,Qe,Qf,Qg,Qh,Qi,Qj,Qk,Ql,Qm,Qn,true_and,and_true,Qo,Qp,Qq,Qr,Qs,Qt,Qu,Qv,Qw,Qx,Qy,Qz,Ra,Rb,Rc,Rd,Re,Rf,Rg,Rh,Ri,Rj,Rk,Rm,Rn,Ro,Rp,Rq,Rs,Ya,Yb,Yc,Rt,Ru,Za,Yd,Ye,Rx,Ry,Rz,Wa,Wb,Wc,Wd]
    refine fin s2 _ (AG ld) (Ac.refl _ _) r2 (by unfold EE;rw[if_neg h0]) (ny (Bc (Gk hsd (nl _))) (by omega)) _ fun s4 x4 a4 n4 c4 b4 m4 d4 st ld hk=>?_
    simp only[st,ld,AL,Xx,Xz,Qa,Qb,Qc,Qd,Qe,Qf,Qg,Qh,Qi,Qj,Qk,Ql,Qm,Qn,true_and,and_true,Qo,Qp,Qq,Qr,Qs,Qt,Qu,Qv,Qw,Qx,Qy,Qz,Ra,Rb,Rc,Rd,Re,Rf,Rg,Rh,Ri,Rj,Rk,Rm,Rn,Ro,Rp,Rq,Rs,Ya,Yb,Yc,Rt,Ru,Za,Yd,Ye,Rx,Ry,Rz,Wa,Wb,Wc,Wd]
    exact hk
theorem Nn(hE:GoodN E){v:AV}{q:Rat}{k:Nat}(hv:QI s v q k)(hk:k≤1000000000){g:FuncId}{first cap:List AV}{K:AV→AD→Prop}
  (hf:∀s1 v1,Ac s.next s s1→s.next+2≤s1.next→QR (s.next+2) s1 v1 q→WF E g (first++([v1]++cap)) (fun r s2=>∃cs,r=.agg cs∧cs.length=3∧Ap cs=true∧s2.heap.get (s.next+1)=s1.heap.get (s.next+1)∧K r (setObj s2 (s.next+1) (R 26 0 false cs))) s1):
  WF E 108 [v,.func g first cap] K s:=by
 obtain⟨x,a,n,c,b,m,d,rfl⟩:=hv.shape
 refine hE.go Zm (by decide) rfl ?_
 obtain⟨n1,o1,g1,g2⟩:=Eu s (BQ x (.slice a n c) (.slice b m d)) ZQ
 simp only[j9,Uf,Ug,Wz,Xg,BU,Xb,Aq,Qa,Qb,Qc,Qd,Qe,Qf,Qg,Qh,Qi,Qj,Qk,Ql,Qm,Qn,true_and,and_true,Qo,Qp,Qq,Qr,Qs,Qt,Qu,Qv,Qw,Qx,Qy,Qz,Ra,Rb,Rc,Rd,Re,Rf,Rg,Rh,Ri,Rj,Rk,Rm,Rn,Ro,Rp,Rq,Rs,Ya,Yb,Yc,Rt,Ru,Za,Yd,Ye,Rx,Ry,Rz,Wa,Wb,Wc,Wd]
 generalize newObj (newObj s (BQ x (.slice a n c) (.slice b m d))) ZQ=s1 at *
 have l1:=AE (P:=Tryz.prog) (t:=26) A9 Ar g1 rfl
 simp only[l1,Qa,Qb,Qc,Qd,Qe,Qf,Qg,Qh,Qi,Qj,Qk,Ql,Qm,Qn,true_and,and_true,Qo,Qp,Qq,Qr,Qs,Qt,Qu,Qv,Qw,Qx,Qy,Qz,Ra,Rb,Rc,Rd,Re,Rf,Rg,Rh,Ri,Rj,Rk,Rm,Rn,Ro,Rp,Rq,Rs,Ya,Yb,Yc,Rt,Ru,Za,Yd,Ye,Rx,Ry,Rz,Wa,Wb,Wc,Wd]
 refine GT hE (hv.old o1) hk fun s2 v2 o2 r2=>?_
 have h2:=o2.1
 simp only[Qa,Qb,Qc,Qd,Qe,Qf,Qg,Qh,Qi,Qj,Qk,Ql,Qm,Qn,true_and,and_true,Qo,Qp,Qq,Qr,Qs,Qt,Qu,Qv,Qw,Qx,Qy,Qz,Ra,Rb,Rc,Rd,Re,Rf,Rg,Rh,Ri,Rj,Rk,Rm,Rn,Ro,Rp,Rq,Rs,Ya,Yb,Yc,Rt,Ru,Za,Yd,Ye,Rx,Ry,Rz,Wa,Wb,Wc,Wd]
 refine(hf s2 v2 (o1.trans (o2.mono o1.1)) (by omega) (r2.mono (by omega))).mono ?_
 rintro r s3 ⟨cs,rfl,hl,hc,hg,hend⟩
 have g3:s3.heap.get (s.next+1)=some ZQ:=by rw[hg,o2.2 _ (by omega)];exact g2
 have st:=Aj (P:=Tryz.prog) (t:=26) (cs:=cs) Ar g3 rfl hl hc (by rintro rfl;cases hl)
 have ld:=AE (P:=Tryz.prog) (t:=26) (s:=setObj s3 (s.next+1) (R 26 0 false cs)) (i:=s.next+1) A9 Ar (Wv _ _ _) hl
 simp only[st,ld,AL,Xx,Xz,Qa,Qb,Qc,Qd,Qe,Qf,Qg,Qh,Qi,Qj,Qk,Ql,Qm,Qn,true_and,and_true,Qo,Qp,Qq,Qr,Qs,Qt,Qu,Qv,Qw,Qx,Qy,Qz,Ra,Rb,Rc,Rd,Re,Rf,Rg,Rh,Ri,Rj,Rk,Rm,Rn,Ro,Rp,Rq,Rs,Ya,Yb,Yc,Rt,Ru,Za,Yd,Ye,Rx,Ry,Rz,Wa,Wb,Wc,Wd]
 exact hend
end
theorem QR.bi{b k:Nat}{s:AD}{v:AV}{q:Rat}(h:QR b s v q)(hq:QH q k):∃m d,v=.agg [.bool (decide (q.num<0)),m,d]∧BI s (.agg [.bool (decide (q.num<0)),m]) q.num k∧Cv s d (AR q.den)∧(AR q.den).length≤k:=by
 obtain⟨m,d,rfl,h2,h3,_⟩:=h
 exact⟨m,d,rfl,BR.bi (b:=b) ⟨m,rfl,h2⟩ hq.1,h3.n32,Bc hq.2⟩
section
variable{E:CP}{s:AD}
theorem Yf(hE:GoodN E){v:AV}{q:Rat}{k b:Nat}(hv:QR b s v q)(hb:b≤s.next)(hq:QH q k)(hk:k≤1000000000){K:AV→AD→Prop}(hK:∀s' v,Ac s.next s s'→QR b s' v (-q)→K v s'):WF E 114 [v] K s:=by
 obtain⟨m,d,rfl,h2,h3,h4,h5⟩:=hv
 have hbi:BI s (.agg [.bool (decide (q.num<0)),m]) q.num k:=BR.bi (b:=b) ⟨m,rfl,h2⟩ hq.1
 obtain⟨a,n,c,rfl⟩:=h2.n32.shape
 obtain⟨bd,nd,cd,rfl⟩:=h3.n32.shape
 refine hE.go Zs (by decide) rfl ?_
 obtain⟨n1,o1,g1,g2⟩:=Eu s (BQ (decide (q.num<0)) (.slice a n c) (.slice bd nd cd)) ZQ
 simp only[kF,Ut,Uu,Wz,Xg,BU,Xb,Aq,HK,KW,Qa,Qb,Qc,Qd,Qe,Qf,Qg,Qh,Qi,Qj,Qk,Ql,Qm,Qn,true_and,and_true,Qo,Qp,Qq,Qr,Qs,Qt,Qu,Qv,Qw,Qx,Qy,Qz,Ra,Rb,Rc,Rd,Re,Rf,Rg,Rh,Ri,Rj,Rk,Rm,Rn,Ro,Rp,Rq,Rs,Ya,Yb,Yc,Rt,Ru,Za,Yd,Ye,Rx,Ry,Rz,Wa,Wb,Wc,Wd]
 generalize newObj (newObj s (BQ (decide (q.num<0)) (.slice a n c) (.slice bd nd cd))) ZQ=s1 at *
 have l1:AC Tryz.prog s1 24 (.ptr (some (s.next,0+0)))=some (.agg [.bool (decide (q.num<0)),.slice a n c]):=Au (o:=0) (n:=2) C6 CC g1 (by simp)
 have l2:=AX (P:=Tryz.prog) (t:=22) (o:=0+2) DO g1 rfl
 simp only[l1,l2,Qa,Qb,Qc,Qd,Qe,Qf,Qg,Qh,Qi,Qj,Qk,Ql,Qm,Qn,true_and,and_true,Qo,Qp,Qq,Qr,Qs,Qt,Qu,Qv,Qw,Qx,Qy,Qz,Ra,Rb,Rc,Rd,Re,Rf,Rg,Rh,Ri,Rj,Rk,Rm,Rn,Ro,Rp,Rq,Rs,Ya,Yb,Yc,Rt,Ru,Za,Yd,Ye,Rx,Ry,Rz,Wa,Wb,Wc,Wd]
 refine ZY hE (hbi.old o1) hk fun s2 v2 o2 r2 rn=>?_
 have h2':=o2.1
 have f1:=(o2.2 s.next (by omega)).trans g1
 have f2:=(o2.2 (s.next+1) (by omega)).trans g2
 refine⟨⟨Aa (by simp only[Qa,Qb,Qc,Qd,Qe,Qf,Qg,Qh,Qi,Qj,Qk,Ql,Qm,Qn,true_and,and_true,Qo,Qp,Qq,Qr,Qs,Qt,Qu,Qv,Qw,Qx,Qy,Qz,Ra,Rb,Rc,Rd,Re,Rf,Rg,Rh,Ri,Rj,Rk,Rm,Rn,Ro,Rp,Rq,Rs,Ya,Yb,Yc,Rt,Ru,Za,Yd,Ye,Rx,Ry,Rz,Wa,Wb,Wc,Wd];exact AX (o:=0+2) DO f1 rfl) (Bb _ _ _),trivial⟩,?_⟩
 obtain⟨m2,rfl,r2⟩:=r2
 have hz0:(-q).num=0→m2=.slice none 0 (some 0):=fun h=>by
  have h6:q.num=0:=by have:-q.num=0:=h;omega
  obtain⟨x,hx⟩:=rn ⟨_,by rw[h5 h6]⟩
  injection hx with hx
  injection hx with _ hx
  injection hx with hx _
 have hdj:∀j,Cd m2=some j→Cd (.slice bd nd cd)≠some j:=fun j hj h=>by
  have q1:=(r2.lt hj).1
  have q2:=(h3.lt h).2
  omega
 obtain⟨a2,n2,c2,rfl⟩:=r2.n32.shape
 obtain⟨st,ld⟩:=BS (cs0:=[.bool false,.slice none 0 (some 0),.slice none 0 (some 0)]) rfl (x:=decide (-q.num<0)) (a:=a2) (n:=n2) (c:=c2) (b:=bd) (m:=nd) (d:=cd) f2
 have o12:=o1.trans (o2.mono o1.1)
 simp only[SB,st,ld,AL,Xx,Xz,Qa,Qb,Qc,Qd,Qe,Qf,Qg,Qh,Qi,Qj,Qk,Ql,Qm,Qn,true_and,and_true,Qo,Qp,Qq,Qr,Qs,Qt,Qu,Qv,Qw,Qx,Qy,Qz,Ra,Rb,Rc,Rd,Re,Rf,Rg,Rh,Ri,Rj,Rk,Rm,Rn,Ro,Rp,Rq,Rs,Ya,Yb,Yc,Rt,Ru,Za,Yd,Ye,Rx,Ry,Rz,Wa,Wb,Wc,Wd]
 refine hK _ _ (o12.set (by omega) _) ?_
 have h3':NR b (setObj s2 (s.next+1) (BQ (decide (-q.num<0)) (.slice a2 n2 c2) (.slice bd nd cd))) (.slice bd nd cd) (AR q.den):=(h3.old o12).keep (nl _) fun j hj=>Ww _ (by have:=(h3.lt hj).2;omega)
 refine⟨_,_,rfl,?_,h3',hdj,hz0⟩
 exact(r2.set (by omega) _).mono (by omega)
theorem aU(hE:GoodN E){v:AV}{q:Rat}{k:Nat}(hv:QI s v q k)(hk1:1≤k)(hk:k≤1000000000){K:AV→AD→Prop}(hK:∀s' v,Ac s.next s s'→QR s.next s' v (-q)→K v s'):WF E 68 [v] K s:=by
 have hq:=hv.qh hk1
 obtain⟨x,a,n,c,b,m,d,rfl⟩:=hv.shape
 refine hE.go jB (by decide) rfl ?_
 obtain⟨n1,o1,g1,g2⟩:=Eu s (BQ x (.slice a n c) (.slice b m d)) ZQ
 simp only[nP,eg,eh,Wz,Xg,BU,Xb,Aq,Qa,Qb,Qc,Qd,Qe,Qf,Qg,Qh,Qi,Qj,Qk,Ql,Qm,Qn,true_and,and_true,Qo,Qp,Qq,Qr,Qs,Qt,Qu,Qv,Qw,Qx,Qy,Qz,Ra,Rb,Rc,Rd,Re,Rf,Rg,Rh,Ri,Rj,Rk,Rm,Rn,Ro,Rp,Rq,Rs,Ya,Yb,Yc,Rt,Ru,Za,Yd,Ye,Rx,Ry,Rz,Wa,Wb,Wc,Wd]
 generalize newObj (newObj s (BQ x (.slice a n c) (.slice b m d))) ZQ=s1 at *
 have l1:=AE (P:=Tryz.prog) (t:=26) A9 Ar g1 rfl
 simp only[l1,Qa,Qb,Qc,Qd,Qe,Qf,Qg,Qh,Qi,Qj,Qk,Ql,Qm,Qn,true_and,and_true,Qo,Qp,Qq,Qr,Qs,Qt,Qu,Qv,Qw,Qx,Qy,Qz,Ra,Rb,Rc,Rd,Re,Rf,Rg,Rh,Ri,Rj,Rk,Rm,Rn,Ro,Rp,Rq,Rs,Ya,Yb,Yc,Rt,Ru,Za,Yd,Ye,Rx,Ry,Rz,Wa,Wb,Wc,Wd]
 refine Nn hE (hv.old o1) hk fun s2 v2 o2 h2 r2=>?_
 refine Yf hE r2 h2 hq hk fun s3 v3 o3 r3=>?_
 obtain⟨x3,a3,n3,c3,b3,m3,d3,rfl⟩:=r3.shape
 have o12:=o1.trans (o2.mono o1.1)
 have o13:=o12.trans (o3.mono o12.1)
 refine⟨_,rfl,rfl,rfl,o3.2 _ (by omega),?_⟩
 have g3:(setObj s3 (s1.next+1) (R 26 0 false [.bool x3,.slice a3 n3 c3,.slice b3 m3 d3])).heap.get (s.next+1)=some ZQ:=by
  rw[Ww _ (by omega),o3.2 _ (by omega),o2.2 _ (by omega)];exact g2
 obtain⟨st,ld⟩:=BS (cs0:=[.bool false,.slice none 0 (some 0),.slice none 0 (some 0)]) rfl (x:=x3) (a:=a3) (n:=n3) (c:=c3) (b:=b3) (m:=m3) (d:=d3) g3
 simp only[st,ld,AL,Xx,Xz,Qa,Qb,Qc,Qd,Qe,Qf,Qg,Qh,Qi,Qj,Qk,Ql,Qm,Qn,true_and,and_true,Qo,Qp,Qq,Qr,Qs,Qt,Qu,Qv,Qw,Qx,Qy,Qz,Ra,Rb,Rc,Rd,Re,Rf,Rg,Rh,Ri,Rj,Rk,Rm,Rn,Ro,Rp,Rq,Rs,Ya,Yb,Yc,Rt,Ru,Za,Yd,Ye,Rx,Ry,Rz,Wa,Wb,Wc,Wd]
 exact hK _ _ ((o13.set (by omega) _).set (by omega) _) (((r3.set (by omega) _).set (by omega) _).mono (by omega))
theorem aT(hE:GoodN E){v:AV}{z:Int}{k:Nat}(hv:BI s v z k)(hk:k≤1000000000){K:AV→AD→Prop}(hK:∀s' v,Ac s.next s s'→QR s.next s' v (z:Rat)→K v s'):WF E 99 [v] K s:=by
 obtain⟨x,a,n,c,rfl⟩:=hv.shape
 refine hE.go jP (by decide) rfl ?_
 obtain⟨n1,o1,g1,g2⟩:=Eu s (BX x (.slice a n c)) ZQ
 simp only[ni,gV,gW,Wz,Xg,BU,Xb,Aq,Qa,Qb,Qc,Qd,Qe,Qf,Qg,Qh,Qi,Qj,Qk,Ql,Qm,Qn,true_and,and_true,Qo,Qp,Qq,Qr,Qs,Qt,Qu,Qv,Qw,Qx,Qy,Qz,Ra,Rb,Rc,Rd,Re,Rf,Rg,Rh,Ri,Rj,Rk,Rm,Rn,Ro,Rp,Rq,Rs,Ya,Yb,Yc,Rt,Ru,Za,Yd,Ye,Rx,Ry,Rz,Wa,Wb,Wc,Wd]
 generalize newObj (newObj s (BX x (.slice a n c))) ZQ=s1 at *
 have l1:=AE (P:=Tryz.prog) (t:=24) C6 CC g1 rfl
 simp only[l1,Qa,Qb,Qc,Qd,Qe,Qf,Qg,Qh,Qi,Qj,Qk,Ql,Qm,Qn,true_and,and_true,Qo,Qp,Qq,Qr,Qs,Qt,Qu,Qv,Qw,Qx,Qy,Qz,Ra,Rb,Rc,Rd,Re,Rf,Rg,Rh,Ri,Rj,Rk,Rm,Rn,Ro,Rp,Rq,Rs,Ya,Yb,Yc,Rt,Ru,Za,Yd,Ye,Rx,Ry,Rz,Wa,Wb,Wc,Wd]
 refine YP hE fun s2 v2 o2 r2=>?_
 have h2:=o2.1
 have f1:=(o2.2 s.next (by omega)).trans g1
 have f2:=(o2.2 (s.next+1) (by omega)).trans g2
 refine⟨⟨Aa (by simp only[Qa,Qb,Qc,Qd,Qe,Qf,Qg,Qh,Qi,Qj,Qk,Ql,Qm,Qn,true_and,and_true,Qo,Qp,Qq,Qr,Qs,Qt,Qu,Qv,Qw,Qx,Qy,Qz,Ra,Rb,Rc,Rd,Re,Rf,Rg,Rh,Ri,Rj,Rk,Rm,Rn,Ro,Rp,Rq,Rs,Ya,Yb,Yc,Rt,Ru,Za,Yd,Ye,Rx,Ry,Rz,Wa,Wb,Wc,Wd];exact AE C6 CC f1 rfl) (GE _ _ _ _),trivial⟩,?_⟩
 simp only[Qa,Qb,Qc,Qd,Qe,Qf,Qg,Qh,Qi,Qj,Qk,Ql,Qm,Qn,true_and,and_true,Qo,Qp,Qq,Qr,Qs,Qt,Qu,Qv,Qw,Qx,Qy,Qz,Ra,Rb,Rc,Rd,Re,Rf,Rg,Rh,Ri,Rj,Rk,Rm,Rn,Ro,Rp,Rq,Rs,Ya,Yb,Yc,Rt,Ru,Za,Yd,Ye,Rx,Ry,Rz,Wa,Wb,Wc,Wd]
 have o12:=o1.trans (o2.mono o1.1)
 refine Er hE (hv.old o12) r2.n32 hk (ny (Bc (k:=1) (by decide)) (by omega)) (Ae _) (by rw[Ah];decide) fun s3 v3 o3 r3=>?_
 rw[Ah,show mkRat z 1=(z:Rat)from by rw[Rat.mkRat_one]]at r3
 obtain⟨x3,a3,n3,c3,b3,m3,d3,rfl⟩:=r3.shape
 obtain⟨st,ld⟩:=BS (cs0:=[.bool false,.slice none 0 (some 0),.slice none 0 (some 0)]) rfl (x:=x3) (a:=a3) (n:=n3) (c:=c3) (b:=b3) (m:=m3) (d:=d3) ((o3.2 (s.next+1) (by omega)).trans f2)
 simp only[st,ld,AL,Xx,Xz,Qa,Qb,Qc,Qd,Qe,Qf,Qg,Qh,Qi,Qj,Qk,Ql,Qm,Qn,true_and,and_true,Qo,Qp,Qq,Qr,Qs,Qt,Qu,Qv,Qw,Qx,Qy,Qz,Ra,Rb,Rc,Rd,Re,Rf,Rg,Rh,Ri,Rj,Rk,Rm,Rn,Ro,Rp,Rq,Rs,Ya,Yb,Yc,Rt,Ru,Za,Yd,Ye,Rx,Ry,Rz,Wa,Wb,Wc,Wd]
 exact hK _ _ ((o12.trans (o3.mono o12.1)).set (by omega) _) ((r3.set (by omega) _).mono (by omega))
theorem FL(hE:GoodN E){n:Int}(h:n=0∨n=1∨n=-1){K:AV→AD→Prop}(hK:∀s' v,Ac s.next s s'→QR s.next s' v (n:Rat)→K v s'):WF E 52 [iv n] K s:=by
 refine hE.go iu (by decide) rfl ?_
 obtain⟨n1,o1,g1⟩:=Bj s ZQ
 simp only[nH,dy,eC,BU,Xb,Qa,Qb,Qc,Qd,Qe,Qf,Qg,Qh,Qi,Qj,Qk,Ql,Qm,Qn,true_and,and_true,Qo,Qp,Qq,Qr,Qs,Qt,Qu,Qv,Qw,Qx,Qy,Qz,Ra,Rb,Rc,Rd,Re,Rf,Rg,Rh,Ri,Rj,Rk,Rm,Rn,Ro,Rp,Rq,Rs,Ya,Yb,Yc,Rt,Ru,Za,Yd,Ye,Rx,Ry,Rz,Wa,Wb,Wc,Wd]
 generalize newObj s ZQ=s1 at *
 refine N6 hE h fun s2 v2 o2 r2=>?_
 have h2:=o2.1
 simp only[Qa,Qb,Qc,Qd,Qe,Qf,Qg,Qh,Qi,Qj,Qk,Ql,Qm,Qn,true_and,and_true,Qo,Qp,Qq,Qr,Qs,Qt,Qu,Qv,Qw,Qx,Qy,Qz,Ra,Rb,Rc,Rd,Re,Rf,Rg,Rh,Ri,Rj,Rk,Rm,Rn,Ro,Rp,Rq,Rs,Ya,Yb,Yc,Rt,Ru,Za,Yd,Ye,Rx,Ry,Rz,Wa,Wb,Wc,Wd]
 refine aT hE (r2.bi (k:=1) (by rcases h with rfl | rfl | rfl<;>decide)) (by omega) fun s3 v3 o3 r3=>?_
 obtain⟨x3,a3,n3,c3,b3,m3,d3,rfl⟩:=r3.shape
 obtain⟨st,ld⟩:=BS (cs0:=[.bool false,.slice none 0 (some 0),.slice none 0 (some 0)]) rfl (x:=x3) (a:=a3) (n:=n3) (c:=c3) (b:=b3) (m:=m3) (d:=d3) ((o3.2 s.next (by omega)).trans ((o2.2 s.next (by omega)).trans g1))
 have o12:=o1.trans (o2.mono o1.1)
 simp only[st,ld,AL,Xx,Xz,Qa,Qb,Qc,Qd,Qe,Qf,Qg,Qh,Qi,Qj,Qk,Ql,Qm,Qn,true_and,and_true,Qo,Qp,Qq,Qr,Qs,Qt,Qu,Qv,Qw,Qx,Qy,Qz,Ra,Rb,Rc,Rd,Re,Rf,Rg,Rh,Ri,Rj,Rk,Rm,Rn,Ro,Rp,Rq,Rs,Ya,Yb,Yc,Rt,Ru,Za,Yd,Ye,Rx,Ry,Rz,Wa,Wb,Wc,Wd]
 exact hK _ _ ((o12.trans (o3.mono o12.1)).set (by omega) _) ((r3.set (by omega) _).mono (by omega))
theorem Yg(hE:GoodN E){v:AV}{q:Rat}{k:Nat}(hv:QI s v q k)(hk:k≤1000000000){K:AV→AD→Prop}(hK:∀s',Ac s.next s s'→K (iv (By q.num)) s'):WF E 53 [v] K s:=by
 obtain⟨neg,m,d,lm,ld,rfl,hm,hd,hsm,hsd,hlm,hld,hqv⟩:=hv
 obtain⟨a,n,c,rfl⟩:=hm.shape
 obtain⟨b,nd,cd,rfl⟩:=hd.shape
 refine hE.go iw (by decide) rfl ?_
 obtain⟨n1,o1,g1⟩:=Bj s (BQ neg (.slice a n c) (.slice b nd cd))
 simp only[nI,eE,eF,Wz,Xg,Xb,Aq,HK,Qa,Qb,Qc,Qd,Qe,Qf,Qg,Qh,Qi,Qj,Qk,Ql,Qm,Qn,true_and,and_true,Qo,Qp,Qq,Qr,Qs,Qt,Qu,Qv,Qw,Qx,Qy,Qz,Ra,Rb,Rc,Rd,Re,Rf,Rg,Rh,Ri,Rj,Rk,Rm,Rn,Ro,Rp,Rq,Rs,Ya,Yb,Yc,Rt,Ru,Za,Yd,Ye,Rx,Ry,Rz,Wa,Wb,Wc,Wd]
 generalize newObj s (BQ neg (.slice a n c) (.slice b nd cd))=s1 at *
 have l1:AC Tryz.prog s1 24 (.ptr (some (s.next,0+0)))=some (.agg [.bool neg,.slice a n c]):=Au (o:=0) (n:=2) C6 CC g1 (by simp)
 simp only[l1,Qa,Qb,Qc,Qd,Qe,Qf,Qg,Qh,Qi,Qj,Qk,Ql,Qm,Qn,true_and,and_true,Qo,Qp,Qq,Qr,Qs,Qt,Qu,Qv,Qw,Qx,Qy,Qz,Ra,Rb,Rc,Rd,Re,Rf,Rg,Rh,Ri,Rj,Rk,Rm,Rn,Ro,Rp,Rq,Rs,Ya,Yb,Yc,Rt,Ru,Za,Yd,Ye,Rx,Ry,Rz,Wa,Wb,Wc,Wd]
 have hbi:BI s1 (.agg [.bool neg,.slice a n c]) (B8 neg (AG lm)) k:=⟨neg,_,lm,rfl,hm.old o1,hsm,hlm,rfl⟩
 refine KA hE hbi hk fun s2 o2=>?_
 have hs:By (B8 neg (AG lm))=By q.num:=by
  rw[← hqv,LH]
  have hg:((AG lm).gcd (EE (AG ld)):Nat)≠0:=fun e=>Hu _ (Nat.eq_zero_of_gcd_eq_zero_right e)
  have hdv:((((AG lm).gcd (EE (AG ld)):Nat)):Int) ∣ B8 neg (AG lm):=Int.ofNat_dvd_left.2 (by rw[CV];exact Nat.gcd_dvd_left _ _)
  obtain⟨w,hw⟩:=hdv
  have hgp:(0:Int)<(((AG lm).gcd (EE (AG ld)):Nat):Int):=by omega
  rw[hw,Int.mul_ediv_cancel_left _ (by omega)]
  generalize ((((AG lm).gcd (EE (AG ld)):Nat)):Int)=G at *
  rcases Bz w with⟨e1,e2⟩ | ⟨e1,e2⟩ | ⟨e1,e2⟩
  ·rw[e2];unfold By;rw[if_pos (Int.mul_neg_of_pos_of_neg hgp e1)]
  ·rw[e2,e1,Int.mul_zero];rfl
  ·have:=Int.mul_pos hgp e1
   rw[e2];unfold By;rw[if_neg (by omega),if_pos this]
 rw[hs]
 simp only[Qa,Qb,Qc,Qd,Qe,Qf,Qg,Qh,Qi,Qj,Qk,Ql,Qm,Qn,true_and,and_true,Qo,Qp,Qq,Qr,Qs,Qt,Qu,Qv,Qw,Qx,Qy,Qz,Ra,Rb,Rc,Rd,Re,Rf,Rg,Rh,Ri,Rj,Rk,Rm,Rn,Ro,Rp,Rq,Rs,Ya,Yb,Yc,Rt,Ru,Za,Yd,Ye,Rx,Ry,Rz,Wa,Wb,Wc,Wd]
 exact hK s2 (o1.trans (o2.mono o1.1))
end
theorem mC:De Tryz.prog 84=some false:=by kernel_rfl
section
variable{E:CP}{s:AD}
theorem Y9(hE:GoodN E){vn vd:AV}{z:Int}{kn kd D:Nat}(hn:BI s vn z kn)(hd:Cv s vd (AR D))(hdl:(AR D).length≤kd)(hk:kn+kd+1≤1000000000){K:AV→AD→Prop}(hK:∀s' v,Ac s.next s s'→BR s.next s' v (z * (D:Int))→K v s'):WF E 111 [vn,vd] K s:=by
 have hn0:=hn
 obtain⟨neg,mg,l,rfl,hm,hs,hl,hz⟩:=hn
 obtain⟨a,n,c,rfl⟩:=hm.shape
 refine hE.go Zp (by decide) rfl ?_
 obtain⟨n1,o1,g1,g2⟩:=Eu s (BX neg (.slice a n c)) ZI
 simp only[kC,Un,Uo,Wz,Xg,Df,Xb,Aq,Qa,Qb,Qc,Qd,Qe,Qf,Qg,Qh,Qi,Qj,Qk,Ql,Qm,Qn,true_and,and_true,Qo,Qp,Qq,Qr,Qs,Qt,Qu,Qv,Qw,Qx,Qy,Qz,Ra,Rb,Rc,Rd,Re,Rf,Rg,Rh,Ri,Rj,Rk,Rm,Rn,Ro,Rp,Rq,Rs,Ya,Yb,Yc,Rt,Ru,Za,Yd,Ye,Rx,Ry,Rz,Wa,Wb,Wc,Wd]
 generalize newObj (newObj s (BX neg (.slice a n c))) ZI=s1 at *
 have l1:=AE (P:=Tryz.prog) (t:=24) C6 CC g1 rfl
 simp only[l1,Qa,Qb,Qc,Qd,Qe,Qf,Qg,Qh,Qi,Qj,Qk,Ql,Qm,Qn,true_and,and_true,Qo,Qp,Qq,Qr,Qs,Qt,Qu,Qv,Qw,Qx,Qy,Qz,Ra,Rb,Rc,Rd,Re,Rf,Rg,Rh,Ri,Rj,Rk,Rm,Rn,Ro,Rp,Rq,Rs,Ya,Yb,Yc,Rt,Ru,Za,Yd,Ye,Rx,Ry,Rz,Wa,Wb,Wc,Wd]
 refine HH hE (hd.old o1) (by omega) (Ae _) fun s2 v2 o2 r2=>?_
 rw[Ah,show B8 false D=(D:Int)from rfl]at r2
 have h2:=o2.1
 have f1:=(o2.2 s.next (by omega)).trans g1
 have f2:=(o2.2 (s.next+1) (by omega)).trans g2
 refine⟨⟨Aa (by simp only[Qa,Qb,Qc,Qd,Qe,Qf,Qg,Qh,Qi,Qj,Qk,Ql,Qm,Qn,true_and,and_true,Qo,Qp,Qq,Qr,Qs,Qt,Qu,Qv,Qw,Qx,Qy,Qz,Ra,Rb,Rc,Rd,Re,Rf,Rg,Rh,Ri,Rj,Rk,Rm,Rn,Ro,Rp,Rq,Rs,Ya,Yb,Yc,Rt,Ru,Za,Yd,Ye,Rx,Ry,Rz,Wa,Wb,Wc,Wd];exact AE C6 CC f1 rfl) (GE _ _ _ _),trivial⟩,?_⟩
 have o12:=o1.trans (o2.mono o1.1)
 have hb2:BI s2 v2 (D:Int) kd:=by
  obtain⟨m2,rfl,r2'⟩:=r2
  exact⟨_,m2,_,rfl,r2'.n32,Ae _,by simpa using hdl,by rw[Ah,GG]⟩
 obtain⟨x2,a2,n2,c2,rfl⟩:=hb2.shape
 obtain⟨n3,o3,g3⟩:=Bj s2 (R 24 2 false [.bool neg,.slice a n c,.bool x2,.slice a2 n2 c2])
 simp only[Iz,Xd,Qa,Qb,Qc,Qd,Qe,Qf,Qg,Qh,Qi,Qj,Qk,Ql,Qm,Qn,true_and,and_true,Qo,Qp,Qq,Qr,Qs,Qt,Qu,Qv,Qw,Qx,Qy,Qz,Ra,Rb,Rc,Rd,Re,Rf,Rg,Rh,Ri,Rj,Rk,Rm,Rn,Ro,Rp,Rq,Rs,Ya,Yb,Yc,Rt,Ru,Za,Yd,Ye,Rx,Ry,Rz,Wa,Wb,Wc,Wd]
 generalize newObj s2 (R 24 2 false [.bool neg,.slice a n c,.bool x2,.slice a2 n2 c2])=s3 at *
 refine SC hE (hn0.old (o12.trans (o3.mono o12.1))) (hb2.old o3) hk (xc:=[.bool neg,.slice a n c]) (yc:=[.bool x2,.slice a2 n2 c2]) rfl rfl (by omega) g3 fun s4 v4 o4 r4=>?_
 have f4:s4.heap.get (s.next+1)=some ZI:=by rw[o4.2 _ (by omega),o3.2 _ (by omega)];exact f2
 obtain⟨m4,rfl,r4⟩:=r4
 obtain⟨a4,n4,c4,rfl⟩:=r4.n32.shape
 obtain⟨st,ld⟩:=FY (s1:=s) (x:=decide (z * (D:Int)<0)) (a:=a4) (n:=n4) (c:=c4) f4
 simp only[st,ld,AL,Xx,Xz,Qa,Qb,Qc,Qd,Qe,Qf,Qg,Qh,Qi,Qj,Qk,Ql,Qm,Qn,true_and,and_true,Qo,Qp,Qq,Qr,Qs,Qt,Qu,Qv,Qw,Qx,Qy,Qz,Ra,Rb,Rc,Rd,Re,Rf,Rg,Rh,Ri,Rj,Rk,Rm,Rn,Ro,Rp,Rq,Rs,Ya,Yb,Yc,Rt,Ru,Za,Yd,Ye,Rx,Ry,Rz,Wa,Wb,Wc,Wd]
 have o13:=o12.trans (o3.mono o12.1)
 exact hK _ _ ((o13.trans (o4.mono o13.1)).set (by omega) _) (BR.mono (b:=s3.next) ⟨_,rfl,r4.set (by omega) _⟩ (by omega))
theorem Y7(hE:GoodN E){g:FuncId}{first cap:List AV}(heq:Et (.func g first cap) (.func g first cap)=true){v va:AV}{qa qb:Rat}{ka kb ba bb pf pa:Nat}{ca:List AV}(hv:QR bb s v qb)(hva:QR ba s va qa)(hca:va=.agg ca)(hqa:QH qa ka)(hqb:QH qb kb)(hk:ka+kb+1≤1000000000)
  (hpf:pf<s.next) (hpa:pa<s.next) (gf:s.heap.get pf=some (R 84 0 false [.func g first cap])) (ga:s.heap.get pa=some (R 26 0 false ca)) {K:AV→AD→Prop}
  (hf:∀s1 vx vy vd,Ac s.next s s1→s.next+2≤s1.next→BR (s.next+2) s1 vx (qa.num * (qb.den:Int))→BR (s.next+2) s1 vy (qb.num * (qa.den:Int))→NR (s.next+2) s1 vd (AR (qa.den * qb.den)) →
   WF E g (first++([vx,vy,vd]++cap)) (fun r s2=>∃cs,r=.agg cs∧cs.length=3∧Ap cs=true∧s2.heap.get (s.next+1)=s1.heap.get (s.next+1)∧K r (setObj s2 (s.next+1) (R 26 0 false cs))) s1):
  WF E 110 [v,.ptr (some (pf,0)),.ptr (some (pa,0))] K s:=by
 obtain⟨ma,da,e1,hna,hda,hdla⟩:=hva.bi hqa
 obtain⟨mb,db,rfl,hnb,hdb,hdlb⟩:=hv.bi hqb
 rw[hca]at e1
 injection e1 with e1
 subst e1
 obtain⟨_,aa,an,ac,ea⟩:=hna.shape
 injection ea with ea
 injection ea with ea1 ea
 injection ea with ea2 _
 subst ea2
 obtain⟨_,xa,xn,xc,eb⟩:=hnb.shape
 injection eb with eb
 injection eb with eb1 eb
 injection eb with eb2 _
 subst eb2
 obtain⟨aad,and_,acd,rfl⟩:=hda.shape
 obtain⟨xad,xnd,xcd,rfl⟩:=hdb.shape
 refine hE.go Zo (by decide) rfl ?_
 obtain⟨n1,o1,g1,g2⟩:=Eu s (BQ (decide (qb.num<0)) (.slice xa xn xc) (.slice xad xnd xcd)) ZQ
 simp only[kB,Uk,Ul,Um,Wz,Xg,BU,Xb,Aq,HK,KW,Qa,Qb,Qc,Qd,Qe,Qf,Qg,Qh,Qi,Qj,Qk,Ql,Qm,Qn,true_and,and_true,Qo,Qp,Qq,Qr,Qs,Qt,Qu,Qv,Qw,Qx,Qy,Qz,Ra,Rb,Rc,Rd,Re,Rf,Rg,Rh,Ri,Rj,Rk,Rm,Rn,Ro,Rp,Rq,Rs,Ya,Yb,Yc,Rt,Ru,Za,Yd,Ye,Rx,Ry,Rz,Wa,Wb,Wc,Wd]
 generalize newObj (newObj s (BQ (decide (qb.num<0)) (.slice xa xn xc) (.slice xad xnd xcd))) ZQ=s1 at *
 have lf:∀ {s'},Ac s1.next s1 s'→AC Tryz.prog s' 84 (.ptr (some (pf,0)))=some (.func g first cap):=fun o=>AX (o:=0) mC (((o.2 pf (by omega)).trans (o1.2 pf hpf)).trans gf) rfl
 have laN:∀ {s'},Ac s1.next s1 s'→AC Tryz.prog s' 24 (.ptr (some (pa,0+0)))=some (.agg [.bool (decide (qa.num<0)),.slice aa an ac]):=fun o=>Au (o:=0) (n:=2) C6 CC (((o.2 pa (by omega)).trans (o1.2 pa hpa)).trans ga) (by simp)
 have laD:∀ {s'},Ac s1.next s1 s'→AC Tryz.prog s' 22 (.ptr (some (pa,0+2)))=some (.slice aad and_ acd):=fun o=>AX (o:=0+2) DO (((o.2 pa (by omega)).trans (o1.2 pa hpa)).trans ga) rfl
 have lbN:∀ {s'},Ac s1.next s1 s'→AC Tryz.prog s' 24 (.ptr (some (s.next,0+0)))=some (.agg [.bool (decide (qb.num<0)),.slice xa xn xc]):=fun o=>Au (o:=0) (n:=2) C6 CC ((o.2 s.next (by omega)).trans g1) (by simp)
 have lbD:∀ {s'},Ac s1.next s1 s'→AC Tryz.prog s' 22 (.ptr (some (s.next,0+2)))=some (.slice xad xnd xcd):=fun o=>AX (o:=0+2) DO ((o.2 s.next (by omega)).trans g1) rfl
 have or:=Ac.refl s1.next s1
 simp only[lf or,laN or,laD or,lbN or,lbD or,Qa,Qb,Qc,Qd,Qe,Qf,Qg,Qh,Qi,Qj,Qk,Ql,Qm,Qn,true_and,and_true,Qo,Qp,Qq,Qr,Qs,Qt,Qu,Qv,Qw,Qx,Qy,Qz,Ra,Rb,Rc,Rd,Re,Rf,Rg,Rh,Ri,Rj,Rk,Rm,Rn,Ro,Rp,Rq,Rs,Ya,Yb,Yc,Rt,Ru,Za,Yd,Ye,Rx,Ry,Rz,Wa,Wb,Wc,Wd]
 refine Y9 hE (hna.old o1) (hdb.old o1) hdlb hk fun s2 v2 o2 r2=>?_
 have h2:=o2.1
 refine⟨⟨Aa (by simp only[Qa,Qb,Qc,Qd,Qe,Qf,Qg,Qh,Qi,Qj,Qk,Ql,Qm,Qn,true_and,and_true,Qo,Qp,Qq,Qr,Qs,Qt,Qu,Qv,Qw,Qx,Qy,Qz,Ra,Rb,Rc,Rd,Re,Rf,Rg,Rh,Ri,Rj,Rk,Rm,Rn,Ro,Rp,Rq,Rs,Ya,Yb,Yc,Rt,Ru,Za,Yd,Ye,Rx,Ry,Rz,Wa,Wb,Wc,Wd];exact lbD o2) (Bb _ _ _),Aa (by simp only[Qa,Qb,Qc,Qd,Qe,Qf,Qg,Qh,Qi,Qj,Qk,Ql,Qm,Qn,true_and,and_true,Qo,Qp,Qq,Qr,Qs,Qt,Qu,Qv,Qw,Qx,Qy,Qz,Ra,Rb,Rc,Rd,Re,Rf,Rg,Rh,Ri,Rj,Rk,Rm,Rn,Ro,Rp,Rq,Rs,Ya,Yb,Yc,Rt,Ru,Za,Yd,Ye,Rx,Ry,Rz,Wa,Wb,Wc,Wd];exact laD o2) (Bb _ _ _),Aa (by simp only[Qa,Qb,Qc,Qd,Qe,Qf,Qg,Qh,Qi,Qj,Qk,Ql,Qm,Qn,true_and,and_true,Qo,Qp,Qq,Qr,Qs,Qt,Qu,Qv,Qw,Qx,Qy,Qz,Ra,Rb,Rc,Rd,Re,Rf,Rg,Rh,Ri,Rj,Rk,Rm,Rn,Ro,Rp,Rq,Rs,Ya,Yb,Yc,Rt,Ru,Za,Yd,Ye,Rx,Ry,Rz,Wa,Wb,Wc,Wd];exact laD o2) (Bb _ _ _),Aa (by simp only[Qa,Qb,Qc,Qd,Qe,Qf,Qg,Qh,Qi,Qj,Qk,Ql,Qm,Qn,true_and,and_true,Qo,Qp,Qq,Qr,Qs,Qt,Qu,Qv,Qw,Qx,Qy,Qz,Ra,Rb,Rc,Rd,Re,Rf,Rg,Rh,Ri,Rj,Rk,Rm,Rn,Ro,Rp,Rq,Rs,Ya,Yb,Yc,Rt,Ru,Za,Yd,Ye,Rx,Ry,Rz,Wa,Wb,Wc,Wd];exact lbN o2) (GE _ _ _ _),Aa (by simp only[Qa,Qb,Qc,Qd,Qe,Qf,Qg,Qh,Qi,Qj,Qk,Ql,Qm,Qn,true_and,and_true,Qo,Qp,Qq,Qr,Qs,Qt,Qu,Qv,Qw,Qx,Qy,Qz,Ra,Rb,Rc,Rd,Re,Rf,Rg,Rh,Ri,Rj,Rk,Rm,Rn,Ro,Rp,Rq,Rs,Ya,Yb,Yc,Rt,Ru,Za,Yd,Ye,Rx,Ry,Rz,Wa,Wb,Wc,Wd];exact lf o2) heq,trivial⟩,?_⟩
 simp only[Qa,Qb,Qc,Qd,Qe,Qf,Qg,Qh,Qi,Qj,Qk,Ql,Qm,Qn,true_and,and_true,Qo,Qp,Qq,Qr,Qs,Qt,Qu,Qv,Qw,Qx,Qy,Qz,Ra,Rb,Rc,Rd,Re,Rf,Rg,Rh,Ri,Rj,Rk,Rm,Rn,Ro,Rp,Rq,Rs,Ya,Yb,Yc,Rt,Ru,Za,Yd,Ye,Rx,Ry,Rz,Wa,Wb,Wc,Wd]
 have o12:=o1.trans (o2.mono o1.1)
 refine Y9 hE (hnb.old o12) (hda.old o12) hdla (by omega) fun s3 v3 o3 r3=>?_
 have h3:=o3.1
 have o23:Ac s1.next s1 s3:=o2.trans (o3.mono h2)
 refine⟨⟨Aa (by simp only[Qa,Qb,Qc,Qd,Qe,Qf,Qg,Qh,Qi,Qj,Qk,Ql,Qm,Qn,true_and,and_true,Qo,Qp,Qq,Qr,Qs,Qt,Qu,Qv,Qw,Qx,Qy,Qz,Ra,Rb,Rc,Rd,Re,Rf,Rg,Rh,Ri,Rj,Rk,Rm,Rn,Ro,Rp,Rq,Rs,Ya,Yb,Yc,Rt,Ru,Za,Yd,Ye,Rx,Ry,Rz,Wa,Wb,Wc,Wd];exact lbD o23) (Bb _ _ _),Aa (by simp only[Qa,Qb,Qc,Qd,Qe,Qf,Qg,Qh,Qi,Qj,Qk,Ql,Qm,Qn,true_and,and_true,Qo,Qp,Qq,Qr,Qs,Qt,Qu,Qv,Qw,Qx,Qy,Qz,Ra,Rb,Rc,Rd,Re,Rf,Rg,Rh,Ri,Rj,Rk,Rm,Rn,Ro,Rp,Rq,Rs,Ya,Yb,Yc,Rt,Ru,Za,Yd,Ye,Rx,Ry,Rz,Wa,Wb,Wc,Wd];exact laD o23) (Bb _ _ _),Aa (by simp only[Qa,Qb,Qc,Qd,Qe,Qf,Qg,Qh,Qi,Qj,Qk,Ql,Qm,Qn,true_and,and_true,Qo,Qp,Qq,Qr,Qs,Qt,Qu,Qv,Qw,Qx,Qy,Qz,Ra,Rb,Rc,Rd,Re,Rf,Rg,Rh,Ri,Rj,Rk,Rm,Rn,Ro,Rp,Rq,Rs,Ya,Yb,Yc,Rt,Ru,Za,Yd,Ye,Rx,Ry,Rz,Wa,Wb,Wc,Wd];exact lf o23) heq,trivial⟩,?_⟩
 simp only[Qa,Qb,Qc,Qd,Qe,Qf,Qg,Qh,Qi,Qj,Qk,Ql,Qm,Qn,true_and,and_true,Qo,Qp,Qq,Qr,Qs,Qt,Qu,Qv,Qw,Qx,Qy,Qz,Ra,Rb,Rc,Rd,Re,Rf,Rg,Rh,Ri,Rj,Rk,Rm,Rn,Ro,Rp,Rq,Rs,Ya,Yb,Yc,Rt,Ru,Za,Yd,Ye,Rx,Ry,Rz,Wa,Wb,Wc,Wd]
 have o13:=o1.trans (o23.mono o1.1)
 refine Q7 hE (hda.old o13) (hdb.old o13) (by omega) (by omega) (Ae _) (Ae _) fun s4 v4 o4 r4=>?_
 have h4:=o4.1
 rw[Ah,Ah]at r4
 have o24:Ac s1.next s1 s4:=o23.trans (o4.mono o23.1)
 refine⟨⟨Aa (by simp only[Qa,Qb,Qc,Qd,Qe,Qf,Qg,Qh,Qi,Qj,Qk,Ql,Qm,Qn,true_and,and_true,Qo,Qp,Qq,Qr,Qs,Qt,Qu,Qv,Qw,Qx,Qy,Qz,Ra,Rb,Rc,Rd,Re,Rf,Rg,Rh,Ri,Rj,Rk,Rm,Rn,Ro,Rp,Rq,Rs,Ya,Yb,Yc,Rt,Ru,Za,Yd,Ye,Rx,Ry,Rz,Wa,Wb,Wc,Wd];exact lf o24) heq,trivial⟩,?_⟩
 simp only[Qa,Qb,Qc,Qd,Qe,Qf,Qg,Qh,Qi,Qj,Qk,Ql,Qm,Qn,true_and,and_true,Qo,Qp,Qq,Qr,Qs,Qt,Qu,Qv,Qw,Qx,Qy,Qz,Ra,Rb,Rc,Rd,Re,Rf,Rg,Rh,Ri,Rj,Rk,Rm,Rn,Ro,Rp,Rq,Rs,Ya,Yb,Yc,Rt,Ru,Za,Yd,Ye,Rx,Ry,Rz,Wa,Wb,Wc,Wd]
 have o14:=o1.trans (o24.mono o1.1)
 refine(hf s4 v2 v3 v4 o14 (by omega) ((r2.old (o3.trans (o4.mono h3))).mono (by omega)) ((r3.old o4).mono (by omega)) (r4.mono (by omega))).mono ?_
 rintro r s5 ⟨cs,rfl,hl,hc,hg,hend⟩
 have g5:s5.heap.get (s.next+1)=some ZQ:=by rw[hg,o24.2 _ (by omega)];exact g2
 have st:=Aj (P:=Tryz.prog) (t:=26) (cs:=cs) Ar g5 rfl hl hc (by rintro rfl;cases hl)
 have ld:=AE (P:=Tryz.prog) (t:=26) (s:=setObj s5 (s.next+1) (R 26 0 false cs)) (i:=s.next+1) A9 Ar (Wv _ _ _) hl
 simp only[st,ld,AL,Xx,Xz,Qa,Qb,Qc,Qd,Qe,Qf,Qg,Qh,Qi,Qj,Qk,Ql,Qm,Qn,true_and,and_true,Qo,Qp,Qq,Qr,Qs,Qt,Qu,Qv,Qw,Qx,Qy,Qz,Ra,Rb,Rc,Rd,Re,Rf,Rg,Rh,Ri,Rj,Rk,Rm,Rn,Ro,Rp,Rq,Rs,Ya,Yb,Yc,Rt,Ru,Za,Yd,Ye,Rx,Ry,Rz,Wa,Wb,Wc,Wd]
 exact hend
end
def lz(E:CP)(s:AD)(qa qb:Rat)(g:FuncId)(first cap:List AV)(K:AV→AD→Prop):Prop:=
 ∀s1 vx vy vd,Ac s.next s s1→BR s.next s1 vx (qa.num * (qb.den:Int))→BR s.next s1 vy (qb.num * (qa.den:Int))→NR s.next s1 vd (AR (qa.den * qb.den)) →
  WF E g (first++([vx,vy,vd]++cap)) (fun r s2=>∃cs,r=.agg cs∧cs.length=3∧Ap cs=true∧(∀j,s.next≤j→j<s1.next→s2.heap.get j=s1.heap.get j) ∧
   ∀s3,s3.next=s2.next→(∀j,(j<s.next∨s1.next≤j)→s3.heap.get j=s2.heap.get j)→K r s3) s1
section
variable{E:CP}{s:AD}
theorem ai(hE:GoodN E){g:FuncId}{first cap:List AV}(heq:Et (.func g first cap) (.func g first cap)=true){v vb:AV}{qa qb:Rat}{ka kb ba pf pb:Nat}{cb:List AV}(hv:QR ba s v qa)(hvb:QI s vb qb kb)(hcb:vb=.agg cb)(hqa:QH qa ka)(hqb:QH qb kb)(hk:ka+kb+1≤1000000000)
  (hpf:pf<s.next) (hpb:pb<s.next) (gf:s.heap.get pf=some (R 84 0 false [.func g first cap])) (gb:s.heap.get pb=some (R 26 0 false cb)) {K:AV→AD→Prop} (hf:lz E s qa qb g first cap (fun r s3=>K r s3)):
  WF E 109 [v,.ptr (some (pb,0)),.ptr (some (pf,0))] (fun r s3=>(∃cs,r=.agg cs∧cs.length=3∧Ap cs=true)∧K r s3) s:=by
 obtain⟨xa,aa,an,ac,ab,am,ad,rfl⟩:=hv.shape
 obtain⟨xb,ba',bn,bc,bb,bm,bd,eb⟩:=hvb.shape
 rw[hcb]at eb
 injection eb with eb
 subst eb
 refine hE.go Zn (by decide) rfl ?_
 obtain⟨n1,o1,g1,g2⟩:=Eu s (BQ xa (.slice aa an ac) (.slice ab am ad)) ZQ
 simp only[kA,Uh,Ui,Wz,Xg,BU,Xb,Aq,Qa,Qb,Qc,Qd,Qe,Qf,Qg,Qh,Qi,Qj,Qk,Ql,Qm,Qn,true_and,and_true,Qo,Qp,Qq,Qr,Qs,Qt,Qu,Qv,Qw,Qx,Qy,Qz,Ra,Rb,Rc,Rd,Re,Rf,Rg,Rh,Ri,Rj,Rk,Rm,Rn,Ro,Rp,Rq,Rs,Ya,Yb,Yc,Rt,Ru,Za,Yd,Ye,Rx,Ry,Rz,Wa,Wb,Wc,Wd]
 generalize newObj (newObj s (BQ xa (.slice aa an ac) (.slice ab am ad))) ZQ=s1 at *
 have l1:=AE (P:=Tryz.prog) (t:=26) A9 Ar ((o1.2 pb hpb).trans gb) rfl
 simp only[l1,pr,pC,Qa,Qb,Qc,Qd,Qe,Qf,Qg,Qh,Qi,Qj,Qk,Ql,Qm,Qn,true_and,and_true,Qo,Qp,Qq,Qr,Qs,Qt,Qu,Qv,Qw,Qx,Qy,Qz,Ra,Rb,Rc,Rd,Re,Rf,Rg,Rh,Ri,Rj,Rk,Rm,Rn,Ro,Rp,Rq,Rs,Ya,Yb,Yc,Rt,Ru,Za,Yd,Ye,Rx,Ry,Rz,Wa,Wb,Wc,Wd]
 rw[hcb]at hvb
 refine Nn hE (hvb.old o1) (by omega) fun s2 v2 o2 h2 r2=>?_
 have o12:=o1.trans (o2.mono o1.1)
 refine Y7 hE heq (ka:=ka) (kb:=kb) (pf:=pf) (pa:=s.next) r2 (hv.old o12) rfl hqa hqb hk (by omega) (by omega) ((o12.2 pf hpf).trans gf) ((o2.2 s.next (by omega)).trans g1) fun s3 vx vy vd o3 h3 rx ry rd=>?_
 have o13:=o12.trans (o3.mono o12.1)
 refine(hf s3 vx vy vd o13 (rx.mono (by omega)) (ry.mono (by omega)) (rd.mono (by omega))).mono ?_
 rintro r s4 ⟨cs,rfl,hl,hc,hfr,hend⟩
 have q1:=hfr (s.next+1) (by omega) (by omega)
 have q2:=hfr (s1.next+1) (by omega) (by omega)
 have q3:=hfr (s2.next+1) (by omega) (by omega)
 refine⟨cs,rfl,hl,hc,q3,cs,rfl,hl,hc,?_,?_⟩
 ·rw[Ww _ (by omega),q2,o3.2 _ (by omega)]
 have g4:(setObj (setObj s4 (s2.next+1) (R 26 0 false cs)) (s1.next+1) (R 26 0 false cs)).heap.get (s.next+1)=some ZQ:=by
  rw[Ww _ (by omega),Ww _ (by omega),q1,o3.2 _ (by omega),o2.2 _ (by omega)];exact g2
 have st:=Aj (P:=Tryz.prog) (t:=26) (cs:=cs) Ar g4 rfl hl hc (by rintro rfl;cases hl)
 have ld:=AE (P:=Tryz.prog) (t:=26) (s:=setObj (setObj (setObj s4 (s2.next+1) (R 26 0 false cs)) (s1.next+1) (R 26 0 false cs)) (s.next+1) (R 26 0 false cs)) (i:=s.next+1) A9 Ar (Wv _ _ _) hl
 simp only[st,ld,AL,Xx,Xz,Qa,Qb,Qc,Qd,Qe,Qf,Qg,Qh,Qi,Qj,Qk,Ql,Qm,Qn,true_and,and_true,Qo,Qp,Qq,Qr,Qs,Qt,Qu,Qv,Qw,Qx,Qy,Qz,Ra,Rb,Rc,Rd,Re,Rf,Rg,Rh,Ri,Rj,Rk,Rm,Rn,Ro,Rp,Rq,Rs,Ya,Yb,Yc,Rt,Ru,Za,Yd,Ye,Rx,Ry,Rz,Wa,Wb,Wc,Wd]
 refine⟨⟨cs,rfl,hl,hc⟩,hend _ rfl fun j hj=>?_⟩
 rw[Ww _ (by omega),Ww _ (by omega),Ww _ (by omega)]
theorem Y8(hE:GoodN E){g:FuncId}{first cap:List AV}(heq:Et (.func g first cap) (.func g first cap)=true){va vb:AV}{qa qb:Rat}{ka kb:Nat}(hva:QI s va qa ka)(hvb:QI s vb qb kb)(hka:1≤ka)(hkb:1≤kb)(hk:ka+kb+1≤1000000000)
    {K:AV→AD→Prop} (hf:lz E s qa qb g first cap K):WF E 64 [va,vb,.func g first cap] K s:=by
  have hqa:=hva.qh hka
  have hqb:=hvb.qh hkb
  have hva0:=hva
  have hvb0:=hvb
  obtain⟨xa,aa,an,ac,ab,am,ad,ea⟩:=hva.shape
  obtain⟨xb,ba',bn,bc,bb,bm,bd,eb⟩:=hvb.shape
  subst ea;subst eb
  refine hE.go i6 (by decide) rfl ?_
  obtain⟨n3,o3,g1,g2,g3⟩:=Iu s (BQ xa (.slice aa an ac) (.slice ab am ad)) (BQ xb (.slice ba' bn bc) (.slice bb bm bd)) (R 84 0 false [.func g first cap])
  obtain⟨n4,o4,g4⟩:=Bj (newObj (newObj (newObj s (BQ xa (.slice aa an ac) (.slice ab am ad))) (BQ xb (.slice ba' bn bc) (.slice bb bm bd))) (R 84 0 false [.func g first cap])) ZQ
  simp only[nL,eM,eN,Wz,Xg,Xn,BU,Xb,Aq,Qa,Qb,Qc,Qd,Qe,Qf,Qg,Qh,Qi,Qj,Qk,Ql,Qm,Qn,true_and,and_true,Qo,Qp,Qq,Qr,Qs,Qt,Qu,Qv,Qw,Qx,Qy,Qz,Ra,Rb,Rc,Rd,Re,Rf,Rg,Rh,Ri,Rj,Rk,Rm,Rn,Ro,Rp,Rq,Rs,Ya,Yb,Yc,Rt,Ru,Za,Yd,Ye,Rx,Ry,Rz,Wa,Wb,Wc,Wd]
  generalize hs3:newObj (newObj (newObj s (BQ xa (.slice aa an ac) (.slice ab am ad))) (BQ xb (.slice ba' bn bc) (.slice bb bm bd))) (R 84 0 false [.func g first cap])=s3 at *
  generalize hs1:newObj s3 ZQ=s1 at *
  have o1:Ac s.next s s1:=o3.trans (o4.mono o3.1)
  have n1:s1.next=s.next+4:=by omega
  have k1:=(o4.2 s.next (by omega)).trans g1
  have k2:=(o4.2 (s.next+1) (by omega)).trans g2
  have k3:=(o4.2 (s.next+2) (by omega)).trans g3
  rw[n3]at g4
  have l1:=AE (P:=Tryz.prog) (t:=26) A9 Ar k1 rfl
  simp only[l1,pr,pC,Qa,Qb,Qc,Qd,Qe,Qf,Qg,Qh,Qi,Qj,Qk,Ql,Qm,Qn,true_and,and_true,Qo,Qp,Qq,Qr,Qs,Qt,Qu,Qv,Qw,Qx,Qy,Qz,Ra,Rb,Rc,Rd,Re,Rf,Rg,Rh,Ri,Rj,Rk,Rm,Rn,Ro,Rp,Rq,Rs,Ya,Yb,Yc,Rt,Ru,Za,Yd,Ye,Rx,Ry,Rz,Wa,Wb,Wc,Wd]
  refine Nn hE (hva0.old o1) (by omega) fun s2 v2 o2 h2 r2=>?_
  have o12:=o1.trans (o2.mono o1.1)
  refine(ai hE heq (ka:=ka) (kb:=kb) (pf:=s.next+1+1) (pb:=s.next+1) r2 (hvb0.old o12) rfl hqa hqb hk (by omega) (by omega) ((o2.2 _ (by omega)).trans k3) ((o2.2 _ (by omega)).trans k2)
    (K:=fun r s3=>s3.heap.get (s1.next+1)=s2.heap.get (s1.next+1)∧s3.heap.get (s.next+3)=some ZQ∧∀s5,s5.next=s3.next→(∀j,(j<s.next∨s2.next≤j)→s5.heap.get j=s3.heap.get j)→K r s5) (fun s4 vx vy vd o5 rx ry rd=>?_)).mono ?_
  · have o14:=o12.trans (o5.mono o12.1)
    refine(hf s4 vx vy vd o14 (rx.mono (by omega)) (ry.mono (by omega)) (rd.mono (by omega))).mono ?_
    rintro r s6 ⟨cs,rfl,hl,hc,hfr,hend⟩
    have h5:=o5.1
    refine⟨cs,rfl,hl,hc,fun j hj1 hj2=>hfr j (by omega) hj2,fun s7 n7 f7=>⟨?_,?_,fun s8 n8 f8=>hend s8 (by omega) fun j hj=>?_⟩⟩
    · rw[f7 _ (by omega),hfr _ (by omega) (by omega),o5.2 _ (by omega)]
    · rw[f7 _ (by omega),hfr _ (by omega) (by omega),o5.2 _ (by omega),o2.2 _ (by omega)];exact g4
    · rw[f8 j (by omega),f7 j (by omega)]
  · rintro r s6 ⟨⟨cs, rfl, hl, hc⟩, q1, q2, hend⟩
    refine⟨cs,rfl,hl,hc,q1,?_⟩
    have g6:(setObj s6 (s1.next+1) (R 26 0 false cs)).heap.get (s.next+1+1+1)=some ZQ:=by
      rw[Ww _ (by omega)];exact q2
    have st:=Aj (P:=Tryz.prog) (t:=26) (cs:=cs) Ar g6 rfl hl hc (by rintro rfl;cases hl)
    have ld:=AE (P:=Tryz.prog) (t:=26) (s:=setObj (setObj s6 (s1.next+1) (R 26 0 false cs)) (s.next+1+1+1) (R 26 0 false cs)) (i:=s.next+1+1+1) A9 Ar (Wv _ _ _) hl
    simp only[st,ld,AL,Xx,Xz,Qa,Qb,Qc,Qd,Qe,Qf,Qg,Qh,Qi,Qj,Qk,Ql,Qm,Qn,true_and,and_true,Qo,Qp,Qq,Qr,Qs,Qt,Qu,Qv,Qw,Qx,Qy,Qz,Ra,Rb,Rc,Rd,Re,Rf,Rg,Rh,Ri,Rj,Rk,Rm,Rn,Ro,Rp,Rq,Rs,Ya,Yb,Yc,Rt,Ru,Za,Yd,Ye,Rx,Ry,Rz,Wa,Wb,Wc,Wd]
    refine hend _ rfl fun j hj=>?_
    rw[Ww _ (by omega),Ww _ (by omega)]
end
theorem gr(a b:Rat):mkRat (a.num * (b.den:Int)+b.num * (a.den:Int)) (a.den * b.den)=a+b:=by
 have:=jX (n1:=a.num) (n2:=b.num) a.den_nz b.den_nz
 rw[Rat.mkRat_self,Rat.mkRat_self]at this
 exact this.symm
theorem Dd{a:Int}{d j k:Nat}(ha:a.natAbs<LB ^ j)(hd:d<LB ^ k):(a * (d:Int)).natAbs<LB ^ (j+k):=by
 rw[Int.natAbs_mul,Int.natAbs_natCast]
 exact Ci ha hd
theorem QH.le{q:Rat}{k k':Nat}(h:QH q k)(hk:k≤k'):QH q k':=⟨Ep h.1 hk,Ep h.2 hk⟩
theorem QH.add{a b:Rat}{j k:Nat}(ha:QH a j)(hb:QH b k):QH (a+b) (j+k+1):=by
  have hD:a.den * b.den≠0:=qC a.den_nz b.den_nz
  have h1:=Dd ha.1 hb.2
  have h2:=Dd hb.1 ha.2
  rw[qJ k j]at h2
  rw[← gr]
  constructor
  · rw [NN     _ hD, CV]
    refine om (ph _ _) (om (Int.natAbs_add_le _ _) (HW h1 h2))
  · rw[Q6 _ hD]
    exact om (ph _ _) (Ep (Ci ha.2 hb.2) (by omega))
theorem jv:QH 0 1:=⟨by decide,by decide⟩
section
variable{E:CP}{s:AD}
theorem Yh(hE:GoodN E){vx vy vd:AV}{x y:Int}{D b k:Nat}(hx:BR b s vx x)(hy:BR b s vy y)(hd:NR b s vd (AR D))(hxk:x.natAbs<LB ^ k)(hyk:y.natAbs<LB ^ k)(hdk:D<LB ^ k)(hD:D≠0)(hk:k+k+1≤1000000000){K:AV→AD→Prop}
  (hK:∀s' v,Ac s.next s s'→QR s.next s' v (mkRat (x+y) D)→K v s'):WF E 112 [vx,vy,vd] K s:=by
 have hbx:=hx.bi hxk
 have hby:=hy.bi hyk
 obtain⟨x1,a1,m1,c1,rfl⟩:=hbx.shape
 obtain⟨x2,a2,m2,c2,rfl⟩:=hby.shape
 refine hE.go Zq (by decide) rfl ?_
 obtain⟨n1,o1,g1,g2,g3⟩:=Iu s (BX x1 (.slice a1 m1 c1)) (BX x2 (.slice a2 m2 c2)) ZQ
 simp only[kD,Up,Uq,Wz,Xg,BU,Xb,Aq,Qa,Qb,Qc,Qd,Qe,Qf,Qg,Qh,Qi,Qj,Qk,Ql,Qm,Qn,true_and,and_true,Qo,Qp,Qq,Qr,Qs,Qt,Qu,Qv,Qw,Qx,Qy,Qz,Ra,Rb,Rc,Rd,Re,Rf,Rg,Rh,Ri,Rj,Rk,Rm,Rn,Ro,Rp,Rq,Rs,Ya,Yb,Yc,Rt,Ru,Za,Yd,Ye,Rx,Ry,Rz,Wa,Wb,Wc,Wd]
 generalize newObj (newObj (newObj s (BX x1 (.slice a1 m1 c1))) (BX x2 (.slice a2 m2 c2))) ZQ=s1 at *
 have l1:=AE (P:=Tryz.prog) (t:=24) C6 CC g1 rfl
 have l2:=AE (P:=Tryz.prog) (t:=24) C6 CC g2 rfl
 obtain⟨n2,o2,g4⟩:=Bj s1 (R 24 2 false [.bool x1,.slice a1 m1 c1,.bool x2,.slice a2 m2 c2])
 simp only[l1,l2,Iz,Xd,Qa,Qb,Qc,Qd,Qe,Qf,Qg,Qh,Qi,Qj,Qk,Ql,Qm,Qn,true_and,and_true,Qo,Qp,Qq,Qr,Qs,Qt,Qu,Qv,Qw,Qx,Qy,Qz,Ra,Rb,Rc,Rd,Re,Rf,Rg,Rh,Ri,Rj,Rk,Rm,Rn,Ro,Rp,Rq,Rs,Ya,Yb,Yc,Rt,Ru,Za,Yd,Ye,Rx,Ry,Rz,Wa,Wb,Wc,Wd]
 generalize newObj s1 (R 24 2 false [.bool x1,.slice a1 m1 c1,.bool x2,.slice a2 m2 c2])=s2 at *
 have o12:=o1.trans (o2.mono o1.1)
 rw[n1]at g4
 refine ZT hE (ri:=s.next+1+1+1) (hbx.old o12) (hby.old o12) hk (xc:=[.bool x1,.slice a1 m1 c1]) (yc:=[.bool x2,.slice a2 m2 c2]) rfl rfl (by omega) g4 fun s3 v3 o3 r3=>?_
 have h3:=o3.1
 have o13:=o12.trans (o3.mono o12.1)
 simp only[Qa,Qb,Qc,Qd,Qe,Qf,Qg,Qh,Qi,Qj,Qk,Ql,Qm,Qn,true_and,and_true,Qo,Qp,Qq,Qr,Qs,Qt,Qu,Qv,Qw,Qx,Qy,Qz,Ra,Rb,Rc,Rd,Re,Rf,Rg,Rh,Ri,Rj,Rk,Rm,Rn,Ro,Rp,Rq,Rs,Ya,Yb,Yc,Rt,Ru,Za,Yd,Ye,Rx,Ry,Rz,Wa,Wb,Wc,Wd]
 have hxy:(x+y).natAbs<LB ^ (k+1):=om (Int.natAbs_add_le _ _) (HW hxk hyk)
 refine Er hE (r3.bi hxy) (hd.n32.old o13) (by omega) (ny (Bc hdk) (by omega)) (Ae _) (by rw[Ah];exact hD) fun s4 v4 o4 r4=>?_
 rw[Ah]at r4
 have g5:s4.heap.get (s.next+1+1)=some ZQ:=by rw[o4.2 _ (by omega),o3.2 _ (by omega),o2.2 _ (by omega)];exact g3
 obtain⟨x4,a4,n4,c4,b4,m4,d4,rfl⟩:=r4.shape
 obtain⟨st,ld⟩:=BS (cs0:=[.bool false,.slice none 0 (some 0),.slice none 0 (some 0)]) rfl (x:=x4) (a:=a4) (n:=n4) (c:=c4) (b:=b4) (m:=m4) (d:=d4) g5
 simp only[st,ld,AL,Xx,Xz,Qa,Qb,Qc,Qd,Qe,Qf,Qg,Qh,Qi,Qj,Qk,Ql,Qm,Qn,true_and,and_true,Qo,Qp,Qq,Qr,Qs,Qt,Qu,Qv,Qw,Qx,Qy,Qz,Ra,Rb,Rc,Rd,Re,Rf,Rg,Rh,Ri,Rj,Rk,Rm,Rn,Ro,Rp,Rq,Rs,Ya,Yb,Yc,Rt,Ru,Za,Yd,Ye,Rx,Ry,Rz,Wa,Wb,Wc,Wd]
 exact hK _ _ ((o13.trans (o4.mono o13.1)).set (by omega) _) ((r4.set (by omega) _).mono (by omega))
theorem ae(hE:GoodN E){qa qb:Rat}{ka kb:Nat}(hqa:QH qa ka)(hqb:QH qb kb)(hk:2 * (ka+kb)+1≤1000000000){K:AV→AD→Prop}(hK:∀s' v,Ac s.next s s'→QR s.next s' v (qa+qb)→K v s'):lz E s qa qb 112 [] [] K:=by
 intro s1 vx vy vd o1 rx ry rd
 have h2:=Dd hqb.1 hqa.2
 rw[qJ kb ka]at h2
 refine Yh hE rx ry rd (Dd hqa.1 hqb.2) h2 (Ci hqa.2 hqb.2) (qC qa.den_nz qb.den_nz) (by omega) fun s2 v2 o2 r2=>?_
 rw[gr]at r2
 obtain⟨x4,a4,n4,c4,b4,m4,d4,rfl⟩:=r2.shape
 have h1:=o1.1
 have h3:=o2.1
 refine⟨_,rfl,rfl,rfl,fun j _ hj=>o2.2 j hj,fun s3 n3 f3=>hK s3 _ ⟨by omega,fun j hj=>?_⟩ ((r2.keep (by omega) fun j hj _=>f3 j (.inr hj)).mono h1)⟩
 rw[f3 j (.inl hj),o2.2 j (by omega),o1.2 j hj]
theorem MQ(hE:GoodN E){S:AD}{p i:Nat}(hi:i<2){x0 x1:Bool}{a0 b0 a1 b1:Option (Nat×Nat)}{n0 m0 n1 m1:Nat}{c0 d0 c1 d1:Option Nat}{ri ka kb:Nat}{qa qb:Rat}
  (hp:p<S.next) (hb:S.heap.get p=some (BQ x0 (.slice a0 n0 c0) (.slice b0 m0 d0))) (hel:AC Tryz.prog S 26 (.ptr (some (ri,0+i * 3)))=some (.agg [.bool x1,.slice a1 n1 c1,.slice b1 m1 d1]))
  (ha:QI S (.agg [.bool x0,.slice a0 n0 c0,.slice b0 m0 d0]) qa ka) (hb':QI S (.agg [.bool x1,.slice a1 n1 c1,.slice b1 m1 d1]) qb kb) (hka:1≤ka) (hkb:1≤kb) (hk:2 * (ka+kb)+1≤1000000000)
  {Q:A5→Prop} {y0 y2 y6:AV}
  (hgo:∀ (s':AD) (x2:Bool) (a2 b2:Option (Nat×Nat)) (n2 m2:Nat) (c2 d2:Option Nat) (y2 y6:AV),S.next≤s'.next→(∀j,j<S.next→j≠p→s'.heap.get j=S.heap.get j)→s'.heap.get p=some (BQ x2 (.slice a2 n2 c2) (.slice b2 m2 d2))→QR S.next s' (.agg [.bool x2,.slice a2 n2 c2,.slice b2 m2 d2]) (qa+qb) →
   WC E none (.loop Lu) Q [y0,.ptr (some (p,0)),y2,.slice (some (ri,0)) 2 (some 2),iv 2,iv ((i+1:Nat):Int),y6] [] s'):
  WC E none (.loop Lu) Q [y0,.ptr (some (p,0)),y2,.slice (some (ri,0)) 2 (some 2),iv 2,iv (i:Int),y6] [] S:=by
 have dd:decide ((i:Int)<2)=true:=decide_eq_true (by omega)
 have e1:=An (cap:=some 2) (i:=ri) (o:=0) (n:=3) Tryz.underlying28 Ar (show i<2 from hi)
 have e17:=Bh Tryz.prog 3 (i:Int) 1 ⟨by omega,by omega⟩
 have e17':((i:Int)+1)=((i+1:Nat):Int):=by omega
 refine WC.loop' ?_
 generalize hW:WC E none (Af.loop Lu) Q=WW
 obtain⟨m3,o1,g1⟩:=Bj S ZQ
 simp only[Lu,Wu,eX,Rx,dd,e1,hel,BU,Xb,Qa,Qb,Qc,Qd,Qe,Qf,Qg,Qh,Qi,Qj,Qk,Ql,Qm,Qn,true_and,and_true,Qo,Qp,Qq,Qr,Qs,Qt,Qu,Qv,Qw,Qx,Qy,Qz,Ra,Rb,Rc,Rd,Re,Rf,Rg,Rh,Ri,Rj,Rk,Rm,Rn,Ro,Rp,Rq,Rs,Ya,Yb,Yc,Rt,Ru,Za,Yd,Ye,Rx,Ry,Rz,Wa,Wb,Wc,Wd]
 generalize hs1:newObj S ZQ=s1 at *
 have st:=Aj (P:=Tryz.prog) (t:=26) (cs:=[.bool x1,.slice a1 n1 c1,.slice b1 m1 d1]) Ar g1 rfl rfl rfl (by simp)
 generalize hs2:setObj s1 S.next (R 26 0 false [.bool x1,.slice a1 n1 c1,.slice b1 m1 d1])=s2 at st
 have o2:Ac S.next S s2:=by rw[← hs2];exact o1.set (nl _) _
 have n2:s2.next=S.next+1:=by rw[← hs2];exact m3
 have k1:s2.heap.get p=some (BQ x0 (.slice a0 n0 c0) (.slice b0 m0 d0)):=(o2.2 p (by omega)).trans hb
 have k2:s2.heap.get S.next=some (R 26 0 false [.bool x1,.slice a1 n1 c1,.slice b1 m1 d1]):=by rw[← hs2,Wv]
 have l1:=AE (P:=Tryz.prog) (t:=26) A9 Ar k1 rfl
 have l2:=AE (P:=Tryz.prog) (t:=26) A9 Ar k2 rfl
 simp only[eY,st,l1,l2,Xx,Xz,Qa,Qb,Qc,Qd,Qe,Qf,Qg,Qh,Qi,Qj,Qk,Ql,Qm,Qn,true_and,and_true,Qo,Qp,Qq,Qr,Qs,Qt,Qu,Qv,Qw,Qx,Qy,Qz,Ra,Rb,Rc,Rd,Re,Rf,Rg,Rh,Ri,Rj,Rk,Rm,Rn,Ro,Rp,Rq,Rs,Ya,Yb,Yc,Rt,Ru,Za,Yd,Ye,Rx,Ry,Rz,Wa,Wb,Wc,Wd]
 refine Y8 hE (Se _) (ha.old o2) (hb'.old o2) hka hkb (by omega) (ae hE (ha.qh hka) (hb'.qh hkb) hk fun s3 v3 o3 r3=>?_)
 have k3:s3.heap.get p=some (BQ x0 (.slice a0 n0 c0) (.slice b0 m0 d0)):=(o3.2 p (by omega)).trans k1
 obtain⟨x4,a4,n4,c4,b4,m4,d4,rfl⟩:=r3.shape
 have st3:=Aj (P:=Tryz.prog) (t:=26) (cs:=[.bool x4,.slice a4 n4 c4,.slice b4 m4 d4]) Ar k3 rfl rfl rfl (by simp)
 simp only[st3,Xx,Xz,eZ,e17,e17',Qa,Qb,Qc,Qd,Qe,Qf,Qg,Qh,Qi,Qj,Qk,Ql,Qm,Qn,true_and,and_true,Qo,Qp,Qq,Qr,Qs,Qt,Qu,Qv,Qw,Qx,Qy,Qz,Ra,Rb,Rc,Rd,Re,Rf,Rg,Rh,Ri,Rj,Rk,Rm,Rn,Ro,Rp,Rq,Rs,Ya,Yb,Yc,Rt,Ru,Za,Yd,Ye,Rx,Ry,Rz,Wa,Wb,Wc,Wd]
 rw[← hW]
 have h3:=o3.1
 refine hgo _ x4 a4 b4 n4 m4 c4 d4 _ _ ?_ (fun j hj hne=>?_) (Wv _ _ _) ((r3.set (by omega) _).mono (by omega))
 ·show S.next≤s3.next;omega
 ·rw[Ww _ hne,o3.2 j (by omega),o2.2 j hj]
theorem Sy(hE:GoodN E){vx vy:AV}{x y:Rat}{kx ky ri:Nat}(hx:QI s vx x kx)(hy:QI s vy y ky)(hkx:1≤kx)(hky:1≤ky)(hk:2 * (kx+ky)+1≤1000000000){xc yc:List AV}(hxc:vx=.agg xc)(hyc:vy=.agg yc)(hri:ri<s.next)(hrow:s.heap.get ri=some (R 26 3 false (xc++yc)))
  {K:AV→AD→Prop} (hK:∀s' v,Ac s.next s s'→QR s.next s' v (x+y)→K v s'):WF E 67 [.slice (some (ri,0)) 2 (some 2)] K s:=by
 have hqx:=hx.qh hkx
 obtain⟨x1,a1,n1,c1,b1,m1,d1,e1⟩:=hx.shape
 obtain⟨x2,a2,n2,c2,b2,m2,d2,e2⟩:=hy.shape
 rw[hxc]at e1;rw[hyc]at e2
 injection e1 with e1;injection e2 with e2
 subst e1;subst e2;subst hxc;subst hyc
 refine hE.go jA (by decide) rfl ?_
 obtain⟨n3,o1,g1⟩:=Bj s ZQ
 simp only[nO,eU,eV,BU,Xb,Qa,Qb,Qc,Qd,Qe,Qf,Qg,Qh,Qi,Qj,Qk,Ql,Qm,Qn,true_and,and_true,Qo,Qp,Qq,Qr,Qs,Qt,Qu,Qv,Qw,Qx,Qy,Qz,Ra,Rb,Rc,Rd,Re,Rf,Rg,Rh,Ri,Rj,Rk,Rm,Rn,Ro,Rp,Rq,Rs,Ya,Yb,Yc,Rt,Ru,Za,Yd,Ye,Rx,Ry,Rz,Wa,Wb,Wc,Wd]
 generalize newObj s ZQ=s1 at *
 have l1:=AE (P:=Tryz.prog) (t:=26) A9 Ar g1 rfl
 simp only[l1,Qa,Qb,Qc,Qd,Qe,Qf,Qg,Qh,Qi,Qj,Qk,Ql,Qm,Qn,true_and,and_true,Qo,Qp,Qq,Qr,Qs,Qt,Qu,Qv,Qw,Qx,Qy,Qz,Ra,Rb,Rc,Rd,Re,Rf,Rg,Rh,Ri,Rj,Rk,Rm,Rn,Ro,Rp,Rq,Rs,Ya,Yb,Yc,Rt,Ru,Za,Yd,Ye,Rx,Ry,Rz,Wa,Wb,Wc,Wd]
 have hz:QI s1 (.agg [.bool false,.slice none 0 (some 0),.slice none 0 (some 0)]) 0 1:=⟨false,_,_,[],[],rfl,(NR.nil 0 s1).n32,(NR.nil 0 s1).n32,fun x hx=>(by cases hx),fun x hx=>(by cases hx),oB _,oB _,rfl⟩
 refine GT hE hz (by omega) fun s2 v2 o2 r2=>?_
 have h2:=o2.1
 have o12:=o1.trans (o2.mono o1.1)
 obtain⟨x4,a4,n4,c4,b4,m4,d4,rfl⟩:=r2.shape
 have st:=Aj (P:=Tryz.prog) (t:=26) (cs:=[.bool x4,.slice a4 n4 c4,.slice b4 m4 d4]) Ar ((o2.2 s.next (by omega)).trans g1) rfl rfl rfl (by simp)
 simp only[eW,st,AU Tryz.underlying28,Xx,Xz,Qa,Qb,Qc,Qd,Qe,Qf,Qg,Qh,Qi,Qj,Qk,Ql,Qm,Qn,true_and,and_true,Qo,Qp,Qq,Qr,Qs,Qt,Qu,Qv,Qw,Qx,Qy,Qz,Ra,Rb,Rc,Rd,Re,Rf,Rg,Rh,Ri,Rj,Rk,Rm,Rn,Ro,Rp,Rq,Rs,Ya,Yb,Yc,Rt,Ru,Za,Yd,Ye,Rx,Ry,Rz,Wa,Wb,Wc,Wd]
 generalize hs3:setObj s2 s.next (R 26 0 false [.bool x4,.slice a4 n4 c4,.slice b4 m4 d4])=s3 at *
 have h3:s3.next=s2.next:=by rw[← hs3];rfl
 have o3:Ac s.next s s3:=by rw[← hs3];exact o12.set (nl _) _
 have g3:s3.heap.get s.next=some (BQ x4 (.slice a4 n4 c4) (.slice b4 m4 d4)):=by rw[← hs3,Wv]
 have r3:QR s1.next s3 (.agg [.bool x4,.slice a4 n4 c4,.slice b4 m4 d4]) 0:=by rw[← hs3];exact r2.set (by omega) _
 have el0:AC Tryz.prog s3 26 (.ptr (some (ri,0+0 * 3)))=some (.agg [.bool x1,.slice a1 n1 c1,.slice b1 m1 d1]):=Au (o:=0) (n:=3) A9 Ar ((o3.2 ri hri).trans hrow) (by simp)
 refine MQ hE (S:=s3) (p:=s.next) (i:=0) (by omega) (by omega) g3 el0 (r3.qi jv) (hx.old o3) (by omega) hkx (by omega) fun s4 x5 a5 b5 n5 m5 c5 d5 y2 y6 q1 q2 q3 q4=>?_
 rw[Rat.zero_add]at q4
 have o4:Ac s.next s s4:=⟨by omega,fun j hj=>by rw[q2 j (by omega) (by omega),o3.2 j hj]⟩
 have el1:AC Tryz.prog s4 26 (.ptr (some (ri,0+1 * 3)))=some (.agg [.bool x2,.slice a2 n2 c2,.slice b2 m2 d2]):=Au (o:=3) (n:=3) A9 Ar ((o4.2 ri hri).trans hrow) (by simp)
 refine MQ hE (S:=s4) (p:=s.next) (i:=0+1) (by omega) (by omega) q3 el1 (q4.qi hqx) (hy.old o4) hkx hky hk fun s5 x6 a6 b6 n6 m6 c6 d6 y2 y6 w1 w2 w3 w4=>?_
 have o5:Ac s.next s s5:=⟨by omega,fun j hj=>by rw[w2 j (by omega) (by omega),o4.2 j hj]⟩
 have dd:decide (((0+1+1:Nat):Int)<2)=false:=rfl
 refine WC.loop' ?_
 have l1:=AE (P:=Tryz.prog) (t:=26) A9 Ar w3 rfl
 obtain⟨st,ld⟩:=BS rfl (x:=x6) (a:=a6) (n:=n6) (c:=c6) (b:=b6) (m:=m6) (d:=d6) w3
 simp only[Lu,Wu,ef,Rx,dd,l1,st,ld,if_true,AL,Xx,Xz,Qa,Qb,Qc,Qd,Qe,Qf,Qg,Qh,Qi,Qj,Qk,Ql,Qm,Qn,true_and,and_true,Qo,Qp,Qq,Qr,Qs,Qt,Qu,Qv,Qw,Qx,Qy,Qz,Ra,Rb,Rc,Rd,Re,Rf,Rg,Rh,Ri,Rj,Rk,Rm,Rn,Ro,Rp,Rq,Rs,Ya,Yb,Yc,Rt,Ru,Za,Yd,Ye,Rx,Ry,Rz,Wa,Wb,Wc,Wd]
 exact hK _ _ (o5.set (nl _) _) ((w4.set (by omega) _).mono (by omega))
theorem MR(x y:Bool)(a b a' b':Option (Nat×Nat))(n m n' m':Nat)(c d c' d':Option Nat):Ad Tryz.prog 28 2 (zipIdx [0,1] [.agg [.bool x,.slice a n c,.slice b m d],.agg [.bool y,.slice a' n' c',.slice b' m' d']])=some (R 26 3 false [.bool x,.slice a n c,.slice b m d,.bool y,.slice a' n' c',.slice b' m' d']):=by kernel_rfl
theorem IG(hE:GoodN E){vx vy:AV}{x y:Rat}{kx ky:Nat}(hx:QI s vx x kx)(hy:QI s vy y ky)(hkx:1≤kx)(hky:1≤ky)(hk:2 * (kx+ky)+1≤1000000000){K:AV→AD→Prop}(hK:∀s' v,Ac s.next s s'→QR s.next s' v (x+y)→K v s'):WF E 27 [vx,vy] K s:=by
 obtain⟨x1,a1,n1,c1,b1,m1,d1,rfl⟩:=hx.shape
 obtain⟨x2,a2,n2,c2,b2,m2,d2,rfl⟩:=hy.shape
 refine hE.go iZ (by decide) rfl ?_
 obtain⟨n3,o1,g1,g2,g3⟩:=Iu s (BQ x1 (.slice a1 n1 c1) (.slice b1 m1 d1)) (BQ x2 (.slice a2 n2 c2) (.slice b2 m2 d2)) ZQ
 simp only[mh,cL,cM,Wz,Xg,BU,Xb,Aq,Qa,Qb,Qc,Qd,Qe,Qf,Qg,Qh,Qi,Qj,Qk,Ql,Qm,Qn,true_and,and_true,Qo,Qp,Qq,Qr,Qs,Qt,Qu,Qv,Qw,Qx,Qy,Qz,Ra,Rb,Rc,Rd,Re,Rf,Rg,Rh,Ri,Rj,Rk,Rm,Rn,Ro,Rp,Rq,Rs,Ya,Yb,Yc,Rt,Ru,Za,Yd,Ye,Rx,Ry,Rz,Wa,Wb,Wc,Wd]
 generalize newObj (newObj (newObj s (BQ x1 (.slice a1 n1 c1) (.slice b1 m1 d1))) (BQ x2 (.slice a2 n2 c2) (.slice b2 m2 d2))) ZQ=s1 at *
 have l1:=AE (P:=Tryz.prog) (t:=26) A9 Ar g1 rfl
 have l2:=AE (P:=Tryz.prog) (t:=26) A9 Ar g2 rfl
 obtain⟨n4,o2,g4⟩:=Bj s1 (R 26 3 false [.bool x1,.slice a1 n1 c1,.slice b1 m1 d1,.bool x2,.slice a2 n2 c2,.slice b2 m2 d2])
 simp only[l1,l2,MR,Xd,Qa,Qb,Qc,Qd,Qe,Qf,Qg,Qh,Qi,Qj,Qk,Ql,Qm,Qn,true_and,and_true,Qo,Qp,Qq,Qr,Qs,Qt,Qu,Qv,Qw,Qx,Qy,Qz,Ra,Rb,Rc,Rd,Re,Rf,Rg,Rh,Ri,Rj,Rk,Rm,Rn,Ro,Rp,Rq,Rs,Ya,Yb,Yc,Rt,Ru,Za,Yd,Ye,Rx,Ry,Rz,Wa,Wb,Wc,Wd]
 generalize newObj s1 (R 26 3 false [.bool x1,.slice a1 n1 c1,.slice b1 m1 d1,.bool x2,.slice a2 n2 c2,.slice b2 m2 d2])=s2 at *
 have o12:=o1.trans (o2.mono o1.1)
 rw[n3]at g4
 refine Sy hE (ri:=s.next+1+1+1) (hx.old o12) (hy.old o12) hkx hky hk (xc:=[.bool x1,.slice a1 n1 c1,.slice b1 m1 d1]) (yc:=[.bool x2,.slice a2 n2 c2,.slice b2 m2 d2]) rfl rfl (by omega) g4 fun s3 v3 o3 r3=>?_
 have o13:=o12.trans (o3.mono o12.1)
 have g5:s3.heap.get (s.next+1+1)=some ZQ:=by rw[o3.2 _ (by omega),o2.2 _ (by omega)];exact g3
 obtain⟨x4,a4,n4,c4,b4,m4,d4,rfl⟩:=r3.shape
 obtain⟨st,ld⟩:=BS (cs0:=[.bool false,.slice none 0 (some 0),.slice none 0 (some 0)]) rfl (x:=x4) (a:=a4) (n:=n4) (c:=c4) (b:=b4) (m:=m4) (d:=d4) g5
 simp only[st,ld,AL,Xx,Xz,Qa,Qb,Qc,Qd,Qe,Qf,Qg,Qh,Qi,Qj,Qk,Ql,Qm,Qn,true_and,and_true,Qo,Qp,Qq,Qr,Qs,Qt,Qu,Qv,Qw,Qx,Qy,Qz,Ra,Rb,Rc,Rd,Re,Rf,Rg,Rh,Ri,Rj,Rk,Rm,Rn,Ro,Rp,Rq,Rs,Ya,Yb,Yc,Rt,Ru,Za,Yd,Ye,Rx,Ry,Rz,Wa,Wb,Wc,Wd]
 exact hK _ _ (o13.set (by omega) _) ((r3.set (by omega) _).mono (by omega))
end
theorem QH.neg{q:Rat}{k:Nat}(h:QH q k):QH (-q) k:=⟨by show(-q.num).natAbs<_;rw[Int.natAbs_neg];exact h.1,h.2⟩
theorem gt(a b:Rat):mkRat (a.num * b.num) (a.den * b.den)=a * b:=by
 have:=jY a.num b.num a.den b.den
 rw[Rat.mkRat_self,Rat.mkRat_self]at this
 exact this.symm
theorem QH.mul{a b:Rat}{j k:Nat}(ha:QH a j)(hb:QH b k):QH (a * b) (j+k):=by
  have hD:a.den * b.den≠0:=qC a.den_nz b.den_nz
  rw[← gt]
  constructor
  · rw [NN     _ hD, CV]
    refine om (ph _ _) ?_
    rw[Int.natAbs_mul]
    exact Ci ha.1 hb.1
  · rw[Q6 _ hD]
    exact om (ph _ _) (Ci ha.2 hb.2)
def iS(a b:Rat):Int:=By (a.num * (b.den:Int) - b.num * (a.den:Int))
theorem TZ(a b:Rat):iS a b=0↔a=b:=by
  unfold iS
  constructor
  · intro h
    have h0:a.num * (b.den:Int) - b.num * (a.den:Int)=0:=by
      rcases Bz (a.num * (b.den:Int) - b.num * (a.den:Int))with⟨_,e⟩ | ⟨e,_⟩ | ⟨_,e⟩
      · rw[e]at h;exact absurd h (by decide)
      · exact e
      · rw[e]at h;exact absurd h (by decide)
    have h1:a.num * (b.den:Int)=b.num * (a.den:Int):=by omega
    have:=(Rat.mkRat_eq_iff a.den_nz b.den_nz (n₁:=a.num) (n₂:=b.num)).2 h1
    rw[Rat.mkRat_self,Rat.mkRat_self]at this
    exact this
  · rintro rfl
    rw[Int.sub_self];rfl
theorem Z6(f:FuncId)(i j:Nat):Et (.func f [] [.ptr (some (i,0)),.ptr (some (j,0))]) (.func f [] [.ptr (some (i,0)),.ptr (some (j,0))])=true:=by simp[Et,Et.eqAs,Eg]
section
variable{E:CP}{s:AD}
theorem aV(hE:GoodN E){vx vy:AV}{x y:Rat}{kx ky:Nat}(hx:QI s vx x kx)(hy:QI s vy y ky)(hkx:1≤kx)(hky:1≤ky)(hk:2 * (kx+ky)+1≤1000000000){K:AV→AD→Prop}(hK:∀s' v,Ac s.next s s'→QR s.next s' v (x - y)→K v s'):WF E 28 [vx,vy] K s:=by
 have hqy:=hy.qh hky
 obtain⟨x1,a1,n1,c1,b1,m1,d1,rfl⟩:=hx.shape
 obtain⟨x2,a2,n2,c2,b2,m2,d2,rfl⟩:=hy.shape
 refine hE.go ia (by decide) rfl ?_
 obtain⟨n3,o1,g1,g2,g3⟩:=Iu s (BQ x1 (.slice a1 n1 c1) (.slice b1 m1 d1)) (BQ x2 (.slice a2 n2 c2) (.slice b2 m2 d2)) ZQ
 simp only[ml,cN,cO,Wz,Xg,BU,Xb,Aq,Qa,Qb,Qc,Qd,Qe,Qf,Qg,Qh,Qi,Qj,Qk,Ql,Qm,Qn,true_and,and_true,Qo,Qp,Qq,Qr,Qs,Qt,Qu,Qv,Qw,Qx,Qy,Qz,Ra,Rb,Rc,Rd,Re,Rf,Rg,Rh,Ri,Rj,Rk,Rm,Rn,Ro,Rp,Rq,Rs,Ya,Yb,Yc,Rt,Ru,Za,Yd,Ye,Rx,Ry,Rz,Wa,Wb,Wc,Wd]
 generalize newObj (newObj (newObj s (BQ x1 (.slice a1 n1 c1) (.slice b1 m1 d1))) (BQ x2 (.slice a2 n2 c2) (.slice b2 m2 d2))) ZQ=s1 at *
 have l1:=AE (P:=Tryz.prog) (t:=26) A9 Ar g1 rfl
 have l2:=AE (P:=Tryz.prog) (t:=26) A9 Ar g2 rfl
 simp only[l1,l2,Qa,Qb,Qc,Qd,Qe,Qf,Qg,Qh,Qi,Qj,Qk,Ql,Qm,Qn,true_and,and_true,Qo,Qp,Qq,Qr,Qs,Qt,Qu,Qv,Qw,Qx,Qy,Qz,Ra,Rb,Rc,Rd,Re,Rf,Rg,Rh,Ri,Rj,Rk,Rm,Rn,Ro,Rp,Rq,Rs,Ya,Yb,Yc,Rt,Ru,Za,Yd,Ye,Rx,Ry,Rz,Wa,Wb,Wc,Wd]
 refine aU hE (hy.old o1) hky (by omega) fun s2 v2 o2 r2=>?_
 have h2:=o2.1
 have f1:=(o2.2 s.next (by omega)).trans g1
 refine⟨⟨Aa (by simp only[Qa,Qb,Qc,Qd,Qe,Qf,Qg,Qh,Qi,Qj,Qk,Ql,Qm,Qn,true_and,and_true,Qo,Qp,Qq,Qr,Qs,Qt,Qu,Qv,Qw,Qx,Qy,Qz,Ra,Rb,Rc,Rd,Re,Rf,Rg,Rh,Ri,Rj,Rk,Rm,Rn,Ro,Rp,Rq,Rs,Ya,Yb,Yc,Rt,Ru,Za,Yd,Ye,Rx,Ry,Rz,Wa,Wb,Wc,Wd];exact AE A9 Ar f1 rfl) (BK _ _ _ _ _ _ _),trivial⟩,?_⟩
 have o12:=o1.trans (o2.mono o1.1)
 obtain⟨x4,a4,n4,c4,b4,m4,d4,rfl⟩:=r2.shape
 obtain⟨n5,o3,g4⟩:=Bj s2 (R 26 3 false [.bool x1,.slice a1 n1 c1,.slice b1 m1 d1,.bool x4,.slice a4 n4 c4,.slice b4 m4 d4])
 simp only[MR,Xd,Qa,Qb,Qc,Qd,Qe,Qf,Qg,Qh,Qi,Qj,Qk,Ql,Qm,Qn,true_and,and_true,Qo,Qp,Qq,Qr,Qs,Qt,Qu,Qv,Qw,Qx,Qy,Qz,Ra,Rb,Rc,Rd,Re,Rf,Rg,Rh,Ri,Rj,Rk,Rm,Rn,Ro,Rp,Rq,Rs,Ya,Yb,Yc,Rt,Ru,Za,Yd,Ye,Rx,Ry,Rz,Wa,Wb,Wc,Wd]
 generalize newObj s2 (R 26 3 false [.bool x1,.slice a1 n1 c1,.slice b1 m1 d1,.bool x4,.slice a4 n4 c4,.slice b4 m4 d4])=s3 at *
 have o13:=o12.trans (o3.mono o12.1)
 refine Sy hE (hx.old o13) ((r2.qi hqy.neg).old o3) hkx hky hk (xc:=[.bool x1,.slice a1 n1 c1,.slice b1 m1 d1]) (yc:=[.bool x4,.slice a4 n4 c4,.slice b4 m4 d4]) rfl rfl (by omega) g4 fun s4 v4 o4 r4=>?_
 rw[← Rat.sub_eq_add_neg]at r4
 have o14:=o13.trans (o4.mono o13.1)
 have g5:s4.heap.get (s.next+1+1)=some ZQ:=by rw[o4.2 _ (by omega),o3.2 _ (by omega),o2.2 _ (by omega)];exact g3
 obtain⟨x6,a6,n6,c6,b6,m6,d6,rfl⟩:=r4.shape
 obtain⟨st,ld⟩:=BS (cs0:=[.bool false,.slice none 0 (some 0),.slice none 0 (some 0)]) rfl (x:=x6) (a:=a6) (n:=n6) (c:=c6) (b:=b6) (m:=m6) (d:=d6) g5
 simp only[st,ld,AL,Xx,Xz,Qa,Qb,Qc,Qd,Qe,Qf,Qg,Qh,Qi,Qj,Qk,Ql,Qm,Qn,true_and,and_true,Qo,Qp,Qq,Qr,Qs,Qt,Qu,Qv,Qw,Qx,Qy,Qz,Ra,Rb,Rc,Rd,Re,Rf,Rg,Rh,Ri,Rj,Rk,Rm,Rn,Ro,Rp,Rq,Rs,Ya,Yb,Yc,Rt,Ru,Za,Yd,Ye,Rx,Ry,Rz,Wa,Wb,Wc,Wd]
 exact hK _ _ (o14.set (by omega) _) ((r4.set (by omega) _).mono (by omega))
theorem IH(hE:GoodN E){vx vy:AV}{x y:Rat}{kx ky:Nat}(hx:QI s vx x kx)(hy:QI s vy y ky)(hkx:1≤kx)(hky:1≤ky)(hk:kx+ky+1≤1000000000){K:AV→AD→Prop}(hK:∀s' v,Ac s.next s s'→QR s.next s' v (x * y)→K v s'):WF E 29 [vx,vy] K s:=by
 have hqx:=hx.qh hkx
 have hqy:=hy.qh hky
 have hx0:=hx
 have hy0:=hy
 obtain⟨x1,a1,n1,c1,b1,m1,d1,ex⟩:=hx.shape
 obtain⟨x2,a2,n2,c2,b2,m2,d2,ey⟩:=hy.shape
 subst ex;subst ey
 refine hE.go ib (by decide) rfl ?_
 obtain⟨n3,o1,g1,g2,g3⟩:=Iu s (BQ x1 (.slice a1 n1 c1) (.slice b1 m1 d1)) (BQ x2 (.slice a2 n2 c2) (.slice b2 m2 d2)) ZQ
 simp only[mn,cP,cQ,Wz,Xg,BU,Xb,Aq,Qa,Qb,Qc,Qd,Qe,Qf,Qg,Qh,Qi,Qj,Qk,Ql,Qm,Qn,true_and,and_true,Qo,Qp,Qq,Qr,Qs,Qt,Qu,Qv,Qw,Qx,Qy,Qz,Ra,Rb,Rc,Rd,Re,Rf,Rg,Rh,Ri,Rj,Rk,Rm,Rn,Ro,Rp,Rq,Rs,Ya,Yb,Yc,Rt,Ru,Za,Yd,Ye,Rx,Ry,Rz,Wa,Wb,Wc,Wd]
 generalize newObj (newObj (newObj s (BQ x1 (.slice a1 n1 c1) (.slice b1 m1 d1))) (BQ x2 (.slice a2 n2 c2) (.slice b2 m2 d2))) ZQ=s1 at *
 have l1:=AE (P:=Tryz.prog) (t:=26) A9 Ar g1 rfl
 have l2:=AE (P:=Tryz.prog) (t:=26) A9 Ar g2 rfl
 simp only[l1,l2,Qa,Qb,Qc,Qd,Qe,Qf,Qg,Qh,Qi,Qj,Qk,Ql,Qm,Qn,true_and,and_true,Qo,Qp,Qq,Qr,Qs,Qt,Qu,Qv,Qw,Qx,Qy,Qz,Ra,Rb,Rc,Rd,Re,Rf,Rg,Rh,Ri,Rj,Rk,Rm,Rn,Ro,Rp,Rq,Rs,Ya,Yb,Yc,Rt,Ru,Za,Yd,Ye,Rx,Ry,Rz,Wa,Wb,Wc,Wd]
 refine GT hE (hx0.old o1) (by omega) fun s2 v2 o2 r2=>?_
 have h2:=o2.1
 have f1:=(o2.2 s.next (by omega)).trans g1
 have f2:=(o2.2 (s.next+1) (by omega)).trans g2
 have f3:=(o2.2 (s.next+1+1) (by omega)).trans g3
 refine⟨⟨Aa (by simp only[Qa,Qb,Qc,Qd,Qe,Qf,Qg,Qh,Qi,Qj,Qk,Ql,Qm,Qn,true_and,and_true,Qo,Qp,Qq,Qr,Qs,Qt,Qu,Qv,Qw,Qx,Qy,Qz,Ra,Rb,Rc,Rd,Re,Rf,Rg,Rh,Ri,Rj,Rk,Rm,Rn,Ro,Rp,Rq,Rs,Ya,Yb,Yc,Rt,Ru,Za,Yd,Ye,Rx,Ry,Rz,Wa,Wb,Wc,Wd];exact AE A9 Ar f2 rfl) (BK _ _ _ _ _ _ _),trivial⟩,?_⟩
 have o12:=o1.trans (o2.mono o1.1)
 simp only[Qa,Qb,Qc,Qd,Qe,Qf,Qg,Qh,Qi,Qj,Qk,Ql,Qm,Qn,true_and,and_true,Qo,Qp,Qq,Qr,Qs,Qt,Qu,Qv,Qw,Qx,Qy,Qz,Ra,Rb,Rc,Rd,Re,Rf,Rg,Rh,Ri,Rj,Rk,Rm,Rn,Ro,Rp,Rq,Rs,Ya,Yb,Yc,Rt,Ru,Za,Yd,Ye,Rx,Ry,Rz,Wa,Wb,Wc,Wd]
 refine GT hE (hy0.old o12) (by omega) fun s3 v3 o3 r3=>?_
 have h3:=o3.1
 have o13:=o12.trans (o3.mono o12.1)
 have r2':=r2.old o3
 have e1:=(o3.2 s.next (by omega)).trans f1
 have e2:=(o3.2 (s.next+1) (by omega)).trans f2
 have e3:=(o3.2 (s.next+1+1) (by omega)).trans f3
 obtain⟨ma,da,rfl,hna,hda,_⟩:=r2'
 obtain⟨mb,db,rfl,hnb,hdb,_⟩:=r3
 obtain⟨a4,n4,c4,rfl⟩:=hna.n32.shape
 obtain⟨b4,m4,d4,rfl⟩:=hda.n32.shape
 obtain⟨a5,n5,c5,rfl⟩:=hnb.n32.shape
 obtain⟨b5,m5,d5,rfl⟩:=hdb.n32.shape
 have st1:=Aj (P:=Tryz.prog) (t:=26) (cs:=[.bool (decide (x.num<0)),.slice a4 n4 c4,.slice b4 m4 d4]) Ar e1 rfl rfl rfl (by simp)
 generalize hs4:setObj s3 s.next (BQ (decide (x.num<0)) (.slice a4 n4 c4) (.slice b4 m4 d4))=s4 at st1
 have e2':s4.heap.get (s.next+1)=some (BQ x2 (.slice a2 n2 c2) (.slice b2 m2 d2)):=by rw[← hs4,Ww _ (by omega)];exact e2
 have st2:=Aj (P:=Tryz.prog) (t:=26) (cs:=[.bool (decide (y.num<0)),.slice a5 n5 c5,.slice b5 m5 d5]) Ar e2' rfl rfl rfl (by simp)
 generalize hs5:setObj s4 (s.next+1) (BQ (decide (y.num<0)) (.slice a5 n5 c5) (.slice b5 m5 d5))=s5 at st2
 have k1:s5.heap.get s.next=some (BQ (decide (x.num<0)) (.slice a4 n4 c4) (.slice b4 m4 d4)):=by rw[← hs5,Ww _ (by omega),← hs4,Wv]
 have k2:s5.heap.get (s.next+1)=some (BQ (decide (y.num<0)) (.slice a5 n5 c5) (.slice b5 m5 d5)):=by rw[← hs5,Wv]
 have k3:s5.heap.get (s.next+1+1)=some ZQ:=by rw[← hs5,Ww _ (by omega),← hs4,Ww _ (by omega)];exact e3
 have n6:s5.next=s3.next:=by rw[← hs5,← hs4];rfl
 have o5:Ac s.next s s5:=by
  rw[← hs5,← hs4]
  exact(o13.set (nl _) _).set (by omega) _
 have pna:NR s1.next s5 (.slice a4 n4 c4) (AR x.num.natAbs):=by rw[← hs5,← hs4];exact(hna.set (by omega) _).set (by omega) _
 have pda:NR s1.next s5 (.slice b4 m4 d4) (AR x.den):=by rw[← hs5,← hs4];exact(hda.set (by omega) _).set (by omega) _
 have pnb:NR s2.next s5 (.slice a5 n5 c5) (AR y.num.natAbs):=by rw[← hs5,← hs4];exact(hnb.set (by omega) _).set (by omega) _
 have pdb:NR s2.next s5 (.slice b5 m5 d5) (AR y.den):=by rw[← hs5,← hs4];exact(hdb.set (by omega) _).set (by omega) _
 have l1:AC Tryz.prog s5 24 (.ptr (some (s.next,0+0)))=some (.agg [.bool (decide (x.num<0)),.slice a4 n4 c4]):=Au (o:=0) (n:=2) C6 CC k1 (by simp)
 have l2:AC Tryz.prog s5 24 (.ptr (some (s.next+1,0+0)))=some (.agg [.bool (decide (y.num<0)),.slice a5 n5 c5]):=Au (o:=0) (n:=2) C6 CC k2 (by simp)
 obtain⟨n7,o6,g6⟩:=Bj s5 (R 24 2 false [.bool (decide (x.num<0)),.slice a4 n4 c4,.bool (decide (y.num<0)),.slice a5 n5 c5])
 simp only[cR,st1,st2,l1,l2,Iz,Xd,HK,KW,Xx,Xz,Qa,Qb,Qc,Qd,Qe,Qf,Qg,Qh,Qi,Qj,Qk,Ql,Qm,Qn,true_and,and_true,Qo,Qp,Qq,Qr,Qs,Qt,Qu,Qv,Qw,Qx,Qy,Qz,Ra,Rb,Rc,Rd,Re,Rf,Rg,Rh,Ri,Rj,Rk,Rm,Rn,Ro,Rp,Rq,Rs,Ya,Yb,Yc,Rt,Ru,Za,Yd,Ye,Rx,Ry,Rz,Wa,Wb,Wc,Wd]
 generalize newObj s5 (R 24 2 false [.bool (decide (x.num<0)),.slice a4 n4 c4,.bool (decide (y.num<0)),.slice a5 n5 c5])=s6 at *
 have o56:=o5.trans (o6.mono o5.1)
 have la:∀ {s'},Ac s5.next s5 s'→AC Tryz.prog s' 22 (.ptr (some (s.next,0+2)))=some (.slice b4 m4 d4):=fun o=>AX (o:=0+2) DO ((o.2 s.next (by omega)).trans k1) rfl
 have lb:∀ {s'},Ac s5.next s5 s'→AC Tryz.prog s' 22 (.ptr (some (s.next+1,0+2)))=some (.slice b5 m5 d5):=fun o=>AX (o:=0+2) DO ((o.2 (s.next+1) (by omega)).trans k2) rfl
 simp only[la o6,lb o6,Qa,Qb,Qc,Qd,Qe,Qf,Qg,Qh,Qi,Qj,Qk,Ql,Qm,Qn,true_and,and_true,Qo,Qp,Qq,Qr,Qs,Qt,Qu,Qv,Qw,Qx,Qy,Qz,Ra,Rb,Rc,Rd,Re,Rf,Rg,Rh,Ri,Rj,Rk,Rm,Rn,Ro,Rp,Rq,Rs,Ya,Yb,Yc,Rt,Ru,Za,Yd,Ye,Rx,Ry,Rz,Wa,Wb,Wc,Wd]
 have bx:BI s5 (.agg [.bool (decide (x.num<0)),.slice a4 n4 c4]) x.num kx:=BR.bi (b:=s1.next) ⟨_,rfl,pna⟩ hqx.1
 have by':BI s5 (.agg [.bool (decide (y.num<0)),.slice a5 n5 c5]) y.num ky:=BR.bi (b:=s2.next) ⟨_,rfl,pnb⟩ hqy.1
 refine SC hE (bx.old o6) (by'.old o6) hk (xc:=[.bool (decide (x.num<0)),.slice a4 n4 c4]) (yc:=[.bool (decide (y.num<0)),.slice a5 n5 c5]) rfl rfl (by omega) g6 fun s7 v7 o7 r7=>?_
 have h7:=o7.1
 have o57:Ac s5.next s5 s7:=o6.trans (o7.mono o6.1)
 refine⟨⟨Aa (by simp only[Qa,Qb,Qc,Qd,Qe,Qf,Qg,Qh,Qi,Qj,Qk,Ql,Qm,Qn,true_and,and_true,Qo,Qp,Qq,Qr,Qs,Qt,Qu,Qv,Qw,Qx,Qy,Qz,Ra,Rb,Rc,Rd,Re,Rf,Rg,Rh,Ri,Rj,Rk,Rm,Rn,Ro,Rp,Rq,Rs,Ya,Yb,Yc,Rt,Ru,Za,Yd,Ye,Rx,Ry,Rz,Wa,Wb,Wc,Wd];exact lb o57) (Bb _ _ _),Aa (by simp only[Qa,Qb,Qc,Qd,Qe,Qf,Qg,Qh,Qi,Qj,Qk,Ql,Qm,Qn,true_and,and_true,Qo,Qp,Qq,Qr,Qs,Qt,Qu,Qv,Qw,Qx,Qy,Qz,Ra,Rb,Rc,Rd,Re,Rf,Rg,Rh,Ri,Rj,Rk,Rm,Rn,Ro,Rp,Rq,Rs,Ya,Yb,Yc,Rt,Ru,Za,Yd,Ye,Rx,Ry,Rz,Wa,Wb,Wc,Wd];exact la o57) (Bb _ _ _),trivial⟩,?_⟩
 simp only[Qa,Qb,Qc,Qd,Qe,Qf,Qg,Qh,Qi,Qj,Qk,Ql,Qm,Qn,true_and,and_true,Qo,Qp,Qq,Qr,Qs,Qt,Qu,Qv,Qw,Qx,Qy,Qz,Ra,Rb,Rc,Rd,Re,Rf,Rg,Rh,Ri,Rj,Rk,Rm,Rn,Ro,Rp,Rq,Rs,Ya,Yb,Yc,Rt,Ru,Za,Yd,Ye,Rx,Ry,Rz,Wa,Wb,Wc,Wd]
 have dxl:=Bc hqx.2
 have dyl:=Bc hqy.2
 refine Q7 hE (pda.n32.old o57) (pdb.n32.old o57) (by omega) (by omega) (Ae _) (Ae _) fun s8 v8 o8 r8=>?_
 rw[Ah,Ah]at r8
 have h8:=o8.1
 have hxy:(x.num * y.num).natAbs<LB ^ (kx+ky):=by rw[Int.natAbs_mul];exact Ci hqx.1 hqy.1
 simp only[Qa,Qb,Qc,Qd,Qe,Qf,Qg,Qh,Qi,Qj,Qk,Ql,Qm,Qn,true_and,and_true,Qo,Qp,Qq,Qr,Qs,Qt,Qu,Qv,Qw,Qx,Qy,Qz,Ra,Rb,Rc,Rd,Re,Rf,Rg,Rh,Ri,Rj,Rk,Rm,Rn,Ro,Rp,Rq,Rs,Ya,Yb,Yc,Rt,Ru,Za,Yd,Ye,Rx,Ry,Rz,Wa,Wb,Wc,Wd]
 refine Er hE ((r7.bi hxy).old o8) r8.n32 (by omega) (ny (Bc (Ci hqx.2 hqy.2)) (by omega)) (Ae _) (by rw[Ah];exact qC x.den_nz y.den_nz) fun s9 v9 o9 r9=>?_
 rw[Ah,gt]at r9
 have h9:=o9.1
 have o59:Ac s5.next s5 s9:=o57.trans ((o8.trans (o9.mono h8)).mono o57.1)
 obtain⟨x9,a9,n9,c9,b9,m9,d9,rfl⟩:=r9.shape
 obtain⟨st,ld⟩:=BS (cs0:=[.bool false,.slice none 0 (some 0),.slice none 0 (some 0)]) rfl (x:=x9) (a:=a9) (n:=n9) (c:=c9) (b:=b9) (m:=m9) (d:=d9) ((o59.2 (s.next+1+1) (by omega)).trans k3)
 simp only[st,ld,AL,Xx,Xz,Qa,Qb,Qc,Qd,Qe,Qf,Qg,Qh,Qi,Qj,Qk,Ql,Qm,Qn,true_and,and_true,Qo,Qp,Qq,Qr,Qs,Qt,Qu,Qv,Qw,Qx,Qy,Qz,Ra,Rb,Rc,Rd,Re,Rf,Rg,Rh,Ri,Rj,Rk,Rm,Rn,Ro,Rp,Rq,Rs,Ya,Yb,Yc,Rt,Ru,Za,Yd,Ye,Rx,Ry,Rz,Wa,Wb,Wc,Wd]
 exact hK _ _ ((o5.trans (o59.mono o5.1)).set (by omega) _) ((r9.set (by omega) _).mono (by omega))
theorem aR(hE:GoodN E){vx vy:AV}{x y:Rat}{kx ky:Nat}(hx:QI s vx x kx)(hy:QI s vy y ky)(hkx:1≤kx)(hky:1≤ky)(hk:kx+ky+1≤1000000000){K:AV→AD→Prop}(hK:∀s',Ac s.next s s'→K (iv (iS x y)) s'):WF E 26 [vx,vy] K s:=by
 have hqx:=hx.qh hkx
 have hqy:=hy.qh hky
 have hx0:=hx
 have hy0:=hy
 obtain⟨x1,a1,n1,c1,b1,m1,d1,ex⟩:=hx.shape
 obtain⟨x2,a2,n2,c2,b2,m2,d2,ey⟩:=hy.shape
 subst ex;subst ey
 refine hE.go iY (by decide) rfl ?_
 have zi:Ab Tryz.prog 3=some (R 3 0 false [iv 0],.ptr):=by kernel_rfl
 obtain⟨n3,o1,g1,g2,g3⟩:=Iu s (BQ x1 (.slice a1 n1 c1) (.slice b1 m1 d1)) (BQ x2 (.slice a2 n2 c2) (.slice b2 m2 d2)) (R 3 0 false [iv 0])
 have st:=B1 (P:=Tryz.prog) (t:=3) (o:=0) (v:=iv 0) S9 g3 (by simp) rfl
 simp only[pD]at st
 simp only[mf,cH,cI,Wz,Xg,zi,Xb,Aq,st,Xx,Xz,Qa,Qb,Qc,Qd,Qe,Qf,Qg,Qh,Qi,Qj,Qk,Ql,Qm,Qn,true_and,and_true,Qo,Qp,Qq,Qr,Qs,Qt,Qu,Qv,Qw,Qx,Qy,Qz,Ra,Rb,Rc,Rd,Re,Rf,Rg,Rh,Ri,Rj,Rk,Rm,Rn,Ro,Rp,Rq,Rs,Ya,Yb,Yc,Rt,Ru,Za,Yd,Ye,Rx,Ry,Rz,Wa,Wb,Wc,Wd]
 generalize newObj (newObj (newObj s (BQ x1 (.slice a1 n1 c1) (.slice b1 m1 d1))) (BQ x2 (.slice a2 n2 c2) (.slice b2 m2 d2))) (R 3 0 false [iv 0])=s0 at *
 generalize hs1:setObj s0 (s.next+2) (R 3 0 false [iv 0])=s1 at *
 have o1':Ac s.next s s1:=by rw[← hs1];exact o1.set (by omega) _
 have h1:s1.next=s.next+3:=by rw[← hs1];exact n3
 have k1:s1.heap.get s.next=some (BQ x1 (.slice a1 n1 c1) (.slice b1 m1 d1)):=by rw[← hs1,Ww _ (by omega)];exact g1
 have k2:s1.heap.get (s.next+1)=some (BQ x2 (.slice a2 n2 c2) (.slice b2 m2 d2)):=by rw[← hs1,Ww _ (by omega)];exact g2
 have k3:s1.heap.get (s.next+2)=some (R 3 0 false [iv 0]):=by rw[← hs1,Wv]
 have l1:=AE (P:=Tryz.prog) (t:=26) A9 Ar k1 rfl
 have l2:=AE (P:=Tryz.prog) (t:=26) A9 Ar k2 rfl
 simp only[cJ,l1,l2,pr,pC,Qa,Qb,Qc,Qd,Qe,Qf,Qg,Qh,Qi,Qj,Qk,Ql,Qm,Qn,true_and,and_true,Qo,Qp,Qq,Qr,Qs,Qt,Qu,Qv,Qw,Qx,Qy,Qz,Ra,Rb,Rc,Rd,Re,Rf,Rg,Rh,Ri,Rj,Rk,Rm,Rn,Ro,Rp,Rq,Rs,Ya,Yb,Yc,Rt,Ru,Za,Yd,Ye,Rx,Ry,Rz,Wa,Wb,Wc,Wd]
 refine Y8 hE (Z6 _ _ _) (hx0.old o1') (hy0.old o1') hkx hky hk fun s2 vx vy vd o2 rx ry rd=>?_
 have h2:=o2.1
 have e2:=Dd hqy.1 hqx.2
 rw[qJ ky kx]at e2
 have bx:=rx.bi (Dd hqx.1 hqy.2)
 have by':=ry.bi e2
 obtain⟨x3,a3,m3,c3,rfl⟩:=bx.shape
 obtain⟨x4,a4,m4,c4,rfl⟩:=by'.shape
 show WF E 65 [.agg [.bool x3,.slice a3 m3 c3],.agg [.bool x4,.slice a4 m4 c4],vd,.ptr (some (s.next+1+1,0)),.ptr (some (s.next,0))] _ s2
 refine hE.go i7 (by decide) rfl ?_
 obtain⟨n4,o3,g4,g5,g6⟩:=Iu s2 (BX x3 (.slice a3 m3 c3)) (BX x4 (.slice a4 m4 c4)) ZQ
 simp only[nM,eO,eP,eQ,Wz,Xg,BU,Xb,Aq,Qa,Qb,Qc,Qd,Qe,Qf,Qg,Qh,Qi,Qj,Qk,Ql,Qm,Qn,true_and,and_true,Qo,Qp,Qq,Qr,Qs,Qt,Qu,Qv,Qw,Qx,Qy,Qz,Ra,Rb,Rc,Rd,Re,Rf,Rg,Rh,Ri,Rj,Rk,Rm,Rn,Ro,Rp,Rq,Rs,Ya,Yb,Yc,Rt,Ru,Za,Yd,Ye,Rx,Ry,Rz,Wa,Wb,Wc,Wd]
 generalize newObj (newObj (newObj s2 (BX x3 (.slice a3 m3 c3))) (BX x4 (.slice a4 m4 c4))) ZQ=s3 at *
 have l3:=AE (P:=Tryz.prog) (t:=24) C6 CC g4 rfl
 have l4:=AE (P:=Tryz.prog) (t:=24) C6 CC g5 rfl
 simp only[l3,l4,Qa,Qb,Qc,Qd,Qe,Qf,Qg,Qh,Qi,Qj,Qk,Ql,Qm,Qn,true_and,and_true,Qo,Qp,Qq,Qr,Qs,Qt,Qu,Qv,Qw,Qx,Qy,Qz,Ra,Rb,Rc,Rd,Re,Rf,Rg,Rh,Ri,Rj,Rk,Rm,Rn,Ro,Rp,Rq,Rs,Ya,Yb,Yc,Rt,Ru,Za,Yd,Ye,Rx,Ry,Rz,Wa,Wb,Wc,Wd]
 refine ZU hE (bx.old o3) (by'.old o3) (by omega) (by omega) fun s4 o4=>?_
 have h4:=o4.1
 have o23:Ac s2.next s2 s4:=o3.trans (o4.mono o3.1)
 have p3:s4.heap.get (s.next+2)=some (R 3 0 false [iv 0]):=by rw[o23.2 _ (by omega),o2.2 _ (by omega)];exact k3
 have st5:=B1 (P:=Tryz.prog) (t:=3) (o:=0) (v:=iv (By (x.num * (y.den:Int) - y.num * (x.den:Int)))) S9 p3 (by simp) rfl
 simp only[pD]at st5
 generalize hs5:setObj s4 (s.next+2) (R 3 0 false [iv (By (x.num * (y.den:Int) - y.num * (x.den:Int)))])=s5 at *
 have p1:s5.heap.get s.next=some (BQ x1 (.slice a1 n1 c1) (.slice b1 m1 d1)):=by rw[← hs5,Ww _ (by omega),o23.2 _ (by omega),o2.2 _ (by omega)];exact k1
 have l5:=AE (P:=Tryz.prog) (t:=26) A9 Ar p1 rfl
 have p6:s5.heap.get (s2.next+1+1)=some ZQ:=by rw[← hs5,Ww _ (by omega),o4.2 _ (by omega)];exact g6
 obtain⟨st6,ld6⟩:=BS (cs0:=[.bool false,.slice none 0 (some 0),.slice none 0 (some 0)]) rfl (x:=x1) (a:=a1) (n:=n1) (c:=c1) (b:=b1) (m:=m1) (d:=d1) p6
 have n5:s5.next=s4.next:=by rw[← hs5];rfl
 simp only[st5,l5,st6,ld6,AL,Xx,Xz,Qa,Qb,Qc,Qd,Qe,Qf,Qg,Qh,Qi,Qj,Qk,Ql,Qm,Qn,true_and,and_true,Qo,Qp,Qq,Qr,Qs,Qt,Qu,Qv,Qw,Qx,Qy,Qz,Ra,Rb,Rc,Rd,Re,Rf,Rg,Rh,Ri,Rj,Rk,Rm,Rn,Ro,Rp,Rq,Rs,Ya,Yb,Yc,Rt,Ru,Za,Yd,Ye,Rx,Ry,Rz,Wa,Wb,Wc,Wd]
 refine⟨_,rfl,rfl,rfl,fun j hj1 hj2=>?_,fun s6 n6 f6=>?_⟩
 ·rw[Ww _ (by omega),← hs5,Ww _ (by omega),o23.2 _ (by omega)]
 ·have p7:s6.heap.get (s.next+2)=some (R 3 0 false [iv (By (x.num * (y.den:Int) - y.num * (x.den:Int)))]):=by
   rw[f6 _ (.inl (by omega)),Ww _ (by omega),← hs5,Wv]
  have l7:=AX (P:=Tryz.prog) (t:=3) (o:=0) j4 p7 rfl
  have n6':s6.next=s4.next:=n6.trans n5
  simp only[cK,l7,Qa,Qb,Qc,Qd,Qe,Qf,Qg,Qh,Qi,Qj,Qk,Ql,Qm,Qn,true_and,and_true,Qo,Qp,Qq,Qr,Qs,Qt,Qu,Qv,Qw,Qx,Qy,Qz,Ra,Rb,Rc,Rd,Re,Rf,Rg,Rh,Ri,Rj,Rk,Rm,Rn,Ro,Rp,Rq,Rs,Ya,Yb,Yc,Rt,Ru,Za,Yd,Ye,Rx,Ry,Rz,Wa,Wb,Wc,Wd]
  refine hK s6 ⟨by omega,fun j hj=>?_⟩
  rw[f6 j (.inl (by omega)),Ww _ (by omega),← hs5,Ww _ (by omega),o23.2 _ (by omega),o2.2 _ (by omega),o1'.2 j hj]
end
section
variable{P:Program}{ρ ρ1 ρ2:BA}{s s1 s2:AD}{w w0 w1 w2:World}
theorem BE.addRow  (h : BE  P ρ s w) (hf : Ax     ρ s) {r : DN}   {rb : RB} (hok : CI    (Bn     ρ s.next rb) w r rb) (hlt : rb.b < w.heap.size) (hne : ∀ j oj rj, s.heap.get j = some oj → ρ j = some rj → rj.b ≠ rb.b) : BE  P (Bn     ρ s.next rb) (newObj s (.row r)) w := by
  have hfn:=(hf s.next (nl _)).1
  have hle:=BJ (rb:=rb) hfn
  refine⟨?_,?_,?_,?_⟩
  · intro x ox rx hx hrx
    rw[Aw]at hx
    by_cases e:x=s.next
    · subst e
      rw[if_pos rfl]at hx
      injection hx with hx
      rw[AY]at hrx
      injection hrx with hrx
      subst hx;subst hrx
      exact hok
    · rw [if_neg e] at hx
      rw[AQ rb e]at hrx
      exact(h.obj x ox rx hx hrx).mono hle rfl
  · intro x rx hrx
    by_cases e:x=s.next
    · subst e
      rw[AY]at hrx
      injection hrx with hrx
      subst hrx
      exact hlt
    · rw[AQ rb e]at hrx
      exact h.lt x rx hrx
  · intro x y ox oy rx ry hxy hx hy hrx hry hbb hw
    rw[Aw]at hx hy
    by_cases ex:x=s.next
    · subst ex
      have ey:y≠s.next:=fun e=>hxy e.symm
      rw[AY]at hrx
      injection hrx with hrx
      subst hrx
      rw[if_neg ey]at hy
      rw[AQ rb ey]at hry
      exact absurd hbb.symm (hne y oy ry hy hry)
    · by_cases ey : y = s.next
      · subst ey
        rw[AY]at hry
        injection hry with hry
        subst hry
        rw[if_neg ex]at hx
        rw[AQ rb ex]at hrx
        exact absurd hbb (hne x ox rx hx hrx)
      · rw [if_neg ex] at hx
        rw[if_neg ey]at hy
        rw[AQ rb ex]at hrx
        rw[AQ rb ey]at hry
        exact h.sep x y ox oy rx ry hxy hx hy hrx hry hbb hw
  · intro x ox g hx hgo
    rw[Aw]at hx
    by_cases e:x=s.next
    · subst e;exact⟨_,AY _ _⟩
    · rw[if_neg e]at hx
      obtain⟨r',hr'⟩:=h.glb x ox g hx hgo
      exact⟨r',hle _ _ hr'⟩
theorem Fr.addRow(h:Fr ρ s w0 ρ1 s1 w)(hf:Ax ρ1 s1){r:DN}{rb:RB}(hge:w0.heap.size≤rb.b):Fr ρ s w0 (Bn ρ1 s1.next rb) (newObj s1 (.row r)) w:=by
  have hfn:=(hf s1.next (nl _)).1
  have hle:=BJ (rb:=rb) hfn
  have hn:=h.next
  refine⟨BA.le_trans h.le hle,?_,by show s.next≤s1.next+1;omega,h.size,h.os,h.tape,h.output,h.keep,?_,?_⟩
  · intro x hx hxr
    have hxr':x<s.next∨s1.next+1≤x:=hxr
    have:x≠s1.next:=by omega
    rw[AQ rb this]
    exact h.fresh x hx (by omega)
  · rintro b ⟨x, ox, rx, hx, hw, hrx, rfl⟩
    rw[Aw]at hx
    by_cases e:x=s1.next
    · subst e
      rw[AY]at hrx
      injection hrx with hrx
      subst hrx
      exact .inr hge
    · rw [if_neg e] at hx
      rw[AQ rb e]at hrx
      exact h.own _ ⟨x,ox,rx,hx,hw,hrx,rfl⟩
  · intro x hx hxr
    have hxr':x<s.next∨s1.next+1≤x:=hxr
    rw[Aw,if_neg (by omega)]
    exact h.unborn x hx (by omega)
def jm(l:List Nat):DN:={ elem:=76,sz:=1,n:=l.length,c:=AS.fill .leaf 0 (us l),spare:=true,mode:=.own,par:=none,bytes:=false }
def HX(s:AD):List Nat→AV×AD
 | []=>(.slice none 0 (some 0),s)
 | x::l=>(.slice (some (s.next,0)) (x::l).length none,newObj s (.row (jm (x::l))))
def J2(b:Nat)(s:AD)(v:AV)(l:List Nat):Prop:=
 (l=[]∧v=.slice none 0 (some 0))∨(l≠[]∧∃i,v=.slice (some (i,0)) l.length none∧b≤i∧∃r,s.heap.get i=some (.row r)∧Jy r (us l)∧Db r.mode=true∧r.sz=1∧r.elem=76)
theorem Z8{l:List Nat}{k:Nat}{v:AV}(h:(us l)[k]? = some v):L6 v=true:=by
 have:(l.map Bf)[k]? = some v:=h
 rw[pH]at this
 obtain⟨x,_,rfl⟩:=Option.map_eq_some_iff.1 this
 rfl
theorem LF       {ρ' : BA}  {s' : AD}  {b : Nat} {v : AV} {l : List Nat} {v' : Value} (hs : J2    b s' v l) (h' : BE  P ρ' s' w) (hv : AW   ρ' v v')
    (hge:∀i o rb,b≤i→s'.heap.get i=some o→wr o=true→ρ' i=some rb→w0.heap.size≤rb.b)
    (h1:BE P ρ1 s1 w) (hf1:Ax ρ1 s1) (hfr:Fr ρ s w0 ρ1 s1 w) (hne:∀i rb,Cd v=some i→ρ' i=some rb→∀j oj rj,s1.heap.get j=some oj→ρ1 j=some rj→rj.b≠rb.b):
    ∃ρ2,BE P ρ2 (HX s1 l).2 w∧Ax ρ2 (HX s1 l).2∧Fr ρ s w0 ρ2 (HX s1 l).2 w∧ρ1.le ρ2∧AW ρ2 (HX s1 l).1 v' ∧
      (∀j oj rj,(HX s1 l).2.heap.get j=some oj→ρ2 j=some rj→(∃o1,s1.heap.get j=some o1∧ρ1 j=some rj)∨∃i rb,Cd v=some i∧ρ' i=some rb∧rj.b=rb.b):=by
  rcases hs with⟨rfl,rfl⟩ | ⟨hl,i,rfl,hbi,r,hg,hh,hm,hsz,hel⟩
  · refine⟨ρ1,h1,hf1,hfr,BA.le_refl _,EV rfl hv,fun j oj rj hj hr=>.inl ⟨oj,hj,hr⟩⟩
  · cases l with
    | nil=>exact absurd rfl hl
    | cons x l =>
      cases hv with
      | @sliceOpen _ _ _ c rb hr q1 q2 q3 q4 =>
        have hok:CI ρ' w r rb:=h'.obj i _ rb hg hr
        have hrn:r.n=(x::l).length:=by rw[hh.1,Cl]
        have hmo:r.mode≠.ro:=fun e=>by rw[e]at hm;cases hm
        obtain⟨cs,k1,k2⟩:=hok.own hmo
        have hno:∀ (σ:BA),CI σ w (jm (x::l)) rb:=fun σ=>by
          refine⟨fun k u hk hu=>?_,by show(x::l).length≤_;rw[← hrn];exact hok.le,by show 1=_;rw[← hsz];exact hok.sz,fun e=>(by cases e),fun _=>⟨cs,by show _=some (Obj.cells cs 76 (0,0));rw[← hel];exact k1,k2⟩,fun e=>(by cases e),fun g e=>(by cases e),fun p e=>(by cases e)⟩
          have hk':k<(x::l).length:=hk
          have hu':(us (x::l))[k]? = some u:=by
            have:(AS.fill .leaf 0 (us (x::l))).get k=some u:=hu
            rw[AS.get_fill,if_pos ⟨oB _,by rw[Cl];omega⟩]at this
            simpa using this
          obtain⟨v',e1,e2⟩:=hok.cells k u (by omega) (hh.2 k u hu')
          exact⟨v',e1,EV (Z8 hu') e2⟩
        have hlt:=h'.lt i rb hr
        refine⟨Bn ρ1 s1.next rb,h1.addRow hf1 (hno _) hlt (hne i rb rfl hr),hf1.new _ _,hfr.addRow hf1 (hge i _ rb hbi hg hm hr),BJ (hf1 s1.next (nl _)).1,.sliceOpen (AY _ _) q1 q2 q3 q4,fun j oj rj hj hr2=>?_⟩
        have hj':(newObj s1 (.row (jm (x::l)))).heap.get j=some oj:=hj
        rw[Aw]at hj'
        by_cases e:j=s1.next
        · subst e
          rw[AY]at hr2
          injection hr2 with hr2
          exact .inr ⟨i,rb,rfl,hr,by rw[← hr2]⟩
        · rw [if_neg e] at hj'
          rw[AQ rb e]at hr2
          exact .inl ⟨oj,hj',hr2⟩
end
end
end Go.Proofs.YtjnkfbpadpmakaaGreatDoor.Am
set_option linter.unusedVariables false
set_option linter.unusedSimpArgs false
set_option maxRecDepth 100000
namespace Go.Proofs.YtjnkfbpadpmakaaGreatDoor.Am
open Go Go.Proofs
noncomputable section
theorem Cs:A3 Tryz.prog 30=some 5:=by kernel_rfl
theorem DD:De Tryz.prog 30=some true:=by kernel_rfl
theorem QO(i o:Nat):AH Tryz.prog 30 (.ptr (some (i,o))) 0=some (.ptr (some (i,o+0))):=by kernel_rfl
theorem Ij(i o:Nat):AH Tryz.prog 30 (.ptr (some (i,o))) 1=some (.ptr (some (i,o+3))):=by kernel_rfl
theorem HL(i o:Nat):AH Tryz.prog 30 (.ptr (some (i,o))) 2=some (.ptr (some (i,o+4))):=by kernel_rfl
theorem Hh:A3 Tryz.prog 56=some 4:=by kernel_rfl
theorem J5:De Tryz.prog 56=some true:=by kernel_rfl
theorem M8(i o:Nat):AH Tryz.prog 56 (.ptr (some (i,o))) 0=some (.ptr (some (i,o+0))):=by kernel_rfl
theorem Ik(i o:Nat):AH Tryz.prog 56 (.ptr (some (i,o))) 1=some (.ptr (some (i,o+3))):=by kernel_rfl
theorem Pn:De Tryz.prog 54=some false:=by kernel_rfl
theorem mS:A3 Tryz.prog 27=some 1:=by kernel_rfl
theorem Nw:De Tryz.prog 27=some false:=by kernel_rfl
def eH:List AA:=[
 ⟨none,.mk (fun l=>match l with | []=>Ab Tryz.prog 56 | _=>none),[],(.set 0),[]⟩]
def eI:List AA:=[
 ⟨none,.call 72,[],.push,[]⟩,
 ⟨none,.mk (fun l=>match l with | []=>(Iq Tryz.prog 54).bind fun kt=>some (.map kt [],.map) | _=>none),[],.push,[]⟩,
 ⟨none,.p (fun l=>Cz Tryz.prog 56 (zipIdx [0,1] l)),[.loc 1,.loc 0],.push,[]⟩,
 ⟨none,.e (fun s=>Xx (fun a x=>Xz (AK Tryz.prog s 56 a x))),[.var 0,.loc 0],.push,[]⟩]
def nJ:Ao:=⟨0,1,(.seq (.ops eH) (.seq (.ops eI) .ret)),[((.var 0),some 56)]⟩
def fM:List AA:=[
 ⟨none,.mk (fun l=>match l with | []=>Ab Tryz.prog 26 | _=>none),[],(.set 0),[]⟩]
def fN:List AA:=[
 ⟨none,.call 52,[(.const (.int .i64 (0)))],.push,[]⟩,
 ⟨none,.e (fun s=>Xx (fun a x=>Xz (AK Tryz.prog s 26 a x))),[.var 0,.loc 0],.push,[]⟩]
def nT:Ao:=⟨0,1,(.seq (.ops fM) (.seq (.ops fN) .ret)),[((.var 0),some 26)]⟩
def eJ:List AA:=[
 ⟨none,.mk (fun l=>match l with | [v]=>Be 56 v | _=>none),[.var 0],(.set 3),[]⟩]
def eK:List AA:=[
 ⟨none,.p1 (fun x=>AH Tryz.prog 56 x 1),[.var 3],.push,[]⟩,
 ⟨none,.r1 (fun s a=>AC Tryz.prog s 54 a),[.loc 0],.push,[]⟩,
 ⟨none,.r (fun s=>Xx (fun m k=>Cr Tryz.prog s 54 m k true)),[.loc 0,.var 1],.push,[]⟩,
 ⟨none,.p1 (fun x=>Za x 0),[.loc 0],.push,[]⟩,
 ⟨none,.p1 (fun x=>Za x 1),[.loc 1],.push,[]⟩,
 ⟨none,.mk (fun l=>match l with | []=>Ab Tryz.prog 26 | _=>none),[],(.set 4),[]⟩,
 ⟨none,.e (fun s=>Xx (fun a x=>Xz (AK Tryz.prog s 26 a x))),[.var 4,.loc 1],.push,[]⟩,
 ⟨none,.p1 some,[.loc 1],(.set 5),[]⟩]
def Wq:List AA:=[
 ⟨none,.p1 (UH Tryz.prog Go.UnOp.not),[.var 5],(.set 6),[]⟩]
def eL:List AA:=[
 ⟨none,.call 72,[],.push,[]⟩,
 ⟨none,.e (fun s=>Xx (fun a x=>Xz (AK Tryz.prog s 26 a x))),[.var 4,.loc 0],.push,[]⟩]
def Ws:List AA:=[
 ⟨none,.p1 (fun x=>AH Tryz.prog 56 x 1),[.var 3],.push,[]⟩,
 ⟨none,.r1 (fun s a=>AC Tryz.prog s 54 a),[.loc 0],.push,[]⟩,
 ⟨none,.r1 (fun s a=>AC Tryz.prog s 26 a),[.var 4],.push,[]⟩,
 ⟨none,.callv,[.var 2,.loc 0],.push,[⟨none,.r1 (fun s a=>AC Tryz.prog s 54 a),[.loc 3],(.loc 2)⟩]⟩,
 ⟨none,.e (fun s=>Xy (fun m k x=>Xz (Gx Tryz.prog s 54 m k x))),[.loc 2,.var 1,.loc 0],.push,[]⟩]
def nK:Ao:=⟨3,7,(.seq (.ops eJ) (.seq (.ops eK) (.seq (.seq (.ops Wq) (.cond (.var 6)
 (.ops eL)
 .skip)) (.ops Ws)))),[]⟩
def dD:List AA:=[
 ⟨none,.mk (fun l=>match l with | [v]=>Be 30 v | _=>none),[.var 1],(.set 3),[]⟩,
 ⟨none,.mk (fun l=>match l with | [v]=>Be 26 v | _=>none),[.var 2],(.set 4),[]⟩]
def dE:List AA:=[
 ⟨none,.p1 Dp,[.var 0],.push,[]⟩,
 ⟨none,.p1 (fun x=>AH Tryz.prog 56 x 0),[.loc 0],.push,[]⟩,
 ⟨none,.r1 (fun s a=>AC Tryz.prog s 26 a),[.loc 0],.push,[]⟩,
 ⟨none,.p1 (fun x=>AH Tryz.prog 30 x 0),[.var 3],.push,[]⟩,
 ⟨none,.r1 (fun s a=>AC Tryz.prog s 26 a),[.loc 0],.push,[]⟩,
 ⟨none,.r1 (fun s a=>AC Tryz.prog s 26 a),[.var 4],.push,[]⟩,
 ⟨none,.call 29,[.loc 1,.loc 0],.push,[⟨none,.r1 (fun s a=>AC Tryz.prog s 26 a),[.loc 5],(.loc 4)⟩]⟩,
 ⟨none,.call 27,[.loc 4,.loc 0],.push,[]⟩,
 ⟨none,.p1 Dp,[.var 0],.push,[]⟩,
 ⟨none,.p1 (fun x=>AH Tryz.prog 56 x 0),[.loc 0],.push,[]⟩,
 ⟨none,.e (fun s=>Xx (fun a x=>Xz (AK Tryz.prog s 26 a x))),[.loc 0,.loc 2],.push,[]⟩]
def dF:List AA:=[
 ⟨none,.p1 (fun x=>AH Tryz.prog 30 x 2),[.var 3],.push,[]⟩,
 ⟨none,.r1 (fun s a=>AC Tryz.prog s 28 a),[.loc 0],.push,[]⟩,
 ⟨none,.p1 (fun x=>AH Tryz.prog 30 x 2),[.var 3],.push,[]⟩,
 ⟨none,.r1 (fun s a=>AC Tryz.prog s 28 a),[.loc 0],.push,[]⟩,
 ⟨none,.r (fun s l=>match l with | [x]=>BZ Tryz.prog s 28 x | _=>none),[.loc 0],.push,[]⟩,
 ⟨none,.p1 (fun x=>AH Tryz.prog 30 x 1),[.var 3],.push,[]⟩,
 ⟨none,.r1 (fun s a=>AC Tryz.prog s 27 a),[.loc 0],.push,[]⟩,
 ⟨none,.r (fun s l=>match l with | [x]=>BZ Tryz.prog s 27 x | _=>none),[.loc 0],.push,[]⟩,
 ⟨none,.p (fun l=>match l with | v::l=>B3 false v l | []=>none),[.loc 3,.loc 0],.push,[]⟩,
 ⟨none,.r (A4 Tryz.prog 28 false true false),[.loc 7,.loc 0],(.set 7),[]⟩,
 ⟨none,.r (fun s l=>match l with | [x]=>BZ Tryz.prog s 28 x | _=>none),[.var 7],(.set 8),[]⟩,
 ⟨none,.p1 some,[(.const (.int .i64 (0)))],(.set 9),[]⟩]
def V8:List AA:=[
 ⟨none,.p2 (AT Tryz.prog .lss 3),[.var 9,.var 8],(.set 10),[]⟩]
def dG:List AA:=[
 ⟨none,.p2 (AM Tryz.prog 28),[.var 7,.var 9],.push,[]⟩,
 ⟨none,.r1 (fun s a=>AC Tryz.prog s 26 a),[.loc 0],.push,[]⟩,
 ⟨none,.mk (fun l=>match l with | []=>Ab Tryz.prog 26 | _=>none),[],(.set 6),[]⟩,
 ⟨none,.p1 some,[.var 9],(.set 5),[]⟩,
 ⟨none,.e (fun s=>Xx (fun a x=>Xz (AK Tryz.prog s 26 a x))),[.var 6,.loc 0],.push,[]⟩]
def dH:List AA:=[
 ⟨none,.p1 Dp,[.var 0],.push,[]⟩,
 ⟨none,.r1 (fun s a=>AC Tryz.prog s 56 a),[.loc 0],.push,[]⟩,
 ⟨none,.p1 (fun x=>AH Tryz.prog 30 x 1),[.var 3],.push,[]⟩,
 ⟨none,.r1 (fun s a=>AC Tryz.prog s 27 a),[.loc 0],.push,[]⟩,
 ⟨none,.p2 (AM Tryz.prog 27),[.loc 0,.var 5],.push,[]⟩,
 ⟨none,.r1 (fun s a=>AC Tryz.prog s 3 a),[.loc 0],.push,[]⟩,
 ⟨none,.p (fun l=>some (.func 73 (l.take 0) (l.drop 0))),[.var 6,.var 4],.push,[]⟩,
 ⟨none,.call 62,[.loc 5,.loc 1,.loc 0],.push,[]⟩]
def dI:List AA:=[
 ⟨none,.p2 (AT Tryz.prog .add 3),[(.var 9),(.const (.int .i64 (1)))],.push,[]⟩,
 ⟨none,.p1 some,[.loc 0],(.set 9),[]⟩]
def OE:Af:=(.seq (.ops V8) (.seq (.cond (.var 10)
 .skip
 (.exit 0)) (.seq (.block 1 (.seq (.ops dG) (.ops dH))) (.ops dI))))
def mu:Ao:=⟨3,11,(.seq (.ops dD) (.seq (.ops dE) (.seq (.ops dF) (.block 0 (.loop OE))))),[]⟩
def fO:List AA:=[
 ⟨none,.mk (fun l=>match l with | [v]=>Be 26 v | _=>none),[.var 0],(.set 3),[]⟩,
 ⟨none,.mk (fun l=>match l with | []=>Ab Tryz.prog 26 | _=>none),[],(.set 4),[]⟩]
def fP:List AA:=[
 ⟨none,.r1 (fun s a=>AC Tryz.prog s 26 a),[.var 3],.push,[]⟩,
 ⟨none,.r1 (fun s a=>AC Tryz.prog s 26 a),[.var 1],.push,[]⟩,
 ⟨none,.r1 (fun s a=>AC Tryz.prog s 26 a),[.var 2],.push,[]⟩,
 ⟨none,.call 29,[.loc 1,.loc 0],.push,[⟨none,.r1 (fun s a=>AC Tryz.prog s 26 a),[.var 3],(.loc 3)⟩]⟩,
 ⟨none,.call 27,[.loc 3,.loc 0],.push,[]⟩,
 ⟨none,.e (fun s=>Xx (fun a x=>Xz (AK Tryz.prog s 26 a x))),[.var 4,.loc 0],.push,[]⟩]
def nU:Ao:=⟨3,5,(.seq (.ops fO) (.seq (.ops fP) .ret)),[((.var 4),some 26)]⟩
def cZ:List AA:=[
 ⟨none,.mk (fun l=>match l with | [v]=>Be 30 v | _=>none),[.var 0],(.set 1),[]⟩,
 ⟨none,.mk (fun l=>match l with | []=>Ab Tryz.prog 56 | _=>none),[],(.set 2),[]⟩]
def ce:List AA:=[
 ⟨none,.call 61,[],.push,[]⟩,
 ⟨none,.mk (fun l=>match l with | []=>Ab Tryz.prog 56 | _=>none),[],(.set 3),[]⟩,
 ⟨none,.e (fun s=>Xx (fun a x=>Xz (AK Tryz.prog s 56 a x))),[.var 3,.loc 0],.push,[]⟩]
def cg:List AA:=[
 ⟨none,.r1 (fun s a=>AC Tryz.prog s 30 a),[.var 1],.push,[]⟩,
 ⟨none,.call 52,[(.const (.int .i64 (1)))],.push,[⟨none,.r1 (fun s a=>AC Tryz.prog s 30 a),[.var 1],(.loc 1)⟩]⟩,
 ⟨none,.call 34,[.var 3,.loc 1,.loc 0],.push,[]⟩]
def ck:List AA:=[
 ⟨none,.r1 (fun s a=>AC Tryz.prog s 56 a),[.var 3],.push,[]⟩,
 ⟨none,.e (fun s=>Xx (fun a x=>Xz (AK Tryz.prog s 56 a x))),[.var 2,.loc 0],.push,[]⟩]
def ms:Ao:=⟨1,4,(.seq (.ops cZ) (.seq (.ops ce) (.seq (.ops cg) (.seq (.ops ck) .ret)))),[((.var 2),some 56)]⟩
def cl:List AA:=[
 ⟨none,.mk (fun l=>match l with | [v]=>Be 56 v | _=>none),[.var 0],(.set 1),[]⟩,
 ⟨none,.mk (fun l=>match l with | []=>Ab Tryz.prog 30 | _=>none),[],(.set 2),[]⟩]
def cn:List AA:=[
 ⟨none,.p1 (fun x=>AH Tryz.prog 56 x 0),[.var 1],.push,[]⟩,
 ⟨none,.r1 (fun s a=>AC Tryz.prog s 26 a),[.loc 0],.push,[]⟩,
 ⟨none,.p1 (fun x=>AH Tryz.prog 30 x 0),[.var 2],.push,[]⟩,
 ⟨none,.e (fun s=>Xx (fun a x=>Xz (AK Tryz.prog s 26 a x))),[.loc 0,.loc 1],.push,[]⟩]
def cy:List AA:=[
 ⟨none,.r1 (fun s a=>AC Tryz.prog s 56 a),[.var 1],.push,[]⟩,
 ⟨none,.call 41,[.loc 0],(.set 5),[]⟩]
def cz:List AA:=[
 ⟨none,.p1 some,[.var 6],(.set 3),[]⟩]
def dA:List AA:=[
 ⟨none,.mk (fun l=>match l with | []=>Ab Tryz.prog 26 | _=>none),[],(.set 4),[]⟩,
 ⟨none,.e (fun s=>Xx (fun a x=>Xz (AK Tryz.prog s 26 a x))),[.var 4,.var 7],.push,[]⟩]
def dB:List AA:=[
 ⟨none,.p1 (fun x=>AH Tryz.prog 30 x 1),[.var 2],.push,[]⟩,
 ⟨none,.r1 (fun s a=>AC Tryz.prog s 27 a),[.loc 0],.push,[]⟩,
 ⟨none,.mk (fun l=>(Ad Tryz.prog 27 1 (zipIdx [0] l)).bind fun r=>some (r,.slice 1)),[.var 3],.push,[]⟩,
 ⟨none,.p1 (fun x=>AH Tryz.prog 30 x 2),[.var 2],.push,[]⟩,
 ⟨none,.r1 (fun s a=>AC Tryz.prog s 28 a),[.loc 0],.push,[]⟩,
 ⟨none,.r1 (fun s a=>AC Tryz.prog s 26 a),[.var 4],.push,[]⟩,
 ⟨none,.mk (fun l=>(Ad Tryz.prog 28 1 (zipIdx [0] l)).bind fun r=>some (r,.slice 1)),[.loc 0],.push,[]⟩,
 ⟨none,.e (fun s l=>Av Tryz.prog s [27,27] l),[.loc 5,.loc 4],.push,[⟨none,.r1 (fun s a=>AC Tryz.prog s 26 a),[.var 4],(.loc 2)⟩,⟨none,.r1 (fun s a=>AC Tryz.prog s 28 a),[.loc 4],(.loc 3)⟩]⟩,
 ⟨none,.p1 (fun x=>AH Tryz.prog 30 x 1),[.var 2],.push,[]⟩,
 ⟨none,.e (fun s l=>Av Tryz.prog s [28,28] l),[.loc 4,.loc 2],.push,[]⟩,
 ⟨none,.e (fun s=>Xx (fun a x=>Xz (AK Tryz.prog s 27 a x))),[.loc 1,.loc 2],.push,[]⟩,
 ⟨none,.p1 (fun x=>AH Tryz.prog 30 x 2),[.var 2],.push,[]⟩,
 ⟨none,.e (fun s=>Xx (fun a x=>Xz (AK Tryz.prog s 28 a x))),[.loc 0,.loc 2],.push,[]⟩]
def V5:Af:=(.seq (.ops cz) (.ops dA))
def V6:Af:=(.block 1 (.ops dB))
def V3:Code:=(E0 33 0).1
def V4:Code:=(E0 33 0).2
theorem iM:Di Tryz.prog 33 V3=some V5:=by kernel_rfl
theorem iN:Di Tryz.prog 33 V4=some V6:=by kernel_rfl
theorem V7:C3 Tryz.prog 33=[0,1,2,3,4,9,10,11]:=by kernel_rfl
def dC:List AA:=[
 ⟨none,.r1 (fun s a=>AC Tryz.prog s 30 a),[.var 2],.push,[]⟩,
 ⟨none,.e (fun s=>Xx (fun a x=>Xz (AK Tryz.prog s 30 a x))),[.var 2,.loc 0],.push,[]⟩]
def mt:Ao:=⟨1,8,(.seq (.ops cl) (.seq (.ops cn) (.seq (.seq (.ops cy) (.block 0 (.rangeFunc 33 (.var 5) #[10,11] V3 V4))) (.seq (.ops dC) .ret)))),[((.var 2),some 30)]⟩
def dJ:List AA:=[
 ⟨none,.mk (fun l=>match l with | [v]=>Be 56 v | _=>none),[.var 0],(.set 1),[]⟩,
 ⟨none,.p1 some,[(.const .nilFunc)],(.set 2),[]⟩]
def dK:List AA:=[
 ⟨none,.p (fun l=>some (.func 77 (l.take 0) (l.drop 0))),[.var 1],.push,[]⟩,
 ⟨none,.p1 some,[.loc 0],(.set 2),[]⟩]
def my:Ao:=⟨1,3,(.seq (.ops dJ) (.seq (.ops dK) .ret)),[((.var 2),none)]⟩
def fQ:List AA:=[
 ⟨none,.p1 (fun x=>AH Tryz.prog 56 x 1),[.var 1],.push,[]⟩,
 ⟨none,.r1 (fun s a=>AC Tryz.prog s 54 a),[.loc 0],.push,[]⟩,
 ⟨none,.call 79,[.loc 0],.push,[]⟩,
 ⟨none,.call 78,[.loc 0],(.set 4),[]⟩,
 ⟨none,.r (fun s l=>match l with | [x]=>BZ Tryz.prog s 27 x | _=>none),[.var 4],(.set 5),[]⟩,
 ⟨none,.p1 some,[(.const (.int .i64 (0)))],(.set 6),[]⟩]
def W6:List AA:=[
 ⟨none,.p2 (AT Tryz.prog .lss 3),[.var 6,.var 5],(.set 7),[]⟩]
def fR:List AA:=[
 ⟨none,.p2 (AM Tryz.prog 27),[.var 4,.var 6],.push,[]⟩,
 ⟨none,.r1 (fun s a=>AC Tryz.prog s 3 a),[.loc 0],.push,[]⟩,
 ⟨none,.p1 some,[.loc 0],(.set 2),[]⟩]
def fS:List AA:=[
 ⟨none,.p1 (fun x=>AH Tryz.prog 56 x 1),[.var 1],.push,[]⟩,
 ⟨none,.r1 (fun s a=>AC Tryz.prog s 54 a),[.loc 0],.push,[]⟩,
 ⟨none,.r (fun s=>Xx (fun m k=>Cr Tryz.prog s 54 m k false)),[.loc 0,.var 2],.push,[]⟩,
 ⟨none,.mk (fun l=>match l with | []=>Ab Tryz.prog 26 | _=>none),[],(.set 3),[]⟩,
 ⟨none,.e (fun s=>Xx (fun a x=>Xz (AK Tryz.prog s 26 a x))),[.var 3,.loc 0],.push,[]⟩]
def fT:List AA:=[
 ⟨none,.r1 (fun s a=>AC Tryz.prog s 26 a),[.var 3],.push,[]⟩,
 ⟨none,.call 53,[.loc 0],.push,[]⟩,
 ⟨none,.p2 (AT Tryz.prog .neq 3),[(.loc 0),(.const (.int .i64 (0)))],.push,[]⟩,
 ⟨(some ((.loc 0),true)),.p1 some,[.var 0],.push,[]⟩,
 ⟨(some ((.loc 1),true)),.p1 some,[.var 2],.push,[]⟩,
 ⟨(some ((.loc 2),true)),.r1 (fun s a=>AC Tryz.prog s 26 a),[.var 3],.push,[]⟩,
 ⟨(some ((.loc 3),true)),.callv,[.loc 2,.loc 1,.loc 0],.push,[]⟩,
 ⟨(some ((.loc 4),true)),.p1 (UH Tryz.prog Go.UnOp.not),[.loc 0],.push,[]⟩,
 ⟨none,.p Rt,[(.loc 5),(.loc 0),(.const (.bool false))],(.set 8),[]⟩]
def W7:List AA:=[
 ⟨none,.p2 (AT Tryz.prog .add 3),[(.var 6),(.const (.int .i64 (1)))],.push,[]⟩,
 ⟨none,.p1 some,[.loc 0],(.set 6),[]⟩]
def JB:Af:=(.seq (.ops W6) (.seq (.cond (.var 7)
 .skip
 (.exit 0)) (.seq (.block 1 (.seq (.ops fR) (.seq (.ops fS) (.seq (.ops fT) (.cond (.var 8)
 .ret
 .skip))))) (.ops W7))))
def nW:Ao:=⟨2,9,(.seq (.ops fQ) (.block 0 (.loop JB))),[]⟩
def cT:List AA:=[
 ⟨none,.mk (fun l=>match l with | []=>Ab Tryz.prog 30 | _=>none),[],(.set 1),[]⟩]
def cU:List AA:=[
 ⟨none,.call 72,[],.push,[]⟩,
 ⟨none,.mk (fun l=>(Ad Tryz.prog 27 1 (zipIdx [0] l)).bind fun r=>some (r,.slice 1)),[.var 0],.push,[]⟩,
 ⟨none,.call 52,[(.const (.int .i64 (1)))],.push,[]⟩,
 ⟨none,.mk (fun l=>(Ad Tryz.prog 28 1 (zipIdx [0] l)).bind fun r=>some (r,.slice 1)),[.loc 0],.push,[]⟩,
 ⟨none,.p (fun l=>Cz Tryz.prog 30 (zipIdx [0,1,2] l)),[.loc 3,.loc 2,.loc 0],.push,[]⟩,
 ⟨none,.e (fun s=>Xx (fun a x=>Xz (AK Tryz.prog s 30 a x))),[.var 1,.loc 0],.push,[]⟩]
def mo:Ao:=⟨1,2,(.seq (.ops cT) (.seq (.ops cU) .ret)),[((.var 1),some 30)]⟩
def bX:List AA:=[
 ⟨none,.mk (fun l=>match l with | []=>Ab Tryz.prog 30 | _=>none),[],(.set 1),[]⟩]
def bY:List AA:=[
 ⟨none,.call 61,[],.push,[]⟩,
 ⟨none,.mk (fun l=>match l with | []=>Ab Tryz.prog 56 | _=>none),[],(.set 2),[]⟩,
 ⟨none,.e (fun s=>Xx (fun a x=>Xz (AK Tryz.prog s 56 a x))),[.var 2,.loc 0],.push,[]⟩]
def bZ:List AA:=[
 ⟨none,.p1 some,[.var 0],(.set 4),[]⟩,
 ⟨none,.r (fun s l=>match l with | [x]=>BZ Tryz.prog s 46 x | _=>none),[.var 4],(.set 5),[]⟩,
 ⟨none,.p1 some,[(.const (.int .i64 (0)))],(.set 6),[]⟩]
def V2:List AA:=[
 ⟨none,.p2 (AT Tryz.prog .lss 3),[.var 6,.var 5],(.set 7),[]⟩]
def bh:List AA:=[
 ⟨none,.p2 (AM Tryz.prog 46),[.var 4,.var 6],.push,[]⟩,
 ⟨none,.r1 (fun s a=>AC Tryz.prog s 30 a),[.loc 0],.push,[]⟩,
 ⟨none,.mk (fun l=>match l with | []=>Ab Tryz.prog 30 | _=>none),[],(.set 3),[]⟩,
 ⟨none,.e (fun s=>Xx (fun a x=>Xz (AK Tryz.prog s 30 a x))),[.var 3,.loc 0],.push,[]⟩]
def bj:List AA:=[
 ⟨none,.r1 (fun s a=>AC Tryz.prog s 30 a),[.var 3],.push,[]⟩,
 ⟨none,.call 52,[(.const (.int .i64 (1)))],.push,[⟨none,.r1 (fun s a=>AC Tryz.prog s 30 a),[.var 3],(.loc 1)⟩]⟩,
 ⟨none,.call 34,[.var 2,.loc 1,.loc 0],.push,[]⟩]
def bk:List AA:=[
 ⟨none,.p2 (AT Tryz.prog .add 3),[(.var 6),(.const (.int .i64 (1)))],.push,[]⟩,
 ⟨none,.p1 some,[.loc 0],(.set 6),[]⟩]
def OD:Af:=(.seq (.ops V2) (.seq (.cond (.var 7)
 .skip
 (.exit 0)) (.seq (.block 1 (.seq (.ops bh) (.ops bj))) (.ops bk))))
def bl:List AA:=[
 ⟨none,.r1 (fun s a=>AC Tryz.prog s 56 a),[.var 2],.push,[]⟩,
 ⟨none,.call 33,[.loc 0],.push,[]⟩,
 ⟨none,.e (fun s=>Xx (fun a x=>Xz (AK Tryz.prog s 30 a x))),[.var 1,.loc 0],.push,[]⟩]
def mc:Ao:=⟨1,8,(.seq (.ops bX) (.seq (.ops bY) (.seq (.seq (.ops bZ) (.block 0 (.loop OD))) (.seq (.ops bl) .ret)))),[((.var 1),some 30)]⟩
def bo:List AA:=[
 ⟨none,.mk (fun l=>match l with | [v]=>Be 30 v | _=>none),[.var 0],(.set 2),[]⟩,
 ⟨none,.mk (fun l=>match l with | [v]=>Be 30 v | _=>none),[.var 1],(.set 3),[]⟩,
 ⟨none,.mk (fun l=>match l with | []=>Ab Tryz.prog 30 | _=>none),[],(.set 4),[]⟩]
def bs:List AA:=[
 ⟨none,.r1 (fun s a=>AC Tryz.prog s 30 a),[.var 2],.push,[]⟩,
 ⟨none,.call 32,[.loc 0],.push,[]⟩,
 ⟨none,.mk (fun l=>match l with | []=>Ab Tryz.prog 56 | _=>none),[],(.set 5),[]⟩,
 ⟨none,.e (fun s=>Xx (fun a x=>Xz (AK Tryz.prog s 56 a x))),[.var 5,.loc 0],.push,[]⟩]
def bu:List AA:=[
 ⟨none,.r1 (fun s a=>AC Tryz.prog s 30 a),[.var 3],.push,[]⟩,
 ⟨none,.call 52,[(.const (.int .i64 (-1)))],.push,[⟨none,.r1 (fun s a=>AC Tryz.prog s 30 a),[.var 3],(.loc 1)⟩]⟩,
 ⟨none,.call 34,[.var 5,.loc 1,.loc 0],.push,[]⟩]
def bv:List AA:=[
 ⟨none,.r1 (fun s a=>AC Tryz.prog s 56 a),[.var 5],.push,[]⟩,
 ⟨none,.call 33,[.loc 0],.push,[]⟩,
 ⟨none,.e (fun s=>Xx (fun a x=>Xz (AK Tryz.prog s 30 a x))),[.var 4,.loc 0],.push,[]⟩]
def md:Ao:=⟨2,6,(.seq (.ops bo) (.seq (.ops bs) (.seq (.ops bu) (.seq (.ops bv) .ret)))),[((.var 4),some 30)]⟩
def cC:List AA:=[
 ⟨none,.mk (fun l=>match l with | [v]=>Be 30 v | _=>none),[.var 0],(.set 2),[]⟩,
 ⟨none,.mk (fun l=>match l with | [v]=>Be 26 v | _=>none),[.var 1],(.set 3),[]⟩,
 ⟨none,.mk (fun l=>match l with | []=>Ab Tryz.prog 30 | _=>none),[],(.set 4),[]⟩]
def cE:List AA:=[
 ⟨none,.call 61,[],.push,[]⟩,
 ⟨none,.mk (fun l=>match l with | []=>Ab Tryz.prog 56 | _=>none),[],(.set 5),[]⟩,
 ⟨none,.e (fun s=>Xx (fun a x=>Xz (AK Tryz.prog s 56 a x))),[.var 5,.loc 0],.push,[]⟩]
def cF:List AA:=[
 ⟨none,.r1 (fun s a=>AC Tryz.prog s 30 a),[.var 2],.push,[]⟩,
 ⟨none,.r1 (fun s a=>AC Tryz.prog s 26 a),[.var 3],.push,[]⟩,
 ⟨none,.call 34,[.var 5,.loc 1,.loc 0],.push,[]⟩]
def cG:List AA:=[
 ⟨none,.r1 (fun s a=>AC Tryz.prog s 56 a),[.var 5],.push,[]⟩,
 ⟨none,.call 33,[.loc 0],.push,[]⟩,
 ⟨none,.e (fun s=>Xx (fun a x=>Xz (AK Tryz.prog s 30 a x))),[.var 4,.loc 0],.push,[]⟩]
def me:Ao:=⟨2,6,(.seq (.ops cC) (.seq (.ops cE) (.seq (.ops cF) (.seq (.ops cG) .ret)))),[((.var 4),some 30)]⟩
def bI:List AA:=[
 ⟨none,.mk (fun l=>match l with | [v]=>Be 30 v | _=>none),[.var 0],(.set 3),[]⟩,
 ⟨none,.mk (fun l=>match l with | [v]=>Be 30 v | _=>none),[.var 2],(.set 4),[]⟩,
 ⟨none,.mk (fun l=>match l with | []=>Ab Tryz.prog 30 | _=>none),[],(.set 5),[]⟩]
def bJ:List AA:=[
 ⟨none,.r1 (fun s a=>AC Tryz.prog s 30 a),[.var 3],.push,[]⟩,
 ⟨none,.call 32,[.loc 0],.push,[]⟩,
 ⟨none,.mk (fun l=>match l with | []=>Ab Tryz.prog 56 | _=>none),[],(.set 6),[]⟩,
 ⟨none,.e (fun s=>Xx (fun a x=>Xz (AK Tryz.prog s 56 a x))),[.var 6,.loc 0],.push,[]⟩]
def bK:List AA:=[
 ⟨none,.p1 (fun x=>AH Tryz.prog 56 x 1),[.var 6],.push,[]⟩,
 ⟨none,.r1 (fun s a=>AC Tryz.prog s 54 a),[.loc 0],.push,[]⟩,
 ⟨none,.r (fun s=>Xx (fun m k=>Cr Tryz.prog s 54 m k true)),[.loc 0,.var 1],.push,[]⟩,
 ⟨none,.p1 (fun x=>Za x 0),[.loc 0],.push,[]⟩,
 ⟨none,.p1 (fun x=>Za x 1),[.loc 1],.push,[]⟩,
 ⟨none,.mk (fun l=>match l with | []=>Ab Tryz.prog 26 | _=>none),[],(.set 7),[]⟩,
 ⟨none,.e (fun s=>Xx (fun a x=>Xz (AK Tryz.prog s 26 a x))),[.var 7,.loc 1],.push,[]⟩,
 ⟨none,.p1 some,[.loc 1],(.set 8),[]⟩]
def Uj:List AA:=[
 ⟨none,.p1 (UH Tryz.prog Go.UnOp.not),[.var 8],(.set 9),[]⟩]
def bL:List AA:=[
 ⟨none,.r1 (fun s a=>AC Tryz.prog s 56 a),[.var 6],.push,[]⟩,
 ⟨none,.call 33,[.loc 0],.push,[]⟩,
 ⟨none,.e (fun s=>Xx (fun a x=>Xz (AK Tryz.prog s 30 a x))),[.var 5,.loc 0],.push,[]⟩]
def bM:List AA:=[
 ⟨none,.p1 (fun x=>AH Tryz.prog 56 x 1),[.var 6],.push,[]⟩,
 ⟨none,.r1 (fun s a=>AC Tryz.prog s 54 a),[.loc 0],.push,[]⟩,
 ⟨none,.e (fun s=>Xx (fun m k=>Xz (FZ Tryz.prog s 54 m k))),[.loc 0,.var 1],.push,[]⟩]
def bN:List AA:=[
 ⟨none,.r1 (fun s a=>AC Tryz.prog s 30 a),[.var 4],.push,[]⟩,
 ⟨none,.r1 (fun s a=>AC Tryz.prog s 26 a),[.var 7],.push,[]⟩,
 ⟨none,.call 34,[.var 6,.loc 1,.loc 0],.push,[]⟩]
def bO:List AA:=[
 ⟨none,.r1 (fun s a=>AC Tryz.prog s 56 a),[.var 6],.push,[]⟩,
 ⟨none,.call 33,[.loc 0],.push,[]⟩,
 ⟨none,.e (fun s=>Xx (fun a x=>Xz (AK Tryz.prog s 30 a x))),[.var 5,.loc 0],.push,[]⟩]
def mY:Ao:=⟨3,10,(.seq (.ops bI) (.seq (.ops bJ) (.seq (.ops bK) (.seq (.seq (.ops Uj) (.cond (.var 9)
 (.seq (.ops bL) .ret)
 .skip)) (.seq (.ops bM) (.seq (.ops bN) (.seq (.ops bO) .ret))))))),[((.var 5),some 30)]⟩
def bP:List AA:=[
 ⟨none,.mk (fun l=>match l with | [v]=>Be 30 v | _=>none),[.var 0],(.set 3),[]⟩,
 ⟨none,.mk (fun l=>match l with | [v]=>Be 27 v | _=>none),[.var 1],(.set 4),[]⟩,
 ⟨none,.mk (fun l=>match l with | [v]=>Be 28 v | _=>none),[.var 2],(.set 5),[]⟩,
 ⟨none,.mk (fun l=>match l with | []=>Ab Tryz.prog 26 | _=>none),[],(.set 6),[]⟩]
def bQ:List AA:=[
 ⟨none,.r1 (fun s a=>AC Tryz.prog s 30 a),[.var 3],.push,[]⟩,
 ⟨none,.call 32,[.loc 0],.push,[]⟩,
 ⟨none,.mk (fun l=>match l with | []=>Ab Tryz.prog 56 | _=>none),[],(.set 7),[]⟩,
 ⟨none,.e (fun s=>Xx (fun a x=>Xz (AK Tryz.prog s 56 a x))),[.var 7,.loc 0],.push,[]⟩]
def bR:List AA:=[
 ⟨none,.p1 (fun x=>AH Tryz.prog 56 x 0),[.var 7],.push,[]⟩,
 ⟨none,.r1 (fun s a=>AC Tryz.prog s 26 a),[.loc 0],.push,[]⟩,
 ⟨none,.mk (fun l=>match l with | []=>Ab Tryz.prog 26 | _=>none),[],(.set 8),[]⟩,
 ⟨none,.e (fun s=>Xx (fun a x=>Xz (AK Tryz.prog s 26 a x))),[.var 8,.loc 0],.push,[]⟩]
def bS:List AA:=[
 ⟨none,.r1 (fun s a=>AC Tryz.prog s 56 a),[.var 7],.push,[]⟩,
 ⟨none,.call 41,[.loc 0],(.set 12),[]⟩]
def bT:List AA:=[
 ⟨none,.p1 some,[.var 13],(.set 9),[]⟩]
def bU:List AA:=[
 ⟨none,.mk (fun l=>match l with | []=>Ab Tryz.prog 26 | _=>none),[],(.set 10),[]⟩,
 ⟨none,.e (fun s=>Xx (fun a x=>Xz (AK Tryz.prog s 26 a x))),[.var 10,.var 14],.push,[]⟩]
def bV:List AA:=[
 ⟨none,.r1 (fun s a=>AC Tryz.prog s 27 a),[.var 4],.push,[]⟩,
 ⟨none,.call 42,[.loc 0,.var 9],.push,[]⟩,
 ⟨none,.p1 some,[.loc 0],(.set 11),[]⟩]
def SG:List AA:=[
 ⟨none,.p2 (AT Tryz.prog .geq 3),[(.var 11),(.const (.int .i64 (0)))],.push,[]⟩,
 ⟨(some ((.loc 0),true)),.p1 some,[.var 11],.push,[]⟩,
 ⟨(some ((.loc 1),true)),.r1 (fun s a=>AC Tryz.prog s 28 a),[.var 5],.push,[]⟩,
 ⟨(some ((.loc 2),true)),.r (fun s l=>match l with | [x]=>BZ Tryz.prog s 28 x | _=>none),[.loc 0],.push,[]⟩,
 ⟨(some ((.loc 3),true)),.p2 (AT Tryz.prog .lss 3),[.loc 2,.loc 0],.push,[]⟩,
 ⟨none,.p Rt,[(.loc 4),(.loc 0),(.const (.bool false))],(.set 15),[]⟩]
def bW:List AA:=[
 ⟨none,.r1 (fun s a=>AC Tryz.prog s 26 a),[.var 8],.push,[]⟩,
 ⟨none,.r1 (fun s a=>AC Tryz.prog s 26 a),[.var 10],.push,[]⟩,
 ⟨none,.r1 (fun s a=>AC Tryz.prog s 28 a),[.var 5],.push,[]⟩,
 ⟨none,.p2 (AM Tryz.prog 28),[.loc 0,.var 11],.push,[]⟩,
 ⟨none,.r1 (fun s a=>AC Tryz.prog s 26 a),[.loc 0],.push,[]⟩,
 ⟨none,.call 29,[.loc 3,.loc 0],.push,[⟨none,.r1 (fun s a=>AC Tryz.prog s 26 a),[.var 8],(.loc 5)⟩]⟩,
 ⟨none,.call 27,[.loc 5,.loc 0],.push,[]⟩,
 ⟨none,.e (fun s=>Xx (fun a x=>Xz (AK Tryz.prog s 26 a x))),[.var 8,.loc 0],.push,[]⟩]
def VK:Af:=(.seq (.ops bT) (.ops bU))
def VL:Af:=(.block 1 (.seq (.ops bV) (.seq (.ops SG) (.cond (.var 15)
 (.ops bW)
 .skip))))
def VH:Code:=(E0 13 0).1
def VI:Code:=(E0 13 0).2
theorem iJ:Di Tryz.prog 13 VH=some VK:=by kernel_rfl
theorem iK:Di Tryz.prog 13 VI=some VL:=by kernel_rfl
theorem VM:C3 Tryz.prog 13=[0,1,2,3,4,5,6,7,8,9,10,11,17,18,19,30]:=by kernel_rfl
def VJ:List AA:=[
 ⟨none,.r1 (fun s a=>AC Tryz.prog s 26 a),[.var 8],.push,[]⟩,
 ⟨none,.e (fun s=>Xx (fun a x=>Xz (AK Tryz.prog s 26 a x))),[.var 6,.loc 0],.push,[]⟩]
def mZ:Ao:=⟨3,16,(.seq (.ops bP) (.seq (.ops bQ) (.seq (.ops bR) (.seq (.seq (.ops bS) (.block 0 (.rangeFunc 13 (.var 12) #[18,19] VH VI))) (.seq (.ops VJ) .ret))))),[((.var 6),some 26)]⟩
theorem iz:AN Tryz.prog 61=some nJ:=by kernel_rfl
theorem jF:AN Tryz.prog 72=some nT:=by kernel_rfl
theorem i5:AN Tryz.prog 62=some nK:=by kernel_rfl
theorem ij:AN Tryz.prog 34=some mu:=by kernel_rfl
theorem jG:AN Tryz.prog 73=some nU:=by kernel_rfl
theorem ig:AN Tryz.prog 32=some ms:=by kernel_rfl
theorem ii:AN Tryz.prog 33=some mt:=by kernel_rfl
theorem ik:AN Tryz.prog 41=some my:=by kernel_rfl
theorem jH:AN Tryz.prog 77=some nW:=by kernel_rfl
theorem ic:AN Tryz.prog 30=some mo:=by kernel_rfl
theorem iV:AN Tryz.prog 20=some mc:=by kernel_rfl
theorem iW:AN Tryz.prog 21=some md:=by kernel_rfl
theorem iX:AN Tryz.prog 22=some me:=by kernel_rfl
theorem iT:AN Tryz.prog 10=some mY:=by kernel_rfl
theorem iU:AN Tryz.prog 13=some mZ:=by kernel_rfl
def fU:List AA:=[
 ⟨none,.mk (fun l=>match l with | [v]=>Be 54 v | _=>none),[.var 0],(.set 1),[]⟩,
 ⟨none,.p1 some,[(.const .nilFunc)],(.set 2),[]⟩]
def fV:List AA:=[
 ⟨none,.p (fun l=>some (.func 121 (l.take 0) (l.drop 0))),[.var 1],.push,[]⟩,
 ⟨none,.p1 some,[.loc 0],(.set 2),[]⟩]
def nX:Ao:=⟨1,3,(.seq (.ops fU) (.seq (.ops fV) .ret)),[((.var 2),none)]⟩
def dL:List AA:=[
 ⟨none,.p1 some,[(.const (.int .i64 (0)))],(.set 2),[]⟩]
def dM:List AA:=[
 ⟨none,.r (fun s l=>match l with | [x]=>BZ Tryz.prog s 27 x | _=>none),[.var 0],(.set 4),[]⟩,
 ⟨none,.p1 some,[(.const (.int .i64 (0)))],(.set 5),[]⟩]
def SO:List AA:=[
 ⟨none,.p2 (AT Tryz.prog .lss 3),[.var 5,.var 4],(.set 6),[]⟩]
def V9:List AA:=[
 ⟨none,.p1 some,[.var 5],(.set 3),[]⟩]
def WA:List AA:=[
 ⟨none,.p2 (AM Tryz.prog 27),[.var 0,.var 3],.push,[]⟩,
 ⟨none,.r1 (fun s a=>AC Tryz.prog s 3 a),[.loc 0],.push,[]⟩,
 ⟨none,.p2 (AT Tryz.prog .eql 3),[.var 1,.loc 0],(.set 7),[]⟩]
def dN:List AA:=[
 ⟨none,.p1 some,[.var 3],(.set 2),[]⟩]
def dO:List AA:=[
 ⟨none,.p2 (AT Tryz.prog .add 3),[(.var 5),(.const (.int .i64 (1)))],.push,[]⟩,
 ⟨none,.p1 some,[.loc 0],(.set 5),[]⟩]
def Lt:Af:=(.seq (.ops SO) (.seq (.cond (.var 6)
 .skip
 (.exit 0)) (.seq (.block 1 (.seq (.ops V9) (.seq (.ops WA) (.cond (.var 7)
 (.seq (.ops dN) .ret)
 .skip)))) (.ops dO))))
def WB:List AA:=[
 ⟨none,.p1 some,[(.const (.int .i64 (-1)))],(.set 2),[]⟩]
def nC:Ao:=⟨2,8,(.seq (.ops dL) (.seq (.seq (.ops dM) (.block 0 (.loop Lt))) (.seq (.ops WB) .ret))),[((.var 2),none)]⟩
theorem jI:AN Tryz.prog 79=some nX:=by kernel_rfl
theorem il:AN Tryz.prog 42=some nC:=by kernel_rfl
end
end Go.Proofs.YtjnkfbpadpmakaaGreatDoor.Am
set_option linter.unusedVariables false
set_option linter.unusedSimpArgs false
namespace Go.Proofs.YtjnkfbpadpmakaaGreatDoor.Am
open Go Go.RowKit
noncomputable section
def QW(x:Int):List Int→List Int
 | []=>[x]
 | y::l=>bif Lg x y then x::y::l else y::QW x l
def D6:List Int→List Int
 | []=>[]
 | x::l=>QW x (D6 l)
theorem Io(x:Int):∀l:List Int,(QW x l).Perm (x::l)
 | []=>.refl _
 | y::l=>by
  unfold QW
  cases Lg x y with
  | true=>exact .refl _
  | false=>exact((Io x l).cons y).trans (.swap x y l)
theorem DG:∀l:List Int,(D6 l).Perm l
 | []=>.refl _
 | x::l=>(Io x _).trans ((DG l).cons x)
theorem JF(x:Int):∀l:List Int,l.Pairwise (·≤·)→(QW x l).Pairwise (·≤·)
 | [],_=>by simp[QW]
 | y::l,h=>by
  unfold QW
  have hl:=List.pairwise_cons.1 h
  rw[Ca]
  by_cases hxy:x<y
  ·simp only[hxy,decide_true,cond_true]
   refine List.pairwise_cons.2 ⟨fun z hz=>?_,h⟩
   rcases List.mem_cons.1 hz with rfl | hz
   ·omega
   ·have:=hl.1 z hz;omega
  ·simp only[hxy,decide_false,cond_false]
   refine List.pairwise_cons.2 ⟨fun z hz=>?_,JF x l hl.2⟩
   rcases List.mem_cons.1 ((Io x l).mem_iff.1 hz)with rfl | hz
   ·omega
   ·exact hl.1 z hz
theorem H5:∀l:List Int,(D6 l).Pairwise (·≤·)
 | []=>.nil
 | x::l=>JF x _ (H5 l)
theorem Tz        {l m : List Int} (hp : l.Perm m) (hl : l.Pairwise (· ≤ ·)) (hm : m.Pairwise (· ≤ ·)) : l = m := by
  induction l generalizing m with
  | nil=>exact(List.nil_perm.1 hp).symm
  | cons a l ih =>
    cases m with
    | nil=>exact absurd hp.length_eq (by simp)
    | cons b m =>
      have hl':=List.pairwise_cons.1 hl
      have hm':=List.pairwise_cons.1 hm
      have hab:a=b:=by
        have h1:a∈b::m:=hp.mem_iff.1 oK
        have h2:b∈a::l:=hp.mem_iff.2 oK
        rcases List.mem_cons.1 h1 with e | h1
        · exact e
        · rcases List.mem_cons.1 h2 with e | h2
          · exact e.symm
          · have:=hm'.1 a h1;have:=hl'.1 b h2;omega
      subst hab
      rw[ih hp.cons_inv hl'.2 hm'.2]
theorem Of{l m:List Int}(h:l.Perm m):m.mergeSort (fun x y=>decide (x≤y))=D6 l:=by
 refine Tz ((List.mergeSort_perm _ _).trans (h.symm.trans (DG l).symm)) ?_ (H5 l)
 have:=List.pairwise_mergeSort (le:=fun(x y:Int)=>decide (x≤y)) (by intro a b c;simp;omega) (by intro a b;simp;omega) m
 exact this.imp (by intro a b h;simpa using h)
def JJ:List (AV×AV)→Option (List Int)
 | []=>some []
 | (.int .i64 n,_)::l=>(JJ l).bind fun r=>some (n::r)
 | _=>none
def Tg(n:Int):AV:=.int .i64 n
def Gu(tI:TypeId)(ks:List Int)(s:AD):Option (AV×AD):=match ks with
 | []=>some (.slice none 0 (some 0),s)
 | k::ks=>AJ (Nat.ble (k::ks).length 1000000) (some (.slice (some (s.next,0)) (k::ks).length none,newObj s (CL tI 1 (AS.fill .leaf 0 ((D6 (k::ks)).map Tg)) (k::ks).length none true)))
def FQ(g:FuncId)(kt tI:TypeId)(s:AD):List AV→Option (AV×AD)
 | [.func f [] [.ptr (some (i,o))]]=>AJ (Nat.beq f g && Nat.beq o 0) <| (rowAt s i).bind fun r=>AJ r.bytes <| (CW s i o).bind fun m=>match m with
  | .map none=>some (.slice none 0 (some 0),s)
  | .map (some j)=>(GN s kt j).bind fun es=>(JJ es).bind fun ks=>Gu tI ks s
  | _=>none
 | _=>none
section
variable{P:Program}{ρ ρ1 ρ2:BA}{s s1 s2:AD}{w w1 w2:World}
def R4(P:Program)(f g:FuncId)(kt tI:TypeId):Prop:=
 (∀ (Bm b nn:Nat) (D0:DataW Value) (w:World),Bm<w.heap.size→w.cell? ⟨Bm,0,none⟩=some (.map (some b))→w.ownsMap P kt Rv b nn D0→Maps.size D0≤1000000 →
  Calls P f #[.func (.func g) #[] #[.pointer (some ⟨Bm,0,none⟩)]] w fun e w'=>∃ (v:Value) (ss:List Int),e=.returned v∧ss.Perm (intKeys D0) ∧
   w'.ownsRow w.heap.size tI 1 v ss.length ((ss.mergeSort (fun x y=>decide (x≤y))).map fun n=>.int .i64 n)∧(v=.slice none 0 0↔ss=[])∧Below w.heap.size w w') ∧
 ∀ (Bm:Nat) (w:World),Bm<w.heap.size→w.cell? ⟨Bm,0,none⟩=some (.map none) →
  Calls P f #[.func (.func g) #[] #[.pointer (some ⟨Bm,0,none⟩)]] w fun e w'=>e=.returned (.slice none 0 0)∧Below w.heap.size w w'
theorem MC:∀ {es:List (AV×AV)}{ks:List Int}{l:List MapEntry},JJ es=some ks→Dz ρ es l→l.map (·.key)=ks.map fun n=>Value.int .i64 n
  | [],ks,l,h,he=>by cases he;injection h with h;subst h;rfl
  | (k,v)::es,ks,l,h,he=>by
    cases he with
    | cons hk hv hs =>
      cases k<;>try (simp[JJ]at h;done)
      rename_i q n
      cases q<;>try (simp[JJ]at h;done)
      simp only[JJ,nk]at h
      obtain⟨r,h1,h2⟩:=h
      injection h2 with h2
      subst h2
      have:=MC h1 hs
      generalize hkk:(_:MapEntry).key=kk at hk
      cases hk
      simp[this,hkk]
theorem GF(h:Below w.heap.size w w1):w.grownBy w1 none:=⟨h.os,h.tape,h.output,h.size,fun k hk _=>h.block k hk⟩
theorem PY          {f g : FuncId} {kt tI : TypeId} (hko : Fc     P kt = true) (hu : P.underlying kt = some (.int .i64)) (hc : R4      P f g kt tI) (h : BE  P ρ s w) (hf : Ax     ρ s) {aS : List AV} {as' : Array Value} {v : AV} (hs : FQ       g kt tI s aS = some (v, s1)) (has : AP    ρ aS as'.toList) :
    CallsIn Fence.wide 0 P f as' w (E2 P ρ s w v s1):=by
  refine callsIn_wide.2 ?_
  unfold FQ at hs
  split at hs<;>first | (cases hs;done) | skip
  rename_i f' i o
  obtain⟨hg,hs⟩:=AB hs
  simp only[nk,Bool.and_eq_true]at hs hg
  obtain⟨r,hrow,hs⟩:=hs
  obtain⟨hby,hs⟩:=AB hs
  simp only[nk]at hs
  obtain⟨m,hm,hs⟩:=hs
  have e1:=oE hg.1
  have e2:=oE hg.2
  subst e1;subst e2
  obtain⟨l0⟩:=as'
  cases has with
  | cons h1 h2 =>
  cases h2
  cases h1 with
  | func ha hcap =>
  rename_i a' c'
  obtain⟨la⟩:=a'
  obtain⟨lc⟩:=c'
  cases ha
  cases hcap with
  | cons hp hn =>
  cases hn
  cases hp with
  | ptr hr =>
  rename_i rb
  have hok:CI ρ w r rb:=h.obj i _ rb (BH hrow) hr
  have hoff:=hok.base hby
  obtain⟨m',hvm,hcell⟩:=Kj h hr hm
  rw[hoff]at hcell ⊢
  have hlt:=h.lt i rb hr
  cases m<;>try (simp at hs;done)
  rename_i mj
  have nilDone:∀ (hs:some ((.slice none 0 (some 0),s):AV×AD)=some (v,s1)) (w':World),Below w.heap.size w w'→E2 P ρ s w v s1 (.returned (.slice none 0 0)) w':=by
    intro hs w' hb
    injection hs with hs
    injection hs with q1 q2
    subst q1;subst q2
    obtain⟨g1,g2⟩:=h.grown (GF hb)
    exact⟨ρ,.sliceNil,g1,g2⟩
  cases mj with
  | none =>
    cases hvm
    refine(hc.2 rb.b w hlt hcell).mono ?_
    rintro e w' ⟨rfl,hb⟩
    exact nilDone hs w' hb
  | some j =>
    simp only[nk]at hs
    obtain⟨es,hes,ks,hks,hs⟩:=hs
    cases hvm with
    | map hrj =>
    rename_i rj
    obtain⟨ed,cd,d1,d2,⟨ld,d3,d4⟩,d5⟩:=(show I8 P ρ w kt es rj from h.obj j _ rj (Is hes) hrj).ex
    have hkl:=MC hks d4
    have hlenk:ks.length=ed.size:=by have:=congrArg List.length hkl;have:=d3.length_eq;simp at *;omega
    have hk6:ks.length≤1000000:=by
      cases ks with
      | nil=>simp
      | cons k ks =>
        simp only[Gu]at hs
        have:=(AB hs).1
        simpa[oA]using this
    have hmax:(1000000:Nat)≤maxLen:=by unfold maxLen;omega
    have od:=aN d1 d2 d5 (by omega)
    have hsz:Maps.size (DataW.map ((ed.toList.map (WideElems.rg P kt Rv)).foldr DataW.insert []))=ed.size:=by
      show((ed.toList.map (WideElems.rg P kt Rv)).foldr DataW.insert []).length=_
      rw[(Go.WideShapes.sorted_perm _).length_eq]
      simp
    have hints:(intKeys (DataW.map ((ed.toList.map (WideElems.rg P kt Rv)).foldr DataW.insert []))).Perm ks:=by
      show(((ed.toList.map (WideElems.rg P kt Rv)).foldr DataW.insert []).map fun p=>Go.intOf p.1).Perm ks
      refine((Go.WideShapes.sorted_perm _).map _).trans ?_
      rw[pj]
      have:((ld.map fun e=>Go.intOf (WideElems.rg P kt Rv e).1))=ks:=by
        have:∀ (L:List MapEntry) (K:List Int),(∀e∈L,∃l,keyOf P kt e.key=some l)→L.map (·.key)=K.map (fun n=>Value.int .i64 n)→(L.map fun e=>Go.intOf (WideElems.rg P kt Rv e).1)=K:=by
          intro L
          induction L with
          | nil=>intro K _ hK;cases K with | nil=>rfl | cons=>simp at hK
          | cons e L ih =>
            intro K hty hK
            cases K with
            | nil=>simp at hK
            | cons n K =>
              simp only[pM,List.cons.injEq]at hK
              obtain⟨l,hl⟩:=hty e oK
              rw[pM,ih K (fun x hx=>hty x (oN _ hx)) hK.2,lO hl]
              congr 1
              rw[hK.1]at hl
              simp only[keyOf,hu,mapKey]at hl
              split at hl
              · injection hl with hl;subst hl;rfl
              · cases hl
        exact this ld ks (fun e he=>d5 e (d3.mem_iff.1 he)) hkl
      rw[← this]
      exact d3.symm.map _
    refine(hc.1 rb.b rj.b _ _ w hlt hcell od (by rw[hsz];omega)).mono ?_
    rintro e w' ⟨v',ss,rfl,hperm,hrow',hnil,hb⟩
    have hss:ss.Perm ks:=hperm.trans hints
    cases ks with
    | nil =>
      have:ss=[]:=List.perm_nil.1 hss
      rw[hnil.2 this]
      exact nilDone hs w' hb
    | cons k ks =>
      simp only[Gu]at hs
      obtain⟨_,hs⟩:=AB hs
      injection hs with hs
      injection hs with q1 q2
      subst q1;subst q2
      have hne:ss≠[]:=fun e=>by subst e;exact absurd (List.nil_perm.1 hss) (by simp)
      rw[Of hss.symm]at hrow'
      have hl:ss.length=(k::ks).length:=hss.length_eq
      rcases hrow'.2 with⟨q,_⟩ | ⟨gb,cap,cur,rfl,hbase,hgb,r1,r2,r3,r4⟩
      · exact absurd (hnil.1 q) hne
      · rw[hl]at r1 r4 ⊢
        have hilen:(D6 (k::ks)).length=(k::ks).length:=(DG _).length_eq
        generalize hn:(k::ks).length=n at r1 r4 hilen ⊢
        have hglt:gb<w'.heap.size:=(Array.getElem?_eq_some_iff.1 hgb).1
        obtain⟨g1,g2⟩:=h.grown (GF hb)
        let rbn:RB:=⟨gb,0,cap,1⟩
        have hfn:=(hf s.next (nl _)).1
        have hle:=BJ (rb:=rbn) hfn
        have hrok:CI (Bn ρ s.next rbn) w' { elem:=tI,sz:=1,n:=n,c:=AS.fill .leaf 0 ((D6 (k::ks)).map Tg),spare:=true,mode:=.own,par:=none,bytes:=true } rbn:=by
          refine⟨?_,r1,rfl,(fun hh=>by cases hh),fun _=>⟨cur,hgb,by simp only[rbn];omega⟩,fun _=>rfl,(fun g hg=>by cases hg),fun p hp=>by cases hp⟩
          intro q u hq hu'
          simp only at hq
          simp only[AS.get_fill,oB,oG,true_and,Nat.sub_zero,py,hilen]at hu'
          rw[if_pos hq,pH]at hu'
          obtain⟨x,hx,hx2⟩:=Option.map_eq_some_iff.1 hu'
          subst hx2
          refine⟨.int .i64 x,?_,.int _ _⟩
          have:(cur.toList.take (n * 1))[q]? = some (Value.int .i64 x):=by rw[r4,pH,hx];rfl
          rw[pV (by omega)]at this
          simp only[World.cell?,rbn,oG,hgb]
          simpa using this
        refine⟨Bn ρ s.next rbn,.sliceOpen (AY _ _) (Nat.one_pos) r1 (by simp[rbn]) (by simp[rbn]),⟨?_,?_,?_,?_⟩,?_⟩
        · intro x ox rx hx hrx
          rw[Aw]at hx
          by_cases e:x=s.next
          · subst e
            rw[if_pos rfl]at hx
            injection hx with hx
            rw[AY]at hrx
            injection hrx with hrx
            subst hx;subst hrx
            exact hrok
          · rw [if_neg e] at hx
            rw[AQ rbn e]at hrx
            exact(g1.obj x ox rx hx hrx).mono hle rfl
        · intro x rx hrx
          by_cases e:x=s.next
          · subst e
            rw[AY]at hrx
            injection hrx with hrx
            subst hrx
            exact hglt
          · rw[AQ rbn e]at hrx
            exact g1.lt x rx hrx
        · intro x y ox oy rx ry hxy hx hy hrx hry hbb hw
          rw[Aw]at hx hy
          by_cases ex:x=s.next
          · subst ex
            have ey:y≠s.next:=fun e=>hxy e.symm
            rw[AY]at hrx
            injection hrx with hrx
            subst hrx
            rw[AQ rbn ey]at hry
            have:=h.lt y ry hry
            simp only[rbn]at hbb
            omega
          · by_cases ey : y = s.next
            · subst ey
              rw[AY]at hry
              injection hry with hry
              subst hry
              rw[AQ rbn ex]at hrx
              have:=h.lt x rx hrx
              simp only[rbn]at hbb
              omega
            · rw [if_neg ex] at hx
              rw[if_neg ey]at hy
              rw[AQ rbn ex]at hrx
              rw[AQ rbn ey]at hry
              exact g1.sep x y ox oy rx ry hxy hx hy hrx hry hbb hw
        · intro x ox g hx hgo
          rw[Aw]at hx
          by_cases e:x=s.next
          · subst e;exact⟨_,AY _ _⟩
          · rw[if_neg e]at hx
            obtain⟨r',hr'⟩:=h.glb x ox g hx hgo
            exact⟨r',hle _ _ hr'⟩
        · refine ⟨hle, ?_, by simp [newObj], hb.size, hb.os, hb.tape, hb.output, fun b hb' _ => hb.block b hb', ?_, ?_⟩
          · intro x hx hxr
            have:x≠s.next:=by simp[newObj]at hxr;omega
            rw[AQ rbn this];exact hx
          · rintro b ⟨x, ox, rx, hx, hw, hrx, rfl⟩
            rw[Aw]at hx
            by_cases e:x=s.next
            · subst e
              rw[AY]at hrx
              injection hrx with hrx
              subst hrx
              exact .inr hbase
            · rw [if_neg e] at hx
              rw[AQ rbn e]at hrx
              exact .inl ⟨x,ox,rx,hx,hw,hrx,rfl⟩
          · intro x _ hx
            rw[Aw,if_neg (by simp[newObj]at hx;omega)]
end
end
end Go.Proofs.YtjnkfbpadpmakaaGreatDoor.Am
set_option linter.unusedVariables false
set_option linter.unusedSimpArgs false
set_option maxRecDepth 16000
namespace Go.Proofs.YtjnkfbpadpmakaaGreatDoor.Am
open Go Go.Proofs
noncomputable section
abbrev Br:=Int×Rat×AV
def Fu(T:List Br):List (AV×AV):=T.map fun t=>(iv t.1,t.2.2)
def EQ(n:Int):List Br→Option (Rat×AV)
 | []=>none
 | t::T=>if n=t.1 then some t.2 else EQ n T
def DR(n:Int)(q:Rat)(v:AV):List Br→List Br
 | []=>[(n,q,v)]
 | t::T=>if n=t.1 then (n,q,v)::T else t::DR n q v T
def D3(n:Int):List Br→List Br
 | []=>[]
 | t::T=>if n=t.1 then T else t::D3 n T
theorem So(n m:Int):GL (iv n) (iv m)=some (decide (n=m)):=by
 show AJ (B0 .i64 .i64) (some (L4 n m))=_
 rw[Ek]
 rfl
theorem GO       (n : Int) (q : Rat) (v : AV) : ∀ (T : List Br)  (i : Nat), (EQ   n T = none ∧ Fv    (iv n) (Fu  T) i = some none ∧ DR   n q v T = T ++ [(n, q, v)] ∧ D3   n T = T) ∨
    (∃j p,EQ n T=some p∧Fv (iv n) (Fu T) i=some (some (i+j,p.2))∧setNth (Fu T) j v=Fu (DR n q v T)∧delNth (Fu T) j=Fu (D3 n T))
  | [],i=>.inl ⟨rfl,rfl,rfl,rfl⟩
  | t::T,i=>by
    by_cases h:n=t.1
    · refine .inr ⟨0, t.2, if_pos h, ?_, ?_, ?_⟩
      · show(GL (iv n) (iv t.1)).bind _=_
        rw[So,decide_eq_true h];rfl
      · show setNth ((iv t.1,t.2.2)::Fu T) 0 v=Fu (if n=t.1 then (n,q,v)::T else t::DR n q v T)
        rw[if_pos h]
        show(iv t.1,v)::Fu T=(iv n,v)::Fu T
        rw[h]
      · show Fu T=Fu (if n=t.1 then T else t::D3 n T)
        rw[if_pos h]
    · have hf:Fv (iv n) (Fu (t::T)) i=Fv (iv n) (Fu T) (i+1):=by
        show(GL (iv n) (iv t.1)).bind _=_
        rw[So,decide_eq_false h];rfl
      have hg:EQ n (t::T)=EQ n T:=if_neg h
      have hp:DR n q v (t::T)=t::DR n q v T:=if_neg h
      have hd:D3 n (t::T)=t::D3 n T:=if_neg h
      rcases GO n q v T (i+1)with⟨h1,h2,h3,h4⟩ | ⟨j,p,h1,h2,h3,h4⟩
      · exact .inl ⟨hg.trans h1,hf.trans h2,by rw[hp,h3];rfl,by rw[hd,h4]⟩
      · refine .inr ⟨j + 1, p, hg.trans h1, ?_, ?_, ?_⟩
        · rw[hf,h2,show i+1+j=i+(j+1) by omega]
        · rw[hp]
          show(iv t.1,t.2.2)::setNth (Fu T) j v=(iv t.1,t.2.2)::Fu (DR n q v T)
          rw[h3]
        · rw[hd]
          show(iv t.1,t.2.2)::delNth (Fu T) j=(iv t.1,t.2.2)::Fu (D3 n T)
          rw[h4]
def CG(n:Int)(T:List Br):Rat:=match EQ n T with
 | some p=>p.1
 | none=>0
def F2(a:Int→Rat):List Br→Rat
 | []=>0
 | t::T=>t.2.1 * a t.1+F2 a T
theorem Gy(n:Int)(t:Br)(T:List Br):CG n (t::T)=if n=t.1 then t.2.1 else CG n T:=by
 unfold CG
 show(match (if n=t.1 then some t.2 else EQ n T)with | some p=>p.1 | none=>0)=_
 by_cases h:n=t.1
 ·rw[if_pos h,if_pos h]
 ·rw[if_neg h,if_neg h]
theorem Xl(a:Int→Rat)(n:Int)(d:Rat)(v:AV):∀T:List Br,F2 a (DR n (CG n T+d) v T)=F2 a T+d * a n
 | []=>by
  show(0+d) * a n+0=0+d * a n
  rw[Rat.zero_add,Rat.add_zero,Rat.zero_add]
 | t::T=>by
  rw[Gy]
  by_cases h:n=t.1
  ·rw[if_pos h]
   show F2 a (if n=t.1 then (n,t.2.1+d,v)::T else t::DR n (t.2.1+d) v T)=t.2.1 * a t.1+F2 a T+d * a n
   rw[if_pos h]
   show(t.2.1+d) * a n+F2 a T=t.2.1 * a t.1+F2 a T+d * a n
   rw[h,Rat.add_mul,Rat.add_assoc,Rat.add_comm (d * a t.1),Rat.add_assoc]
  ·rw[if_neg h]
   show F2 a (if n=t.1 then (n,CG n T+d,v)::T else t::DR n (CG n T+d) v T)=t.2.1 * a t.1+F2 a T+d * a n
   rw[if_neg h]
   show t.2.1 * a t.1+F2 a (DR n (CG n T+d) v T)=_
   rw[Xl a n d v T,Rat.add_assoc]
theorem Xj(a:Int→Rat)(n:Int):∀T:List Br,F2 a (D3 n T)+CG n T * a n=F2 a T
 | []=>by show(0:Rat)+0 * a n=0;rw[Rat.zero_mul,Rat.add_zero]
 | t::T=>by
  rw[Gy]
  by_cases h:n=t.1
  ·rw[if_pos h]
   show F2 a (if n=t.1 then T else t::D3 n T)+t.2.1 * a n=t.2.1 * a t.1+F2 a T
   rw[if_pos h,h,Rat.add_comm]
  ·rw[if_neg h]
   show F2 a (if n=t.1 then T else t::D3 n T)+_=t.2.1 * a t.1+F2 a T
   rw[if_neg h]
   show t.2.1 * a t.1+F2 a (D3 n T)+_=_
   rw[Rat.add_assoc,Xj a n T]
def Ay(T:List Br):List Int:=T.map (·.1)
theorem In{n:Int}:∀ {T:List Br},EQ n T=none↔n ∉ Ay T
 | []=>by simp[EQ,Ay]
 | t::T=>by
  show(if n=t.1 then some t.2 else EQ n T)=none↔n ∉ t.1::Ay T
  by_cases h:n=t.1
  ·rw[if_pos h];simp[h]
  ·rw[if_neg h,In (T:=T)];simp[h]
theorem FE{n:Int}{p:Rat×AV}:∀ {T:List Br},EQ n T=some p→(n,p)∈T
 | [],h=>by cases h
 | t::T,h=>by
  have h':(if n=t.1 then some t.2 else EQ n T)=some p:=h
  by_cases hn:n=t.1
  ·rw[if_pos hn]at h'
   injection h' with h'
   have:(n,p)=t:=by rw[hn,← h']
   rw[this];exact oK
  ·rw[if_neg hn]at h'
   exact oN _ (FE h')
theorem Oh       {n : Int} {q : Rat} {v : AV} {x : Int} : ∀ {T : List Br},  x ∈ Ay    (DR   n q v T) ↔ x = n ∨ x ∈ Ay    T
  | []=>by simp[DR,Ay]
  | t::T=>by
    show x∈Ay (if n=t.1 then (n,q,v)::T else t::DR n q v T)↔x=n∨x∈t.1::Ay T
    by_cases h:n=t.1
    · rw[if_pos h]
      show x∈n::Ay T↔_
      rw[h];simp
    · rw[if_neg h]
      show x∈t.1::Ay (DR n q v T)↔_
      rw[List.mem_cons,Oh (T:=T),List.mem_cons]
      constructor
      · rintro (h | h | h)
        · exact .inr (.inl h)
        · exact .inl h
        · exact .inr (.inr h)
      · rintro (h | h | h)
        · exact .inr (.inl h)
        · exact .inl h
        · exact .inr (.inr h)
theorem MI{n:Int}{q:Rat}{v:AV}:∀ {T:List Br},(Ay T).Nodup→(Ay (DR n q v T)).Nodup
 | [],_=>by simp[DR,Ay]
 | t::T,h=>by
  obtain⟨h1,h2⟩:=List.nodup_cons.1 h
  show(Ay (if n=t.1 then (n,q,v)::T else t::DR n q v T)).Nodup
  by_cases hn:n=t.1
  ·rw[if_pos hn]
   show(n::Ay T).Nodup
   rw[hn];exact h
  ·rw[if_neg hn]
   show(t.1::Ay (DR n q v T)).Nodup
   refine List.nodup_cons.2 ⟨fun hm=>?_,MI h2⟩
   rcases Oh.1 hm with e | e
   ·exact hn e.symm
   ·exact h1 e
theorem Jt      {n : Int} {q : Rat} {v : AV} {t : Br}  : ∀ {T : List Br},  t ∈ DR   n q v T → t = (n, q, v) ∨ t ∈ T
  | [],h=>.inl (List.mem_singleton.1 h)
  | u::T,h=>by
    have h':t∈(if n=u.1 then (n,q,v)::T else u::DR n q v T):=h
    by_cases hn:n=u.1
    · rw [if_pos hn] at h'
      rcases List.mem_cons.1 h' with e | e
      · exact .inl e
      · exact .inr (oN _ e)
    · rw [if_neg hn] at h'
      rcases List.mem_cons.1 h' with e | e
      · exact .inr (e▸oK)
      · rcases Jt      e with e | e
        · exact .inl e
        · exact .inr (oN _ e)
theorem PC{Rl:Br→Br→Prop}{n:Int}{q:Rat}{v:AV}:∀ {T:List Br},T.Pairwise Rl→(∀t∈T,Rl t (n,q,v)∧Rl (n,q,v) t)→(DR n q v T).Pairwise Rl
  | [],_,_=>by simp[DR]
  | t::T,h,hn=>by
    obtain⟨h1,h2⟩:=List.pairwise_cons.1 h
    show(if n=t.1 then (n,q,v)::T else t::DR n q v T).Pairwise Rl
    by_cases hk:n=t.1
    · rw[if_pos hk]
      exact List.pairwise_cons.2 ⟨fun u hu=>(hn u (oN _ hu)).2,h2⟩
    · rw [if_neg hk]
      refine List.pairwise_cons.2 ⟨fun u hu=>?_,PC h2 fun u hu=>hn u (oN _ hu)⟩
      rcases Jt hu with rfl | hu
      · exact(hn t oK).1
      · exact h1 u hu
theorem Ge(n:Int):∀T:List Br,(D3 n T).Sublist T
 | []=>.slnil
 | t::T=>by
  show(if n=t.1 then T else t::D3 n T).Sublist (t::T)
  by_cases h:n=t.1
  ·rw[if_pos h];exact List.sublist_cons_self t T
  ·rw[if_neg h];exact(Ge n T).cons_cons t
theorem Sp{n:Int}{q:Rat}{v:AV}:∀ {T:List Br},(DR n q v T).length≤T.length+1
 | []=>nl _
 | t::T=>by
  show(if n=t.1 then (n,q,v)::T else t::DR n q v T).length≤_
  by_cases h:n=t.1
  ·rw[if_pos h];simp
  ·rw[if_neg h];have:=Sp (n:=n) (q:=q) (v:=v) (T:=T);simp only[oV];omega
theorem Ni(k:Int):EZ Tryz.prog 3 (iv k)=Bo .i64 k:=by kernel_rfl
abbrev TJ:AV:=.agg [.bool false,.slice none 0 (some 0),.slice none 0 (some 0)]
section
variable{s:AD}{mi:Nat}{T:List Br}{n:Int}
theorem On(hg:s.heap.get mi=some (.map 3 (Fu T)))(hn:i64 n):Cr Tryz.prog s 54 (.map (some mi)) (iv n) true=some (.tuple [match EQ n T with | some p=>p.2 | none=>TJ,.bool (EQ n T).isSome]):=by
 have hrd:JL s 3 mi=some (Fu T):=by unfold JL;rw[hg];rfl
 unfold Cr
 simp only[Tryz.underlying54,Ni,D5 hn,Xf,hrd,Option.bind_some]
 rcases GO n 0 TJ T 0 with⟨h1,h2,_⟩ | ⟨j,p,h1,h2,_⟩
 ·rw[h2,h1,Option.bind_some,mU];rfl
 ·rw[h2,h1];rfl
theorem Tm{p:Rat×AV}(hg:s.heap.get mi=some (.map 3 (Fu T)))(hn:i64 n)(hp:EQ n T=some p):Cr Tryz.prog s 54 (.map (some mi)) (iv n) false=some p.2:=by
 have hrd:JL s 3 mi=some (Fu T):=by unfold JL;rw[hg];rfl
 unfold Cr
 simp only[Tryz.underlying54,Ni,D5 hn,Xf,hrd,Option.bind_some]
 rcases GO n 0 TJ T 0 with⟨h1,h2,_⟩ | ⟨j,p',h1,h2,_⟩
 ·rw[hp]at h1;cases h1
 ·rw[hp]at h1
  injection h1 with h1
  subst h1
  rw[h2];rfl
theorem ZA(hg:s.heap.get mi=some (.map 3 (Fu T)))(hn:i64 n)(q:Rat)(v:AV):Gx Tryz.prog s 54 (.map (some mi)) (iv n) v=some (setObj s mi (.map 3 (Fu (DR n q v T)))):=by
 have hat:GN s 3 mi=some (Fu T):=by unfold GN;rw[hg];rfl
 unfold Gx
 simp only[Tryz.underlying54,Ni,D5 hn,Xf,hat,Option.bind_some]
 unfold jf
 rcases GO n q v T 0 with⟨h1,h2,h3,_⟩ | ⟨j,p,h1,h2,h3,_⟩
 ·rw[h2,h3,Option.bind_some]
  show some (setObj s mi (.map 3 (Fu T++[(iv n,v)])))=_
  unfold Fu
  rw[List.map_append];rfl
 ·rw[h2,Option.bind_some,oG]
  show some (setObj s mi (.map 3 (setNth (Fu T) j v)))=_
  rw[h3]
theorem XW(hg:s.heap.get mi=some (.map 3 (Fu T)))(hn:i64 n)(hp:EQ n T≠none):FZ Tryz.prog s 54 (.map (some mi)) (iv n)=some (setObj s mi (.map 3 (Fu (D3 n T)))):=by
 have hat:GN s 3 mi=some (Fu T):=by unfold GN;rw[hg];rfl
 unfold FZ
 simp only[Tryz.underlying54,Ni,D5 hn,Xf,hat,Option.bind_some]
 rcases GO n 0 TJ T 0 with⟨h1,_⟩ | ⟨j,p,h1,h2,_,h4⟩
 ·exact absurd h1 hp
 ·rw[h2,Option.bind_some,oG,← h4]
end
def I3:AV→List Nat
 | .agg [_,m,d]=>(Cd m).toList++(Cd d).toList
 | _=>[]
def UJ(u v:AV):Prop:=∀j∈I3 u,j ∉ I3 v
theorem UJ.symm{u v:AV}(h:UJ u v):UJ v u:=fun j h1 h2=>h j h2 h1
def UL(s:AD)(j:Nat):Prop:=∃r,s.heap.get j=some (.row r)∧r.elem=76
theorem NR.u32{b:Nat}{s:AD}{v:AV}{l:List Nat}(h:NR b s v l)(hl:l≠[]){j:Nat}(hj:Cd v=some j):UL s j:=by
 obtain⟨O,h1,_,_,h4⟩:=h
 obtain⟨i,e,_,_⟩:=h4 hl
 rcases h1 with⟨a,e',_⟩ | ⟨i',p,e',h6,_⟩
 ·rw[e]at e';injection e' with _ _ e';cases e'
 ·rw[e']at hj
  injection hj with hj
  subst hj
  rcases h6.ex with⟨e'',_⟩ | ⟨_,_,_,_,r,k4,_,_,_,_,_,k9⟩
  ·rw[e']at e'';cases e''
  ·exact⟨r,k4,k9⟩
theorem Du{v:AV}{x m d:AV}(e:v=.agg [x,m,d]){j:Nat}:j∈I3 v↔Cd m=some j∨Cd d=some j:=by
 subst e
 show j∈(Cd m).toList++(Cd d).toList↔_
 rw[List.mem_append,Option.mem_toList,Option.mem_toList]
theorem QR.u32{b:Nat}{s:AD}{v:AV}{q:Rat}(h:QR b s v q){j:Nat}(hj:j∈I3 v):UL s j:=by
  obtain⟨m,d,e,h2,h3,_,h5⟩:=h
  rcases(Du e).1 hj with hj | hj
  · by_cases h0 : q.num = 0
    · rw[h5 h0]at hj;cases hj
    · exact h2.u32 (Cg (by omega)) hj
  · exact h3.u32 (Cg q.den_nz) hj
theorem QR.slots{b:Nat}{s:AD}{v:AV}{q:Rat}(h:QR b s v q){j:Nat}(hj:j∈I3 v):b≤j∧j<s.next:=by
 obtain⟨m,d,e,h2,h3,_⟩:=h
 rcases(Du e).1 hj with hj | hj
 ·exact h2.lt hj
 ·exact h3.lt hj
theorem QR.dj{b b':Nat}{s s':AD}{u v:AV}{p q:Rat}(h:QR b s u p)(h':QR b' s' v q)(hb:s.next≤b'):UJ u v:=fun j h1 h2=>by
 have:=(h.slots h1).2
 have:=(h'.slots h2).1
 omega
structure F5(b:Nat)(s:AD)(mi:Nat)(T:List Br)(k:Nat):Prop where
 obj:s.heap.get mi=some (.map 3 (Fu T))
 lo:b≤mi
 lt:mi<s.next
 ent:∀t∈T,QR b s t.2.2 t.2.1∧QH t.2.1 k∧i64 t.1
 nd:(Ay T).Nodup
 dj:T.Pairwise fun t u=>UJ t.2.2 u.2.2
structure EA(b:Nat)(s:AD)(cv:AV)(mi:Nat)(c:Rat)(T:List Br)(k:Nat):Prop where
 cq:QR b s cv c
 ch:QH c k
 map:F5 b s mi T k
 dj:∀t∈T,UJ cv t.2.2
def PV(b:Nat)(s:AD)(v:AV)(mi:Nat)(c:Rat)(T:List Br)(k:Nat):Prop:=∃x a n ca d m cd,v=.agg [.bool x,.slice a n ca,.slice d m cd,.map (some mi)]∧EA b s (.agg [.bool x,.slice a n ca,.slice d m cd]) mi c T k
theorem Ex{s:AD}{mi kt:Nat}{es:List (AV×AV)}(h:s.heap.get mi=some (.map kt es)){j:Nat}(hj:UL s j):j≠mi:=by
 rintro rfl
 obtain⟨r,h1,_⟩:=hj
 rw[h]at h1;cases h1
theorem Ey{s:AD}{p e sz:Nat}{sp:Bool}{cs:List AV}(h:s.heap.get p=some (R e sz sp cs))(he:e≠76){j:Nat}(hj:UL s j):j≠p:=by
 rintro rfl
 obtain⟨r,h1,h2⟩:=hj
 rw[h]at h1
 injection h1 with h1
 injection h1 with h1
 subst h1
 exact he h2
theorem QR.keepS{b:Nat}{s s':AD}{v:AV}{q:Rat}(h:QR b s v q)(hn:s.next≤s'.next)(hf:∀j,j<s.next→UL s j→s'.heap.get j=s.heap.get j):QR b s' v q:=by
 have hu:=fun j=>h.u32 (j:=j)
 have hl:=fun j=>h.slots (j:=j)
 obtain⟨m,d,e,h2,h3,h4⟩:=h
 exact⟨m,d,e,h2.keep hn fun j hj=>hf j (hl j ((Du e).2 (.inl hj))).2 (hu j ((Du e).2 (.inl hj))),h3.keep hn fun j hj=>hf j (hl j ((Du e).2 (.inr hj))).2 (hu j ((Du e).2 (.inr hj))),h4⟩
theorem F5.keepS{b:Nat}{s s':AD}{mi:Nat}{T:List Br}{k:Nat}(h:F5 b s mi T k)(hn:s.next≤s'.next)(hm:s'.heap.get mi=s.heap.get mi)(hf:∀j,j<s.next→UL s j→s'.heap.get j=s.heap.get j):F5 b s' mi T k:=
 ⟨hm.trans h.obj,h.lo,ns h.lt hn,fun t ht=>⟨(h.ent t ht).1.keepS hn hf,(h.ent t ht).2⟩,h.nd,h.dj⟩
theorem F5.old{b:Nat}{s s':AD}{mi:Nat}{T:List Br}{k:Nat}(h:F5 b s mi T k)(o:Ac s.next s s'):F5 b s' mi T k:=h.keepS o.1 (o.2 mi h.lt) fun j hj _=>o.2 j hj
theorem F5.le{b:Nat}{s:AD}{mi:Nat}{T:List Br}{k k':Nat}(h:F5 b s mi T k)(hk:k≤k'):F5 b s mi T k':=⟨h.obj,h.lo,h.lt,fun t ht=>⟨(h.ent t ht).1,(h.ent t ht).2.1.le hk,(h.ent t ht).2.2⟩,h.nd,h.dj⟩
theorem F5.mono{b b':Nat}{s:AD}{mi:Nat}{T:List Br}{k:Nat}(h:F5 b s mi T k)(hb:b'≤b):F5 b' s mi T k:=⟨h.obj,ny hb h.lo,h.lt,fun t ht=>⟨(h.ent t ht).1.mono hb,(h.ent t ht).2⟩,h.nd,h.dj⟩
theorem EA.keepS{b:Nat}{s s':AD}{cv:AV}{mi:Nat}{c:Rat}{T:List Br}{k:Nat}(h:EA b s cv mi c T k)(hn:s.next≤s'.next)(hm:s'.heap.get mi=s.heap.get mi)(hf:∀j,j<s.next→UL s j→s'.heap.get j=s.heap.get j):EA b s' cv mi c T k:=
 ⟨h.cq.keepS hn hf,h.ch,h.map.keepS hn hm hf,h.dj⟩
theorem EA.old{b:Nat}{s s':AD}{cv:AV}{mi:Nat}{c:Rat}{T:List Br}{k:Nat}(h:EA b s cv mi c T k)(o:Ac s.next s s'):EA b s' cv mi c T k:=h.keepS o.1 (o.2 mi h.map.lt) fun j hj _=>o.2 j hj
theorem EA.le{b:Nat}{s:AD}{cv:AV}{mi:Nat}{c:Rat}{T:List Br}{k k':Nat}(h:EA b s cv mi c T k)(hk:k≤k'):EA b s cv mi c T k':=⟨h.cq,h.ch.le hk,h.map.le hk,h.dj⟩
theorem EA.mono{b b':Nat}{s:AD}{cv:AV}{mi:Nat}{c:Rat}{T:List Br}{k:Nat}(h:EA b s cv mi c T k)(hb:b'≤b):EA b' s cv mi c T k:=⟨h.cq.mono hb,h.ch,h.map.mono hb,h.dj⟩
theorem EA.set{b:Nat}{s:AD}{cv:AV}{mi:Nat}{c:Rat}{T:List Br}{k p e sz:Nat}{sp:Bool}{cs:List AV}(h:EA b s cv mi c T k)(hp:s.heap.get p=some (R e sz sp cs))(he:e≠76)(o:A8):EA b (setObj s p o) cv mi c T k:=
 h.keepS (nl _) (Ww _ (by rintro rfl;have:=h.map.obj;rw[hp]at this;cases this)) fun j _ hj=>Ww _ (Ey hp he hj)
theorem ar{b:Nat}{s:AD}{mi:Nat}{T:List Br}{k:Nat}(h:F5 b s mi T k)(hk:1≤k)(n:Int):QH (CG n T) k:=by
 unfold CG
 cases hg:EQ n T with
 | none=>exact jv.le hk
 | some p=>exact(h.ent _ (FE hg)).2.1
theorem TR(x:Bool)(a b:Option (Nat×Nat))(n m:Nat)(c d:Option Nat)(mi:Nat):Cz Tryz.prog 56 (zipIdx [0,1] [.agg [.bool x,.slice a n c,.slice b m d],.map (some mi)])=some (.agg [.bool x,.slice a n c,.slice b m d,.map (some mi)]):=by kernel_rfl
theorem D2:Ab Tryz.prog 56=some (R 56 0 false [.bool false,.slice none 0 (some 0),.slice none 0 (some 0),.map none],.ptr):=by kernel_rfl
theorem aG:Iq Tryz.prog 54=some 3:=by kernel_rfl
section
variable{E:CP}{s:AD}
theorem Kr(hE:GoodN E){K:AV→AD→Prop}(hK:∀s' v,Ac s.next s s'→QR s.next s' v 0→K v s'):WF E 72 [] K s:=by
 refine hE.go jF (by decide) rfl ?_
 obtain⟨n1,o1,g1⟩:=Bj s ZQ
 simp only[nT,fM,fN,BU,Xb,Qa,Qb,Qc,Qd,Qe,Qf,Qg,Qh,Qi,Qj,Qk,Ql,Qm,Qn,true_and,and_true,Qo,Qp,Qq,Qr,Qs,Qt,Qu,Qv,Qw,Qx,Qy,Qz,Ra,Rb,Rc,Rd,Re,Rf,Rg,Rh,Ri,Rj,Rk,Rm,Rn,Ro,Rp,Rq,Rs,Ya,Yb,Yc,Rt,Ru,Za,Yd,Ye,Rx,Ry,Rz,Wa,Wb,Wc,Wd]
 generalize newObj s ZQ=s1 at *
 refine FL hE (n:=0) (.inl rfl) fun s2 v2 o2 r2=>?_
 have h2:=o2.1
 obtain⟨x,a,n,c,b,m,d,rfl⟩:=r2.shape
 obtain⟨st,ld⟩:=BS (cs0:=[.bool false,.slice none 0 (some 0),.slice none 0 (some 0)]) rfl (x:=x) (a:=a) (n:=n) (c:=c) (b:=b) (m:=m) (d:=d) ((o2.2 s.next (by omega)).trans g1)
 simp only[st,ld,AL,Xx,Xz,Qa,Qb,Qc,Qd,Qe,Qf,Qg,Qh,Qi,Qj,Qk,Ql,Qm,Qn,true_and,and_true,Qo,Qp,Qq,Qr,Qs,Qt,Qu,Qv,Qw,Qx,Qy,Qz,Ra,Rb,Rc,Rd,Re,Rf,Rg,Rh,Ri,Rj,Rk,Rm,Rn,Ro,Rp,Rq,Rs,Ya,Yb,Yc,Rt,Ru,Za,Yd,Ye,Rx,Ry,Rz,Wa,Wb,Wc,Wd]
 exact hK _ _ ((o1.trans (o2.mono o1.1)).set (nl _) _) ((r2.set (by omega) _).mono (by omega))
theorem Kh(hE:GoodN E){K:AV→AD→Prop}(hK:∀s' v mi,Ac s.next s s'→PV s.next s' v mi 0 [] 1→K v s'):WF E 61 [] K s:=by
 refine hE.go iz (by decide) rfl ?_
 obtain⟨n1,o1,g1⟩:=Bj s (R 56 0 false [.bool false,.slice none 0 (some 0),.slice none 0 (some 0),.map none])
 simp only[nJ,eH,eI,D2,Xb,Qa,Qb,Qc,Qd,Qe,Qf,Qg,Qh,Qi,Qj,Qk,Ql,Qm,Qn,true_and,and_true,Qo,Qp,Qq,Qr,Qs,Qt,Qu,Qv,Qw,Qx,Qy,Qz,Ra,Rb,Rc,Rd,Re,Rf,Rg,Rh,Ri,Rj,Rk,Rm,Rn,Ro,Rp,Rq,Rs,Ya,Yb,Yc,Rt,Ru,Za,Yd,Ye,Rx,Ry,Rz,Wa,Wb,Wc,Wd]
 generalize newObj s (R 56 0 false [.bool false,.slice none 0 (some 0),.slice none 0 (some 0),.map none])=s1 at *
 refine Kr hE fun s2 v2 o2 r2=>?_
 have h2:=o2.1
 obtain⟨x,a,n,c,b,m,d,rfl⟩:=r2.shape
 obtain⟨n3,o3,g3⟩:=Bj s2 (.map 3 [])
 have g4:(newObj s2 (.map 3 [])).heap.get s.next=some (R 56 0 false [.bool false,.slice none 0 (some 0),.slice none 0 (some 0),.map none]):=by
  rw[o3.2 _ (by omega),o2.2 _ (by omega)];exact g1
 simp only[aG,Option.bind_some,Xc,TR,Qa,Qb,Qc,Qd,Qe,Qf,Qg,Qh,Qi,Qj,Qk,Ql,Qm,Qn,true_and,and_true,Qo,Qp,Qq,Qr,Qs,Qt,Qu,Qv,Qw,Qx,Qy,Qz,Ra,Rb,Rc,Rd,Re,Rf,Rg,Rh,Ri,Rj,Rk,Rm,Rn,Ro,Rp,Rq,Rs,Ya,Yb,Yc,Rt,Ru,Za,Yd,Ye,Rx,Ry,Rz,Wa,Wb,Wc,Wd]
 generalize newObj s2 (.map 3 [])=s3 at *
 have st:=Aj (P:=Tryz.prog) (t:=56) (cs:=[.bool x,.slice a n c,.slice b m d,.map (some s2.next)]) Hh g4 rfl rfl rfl (by simp)
 have ld:=AE (P:=Tryz.prog) (t:=56) (s:=setObj s3 s.next (R 56 0 false [.bool x,.slice a n c,.slice b m d,.map (some s2.next)])) (i:=s.next) J5 Hh (Wv _ _ _) rfl
 have o13:=o1.trans ((o2.trans (o3.mono h2)).mono o1.1)
 simp only[st,ld,AL,Xx,Xz,Qa,Qb,Qc,Qd,Qe,Qf,Qg,Qh,Qi,Qj,Qk,Ql,Qm,Qn,true_and,and_true,Qo,Qp,Qq,Qr,Qs,Qt,Qu,Qv,Qw,Qx,Qy,Qz,Ra,Rb,Rc,Rd,Re,Rf,Rg,Rh,Ri,Rj,Rk,Rm,Rn,Ro,Rp,Rq,Rs,Ya,Yb,Yc,Rt,Ru,Za,Yd,Ye,Rx,Ry,Rz,Wa,Wb,Wc,Wd]
 refine hK _ _ s2.next (o13.set (nl _) _) ⟨_,_,_,_,_,_,_,rfl,((r2.old o3).set (by omega) _).mono (by omega),jv,⟨?_,by omega,by show s2.next<s3.next;omega,fun t ht=>(by cases ht),List.nodup_nil,.nil⟩,fun t ht=>by cases ht⟩
 rw[Ww _ (by omega)];exact g3
theorem ZM(hE:GoodN E){va:AV}{a c o:Rat}{ka kc ko pc po:Nat}{cc co:List AV}(ha:QI s va a ka)(hc:QI s (.agg cc) c kc)(ho:QI s (.agg co) o ko)(gc:s.heap.get pc=some (R 26 0 false cc))(go:s.heap.get po=some (R 26 0 false co))(hpc:pc<s.next)(hpo:po<s.next)
  (hka:1≤ka) (hkc:1≤kc) (hko:1≤ko) (hk:2 * (ka+(kc+ko))+1≤1000000000) {K:AV→AD→Prop} (hK:∀s' v,Ac s.next s s'→QR s.next s' v (a+c * o)→K v s'):WF E 73 [va,.ptr (some (pc,0)),.ptr (some (po,0))] K s:=by
 have hcl:cc.length=3:=by obtain⟨_,_,_,_,_,_,_,e⟩:=hc.shape;injection e with e;rw[e];rfl
 have hol:co.length=3:=by obtain⟨_,_,_,_,_,_,_,e⟩:=ho.shape;injection e with e;rw[e];rfl
 have hqc:=hc.qh hkc
 have hqo:=ho.qh hko
 obtain⟨x1,a1,n1,c1,b1,m1,d1,rfl⟩:=ha.shape
 refine hE.go jG (by decide) rfl ?_
 obtain⟨n2,o1,g1,g2⟩:=Eu s (BQ x1 (.slice a1 n1 c1) (.slice b1 m1 d1)) ZQ
 simp only[nU,fO,fP,Wz,Xg,BU,Xb,Aq,Qa,Qb,Qc,Qd,Qe,Qf,Qg,Qh,Qi,Qj,Qk,Ql,Qm,Qn,true_and,and_true,Qo,Qp,Qq,Qr,Qs,Qt,Qu,Qv,Qw,Qx,Qy,Qz,Ra,Rb,Rc,Rd,Re,Rf,Rg,Rh,Ri,Rj,Rk,Rm,Rn,Ro,Rp,Rq,Rs,Ya,Yb,Yc,Rt,Ru,Za,Yd,Ye,Rx,Ry,Rz,Wa,Wb,Wc,Wd]
 generalize newObj (newObj s (BQ x1 (.slice a1 n1 c1) (.slice b1 m1 d1))) ZQ=s1 at *
 have l1:=AE (P:=Tryz.prog) (t:=26) A9 Ar g1 rfl
 have l2:=AE (P:=Tryz.prog) (t:=26) A9 Ar ((o1.2 pc hpc).trans gc) hcl
 have l3:=AE (P:=Tryz.prog) (t:=26) A9 Ar ((o1.2 po hpo).trans go) hol
 simp only[l1,l2,l3,Qa,Qb,Qc,Qd,Qe,Qf,Qg,Qh,Qi,Qj,Qk,Ql,Qm,Qn,true_and,and_true,Qo,Qp,Qq,Qr,Qs,Qt,Qu,Qv,Qw,Qx,Qy,Qz,Ra,Rb,Rc,Rd,Re,Rf,Rg,Rh,Ri,Rj,Rk,Rm,Rn,Ro,Rp,Rq,Rs,Ya,Yb,Yc,Rt,Ru,Za,Yd,Ye,Rx,Ry,Rz,Wa,Wb,Wc,Wd]
 refine IH hE (hc.old o1) (ho.old o1) hkc hko (by omega) fun s2 v2 o2 r2=>?_
 have h2:=o2.1
 have f1:=(o2.2 s.next (by omega)).trans g1
 refine⟨⟨Aa (by simp only[Qa,Qb,Qc,Qd,Qe,Qf,Qg,Qh,Qi,Qj,Qk,Ql,Qm,Qn,true_and,and_true,Qo,Qp,Qq,Qr,Qs,Qt,Qu,Qv,Qw,Qx,Qy,Qz,Ra,Rb,Rc,Rd,Re,Rf,Rg,Rh,Ri,Rj,Rk,Rm,Rn,Ro,Rp,Rq,Rs,Ya,Yb,Yc,Rt,Ru,Za,Yd,Ye,Rx,Ry,Rz,Wa,Wb,Wc,Wd];exact AE A9 Ar f1 rfl) (BK _ _ _ _ _ _ _),trivial⟩,?_⟩
 simp only[Qa,Qb,Qc,Qd,Qe,Qf,Qg,Qh,Qi,Qj,Qk,Ql,Qm,Qn,true_and,and_true,Qo,Qp,Qq,Qr,Qs,Qt,Qu,Qv,Qw,Qx,Qy,Qz,Ra,Rb,Rc,Rd,Re,Rf,Rg,Rh,Ri,Rj,Rk,Rm,Rn,Ro,Rp,Rq,Rs,Ya,Yb,Yc,Rt,Ru,Za,Yd,Ye,Rx,Ry,Rz,Wa,Wb,Wc,Wd]
 have o12:=o1.trans (o2.mono o1.1)
 refine IG hE (ha.old o12) (r2.qi (hqc.mul hqo)) hka (by omega) hk fun s3 v3 o3 r3=>?_
 obtain⟨x3,a3,n3,c3,b3,m3,d3,rfl⟩:=r3.shape
 obtain⟨st,ld⟩:=BS (cs0:=[.bool false,.slice none 0 (some 0),.slice none 0 (some 0)]) rfl (x:=x3) (a:=a3) (n:=n3) (c:=c3) (b:=b3) (m:=m3) (d:=d3) ((o3.2 (s.next+1) (by omega)).trans ((o2.2 (s.next+1) (by omega)).trans g2))
 simp only[st,ld,AL,Xx,Xz,Qa,Qb,Qc,Qd,Qe,Qf,Qg,Qh,Qi,Qj,Qk,Ql,Qm,Qn,true_and,and_true,Qo,Qp,Qq,Qr,Qs,Qt,Qu,Qv,Qw,Qx,Qy,Qz,Ra,Rb,Rc,Rd,Re,Rf,Rg,Rh,Ri,Rj,Rk,Rm,Rn,Ro,Rp,Rq,Rs,Ya,Yb,Yc,Rt,Ru,Za,Yd,Ye,Rx,Ry,Rz,Wa,Wb,Wc,Wd]
 exact hK _ _ ((o12.trans (o3.mono o12.1)).set (by omega) _) ((r3.set (by omega) _).mono (by omega))
end
end
end Go.Proofs.YtjnkfbpadpmakaaGreatDoor.Am
