/- Package rat: values; one, reduced, walked; conditions: none. -/
import Derived.Test.YtoaaclpjkelofaaGreatDoorAmM07
import Derived.Test.YtoaaclpjkelofaaGreatDoorAmM04
import Derived.Test.YtoaaclpjkelofaaGreatDoorAmM05
import Derived.Lib.SlKeysI
import Derived.Test.YtoaaclpjkelofaaGreatDoorChecked
import Derived.Test.YtoaaclpjkelofaaGreatDoorProg
set_option linter.unusedVariables false
set_option linter.unusedSimpArgs false
set_option maxRecDepth 16000
namespace Go.Proofs.YtoaaclpjkelofaaGreatDoor.Am
open Go Go.Proofs
noncomputable section
theorem jF(x:Bool)(a b:Option (Nat×Nat))(n m:Nat)(c d:Option Nat):GD Tryz.prog 81 (zipIdx [0,1] [.agg [.bool x,.slice a n c],.slice b m d])=some (.agg [.bool x,.slice a n c,.slice b m d]):=by kernel_rfl
abbrev ZQ:AI:=R 81 0 false [.bool false,.slice none 0 (some 0),.slice none 0 (some 0)]
abbrev BQ(x:Bool)(m d:AV):AI:=R 81 0 false [.bool x,m,d]
theorem Dz:At Tryz.prog 81=some (ZQ,.ptr):=by kernel_rfl
theorem fi(x:Bool)(a b:Option (Nat×Nat))(n m:Nat)(c d:Option Nat):FT (.agg [.bool x,.slice a n c,.slice b m d]) (.agg [.bool x,.slice a n c,.slice b m d])=true:=by
 cases a<;>cases b<;>cases c<;>cases d<;>cases x<;>simp[FT,FT.eqAs]
def QI(s:AD)(v:AV)(q:Rat)(k:Nat):Prop:=∃neg m d lm ld,v=.agg [.bool neg,m,d]∧Cl s m lm∧Cl s d ld∧BZ lm∧BZ ld∧lm.length≤k∧ld.length≤k∧RP neg (AC lm) (AC ld)=q
def QR(b:Nat)(s:AD)(v:AV)(q:Rat):Prop:=∃m d,v=.agg [.bool (decide (q.num<0)),m,d]∧NR b s m (AK q.num.natAbs)∧NR b s d (AK q.den)∧(∀j,Ci m=some j→Ci d≠some j)∧(q.num=0→m=.slice none 0 (some 0))
def QH(q:Rat)(k:Nat):Prop:=q.num.natAbs<LB ^ k∧q.den<LB ^ k
theorem QI.old{s s':AD}{v:AV}{q:Rat}{k:Nat}(h:QI s v q k)(o:A9 s.next s s'):QI s' v q k:=by
 obtain⟨neg,m,d,lm,ld,h1,h2,h3,h4⟩:=h
 exact⟨neg,m,d,lm,ld,h1,h2.old o,h3.old o,h4⟩
theorem QI.shape{s:AD}{v:AV}{q:Rat}{k:Nat}(h:QI s v q k):∃x a n c b m d,v=.agg [.bool x,.slice a n c,.slice b m d]:=by
 obtain⟨neg,m,d,lm,ld,rfl,h2,h3,_⟩:=h
 obtain⟨a,n,c,rfl⟩:=h2.shape
 obtain⟨b,m,d,rfl⟩:=h3.shape
 exact⟨_,_,_,_,_,_,_,rfl⟩
theorem NR.lt{b:Nat}{s:AD}{v:AV}{l:List Nat}(h:NR b s v l){j:Nat}(hj:Ci v=some j):b≤j∧j<s.next:=by
 obtain⟨O,q1,_,q,_⟩:=h
 refine⟨q j hj,?_⟩
 rcases q1 with⟨a,rfl,_,_,_,h5⟩ | ⟨i,p,rfl,h6,_⟩
 ·cases a with
  | none=>cases hj
  | some io=>obtain⟨i,o⟩:=io;injection hj with hj;subst hj;exact(h5 i o rfl).1
 ·injection hj with hj
  subst hj
  rcases h6.ex with⟨e',_⟩ | ⟨_,_,k2,_⟩
  ·cases e'
  ·exact k2
theorem QR.keep{b:Nat}{s s':AD}{v:AV}{q:Rat}(h:QR b s v q)(hn:s.next≤s'.next)(hf:∀j,b≤j→j<s.next→s'.heap.get j=s.heap.get j):QR b s' v q:=by
 obtain⟨m,d,h1,h2,h3,h4⟩:=h
 exact⟨m,d,h1,h2.keep hn fun j hj=>hf j (h2.lt hj).1 (h2.lt hj).2,h3.keep hn fun j hj=>hf j (h3.lt hj).1 (h3.lt hj).2,h4⟩
theorem QR.old{b:Nat}{s s':AD}{v:AV}{q:Rat}(h:QR b s v q)(o:A9 s.next s s'):QR b s' v q:=h.keep o.1 fun j _ hj=>o.2 j hj
theorem QR.set{b i:Nat}{s:AD}{v:AV}{q:Rat}(h:QR b s v q)(hi:i<b)(o:AI):QR b (setObj s i o) v q:=h.keep (tJ _) fun j hj _=>Ww _ (by omega)
theorem QR.mono{b b':Nat}{s:AD}{v:AV}{q:Rat}(h:QR b s v q)(k:b'≤b):QR b' s v q:=by
 obtain⟨m,d,h1,h2,h3,h4⟩:=h
 exact⟨m,d,h1,h2.mono k,h3.mono k,h4⟩
theorem QR.qi{b k:Nat}{s:AD}{v:AV}{q:Rat}(h:QR b s v q)(hq:QH q k):QI s v q k:=by
 obtain⟨m,d,h1,h2,h3,_⟩:=h
 exact⟨_,m,d,_,_,h1,h2.n32,h3.n32,AT _,AT _,BL hq.1,BL hq.2,by rw[AZ,AZ];exact lX q⟩
theorem QR.shape{b:Nat}{s:AD}{v:AV}{q:Rat}(h:QR b s v q):∃x a n c b m d,v=.agg [.bool x,.slice a n c,.slice b m d]:=by
 obtain⟨m,d,rfl,h2,h3,_⟩:=h
 obtain⟨a,n,c,rfl⟩:=h2.n32.shape
 obtain⟨b,m,d,rfl⟩:=h3.n32.shape
 exact⟨_,_,_,_,_,_,_,rfl⟩
theorem QI.qh{s:AD}{v:AV}{q:Rat}{k:Nat}(h:QI s v q k)(hk:1≤k):QH q k:=by
  obtain⟨neg,m,d,lm,ld,rfl,h2,h3,h4,h5,h6,h7,rfl⟩:=h
  constructor
  · rw[Nl,Int.natAbs_ediv_of_dvd (Int.ofNat_dvd_left.2 (by rw[EM];exact Nat.gcd_dvd_left _ _)),EM]
    exact uH (ux _ _) (HR h4 h6)
  · rw [TT]
    refine uH (ux _ _) ?_
    unfold Ef
    split
    · exact Jr (j:=1) (by decide) hk
    · exact HR h5 h7
theorem gC(neg:Bool)(m g:Nat)(h:g ∣ m):CE neg (m / g)=CE neg m / (g:Int):=by
 unfold CE
 cases neg with
 | false=>rw[if_neg (by decide),if_neg (by decide)];exact Int.natCast_ediv m g
 | true=>rw[if_pos rfl,if_pos rfl,Int.neg_ediv_of_dvd (Int.natCast_dvd_natCast.2 h),Int.natCast_ediv]
theorem gN(z:Int){D:Nat}(hD:D≠0):(mkRat z D).num=CE (decide (z<0)) (z.natAbs / z.natAbs.gcd D):=by
 rw[← RQ hD _ _ (Gx z),Nl,gC _ _ _ (Nat.gcd_dvd_left _ _)]
 unfold Ef
 rw[if_neg hD]
theorem pT(z:Int){D:Nat}(hD:D≠0):(mkRat z D).den=D / z.natAbs.gcd D:=by
 rw[← RQ hD _ _ (Gx z),TT]
 unfold Ef
 rw[if_neg hD]
section
variable{E:Ck}{s:AD}
theorem gu(hE:Ak E){K:AV→AD→Prop}(hK:∀s' v,A9 s.next s s'→NR s.next s' v (AK 1)→K v s'):WF E 193 [] K s:=by
 refine hE.go jc (by decide) rfl ?_
 simp only[qV,au,ay,Qa,Qb,Qc,Qd,Qf,Qh,Qi,Qj,Qk,Ql,Qm,Qn,true_and,Qo,Qs,Qu,Ra,Rg,Ri,Rj,Rk,Rm,Yc]
 refine X1 hE (n:=1) (by decide) fun s' v' o r=>?_
 simp only[Qd,Qn,true_and,Qo,Qq]
 exact hK s' v' o r
theorem EK{s2:AD}{p:Nat}{cs0:List AV}(h0:cs0.length=3){x:Bool}{a b:Option (Nat×Nat)}{n m:Nat}{c d:Option Nat}(hg:s2.heap.get p=some (R 81 0 false cs0)):
  AY Tryz.prog s2 81 (.ptr (some (p,0))) (.agg [.bool x,.slice a n c,.slice b m d])=some (setObj s2 p (BQ x (.slice a n c) (.slice b m d)))∧AG Tryz.prog (setObj s2 p (BQ x (.slice a n c) (.slice b m d))) 81 (.ptr (some (p,0)))=some (.agg [.bool x,.slice a n c,.slice b m d]):=
 ⟨A8 DG hg h0 rfl rfl (by simp),Al GA DG (Wv _ _ _) rfl⟩
theorem FL(hE:Ak E){vn vd:AV}{z:Int}{kn:Nat}{ld:List Nat}(hn:BI s vn z kn)(hd:Cl s vd ld)(hkn:kn≤1000000000)(hld:ld.length≤1000000000)(hsd:BZ ld)(h0:AC ld≠0){K:AV→AD→Prop}
  (hK:∀s' v,A9 s.next s s'→QR s.next s' v (mkRat z (AC ld))→K v s'):WF E 190 [vn,vd] K s:=by
 have zabs:=hn.abs
 obtain⟨neg,mg,l,rfl,hm,hs,hl,hz⟩:=hn
 obtain⟨a,n,c,rfl⟩:=hm.shape
 obtain⟨ad,nd,cd,rfl⟩:=hd.shape
 refine hE.go jZ (by decide) rfl ?_
 obtain⟨n1,o1,g1,g2⟩:=OT s (BX neg (.slice a n c)) ZQ
 simp only[qS,aT,aU,Wz,Xg,Dz,Xb,Bd,FC,Fd,Qa,Qb,Qc,Qd,Qf,Qh,Qj,Qk,Ql,Qm,Qn,true_and,Qo,Qp,Qq,Qr,Qs,Qu,Ra,Rg,Ri]
 generalize newObj (newObj s (BX neg (.slice a n c))) ZQ=s1 at *
 have l1:=Af (P:=Tryz.prog) (t:=4) (o:=0+0) T5 g1 rfl
 have l2:=Af (P:=Tryz.prog) (t:=77) (o:=0+1) E7 g1 rfl
 simp only[l1,l2,Qm]
 refine IS hE (hm.old o1) (by omega) hs fun s2 v2 o2 r2=>?_
 rw[hz]at r2
 have h2:=o2.1
 have f1:=(o2.2 s.next (by omega)).trans g1
 have f2:=(o2.2 (s.next+1) (by omega)).trans g2
 obtain⟨m2,rfl,r2⟩:=r2
 obtain⟨a2,n2,c2,rfl⟩:=r2.n32.shape
 have st:=A8 (P:=Tryz.prog) (t:=79) (cs:=[.bool (decide (z<0)),.slice a2 n2 c2]) CS f1 rfl rfl rfl (by simp)
 generalize hs3:setObj s2 s.next (R 79 0 false [.bool (decide (z<0)),.slice a2 n2 c2])=s3 at st
 have n3:s3.next=s2.next:=by rw[← hs3];rfl
 have o3:A9 s.next s s3:=by rw[← hs3];exact(o1.trans (o2.mono o1.1)).set (tJ _) _
 have k1:s3.heap.get s.next=some (BX (decide (z<0)) (.slice a2 n2 c2)):=by rw[← hs3,Wv]
 have k2:s3.heap.get (s.next+1)=some ZQ:=by rw[← hs3,Ww _ (by omega)];exact f2
 have w2:NR s1.next s3 (.slice a2 n2 c2) (AK z.natAbs):=by rw[← hs3];exact r2.set (by omega) _
 have l3:=Af (P:=Tryz.prog) (t:=77) (o:=0+1) E7 k1 rfl
 have zl:=BL zabs
 simp only[aV,st,l3,Fd,Xx,Xz,Qb,Qc,Qd,Qf,Qh,Qj,Qk,Qm,Qn,true_and,Qq,Qr,Qs,Qu]
 refine pN hE w2.n32 (hd.old o3) (by omega) (by omega) (AT _) hsd fun s4 v4 o4 r4=>?_
 rw[AZ]at r4
 have h4:=o4.1
 have e1:=(o4.2 s.next (by omega)).trans k1
 have l4:=Af (P:=Tryz.prog) (t:=77) (o:=0+1) E7 e1 rfl
 have hgp:z.natAbs.gcd (AC ld)≠0:=fun e=>h0 (Nat.eq_zero_of_gcd_eq_zero_right e)
 have hgl:(AK (z.natAbs.gcd (AC ld))).length≤1000000000:=tN (GQ (Nat.gcd_le_right _ (by omega))) (tN (BL (HR hsd (tJ _))) hld)
 simp only[aW,l4,Fd,Qb,Qc,Qd,Qf,Qh,Qj,Qk,Qm,Qn,true_and,Qo,Qp,Qq,Qr,Qs,Qu,Za]
 refine W9 hE (w2.n32.old o4) r4.n32 (by omega) hgl (AT _) (AT _) (fun e=>absurd (by rw[AZ]at e;exact e) hgp) fun _ s5 vq vr o5 rq _ rz=>?_
 rw[AZ,AZ]at rq rz
 have h5:=o5.1
 simp only[aX,Za,Qb,Qc,Qd,Qf,Qh,Qj,Qk,Qm,Qn,true_and,Qo,Qp,Qq,Qr,Qs,Qu,Za,Yd,Ye]
 have o35:A9 s.next s s5:=o3.trans ((o4.trans (o5.mono h4)).mono o3.1)
 refine fD hE (hd.old o35) (r4.n32.old o5) (by omega) hgl hsd (AT _) (fun e=>absurd (by rw[AZ]at e;exact e) hgp) fun _ s6 vq2 vr2 o6 rq2 _=>?_
 rw[AZ]at rq2
 have h6:=o6.1
 have e2:=(o6.2 s.next (by omega)).trans ((o5.2 s.next (by omega)).trans e1)
 have l5:=Af (P:=Tryz.prog) (t:=4) (o:=0+0) T5 e2 rfl
 have hul:(AK (z.natAbs / z.natAbs.gcd (AC ld))).length≤1000000000:=tN (GQ (ux _ _)) (by omega)
 simp only[aY,l5,FC,Qb,Qc,Qd,Qf,Qh,Qj,Qk,Qm,Qn,true_and,Qo,Qp,Qq,Qr,Qs,Qu,Yd,Ye]
 refine jJ hE (rq.n32.old o6) hul (AT _) fun s7 v7 o7 r7 r0=>?_
 rw[AZ,← gN z h0]at r7
 have h7:=o7.1
 have e3:s7.heap.get (s.next+1)=some ZQ:=by rw[o7.2 _ (by omega),o6.2 _ (by omega),o5.2 _ (by omega),o4.2 _ (by omega)];exact k2
 obtain⟨m7,rfl,r7⟩:=r7
 have hz0:(mkRat z (AC ld)).num=0→m7=.slice none 0 (some 0):=fun h=>by
  rw[gN z h0]at h
  have h1:z.natAbs / z.natAbs.gcd (AC ld)=0:=by have:=congrArg Int.natAbs h;rw[EM]at this;exact this
  have h2:z.natAbs<z.natAbs.gcd (AC ld):=(Nat.div_eq_zero_iff_lt (by omega)).1 h1
  have h3:=r0 (rz h2)
  injection h3 with h3
  injection h3 with _ h3
  injection h3 with h3 _
 have rd:=rq2.old o7
 rw[← pT z h0]at rd
 have hdj:∀j,Ci m7=some j→Ci vq2≠some j:=fun j hj h=>by
  have q1:=(r7.lt hj).1
  have q2:=(rq2.lt h).2
  omega
 obtain⟨a7,n7,c7,rfl⟩:=r7.n32.shape
 obtain⟨b7,m7,d7,rfl⟩:=rd.n32.shape
 obtain⟨st,ld'⟩:=EK (cs0:=[.bool false,.slice none 0 (some 0),.slice none 0 (some 0)]) rfl (x:=decide ((mkRat z (AC ld)).num<0)) (a:=a7) (n:=n7) (c:=c7) (b:=b7) (m:=m7) (d:=d7) e3
 simp only[jF,st,ld',AX,Xx,Xz,Qd,Qj,Qm,Qn,true_and,Qq,Qr,Rj,Rm,Yc]
 refine hK _ _ ((o35.trans ((o6.trans (o7.mono h6)).mono o35.1)).set (by omega) _) ?_
 refine QR.mono (b:=s5.next) (QR.set ⟨_,_,rfl,r7.mono h6,rd,hdj,hz0⟩ (by omega) _) (by omega)
end
section
variable{E:Ck}{s:AD}
theorem HB       (hE : Ak    E) {v : AV} {q : Rat} {k : Nat} (hv : QI s v q k) (hk : k ≤ 1000000000) {K : AV → AD  → Prop} (hK : ∀ s' v, A9  s.next s s' → QR s.next s' v q → K v s') : WF E 189 [v] K s := by
  obtain⟨neg,m,d,lm,ld,rfl,hm,hd,hsm,hsd,hlm,hld,rfl⟩:=hv
  obtain⟨a,n,c,rfl⟩:=hm.shape
  obtain⟨b,nd,cd,rfl⟩:=hd.shape
  refine hE.go jY (by decide) rfl ?_
  obtain⟨n1,o1,g1,g2⟩:=OT s (BQ neg (.slice a n c) (.slice b nd cd)) ZQ
  simp only[qR,aP,aQ,Wz,Xg,Dz,Xb,Bd,U1,Qa,Qb,Qc,Qd,Qf,Qh,Qj,Qk,Ql,Qm,Qn,true_and,Qo,Qp,Qq,Qr,Qs,Qu,Ra,Rg]
  generalize newObj (newObj s (BQ neg (.slice a n c) (.slice b nd cd))) ZQ=s1 at *
  have l1:=Af (P:=Tryz.prog) (t:=77) (o:=0+2) E7 g1 rfl
  simp only[l1,Qm]
  refine CA hE (hd.old o1) (by omega) fun s2 v2 o2 r2=>?_
  rw[BN hsd]at r2
  have h2:=o2.1
  have f1:=(o2.2 s.next (by omega)).trans g1
  have f2:=(o2.2 (s.next+1) (by omega)).trans g2
  have o12:=o1.trans (o2.mono o1.1)
  obtain⟨a2,c2,e2,_⟩:=r2.n32
  have hN:∀ {s'},A9 s.next s s'→BI s' (.agg [.bool neg,.slice a n c]) (CE neg (AC lm)) k:=fun o=>⟨neg,_,lm,rfl,hm.old o,hsm,hlm,rfl⟩
  have e3:∀z:Int,AP Tryz.prog .eql 3 (iv ((AK (AC ld)).length:Int)) (iv 0)=some (.bool (decide (((AK (AC ld)).length:Int)=0))):=fun _=>Wb ..
  have fin:∀ (s3:AD) (v3:AV) (D:Nat),A9 s2.next s2 s3→NR s1.next s3 v3 (AK D)→D=Ef (AC ld)→(AK D).length≤1000000000→∀K2:AV→AD→Prop,
      (∀s4 x4 a4 n4 c4 b4 m4 d4,AY Tryz.prog s4 81 (.ptr (some (s.next+1,0))) (.agg [.bool x4,.slice a4 n4 c4,.slice b4 m4 d4])=some (setObj s4 (s.next+1) (BQ x4 (.slice a4 n4 c4) (.slice b4 m4 d4))) →
        AG Tryz.prog (setObj s4 (s.next+1) (BQ x4 (.slice a4 n4 c4) (.slice b4 m4 d4))) 81 (.ptr (some (s.next+1,0)))=some (.agg [.bool x4,.slice a4 n4 c4,.slice b4 m4 d4]) →
        K (.agg [.bool x4,.slice a4 n4 c4,.slice b4 m4 d4]) (setObj s4 (s.next+1) (BQ x4 (.slice a4 n4 c4) (.slice b4 m4 d4)))→K2 (.agg [.bool x4,.slice a4 n4 c4,.slice b4 m4 d4]) s4) →
      WF E 190 [.agg [.bool neg,.slice a n c],v3] K2 s3:=by
    intro s3 v3 D o3 r3 hD hlen K2 hK2
    have o13:=o12.trans (o3.mono o12.1)
    refine FL hE (hN o13) r3.n32 hk hlen (AT _) (by rw[AZ,hD];exact JT _) fun s4 v4 o4 r4=>?_
    have h3:=o3.1
    rw[AZ,hD]at r4
    have k4:s4.heap.get (s.next+1)=some ZQ:=by rw[o4.2 _ (by omega),o3.2 _ (by omega)];exact f2
    obtain⟨x4,a4,n4,c4,b4,m4,d4,rfl⟩:=r4.shape
    obtain⟨st,ld⟩:=EK (cs0:=[.bool false,.slice none 0 (some 0),.slice none 0 (some 0)]) rfl (x:=x4) (a:=a4) (n:=n4) (c:=c4) (b:=b4) (m:=m4) (d:=d4) k4
    exact hK2 _ _ _ _ _ _ _ _ st ld (hK _ _ ((o13.trans (o4.mono o13.1)).set (by omega) _) ((r4.set (by omega) _).mono (by omega)))
  have ldN:∀s3,A9 s2.next s2 s3→AG Tryz.prog s3 79 (.ptr (some (s.next,0+0)))=some (.agg [.bool neg,.slice a n c]):=fun s3 o3=>Bq (o:=0) (n:=2) ER CS ((o3.2 s.next (by omega)).trans f1) (by simp)
  by_cases h0:AC ld=0
  · have e4 : (AK    (AC   ld)).length = 0 := by rw [h0, BC];         rfl
    have d1:decide (((AK (AC ld)).length:Int)=0)=true:=decide_eq_true (by omega)
    subst e2
    simp only[UK,aR,AW Tryz.underlying77,e3 0,d1,Qb,Qc,Qd,Qf,Qh,Qi,Qj,Qk,Qm,Qn,true_and,Qo,Qp,Qq,Qr,Qs,Qu,Qy,Ri]
    refine gu hE fun s3 v3 o3 r3=>?_
    simp only[UL,M4,ldN s3 o3,Qb,Qc,Qd,Qf,Qh,Qj,Qk,Qm,Qn,true_and,Qo,Qp,Qq,Qr,Qs,Qu]
    refine fin s3 v3 1 o3 (r3.mono h2) (by rw[h0];rfl) (tN (BL (k:=1) (by decide)) (by omega)) _ fun s4 x4 a4 n4 c4 b4 m4 d4 st ld hk=>?_
    simp only[st,ld,AX,Xx,Xz,Qd,Qj,Qm,Qn,true_and,Qq,Qr,Rj,Rm,Yc]
    exact hk
  · have e4 := List.length_pos_iff.2 (Cp       h0)
    have d1:decide (((AK (AC ld)).length:Int)=0)=false:=decide_eq_false (by omega)
    have hr:=r2
    subst e2
    simp only[UK,UL,AW Tryz.underlying77,e3 0,d1,M4,ldN s2 (A9.refl _ _),Qb,Qc,Qd,Qf,Qh,Qi,Qj,Qk,Qm,Qn,true_and,Qo,Qp,Qq,Qr,Qs,Qu,Qz,Ri]
    refine fin s2 _ (AC ld) (A9.refl _ _) r2 (by unfold Ef;rw[if_neg h0]) (tN (BL (HR hsd (tJ _))) (by omega)) _ fun s4 x4 a4 n4 c4 b4 m4 d4 st ld hk=>?_
    simp only[st,ld,AX,Xx,Xz,Qd,Qj,Qm,Qn,true_and,Qq,Qr,Rj,Rm,Yc]
    exact hk
theorem YU(hE:Ak E){v:AV}{q:Rat}{k:Nat}(hv:QI s v q k)(hk:k≤1000000000){g:FuncId}{first cap:List AV}{K:AV→AD→Prop}
  (hf:∀s1 v1,A9 s.next s s1→s.next+2≤s1.next→QR (s.next+2) s1 v1 q→WF E g (first++([v1]++cap)) (fun r s2=>∃cs,r=.agg cs∧cs.length=3∧Ag cs=true∧s2.heap.get (s.next+1)=s1.heap.get (s.next+1)∧K r (setObj s2 (s.next+1) (R 81 0 false cs))) s1):
  WF E 228 [v,.func g first cap] K s:=by
 obtain⟨x,a,n,c,b,m,d,rfl⟩:=hv.shape
 refine hE.go js (by decide) rfl ?_
 obtain⟨n1,o1,g1,g2⟩:=OT s (BQ x (.slice a n c) (.slice b m d)) ZQ
 simp only[qu,cY,cZ,Wz,Xg,Dz,Xb,Bd,Qa,Qb,Qc,Qd,Qe,Qf,Qh,Qj,Qk,Ql,Qm,Qn,true_and,Qo,Qp,Qq,Qr,Qs,Qu,Ra,Rg,Ri]
 generalize newObj (newObj s (BQ x (.slice a n c) (.slice b m d))) ZQ=s1 at *
 have l1:=Al (P:=Tryz.prog) (t:=81) GA DG g1 rfl
 simp only[l1,Qm]
 refine HB hE (hv.old o1) hk fun s2 v2 o2 r2=>?_
 have h2:=o2.1
 simp only[Qd,Qn,true_and,Qq,Qr]
 refine(hf s2 v2 (o1.trans (o2.mono o1.1)) (by omega) (r2.mono (by omega))).mono ?_
 rintro r s3 ⟨cs,rfl,hl,hc,hg,hend⟩
 have g3:s3.heap.get (s.next+1)=some ZQ:=by rw[hg,o2.2 _ (by omega)];exact g2
 have st:=A8 (P:=Tryz.prog) (t:=81) (cs:=cs) DG g3 rfl hl hc (by rintro rfl;cases hl)
 have ld:=Al (P:=Tryz.prog) (t:=81) (s:=setObj s3 (s.next+1) (R 81 0 false cs)) (i:=s.next+1) GA DG (Wv _ _ _) hl
 simp only[st,ld,AX,Xx,Xz,Qd,Qj,Qm,Qn,true_and,Qq,Qr,Rj,Rm,Yc]
 exact hend
end
theorem QR.bi{b k:Nat}{s:AD}{v:AV}{q:Rat}(h:QR b s v q)(hq:QH q k):∃m d,v=.agg [.bool (decide (q.num<0)),m,d]∧BI s (.agg [.bool (decide (q.num<0)),m]) q.num k∧Cl s d (AK q.den)∧(AK q.den).length≤k:=by
 obtain⟨m,d,rfl,h2,h3,_⟩:=h
 exact⟨m,d,rfl,BR.bi (b:=b) ⟨m,rfl,h2⟩ hq.1,h3.n32,BL hq.2⟩
section
variable{E:Ck}{s:AD}
theorem lA(hE:Ak E){v:AV}{z:Int}{k:Nat}(hv:BI s v z k)(hk:k≤1000000000){K:AV→AD→Prop}(hK:∀s' v,A9 s.next s s'→QR s.next s' v (z:Rat)→K v s'):WF E 166 [v] K s:=by
 obtain⟨x,a,n,c,rfl⟩:=hv.shape
 refine hE.go jT (by decide) rfl ?_
 obtain⟨n1,o1,g1,g2⟩:=OT s (BX x (.slice a n c)) ZQ
 simp only[qN,Z2,Z3,Wz,Xg,Dz,Xb,Bd,Qa,Qb,Qc,Qd,Qf,Qh,Qj,Qk,Ql,Qm,Qn,true_and,Qo,Qp,Qq,Qr,Qs,Qu,Ra,Rg,Ri]
 generalize newObj (newObj s (BX x (.slice a n c))) ZQ=s1 at *
 have l1:=Al (P:=Tryz.prog) (t:=79) ER CS g1 rfl
 simp only[l1,Qm]
 refine gu hE fun s2 v2 o2 r2=>?_
 have h2:=o2.1
 have f1:=(o2.2 s.next (by omega)).trans g1
 have f2:=(o2.2 (s.next+1) (by omega)).trans g2
 refine⟨⟨BK (by simp only[Qj,Qk,Qq,Qr];exact Al ER CS f1 rfl) (JW _ _ _ _),trivial⟩,?_⟩
 simp only[Qq,Qr]
 have o12:=o1.trans (o2.mono o1.1)
 refine FL hE (hv.old o12) r2.n32 hk (tN (BL (k:=1) (by decide)) (by omega)) (AT _) (by rw[AZ];decide) fun s3 v3 o3 r3=>?_
 rw[AZ,show mkRat z 1=(z:Rat)from by rw[Rat.mkRat_one]]at r3
 obtain⟨x3,a3,n3,c3,b3,m3,d3,rfl⟩:=r3.shape
 obtain⟨st,ld⟩:=EK (cs0:=[.bool false,.slice none 0 (some 0),.slice none 0 (some 0)]) rfl (x:=x3) (a:=a3) (n:=n3) (c:=c3) (b:=b3) (m:=m3) (d:=d3) ((o3.2 (s.next+1) (by omega)).trans f2)
 simp only[st,ld,AX,Xx,Xz,Qd,Qj,Qm,Qn,true_and,Qq,Qr,Rj,Rm,Yc]
 exact hK _ _ ((o12.trans (o3.mono o12.1)).set (by omega) _) ((r3.set (by omega) _).mono (by omega))
theorem hX(hE:Ak E){n:Int}(h:n=0∨n=1∨n=-1){K:AV→AD→Prop}(hK:∀s' v,A9 s.next s s'→QR s.next s' v (n:Rat)→K v s'):WF E 130 [iv n] K s:=by
 refine hE.go jQ (by decide) rfl ?_
 obtain⟨n1,o1,g1⟩:=Hi s ZQ
 simp only[qK,Zv,Zw,Dz,Xb,Qa,Qb,Qc,Qd,Qf,Qh,Qj,Qk,Ql,Qm,Qn,true_and,Qo,Qp,Qq,Qs,Qu,Ra,Rg,Ri]
 generalize newObj s ZQ=s1 at *
 refine SL hE h fun s2 v2 o2 r2=>?_
 have h2:=o2.1
 simp only[Qd,Qn,true_and,Qq]
 refine lA hE (r2.bi (k:=1) (by rcases h with rfl | rfl | rfl<;>decide)) (by omega) fun s3 v3 o3 r3=>?_
 obtain⟨x3,a3,n3,c3,b3,m3,d3,rfl⟩:=r3.shape
 obtain⟨st,ld⟩:=EK (cs0:=[.bool false,.slice none 0 (some 0),.slice none 0 (some 0)]) rfl (x:=x3) (a:=a3) (n:=n3) (c:=c3) (b:=b3) (m:=m3) (d:=d3) ((o3.2 s.next (by omega)).trans ((o2.2 s.next (by omega)).trans g1))
 have o12:=o1.trans (o2.mono o1.1)
 simp only[st,ld,AX,Xx,Xz,Qd,Qj,Qm,Qn,true_and,Qq,Qr,Rj,Rm,Yc]
 exact hK _ _ ((o12.trans (o3.mono o12.1)).set (by omega) _) ((r3.set (by omega) _).mono (by omega))
theorem hY(hE:Ak E){v:AV}{q:Rat}{k:Nat}(hv:QI s v q k)(hk:k≤1000000000){K:AV→AD→Prop}(hK:∀s',A9 s.next s s'→K (iv (Lr q.num)) s'):WF E 196 [v] K s:=by
 obtain⟨neg,m,d,lm,ld,rfl,hm,hd,hsm,hsd,hlm,hld,hqv⟩:=hv
 obtain⟨a,n,c,rfl⟩:=hm.shape
 obtain⟨b,nd,cd,rfl⟩:=hd.shape
 refine hE.go jd (by decide) rfl ?_
 obtain⟨n1,o1,g1⟩:=Hi s (BQ neg (.slice a n c) (.slice b nd cd))
 simp only[qW,az,bA,Wz,Xg,Xb,M4,Qa,Qb,Qc,Qd,Qf,Qh,Qi,Qj,Qk,Ql,Qm,Qn,true_and,Qo,Qp,Qq,Qr,Qs,Qu,Ra,Rg,Ri,Rj,Rk,Rm,Yc]
 generalize newObj s (BQ neg (.slice a n c) (.slice b nd cd))=s1 at *
 have l1:AG Tryz.prog s1 79 (.ptr (some (s.next,0+0)))=some (.agg [.bool neg,.slice a n c]):=Bq (o:=0) (n:=2) ER CS g1 (by simp)
 simp only[l1,Qm]
 have hbi:BI s1 (.agg [.bool neg,.slice a n c]) (CE neg (AC lm)) k:=⟨neg,_,lm,rfl,hm.old o1,hsm,hlm,rfl⟩
 refine Zu hE hbi hk fun s2 o2=>?_
 have hs:Lr (CE neg (AC lm))=Lr q.num:=by
  rw[← hqv,Nl]
  have hg:((AC lm).gcd (Ef (AC ld)):Nat)≠0:=fun e=>JT _ (Nat.eq_zero_of_gcd_eq_zero_right e)
  have hdv:((((AC lm).gcd (Ef (AC ld)):Nat)):Int) ∣ CE neg (AC lm):=Int.ofNat_dvd_left.2 (by rw[EM];exact Nat.gcd_dvd_left _ _)
  obtain⟨w,hw⟩:=hdv
  have hgp:(0:Int)<(((AC lm).gcd (Ef (AC ld)):Nat):Int):=by omega
  rw[hw,Int.mul_ediv_cancel_left _ (by omega)]
  generalize ((((AC lm).gcd (Ef (AC ld)):Nat)):Int)=G at *
  rcases Ve w with⟨e1,e2⟩ | ⟨e1,e2⟩ | ⟨e1,e2⟩
  ·rw[e2];unfold Lr;rw[if_pos (Int.mul_neg_of_pos_of_neg hgp e1)]
  ·rw[e2,e1,Int.mul_zero];rfl
  ·have:=Int.mul_pos hgp e1
   rw[e2];unfold Lr;rw[if_neg (by omega),if_pos this]
 rw[hs]
 simp only[Qd,Qn,true_and,Qo,Qp,Qq,Qr]
 exact hK s2 (o1.trans (o2.mono o1.1))
end
theorem qH:Ek Tryz.prog 250=some false:=by kernel_rfl
section
variable{E:Ck}{s:AD}
theorem ij(hE:Ak E){vn vd:AV}{z:Int}{kn kd D:Nat}(hn:BI s vn z kn)(hd:Cl s vd (AK D))(hdl:(AK D).length≤kd)(hk:kn+kd+1≤1000000000){K:AV→AD→Prop}(hK:∀s' v,A9 s.next s s'→BR s.next s' v (z * (D:Int))→K v s'):WF E 231 [vn,vd] K s:=by
 have hn0:=hn
 obtain⟨neg,mg,l,rfl,hm,hs,hl,hz⟩:=hn
 obtain⟨a,n,c,rfl⟩:=hm.shape
 refine hE.go jw (by decide) rfl ?_
 obtain⟨n1,o1,g1,g2⟩:=OT s (BX neg (.slice a n c)) ZI
 simp only[qx,cn,co,Wz,Xg,ET,Xb,Bd,Qa,Qb,Qc,Qd,Qf,Qh,Qi,Qj,Qk,Ql,Qm,Qn,true_and,Qo,Qp,Qq,Qr,Qs,Qu,Ra,Rg,Ri]
 generalize newObj (newObj s (BX neg (.slice a n c))) ZI=s1 at *
 have l1:=Al (P:=Tryz.prog) (t:=79) ER CS g1 rfl
 simp only[l1,Qm]
 refine IS hE (hd.old o1) (by omega) (AT _) fun s2 v2 o2 r2=>?_
 rw[AZ,show CE false D=(D:Int)from rfl]at r2
 have h2:=o2.1
 have f1:=(o2.2 s.next (by omega)).trans g1
 have f2:=(o2.2 (s.next+1) (by omega)).trans g2
 refine⟨⟨BK (by simp only[Qj,Qk,Qq,Qr];exact Al ER CS f1 rfl) (JW _ _ _ _),trivial⟩,?_⟩
 have o12:=o1.trans (o2.mono o1.1)
 have hb2:BI s2 v2 (D:Int) kd:=by
  obtain⟨m2,rfl,r2'⟩:=r2
  exact⟨_,m2,_,rfl,r2'.n32,AT _,by simpa using hdl,by rw[AZ,Gx]⟩
 obtain⟨x2,a2,n2,c2,rfl⟩:=hb2.shape
 obtain⟨n3,o3,g3⟩:=Hi s2 (R 79 2 false [.bool neg,.slice a n c,.bool x2,.slice a2 n2 c2])
 simp only[Ki,Xd,Qm,Qq,Qr,Yc]
 generalize newObj s2 (R 79 2 false [.bool neg,.slice a n c,.bool x2,.slice a2 n2 c2])=s3 at *
 refine V2 hE (hn0.old (o12.trans (o3.mono o12.1))) (hb2.old o3) hk (xc:=[.bool neg,.slice a n c]) (yc:=[.bool x2,.slice a2 n2 c2]) rfl rfl (by omega) g3 fun s4 v4 o4 r4=>?_
 have f4:s4.heap.get (s.next+1)=some ZI:=by rw[o4.2 _ (by omega),o3.2 _ (by omega)];exact f2
 obtain⟨m4,rfl,r4⟩:=r4
 obtain⟨a4,n4,c4,rfl⟩:=r4.n32.shape
 obtain⟨st,ld⟩:=GC (s1:=s) (x:=decide (z * (D:Int)<0)) (a:=a4) (n:=n4) (c:=c4) f4
 simp only[st,ld,AX,Xx,Xz,Qd,Qj,Qm,Qn,true_and,Qq,Qr,Rj,Rm,Yc]
 have o13:=o12.trans (o3.mono o12.1)
 exact hK _ _ ((o13.trans (o4.mono o13.1)).set (by omega) _) (BR.mono (b:=s3.next) ⟨_,rfl,r4.set (by omega) _⟩ (by omega))
theorem ic(hE:Ak E){g:FuncId}{first cap:List AV}(heq:FT (.func g first cap) (.func g first cap)=true){v va:AV}{qa qb:Rat}{ka kb ba bb pf pa:Nat}{ca:List AV}(hv:QR bb s v qb)(hva:QR ba s va qa)(hca:va=.agg ca)(hqa:QH qa ka)(hqb:QH qb kb)(hk:ka+kb+1≤1000000000)
  (hpf:pf<s.next) (hpa:pa<s.next) (gf:s.heap.get pf=some (R 250 0 false [.func g first cap])) (ga:s.heap.get pa=some (R 81 0 false ca)) {K:AV→AD→Prop}
  (hf:∀s1 vx vy vd,A9 s.next s s1→s.next+2≤s1.next→BR (s.next+2) s1 vx (qa.num * (qb.den:Int))→BR (s.next+2) s1 vy (qb.num * (qa.den:Int))→NR (s.next+2) s1 vd (AK (qa.den * qb.den)) →
   WF E g (first++([vx,vy,vd]++cap)) (fun r s2=>∃cs,r=.agg cs∧cs.length=3∧Ag cs=true∧s2.heap.get (s.next+1)=s1.heap.get (s.next+1)∧K r (setObj s2 (s.next+1) (R 81 0 false cs))) s1):
  WF E 230 [v,.ptr (some (pf,0)),.ptr (some (pa,0))] K s:=by
 obtain⟨ma,da,e1,hna,hda,hdla⟩:=hva.bi hqa
 obtain⟨mb,db,rfl,hnb,hdb,hdlb⟩:=hv.bi hqb
 rw[hca]at e1
 injection e1 with e1
 subst e1
 obtain⟨_,aa,an,ac,ea⟩:=hna.shape
 injection ea with ea
 injection ea with ea1 ea
 injection ea with ea2 _
 subst ea2
 obtain⟨_,xa,xn,xc,eb⟩:=hnb.shape
 injection eb with eb
 injection eb with eb1 eb
 injection eb with eb2 _
 subst eb2
 obtain⟨aad,and_,acd,rfl⟩:=hda.shape
 obtain⟨xad,xnd,xcd,rfl⟩:=hdb.shape
 refine hE.go jv (by decide) rfl ?_
 obtain⟨n1,o1,g1,g2⟩:=OT s (BQ (decide (qb.num<0)) (.slice xa xn xc) (.slice xad xnd xcd)) ZQ
 simp only[qw,ck,cl,cm,Wz,Xg,Dz,Xb,Bd,M4,U1,Qa,Qb,Qc,Qd,Qe,Qf,Qh,Qi,Qj,Qk,Ql,Qm,Qn,true_and,Qo,Qp,Qq,Qr,Qs,Qu,Ra,Rg,Ri]
 generalize newObj (newObj s (BQ (decide (qb.num<0)) (.slice xa xn xc) (.slice xad xnd xcd))) ZQ=s1 at *
 have lf:∀ {s'},A9 s1.next s1 s'→AG Tryz.prog s' 250 (.ptr (some (pf,0)))=some (.func g first cap):=fun o=>Af (o:=0) qH (((o.2 pf (by omega)).trans (o1.2 pf hpf)).trans gf) rfl
 have laN:∀ {s'},A9 s1.next s1 s'→AG Tryz.prog s' 79 (.ptr (some (pa,0+0)))=some (.agg [.bool (decide (qa.num<0)),.slice aa an ac]):=fun o=>Bq (o:=0) (n:=2) ER CS (((o.2 pa (by omega)).trans (o1.2 pa hpa)).trans ga) (by simp)
 have laD:∀ {s'},A9 s1.next s1 s'→AG Tryz.prog s' 77 (.ptr (some (pa,0+2)))=some (.slice aad and_ acd):=fun o=>Af (o:=0+2) E7 (((o.2 pa (by omega)).trans (o1.2 pa hpa)).trans ga) rfl
 have lbN:∀ {s'},A9 s1.next s1 s'→AG Tryz.prog s' 79 (.ptr (some (s.next,0+0)))=some (.agg [.bool (decide (qb.num<0)),.slice xa xn xc]):=fun o=>Bq (o:=0) (n:=2) ER CS ((o.2 s.next (by omega)).trans g1) (by simp)
 have lbD:∀ {s'},A9 s1.next s1 s'→AG Tryz.prog s' 77 (.ptr (some (s.next,0+2)))=some (.slice xad xnd xcd):=fun o=>Af (o:=0+2) E7 ((o.2 s.next (by omega)).trans g1) rfl
 have or:=A9.refl s1.next s1
 simp only[lf or,laN or,laD or,lbN or,lbD or,Qm]
 refine ij hE (hna.old o1) (hdb.old o1) hdlb hk fun s2 v2 o2 r2=>?_
 have h2:=o2.1
 refine⟨⟨BK (by simp only[Qk,Qq,Qr];exact lbD o2) (C9 _ _ _),BK (by simp only[Qk,Qq,Qr];exact laD o2) (C9 _ _ _),BK (by simp only[Qk,Qq,Qr];exact laD o2) (C9 _ _ _),BK (by simp only[Qk,Qq,Qr];exact lbN o2) (JW _ _ _ _),BK (by simp only[Qj,Qk,Qq,Qr];exact lf o2) heq,trivial⟩,?_⟩
 simp only[Qq,Qr]
 have o12:=o1.trans (o2.mono o1.1)
 refine ij hE (hnb.old o12) (hda.old o12) hdla (by omega) fun s3 v3 o3 r3=>?_
 have h3:=o3.1
 have o23:A9 s1.next s1 s3:=o2.trans (o3.mono h2)
 refine⟨⟨BK (by simp only[Qk,Qq,Qr];exact lbD o23) (C9 _ _ _),BK (by simp only[Qk,Qq,Qr];exact laD o23) (C9 _ _ _),BK (by simp only[Qj,Qk,Qq,Qr];exact lf o23) heq,trivial⟩,?_⟩
 simp only[Qq,Qr]
 have o13:=o1.trans (o23.mono o1.1)
 refine VL hE (hda.old o13) (hdb.old o13) (by omega) (by omega) (AT _) (AT _) fun s4 v4 o4 r4=>?_
 have h4:=o4.1
 rw[AZ,AZ]at r4
 have o24:A9 s1.next s1 s4:=o23.trans (o4.mono o23.1)
 refine⟨⟨BK (by simp only[Qj,Qk,Qq,Qr];exact lf o24) heq,trivial⟩,?_⟩
 simp only[Qq,Qr]
 have o14:=o1.trans (o24.mono o1.1)
 refine(hf s4 v2 v3 v4 o14 (by omega) ((r2.old (o3.trans (o4.mono h3))).mono (by omega)) ((r3.old o4).mono (by omega)) (r4.mono (by omega))).mono ?_
 rintro r s5 ⟨cs,rfl,hl,hc,hg,hend⟩
 have g5:s5.heap.get (s.next+1)=some ZQ:=by rw[hg,o24.2 _ (by omega)];exact g2
 have st:=A8 (P:=Tryz.prog) (t:=81) (cs:=cs) DG g5 rfl hl hc (by rintro rfl;cases hl)
 have ld:=Al (P:=Tryz.prog) (t:=81) (s:=setObj s5 (s.next+1) (R 81 0 false cs)) (i:=s.next+1) GA DG (Wv _ _ _) hl
 simp only[st,ld,AX,Xx,Xz,Qd,Qj,Qm,Qn,true_and,Qq,Qr,Rj,Rm,Yc]
 exact hend
end
def sO(E:Ck)(s:AD)(qa qb:Rat)(g:FuncId)(first cap:List AV)(K:AV→AD→Prop):Prop:=
 ∀s1 vx vy vd,A9 s.next s s1→BR s.next s1 vx (qa.num * (qb.den:Int))→BR s.next s1 vy (qb.num * (qa.den:Int))→NR s.next s1 vd (AK (qa.den * qb.den)) →
  WF E g (first++([vx,vy,vd]++cap)) (fun r s2=>∃cs,r=.agg cs∧cs.length=3∧Ag cs=true∧(∀j,s.next≤j→j<s1.next→s2.heap.get j=s1.heap.get j) ∧
   ∀s3,s3.next=s2.next→(∀j,(j<s.next∨s1.next≤j)→s3.heap.get j=s2.heap.get j)→K r s3) s1
section
variable{E:Ck}{s:AD}
theorem lO(hE:Ak E){g:FuncId}{first cap:List AV}(heq:FT (.func g first cap) (.func g first cap)=true){v vb:AV}{qa qb:Rat}{ka kb ba pf pb:Nat}{cb:List AV}(hv:QR ba s v qa)(hvb:QI s vb qb kb)(hcb:vb=.agg cb)(hqa:QH qa ka)(hqb:QH qb kb)(hk:ka+kb+1≤1000000000)
  (hpf:pf<s.next) (hpb:pb<s.next) (gf:s.heap.get pf=some (R 250 0 false [.func g first cap])) (gb:s.heap.get pb=some (R 81 0 false cb)) {K:AV→AD→Prop} (hf:sO E s qa qb g first cap (fun r s3=>K r s3)):
  WF E 229 [v,.ptr (some (pb,0)),.ptr (some (pf,0))] (fun r s3=>(∃cs,r=.agg cs∧cs.length=3∧Ag cs=true)∧K r s3) s:=by
 obtain⟨xa,aa,an,ac,ab,am,ad,rfl⟩:=hv.shape
 obtain⟨xb,ba',bn,bc,bb,bm,bd,eb⟩:=hvb.shape
 rw[hcb]at eb
 injection eb with eb
 subst eb
 refine hE.go ju (by decide) rfl ?_
 obtain⟨n1,o1,g1,g2⟩:=OT s (BQ xa (.slice aa an ac) (.slice ab am ad)) ZQ
 simp only[qv,ce,cg,Wz,Xg,Dz,Xb,Bd,Qa,Qb,Qc,Qd,Qf,Qh,Qj,Qk,Ql,Qm,Qn,true_and,Qo,Qp,Qq,Qr,Qs,Qu,Ra,Rg,Ri]
 generalize newObj (newObj s (BQ xa (.slice aa an ac) (.slice ab am ad))) ZQ=s1 at *
 have l1:=Al (P:=Tryz.prog) (t:=81) GA DG ((o1.2 pb hpb).trans gb) rfl
 simp only[l1,uz,uY,Qm]
 rw[hcb]at hvb
 refine YU hE (hvb.old o1) (by omega) fun s2 v2 o2 h2 r2=>?_
 have o12:=o1.trans (o2.mono o1.1)
 refine ic hE heq (ka:=ka) (kb:=kb) (pf:=pf) (pa:=s.next) r2 (hv.old o12) rfl hqa hqb hk (by omega) (by omega) ((o12.2 pf hpf).trans gf) ((o2.2 s.next (by omega)).trans g1) fun s3 vx vy vd o3 h3 rx ry rd=>?_
 have o13:=o12.trans (o3.mono o12.1)
 refine(hf s3 vx vy vd o13 (rx.mono (by omega)) (ry.mono (by omega)) (rd.mono (by omega))).mono ?_
 rintro r s4 ⟨cs,rfl,hl,hc,hfr,hend⟩
 have q1:=hfr (s.next+1) (by omega) (by omega)
 have q2:=hfr (s1.next+1) (by omega) (by omega)
 have q3:=hfr (s2.next+1) (by omega) (by omega)
 refine⟨cs,rfl,hl,hc,q3,cs,rfl,hl,hc,?_,?_⟩
 ·rw[Ww _ (by omega),q2,o3.2 _ (by omega)]
 have g4:(setObj (setObj s4 (s2.next+1) (R 81 0 false cs)) (s1.next+1) (R 81 0 false cs)).heap.get (s.next+1)=some ZQ:=by
  rw[Ww _ (by omega),Ww _ (by omega),q1,o3.2 _ (by omega),o2.2 _ (by omega)];exact g2
 have st:=A8 (P:=Tryz.prog) (t:=81) (cs:=cs) DG g4 rfl hl hc (by rintro rfl;cases hl)
 have ld:=Al (P:=Tryz.prog) (t:=81) (s:=setObj (setObj (setObj s4 (s2.next+1) (R 81 0 false cs)) (s1.next+1) (R 81 0 false cs)) (s.next+1) (R 81 0 false cs)) (i:=s.next+1) GA DG (Wv _ _ _) hl
 simp only[st,ld,AX,Xx,Xz,Qd,Qj,Qm,Qn,true_and,Qq,Qr,Rj,Rm,Yc]
 refine⟨⟨cs,rfl,hl,hc⟩,hend _ rfl fun j hj=>?_⟩
 rw[Ww _ (by omega),Ww _ (by omega),Ww _ (by omega)]
theorem pz(hE:Ak E){g:FuncId}{first cap:List AV}(heq:FT (.func g first cap) (.func g first cap)=true){va vb:AV}{qa qb:Rat}{ka kb:Nat}(hva:QI s va qa ka)(hvb:QI s vb qb kb)(hka:1≤ka)(hkb:1≤kb)(hk:ka+kb+1≤1000000000)
    {K:AV→AD→Prop} (hf:sO E s qa qb g first cap K):WF E 209 [va,vb,.func g first cap] K s:=by
  have hqa:=hva.qh hka
  have hqb:=hvb.qh hkb
  have hva0:=hva
  have hvb0:=hvb
  obtain⟨xa,aa,an,ac,ab,am,ad,ea⟩:=hva.shape
  obtain⟨xb,ba',bn,bc,bb,bm,bd,eb⟩:=hvb.shape
  subst ea;subst eb
  refine hE.go jh (by decide) rfl ?_
  obtain⟨n3,o3,g1,g2,g3⟩:=ZA s (BQ xa (.slice aa an ac) (.slice ab am ad)) (BQ xb (.slice ba' bn bc) (.slice bb bm bd)) (R 250 0 false [.func g first cap])
  obtain⟨n4,o4,g4⟩:=Hi (newObj (newObj (newObj s (BQ xa (.slice aa an ac) (.slice ab am ad))) (BQ xb (.slice ba' bn bc) (.slice bb bm bd))) (R 250 0 false [.func g first cap])) ZQ
  simp only[qd,bX,bY,Wz,Xg,Xn,Dz,Xb,Bd,Qa,Qb,Qc,Qd,Qf,Qh,Qj,Qk,Ql,Qm,Qn,true_and,Qo,Qp,Qq,Qr,Qs,Qu,Ra,Rg,Ri]
  generalize hs3:newObj (newObj (newObj s (BQ xa (.slice aa an ac) (.slice ab am ad))) (BQ xb (.slice ba' bn bc) (.slice bb bm bd))) (R 250 0 false [.func g first cap])=s3 at *
  generalize hs1:newObj s3 ZQ=s1 at *
  have o1:A9 s.next s s1:=o3.trans (o4.mono o3.1)
  have n1:s1.next=s.next+4:=by omega
  have k1:=(o4.2 s.next (by omega)).trans g1
  have k2:=(o4.2 (s.next+1) (by omega)).trans g2
  have k3:=(o4.2 (s.next+2) (by omega)).trans g3
  rw[n3]at g4
  have l1:=Al (P:=Tryz.prog) (t:=81) GA DG k1 rfl
  simp only[l1,uz,uY,Qm]
  refine YU hE (hva0.old o1) (by omega) fun s2 v2 o2 h2 r2=>?_
  have o12:=o1.trans (o2.mono o1.1)
  refine(lO hE heq (ka:=ka) (kb:=kb) (pf:=s.next+1+1) (pb:=s.next+1) r2 (hvb0.old o12) rfl hqa hqb hk (by omega) (by omega) ((o2.2 _ (by omega)).trans k3) ((o2.2 _ (by omega)).trans k2)
    (K:=fun r s3=>s3.heap.get (s1.next+1)=s2.heap.get (s1.next+1)∧s3.heap.get (s.next+3)=some ZQ∧∀s5,s5.next=s3.next→(∀j,(j<s.next∨s2.next≤j)→s5.heap.get j=s3.heap.get j)→K r s5) (fun s4 vx vy vd o5 rx ry rd=>?_)).mono ?_
  · have o14:=o12.trans (o5.mono o12.1)
    refine(hf s4 vx vy vd o14 (rx.mono (by omega)) (ry.mono (by omega)) (rd.mono (by omega))).mono ?_
    rintro r s6 ⟨cs,rfl,hl,hc,hfr,hend⟩
    have h5:=o5.1
    refine⟨cs,rfl,hl,hc,fun j hj1 hj2=>hfr j (by omega) hj2,fun s7 n7 f7=>⟨?_,?_,fun s8 n8 f8=>hend s8 (by omega) fun j hj=>?_⟩⟩
    · rw[f7 _ (by omega),hfr _ (by omega) (by omega),o5.2 _ (by omega)]
    · rw[f7 _ (by omega),hfr _ (by omega) (by omega),o5.2 _ (by omega),o2.2 _ (by omega)];exact g4
    · rw[f8 j (by omega),f7 j (by omega)]
  · rintro r s6 ⟨⟨cs, rfl, hl, hc⟩, q1, q2, hend⟩
    refine⟨cs,rfl,hl,hc,q1,?_⟩
    have g6:(setObj s6 (s1.next+1) (R 81 0 false cs)).heap.get (s.next+1+1+1)=some ZQ:=by
      rw[Ww _ (by omega)];exact q2
    have st:=A8 (P:=Tryz.prog) (t:=81) (cs:=cs) DG g6 rfl hl hc (by rintro rfl;cases hl)
    have ld:=Al (P:=Tryz.prog) (t:=81) (s:=setObj (setObj s6 (s1.next+1) (R 81 0 false cs)) (s.next+1+1+1) (R 81 0 false cs)) (i:=s.next+1+1+1) GA DG (Wv _ _ _) hl
    simp only[st,ld,AX,Xx,Xz,Qd,Qj,Qm,Qn,true_and,Qq,Qr,Rj,Rm,Yc]
    refine hend _ rfl fun j hj=>?_
    rw[Ww _ (by omega),Ww _ (by omega)]
end
theorem sB(a b:Rat):mkRat (a.num * (b.den:Int)+b.num * (a.den:Int)) (a.den * b.den)=a+b:=by
 have:=pS (n1:=a.num) (n2:=b.num) a.den_nz b.den_nz
 rw[Rat.mkRat_self,Rat.mkRat_self]at this
 exact this.symm
theorem MN{a:Int}{d j k:Nat}(ha:a.natAbs<LB ^ j)(hd:d<LB ^ k):(a * (d:Int)).natAbs<LB ^ (j+k):=by
 rw[Int.natAbs_mul,Int.natAbs_natCast]
 exact FK ha hd
theorem qh0:QH 0 1:=⟨by decide,by decide⟩
section
variable{E:Ck}{s:AD}
theorem hZ(hE:Ak E){vx vy vd:AV}{x y:Int}{D b k:Nat}(hx:BR b s vx x)(hy:BR b s vy y)(hd:NR b s vd (AK D))(hxk:x.natAbs<LB ^ k)(hyk:y.natAbs<LB ^ k)(hdk:D<LB ^ k)(hD:D≠0)(hk:k+k+1≤1000000000){K:AV→AD→Prop}
  (hK:∀s' v,A9 s.next s s'→QR s.next s' v (mkRat (x+y) D)→K v s'):WF E 210 [vx,vy,vd] K s:=by
 have hbx:=hx.bi hxk
 have hby:=hy.bi hyk
 obtain⟨x1,a1,m1,c1,rfl⟩:=hbx.shape
 obtain⟨x2,a2,m2,c2,rfl⟩:=hby.shape
 refine hE.go jj (by decide) rfl ?_
 obtain⟨n1,o1,g1,g2,g3⟩:=ZA s (BX x1 (.slice a1 m1 c1)) (BX x2 (.slice a2 m2 c2)) ZQ
 simp only[qf,bZ,be,Wz,Xg,Dz,Xb,Bd,Qa,Qb,Qc,Qd,Qf,Qh,Qj,Qk,Ql,Qm,Qn,true_and,Qo,Qp,Qq,Qr,Qs,Qu,Ra,Rg,Ri]
 generalize newObj (newObj (newObj s (BX x1 (.slice a1 m1 c1))) (BX x2 (.slice a2 m2 c2))) ZQ=s1 at *
 have l1:=Al (P:=Tryz.prog) (t:=79) ER CS g1 rfl
 have l2:=Al (P:=Tryz.prog) (t:=79) ER CS g2 rfl
 obtain⟨n2,o2,g4⟩:=Hi s1 (R 79 2 false [.bool x1,.slice a1 m1 c1,.bool x2,.slice a2 m2 c2])
 simp only[l1,l2,Ki,Xd,Qm,Yc]
 generalize newObj s1 (R 79 2 false [.bool x1,.slice a1 m1 c1,.bool x2,.slice a2 m2 c2])=s2 at *
 have o12:=o1.trans (o2.mono o1.1)
 rw[n1]at g4
 refine jC hE (ri:=s.next+1+1+1) (hbx.old o12) (hby.old o12) hk (xc:=[.bool x1,.slice a1 m1 c1]) (yc:=[.bool x2,.slice a2 m2 c2]) rfl rfl (by omega) g4 fun s3 v3 o3 r3=>?_
 have h3:=o3.1
 have o13:=o12.trans (o3.mono o12.1)
 simp only[Qd,Qn,true_and,Qq,Qr]
 have hxy:(x+y).natAbs<LB ^ (k+1):=uH (Int.natAbs_add_le _ _) (Ni hxk hyk)
 refine FL hE (r3.bi hxy) (hd.n32.old o13) (by omega) (tN (BL hdk) (by omega)) (AT _) (by rw[AZ];exact hD) fun s4 v4 o4 r4=>?_
 rw[AZ]at r4
 have g5:s4.heap.get (s.next+1+1)=some ZQ:=by rw[o4.2 _ (by omega),o3.2 _ (by omega),o2.2 _ (by omega)];exact g3
 obtain⟨x4,a4,n4,c4,b4,m4,d4,rfl⟩:=r4.shape
 obtain⟨st,ld⟩:=EK (cs0:=[.bool false,.slice none 0 (some 0),.slice none 0 (some 0)]) rfl (x:=x4) (a:=a4) (n:=n4) (c:=c4) (b:=b4) (m:=m4) (d:=d4) g5
 simp only[st,ld,AX,Xx,Xz,Qd,Qj,Qm,Qn,true_and,Qq,Qr,Rj,Rm,Yc]
 exact hK _ _ ((o13.trans (o4.mono o13.1)).set (by omega) _) ((r4.set (by omega) _).mono (by omega))
theorem lJ(hE:Ak E){qa qb:Rat}{ka kb:Nat}(hqa:QH qa ka)(hqb:QH qb kb)(hk:2 * (ka+kb)+1≤1000000000){K:AV→AD→Prop}(hK:∀s' v,A9 s.next s s'→QR s.next s' v (qa+qb)→K v s'):sO E s qa qb 210 [] [] K:=by
 intro s1 vx vy vd o1 rx ry rd
 have h2:=MN hqb.1 hqa.2
 rw[Nat.add_comm kb ka]at h2
 refine hZ hE rx ry rd (MN hqa.1 hqb.2) h2 (FK hqa.2 hqb.2) (Nat.mul_ne_zero qa.den_nz qb.den_nz) (by omega) fun s2 v2 o2 r2=>?_
 rw[sB]at r2
 obtain⟨x4,a4,n4,c4,b4,m4,d4,rfl⟩:=r2.shape
 have h1:=o1.1
 have h3:=o2.1
 refine⟨_,rfl,rfl,rfl,fun j _ hj=>o2.2 j hj,fun s3 n3 f3=>hK s3 _ ⟨by omega,fun j hj=>?_⟩ ((r2.keep (by omega) fun j hj _=>f3 j (.inr hj)).mono h1)⟩
 rw[f3 j (.inl hj),o2.2 j (by omega),o1.2 j hj]
theorem PP(hE:Ak E){S:AD}{p i:Nat}(hi:i<2){x0 x1:Bool}{a0 b0 a1 b1:Option (Nat×Nat)}{n0 m0 n1 m1:Nat}{c0 d0 c1 d1:Option Nat}{ri ka kb:Nat}{qa qb:Rat}
  (hp:p<S.next) (hb:S.heap.get p=some (BQ x0 (.slice a0 n0 c0) (.slice b0 m0 d0))) (hel:AG Tryz.prog S 81 (.ptr (some (ri,0+i * 3)))=some (.agg [.bool x1,.slice a1 n1 c1,.slice b1 m1 d1]))
  (ha:QI S (.agg [.bool x0,.slice a0 n0 c0,.slice b0 m0 d0]) qa ka) (hb':QI S (.agg [.bool x1,.slice a1 n1 c1,.slice b1 m1 d1]) qb kb) (hka:1≤ka) (hkb:1≤kb) (hk:2 * (ka+kb)+1≤1000000000)
  {Q:Ax→Prop} {y0 y2 y6:AV}
  (hgo:∀ (s':AD) (x2:Bool) (a2 b2:Option (Nat×Nat)) (n2 m2:Nat) (c2 d2:Option Nat) (y2 y6:AV),S.next≤s'.next→(∀j,j<S.next→j≠p→s'.heap.get j=S.heap.get j)→s'.heap.get p=some (BQ x2 (.slice a2 n2 c2) (.slice b2 m2 d2))→QR S.next s' (.agg [.bool x2,.slice a2 n2 c2,.slice b2 m2 d2]) (qa+qb) →
   WC E none (.loop KE) Q [y0,.ptr (some (p,0)),y2,.slice (some (ri,0)) 2 (some 2),iv 2,iv ((i+1:Nat):Int),y6] [] s'):
  WC E none (.loop KE) Q [y0,.ptr (some (p,0)),y2,.slice (some (ri,0)) 2 (some 2),iv 2,iv (i:Int),y6] [] S:=by
 have dd:decide ((i:Int)<2)=true:=decide_eq_true (by omega)
 have e1:=Aw (cap:=some 2) (i:=ri) (o:=0) (n:=3) Tryz.underlying82 DG (show i<2 from hi)
 have e17:=Bz Tryz.prog 3 (i:Int) 1 ⟨by omega,by omega⟩
 have e17':((i:Int)+1)=((i+1:Nat):Int):=by omega
 refine WC.loop' ?_
 generalize hW:WC E none (Aa.loop KE) Q=WW
 obtain⟨m3,o1,g1⟩:=Hi S ZQ
 simp only[KE,UJ,aL,Rx,dd,e1,hel,Dz,Xb,Qa,Qb,Qc,Qd,Qf,Qh,Qj,Qk,Qm,Qn,true_and,Qo,Qp,Qq,Qr,Qs,Qu,Qy,Ra,Rc,Rd,Rx]
 generalize hs1:newObj S ZQ=s1 at *
 have st:=A8 (P:=Tryz.prog) (t:=81) (cs:=[.bool x1,.slice a1 n1 c1,.slice b1 m1 d1]) DG g1 rfl rfl rfl (by simp)
 generalize hs2:setObj s1 S.next (R 81 0 false [.bool x1,.slice a1 n1 c1,.slice b1 m1 d1])=s2 at st
 have o2:A9 S.next S s2:=by rw[← hs2];exact o1.set (tJ _) _
 have n2:s2.next=S.next+1:=by rw[← hs2];exact m3
 have k1:s2.heap.get p=some (BQ x0 (.slice a0 n0 c0) (.slice b0 m0 d0)):=(o2.2 p (by omega)).trans hb
 have k2:s2.heap.get S.next=some (R 81 0 false [.bool x1,.slice a1 n1 c1,.slice b1 m1 d1]):=by rw[← hs2,Wv]
 have l1:=Al (P:=Tryz.prog) (t:=81) GA DG k1 rfl
 have l2:=Al (P:=Tryz.prog) (t:=81) GA DG k2 rfl
 simp only[aM,st,l1,l2,Xx,Xz,Qb,Qc,Qd,Qf,Qh,Qi,Qj,Qk,Qm,Qn,true_and,Qq,Qr,Qs,Qu]
 refine pz hE (Xr _) (ha.old o2) (hb'.old o2) hka hkb (by omega) (lJ hE (ha.qh hka) (hb'.qh hkb) hk fun s3 v3 o3 r3=>?_)
 have k3:s3.heap.get p=some (BQ x0 (.slice a0 n0 c0) (.slice b0 m0 d0)):=(o3.2 p (by omega)).trans k1
 obtain⟨x4,a4,n4,c4,b4,m4,d4,rfl⟩:=r3.shape
 have st3:=A8 (P:=Tryz.prog) (t:=81) (cs:=[.bool x4,.slice a4 n4 c4,.slice b4 m4 d4]) DG k3 rfl rfl rfl (by simp)
 simp only[st3,aN,e17,e17',Qb,Qc,Qd,Qf,Qh,Qi,Qj,Qk,Qm,Qn,true_and,Qo,Qp,Qq,Qr,Qs,Qu]
 rw[← hW]
 have h3:=o3.1
 refine hgo _ x4 a4 b4 n4 m4 c4 d4 _ _ ?_ (fun j hj hne=>?_) (Wv _ _ _) ((r3.set (by omega) _).mono (by omega))
 ·show S.next≤s3.next;omega
 ·rw[Ww _ hne,o3.2 j (by omega),o2.2 j hj]
theorem lC(hE:Ak E){vx vy:AV}{x y:Rat}{kx ky ri:Nat}(hx:QI s vx x kx)(hy:QI s vy y ky)(hkx:1≤kx)(hky:1≤ky)(hk:2 * (kx+ky)+1≤1000000000){xc yc:List AV}(hxc:vx=.agg xc)(hyc:vy=.agg yc)(hri:ri<s.next)(hrow:s.heap.get ri=some (R 81 3 false (xc++yc)))
  {K:AV→AD→Prop} (hK:∀s' v,A9 s.next s s'→QR s.next s' v (x+y)→K v s'):WF E 188 [.slice (some (ri,0)) 2 (some 2)] K s:=by
 have hqx:=hx.qh hkx
 obtain⟨x1,a1,n1,c1,b1,m1,d1,e1⟩:=hx.shape
 obtain⟨x2,a2,n2,c2,b2,m2,d2,e2⟩:=hy.shape
 rw[hxc]at e1;rw[hyc]at e2
 injection e1 with e1;injection e2 with e2
 subst e1;subst e2;subst hxc;subst hyc
 refine hE.go jX (by decide) rfl ?_
 obtain⟨n3,o1,g1⟩:=Hi s ZQ
 simp only[qQ,aI,aJ,Dz,Xb,Qa,Qb,Qc,Qd,Qf,Qh,Qj,Qk,Ql,Qm,Qn,true_and,Qo,Qp,Qq,Qr,Qs,Qu,Ra,Rg]
 generalize newObj s ZQ=s1 at *
 have l1:=Al (P:=Tryz.prog) (t:=81) GA DG g1 rfl
 simp only[l1,Qm]
 have hz:QI s1 (.agg [.bool false,.slice none 0 (some 0),.slice none 0 (some 0)]) 0 1:=⟨false,_,_,[],[],rfl,(NR.nil 0 s1).n32,(NR.nil 0 s1).n32,fun x hx=>(by cases hx),fun x hx=>(by cases hx),tV _,tV _,rfl⟩
 refine HB hE hz (by omega) fun s2 v2 o2 r2=>?_
 have h2:=o2.1
 have o12:=o1.trans (o2.mono o1.1)
 obtain⟨x4,a4,n4,c4,b4,m4,d4,rfl⟩:=r2.shape
 have st:=A8 (P:=Tryz.prog) (t:=81) (cs:=[.bool x4,.slice a4 n4 c4,.slice b4 m4 d4]) DG ((o2.2 s.next (by omega)).trans g1) rfl rfl rfl (by simp)
 simp only[aK,st,AW Tryz.underlying82,Xx,Xz,Qb,Qc,Qd,Qf,Qh,Qi,Qj,Qm,Qn,true_and,Qo,Qp,Qq,Qr,Qs,Qu]
 generalize hs3:setObj s2 s.next (R 81 0 false [.bool x4,.slice a4 n4 c4,.slice b4 m4 d4])=s3 at *
 have h3:s3.next=s2.next:=by rw[← hs3];rfl
 have o3:A9 s.next s s3:=by rw[← hs3];exact o12.set (tJ _) _
 have g3:s3.heap.get s.next=some (BQ x4 (.slice a4 n4 c4) (.slice b4 m4 d4)):=by rw[← hs3,Wv]
 have r3:QR s1.next s3 (.agg [.bool x4,.slice a4 n4 c4,.slice b4 m4 d4]) 0:=by rw[← hs3];exact r2.set (by omega) _
 have el0:AG Tryz.prog s3 81 (.ptr (some (ri,0+0 * 3)))=some (.agg [.bool x1,.slice a1 n1 c1,.slice b1 m1 d1]):=Bq (o:=0) (n:=3) GA DG ((o3.2 ri hri).trans hrow) (by simp)
 refine PP hE (S:=s3) (p:=s.next) (i:=0) (by omega) (by omega) g3 el0 (r3.qi qh0) (hx.old o3) (by omega) hkx (by omega) fun s4 x5 a5 b5 n5 m5 c5 d5 y2 y6 q1 q2 q3 q4=>?_
 rw[Rat.zero_add]at q4
 have o4:A9 s.next s s4:=⟨by omega,fun j hj=>by rw[q2 j (by omega) (by omega),o3.2 j hj]⟩
 have el1:AG Tryz.prog s4 81 (.ptr (some (ri,0+1 * 3)))=some (.agg [.bool x2,.slice a2 n2 c2,.slice b2 m2 d2]):=Bq (o:=3) (n:=3) GA DG ((o4.2 ri hri).trans hrow) (by simp)
 refine PP hE (S:=s4) (p:=s.next) (i:=0+1) (by omega) (by omega) q3 el1 (q4.qi hqx) (hy.old o4) hkx hky hk fun s5 x6 a6 b6 n6 m6 c6 d6 y2 y6 w1 w2 w3 w4=>?_
 have o5:A9 s.next s s5:=⟨by omega,fun j hj=>by rw[w2 j (by omega) (by omega),o4.2 j hj]⟩
 have dd:decide (((0+1+1:Nat):Int)<2)=false:=rfl
 refine WC.loop' ?_
 have l1:=Al (P:=Tryz.prog) (t:=81) GA DG w3 rfl
 obtain⟨st,ld⟩:=EK rfl (x:=x6) (a:=a6) (n:=n6) (c:=c6) (b:=b6) (m:=m6) (d:=d6) w3
 simp only[KE,UJ,aO,Rx,dd,l1,st,ld,if_true,AX,Xx,Xz,Qa,Qb,Qc,Qd,Qf,Qh,Qj,Qk,Qm,Qn,true_and,Qo,Qp,Qq,Qr,Qs,Qu,Qz,Ra,Rc,Rd,Rf,Ri,Rj,Rm,Yc,Rx]
 exact hK _ _ (o5.set (tJ _) _) ((w4.set (by omega) _).mono (by omega))
theorem ZP(x y:Bool)(a b a' b':Option (Nat×Nat))(n m n' m':Nat)(c d c' d':Option Nat):An Tryz.prog 82 2 (zipIdx [0,1] [.agg [.bool x,.slice a n c,.slice b m d],.agg [.bool y,.slice a' n' c',.slice b' m' d']])=some (R 81 3 false [.bool x,.slice a n c,.slice b m d,.bool y,.slice a' n' c',.slice b' m' d']):=by kernel_rfl
theorem kz(hE:Ak E){vx vy:AV}{x y:Rat}{kx ky:Nat}(hx:QI s vx x kx)(hy:QI s vy y ky)(hkx:1≤kx)(hky:1≤ky)(hk:2 * (kx+ky)+1≤1000000000){K:AV→AD→Prop}(hK:∀s' v,A9 s.next s s'→QR s.next s' v (x+y)→K v s'):WF E 162 [vx,vy] K s:=by
 obtain⟨x1,a1,n1,c1,b1,m1,d1,rfl⟩:=hx.shape
 obtain⟨x2,a2,n2,c2,b2,m2,d2,rfl⟩:=hy.shape
 refine hE.go jR (by decide) rfl ?_
 obtain⟨n3,o1,g1,g2,g3⟩:=ZA s (BQ x1 (.slice a1 n1 c1) (.slice b1 m1 d1)) (BQ x2 (.slice a2 n2 c2) (.slice b2 m2 d2)) ZQ
 simp only[qL,Zx,Zy,Wz,Xg,Dz,Xb,Bd,Qa,Qb,Qc,Qd,Qf,Qh,Qj,Qk,Ql,Qm,Qn,true_and,Qo,Qp,Qq,Qr,Qs,Qu,Ra,Rg,Ri]
 generalize newObj (newObj (newObj s (BQ x1 (.slice a1 n1 c1) (.slice b1 m1 d1))) (BQ x2 (.slice a2 n2 c2) (.slice b2 m2 d2))) ZQ=s1 at *
 have l1:=Al (P:=Tryz.prog) (t:=81) GA DG g1 rfl
 have l2:=Al (P:=Tryz.prog) (t:=81) GA DG g2 rfl
 obtain⟨n4,o2,g4⟩:=Hi s1 (R 81 3 false [.bool x1,.slice a1 n1 c1,.slice b1 m1 d1,.bool x2,.slice a2 n2 c2,.slice b2 m2 d2])
 simp only[l1,l2,ZP,Xd,Qm,Yc]
 generalize newObj s1 (R 81 3 false [.bool x1,.slice a1 n1 c1,.slice b1 m1 d1,.bool x2,.slice a2 n2 c2,.slice b2 m2 d2])=s2 at *
 have o12:=o1.trans (o2.mono o1.1)
 rw[n3]at g4
 refine lC hE (ri:=s.next+1+1+1) (hx.old o12) (hy.old o12) hkx hky hk (xc:=[.bool x1,.slice a1 n1 c1,.slice b1 m1 d1]) (yc:=[.bool x2,.slice a2 n2 c2,.slice b2 m2 d2]) rfl rfl (by omega) g4 fun s3 v3 o3 r3=>?_
 have o13:=o12.trans (o3.mono o12.1)
 have g5:s3.heap.get (s.next+1+1)=some ZQ:=by rw[o3.2 _ (by omega),o2.2 _ (by omega)];exact g3
 obtain⟨x4,a4,n4,c4,b4,m4,d4,rfl⟩:=r3.shape
 obtain⟨st,ld⟩:=EK (cs0:=[.bool false,.slice none 0 (some 0),.slice none 0 (some 0)]) rfl (x:=x4) (a:=a4) (n:=n4) (c:=c4) (b:=b4) (m:=m4) (d:=d4) g5
 simp only[st,ld,AX,Xx,Xz,Qd,Qj,Qm,Qn,true_and,Qq,Qr,Rj,Rm,Yc]
 exact hK _ _ (o13.set (by omega) _) ((r3.set (by omega) _).mono (by omega))
end
theorem sC(a b:Rat):mkRat (a.num * b.num) (a.den * b.den)=a * b:=by
 have:=pU a.num b.num a.den b.den
 rw[Rat.mkRat_self,Rat.mkRat_self]at this
 exact this.symm
section
variable{E:Ck}{s:AD}
theorem lB(hE:Ak E){vx vy:AV}{x y:Rat}{kx ky:Nat}(hx:QI s vx x kx)(hy:QI s vy y ky)(hkx:1≤kx)(hky:1≤ky)(hk:kx+ky+1≤1000000000){K:AV→AD→Prop}(hK:∀s' v,A9 s.next s s'→QR s.next s' v (x * y)→K v s'):WF E 163 [vx,vy] K s:=by
 have hqx:=hx.qh hkx
 have hqy:=hy.qh hky
 have hx0:=hx
 have hy0:=hy
 obtain⟨x1,a1,n1,c1,b1,m1,d1,ex⟩:=hx.shape
 obtain⟨x2,a2,n2,c2,b2,m2,d2,ey⟩:=hy.shape
 subst ex;subst ey
 refine hE.go jS (by decide) rfl ?_
 obtain⟨n3,o1,g1,g2,g3⟩:=ZA s (BQ x1 (.slice a1 n1 c1) (.slice b1 m1 d1)) (BQ x2 (.slice a2 n2 c2) (.slice b2 m2 d2)) ZQ
 simp only[qM,Zz,Z0,Wz,Xg,Dz,Xb,Bd,Qa,Qb,Qc,Qd,Qf,Qh,Qj,Qk,Ql,Qm,Qn,true_and,Qo,Qp,Qq,Qr,Qs,Qu,Ra,Rg,Ri]
 generalize newObj (newObj (newObj s (BQ x1 (.slice a1 n1 c1) (.slice b1 m1 d1))) (BQ x2 (.slice a2 n2 c2) (.slice b2 m2 d2))) ZQ=s1 at *
 have l1:=Al (P:=Tryz.prog) (t:=81) GA DG g1 rfl
 have l2:=Al (P:=Tryz.prog) (t:=81) GA DG g2 rfl
 simp only[l1,l2,Qm]
 refine HB hE (hx0.old o1) (by omega) fun s2 v2 o2 r2=>?_
 have h2:=o2.1
 have f1:=(o2.2 s.next (by omega)).trans g1
 have f2:=(o2.2 (s.next+1) (by omega)).trans g2
 have f3:=(o2.2 (s.next+1+1) (by omega)).trans g3
 refine⟨⟨BK (by simp only[Qj,Qk,Qq,Qr];exact Al GA DG f2 rfl) (fi _ _ _ _ _ _ _),trivial⟩,?_⟩
 have o12:=o1.trans (o2.mono o1.1)
 simp only[Qq,Qr]
 refine HB hE (hy0.old o12) (by omega) fun s3 v3 o3 r3=>?_
 have h3:=o3.1
 have o13:=o12.trans (o3.mono o12.1)
 have r2':=r2.old o3
 have e1:=(o3.2 s.next (by omega)).trans f1
 have e2:=(o3.2 (s.next+1) (by omega)).trans f2
 have e3:=(o3.2 (s.next+1+1) (by omega)).trans f3
 obtain⟨ma,da,rfl,hna,hda,_⟩:=r2'
 obtain⟨mb,db,rfl,hnb,hdb,_⟩:=r3
 obtain⟨a4,n4,c4,rfl⟩:=hna.n32.shape
 obtain⟨b4,m4,d4,rfl⟩:=hda.n32.shape
 obtain⟨a5,n5,c5,rfl⟩:=hnb.n32.shape
 obtain⟨b5,m5,d5,rfl⟩:=hdb.n32.shape
 have st1:=A8 (P:=Tryz.prog) (t:=81) (cs:=[.bool (decide (x.num<0)),.slice a4 n4 c4,.slice b4 m4 d4]) DG e1 rfl rfl rfl (by simp)
 generalize hs4:setObj s3 s.next (BQ (decide (x.num<0)) (.slice a4 n4 c4) (.slice b4 m4 d4))=s4 at st1
 have e2':s4.heap.get (s.next+1)=some (BQ x2 (.slice a2 n2 c2) (.slice b2 m2 d2)):=by rw[← hs4,Ww _ (by omega)];exact e2
 have st2:=A8 (P:=Tryz.prog) (t:=81) (cs:=[.bool (decide (y.num<0)),.slice a5 n5 c5,.slice b5 m5 d5]) DG e2' rfl rfl rfl (by simp)
 generalize hs5:setObj s4 (s.next+1) (BQ (decide (y.num<0)) (.slice a5 n5 c5) (.slice b5 m5 d5))=s5 at st2
 have k1:s5.heap.get s.next=some (BQ (decide (x.num<0)) (.slice a4 n4 c4) (.slice b4 m4 d4)):=by rw[← hs5,Ww _ (by omega),← hs4,Wv]
 have k2:s5.heap.get (s.next+1)=some (BQ (decide (y.num<0)) (.slice a5 n5 c5) (.slice b5 m5 d5)):=by rw[← hs5,Wv]
 have k3:s5.heap.get (s.next+1+1)=some ZQ:=by rw[← hs5,Ww _ (by omega),← hs4,Ww _ (by omega)];exact e3
 have n6:s5.next=s3.next:=by rw[← hs5,← hs4];rfl
 have o5:A9 s.next s s5:=by
  rw[← hs5,← hs4]
  exact(o13.set (tJ _) _).set (by omega) _
 have pna:NR s1.next s5 (.slice a4 n4 c4) (AK x.num.natAbs):=by rw[← hs5,← hs4];exact(hna.set (by omega) _).set (by omega) _
 have pda:NR s1.next s5 (.slice b4 m4 d4) (AK x.den):=by rw[← hs5,← hs4];exact(hda.set (by omega) _).set (by omega) _
 have pnb:NR s2.next s5 (.slice a5 n5 c5) (AK y.num.natAbs):=by rw[← hs5,← hs4];exact(hnb.set (by omega) _).set (by omega) _
 have pdb:NR s2.next s5 (.slice b5 m5 d5) (AK y.den):=by rw[← hs5,← hs4];exact(hdb.set (by omega) _).set (by omega) _
 have l1:AG Tryz.prog s5 79 (.ptr (some (s.next,0+0)))=some (.agg [.bool (decide (x.num<0)),.slice a4 n4 c4]):=Bq (o:=0) (n:=2) ER CS k1 (by simp)
 have l2:AG Tryz.prog s5 79 (.ptr (some (s.next+1,0+0)))=some (.agg [.bool (decide (y.num<0)),.slice a5 n5 c5]):=Bq (o:=0) (n:=2) ER CS k2 (by simp)
 obtain⟨n7,o6,g6⟩:=Hi s5 (R 79 2 false [.bool (decide (x.num<0)),.slice a4 n4 c4,.bool (decide (y.num<0)),.slice a5 n5 c5])
 simp only[Z1,st1,st2,l1,l2,Ki,Xd,M4,U1,Xx,Xz,Qb,Qc,Qd,Qf,Qh,Qj,Qk,Qm,Qn,true_and,Qq,Qr,Qs,Qu,Yc]
 generalize newObj s5 (R 79 2 false [.bool (decide (x.num<0)),.slice a4 n4 c4,.bool (decide (y.num<0)),.slice a5 n5 c5])=s6 at *
 have o56:=o5.trans (o6.mono o5.1)
 have la:∀ {s'},A9 s5.next s5 s'→AG Tryz.prog s' 77 (.ptr (some (s.next,0+2)))=some (.slice b4 m4 d4):=fun o=>Af (o:=0+2) E7 ((o.2 s.next (by omega)).trans k1) rfl
 have lb:∀ {s'},A9 s5.next s5 s'→AG Tryz.prog s' 77 (.ptr (some (s.next+1,0+2)))=some (.slice b5 m5 d5):=fun o=>Af (o:=0+2) E7 ((o.2 (s.next+1) (by omega)).trans k2) rfl
 simp only[la o6,lb o6,Qm]
 have bx:BI s5 (.agg [.bool (decide (x.num<0)),.slice a4 n4 c4]) x.num kx:=BR.bi (b:=s1.next) ⟨_,rfl,pna⟩ hqx.1
 have by':BI s5 (.agg [.bool (decide (y.num<0)),.slice a5 n5 c5]) y.num ky:=BR.bi (b:=s2.next) ⟨_,rfl,pnb⟩ hqy.1
 refine V2 hE (bx.old o6) (by'.old o6) hk (xc:=[.bool (decide (x.num<0)),.slice a4 n4 c4]) (yc:=[.bool (decide (y.num<0)),.slice a5 n5 c5]) rfl rfl (by omega) g6 fun s7 v7 o7 r7=>?_
 have h7:=o7.1
 have o57:A9 s5.next s5 s7:=o6.trans (o7.mono o6.1)
 refine⟨⟨BK (by simp only[Qk,Qq,Qr];exact lb o57) (C9 _ _ _),BK (by simp only[Qk,Qq,Qr];exact la o57) (C9 _ _ _),trivial⟩,?_⟩
 simp only[Qq,Qr]
 have dxl:=BL hqx.2
 have dyl:=BL hqy.2
 refine VL hE (pda.n32.old o57) (pdb.n32.old o57) (by omega) (by omega) (AT _) (AT _) fun s8 v8 o8 r8=>?_
 rw[AZ,AZ]at r8
 have h8:=o8.1
 have hxy:(x.num * y.num).natAbs<LB ^ (kx+ky):=by rw[Int.natAbs_mul];exact FK hqx.1 hqy.1
 simp only[Qd,Qn,true_and,Qq,Qr]
 refine FL hE ((r7.bi hxy).old o8) r8.n32 (by omega) (tN (BL (FK hqx.2 hqy.2)) (by omega)) (AT _) (by rw[AZ];exact Nat.mul_ne_zero x.den_nz y.den_nz) fun s9 v9 o9 r9=>?_
 rw[AZ,sC]at r9
 have h9:=o9.1
 have o59:A9 s5.next s5 s9:=o57.trans ((o8.trans (o9.mono h8)).mono o57.1)
 obtain⟨x9,a9,n9,c9,b9,m9,d9,rfl⟩:=r9.shape
 obtain⟨st,ld⟩:=EK (cs0:=[.bool false,.slice none 0 (some 0),.slice none 0 (some 0)]) rfl (x:=x9) (a:=a9) (n:=n9) (c:=c9) (b:=b9) (m:=m9) (d:=d9) ((o59.2 (s.next+1+1) (by omega)).trans k3)
 simp only[st,ld,AX,Qd,Qj,Qm,Qn,true_and,Qq,Qr,Rj,Rm,Yc]
 exact hK _ _ ((o5.trans (o59.mono o5.1)).set (by omega) _) ((r9.set (by omega) _).mono (by omega))
end
section
variable{P:Program}{ρ ρ1 ρ2:A5}{s s1 s2:AD}{w w0 w1 w2:World}
theorem As.addRow  (h : As  P ρ s w) (hf : Ah     ρ s) {r : CG}   {rb : RB} (hok : BF    (Bh     ρ s.next rb) w r rb) (hlt : rb.b < w.heap.size) (hne : ∀ j oj rj, s.heap.get j = some oj → ρ j = some rj → rj.b ≠ rb.b) : As  P (Bh     ρ s.next rb) (newObj s (.row r)) w := by
  have hfn:=(hf s.next (tJ _)).1
  have hle:=A2 (rb:=rb) hfn
  refine⟨?_,?_,?_,?_⟩
  · intro x ox rx hx hrx
    rw[Ai]at hx
    by_cases e:x=s.next
    · subst e
      rw[if_pos rfl]at hx
      injection hx with hx
      rw[AO]at hrx
      injection hrx with hrx
      subst hx;subst hrx
      exact hok
    · rw [if_neg e] at hx
      rw[AL rb e]at hrx
      exact(h.obj x ox rx hx hrx).mono hle rfl
  · intro x rx hrx
    by_cases e:x=s.next
    · subst e
      rw[AO]at hrx
      injection hrx with hrx
      subst hrx
      exact hlt
    · rw[AL rb e]at hrx
      exact h.lt x rx hrx
  · intro x y ox oy rx ry hxy hx hy hrx hry hbb hw
    rw[Ai]at hx hy
    by_cases ex:x=s.next
    · subst ex
      have ey:y≠s.next:=fun e=>hxy e.symm
      rw[AO]at hrx
      injection hrx with hrx
      subst hrx
      rw[if_neg ey]at hy
      rw[AL rb ey]at hry
      exact absurd hbb.symm (hne y oy ry hy hry)
    · by_cases ey : y = s.next
      · subst ey
        rw[AO]at hry
        injection hry with hry
        subst hry
        rw[if_neg ex]at hx
        rw[AL rb ex]at hrx
        exact absurd hbb (hne x ox rx hx hrx)
      · rw [if_neg ex] at hx
        rw[if_neg ey]at hy
        rw[AL rb ex]at hrx
        rw[AL rb ey]at hry
        exact h.sep x y ox oy rx ry hxy hx hy hrx hry hbb hw
  · intro x ox g hx hgo
    rw[Ai]at hx
    by_cases e:x=s.next
    · subst e;exact⟨_,AO _ _⟩
    · rw[if_neg e]at hx
      obtain⟨r',hr'⟩:=h.glb x ox g hx hgo
      exact⟨r',hle _ _ hr'⟩
theorem Fr.addRow(h:Fr ρ s w0 ρ1 s1 w)(hf:Ah ρ1 s1){r:CG}{rb:RB}(hge:w0.heap.size≤rb.b):Fr ρ s w0 (Bh ρ1 s1.next rb) (newObj s1 (.row r)) w:=by
  have hfn:=(hf s1.next (tJ _)).1
  have hle:=A2 (rb:=rb) hfn
  have hn:=h.next
  refine⟨A5.le_trans h.le hle,?_,by show s.next≤s1.next+1;omega,h.size,h.os,h.tape,h.output,h.keep,?_,?_,fun x rb' hx h0=>?_,fun x ox rb' hx h0=>?_⟩
  · intro x hx hxr
    have hxr':x<s.next∨s1.next+1≤x:=hxr
    have:x≠s1.next:=by omega
    rw[AL rb this]
    exact h.fresh x hx (by omega)
  · rintro b ⟨x, ox, rx, hx, hw, hrx, rfl⟩
    rw[Ai]at hx
    by_cases e:x=s1.next
    · subst e
      rw[AO]at hrx
      injection hrx with hrx
      subst hrx
      exact .inr hge
    · rw [if_neg e] at hx
      rw[AL rb e]at hrx
      exact h.own _ ⟨x,ox,rx,hx,hw,hrx,rfl⟩
  · intro x hx hxr
    have hxr':x<s.next∨s1.next+1≤x:=hxr
    rw[Ai,if_neg (by omega)]
    exact h.unborn x hx (by omega)
  · by_cases e : x = s1.next
    · subst e;rw[AO]at hx;injection hx with hx;subst hx;exact .inl hge
    · rw[AL rb e]at hx;exact h.blk x rb' hx h0
  · rw[Ai]at hx
    by_cases e:x=s1.next
    · subst e;have h1:=h.le _ _ h0;rw[hfn]at h1;cases h1
    · rw[if_neg e]at hx;exact h.dom x ox rb' hx h0
def pj(l:List Nat):CG:={ elem:=185,sz:=1,n:=l.length,c:=AE.fill .leaf 0 (us l),spare:=true,mode:=.own,par:=none,bytes:=false }
def Id(s:AD):List Nat→AV×AD
 | []=>(.slice none 0 (some 0),s)
 | x::l=>(.slice (some (s.next,0)) (x::l).length none,newObj s (.row (pj (x::l))))
def ML(b:Nat)(s:AD)(v:AV)(l:List Nat):Prop:=
 (l=[]∧v=.slice none 0 (some 0))∨(l≠[]∧∃i,v=.slice (some (i,0)) l.length none∧b≤i∧∃r,s.heap.get i=some (.row r)∧Holds r (us l)∧B8 r.mode=true∧r.sz=1∧r.elem=185)
theorem kQ{l:List Nat}{k:Nat}{v:AV}(h:(us l)[k]? = some v):LM v=true:=by
 have:(l.map BS)[k]? = some v:=h
 rw[uG]at this
 obtain⟨x,_,rfl⟩:=Option.map_eq_some_iff.1 this
 rfl
theorem Nj       {ρ' : A5}  {s' : AD}  {b : Nat} {v : AV} {l : List Nat} {v' : Value} (hs : ML    b s' v l) (h' : As  P ρ' s' w) (hv : AM   ρ' v v')
    (hge:∀i o rb,b≤i→s'.heap.get i=some o→wr o=true→ρ' i=some rb→w0.heap.size≤rb.b)
    (h1:As P ρ1 s1 w) (hf1:Ah ρ1 s1) (hfr:Fr ρ s w0 ρ1 s1 w) (hne:∀i rb,Ci v=some i→ρ' i=some rb→∀j oj rj,s1.heap.get j=some oj→ρ1 j=some rj→rj.b≠rb.b):
    ∃ρ2,As P ρ2 (Id s1 l).2 w∧Ah ρ2 (Id s1 l).2∧Fr ρ s w0 ρ2 (Id s1 l).2 w∧ρ1.le ρ2∧AM ρ2 (Id s1 l).1 v' ∧
      (∀j oj rj,(Id s1 l).2.heap.get j=some oj→ρ2 j=some rj→(∃o1,s1.heap.get j=some o1∧ρ1 j=some rj)∨∃i rb,Ci v=some i∧ρ' i=some rb∧rj.b=rb.b):=by
  rcases hs with⟨rfl,rfl⟩ | ⟨hl,i,rfl,hbi,r,hg,hh,hm,hsz,hel⟩
  · refine⟨ρ1,h1,hf1,hfr,A5.le_refl _,DA rfl hv,fun j oj rj hj hr=>.inl ⟨oj,hj,hr⟩⟩
  · cases l with
    | nil=>exact absurd rfl hl
    | cons x l =>
      cases hv with
      | @sliceOpen _ _ _ c rb hr q1 q2 q3 q4 =>
        have hok:BF ρ' w r rb:=h'.obj i _ rb hg hr
        have hrn:r.n=(x::l).length:=by rw[hh.1,Ca]
        have hmo:r.mode≠.ro:=fun e=>by rw[e]at hm;cases hm
        obtain⟨cs,k1,k2⟩:=hok.own hmo
        have hno:∀ (σ:A5),BF σ w (pj (x::l)) rb:=fun σ=>by
          refine⟨fun k u hk hu=>?_,by show(x::l).length≤_;rw[← hrn];exact hok.le,by show 1=_;rw[← hsz];exact hok.sz,fun e=>(by cases e),fun _=>⟨cs,by show _=some (Obj.cells cs 185 (0,0));rw[← hel];exact k1,k2⟩,fun e=>(by cases e),fun g e=>(by cases e),fun p e=>(by cases e)⟩
          have hk':k<(x::l).length:=hk
          have hu':(us (x::l))[k]? = some u:=by
            have:(AE.fill .leaf 0 (us (x::l))).get k=some u:=hu
            rw[AE.get_fill,if_pos ⟨tV _,by rw[Ca];omega⟩]at this
            simpa using this
          obtain⟨v',e1,e2⟩:=hok.cells k u (by omega) (hh.2 k u hu')
          exact⟨v',e1,DA (kQ hu') e2⟩
        have hlt:=h'.lt i rb hr
        refine⟨Bh ρ1 s1.next rb,h1.addRow hf1 (hno _) hlt (hne i rb rfl hr),hf1.new _ _,hfr.addRow hf1 (hge i _ rb hbi hg hm hr),A2 (hf1 s1.next (tJ _)).1,.sliceOpen (AO _ _) q1 q2 q3 q4,fun j oj rj hj hr2=>?_⟩
        have hj':(newObj s1 (.row (pj (x::l)))).heap.get j=some oj:=hj
        rw[Ai]at hj'
        by_cases e:j=s1.next
        · subst e
          rw[AO]at hr2
          injection hr2 with hr2
          exact .inr ⟨i,rb,rfl,hr,by rw[← hr2]⟩
        · rw [if_neg e] at hj'
          rw[AL rb e]at hr2
          exact .inl ⟨oj,hj',hr2⟩
end
end
end Go.Proofs.YtoaaclpjkelofaaGreatDoor.Am
set_option linter.unusedVariables false
set_option linter.unusedSimpArgs false
namespace Go.Proofs.YtoaaclpjkelofaaGreatDoor.Am
open Go Go.RowKit
noncomputable section
def U9(x:Int):List Int→List Int
 | []=>[x]
 | y::l=>bif O9 x y then x::y::l else y::U9 x l
def ID:List Int→List Int
 | []=>[]
 | x::l=>U9 x (ID l)
theorem KY(x:Int):∀l:List Int,(U9 x l).Perm (x::l)
 | []=>.refl _
 | y::l=>by
  unfold U9
  cases O9 x y with
  | true=>exact .refl _
  | false=>exact((KY x l).cons y).trans (.swap x y l)
theorem GL:∀l:List Int,(ID l).Perm l
 | []=>.refl _
 | x::l=>(KY x _).trans ((GL l).cons x)
theorem LN(x:Int):∀l:List Int,l.Pairwise (·≤·)→(U9 x l).Pairwise (·≤·)
 | [],_=>by simp[U9]
 | y::l,h=>by
  unfold U9
  have hl:=List.pairwise_cons.1 h
  rw[Cv]
  by_cases hxy:x<y
  ·simp only[hxy,decide_true,cond_true]
   refine List.pairwise_cons.2 ⟨fun z hz=>?_,h⟩
   rcases uT.1 hz with rfl | hz
   ·omega
   ·have:=hl.1 z hz;omega
  ·simp only[hxy,decide_false,cond_false]
   refine List.pairwise_cons.2 ⟨fun z hz=>?_,LN x l hl.2⟩
   rcases uT.1 ((KY x l).mem_iff.1 hz)with rfl | hz
   ·omega
   ·exact hl.1 z hz
theorem Je:∀l:List Int,(ID l).Pairwise (·≤·)
 | []=>.nil
 | x::l=>LN x _ (Je l)
theorem ZU        {l m : List Int} (hp : l.Perm m) (hl : l.Pairwise (· ≤ ·)) (hm : m.Pairwise (· ≤ ·)) : l = m := by
  induction l generalizing m with
  | nil=>exact(List.nil_perm.1 hp).symm
  | cons a l ih =>
    cases m with
    | nil=>exact absurd hp.length_eq (by simp)
    | cons b m =>
      have hl':=List.pairwise_cons.1 hl
      have hm':=List.pairwise_cons.1 hm
      have hab:a=b:=by
        have h1:a∈b::m:=hp.mem_iff.1 tS
        have h2:b∈a::l:=hp.mem_iff.2 tS
        rcases uT.1 h1 with e | h1
        · exact e
        · rcases uT.1            h2 with e | h2
          · exact e.symm
          · have:=hm'.1 a h1;have:=hl'.1 b h2;omega
      subst hab
      rw[ih hp.cons_inv hl'.2 hm'.2]
theorem LR{l m:List Int}(h:l.Perm m):m.mergeSort (fun x y=>decide (x≤y))=ID l:=by
 refine ZU ((List.mergeSort_perm _ _).trans (h.symm.trans (GL l).symm)) ?_ (Je l)
 have:=List.pairwise_mergeSort (le:=fun(x y:Int)=>decide (x≤y)) (by intro a b c;simp;omega) (by intro a b;simp;omega) m
 exact this.imp (by intro a b h;simpa using h)
def O5:List (AV×AV)→Option (List Int)
 | []=>some []
 | (.int .i64 n,_)::l=>(O5 l).bind fun r=>some (n::r)
 | _=>none
def Y0(n:Int):AV:=.int .i64 n
def Km(tI:TypeId)(ks:List Int)(s:AD):Option (AV×AD):=match ks with
 | []=>some (.slice none 0 (some 0),s)
 | k::ks=>AF (Nat.ble (k::ks).length 1000000) (some (.slice (some (s.next,0)) (k::ks).length none,newObj s (Co tI 1 (AE.fill .leaf 0 ((ID (k::ks)).map Y0)) (k::ks).length none true)))
def J1(g:FuncId)(kt tI:TypeId)(s:AD):List AV→Option (AV×AD)
 | [.func f [] [.ptr (some (i,o))]]=>AF (Nat.beq f g && Nat.beq o 0) <| (rowAt s i).bind fun r=>AF r.bytes <| (B1 s i o).bind fun m=>match m with
  | .map none=>some (.slice none 0 (some 0),s)
  | .map (some j)=>(IG s kt j).bind fun es=>(O5 es).bind fun ks=>Km tI ks s
  | _=>none
 | _=>none
section
variable{P:Program}{ρ ρ1 ρ2:A5}{s s1 s2:AD}{w w1 w2:World}
def Pr(P:Program)(f g:FuncId)(kt tI:TypeId):Prop:=
 (∀ (Bm b nn:Nat) (D0:DataW Value) (w:World),Bm<w.heap.size→w.cell? ⟨Bm,0,none⟩=some (.map (some b))→w.ownsMap P kt Rv b nn D0→Maps.size D0≤1000000 →
  Calls P f #[.func (.func g) #[] #[.pointer (some ⟨Bm,0,none⟩)]] w fun e w'=>∃ (v:Value) (ss:List Int),e=.returned v∧ss.Perm (intKeys D0) ∧
   w'.ownsRow w.heap.size tI 1 v ss.length ((ss.mergeSort (fun x y=>decide (x≤y))).map fun n=>.int .i64 n)∧(v=.slice none 0 0↔ss=[])∧Below w.heap.size w w') ∧
 ∀ (Bm:Nat) (w:World),Bm<w.heap.size→w.cell? ⟨Bm,0,none⟩=some (.map none) →
  Calls P f #[.func (.func g) #[] #[.pointer (some ⟨Bm,0,none⟩)]] w fun e w'=>e=.returned (.slice none 0 0)∧Below w.heap.size w w'
theorem O6:∀ {es:List (AV×AV)}{ks:List Int}{l:List MapEntry},O5 es=some ks→CT ρ es l→l.map (·.key)=ks.map fun n=>Value.int .i64 n
  | [],ks,l,h,he=>by cases he;injection h with h;subst h;rfl
  | (k,v)::es,ks,l,h,he=>by
    cases he with
    | cons hk hv hs =>
      cases k<;>try (simp[O5]at h;done)
      rename_i q n
      cases q<;>try (simp[O5]at h;done)
      simp only[O5,tH]at h
      obtain⟨r,h1,h2⟩:=h
      injection h2 with h2
      subst h2
      have:=O6 h1 hs
      generalize hkk:(_:MapEntry).key=kk at hk
      cases hk
      simp[this,hkk]
theorem Gw(h:Below w.heap.size w w1):w.grownBy w1 none:=⟨h.os,h.tape,h.output,h.size,fun k hk _=>h.block k hk⟩
theorem Li          {f g : FuncId} {kt tI : TypeId} (hko : FG     P kt = true) (hu : P.underlying kt = some (.int .i64)) (hc : Pr      P f g kt tI) (h : As  P ρ s w) (hf : Ah     ρ s) {aS : List AV} {as' : Array Value} {v : AV} (hs : J1       g kt tI s aS = some (v, s1)) (has : AJ    ρ aS as'.toList) :
    CallsIn Fence.wide 0 P f as' w (Bk P ρ s w v s1):=by
  refine callsIn_wide.2 ?_
  unfold J1 at hs
  split at hs<;>first | (cases hs;done) | skip
  rename_i f' i o
  obtain⟨hg,hs⟩:=AA hs
  simp only[tH,Bool.and_eq_true]at hs hg
  obtain⟨r,hrow,hs⟩:=hs
  obtain⟨hby,hs⟩:=AA hs
  simp only[tH]at hs
  obtain⟨m,hm,hs⟩:=hs
  have e1:=tM hg.1
  have e2:=tM hg.2
  subst e1;subst e2
  obtain⟨l0⟩:=as'
  cases has with
  | cons h1 h2 =>
  cases h2
  cases h1 with
  | func ha hcap =>
  rename_i a' c'
  obtain⟨la⟩:=a'
  obtain⟨lc⟩:=c'
  cases ha
  cases hcap with
  | cons hp hn =>
  cases hn
  cases hp with
  | ptr hr =>
  rename_i rb
  have hok:BF ρ w r rb:=h.obj i _ rb (Ap hrow) hr
  have hoff:=hok.base hby
  obtain⟨m',hvm,hcell⟩:=EO h hr hm
  rw[hoff]at hcell ⊢
  have hlt:=h.lt i rb hr
  cases m<;>try (simp at hs;done)
  rename_i mj
  have nilDone:∀ (hs:some ((.slice none 0 (some 0),s):AV×AD)=some (v,s1)) (w':World),Below w.heap.size w w'→Bk P ρ s w v s1 (.returned (.slice none 0 0)) w':=by
    intro hs w' hb
    injection hs with hs
    injection hs with q1 q2
    subst q1;subst q2
    obtain⟨g1,g2⟩:=h.grown (Gw hb)
    exact⟨ρ,.sliceNil,g1,g2⟩
  cases mj with
  | none =>
    cases hvm
    refine(hc.2 rb.b w hlt hcell).mono ?_
    rintro e w' ⟨rfl,hb⟩
    exact nilDone hs w' hb
  | some j =>
    simp only[tH]at hs
    obtain⟨es,hes,ks,hks,hs⟩:=hs
    cases hvm with
    | map hrj =>
    rename_i rj
    obtain⟨ed,cd,d1,d2,⟨ld,d3,d4⟩,d5⟩:=(show Gj P ρ w kt es rj from h.obj j _ rj (Ex hes) hrj).ex
    have hkl:=O6 hks d4
    have hlenk:ks.length=ed.size:=by have:=congrArg List.length hkl;have:=d3.length_eq;simp at *;omega
    have hk6:ks.length≤1000000:=by
      cases ks with
      | nil=>simp
      | cons k ks =>
        simp only[Km]at hs
        have:=(AA hs).1
        simpa[tK]using this
    have hmax:(1000000:Nat)≤maxLen:=by unfold maxLen;omega
    have od:=RM d1 d2 d5 (by omega)
    have hsz:Maps.size (DataW.map ((ed.toList.map (WideElems.rg P kt Rv)).foldr DataW.insert []))=ed.size:=by
      show((ed.toList.map (WideElems.rg P kt Rv)).foldr DataW.insert []).length=_
      rw[(Go.WideShapes.sorted_perm _).length_eq]
      simp
    have hints:(intKeys (DataW.map ((ed.toList.map (WideElems.rg P kt Rv)).foldr DataW.insert []))).Perm ks:=by
      show(((ed.toList.map (WideElems.rg P kt Rv)).foldr DataW.insert []).map fun p=>Go.intOf p.1).Perm ks
      refine((Go.WideShapes.sorted_perm _).map _).trans ?_
      rw[List.map_map]
      have:((ld.map fun e=>Go.intOf (WideElems.rg P kt Rv e).1))=ks:=by
        have:∀ (L:List MapEntry) (K:List Int),(∀e∈L,∃l,keyOf P kt e.key=some l)→L.map (·.key)=K.map (fun n=>Value.int .i64 n)→(L.map fun e=>Go.intOf (WideElems.rg P kt Rv e).1)=K:=by
          intro L
          induction L with
          | nil=>intro K _ hK;cases K with | nil=>rfl | cons=>simp at hK
          | cons e L ih =>
            intro K hty hK
            cases K with
            | nil=>simp at hK
            | cons n K =>
              simp only[ta,List.cons.injEq]at hK
              obtain⟨l,hl⟩:=hty e tS
              rw[ta,ih K (fun x hx=>hty x (tW _ hx)) hK.2,iF hl]
              congr 1
              rw[hK.1]at hl
              simp only[keyOf,hu,mapKey]at hl
              split at hl
              · injection hl with hl;subst hl;rfl
              · cases hl
        exact this ld ks (fun e he=>d5 e (d3.mem_iff.1 he)) hkl
      rw[← this]
      exact d3.symm.map _
    refine(hc.1 rb.b rj.b _ _ w hlt hcell od (by rw[hsz];omega)).mono ?_
    rintro e w' ⟨v',ss,rfl,hperm,hrow',hnil,hb⟩
    have hss:ss.Perm ks:=hperm.trans hints
    cases ks with
    | nil =>
      have:ss=[]:=List.perm_nil.1 hss
      rw[hnil.2 this]
      exact nilDone hs w' hb
    | cons k ks =>
      simp only[Km]at hs
      obtain⟨_,hs⟩:=AA hs
      injection hs with hs
      injection hs with q1 q2
      subst q1;subst q2
      have hne:ss≠[]:=fun e=>by subst e;exact absurd (List.nil_perm.1 hss) (by simp)
      rw[LR hss.symm]at hrow'
      have hl:ss.length=(k::ks).length:=hss.length_eq
      rcases hrow'.2 with⟨q,_⟩ | ⟨gb,cap,cur,rfl,hbase,hgb,r1,r2,r3,r4⟩
      · exact absurd (hnil.1 q) hne
      · rw[hl]at r1 r4 ⊢
        have hilen:(ID (k::ks)).length=(k::ks).length:=(GL _).length_eq
        generalize hn:(k::ks).length=n at r1 r4 hilen ⊢
        have hglt:gb<w'.heap.size:=(Array.getElem?_eq_some_iff.1 hgb).1
        obtain⟨g1,g2⟩:=h.grown (Gw hb)
        let rbn:RB:=⟨gb,0,cap,1⟩
        have hfn:=(hf s.next (tJ _)).1
        have hle:=A2 (rb:=rbn) hfn
        have hrok:BF (Bh ρ s.next rbn) w' { elem:=tI,sz:=1,n:=n,c:=AE.fill .leaf 0 ((ID (k::ks)).map Y0),spare:=true,mode:=.own,par:=none,bytes:=true } rbn:=by
          refine⟨?_,r1,rfl,(fun hh=>by cases hh),fun _=>⟨cur,hgb,by simp only[rbn];omega⟩,fun _=>rfl,(fun g hg=>by cases hg),fun p hp=>by cases hp⟩
          intro q u hq hu'
          simp only at hq
          simp only[AE.get_fill,tV,tR,true_and,Nat.sub_zero,tz,hilen]at hu'
          rw[if_pos hq,uG]at hu'
          obtain⟨x,hx,hx2⟩:=Option.map_eq_some_iff.1 hu'
          subst hx2
          refine⟨.int .i64 x,?_,.int _ _⟩
          have:(cur.toList.take (n * 1))[q]? = some (Value.int .i64 x):=by rw[r4,uG,hx];rfl
          rw[uZ (by omega)]at this
          simp only[World.cell?,rbn,tR,hgb]
          simpa using this
        refine⟨Bh ρ s.next rbn,.sliceOpen (AO _ _) (Nat.one_pos) r1 (by simp[rbn]) (by simp[rbn]),⟨?_,?_,?_,?_⟩,?_⟩
        · intro x ox rx hx hrx
          rw[Ai]at hx
          by_cases e:x=s.next
          · subst e
            rw[if_pos rfl]at hx
            injection hx with hx
            rw[AO]at hrx
            injection hrx with hrx
            subst hx;subst hrx
            exact hrok
          · rw [if_neg e] at hx
            rw[AL rbn e]at hrx
            exact(g1.obj x ox rx hx hrx).mono hle rfl
        · intro x rx hrx
          by_cases e:x=s.next
          · subst e
            rw[AO]at hrx
            injection hrx with hrx
            subst hrx
            exact hglt
          · rw[AL rbn e]at hrx
            exact g1.lt x rx hrx
        · intro x y ox oy rx ry hxy hx hy hrx hry hbb hw
          rw[Ai]at hx hy
          by_cases ex:x=s.next
          · subst ex
            have ey:y≠s.next:=fun e=>hxy e.symm
            rw[AO]at hrx
            injection hrx with hrx
            subst hrx
            rw[AL rbn ey]at hry
            have:=h.lt y ry hry
            simp only[rbn]at hbb
            omega
          · by_cases ey : y = s.next
            · subst ey
              rw[AO]at hry
              injection hry with hry
              subst hry
              rw[AL rbn ex]at hrx
              have:=h.lt x rx hrx
              simp only[rbn]at hbb
              omega
            · rw [if_neg ex] at hx
              rw[if_neg ey]at hy
              rw[AL rbn ex]at hrx
              rw[AL rbn ey]at hry
              exact g1.sep x y ox oy rx ry hxy hx hy hrx hry hbb hw
        · intro x ox g hx hgo
          rw[Ai]at hx
          by_cases e:x=s.next
          · subst e;exact⟨_,AO _ _⟩
          · rw[if_neg e]at hx
            obtain⟨r',hr'⟩:=h.glb x ox g hx hgo
            exact⟨r',hle _ _ hr'⟩
        · refine ⟨hle, ?_, by simp [newObj], hb.size, hb.os, hb.tape, hb.output, fun b hb' _ => hb.block b hb', ?_, ?_, fun x r hx h0 => ?_, fun x ox r hx h0 => ?_⟩
          · intro x hx hxr
            have:x≠s.next:=by simp[newObj]at hxr;omega
            rw[AL rbn this];exact hx
          · rintro b ⟨x, ox, rx, hx, hw, hrx, rfl⟩
            rw[Ai]at hx
            by_cases e:x=s.next
            · subst e
              rw[AO]at hrx
              injection hrx with hrx
              subst hrx
              exact .inr hbase
            · rw [if_neg e] at hx
              rw[AL rbn e]at hrx
              exact .inl ⟨x,ox,rx,hx,hw,hrx,rfl⟩
          · intro x _ hx
            rw[Ai,if_neg (by simp[newObj]at hx;omega)]
          · by_cases e : x = s.next
            · subst e;rw[AO]at hx;injection hx with hx;subst hx;exact .inl hbase
            · rw[AL rbn e,h0]at hx;cases hx
          · rw[Ai]at hx
            by_cases e:x=s.next
            · subst e;rw[hf s.next (tJ _) |>.1]at h0;cases h0
            · rw[if_neg e]at hx;exact⟨ox,hx⟩
end
end
end Go.Proofs.YtoaaclpjkelofaaGreatDoor.Am
set_option linter.unusedVariables false
set_option linter.unusedSimpArgs false
set_option maxRecDepth 16000
namespace Go.Proofs.YtoaaclpjkelofaaGreatDoor.Am
open Go Go.Proofs
noncomputable section
abbrev Ent:=Int×Rat×AV
section
variable{s:AD}{mi:Nat}{T:List Ent}{n:Int}
end
def U32(s:AD)(j:Nat):Prop:=∃r,s.heap.get j=some (.row r)∧r.elem=185
theorem NR.u32{b:Nat}{s:AD}{v:AV}{l:List Nat}(h:NR b s v l)(hl:l≠[]){j:Nat}(hj:Ci v=some j):U32 s j:=by
 obtain⟨O,h1,_,_,h4⟩:=h
 obtain⟨i,e,_,_⟩:=h4 hl
 rcases h1 with⟨a,e',_⟩ | ⟨i',p,e',h6,_⟩
 ·rw[e]at e';injection e' with _ _ e';cases e'
 ·rw[e']at hj
  injection hj with hj
  subst hj
  rcases h6.ex with⟨e'',_⟩ | ⟨_,_,_,_,r,k4,_,_,_,_,_,k9⟩
  ·rw[e']at e'';cases e''
  ·exact⟨r,k4,k9⟩
section
variable{E:Ck}{s:AD}
end
theorem B3:Tryz.prog.follows .mixedOrders=true:=by kernel_rfl
theorem Be:NQ Tryz.prog=true:=by kernel_rfl
theorem M9:Ak (rX Tryz.prog):=⟨rfl,fun _ _ _ _=>rfl⟩
def kZ:List AV→Option (List Nat)
 | []=>some []
 | .int .u32 (.ofNat x)::l=>AF (Nat.blt x LB) ((kZ l).bind fun r=>some (x::r))
 | _=>none
theorem X6:∀ {cs:List AV}{l:List Nat},kZ cs=some l→cs=us l∧BZ l
 | [],l,h=>by
  injection h with h
  subst h
  exact⟨rfl,fun x hx=>by cases hx⟩
 | v::cs,l,h=>by
  unfold kZ at h
  split at h
  ·rename_i e;cases e
  ·rename_i x l' e
   injection e with e1 e2
   subst e1;subst e2
   obtain⟨h1,h2⟩:=AA h
   simp only[tH]at h2
   obtain⟨r,h3,h4⟩:=h2
   injection h4 with h4
   subst h4
   obtain⟨h5,h6⟩:=X6 h3
   refine⟨by rw[h5];rfl,fun y hy=>?_⟩
   rcases uT.1 hy with rfl | hy
   ·simpa[tP]using h1
   ·exact h6 y hy
  ·cases h
def Lc(s:AD):AV→Option (List Nat)
 | .slice none n (some c)=>AF (Nat.beq n 0 && Nat.beq c 0) (some [])
 | .slice (some (i,o)) n cap=>AF (Nat.blt i s.next) <| (rowAt s i).bind fun r=>AF (Nat.ble (o+n) r.n && (match cap with | some c=>Nat.ble n c | none=>Nat.beq r.sz 1)) <| (r.c.take o n).bind kZ
 | _=>none
theorem kR{s:AD}{i:Nat}{r:CG}(h:s.heap.get i=some (.row r)):(frz s.next s.heap).heap.get i=some (.row { r with mode:=.ro,par:=none }):=by
 unfold frz
 simp only[AE.get_mapO,h]
 rfl
theorem Fy       {s : AD}  {v : AV} {l : List Nat} (h : Lc    s v = some l) : Cl  (frz s.next s.heap) v l ∧ BZ  l := by
  unfold Lc at h
  split at h
  · obtain⟨h1,h2⟩:=AA h
    simp only[Bool.and_eq_true]at h1
    injection h2 with h2
    subst h2
    have e1:=tM h1.1
    have e2:=tM h1.2
    subst e1;subst e2
    exact⟨⟨none,some 0,rfl,.inl ⟨0,rfl,tJ _,fun _=>rfl⟩,Aj.nil⟩,fun x hx=>by cases hx⟩
  · rename_i i o n cap
    obtain⟨h1,h2⟩:=AA h
    simp only[tH]at h2
    obtain⟨r,h3,h4⟩:=h2
    obtain⟨h5,h6⟩:=AA h4
    simp only[tH]at h6
    obtain⟨cs,h7,h8⟩:=h6
    obtain⟨rfl,hsm⟩:=X6 h8
    simp only[Bool.and_eq_true]at h5
    have hle:o+n≤r.n:=by simpa[tK]using h5.1
    have hlt:i<s.next:=by simpa[tP]using h1
    have hlen:l.length=n:=by have:=AE.take_length h7;rw[Ca]at this;exact this
    have hg:=kR (Ap h3)
    refine⟨⟨some (i,o),cap,by rw[hlen],?_,fun k u hk=>⟨i,o,rfl,hlt,?_⟩⟩,hsm⟩
    · rw[hlen]
      cases cap with
      | some c=>exact .inl ⟨c,rfl,by simpa[tK]using h5.2,fun e=>by cases e⟩
      | none=>exact .inr ⟨rfl,i,o,_,rfl,hlt,hg,tM h5.2,hle⟩
    · have hkn:k<n:=by
        rw[← hlen,← Ca]
        rcases tL k (us l).length with h' | h'
        · exact h'
        · rw[tY h']at hk;cases hk
      have:=AE.take_get h7 k hkn
      unfold B1 rowAt
      rw[hg]
      simp only[Option.bind_some,AF,show Nat.blt (o+k) r.n=true from by simp[tP];omega,cond_true]
      rw[this];exact hk
  · cases h
def Ld(s:AD):AV→Option Rat
 | .agg [.bool neg,m,d]=>(Lc s m).bind fun lm=>(Lc s d).bind fun ld=>AF (Nat.ble lm.length 1000 && Nat.ble ld.length 1000) (some (RP neg (AC lm) (AC ld)))
 | _=>none
theorem Fz{s:AD}{v:AV}{q:Rat}(h:Ld s v=some q):QI (frz s.next s.heap) v q 1000:=by
 unfold Ld at h
 split at h
 ·rename_i neg m d
  simp only[tH]at h
  obtain⟨lm,h1,ld,h2,h3⟩:=h
  obtain⟨h4,h5⟩:=AA h3
  injection h5 with h5
  simp only[Bool.and_eq_true,tK]at h4
  obtain⟨q1,q2⟩:=Fy h1
  obtain⟨q3,q4⟩:=Fy h2
  exact⟨neg,m,d,lm,ld,rfl,q1,q3,q2,q4,h4.1,h4.2,h5⟩
 ·cases h
def Q9:Nat→Nat→List Nat
 | 0,_=>[]
 | f+1,n=>bif Nat.beq n 0 then []else n % LB::Q9 f (n / LB)
theorem MA:∀ (f n:Nat),n<LB ^ f→Q9 f n=AK n
 | 0,n,h=>by
  have:n=0:=by simpa using h
  rw[this,BC];rfl
 | f+1,n,h=>by
  unfold Q9
  by_cases h0:n=0
  ·subst h0;rw[BC];rfl
  ·rw[show Nat.beq n 0=false from Cs h0,cond_false,Ew h0,MA f (n / LB) (by rw[uD A7];rwa[uF]at h)]
def ZJ(s:AD)(q:Rat):Option (AV×AD):=
 AF (Nat.blt q.num.natAbs (LB ^ 8) && Nat.blt q.den (LB ^ 8)) (some (.agg [.bool (O9 q.num 0),(Id s (Q9 8 q.num.natAbs)).1,(Id (Id s (Q9 8 q.num.natAbs)).2 (Q9 8 q.den)).1],(Id (Id s (Q9 8 q.num.natAbs)).2 (Q9 8 q.den)).2))
theorem NR.slotV{b:Nat}{s:AD}{v:AV}{l:List Nat}(h:NR b s v l)(h0:l=[]→v=.slice none 0 (some 0)):ML b s v l:=by
 by_cases hl:l=[]
 ·exact .inl ⟨hl,h0 hl⟩
 ·refine .inr ⟨hl,?_⟩
  have h1:=h
  obtain⟨O,_,_,q3,q4⟩:=h
  obtain⟨i,rfl,hi,r,hg,hh,hm,hsz,_⟩:=q4 hl
  obtain⟨r',hg',hel⟩:=h1.u32 hl (j:=i) rfl
  rw[hg]at hg'
  injection hg' with hg'
  injection hg' with hg'
  subst hg'
  exact⟨i,rfl,q3 i rfl,r,hg,hh,hm,hsz,hel⟩
theorem ML.obj{b:Nat}{s:AD}{v:AV}{l:List Nat}(h:ML b s v l){i:Nat}(hi:Ci v=some i):∃o,s.heap.get i=some o∧wr o=true∧b≤i:=by
 rcases h with⟨_,rfl⟩ | ⟨_,j,rfl,hb,r,hg,_,hm,_⟩
 ·cases hi
 ·injection hi with hi
  subst hi
  exact⟨_,hg,hm,hb⟩
section
variable{ρ:A5}{s:AD}{w:World}
theorem QY{f:FuncId}{xs:List AV}{xs':Array Value}(h:As Tryz.prog ρ s w)(hf:Ah ρ s)(hxs:AJ ρ xs xs'.toList){K:AV→AD→Prop}(hw:WF (rX Tryz.prog) f xs K (frz s.next s.heap)){Q:Ending→World→Prop}
  (hQ:∀v0 s0 ρ' v' w',K v0 s0→AM ρ' v0 v'→As Tryz.prog ρ' s0 w'→As Tryz.prog ρ s w'→Fr ρ s w ρ s w'→(∀i o rb,s0.heap.get i=some o→wr o=true→ρ' i=some rb→w.heap.size≤rb.b)→Q (.returned v') w'):
  (∃fn c,Tryz.prog.funcs[f]? = some fn∧fn.body=some c)∧CallsIn Fence.wide 0 Tryz.prog f xs' w Q:=by
 obtain⟨n,p,hrun,hK⟩:=hw
 have hcall:=(sK B3 (BD Be) rfl (gn Tryz.prog) n).call ρ (frz s.next s.heap) w f xs p.1 p.2 xs' hrun (h.frz _) hf.frz hxs
 refine⟨hcall.1,CallsIn.mono hcall.2 ?_⟩
 intro e w' he
 cases e with
 | panicked c=>exact he.elim
 | outgrown=>exact he.elim
 | returned v' =>
  obtain⟨ρ',k1,k2,k3⟩:=he
  obtain⟨g1,g2⟩:=h.grown (w1:=w') ⟨k3.os,k3.tape,k3.output,k3.size,fun b hb _=>k3.keep b hb (KX Tryz.prog _ _ b)⟩
  refine hQ p.1 p.2 ρ' v' w' hK k1 k2 g1 g2 fun i o rb hi hwr hr=>?_
  rcases k3.own rb.b ⟨i,o,rb,hi,hwr,hr,rfl⟩with h' | h'
  ·exact absurd h' (KX Tryz.prog _ _ _)
  ·exact h'
theorem Jt{f:FuncId}{xs:List AV}{xs':Array Value}(h:As Tryz.prog ρ s w)(hf:Ah ρ s)(hxs:AJ ρ xs xs'.toList){q:Rat}(hw:WF (rX Tryz.prog) f xs (fun v s'=>QR s.next s' v q) (frz s.next s.heap)){v:AV}{s1:AD}(hp:ZJ s q=some (v,s1)):
    (∃fn c,Tryz.prog.funcs[f]? = some fn∧fn.body=some c)∧CallsIn Fence.wide 0 Tryz.prog f xs' w (Bk Tryz.prog ρ s w v s1):=by
  refine QY h hf hxs hw fun v0 s0 ρ' v' w' hK hv hi hs hfr hge=>?_
  obtain⟨g1,g2⟩:=AA hp
  simp only[Bool.and_eq_true,tP]at g1
  rw[MA 8 _ g1.1,MA 8 _ g1.2]at g2
  injection g2 with g2
  injection g2 with e1 e2
  obtain⟨m,d,rfl,hm,hd,hdj,hz⟩:=hK
  have sm:ML s.next s0 m (AK q.num.natAbs):=hm.slotV fun e=>hz (by
    rcases uL q.num.natAbs with h' | h'
    · omega
    · exact absurd e (Cp (by omega)))
  have sd:ML s.next s0 d (AK q.den):=hd.slotV fun e=>absurd e (Cp q.den_nz)
  cases hv with
  | agg hv =>
  rename_i cs'
  obtain⟨lc⟩:=cs'
  cases hv with
  | cons hb hv =>
  cases hv with
  | cons hvm hv =>
  cases hv with
  | cons hvd hv =>
  cases hv
  obtain⟨ρ1,a1,a2,a3,a4,a5,a6⟩:=Nj (w0:=w) sm hi hvm (fun i o rb _ hio hwo hr=>hge i o rb hio hwo hr) hs (hf.step hfr) hfr (fun i rb hsl hr j oj rj hj hrj=>by
    obtain⟨o,hg,hwo,_⟩:=sm.obj hsl
    have h1:=hge i o rb hg hwo hr
    have h2:=h.lt j rj hrj
    omega)
  obtain⟨ρ2,b1,b2,b3,b4,b5,_⟩:=Nj (w0:=w) sd hi hvd (fun i o rb _ hio hwo hr=>hge i o rb hio hwo hr) a1 a2 a3 (fun i rb hsl hr j oj rj hj hrj=>by
    obtain⟨o,hg,hwo,_⟩:=sd.obj hsl
    rcases a6 j oj rj hj hrj with⟨o1,_,h2⟩ | ⟨i2,rb2,hs2,hr2,e⟩
    · have h1 := hge i o rb hg hwo hr
      have h3:=h.lt j rj h2
      omega
    · obtain⟨o2,hg2,hwo2,_⟩:=sm.obj hs2
      intro hbb
      have hne:i≠i2:=fun e=>by subst e;exact hdj i hs2 hsl
      have:=(hi.sep i i2 o o2 rb rb2 hne hg hg2 hr hr2 (by rw[← hbb,e]) hwo2).2
      rw[hwo]at this
      cases this)
  subst e1;subst e2
  refine⟨ρ2,.agg (.cons ?_ (.cons (a5.mono b4) (.cons b5 .nil))),b1,b3⟩
  rw[Cv]
  exact DA rfl hb
end
def nI(s:AD):List AV→Option (AV×AD)
 | [x,y]=>(Ld s x).bind fun a=>(Ld s y).bind fun b=>ZJ s (a+b)
 | _=>none
def nJ(s:AD):List AV→Option (AV×AD)
 | [x,y]=>(Ld s x).bind fun a=>(Ld s y).bind fun b=>ZJ s (a * b)
 | _=>none
def gQ(s:AD):List AV→Option (AV×AD)
 | [x]=>(Ld s x).bind fun a=>ZJ s a
 | _=>none
def nK(s:AD):List AV→Option (AV×AD)
 | [.agg [.bool neg,m],d]=>(Lc s m).bind fun lm=>(Lc s d).bind fun ld=>AF (Nat.ble lm.length 1000 && Nat.ble ld.length 1000 && Nat.blt 0 (AC ld)) (ZJ s (mkRat (CE neg (AC lm)) (AC ld)))
 | _=>none
def gP(s:AD):List AV→Option (AV×AD)
 | [.int .i64 n]=>bif R9 n 0 || (R9 n 1 || R9 n (-1))then ZJ s (n:Rat)else none
 | _=>none
def gS(s:AD):List AV→Option (AV×AD)
 | [v]=>(Lc s v).bind fun l=>AF (Nat.ble l.length 1000 && Nat.blt 0 (AC l) && Nat.blt (AC l) (LB ^ 8)) (some (Id s (Q9 8 (AC l))))
 | _=>none
def pV:CU:=fun f xs s =>
 bif Nat.beq f 162 then nI s xs else bif Nat.beq f 163 then nJ s xs else bif Nat.beq f 189 then gQ s xs else
 bif Nat.beq f 190 then nK s xs else bif Nat.beq f 130 then gP s xs else bif Nat.beq f 202 then gS s xs else none
section
variable{ρ:A5}{s:AD}{w:World}
theorem ku{f:FuncId}{xs:List AV}{xs':Array Value}(h:As Tryz.prog ρ s w)(hf:Ah ρ s)(hxs:AJ ρ xs xs'.toList){l:List Nat}(hl:l≠[])(hw:WF (rX Tryz.prog) f xs (fun v s'=>NR s.next s' v l) (frz s.next s.heap)):
  (∃fn c,Tryz.prog.funcs[f]? = some fn∧fn.body=some c)∧CallsIn Fence.wide 0 Tryz.prog f xs' w (Bk Tryz.prog ρ s w (Id s l).1 (Id s l).2):=by
 refine QY h hf hxs hw fun v0 s0 ρ' v' w' hK hv hi hs hfr hge=>?_
 have sm:ML s.next s0 v0 l:=hK.slotV fun e=>absurd e hl
 obtain⟨ρ1,a1,a2,a3,a4,a5,a6⟩:=Nj (w0:=w) sm hi hv (fun i o rb _ hio hwo hr=>hge i o rb hio hwo hr) hs (hf.step hfr) hfr (fun i rb hsl hr j oj rj hj hrj=>by
  obtain⟨o,hg,hwo,_⟩:=sm.obj hsl
  have h1:=hge i o rb hg hwo hr
  have h2:=h.lt j rj hrj
  omega)
 exact⟨ρ1,a5,a1,a3⟩
theorem ki      : Av     Tryz.prog pV   := by
  intro ρ s w f xs v s1 xs' hc h hf ha
  unfold pV at hc
  have nx:(frz s.next s.heap).next=s.next:=rfl
  cases h1:Nat.beq f 162 with
  | true =>
    rw[h1]at hc
    have:=tM h1
    subst this
    rw[cond_true]at hc
    unfold nI at hc
    split at hc
    · simp only[tH]at hc
      obtain⟨a,ha',b,hb',hp⟩:=hc
      exact Jt h hf ha (kz M9 (Fz ha') (Fz hb') (by decide) (by decide) (by decide) fun s' v _ hv=>hv) hp
    · cases hc
  | false =>
  rw[h1,cond_false]at hc
  cases h2:Nat.beq f 163 with
  | true =>
    rw[h2]at hc
    have:=tM h2
    subst this
    rw[cond_true]at hc
    unfold nJ at hc
    split at hc
    · simp only[tH]at hc
      obtain⟨a,ha',b,hb',hp⟩:=hc
      exact Jt h hf ha (lB M9 (Fz ha') (Fz hb') (by decide) (by decide) (by decide) fun s' v _ hv=>hv) hp
    · cases hc
  | false =>
  rw[h2,cond_false]at hc
  cases h3:Nat.beq f 189 with
  | true =>
    rw[h3]at hc
    have:=tM h3
    subst this
    rw[cond_true]at hc
    unfold gQ at hc
    split at hc
    · simp only[tH]at hc
      obtain⟨a,ha',hp⟩:=hc
      exact Jt h hf ha (HB M9 (Fz ha') (by decide) fun s' v _ hv=>hv) hp
    · cases hc
  | false =>
  rw[h3,cond_false]at hc
  cases h4:Nat.beq f 190 with
  | true =>
    rw[h4]at hc
    have:=tM h4
    subst this
    rw[cond_true]at hc
    unfold nK at hc
    split at hc
    · simp only[tH]at hc
      obtain⟨lm,hm,ld,hd,hp⟩:=hc
      obtain⟨hg,hp⟩:=AA hp
      simp only[Bool.and_eq_true,tK,tP]at hg
      obtain⟨⟨g1,g2⟩,g3⟩:=hg
      obtain⟨m1,m2⟩:=Fy hm
      obtain⟨d1,d2⟩:=Fy hd
      exact Jt h hf ha (FL M9 (kn:=1000) ⟨_,_,lm,rfl,m1,m2,g1,rfl⟩ d1 (by decide) (by omega) d2 (by omega) fun s' v _ hv=>hv) hp
    · cases hc
  | false =>
  rw[h4,cond_false]at hc
  cases h5:Nat.beq f 130 with
  | true =>
    rw[h5]at hc
    have:=tM h5
    subst this
    rw[cond_true]at hc
    unfold gP at hc
    split at hc
    · rename_i n
      cases hn:R9 n 0 || (R9 n 1 || R9 n (-1))with
      | false=>rw[hn]at hc;cases hc
      | true =>
        rw[hn,cond_true]at hc
        simp only[Bool.or_eq_true,GI,beq_iff_eq]at hn
        exact Jt h hf ha (hX M9 hn fun s' v _ hv=>hv) hc
    · cases hc
  | false =>
  rw[h5,cond_false]at hc
  cases h6:Nat.beq f 202 with
  | true =>
    rw[h6]at hc
    have:=tM h6
    subst this
    rw[cond_true]at hc
    unfold gS at hc
    split at hc
    · simp only[tH]at hc
      obtain⟨l,hl,hp⟩:=hc
      obtain⟨hg,hp⟩:=AA hp
      simp only[Bool.and_eq_true,tK,tP]at hg
      obtain⟨⟨g1,g2⟩,g3⟩:=hg
      obtain⟨l1,l2⟩:=Fy hl
      rw[MA 8 _ g3]at hp
      injection hp with hp
      have e1:(Id s (AK (AC l))).1=v:=by rw[hp]
      have e2:(Id s (AK (AC l))).2=s1:=by rw[hp]
      rw[← e1,← e2]
      refine ku h hf ha (Cp (by omega)) (CA M9 l1 (by omega) fun s' v' _ hv=>?_)
      rw[BN l2]at hv
      exact hv
    · cases hc
  | false =>
    rw[h6]at hc
    cases hc
end
end
end Go.Proofs.YtoaaclpjkelofaaGreatDoor.Am
set_option linter.unusedVariables false
set_option linter.unusedSimpArgs false
set_option maxRecDepth 16000
namespace Go.Proofs.YtoaaclpjkelofaaGreatDoor.Am
open Go Go.Proofs Go.RowKit
noncomputable section
theorem rG:lY Tryz.prog 53 3:=by
 refine⟨fun bd bs nd ns Dd Ds w hd hs hne hroom=>AnyX.maps_Copy (ρ:=GM) Sx (Go.Maps.int_keyed Tryz.underlying3) Rv bd bs nd ns Dd Ds w hd hs hne hroom,fun pd w=>AnyX.maps_Copy_nil (ρ:=GM) Sx pd w⟩
theorem Rw(m:Nat):AnyZI.SortsIn Tryz.prog G4 Fence.wide m:=
  ⟨fun blk off cap ss W hH hblk hsz=>callsIn_wide.2 (AnyM.slices_Sort_int Jh blk off cap ss W hH hblk hsz),
   fun p cap W=>callsIn_wide.2 (AnyM.slices_Sort_int_none Jh p cap W)⟩
theorem iP:Pr Tryz.prog 32 217 3 3:=by
  refine⟨fun Bm b nn D0 w hBm hm hown hsz=>?_,fun Bm w hBm hm=>?_⟩
  · have hseq := AnyZI.keys_gives (ρ := GN)           { Sy       with } Fence.wide 2 trivial rfl (by omega) Bm b nn D0 w hBm hm hown
    have cS:=AnyZI.sorted_in GP Fence.wide 5 trivial trivial trivial trivial rfl (by omega) (Rw _) (enters_of Tryz.func73 (by kernel_rfl) rfl) 217 #[.pointer (some ⟨Bm,0,none⟩)] trivial (enters_of Tryz.func217 (by kernel_rfl) rfl) _ _ (tN hsz (by unfold maxLen;omega)) (by omega) _ hseq
    exact callsIn_wide.1 cS
  · have hseq := AnyZI.keys_gives_nil (ρ := GN)           { Sy       with } Fence.wide 2 trivial rfl Bm w hBm hm
    have cS:=AnyZI.sorted_in GP Fence.wide 5 trivial trivial trivial trivial rfl (by omega) (Rw _) (enters_of Tryz.func73 (by kernel_rfl) rfl) 217 #[.pointer (some ⟨Bm,0,none⟩)] trivial (enters_of Tryz.func217 (by kernel_rfl) rfl) _ 0 (tV _) (by omega) _ hseq
    refine(callsIn_wide.1 cS).mono ?_
    rintro e w' ⟨v,ss,rfl,hS,_,hnil,hb⟩
    rw[hnil.2 hS]
    exact⟨rfl,hb⟩
theorem iR:Pr Tryz.prog 32 74 3 3:=by
  refine⟨fun Bm b nn D0 w hBm hm hown hsz=>?_,fun Bm w hBm hm=>?_⟩
  · have hseq := AnyZI.keys_gives (ρ := GO)           { Sz       with } Fence.wide 2 trivial rfl (by omega) Bm b nn D0 w hBm hm hown
    have cS:=AnyZI.sorted_in GP Fence.wide 5 trivial trivial trivial trivial rfl (by omega) (Rw _) (enters_of Tryz.func73 (by kernel_rfl) rfl) 74 #[.pointer (some ⟨Bm,0,none⟩)] trivial (enters_of Tryz.func74 (by kernel_rfl) rfl) _ _ (tN hsz (by unfold maxLen;omega)) (by omega) _ hseq
    exact callsIn_wide.1 cS
  · have hseq := AnyZI.keys_gives_nil (ρ := GO)           { Sz       with } Fence.wide 2 trivial rfl Bm w hBm hm
    have cS:=AnyZI.sorted_in GP Fence.wide 5 trivial trivial trivial trivial rfl (by omega) (Rw _) (enters_of Tryz.func73 (by kernel_rfl) rfl) 74 #[.pointer (some ⟨Bm,0,none⟩)] trivial (enters_of Tryz.func74 (by kernel_rfl) rfl) _ 0 (tV _) (by omega) _ hseq
    refine(callsIn_wide.1 cS).mono ?_
    rintro e w' ⟨v,ss,rfl,hS,_,hnil,hb⟩
    rw[hnil.2 hS]
    exact⟨rfl,hb⟩
def In(a b:CU):CU:=fun f xs s=>match a f xs s with
 | some p=>some p
 | none=>b f xs s
theorem BT{P:Program}{a b:CU}(ha:Av P a)(hb:Av P b):Av P (In a b):=by
 intro ρ s w f xs v s1 xs' hc hi hf hx
 unfold In at hc
 cases h:a f xs s with
 | some p=>rw[h]at hc;injection hc with hc;subst hc;exact ha ρ s w f xs v s1 xs' h hi hf hx
 | none=>rw[h]at hc;exact hb ρ s w f xs v s1 xs' hc hi hf hx
def Od (g:FuncId) (a:List AV→AD→Option (AV×AD)):CU:=fun f xs s=>bif Nat.beq f g then a xs s else none
theorem Cu{P:Program}{g:FuncId}{a:List AV→AD→Option (AV×AD)}(h:∀ρ s w xs v s1 xs',a xs s=some (v,s1)→As P ρ s w→Ah ρ s→AJ ρ xs xs'.toList →
  (∃fn c,P.funcs[g]? = some fn∧fn.body=some c)∧CallsIn Fence.wide 0 P g xs' w (Bk P ρ s w v s1)):Av P (Od g a):=by
 intro ρ s w f xs v s1 xs' hc hi hf hx
 unfold Od at hc
 cases h2:Nat.beq f g with
 | true =>
  rw[h2]at hc
  have:=tM h2
  subst this
  exact h ρ s w xs v s1 xs' hc hi hf hx
 | false=>rw[h2]at hc;cases hc
def rl:CU:=In (Od 53 fun xs s=>Up 3 s xs) (In (Od 32 fun xs s=>J1 217 3 3 s xs)
 (Od 32 fun xs s=>J1 74 3 3 s xs))
theorem kh:Av Tryz.prog rl:=
 BT (Cu fun ρ s w xs v s1 xs' hc hi hf ha=>⟨⟨_,_,Tryz.func53,rfl⟩,Yo (by kernel_rfl) rG hi hc ha⟩)
  (BT (Cu fun ρ s w xs v s1 xs' hc hi hf ha=>⟨⟨_,_,Tryz.func32,rfl⟩,Li (by kernel_rfl) Tryz.underlying3 iP hi hf hc ha⟩)
   (Cu fun ρ s w xs v s1 xs' hc hi hf ha=>⟨⟨_,_,Tryz.func32,rfl⟩,Li (by kernel_rfl) Tryz.underlying3 iR hi hf hc ha⟩))
def gR(s:AD):List AV→Option (AV×AD)
 | [x]=>(Ld s x).bind fun q=>some (.int .i64 (Lr q.num),s)
 | _=>none
section
variable{ρ:A5}{s:AD}{w:World}
theorem kP{f:FuncId}{xs:List AV}{xs':Array Value}(h:As Tryz.prog ρ s w)(hf:Ah ρ s)(hxs:AJ ρ xs xs'.toList){v:AV}(hv:LM v=true)(hw:WF (rX Tryz.prog) f xs (fun u s'=>u=v) (frz s.next s.heap)):
  (∃fn c,Tryz.prog.funcs[f]? = some fn∧fn.body=some c)∧CallsIn Fence.wide 0 Tryz.prog f xs' w (Bk Tryz.prog ρ s w v s):=by
 refine QY h hf hxs hw fun v0 s0 ρ' v' w' hK hv0 hi hs hfr hge=>?_
 subst hK
 exact⟨ρ,DA hv hv0,hs,hfr⟩
end
def nP:CU:=In rl (In pV (Od 196 fun xs s=>gR s xs))
theorem gY:Av Tryz.prog nP:=BT kh (BT ki (Cu fun ρ s w xs v s1 xs' hc hi hf ha=>by
 unfold gR at hc
 split at hc
 ·simp only[tH]at hc
  obtain⟨q,hq,hp⟩:=hc
  injection hp with hp
  injection hp with e1 e2
  subst e1;subst e2
  exact kP hi hf ha rfl (hY M9 (Fz hq) (by decide) fun s' _=>rfl)
 ·cases hc))
end
end Go.Proofs.YtoaaclpjkelofaaGreatDoor.Am
set_option linter.unusedVariables false
set_option linter.unusedSimpArgs false
set_option maxRecDepth 100000
namespace Go.Proofs.YtoaaclpjkelofaaGreatDoor.Am
open Go Go.Proofs
noncomputable section
theorem nY:A1 Tryz.prog 108=some 2:=by kernel_rfl
theorem sH:Dy Tryz.prog 108=some (.agg [(.ptr none),(.slice none 0 (some 0))]):=by kernel_rfl
theorem Xs(i o:Nat):AN Tryz.prog 108 (.ptr (some (i,o))) 0=some (.ptr (some (i,o+0))):=by kernel_rfl
theorem Xt(i o:Nat):AN Tryz.prog 108 (.ptr (some (i,o))) 1=some (.ptr (some (i,o+1))):=by kernel_rfl
theorem sE:A1 Tryz.prog 22=some 1:=by kernel_rfl
theorem Zn:Ek Tryz.prog 22=some false:=by kernel_rfl
theorem sW:Dy Tryz.prog 22=some (.slice none 0 (some 0)):=by kernel_rfl
theorem sD:A1 Tryz.prog 106=some 1:=by kernel_rfl
theorem lZ:Ek Tryz.prog 106=some false:=by kernel_rfl
theorem pr:A1 Tryz.prog 5=some 1:=by kernel_rfl
theorem sZ:DL Tryz.prog 5=some 1:=by kernel_rfl
theorem sY:Ek Tryz.prog 5=some false:=by kernel_rfl
def lg:List AB:=[
 ⟨none,.p1 some,[(.const (.str []))],(.set 1),[]⟩]
def lh:List AB:=[
 ⟨none,.mk (fun l=>match l with | []=>At Tryz.prog 108 | _=>none),[],(.set 2),[]⟩]
def li:List AB:=[
 ⟨none,.p1 some,[.var 0],(.set 4),[]⟩,
 ⟨none,.r (fun s l=>match l with | [x]=>Bb Tryz.prog s 30 x | _=>none),[.var 4],(.set 5),[]⟩,
 ⟨none,.p1 some,[(.const (.int .i64 (0)))],(.set 6),[]⟩]
def ee:List AB:=[
 ⟨none,.p2 (AP Tryz.prog .lss 3),[.var 6,.var 5],(.set 7),[]⟩]
def lj:List AB:=[
 ⟨none,.p2 (AR Tryz.prog 30),[.var 4,.var 6],.push,[]⟩,
 ⟨none,.r1 (fun s a=>AG Tryz.prog s 3 a),[.loc 0],.push,[]⟩,
 ⟨none,.p1 some,[.loc 0],(.set 3),[]⟩]
def ll:List AB:=[
 ⟨none,.call 59,[.var 3],.push,[]⟩,
 ⟨none,.p2 (AP Tryz.prog .add 9),[(.loc 0),(.const (.str [32]))],.push,[]⟩,
 ⟨none,.call 58,[.var 2,.loc 0],.push,[]⟩]
def ln:List AB:=[
 ⟨none,.p2 (AP Tryz.prog .add 3),[(.var 6),(.const (.int .i64 (1)))],.push,[]⟩,
 ⟨none,.p1 some,[.loc 0],(.set 6),[]⟩]
def ST:Aa:=(.seq (.ops ee) (.seq (.cond (.var 7)
 .skip
 (.exit 0)) (.seq (.block 1 (.seq (.ops lj) (.ops ll))) (.ops ln))))
def lq:List AB:=[
 ⟨none,.call 60,[.var 2],.push,[]⟩,
 ⟨none,.p1 some,[.loc 0],(.set 1),[]⟩]
def se:Au:=⟨1,8,(.seq (.ops lg) (.seq (.ops lh) (.seq (.seq (.ops li) (.block 0 (.loop ST))) (.seq (.ops lq) .ret)))),[((.var 1),none)]⟩
def lr:List AB:=[
 ⟨none,.p1 some,[(.const (.int .i64 (0)))],(.set 2),[]⟩,
 ⟨none,.p1 some,[(.const .nilIface)],(.set 3),[]⟩]
def ls:List AB:=[
 ⟨none,.call 95,[.var 0],.push,[]⟩]
def lu:List AB:=[
 ⟨none,.p1 CD,[.var 0],.push,[]⟩,
 ⟨none,.p1 (fun x=>AN Tryz.prog 108 x 1),[.loc 0],.push,[]⟩,
 ⟨none,.r1 (fun s a=>AG Tryz.prog s 22 a),[.loc 0],.push,[]⟩,
 ⟨none,.e (fun s l=>Ay Tryz.prog s [22,9] l),[.loc 0,.var 1],.push,[]⟩,
 ⟨none,.p1 CD,[.var 0],.push,[]⟩,
 ⟨none,.p1 (fun x=>AN Tryz.prog 108 x 1),[.loc 0],.push,[]⟩,
 ⟨none,.e (fun s=>Xx (fun a x=>Xz (AY Tryz.prog s 22 a x))),[.loc 0,.loc 2],.push,[]⟩]
def lv:List AB:=[
 ⟨none,.r (fun s l=>match l with | [x]=>Bb Tryz.prog s 9 x | _=>none),[.var 1],.push,[]⟩,
 ⟨none,.p1 some,[.loc 0],(.set 2),[]⟩,
 ⟨none,.p1 some,[(.const .nilIface)],(.set 3),[]⟩]
def si:Au:=⟨2,4,(.seq (.ops lr) (.seq (.ops ls) (.seq (.ops lu) (.seq (.ops lv) .ret)))),[((.var 2),none),((.var 3),none)]⟩
def ef:List AB:=[
 ⟨none,.p1 CD,[.var 0],.push,[]⟩,
 ⟨none,.p1 (fun x=>AN Tryz.prog 108 x 0),[.loc 0],.push,[]⟩,
 ⟨none,.r1 (fun s a=>AG Tryz.prog s 106 a),[.loc 0],.push,[]⟩,
 ⟨none,.p2 (AP Tryz.prog .eql 106),[(.loc 0),(.const (.ptr none))],(.set 1),[]⟩]
def ly:List AB:=[
 ⟨none,.r1 (fun s x=>Ac Tryz.prog s 106 164 x),[.var 0],.push,[]⟩,
 ⟨none,.e RH,[.loc 0],.push,[]⟩,
 ⟨none,.r1 (fun s x=>Ac Tryz.prog s 164 106 x),[.loc 0],.push,[]⟩,
 ⟨none,.p1 CD,[.var 0],.push,[]⟩,
 ⟨none,.p1 (fun x=>AN Tryz.prog 108 x 0),[.loc 0],.push,[]⟩,
 ⟨none,.e (fun s=>Xx (fun a x=>Xz (AY Tryz.prog s 106 a x))),[.loc 0,.loc 2],.push,[]⟩]
def lz:List AB:=[
 ⟨none,.p1 CD,[.var 0],.push,[]⟩,
 ⟨none,.p1 (fun x=>AN Tryz.prog 108 x 0),[.loc 0],.push,[]⟩,
 ⟨none,.r1 (fun s a=>AG Tryz.prog s 106 a),[.loc 0],.push,[]⟩,
 ⟨none,.r (fun s=>Xx (GX Tryz.prog s true 106)),[.loc 0,.var 0],(.set 2),[]⟩]
def sP:Au:=⟨1,3,(.seq (.ops ef) (.cond (.var 1)
 (.ops ly)
 (.seq (.ops lz) (.cond (.var 2)
 .never
 .skip)))),[]⟩
def lw:List AB:=[
 ⟨none,.p1 some,[(.const (.str []))],(.set 1),[]⟩]
def lx:List AB:=[
 ⟨none,.p1 CD,[.var 0],.push,[]⟩,
 ⟨none,.p1 (fun x=>AN Tryz.prog 108 x 1),[.loc 0],.push,[]⟩,
 ⟨none,.r1 (fun s a=>AG Tryz.prog s 22 a),[.loc 0],.push,[]⟩,
 ⟨none,.p (fun l=>match l with | [x]=>SX x | _=>none),[.loc 0],.push,[]⟩,
 ⟨none,.p1 CD,[.var 0],.push,[]⟩,
 ⟨none,.p1 (fun x=>AN Tryz.prog 108 x 1),[.loc 0],.push,[]⟩,
 ⟨none,.r1 (fun s a=>AG Tryz.prog s 22 a),[.loc 0],.push,[]⟩,
 ⟨none,.r (fun s l=>match l with | [x]=>Bb Tryz.prog s 22 x | _=>none),[.loc 0],.push,[]⟩,
 ⟨none,.e (fun s l=>Pi Tryz.prog s [144,3] l),[.loc 4,.loc 0],.push,[]⟩,
 ⟨none,.p1 some,[.loc 0],(.set 1),[]⟩]
def sj:Au:=⟨1,2,(.seq (.ops lw) (.seq (.ops lx) .ret)),[((.var 1),none)]⟩
theorem np:AS Tryz.prog 42=some se:=by kernel_rfl
theorem nr:AS Tryz.prog 58=some si:=by kernel_rfl
theorem nz:AS Tryz.prog 95=some sP:=by kernel_rfl
theorem ny:AS Tryz.prog 60=some sj:=by kernel_rfl
def Z5:List AB:=[
 ⟨none,.p1 some,[(.const (.str []))],(.set 1),[]⟩]
def Z6:List AB:=[
 ⟨none,.mk (fun l=>match l with | []=>At Tryz.prog 22 | _=>none),[],(.set 2),[]⟩]
def Z7:List AB:=[
 ⟨none,.p (fun l=>some (.func 203 (l.take 0) (l.drop 0))),[.var 2],.push,[]⟩,
 ⟨none,.p1 some,[.loc 0],(.set 3),[]⟩]
def Z8:List AB:=[
 ⟨none,.p1 some,[.var 0],.push,[]⟩,
 ⟨none,.call 202,[.loc 0],.push,[]⟩,
 ⟨none,.p1 some,[.loc 0],(.set 0),[]⟩]
def UH:List AB:=[
 ⟨none,.r (fun s l=>match l with | [x]=>Bb Tryz.prog s 77 x | _=>none),[.var 0],.push,[]⟩,
 ⟨none,.p2 (AP Tryz.prog .gtr 3),[(.loc 0),(.const (.int .i64 (0)))],(.set 7),[]⟩]
def Z9:List AB:=[
 ⟨none,.call 204,[(.var 0),(.const (.int .u64 (1000000000)))],.push,[]⟩,
 ⟨none,.p1 (fun x=>Za x 0),[.loc 0],.push,[]⟩,
 ⟨none,.p1 (fun x=>Za x 1),[.loc 1],.push,[]⟩,
 ⟨none,.p1 some,[.loc 1],(.set 4),[]⟩,
 ⟨none,.p1 some,[.loc 0],(.set 5),[]⟩]
def aC:List AB:=[
 ⟨none,.p1 some,[.var 4],(.set 0),[]⟩]
def aE:List AB:=[
 ⟨none,.p1 some,[(.const (.int .i64 (0)))],(.set 8),[]⟩]
def UI:List AB:=[
 ⟨none,.p2 (AP Tryz.prog .lss 3),[(.var 8),(.const (.int .i64 (9)))],(.set 9),[]⟩]
def aF:List AB:=[
 ⟨none,.p1 some,[.var 5],.push,[]⟩,
 ⟨none,.callv,[.var 3,.loc 0],.push,[]⟩,
 ⟨none,.p1 some,[.loc 0],(.set 5),[]⟩]
def V4:List AB:=[
 ⟨none,.p2 (AP Tryz.prog .add 3),[(.var 8),(.const (.int .i64 (1)))],.push,[]⟩,
 ⟨none,.p1 some,[.loc 0],(.set 8),[]⟩]
def Iu:Aa:=(.seq (.ops UI) (.seq (.cond (.var 9)
 .skip
 (.exit 2)) (.seq (.block 3 (.ops aF)) (.ops V4))))
def HK:Aa:=(.seq (.seq (.ops UH) (.cond (.var 7)
 .skip
 (.exit 0))) (.block 1 (.seq (.ops Z9) (.seq (.ops aC) (.seq (.ops aE) (.block 2 (.loop Iu)))))))
def P0:List AB:=[
 ⟨none,.r1 (fun s a=>AG Tryz.prog s 22 a),[.var 2],.push,[]⟩,
 ⟨none,.call 205,[.loc 0],.push,[]⟩]
def P1:List AB:=[
 ⟨none,.r1 (fun s a=>AG Tryz.prog s 22 a),[.var 2],.push,[]⟩,
 ⟨none,.r1 (fun s x=>Ac Tryz.prog s 22 9 x),[.loc 0],.push,[]⟩,
 ⟨none,.call 206,[(.loc 0),(.const (.str [48]))],.push,[]⟩,
 ⟨none,.p1 some,[.loc 0],(.set 6),[]⟩]
def Lx:List AB:=[
 ⟨none,.p2 (AP Tryz.prog .eql 9),[(.var 6),(.const (.str []))],(.set 10),[]⟩]
def Ly:List AB:=[
 ⟨none,.p1 some,[(.const (.str [48]))],(.set 1),[]⟩]
def P2:List AB:=[
 ⟨none,.p1 some,[.var 6],(.set 1),[]⟩]
def qO:Au:=⟨1,11,(.seq (.ops Z5) (.seq (.ops Z6) (.seq (.ops Z7) (.seq (.seq (.ops Z8) (.block 0 (.loop HK))) (.seq (.ops P0) (.seq (.ops P1) (.seq (.seq (.ops Lx) (.cond (.var 10)
 (.seq (.ops Ly) .ret)
 .skip)) (.seq (.ops P2) .ret)))))))),[((.var 1),none)]⟩
def bK:List AB:=[
 ⟨none,.p1 some,[(.const (.int .u64 (0)))],(.set 2),[]⟩]
def bL:List AB:=[
 ⟨none,.r1 (fun s a=>AG Tryz.prog s 22 a),[.var 1],.push,[]⟩,
 ⟨none,.p2 (AP Tryz.prog .rem 187),[(.var 0),(.const (.int .u64 (10)))],.push,[]⟩,
 ⟨none,.p2 (AP Tryz.prog .add 187),[(.const (.int .u64 (48))),(.loc 0)],.push,[]⟩,
 ⟨none,.r1 (fun s x=>Ac Tryz.prog s 187 5 x),[.loc 0],.push,[]⟩,
 ⟨none,.mk (fun l=>(An Tryz.prog 22 1 (zipIdx [0] l)).bind fun r=>some (r,.slice 1)),[.loc 0],.push,[]⟩,
 ⟨none,.e (fun s l=>Ay Tryz.prog s [22,22] l),[.loc 4,.loc 0],.push,[]⟩,
 ⟨none,.e (fun s=>Xx (fun a x=>Xz (AY Tryz.prog s 22 a x))),[.var 1,.loc 0],.push,[]⟩]
def bM:List AB:=[
 ⟨none,.p2 (AP Tryz.prog .quo 187),[(.var 0),(.const (.int .u64 (10)))],.push,[]⟩,
 ⟨none,.p1 some,[.loc 0],(.set 2),[]⟩]
def qY:Au:=⟨2,3,(.seq (.ops bK) (.seq (.ops bL) (.seq (.ops bM) .ret))),[((.var 2),none)]⟩
def UT:List AB:=[
 ⟨none,.r (fun s l=>match l with | [x]=>Bb Tryz.prog s 22 x | _=>none),[.var 0],.push,[]⟩,
 ⟨none,.p2 (AP Tryz.prog .sub 3),[(.loc 0),(.const (.int .i64 (1)))],.push,[]⟩,
 ⟨none,.p1 some,[(.const (.int .i64 (0)))],(.set 1),[]⟩,
 ⟨none,.p1 some,[.loc 0],(.set 2),[]⟩]
def P4:List AB:=[
 ⟨none,.p2 (AP Tryz.prog .lss 3),[.var 1,.var 2],(.set 3),[]⟩]
def bV:List AB:=[
 ⟨none,.p2 (AR Tryz.prog 22),[.var 0,.var 2],.push,[]⟩,
 ⟨none,.r1 (fun s a=>AG Tryz.prog s 5 a),[.loc 0],.push,[]⟩,
 ⟨none,.p2 (AR Tryz.prog 22),[.var 0,.var 1],.push,[]⟩,
 ⟨none,.r1 (fun s a=>AG Tryz.prog s 5 a),[.loc 0],.push,[]⟩,
 ⟨none,.p2 (AR Tryz.prog 22),[.var 0,.var 1],.push,[]⟩,
 ⟨none,.e (fun s=>Xx (fun a x=>Xz (AY Tryz.prog s 5 a x))),[.loc 0,.loc 3],.push,[]⟩,
 ⟨none,.p2 (AR Tryz.prog 22),[.var 0,.var 2],.push,[]⟩,
 ⟨none,.e (fun s=>Xx (fun a x=>Xz (AY Tryz.prog s 5 a x))),[.loc 0,.loc 3],.push,[]⟩]
def bW:List AB:=[
 ⟨none,.p1 some,[.var 1],.push,[]⟩,
 ⟨none,.p2 (AP Tryz.prog .add 3),[(.loc 0),(.const (.int .i64 (1)))],.push,[]⟩,
 ⟨none,.p1 some,[.var 2],.push,[]⟩,
 ⟨none,.p2 (AP Tryz.prog .sub 3),[(.loc 0),(.const (.int .i64 (1)))],.push,[]⟩,
 ⟨none,.p1 some,[.loc 2],(.set 1),[]⟩,
 ⟨none,.p1 some,[.loc 0],(.set 2),[]⟩]
def KG:Aa:=(.seq (.seq (.ops P4) (.cond (.var 3)
 .skip
 (.exit 0))) (.seq (.block 1 (.ops bV)) (.ops bW)))
def nl:Au:=⟨1,4,(.seq (.ops UT) (.block 0 (.loop KG))),[]⟩
theorem jV:AS Tryz.prog 182=some qO:=by kernel_rfl
theorem jf:AS Tryz.prog 203=some qY:=by kernel_rfl
theorem W6:AS Tryz.prog 205=some nl:=by kernel_rfl
end
end Go.Proofs.YtoaaclpjkelofaaGreatDoor.Am
set_option linter.unusedVariables false
set_option linter.unusedSimpArgs false
set_option maxRecDepth 16000
namespace Go.Proofs.YtoaaclpjkelofaaGreatDoor.Am
open Go Go.Proofs
noncomputable section
def Vr(n:Nat):AV:=.int .u8 (n:Int)
def bs(l:List Nat):List AV:=l.map Vr
theorem UA(l:List Nat):(bs l).length=l.length:=by simp[bs]
theorem Yh(a b:List Nat):bs (a++b)=bs a++bs b:=by simp[bs]
theorem Zs{l:List Nat}{k x:Nat}(h:l[k]? = some x):(bs l)[k]? = some (Vr x):=by simp[bs,h]
theorem Zt(l:List Nat)(k x:Nat):(bs l).set k (Vr x)=bs (l.set k x):=by simp[bs,List.map_set]
theorem nh(l:List Nat):Ag (bs l)=true:=by
 induction l with
 | nil=>rfl
 | cons x l ih=>show(true && Ag (bs l))=true;rw[ih];rfl
theorem pm(x:Int):An Tryz.prog 22 1 (zipIdx [0] [.int .u8 x])=some (R 5 1 false [.int .u8 x]):=by kernel_rfl
theorem iu:Bp Tryz.prog 22=true:=by kernel_rfl
theorem sG:Cj Tryz.prog 5 1=true:=by kernel_rfl
theorem kE{s:AD}{n:Nat}(h:n<256):Ac Tryz.prog s 187 5 (AU n)=some (Vr n):=by
 have:Ac Tryz.prog s 187 5 (AU n)=some (.int .u8 (Cb .u8 (n:Int))):=by
  simp[Ac,Tryz.underlying187,Tryz.underlying5,AU]
 rw[this,N4 (by simp only[BM,tK];omega)]
 rfl
section
variable{E:Ck}{s:AD}
theorem Ze(hE:Ak E){p n m:Nat}{v:AV}{cs:List Nat}{OB:List Nat}(hn:n<18446744073709551616)(hp:s.heap.get p=some (R 22 0 false [v]))(hpl:p<s.next)(hb:Gg 5 1 s v m (bs cs) OB)(hpo:p ∉ OB)(hm:m≤10000000000){K:AV→AD→Prop}
  (hK:∀s' v' OB',s.next≤s'.next→(∀j,j<s.next→j≠p→j ∉ OB→s'.heap.get j=s.heap.get j)→s'.heap.get p=some (R 22 0 false [v'])→Gg 5 1 s' v' (m+1) (bs (cs++[48+n % 10])) OB'→p ∉ OB'→(∀j∈OB',j∈OB∨s.next≤j)→K (AU (n / 10)) s'):
  WF E 203 [AU n,.ptr (some (p,0))] K s:=by
 have e1:AG Tryz.prog s 22 (.ptr (some (p,0)))=some v:=Af Zn hp rfl
 have e2:AP Tryz.prog .rem 187 (AU n) (.int .u64 10)=some (AU (n % 10)):=ii Tryz.prog 187 (a:=n) (b:=10) (by decide)
 have e3:AP Tryz.prog .add 187 (.int .u64 48) (AU (n % 10))=some (AU (48+n % 10)):=HG Tryz.prog 187 (a:=48) (b:=n % 10) (by omega)
 have e4:=kE (s:=s) (n:=48+n % 10) (by omega)
 have e5:An Tryz.prog 22 1 (zipIdx [0] [Vr (48+n % 10)])=some (R 5 1 false [Vr (48+n % 10)]):=pm _
 have e6:AP Tryz.prog .quo 187 (AU n) (.int .u64 10)=some (AU (n / 10)):=ig Tryz.prog 187 (a:=n) (b:=10) hn (by decide)
 have hnx:(newObj s (R 5 1 false [Vr (48+n % 10)])).next=s.next+1:=rfl
 have hb2:=hb.frame (s':=newObj s (R 5 1 false [Vr (48+n % 10)])) (by rw[hnx];omega) fun j hj=>by rw[AQ,if_neg (by have:=hb.lt j hj;omega)]
 have hsrc:B4 Tryz.prog (newObj s (R 5 1 false [Vr (48+n % 10)])) 5 1 (.slice (some (s.next,0)) 1 (some 1))=some (1,bs [48+n % 10]):=Rz 5 1 (by rw[AQ,if_pos rfl];rfl) rfl
 obtain⟨v2,s3,OB2,happ,hbuf,hn3,hf3,hO3,hsl⟩:=hb2.append (xt:=22) (m:=1) Tryz.underlying22 pr sZ (by decide) iu sG (by decide) hsrc rfl (nh _) (by omega) (by omega)
 rw[hnx]at hn3 hf3 hO3
 have hp3:s3.heap.get p=some (R 22 0 false [v]):=by rw[hf3 p (by omega) hpo,AQ,if_neg (by omega)];exact hp
 have hpo2:p ∉ OB2:=fun h=>(hO3 p h).elim hpo fun h=>by omega
 obtain⟨a2,c2,hv2,_⟩:=hbuf.slice
 have e8:=Cr (P:=Tryz.prog) (t:=22) (o:=0) (v:=v2) sE hp3 (by simp) (by rw[hv2];rfl)
 simp only[uE]at e8
 refine hE.go jf (by decide) rfl ?_
 simp only[qY,bK,bL,bM,e1,e2,e3,e4,e5,e6,happ,e8,Xx,Xz,Xd,Qa,Qb,Qc,Qd,Qf,Qh,Qi,Qj,Qk,Ql,Qm,Qn,true_and,Qo,Qp,Qq,Qr,Qs,Qu,Ra,Rg,Ri,Rj,Rk,Rm,Yc]
 refine hK _ v2 OB2 (by show s.next≤s3.next;omega) (fun j hj hjp hjo=>?_) (Wv _ _ _) ?_ hpo2 (fun j hj=>(hO3 j hj).imp id fun h=>by omega)
 ·rw[Ww _ hjp,hf3 j (by omega) hjo,AQ,if_neg (by omega)]
 ·rw[Yh]
  exact hbuf.frame (tJ _) fun j hj=>Ww _ fun e=>hpo2 (by rw[← e];exact hj)
def EH(G:Nat→Prop)(s:AD)(p:Nat)(cs:List Nat):Prop:=∃v OB,s.heap.get p=some (R 22 0 false [v])∧p<s.next∧G p∧Gg 5 1 s v cs.length (bs cs) OB∧p ∉ OB∧∀j∈OB,G j
def Ty(G:Nat→Prop)(s s':AD):Prop:=s.next≤s'.next∧∀j,j<s.next→¬ G j→s'.heap.get j=s.heap.get j
theorem Ty.refl(G:Nat→Prop)(s:AD):Ty G s s:=⟨tJ _,fun _ _ _=>rfl⟩
theorem Ty.trans{G:Nat→Prop}{s s1 s2:AD}(h:Ty G s s1)(k:Ty G s1 s2):Ty G s s2:=⟨tN h.1 k.1,fun j hj hg=>(k.2 j (tO hj h.1) hg).trans (h.2 j hj hg)⟩
theorem EH.old{G:Nat→Prop}{p:Nat}{s s':AD}{cs:List Nat}(h:EH G s p cs)(k:A9 s.next s s'):EH G s' p cs:=by
 obtain⟨v,OB,h1,h2,h3,h4,h5,h6⟩:=h
 exact⟨v,OB,(k.2 p h2).trans h1,tO h2 k.1,h3,h4.frame k.1 fun j hj=>k.2 j (h4.lt j hj),h5,h6⟩
theorem EH.sub{G G':Nat→Prop}{p:Nat}{s:AD}{cs:List Nat}(h:EH G s p cs)(k:∀j,j<s.next→G j→G' j):EH G' s p cs:=by
 obtain⟨v,OB,h1,h2,h3,h4,h5,h6⟩:=h
 exact⟨v,OB,h1,h2,k p h2 h3,h4,h5,fun j hj=>k j (h4.lt j hj) (h6 j hj)⟩
theorem kr(hE:Ak E){G:Nat→Prop}{p n:Nat}{cs:List Nat}(hn:n<18446744073709551616)(h:EH G s p cs)(hG:∀j,s.next≤j→G j)(hm:cs.length≤10000000000){K:AV→AD→Prop}
    (hK:∀s',Ty G s s'→EH G s' p (cs++[48+n % 10])→K (AU (n / 10)) s'):WF E 203 [AU n,.ptr (some (p,0))] K s:=by
  obtain⟨v,OB,h1,h2,h3,h4,h5,h6⟩:=h
  refine Ze hE hn h1 h2 h4 h5 hm fun s' v' OB' g1 g2 g3 g4 g5 g6=>hK s' ⟨g1,fun j hj hg=>g2 j hj (fun e=>hg (by rw[e];exact h3)) fun hm=>hg (h6 j hm)⟩ ⟨v',OB',g3,by omega,h3,?_,g5,fun j hj=>?_⟩
  · rw[tX];exact g4
  · rcases g6 j hj with h | h
    · exact h6 j h
    · exact hG j h
def Ur:Nat→Nat→List Nat
 | 0,_=>[]
 | k+1,n=>(48+n % 10)::Ur k (n / 10)
theorem Mk:∀ (k n:Nat),(Ur k n).length=k
 | 0,_=>rfl
 | k+1,n=>by simp[Ur,Mk k]
theorem ZB(hE:Ak E){G:Nat→Prop}{p:Nat}{Q:Ax→Prop}{x0 x1 x4 x6 x7 x10:AV}:∀ (k n:Nat)(cs:List Nat)(s:AD)(x9:AV),k≤9→n<18446744073709551616→EH G s p cs→(∀j,s.next≤j→G j)→cs.length+k≤10000000000 →
  (∀s' y5 y8 y9,Ty G s s'→EH G s' p (cs++Ur k n)→Q ⟨.exit 2,[x0,x1,.ptr (some (p,0)),.func 203 [] [.ptr (some (p,0))],x4,y5,x6,x7,y8,y9,x10],[],s'⟩) →
  WC E none (.loop Iu) Q [x0,x1,.ptr (some (p,0)),.func 203 [] [.ptr (some (p,0))],x4,AU n,x6,x7,iv ((9:Int) - (k:Int)),x9,x10] [] s:=by
 intro k
 induction k with
 | zero =>
  intro n cs s x9 _ _ h hG _ hQ
  refine WC.loop' ?_
  have d0:decide ((9:Int) - ((0:Nat):Int)<9)=false:=rfl
  simp only[Iu,UI,Rx,d0,Qa,Qb,Qc,Qd,Qf,Qh,Qi,Qj,Qm,Qn,true_and,Qo,Qp,Qq,Qr,Qs,Qu,Qz,Ra,Rc,Rd,Rx]
  exact hQ s _ _ _ (Ty.refl _ _) (by simpa[Ur]using h)
 | succ k ih =>
  intro n cs s x9 hk hn h hG hl hQ
  refine WC.loop' ?_
  generalize hW:WC E none (Aa.loop Iu) Q=WW
  have d0:decide ((9:Int) - ((k+1:Nat):Int)<9)=true:=decide_eq_true (by omega)
  have e1:AP Tryz.prog .add 3 (iv ((9:Int) - ((k+1:Nat):Int))) (.int .i64 1)=some (iv ((9:Int) - (k:Int))):=by
   have:=Bz Tryz.prog 3 ((9:Int) - ((k+1:Nat):Int)) 1 ⟨by omega,by omega⟩
   rw[this];congr 2;omega
  simp only[Iu,UI,aF,V4,Rx,d0,Qa,Qb,Qc,Qd,Qe,Qf,Qh,Qi,Qj,Qk,Qm,Qn,true_and,Qo,Qp,Qq,Qr,Qs,Qu,Qy,Ra,Rc,Rd,Rx]
  refine kr hE hn h hG (by omega) fun s1 o1 h1=>?_
  simp only[e1,Qd,Qm,Qn,true_and,Qo,Qp,Qq,Qr]
  rw[← hW]
  refine ih (n / 10) _ s1 _ (by omega) (by omega) h1 (fun j hj=>hG j (tN o1.1 hj)) (by rw[tX];simp;omega) fun s' y5 y8 y9 o2 h2=>?_
  exact hQ s' _ _ _ (o1.trans o2) (by rw[tg]at h2;exact h2)
end
theorem Gg.own1{e:TypeId}{s:AD}{v:AV}{n:Nat}{cs:List AV}{O:List Nat}(h:Gg e 1 s v n cs O):(v=.slice none 0 (some 0)∧n=0)∨∃i p,v=.slice (some (i,0)) n none∧i∈O∧i<s.next∧CH s i cs p∧∀q,p=some q→q∈O:=by
  rcases h with⟨h1,h3,_⟩ | ⟨i,p,rfl,h3,rfl⟩
  · exact .inl ⟨h1,h3⟩
  · rcases h3.ex with ⟨e, _⟩ | ⟨_, _, k2, k3, r, k4, k5, _, k7, k8, k9, _⟩
    · cases e
    · exact .inr ⟨i,p,rfl,by simp,k2,⟨r,k4,k5,by rw[k7];rfl,k8,.inr k9⟩,fun q hq=>by simp[hq]⟩
def F8(orig l:List Nat)(k:Nat):Prop:=l.length=orig.length∧∀t,t<orig.length→l[t]? = if t<k∨orig.length - 1 - t<k then orig[orig.length - 1 - t]? else orig[t]?
theorem F8.zero(l:List Nat):F8 l l 0:=⟨rfl,fun t _=>by simp⟩
theorem F8.done{orig l:List Nat}{k:Nat}(h:F8 orig l k)(hk:orig.length≤2 * k+1):l=orig.reverse:=by
 apply List.ext_getElem?
 intro t
 by_cases ht:t<orig.length
 ·rw[h.2 t ht,List.getElem?_reverse ht]
  by_cases c:t<k∨orig.length - 1 - t<k
  ·rw[if_pos c]
  ·rw[if_neg c]
   have:orig.length - 1 - t=t:=by omega
   rw[this]
 ·rw[tY (by rw[h.1];omega),tY (by simp;omega)]
theorem F8.step{orig l:List Nat}{k x y:Nat}(h:F8 orig l k)(hk:2 * k+1<orig.length)(hx:l[orig.length - 1 - k]? = some x)(hy:l[k]? = some y):F8 orig ((l.set k x).set (orig.length - 1 - k) y) (k+1):=by
 refine⟨by simp[h.1],fun t ht=>?_⟩
 have ex:=h.2 (orig.length - 1 - k) (by omega)
 have ey:=h.2 k (by omega)
 rw[if_neg (by omega)]at ex ey
 rw[hx]at ex
 rw[hy]at ey
 by_cases c1:t=orig.length - 1 - k
 ·subst c1
  rw[uw (by simp[h.1];omega),if_pos (.inr (by omega))]
  rw[show orig.length - 1 - (orig.length - 1 - k)=k from by omega]
  exact ey
 ·rw[uU (Ne.symm c1)]
  by_cases c2:t=k
  ·subst c2
   rw[uw (by rw[h.1];omega),if_pos (.inl (by omega))]
   exact ex
  ·rw[uU (Ne.symm c2),h.2 t ht]
   by_cases c:t<k∨orig.length - 1 - t<k
   ·rw[if_pos c,if_pos (by omega)]
   ·rw[if_neg c,if_neg (by omega)]
section
variable{E:Ck}{s:AD}
theorem iE       {i n : Nat} {p : Option Nat} {orig : List Nat} (hn : orig.length = n) (hn1 : n ≤ 10000000000) {Q : Ax   → Prop} : ∀ (m k : Nat) (l : List Nat) (s : AD)  (x3 : AV), n ≤ 2 * k + m → k ≤ n → CH   s i (bs l) p → F8     orig l k →
    (∀s' y1 y2 y3,Cm s s' i p→CH s' i (bs orig.reverse) p→Q ⟨.exit 0,[.slice (some (i,0)) n none,y1,y2,y3],[],s'⟩) →
    WC E none (.loop KG) Q [.slice (some (i,0)) n none,iv (k:Int),iv ((n:Int) - 1 - (k:Int)),x3] [] s:=by
  intro m
  induction m using Nat.strongRecOn with
  | _ m ih =>
    intro k l s x3 hm hk ho ht hQ
    refine WC.loop' ?_
    generalize hW:WC E none (Aa.loop KG) Q=WW
    by_cases hlt:2 * k+1<n
    · have d0 : decide ((k : Int) < (n : Int) - 1 - (k : Int)) = true := decide_eq_true (by omega)
      have ej:(n:Int) - 1 - (k:Int)=((n - 1 - k:Nat):Int):=by omega
      have hx:l[n - 1 - k]? = some (l[n - 1 - k]'(by rw[ht.1];omega)):=tQ _
      have hy:l[k]? = some (l[k]'(by rw[ht.1];omega)):=tQ _
      generalize l[n - 1 - k]'(by rw[ht.1];omega)=x at hx
      generalize l[k]'(by rw[ht.1];omega)=y at hy
      have e1:=Aw (cap:=none) (i:=i) (o:=0) Tryz.underlying22 pr (show n - 1 - k<n by omega)
      have e2:AG Tryz.prog s 5 (.ptr (some (i,0+(n - 1 - k) * 1)))=some (Vr x):=by rw[tT,tR];exact G6 sY ho (Zs hx)
      have e3:=Aw (cap:=none) (i:=i) (o:=0) Tryz.underlying22 pr (show k<n by omega)
      have e4:AG Tryz.prog s 5 (.ptr (some (i,0+k * 1)))=some (Vr y):=by rw[tT,tR];exact G6 sY ho (Zs hy)
      obtain⟨s1,e5,o5,n5,f5⟩:=D8 (P:=Tryz.prog) (t:=5) (o:=k) (v:=Vr x) pr ho (by rw[UA,ht.1];omega) rfl
      obtain⟨s2,e6,o6,n6,f6⟩:=D8 (P:=Tryz.prog) (t:=5) (o:=n - 1 - k) (v:=Vr y) pr o5 (by rw[ub,UA,ht.1];omega) rfl
      rw[Zt,Zt]at o6
      have e5':AY Tryz.prog s 5 (.ptr (some (i,0+k * 1))) (Vr x)=some s1:=by rw[tT,tR];exact e5
      have e6':AY Tryz.prog s1 5 (.ptr (some (i,0+(n - 1 - k) * 1))) (Vr y)=some s2:=by rw[tT,tR];exact e6
      have e7:AP Tryz.prog .add 3 (iv (k:Int)) (.int .i64 1)=some (iv ((k+1:Nat):Int)):=by
        have:=Bz Tryz.prog 3 (k:Int) 1 ⟨by omega,by omega⟩
        rw[this];congr 2
      have e8:AP Tryz.prog .sub 3 (iv ((n - 1 - k:Nat):Int)) (.int .i64 1)=some (iv ((n:Int) - 1 - ((k+1:Nat):Int))):=by
        have:=B0 Tryz.prog 3 ((n - 1 - k:Nat):Int) 1 ⟨by omega,by omega⟩
        rw[this];congr 2;omega
      rw[ej]at d0 ⊢
      simp only[KG,P4,bV,bW,Rx,d0,e1,e2,e3,e4,e5',e6',e7,e8,Xx,Xz,Qa,Qb,Qc,Qd,Qf,Qh,Qi,Qj,Qk,Qm,Qn,true_and,Qo,Qp,Qq,Qr,Qs,Qu,Qy,Ra,Rc,Rd,Rx]
      rw[← hW]
      subst hn
      refine ih (m - 2) (by omega) (k+1) _ s2 _ (by omega) (by omega) o6 (ht.step hlt hx hy) fun s' y1 y2 y3 q1 q2=>?_
      exact hQ s' y1 y2 y3 (Cm.step ((Cm.refl s i p).step n5 f5) (q1.next.trans n6) fun j hj hp=>(q1.get j hj hp).trans (f6 j hj hp)) q2
    · have d0:decide ((k:Int)<(n:Int) - 1 - (k:Int))=false:=decide_eq_false (by omega)
      simp only[KG,P4,Rx,d0,Qa,Qb,Qc,Qd,Qf,Qh,Qj,Qm,Qn,true_and,Qo,Qp,Qq,Qr,Qs,Qu,Qz,Ra,Rc,Rd,Rx]
      have:=ht.done (by omega)
      exact hQ s _ _ _ (Cm.refl _ _ _) (by rw[← this];exact ho)
theorem pg(hE:Ak E){i:Nat}{p:Option Nat}{l:List Nat}(hl:l.length≤10000000000)(ho:CH s i (bs l) p){K:AV→AD→Prop}
  (hK:∀s',Cm s s' i p→CH s' i (bs l.reverse) p→K (.tuple []) s'):WF E 205 [.slice (some (i,0)) l.length none] K s:=by
 have e2:=B0 Tryz.prog 3 (l.length:Int) 1 ⟨by omega,by omega⟩
 refine hE.go W6 (by decide) rfl ?_
 simp only[nl,UT,AW Tryz.underlying22,e2,Qa,Qb,Qc,Qd,Qf,Qh,Qi,Qj,Qk,Ql,Qm,Qn,true_and,Qo,Qp,Qq,Qs,Qu,Ra]
 rw[show(l.length:Int) - 1=(l.length:Int) - 1 - ((0:Nat):Int)from by omega]
 refine iE (orig:=l) rfl hl l.length 0 l s _ (by omega) (by omega) ho (F8.zero l) fun s' y1 y2 y3 q1 q2=>?_
 simp only[if_true,Qm,Rf,Rh,Ri,Rj,Rn]
 exact hK s' q1 q2
end
section
variable{E:Ck}{s:AD}
theorem lE(hE:Ak E){K:AV→AD→Prop}(hK:K (.tuple []) s):WF E 205 [.slice none 0 (some 0)] K s:=by
 refine hE.go W6 (by decide) rfl ?_
 have e2:=B0 Tryz.prog 3 ((0:Nat):Int) 1 ⟨by decide,by decide⟩
 simp only[nl,UT,AW Tryz.underlying22,e2,Qa,Qb,Qc,Qd,Qf,Qh,Qi,Qj,Qk,Ql,Qm,Qn,true_and,Qo,Qp,Qq,Qs,Qu,Ra]
 refine WC.loop' ?_
 have d0:decide ((0:Int)<((0:Nat):Int) - 1)=false:=rfl
 simp only[KG,P4,Rx,d0,if_true,Qa,Qb,Qc,Qd,Qf,Qh,Qj,Qm,Qn,true_and,Qo,Qp,Qq,Qr,Qs,Qu,Qz,Ra,Rc,Rd,Rf,Rh,Ri,Rj,Rn,Rx]
 exact hK
end
theorem eo{s:AD}{i:Nat}{l:List Nat}{p:Option Nat}(ho:CH s i (bs l) p)(hl:∀x∈l,x<256):Ac Tryz.prog s 22 9 (.slice (some (i,0)) l.length none)=some (.str l):=by
 have h1:BG s i 0 l.length=some (bs l):=by
  obtain⟨r,g1,g2,_⟩:=ho
  have:=G5 (s:=s) (i:=i) (r:=r) g1 g2 0 (bs l) (by simp) (fun j u hj=>by simpa using hj)
  rw[UA]at this
  exact this
 have h2:∀l:List Nat,(∀x∈l,x<256)→Ac.bytesOf (bs l)=some l:=by
  intro l
  induction l with
  | nil=>intro _;rfl
  | cons x l ih =>
   intro h
   show AF (Nat.blt x 256) ((Ac.bytesOf (bs l)).bind fun r=>some (x::r))=_
   rw[ih fun y hy=>h y (tW _ hy),Py (h x (tS ..))]
   rfl
 unfold Ac
 rw[Tryz.underlying22,Tryz.underlying9]
 simp only[Tryz.underlying5,h1,h2 l hl,Option.bind_some]
theorem Ml:∀ (k n:Nat),∀x∈Ur k n,x<256
 | 0,_,x,h=>by cases h
 | k+1,n,x,h=>by
  rcases uT.1 h with rfl | h
  ·omega
  ·exact Ml k _ x h
def Gr:Nat→Nat→List Nat
 | 0,_=>[]
 | f+1,n=>bif Nat.beq n 0 then []else Ur 9 (n % 1000000000)++Gr f (n / 1000000000)
theorem Kw:∀ (f n:Nat),∀x∈Gr f n,x<256
 | 0,_,x,h=>by cases h
 | f+1,n,x,h=>by
  unfold Gr at h
  cases hb:Nat.beq n 0 with
  | true=>rw[hb]at h;cases h
  | false =>
   rw[hb,cond_false,uu]at h
   rcases h with h | h
   ·exact Ml _ _ x h
   ·exact Kw f _ x h
def JU:List Nat→List Nat
 | []=>[]
 | x::l=>bif Nat.beq x 48 then JU l else x::l
def gg(f n:Nat):List Nat:=match JU (Gr f n).reverse with
 | []=>[48]
 | x::l=>x::l
section
variable{E:Ck}{s:AD}
theorem ie       (hE : Ak    E) {b p : Nat} {Q : Ax   → Prop} {x1 x6 x10 : AV} : ∀ (f n : Nat) (cs : List Nat) (s : AD)  (va x4 x5 x7 x8 x9 : AV), n < 1000000000 ^ f → Cl  s va (AK    n) → (AK    n).length ≤ 1000 → EH    (b ≤ ·) s p cs → b ≤ s.next → cs.length + 9 * f ≤ 1000000000 →
    (∀s' ya y4 y5 y7 y8 y9,Ty (b≤·) s s'→EH (b≤·) s' p (cs++Gr f n)→Q ⟨.exit 0,[ya,x1,.ptr (some (p,0)),.func 203 [] [.ptr (some (p,0))],y4,y5,x6,y7,y8,y9,x10],[],s'⟩) →
    WC E none (.loop HK) Q [va,x1,.ptr (some (p,0)),.func 203 [] [.ptr (some (p,0))],x4,x5,x6,x7,x8,x9,x10] [] s:=by
  have zero:∀ (f:Nat) (cs:List Nat) (s:AD) (va x4 x5 x7 x8 x9:AV),Cl s va (AK 0)→EH (b≤·) s p cs →
      (∀s' ya y4 y5 y7 y8 y9,Ty (b≤·) s s'→EH (b≤·) s' p (cs++Gr f 0)→Q ⟨.exit 0,[ya,x1,.ptr (some (p,0)),.func 203 [] [.ptr (some (p,0))],y4,y5,x6,y7,y8,y9,x10],[],s'⟩) →
      WC E none (.loop HK) Q [va,x1,.ptr (some (p,0)),.func 203 [] [.ptr (some (p,0))],x4,x5,x6,x7,x8,x9,x10] [] s:=by
    intro f cs s va x4 x5 x7 x8 x9 hv h hQ
    obtain⟨a,c,rfl,_⟩:=hv
    refine WC.loop' ?_
    have hl0:(AK 0).length=0:=by rw[BC];rfl
    have d0:decide ((0:Int)<(((AK 0).length:Nat):Int))=false:=by rw[hl0];rfl
    have hd:Gr f 0=[]:=by cases f<;>rfl
    simp only[HK,UH,AW Tryz.underlying77,Ry,d0,Qa,Qb,Qc,Qd,Qf,Qh,Qi,Qj,Qk,Qm,Qn,true_and,Qo,Qp,Qq,Qr,Qs,Qu,Qz,Ra,Rc,Ry]
    exact hQ s _ _ _ _ _ _ (Ty.refl _ _) (by rw[hd,ud];exact h)
  intro f
  induction f with
  | zero =>
    intro n cs s va x4 x5 x7 x8 x9 hn hv hk h hb hl hQ
    have h0:n=0:=by simpa using hn
    subst h0
    exact zero 0 cs s va x4 x5 x7 x8 x9 hv h hQ
  | succ f ih =>
    intro n cs s va x4 x5 x7 x8 x9 hn hv hk h hb hl hQ
    by_cases hn0:n=0
    · subst hn0
      exact zero (f+1) cs s va x4 x5 x7 x8 x9 hv h hQ
    · have hv2:=hv
      obtain⟨a,c,rfl,_⟩:=hv
      have hlne:(AK n).length≠0:=fun e=>Cp hn0 (uQ e)
      have d0:decide ((0:Int)<(((AK n).length:Nat):Int))=true:=decide_eq_true (by omega)
      obtain⟨w1,w2,w3⟩:=Cz (x:=1000000000) (by decide) (AK n)
      rw[AZ]at w1
      have hq:AC (A6 1000000000 (AK n)).1=n / 1000000000:=by omega
      have hr:(A6 1000000000 (AK n)).2=n % 1000000000:=by omega
      refine WC.loop' ?_
      generalize hW:WC E none (Aa.loop HK) Q=WW
      simp only[HK,UH,Z9,AW Tryz.underlying77,Ry,d0,Qa,Qb,Qc,Qd,Qf,Qh,Qi,Qj,Qk,Qm,Qn,true_and,Qo,Qp,Qq,Qr,Qs,Qu,Qy,Ra,Rc,Za,Ry]
      refine Nw hE (x:=1000000000) hv2 (by omega) (AT n) (by decide) (by decide) fun s1 v1 o1 r1=>?_
      rw[BN (Er (by decide) (AT n)),hq]at r1
      rw[hr]
      have h1:EH (fun j=>b≤j∧Ci v1≠some j) s1 p cs:=(h.sub fun j hj hg=>⟨hg,fun e=>by have:=(r1.lt e).1;omega⟩).old o1
      simp only[aC,aE,Qb,Qc,Qd,Qf,Qh,Qi,Qj,Qm,Qn,true_and,Qo,Qp,Qq,Qr,Qs,Qu,Yd,Ye]
      have hlen:(AK (n / 1000000000)).length≤1000:=by
        rcases tL 1000 (AK (n / 1000000000)).length with h' | h'
        · have := DN           (a := n) (b := n / 1000000000) (by omega)
          have:=ux n 1000000000
          omega
        · exact h'
      have hs1:=o1.1
      refine ZB hE (p:=p) 9 (n % 1000000000) cs s1 _ (tJ _) (by omega) h1 (fun j hj=>⟨by omega,fun e=>by have:=(r1.lt e).2;omega⟩) (by omega) fun s2 y5 y8 y9 o2 h2=>?_
      simp only[if_true,Ra,Rc,Rd,Rf]
      rw[← hW]
      refine ih (n / 1000000000) _ s2 v1 _ _ _ _ _ (by rw[uF]at hn;exact Nat.div_lt_of_lt_mul (by rw[tU];exact hn)) (r1.keep o2.1 fun j hj=>o2.2 j (r1.lt hj).2 fun hg=>hg.2 hj).n32 hlen (h2.sub fun j _ hg=>hg.1) (tN hb (tN hs1 o2.1)) (by rw[tX,Mk];omega) fun s' ya y4 y5 y7 y8 y9 o3 h3=>?_
      have o12:Ty (b≤·) s s2:=⟨tN hs1 o2.1,fun j hj hg=>(o2.2 j (by omega) fun h'=>hg h'.1).trans (o1.2 j hj)⟩
      refine hQ s' _ _ _ _ _ _ (o12.trans o3) ?_
      rw[tg]at h3
      unfold Gr
      rw[show Nat.beq n 0=false from Cs hn0,cond_false]
      exact h3
theorem Og:∀ (f n:Nat),(Gr f n).length≤9 * f
 | 0,_=>tJ _
 | f+1,n=>by
  unfold Gr
  cases Nat.beq n 0 with
  | true=>simp
  | false=>rw[cond_false,tX,Mk];have:=Og f (n / 1000000000);omega
theorem gt       (hE : Ak    E) (hT : ∀ (l : List Nat) (s : AD)  (K : AV → AD  → Prop), K (.str (JU    l)) s → WF E 206 [.str l, .str [48]] K s) {va : AV} {la : List Nat} (ha : Cl  s va la) (hla : la.length ≤ 1000) (hsa : BZ  la) {f : Nat} (hf : AC   la < 1000000000 ^ f) (hf1 : f ≤ 1000) {K : AV → AD  → Prop}
    (hK:∀s',A9 s.next s s'→K (.str (gg f (AC la))) s'):WF E 182 [va] K s:=by
  refine hE.go jV (by decide) rfl ?_
  obtain⟨n1,o1,g1⟩:=Hi s (R 22 0 false [.slice none 0 (some 0)])
  simp only[qO,Z5,Z6,Z7,Z8,Xa,sW,Xm,Xb,uz,uY,Qa,Qb,Qc,Qd,Qf,Qh,Qi,Qj,Qk,Ql,Qm,Qn,true_and,Qo,Qp,Qq,Qr,Qs,Qu,Ra,Rb,Rg,Rj,Rk,Rm,Yc]
  generalize newObj s (R 22 0 false [.slice none 0 (some 0)])=s1 at *
  refine CA hE (ha.old o1) (by omega) fun s2 v2 o2 r2=>?_
  rw[BN hsa]at r2
  have hl2:(AK (AC la)).length≤1000:=by rw[← BN hsa];have:=D9 la;omega
  simp only[Qd,Qn,true_and,Qo,Qq]
  have h2:EH (s.next≤·) s2 s.next []:=by
    have:EH (s.next≤·) s1 s.next []:=⟨_,[],g1,by omega,tJ _,Gg.nil _ _ _,by simp,fun j hj=>by cases hj⟩
    exact this.old o2
  refine ie hE (b:=s.next) (p:=s.next) f (AC la) [] s2 v2 _ _ _ _ _ hf r2.n32 hl2 h2 (by have:=o2.1;omega) (by simp;omega) fun s3 ya y4 y5 y7 y8 y9 o3 h3=>?_
  have o23:Ty (s.next≤·) s s3:=Ty.trans (G:=(s.next≤·)) ⟨by have:=o2.1;omega,fun j hj _=>(o2.2 j (by omega)).trans (o1.2 j hj)⟩ o3
  rw[uv]at h3
  have hdl:=Og f (AC la)
  have hds:=Kw f (AC la)
  have hend:=hK
  unfold gg at hend
  generalize Gr f (AC la)=D at *
  obtain⟨v,OB,k1,k2,k3,k4,k5,k6⟩:=h3
  have e1:AG Tryz.prog s3 22 (.ptr (some (s.next,0)))=some v:=Af Zn k1 rfl
  have fin:∀s4:AD,Ty (s.next≤·) s s4→∀v':AV,AG Tryz.prog s4 22 (.ptr (some (s.next,0)))=some v'→Ac Tryz.prog s4 22 9 v'=some (.str D.reverse)→∀z0,
      Qb E P1 (fun v s'=>Qb E Lx (fun v s'=>SW (LV v 10) (fun x x_1 x_2=>Qb E Ly (fun v s'=>VQ (DS s' x_1) fun s'=>K (LV v 1) s') [] x x_2)
        (fun x x_1 x_2=>Qb E P2 (fun v s'=>VQ (DS s' x_1) fun s'=>K (LV v 1) s') [] x x_2) v [] s') [] v s') [] [ya,z0,.ptr (some (s.next,0)),.func 203 [] [.ptr (some (s.next,0))],y4,y5,Bo,y7,y8,y9,Bo] s4:=by
    intro s4 o4 v' l4 c4 z0
    have e2:AP Tryz.prog .eql 9 (.str (JU D.reverse)) (.str [])=some (.bool (CM (JU D.reverse) [])):=rfl
    simp only[P1,l4,c4,Qb,Qc,Qd,Qf,Qh,Qi,Qj,Qk,Qm,Qn,true_and,Qq,Qr,Qs,Qu]
    refine hT _ _ _ ?_
    have hfin:=hend s4 ⟨o4.1,fun j hj=>o4.2 j hj (by omega)⟩
    cases hz:JU D.reverse with
    | nil =>
      rw[hz]at hfin e2
      simp only[Lx,Ly,e2,CM,Qb,Qc,Qd,Qf,Qh,Qi,Qj,Qm,Qn,true_and,Qo,Qp,Qq,Qr,Qs,Qu,Qy,Ri]
      exact hfin
    | cons x l =>
      rw[hz]at hfin e2
      simp only[Lx,Ly,P2,e2,CM,Qb,Qc,Qd,Qf,Qh,Qi,Qj,Qm,Qn,true_and,Qo,Qp,Qq,Qr,Qs,Qu,Qz,Ri]
      exact hfin
  rcases k4.own1 with⟨rfl,h0⟩ | ⟨i,q,rfl,hi,hil,hown,hq⟩
  · have hD:D=[]:=uQ h0
    subst hD
    simp only[if_true,P0,e1,Qb,Qc,Qd,Qf,Qh,Qj,Qk,Qm,Qn,true_and,Qq,Qr,Qs,Qu,Ra,Rc,Rf]
    refine lE hE ?_
    simp only[Qd,Qn,true_and]
    exact fin s3 o23 _ e1 (by simp[Ac,Tryz.underlying22,Tryz.underlying9,Tryz.underlying5]) _
  · simp only[if_true,P0,e1,Qb,Qc,Qd,Qf,Qh,Qj,Qk,Qm,Qn,true_and,Qq,Qr,Qs,Qu,Ra,Rc,Rf]
    refine pg hE (by omega) hown fun s4 q4 w4=>?_
    have hni:s.next≠i:=fun e=>k5 (by rw[e];exact hi)
    have hnq:some s.next≠q:=fun e=>k5 (hq _ e.symm)
    have l4:AG Tryz.prog s4 22 (.ptr (some (s.next,0)))=some (.slice (some (i,0)) D.length none):=Af Zn ((q4.get _ hni hnq).trans k1) rfl
    have hlen:D.reverse.length=D.length:=List.length_reverse
    have c4:=eo w4 (fun x hx=>hds x (List.mem_reverse.1 hx))
    rw[hlen]at c4
    simp only[Qd,Qn,true_and]
    exact fin s4 (o23.trans ⟨by rw[q4.next];exact tJ _,fun j hj hg=>q4.get j (fun e=>hg (by rw[e];exact k6 i hi)) fun e=>hg (k6 j (hq j e.symm))⟩) _ l4 c4 _
end
end
end Go.Proofs.YtoaaclpjkelofaaGreatDoor.Am
set_option linter.unusedVariables false
set_option linter.unusedSimpArgs false
namespace Go.Proofs.YtoaaclpjkelofaaGreatDoor.Am
open Go Go.Proofs Go.RowKit
noncomputable section
def K8(c:Nat):List Nat→List Nat
 | []=>[]
 | x::l=>bif Nat.beq x c then K8 c l else x::l
theorem Oo(c:UInt8):∀l:List UInt8,K8 c.toNat (l.map fun(x:UInt8)=>x.toNat)=(Go.Lib.trimLeftB l c).map fun(x:UInt8)=>x.toNat
  | []=>rfl
  | x::l=>by
    unfold Go.Lib.trimLeftB
    rw[ta,List.dropWhile_cons]
    unfold K8
    by_cases h:x=c
    · subst h
      simp only[beq_self_eq_true,if_true]
      rw[show Nat.beq x.toNat x.toNat=true from by simp,cond_true]
      exact Oo x l
    · have h1 : (x == c) = false := by simpa using h
      have h2:Nat.beq x.toNat c.toNat=false:=Cs fun e=>h (UInt8.toNat_inj.1 e)
      rw[h1,h2]
      simp
def R0(s:AD):List AV→Option (AV×AD)
 | [.str l,.str [c]]=>AF (Nat.blt c 128) (some (.str (K8 c l),s))
 | _=>none
def IW(n:Nat):List Nat:=bif Nat.blt n 10 then [48+n]else [48+n / 10,48+n % 10]
theorem Yz(n:Nat)(h:n<100):IW n=(Go.Lib.decDigits n).map fun(x:UInt8)=>x.toNat:=by
 have e:∀k,k<10→(UInt8.ofNat (48+k)).toNat=48+k:=fun k hk=>by
  show(48+k) % 256=48+k
  omega
 unfold IW
 by_cases h1:n<10
 ·rw[Go.Lib.decDigits_one h1,show Nat.blt n 10=true from by simpa[tP]using h1,cond_true]
  simp only[ta,List.map_nil,e n h1]
 ·rw[Go.Lib.decDigits_two h1 h,show Nat.blt n 10=false from by cases hb:Nat.blt n 10 with | false=>rfl | true=>exact absurd (by simpa[tP]using hb) h1,cond_false]
  simp only[ta,List.map_nil,e (n / 10) (by omega),e (n % 10) (by omega)]
def Q3(s:AD):List AV→Option (AV×AD)
 | [.int .i64 (.ofNat n)]=>AF (Nat.blt n 100) (Gv (IW n) fun t=>some (.str t,s))
 | _=>none
section
variable{ρ:A5}{s s1:AD}{w:World}
theorem Pc(h:As Tryz.prog ρ s w){ys:List AV}{as':Array Value}{v:AV}(hs:R0 s ys=some (v,s1))(has:AJ ρ ys as'.toList):CallsIn Fence.wide 0 Tryz.prog 206 as' w (Bk Tryz.prog ρ s w v s1):=by
 refine callsIn_wide.2 ?_
 unfold R0 at hs
 split at hs<;>first | (cases hs;done) | skip
 rename_i l c
 obtain⟨hg,hs⟩:=AA hs
 injection hs with hs
 injection hs with q1 q2
 subst q1;subst q2
 obtain⟨l0⟩:=as'
 cases has with
 | cons h1 h2 =>
 cases h2 with
 | cons h2 h3 =>
 cases h3
 cases h1 with
 | str h1 =>
 cases h2 with
 | str h2 =>
 rename_i b1 b2
 obtain⟨⟨c8⟩⟩:=b2
 have hc8:c8.length=1:=by have:=congrArg List.length h2;simpa using this
 match c8,hc8 with
 | [x],_ =>
 have hx:x.toNat=c:=by simpa using h2
 subst hx
 refine Calls.mono (Any.strings_TrimLeft_one kX b1 x (by simpa[tP]using hg) w) ?_
 rintro e w' ⟨rfl,rfl⟩
 refine⟨ρ,.str ?_,h,Fr.refl _ _ _⟩
 rw[← h1,Oo]
theorem O3(h:As Tryz.prog ρ s w){ys:List AV}{as':Array Value}{v:AV}(hs:Q3 s ys=some (v,s1))(has:AJ ρ ys as'.toList):CallsIn Fence.wide 0 Tryz.prog 59 as' w (Bk Tryz.prog ρ s w v s1):=by
 refine callsIn_wide.2 ?_
 unfold Q3 at hs
 split at hs<;>first | (cases hs;done) | skip
 rename_i n
 obtain⟨hg,hs⟩:=AA hs
 rw[D3]at hs
 injection hs with hs
 injection hs with q1 q2
 subst q1;subst q2
 obtain⟨l0⟩:=as'
 cases has with
 | cons h1 h2 =>
 cases h2
 cases h1
 have hn:n<100:=by simpa[tP]using hg
 refine Calls.mono (Any.strconv_Itoa_small gG n hn w) ?_
 rintro e w' ⟨rfl,rfl⟩
 refine⟨ρ,.str ?_,h,Fr.refl _ _ _⟩
 rw[Yz n hn]
end
theorem XN:∀l:List Nat,K8 48 l=JU l
 | []=>rfl
 | x::l=>by unfold K8 JU;rw[XN l]
def TD:CU:=Od 206 fun xs s=>R0 s xs
theorem gi:Av Tryz.prog TD:=Cu fun ρ s w xs v s1 xs' hc hi hf ha=>⟨⟨_,_,Tryz.func206,rfl⟩,Pc hi hc ha⟩
def nG:Ck:=⟨Tryz.prog,TD⟩
theorem pP:Ak nG:=⟨rfl,fun f xs s hf=>by
 have h1:Nat.beq f 206=false:=Cs fun e=>hf (by rw[e];decide)
 show TD f xs s=none
 simp[TD,Od,h1]⟩
theorem py(l:List Nat)(s:AD)(K:AV→AD→Prop)(h:K (.str (JU l)) s):WF nG 206 [.str l,.str [48]] K s:=by
 refine WF.nat (p:=(.str (K8 48 l),s)) ?_ (by rw[XN];exact h)
 show TD 206 [AV.str l,AV.str [48]] s=some (AV.str (K8 48 l),s)
 rfl
def VM(s:AD):List AV→Option (AV×AD)
 | [v]=>(Lc s v).bind fun l=>AF (Nat.ble l.length 1000 && Nat.blt (AC l) (1000000000 ^ 7)) (some (.str (gg 7 (AC l)),s))
 | _=>none
section
variable{ρ:A5}{s:AD}{w:World}
theorem Sp{N:CU}(hN:Av Tryz.prog N){f:FuncId}{xs:List AV}{xs':Array Value}(h:As Tryz.prog ρ s w)(hf:Ah ρ s)(hxs:AJ ρ xs xs'.toList){v:AV}(hv:LM v=true)(hw:WF ⟨Tryz.prog,N⟩ f xs (fun u s'=>u=v) (frz s.next s.heap)):
  (∃fn c,Tryz.prog.funcs[f]? = some fn∧fn.body=some c)∧CallsIn Fence.wide 0 Tryz.prog f xs' w (Bk Tryz.prog ρ s w v s):=by
 obtain⟨n,p,hrun,hK⟩:=hw
 have hcall:=(sK B3 (BD Be) rfl hN n).call ρ (frz s.next s.heap) w f xs p.1 p.2 xs' hrun (h.frz _) hf.frz hxs
 refine⟨hcall.1,CallsIn.mono hcall.2 ?_⟩
 intro e w' he
 cases e with
 | panicked c=>exact he.elim
 | outgrown=>exact he.elim
 | returned v' =>
  obtain⟨ρ',k1,k2,k3⟩:=he
  obtain⟨g1,g2⟩:=h.grown (w1:=w') ⟨k3.os,k3.tape,k3.output,k3.size,fun b hb _=>k3.keep b hb (KX Tryz.prog _ _ b)⟩
  rw[hK]at k1
  exact⟨ρ,DA hv k1,g1,g2⟩
end
theorem ge:Av Tryz.prog (Od 182 fun xs s=>VM s xs):=Cu fun ρ s w xs v s1 xs' hc hi hf ha=>by
 unfold VM at hc
 split at hc
 ·simp only[tH]at hc
  obtain⟨l,hl,hp⟩:=hc
  obtain⟨hg,hp⟩:=AA hp
  simp only[Bool.and_eq_true,tK,tP]at hg
  injection hp with hp
  injection hp with e1 e2
  subst e1;subst e2
  obtain⟨l1,l2⟩:=Fy hl
  exact Sp gi hi hf ha rfl (gt pP py l1 hg.1 l2 hg.2 (by decide) fun s' _=>rfl)
 ·cases hc
def nR:CU:=In nP (In (Od 206 fun xs s=>R0 s xs) (In (Od 59 fun xs s=>Q3 s xs) (Od 182 fun xs s=>VM s xs)))
theorem gZ:Av Tryz.prog nR:=BT gY (BT (Cu fun ρ s w xs v s1 xs' hc hi hf ha=>⟨⟨_,_,Tryz.func206,rfl⟩,Pc hi hc ha⟩)
 (BT (Cu fun ρ s w xs v s1 xs' hc hi hf ha=>⟨⟨_,_,Tryz.func59,rfl⟩,O3 hi hc ha⟩) ge))
end
end Go.Proofs.YtoaaclpjkelofaaGreatDoor.Am
