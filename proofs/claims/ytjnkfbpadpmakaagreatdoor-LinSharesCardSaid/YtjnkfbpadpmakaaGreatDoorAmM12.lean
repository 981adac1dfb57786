/- Sums of variables by their limbs: whether two are alike, walked; conditions: none. -/
import Derived.Test.YtjnkfbpadpmakaaGreatDoorAmM11
set_option linter.unusedVariables false
set_option linter.unusedSimpArgs false
set_option maxRecDepth 16000
namespace Go.Proofs.YtjnkfbpadpmakaaGreatDoor.Am
open Go Go.Proofs
noncomputable section
abbrev Hb:=Bool×List Nat×List Nat
def QX(s:AE)(v:AV)(x:Hb):Prop:=∃m d,v=.agg [.bool x.1,m,d]∧C7 s m x.2.1∧C7 s d x.2.2∧x.2.1.length≤1000000000∧x.2.2.length≤1000000000
theorem QX.keep{s s':AE}{v:AV}{x:Hb}(h:QX s v x)(hn:s.next≤s'.next)(hf:∀j,j∈Bx v→j<s.next→s'.heap.get j=s.heap.get j):QX s' v x:=by
 obtain⟨m,d,rfl,h1,h2,h3⟩:=h
 exact⟨m,d,rfl,h1.keep hn fun j hj hl=>hf j ((Bi rfl).2 (.inl hj)) hl,h2.keep hn fun j hj hl=>hf j ((Bi rfl).2 (.inr hj)) hl,h3⟩
theorem QX.old{s s':AE}{v:AV}{x:Hb}(h:QX s v x)(o:Ae s.next s s'):QX s' v x:=h.keep o.1 fun j _ hj=>o.2 j hj
theorem QX.shape{s:AE}{v:AV}{x:Hb}(h:QX s v x):∃a n c b m d,v=.agg [.bool x.1,.slice a n c,.slice b m d]:=by
 obtain⟨m,d,rfl,h1,h2,_⟩:=h
 obtain⟨a,n,c,rfl⟩:=h1.shape
 obtain⟨b,m',d',rfl⟩:=h2.shape
 exact⟨_,_,_,_,_,_,rfl⟩
def LX(s:AE)(v:AV)(X:Hb)(vs:List Int)(Q:List Hb):Prop:=∃a n c b m d av cv ac cc cells,
 v=.agg [.bool X.1,.slice a n c,.slice b m d,.slice av vs.length cv,.slice ac Q.length cc]∧QX s (.agg [.bool X.1,.slice a n c,.slice b m d]) X∧AZ s.next s av (vs.map iv)∧cells.length=Q.length * 3∧AZ s.next s ac cells ∧
  ∀ (i:Nat) (x:Hb),Q[i]? = some x→QX s (.agg ((cells.drop (i * 3)).take 3)) x
theorem LX.old{s s':AE}{v:AV}{X:Hb}{vs:List Int}{Q:List Hb}(h:LX s v X vs Q)(o:Ae s.next s s'):LX s' v X vs Q:=by
 obtain⟨a,n,c,b,m,d,av,cv,ac,cc,cells,h1,h2,h3,h4,h5,h6⟩:=h
 exact⟨a,n,c,b,m,d,av,cv,ac,cc,cells,h1,h2.old o,(h3.old o (qw _)).mono o.1,h4,(h5.old o (qw _)).mono o.1,fun i x hi=>(h6 i x hi).old o⟩
theorem ol(P:Program)(t:TypeId)(k:IntKind)(a:Nat):AS P .neq t (.int k (a:Int)) (.int k (a:Int))=some (.bool false):=by
 have:∀k,Bu k k=true:=fun k=>by cases k<;>rfl
 show AL (Bu k k) (some (AV.bool (!L4 (a:Int) (a:Int))))=_
 rw[this,ER]
 simp[AL]
theorem IT{s:AE}{ac:Option (Nat×Nat)}{cells:List AV}(h:AZ s.next s ac cells){i n:Nat}(hl:cells.length=n * 3)(hi:i<n):∃i0 o,ac=some (i0,o)∧i0<s.next∧AA Tryz.prog s 26 (.ptr (some (i0,o+i * 3)))=some (.agg ((cells.drop (i * 3)).take 3)):=by
 have h3:((cells.drop (i * 3)).take 3).length=3:=by rw[rR,sC];omega
 have hget:∀j,j<3→((cells.drop (i * 3)).take 3)[j]? = cells[i * 3+j]? := fun j hj=>by rw[sS hj,sJ]
 have h0:cells[i * 3]? = some cells[i * 3]:=qy (by omega)
 obtain⟨i0,o,rfl,hlt,_⟩:=h (i * 3) _ h0
 refine⟨i0,o,rfl,hlt,?_⟩
 have:=IU (o:=s.heap.get i0) ((cells.drop (i * 3)).take 3) (o+i * 3) (fun j u hj=>by
  have hj3:j<3:=by
   rcases qz j 3 with h' | h'
   ·exact h'
   ·rw[rI (by omega)]at hj;cases hj
  rw[hget j hj3]at hj
  obtain⟨i',o',e,_,g⟩:=h _ u hj
  injection e with e
  injection e with e1 e2
  subst e1;subst e2
  rw[IR]at g
  rw[re];exact g) (by intro e;rw[e]at h3;cases h3)
 rw[h3]at this
 rw[Wg BH,Ar,Option.bind_some,this]
 rfl
section
variable{E:CR}{s:AE}
theorem P3{a b:Option (Nat×Nat)}{ca cb:Option Nat}{l:List Nat}(ha:AZ s.next s a (us l))(hb:AZ s.next s b (us l))(hl:l.length≤1000000000){Q:Ax→Prop}(y2 y4:AV)
  (hq:∀y3 y5 y6,Q ⟨.exit 0,[.slice a l.length ca,.slice b l.length cb,y2,y3,y4,y5,y6],[],s⟩):
  ∀ (r i:Nat) (x5 x6:AV),l.length - i=r→i≤l.length→WC E none (.loop Oq) Q [.slice a l.length ca,.slice b l.length cb,y2,iv (i:Int),y4,x5,x6] [] s:=by
 intro r
 induction r with
 | zero =>
  intro i x5 x6 hi hle
  have dd:decide ((i:Int)<(l.length:Int))=false:=decide_eq_false (by omega)
  refine WC.loop' ?_
  simp only[Oq,XL,AN Tryz.underlying22,Ry,dd,Qa,Qb,Qc,Qd,Qe,Qf,Qg,Qh,Qi,Qj,Qk,Ql,Qm,Qn,true_and,and_true,Qo,Qp,Qq,Qr,Qs,Qt,Qu,Qv,Qw,Qx,Qy,Qz,Ra,Rb,Rc,Rd,Re,Rf,Rg,Rh,Ri,Rj,Rk,Rm,Rn,Ro,Rp,Rq,Rt,Ya,Yb,Yc,Ru,Rw,Zb,Yd,Ye,Ry,Rz,Wa,Wb,Wc,Wd,We]
  exact hq _ _ _
 | succ r ih =>
  intro i x5 x6 hi hle
  have hlt:i<l.length:=by omega
  have dd:decide ((i:Int)<(l.length:Int))=true:=decide_eq_true (by omega)
  have e17:=BU Tryz.prog 3 (i:Int) 1 ⟨by omega,by omega⟩
  have e17':((i:Int)+1)=((i+1:Nat):Int):=by omega
  have hx:l[i]? = some l[i]:=qy hlt
  obtain⟨ia,oa,rfl,_,ga⟩:=ha i _ (Cy hx)
  obtain⟨ib,ob,rfl,_,gb⟩:=hb i _ (Cy hx)
  have ixa:=Ah (cap:=ca) (i:=ia) (o:=oa) Tryz.underlying22 Ci hlt
  have ixb:=Ah (cap:=cb) (i:=ib) (o:=ob) Tryz.underlying22 Ci hlt
  have la:AA Tryz.prog s 76 (.ptr (some (ia,oa+i * 1)))=some (BV l[i]):=CJ GH (by rw[rG];exact ga)
  have lb:AA Tryz.prog s 76 (.ptr (some (ib,ob+i * 1)))=some (BV l[i]):=CJ GH (by rw[rG];exact gb)
  have hne:AS Tryz.prog .neq 76 (BV l[i]) (BV l[i])=some (.bool false):=ol _ _ _ _
  refine WC.loop' ?_
  generalize hW:WC E none (Ad.loop Oq) Q=WW
  simp only[Oq,XL,fk,fm,AN Tryz.underlying22,Ry,dd,ixa,ixb,la,lb,hne,e17,e17',Qa,Qb,Qc,Qd,Qe,Qf,Qg,Qh,Qi,Qj,Qk,Ql,Qm,Qn,true_and,and_true,Qo,Qp,Qq,Qr,Qs,Qt,Qu,Qv,Qw,Qx,Qy,Qz,Ra,Rb,Rc,Rd,Re,Rf,Rg,Rh,Ri,Rj,Rk,Rm,Rn,Ro,Rp,Rq,Rt,Ya,Yb,Yc,Ru,Rw,Zb,Yd,Ye,Ry,Rz,Wa,Wb,Wc,Wd,We]
  rw[← hW]
  exact ih (i+1) _ _ (by omega) (by omega)
theorem Ms(hE:GoodN E){va vb:AV}{l:List Nat}(ha:C7 s va l)(hb:C7 s vb l)(hl:l.length≤1000000000){K:AV→AE→Prop}(hK:K (.bool true) s):WF E 40 [va,vb] K s:=by
 obtain⟨a,ca,rfl,_,hca⟩:=ha
 obtain⟨b,cb,rfl,_,hcb⟩:=hb
 refine hE.go ku (by decide) rfl ?_
 simp only[qN,fh,fi,fj,AN Tryz.underlying22,Wd,show decide ((l.length:Int)≠(l.length:Int))=false from by simp,Qa,Qb,Qc,Qd,Qe,Qf,Qg,Qh,Qi,Qj,Qk,Ql,Qm,Qn,true_and,and_true,Qo,Qp,Qq,Qr,Qs,Qt,Qu,Qv,Qw,Qx,Qy,Qz,Ra,Rb,Rc,Rd,Re,Rf,Rg,Rh,Ri,Rj,Rk,Rm,Rn,Ro,Rp,Rq,Rt,Ya,Yb,Yc,Ru,Rw,Zb,Yd,Ye,Ry,Rz,Wa,Wb,Wc,Wd,We]
 refine P3 hca hcb hl _ _ (fun y3 y5 y6=>?_) l.length 0 _ _ rfl (rB _)
 simp only[fo,if_true,Qa,Qb,Qc,Qd,Qe,Qf,Qg,Qh,Qi,Qj,Qk,Ql,Qm,Qn,true_and,and_true,Qo,Qp,Qq,Qr,Qs,Qt,Qu,Qv,Qw,Qx,Qy,Qz,Ra,Rb,Rc,Rd,Re,Rf,Rg,Rh,Ri,Rj,Rk,Rm,Rn,Ro,Rp,Rq,Rt,Ya,Yb,Yc,Ru,Rw,Zb,Yd,Ye,Ry,Rz,Wa,Wb,Wc,Wd,We]
 exact hK
theorem Mt(hE:GoodN E){va vb:AV}{x:Hb}(ha:QX s va x)(hb:QX s vb x){K:AV→AE→Prop}(hK:∀s',Ae s.next s s'→K (.bool true) s'):WF E 12 [va,vb] K s:=by
 obtain⟨m,d,rfl,h1,h2,h3,h4⟩:=ha
 obtain⟨m',d',rfl,k1,k2,_,_⟩:=hb
 obtain⟨a1,n1,c1,rfl⟩:=h1.shape
 obtain⟨a2,n2,c2,rfl⟩:=h2.shape
 obtain⟨b1,m1,d1,rfl⟩:=k1.shape
 obtain⟨b2,m2,d2,rfl⟩:=k2.shape
 refine hE.go kS (by decide) rfl ?_
 obtain⟨n3,o1,g1,g2⟩:=D4 s (BQ x.1 (.slice a1 n1 c1) (.slice a2 n2 c2)) (BQ x.1 (.slice b1 m1 d1) (.slice b2 m2 d2))
 simp only[pE,dU,Xa,Xh,Xc,Ap,Qa,Qb,Qc,Qd,Qe,Qf,Qg,Qh,Qi,Qj,Qk,Ql,Qm,Qn,true_and,and_true,Qo,Qp,Qq,Qr,Qs,Qt,Qu,Qv,Qw,Qx,Qy,Qz,Ra,Rb,Rc,Rd,Re,Rf,Rg,Rh,Ri,Rj,Rk,Rm,Rn,Ro,Rp,Rq,Rt,Ya,Yb,Yc,Ru,Rw,Zb,Yd,Ye,Ry,Rz,Wa,Wb,Wc,Wd,We]
 generalize newObj (newObj s (BQ x.1 (.slice a1 n1 c1) (.slice a2 n2 c2))) (BQ x.1 (.slice b1 m1 d1) (.slice b2 m2 d2))=s1 at *
 have lx:=AI (P:=Tryz.prog) (t:=4) (o:=0+0+0) MI g1 rfl
 have ly:=AI (P:=Tryz.prog) (t:=4) (o:=0+0+0) MI g2 rfl
 have lm:=AI (P:=Tryz.prog) (t:=22) (o:=0+0+1) CG g1 rfl
 have lm':=AI (P:=Tryz.prog) (t:=22) (o:=0+0+1) CG g2 rfl
 have ld:=AI (P:=Tryz.prog) (t:=22) (o:=0+2) CG g1 rfl
 have ld':=AI (P:=Tryz.prog) (t:=22) (o:=0+2) CG g2 rfl
 simp only[dV,lx,ly,lm,lm',ES,Do,Cv,Ko,beq_self_eq_true,Qa,Qb,Qc,Qd,Qe,Qf,Qg,Qh,Qi,Qj,Qk,Ql,Qm,Qn,true_and,and_true,Qo,Qp,Qq,Qr,Qs,Qt,Qu,Qv,Qw,Qx,Qy,Qz,Ra,Rb,Rc,Rd,Re,Rf,Rg,Rh,Ri,Rj,Rk,Rm,Rn,Ro,Rp,Rq,Rt,Ya,Yb,Yc,Ru,Rw,Zb,Yd,Ye,Ry,Rz,Wa,Wb,Wc,Wd,We]
 refine Ms hE (h1.old o1) (k1.old o1) h3 ?_
 simp only[ld,ld',FD,Ru,Qa,Qb,Qc,Qd,Qe,Qf,Qg,Qh,Qi,Qj,Qk,Ql,Qm,Qn,true_and,and_true,Qo,Qp,Qq,Qr,Qs,Qt,Qu,Qv,Qw,Qx,Qy,Qz,Ra,Rb,Rc,Rd,Re,Rf,Rg,Rh,Ri,Rj,Rk,Rm,Rn,Ro,Rp,Rq,Rt,Ya,Yb,Yc,Ru,Rw,Zb,Yd,Ye,Ry,Rz,Wa,Wb,Wc,Wd,We]
 refine Ms hE (h2.old o1) (k2.old o1) h4 ?_
 simp only[Ru,Qa,Qb,Qc,Qd,Qe,Qf,Qg,Qh,Qi,Qj,Qk,Ql,Qm,Qn,true_and,and_true,Qo,Qp,Qq,Qr,Qs,Qt,Qu,Qv,Qw,Qx,Qy,Qz,Ra,Rb,Rc,Rd,Re,Rf,Rg,Rh,Ri,Rj,Rk,Rm,Rn,Ro,Rp,Rq,Rt,Ya,Yb,Yc,Ru,Rw,Zb,Yd,Ye,Ry,Rz,Wa,Wb,Wc,Wd,We]
 exact hK s1 o1
theorem VC{pa pb:Nat}{A1 A2 B1 B2:AV}{x y:Bool}{av bv:Option (Nat×Nat)}{ca cb:Option Nat}{A5 B5:AV}{vs:List Int}(ga:s.heap.get pa=some (R 30 0 false [.bool x,A1,A2,.slice av vs.length ca,A5]))(gb:s.heap.get pb=some (R 30 0 false [.bool y,B1,B2,.slice bv vs.length cb,B5]))(ha:AZ s.next s av (vs.map iv))(hb:AZ s.next s bv (vs.map iv))(hl:vs.length≤1000000000){Q:Ax→Prop}{y0 y1 y4 y6 y7 y10 y11:AV}
  (hq:∀y5 y8 y9,Q ⟨.exit 0,[y0,y1,.ptr (some (pa,0)),.ptr (some (pb,0)),y4,y5,y6,y7,y8,y9,y10,y11],[],s⟩):
  ∀ (r i:Nat) (x8 x9:AV),vs.length - i=r→i≤vs.length→WC E none (.loop YP) Q [y0,y1,.ptr (some (pa,0)),.ptr (some (pb,0)),y4,iv (i:Int),y6,y7,x8,x9,y10,y11] [] s:=by
 have la:=AI (P:=Tryz.prog) (t:=27) (o:=0+3) Ix ga rfl
 have lb:=AI (P:=Tryz.prog) (t:=27) (o:=0+3) Ix gb rfl
 intro r
 induction r with
 | zero =>
  intro i x8 x9 hi hle
  have dd:decide ((i:Int)<(vs.length:Int))=false:=decide_eq_false (by omega)
  refine WC.loop' ?_
  simp only[YP,kQ,la,ET,AN Tryz.underlying27,Ry,dd,Qa,Qb,Qc,Qd,Qe,Qf,Qg,Qh,Qi,Qj,Qk,Ql,Qm,Qn,true_and,and_true,Qo,Qp,Qq,Qr,Qs,Qt,Qu,Qv,Qw,Qx,Qy,Qz,Ra,Rb,Rc,Rd,Re,Rf,Rg,Rh,Ri,Rj,Rk,Rm,Rn,Ro,Rp,Rq,Rt,Ya,Yb,Yc,Ru,Rw,Zb,Yd,Ye,Ry,Rz,Wa,Wb,Wc,Wd,We]
  exact hq _ _ _
 | succ r ih =>
  intro i x8 x9 hi hle
  have hlt:i<vs.length:=by omega
  have dd:decide ((i:Int)<(vs.length:Int))=true:=decide_eq_true (by omega)
  have e17:=BU Tryz.prog 3 (i:Int) 1 ⟨by omega,by omega⟩
  have e17':((i:Int)+1)=((i+1:Nat):Int):=by omega
  have hx:vs[i]? = some vs[i]:=qy hlt
  obtain⟨ia,oa,rfl,_,lda⟩:=FT ha hx
  obtain⟨ib,ob,rfl,_,ldb⟩:=FT hb hx
  have ixa:=Ah (cap:=ca) (i:=ia) (o:=oa) (n:=1) Tryz.underlying27 Z9 hlt
  have ixb:=Ah (cap:=cb) (i:=ib) (o:=ob) (n:=1) Tryz.underlying27 Z9 hlt
  refine WC.loop' ?_
  generalize hW:WC E none (Ad.loop YP) Q=WW
  simp only[YP,kQ,oN,oO,la,lb,ET,AN Tryz.underlying27,Ry,dd,ixa,ixb,lda,ldb,Wd,show decide (vs[i]≠vs[i])=false from by simp,e17,e17',Qa,Qb,Qc,Qd,Qe,Qf,Qg,Qh,Qi,Qj,Qk,Ql,Qm,Qn,true_and,and_true,Qo,Qp,Qq,Qr,Qs,Qt,Qu,Qv,Qw,Qx,Qy,Qz,Ra,Rb,Rc,Rd,Re,Rf,Rg,Rh,Ri,Rj,Rk,Rm,Rn,Ro,Rp,Rq,Rt,Ya,Yb,Yc,Ru,Rw,Zb,Yd,Ye,Ry,Rz,Wa,Wb,Wc,Wd,We]
  rw[← hW]
  exact ih (i+1) _ _ (by omega) (by omega)
theorem VD(hE:GoodN E){s0:AE}{pa pb:Nat}{A1 A2 B1 B2 A4 B4:AV}{x y:Bool}{ac bc:Option (Nat×Nat)}{ca cb:Option Nat}{Q0:List Hb}{cells cells':List AV}(ga:s0.heap.get pa=some (R 30 0 false [.bool x,A1,A2,A4,.slice ac Q0.length ca]))(gb:s0.heap.get pb=some (R 30 0 false [.bool y,B1,B2,B4,.slice bc Q0.length cb]))
  (hpa:pa<s0.next) (hpb:pb<s0.next) (hcl:cells.length=Q0.length * 3) (hcl':cells'.length=Q0.length * 3) (ha:AZ s0.next s0 ac cells) (hb:AZ s0.next s0 bc cells') (hqa:∀ (i:Nat) (x:Hb),Q0[i]? = some x→QX s0 (.agg ((cells.drop (i * 3)).take 3)) x) (hqb:∀ (i:Nat) (x:Hb),Q0[i]? = some x→QX s0 (.agg ((cells'.drop (i * 3)).take 3)) x)
  (hl:Q0.length≤1000000000) {Q:Ax→Prop} {y0 y1 y4 y5 y7 y8 y9:AV}
  (hq:∀S y6 y10 y11,Ae s0.next s0 S→Q ⟨.exit 2,[y0,y1,.ptr (some (pa,0)),.ptr (some (pb,0)),y4,y5,y6,y7,y8,y9,y10,y11],[],S⟩):
  ∀ (r i:Nat) (S:AE) (x10 x11:AV),Q0.length - i=r→i≤Q0.length→Ae s0.next s0 S→WC E none (.loop PA) Q [y0,y1,.ptr (some (pa,0)),.ptr (some (pb,0)),y4,y5,iv (i:Int),y7,y8,y9,x10,x11] [] S:=by
 intro r
 induction r with
 | zero =>
  intro i S x10 x11 hi hle ho
  have la:=AI (P:=Tryz.prog) (t:=28) (o:=0+4) GG ((ho.2 pa hpa).trans ga) rfl
  have dd:decide ((i:Int)<(Q0.length:Int))=false:=decide_eq_false (by omega)
  refine WC.loop' ?_
  simp only[PA,YQ,la,DA,AN Tryz.underlying28,Ry,dd,Qa,Qb,Qc,Qd,Qe,Qf,Qg,Qh,Qi,Qj,Qk,Ql,Qm,Qn,true_and,and_true,Qo,Qp,Qq,Qr,Qs,Qt,Qu,Qv,Qw,Qx,Qy,Qz,Ra,Rb,Rc,Rd,Re,Rf,Rg,Rh,Ri,Rj,Rk,Rm,Rn,Ro,Rp,Rq,Rt,Ya,Yb,Yc,Ru,Rw,Zb,Yd,Ye,Ry,Rz,Wa,Wb,Wc,Wd,We]
  exact hq S _ _ _ ho
 | succ r ih =>
  intro i S x10 x11 hi hle ho
  have la:=AI (P:=Tryz.prog) (t:=28) (o:=0+4) GG ((ho.2 pa hpa).trans ga) rfl
  have lb:=AI (P:=Tryz.prog) (t:=28) (o:=0+4) GG ((ho.2 pb hpb).trans gb) rfl
  have hlt:i<Q0.length:=by omega
  have dd:decide ((i:Int)<(Q0.length:Int))=true:=decide_eq_true (by omega)
  have e17:=BU Tryz.prog 3 (i:Int) 1 ⟨by omega,by omega⟩
  have e17':((i:Int)+1)=((i+1:Nat):Int):=by omega
  have hx:Q0[i]? = some Q0[i]:=qy hlt
  obtain⟨ia,oa,rfl,hia,lda⟩:=IT ha hcl hlt
  obtain⟨ib,ob,rfl,hib,ldb⟩:=IT hb hcl' hlt
  have ixa:=Ah (cap:=ca) (i:=ia) (o:=oa) (n:=3) Tryz.underlying28 Ar hlt
  have ixb:=Ah (cap:=cb) (i:=ib) (o:=ob) (n:=3) Tryz.underlying28 Ar hlt
  have lda':=JB BH ho hia lda
  have ldb':=JB BH ho hib ldb
  refine WC.loop' ?_
  generalize hW:WC E none (Ad.loop PA) Q=WW
  simp only[PA,YQ,jj,la,lb,DA,AN Tryz.underlying28,Ry,dd,ixa,ixb,lda',ldb',Qa,Qb,Qc,Qd,Qe,Qf,Qg,Qh,Qi,Qj,Qk,Ql,Qm,Qn,true_and,and_true,Qo,Qp,Qq,Qr,Qs,Qt,Qu,Qv,Qw,Qx,Qy,Qz,Ra,Rb,Rc,Rd,Re,Rf,Rg,Rh,Ri,Rj,Rk,Rm,Rn,Ro,Rp,Rq,Rt,Ya,Yb,Yc,Ru,Rw,Zb,Yd,Ye,Ry,Rz,Wa,Wb,Wc,Wd,We]
  refine Mt hE ((hqa i _ hx).old ho) ((hqb i _ hx).old ho) fun S' o'=>?_
  simp only[We,Bool.not_true,jl,e17,e17',Qa,Qb,Qc,Qd,Qe,Qf,Qg,Qh,Qi,Qj,Qk,Ql,Qm,Qn,true_and,and_true,Qo,Qp,Qq,Qr,Qs,Qt,Qu,Qv,Qw,Qx,Qy,Qz,Ra,Rb,Rc,Rd,Re,Rf,Rg,Rh,Ri,Rj,Rk,Rm,Rn,Ro,Rp,Rq,Rt,Ya,Yb,Yc,Ru,Rw,Zb,Yd,Ye,Ry,Rz,Wa,Wb,Wc,Wd,We]
  rw[← hW]
  exact ih (i+1) S' _ _ (by omega) (by omega) (ho.trans (o'.mono ho.1))
theorem OY(hE:GoodN E){va vb:AV}{X:Hb}{vs:List Int}{Q:List Hb}(ha:LX s va X vs Q)(hb:LX s vb X vs Q)(hvl:vs.length≤1000000000)(hQl:Q.length≤1000000000){K:AV→AE→Prop}(hK:∀s',Ae s.next s s'→K (.bool true) s'):WF E 9 [va,vb] K s:=by
 obtain⟨a1,n1,c1,b1,m1,d1,av,cv,ac,cc,cells,rfl,hX,hv,hcl,hc,hq⟩:=ha
 obtain⟨a2,n2,c2,b2,m2,d2,av',cv',ac',cc',cells',rfl,hX',hv',hcl',hc',hq'⟩:=hb
 refine hE.go oU (by decide) rfl ?_
 obtain⟨n3,o1,g1,g2⟩:=D4 s (BL X.1 (.slice a1 n1 c1) (.slice b1 m1 d1) (.slice av vs.length cv) (.slice ac Q.length cc)) (BL X.1 (.slice a2 n2 c2) (.slice b2 m2 d2) (.slice av' vs.length cv') (.slice ac' Q.length cc'))
 simp only[c9,oJ,Xa,Xh,Xc,Ap,Qa,Qb,Qc,Qd,Qe,Qf,Qg,Qh,Qi,Qj,Qk,Ql,Qm,Qn,true_and,and_true,Qo,Qp,Qq,Qr,Qs,Qt,Qu,Qv,Qw,Qx,Qy,Qz,Ra,Rb,Rc,Rd,Re,Rf,Rg,Rh,Ri,Rj,Rk,Rm,Rn,Ro,Rp,Rq,Rt,Ya,Yb,Yc,Ru,Rw,Zb,Yd,Ye,Ry,Rz,Wa,Wb,Wc,Wd,We]
 generalize newObj (newObj s (BL X.1 (.slice a1 n1 c1) (.slice b1 m1 d1) (.slice av vs.length cv) (.slice ac Q.length cc))) (BL X.1 (.slice a2 n2 c2) (.slice b2 m2 d2) (.slice av' vs.length cv') (.slice ac' Q.length cc'))=s1 at *
 have lc:AA Tryz.prog s1 26 (.ptr (some (s.next,0+0)))=some (.agg [.bool X.1,.slice a1 n1 c1,.slice b1 m1 d1]):=Ag (o:=0) (n:=3) BH Ar g1 (by simp)
 have lc':AA Tryz.prog s1 26 (.ptr (some (s.next+1,0+0)))=some (.agg [.bool X.1,.slice a2 n2 c2,.slice b2 m2 d2]):=Ag (o:=0) (n:=3) BH Ar g2 (by simp)
 simp only[oK,lc,lc',Hg,Qa,Qb,Qc,Qd,Qe,Qf,Qg,Qh,Qi,Qj,Qk,Ql,Qm,Qn,true_and,and_true,Qo,Qp,Qq,Qr,Qs,Qt,Qu,Qv,Qw,Qx,Qy,Qz,Ra,Rb,Rc,Rd,Re,Rf,Rg,Rh,Ri,Rj,Rk,Rm,Rn,Ro,Rp,Rq,Rt,Ya,Yb,Yc,Ru,Rw,Zb,Yd,Ye,Ry,Rz,Wa,Wb,Wc,Wd,We]
 refine Mt hE (hX.old o1) (hX'.old o1) fun s2 o2=>?_
 have h1:=o1.1
 have o02:=o1.trans (o2.mono h1)
 have k1:=(o2.2 s.next (by omega)).trans g1
 have k2:=(o2.2 (s.next+1) (by omega)).trans g2
 have la:=AI (P:=Tryz.prog) (t:=27) (o:=0+3) Ix k1 rfl
 have lb:=AI (P:=Tryz.prog) (t:=27) (o:=0+3) Ix k2 rfl
 have lra:=AI (P:=Tryz.prog) (t:=28) (o:=0+4) GG k1 rfl
 have lrb:=AI (P:=Tryz.prog) (t:=28) (o:=0+4) GG k2 rfl
 simp only[We,Bool.not_true,la,lb,lra,lrb,ET,DA,AN Tryz.underlying27,AN Tryz.underlying28,Wd,show decide ((vs.length:Int)≠(vs.length:Int))=false from by simp,show decide ((Q.length:Int)≠(Q.length:Int))=false from by simp,Ru,oM,Qa,Qb,Qc,Qd,Qe,Qf,Qg,Qh,Qi,Qj,Qk,Ql,Qm,Qn,true_and,and_true,Qo,Qp,Qq,Qr,Qs,Qt,Qu,Qv,Qw,Qx,Qy,Qz,Ra,Rb,Rc,Rd,Re,Rf,Rg,Rh,Ri,Rj,Rk,Rm,Rn,Ro,Rp,Rq,Rt,Ya,Yb,Yc,Ru,Rw,Zb,Yd,Ye,Ry,Rz,Wa,Wb,Wc,Wd,We]
 have h2:=o2.1
 refine VC k1 k2 ((hv.old o02 (qw _)).mono o02.1) ((hv'.old o02 (qw _)).mono o02.1) hvl (fun y5 y8 y9=>?_) vs.length 0 _ _ rfl (rB _)
 simp only[oP,if_true,Qa,Qb,Qc,Qd,Qe,Qf,Qg,Qh,Qi,Qj,Qk,Ql,Qm,Qn,true_and,and_true,Qo,Qp,Qq,Qr,Qs,Qt,Qu,Qv,Qw,Qx,Qy,Qz,Ra,Rb,Rc,Rd,Re,Rf,Rg,Rh,Ri,Rj,Rk,Rm,Rn,Ro,Rp,Rq,Rt,Ya,Yb,Yc,Ru,Rw,Zb,Yd,Ye,Ry,Rz,Wa,Wb,Wc,Wd,We]
 refine VD hE k1 k2 (by omega) (by omega) hcl hcl' ((hc.old o02 (qw _)).mono o02.1) ((hc'.old o02 (qw _)).mono o02.1) (fun i x hi=>(hq i x hi).old o02) (fun i x hi=>(hq' i x hi).old o02) hQl (fun S y6 y10 y11 oS=>?_) Q.length 0 s2 _ _ rfl (rB _) (Ae.refl _ _)
 simp only[jm,if_true,Qa,Qb,Qc,Qd,Qe,Qf,Qg,Qh,Qi,Qj,Qk,Ql,Qm,Qn,true_and,and_true,Qo,Qp,Qq,Qr,Qs,Qt,Qu,Qv,Qw,Qx,Qy,Qz,Ra,Rb,Rc,Rd,Re,Rf,Rg,Rh,Ri,Rj,Rk,Rm,Rn,Ro,Rp,Rq,Rt,Ya,Yb,Yc,Ru,Rw,Zb,Yd,Ye,Ry,Rz,Wa,Wb,Wc,Wd,We]
 exact hK S (o02.trans (oS.mono o02.1))
end
theorem CO.slot_lt{e n sz:Nat}{s:AE}{v:AV}{cs:List AV}{O:List Nat}(h:CO e s v n sz cs O){j:Nat}(hj:CH v=some j):j<s.next:=by
 rcases h with⟨a,rfl,_,_,_,h5⟩ | ⟨i,p,rfl,h6,_⟩
 ·cases a with
  | none=>cases hj
  | some io=>obtain⟨i,o⟩:=io;injection hj with hj;subst hj;exact(h5 i o rfl).1
 ·injection hj with hj
  subst hj
  rcases h6.ex with⟨e',_⟩ | ⟨_,_,k2,_⟩
  ·cases e'
  ·exact k2
theorem AZ.keepS{b:Nat}{s s':AE}{v:AV}{a:Option (Nat×Nat)}{n:Nat}{cap:Option Nat}{cs:List AV}(h:AZ b s a cs)(hv:v=.slice a n cap)(hf:∀j,CH v=some j→j<b→s'.heap.get j=s.heap.get j):AZ b s' a cs:=fun k u hu=>by
 obtain⟨i,o,rfl,h2,h3⟩:=h k u hu
 exact⟨i,o,rfl,h2,by rw[Dr (hf i (by rw[hv];rfl) h2)];exact h3⟩
theorem VE{s:AE}{v:AV}{n:Nat}{cs:List AV}{O:List Nat}(hd:CO 76 s v n 1 cs O){a:Option (Nat×Nat)}{cap:Option Nat}{l:List Nat}(h:AZ s.next s a (us l))(hn:n≤1000000)(hl:l.length≤1000000000):
  ∃v' s' O',Aw Tryz.prog s [22,22] [v,.slice a l.length cap]=some (v',s')∧CO 76 s' v' (n+l.length) 1 (cs++us l) O'∧s.next≤s'.next∧(∀j,j<s.next→j ∉ O→s'.heap.get j=s.heap.get j)∧(∀j,CH v'=some j→CH v=some j∨s.next≤j):=by
 obtain⟨v',s',O',h1,h2,h3,_,h5,_,h7⟩:=hd.append Tryz.underlying22 Ci UL (by decide) QQ (by kernel_rfl) (M1 (e:=76) (sz:=1) (cap:=cap) (n:=l.length) h (by rw[CY,rG]) (by decide)) (by rw[CY,rG]) (Sf l) (by omega) (by omega)
 exact⟨v',s',O',h1,h2,h3,h5,h7⟩
section
variable{E:CR}{s:AE}
theorem ZV(hE:GoodN E){v:AV}{x:Hb}(hv:QX s v x){K:AV→AE→Prop}(hK:∀s' w,Ae s.next s s'→QX s' w x→(∀j∈Bx w,s.next≤j∧j<s'.next)→K w s'):WF E 58 [v] K s:=by
  obtain⟨m,d,rfl,h1,h2,hl1,hl2⟩:=hv
  obtain⟨am,cm,rfl,_,hcm⟩:=h1
  obtain⟨ad,cd,rfl,_,hcd⟩:=h2
  refine hE.go lK (by decide) rfl ?_
  obtain⟨n1,o1,g1,g2⟩:=D4 s (BQ x.1 (.slice am x.2.1.length cm) (.slice ad x.2.2.length cd)) ZQ
  simp only[qW,gn,Xa,Xh,Bb,Xc,Ap,Qa,Qb,Qc,Qd,Qe,Qf,Qg,Qh,Qi,Qj,Qk,Ql,Qm,Qn,true_and,and_true,Qo,Qp,Qq,Qr,Qs,Qt,Qu,Qv,Qw,Qx,Qy,Qz,Ra,Rb,Rc,Rd,Re,Rf,Rg,Rh,Ri,Rj,Rk,Rm,Rn,Ro,Rp,Rq,Rt,Ya,Yb,Yc,Ru,Rw,Zb,Yd,Ye,Ry,Rz,Wa,Wb,Wc,Wd,We]
  generalize newObj (newObj s (BQ x.1 (.slice am x.2.1.length cm) (.slice ad x.2.2.length cd))) ZQ=s1 at *
  obtain⟨n2,o2,g3⟩:=Bl s1 (R 76 1 false [])
  generalize hs2:newObj s1 (R 76 1 false [])=s2 at *
  obtain⟨n3,o3,g4⟩:=Bl s2 (R 76 1 false [])
  generalize hs3:newObj s2 (R 76 1 false [])=s3 at *
  have o12:=o1.trans (o2.mono o1.1)
  have o13:=o12.trans (o3.mono o12.1)
  have k2:=(o2.2 s.next (by omega)).trans g1
  have k3:=(o3.2 s.next (by omega)).trans k2
  have lx:=AI (P:=Tryz.prog) (t:=4) (o:=0+0+0) MI g1 rfl
  have lm:=AI (P:=Tryz.prog) (t:=22) (o:=0+0+1) CG k2 rfl
  have ld:=AI (P:=Tryz.prog) (t:=22) (o:=0+2) CG k3 rfl
  have hdA:CO 76 s3 (.slice (some (s1.next,0)) 0 (some 0)) 0 1 [] []:=CO.row (by omega) ((o3.2 s1.next (by omega)).trans g3) rfl
  obtain⟨v4,s4,O4,happ4,hd4,hn4,hf4,hsl4⟩:=VE (cap:=cm) hdA ((hcm.old o13 (qw _)).mono o13.1) (by omega) hl1
  have o34:Ae s3.next s3 s4:=⟨hn4,fun j hj=>hf4 j hj (by simp)⟩
  have o14:=o13.trans (o34.mono o13.1)
  have k4:=(o34.2 s.next (by omega)).trans k3
  have hdB:CO 76 s4 (.slice (some (s2.next,0)) 0 (some 0)) 0 1 [] []:=CO.row (by omega) ((o34.2 s2.next (by omega)).trans g4) rfl
  obtain⟨v5,s5,O5,happ5,hd5,hn5,hf5,hsl5⟩:=VE (cap:=cd) hdB ((hcd.old o14 (qw _)).mono o14.1) (by omega) hl2
  have o45:Ae s4.next s4 s5:=⟨hn5,fun j hj=>hf5 j hj (by simp)⟩
  have k5:=(o45.2 s.next (by omega)).trans k4
  have ld4:=AI (P:=Tryz.prog) (t:=22) (o:=0+2) CG k4 rfl
  have lx4:=AI (P:=Tryz.prog) (t:=4) (o:=0+0+0) MI k4 rfl
  have lx5:=AI (P:=Tryz.prog) (t:=4) (o:=0+0+0) MI k5 rfl
  rw[rE,si]at hd4 hd5
  have hd4':CO 76 s5 v4 x.2.1.length 1 (us x.2.1) O4:=hd4.frame o45.1 fun j hj=>o45.2 j (hd4.slot_lt hj)
  obtain⟨a4,cap4,rfl,_⟩:=hd4.cells
  obtain⟨a5,cap5,rfl,_⟩:=hd5.cells
  simp only[gr,lx,Tl,Xe,hs2,lm,hs3,ld,happ4,ES,FD,Do,Cv,Qa,Qb,Qc,Qd,Qe,Qf,Qg,Qh,Qi,Qj,Qk,Ql,Qm,Qn,true_and,and_true,Qo,Qp,Qq,Qr,Qs,Qt,Qu,Qv,Qw,Qx,Qy,Qz,Ra,Rb,Rc,Rd,Re,Rf,Rg,Rh,Ri,Rj,Rk,Rm,Rn,Ro,Rp,Rq,Rt,Ya,Yb,Yc,Ru,Rw,Zb,Yd,Ye,Ry,Rz,Wa,Wb,Wc,Wd,We]
  refine⟨⟨Ak (by simp only[Qa,Qb,Qc,Qd,Qe,Qf,Qg,Qh,Qi,Qj,Qk,Ql,Qm,Qn,true_and,and_true,Qo,Qp,Qq,Qr,Qs,Qt,Qu,Qv,Qw,Qx,Qy,Qz,Ra,Rb,Rc,Rd,Re,Rf,Rg,Rh,Ri,Rj,Rk,Rm,Rn,Ro,Rp,Rq,Rt,Ya,Yb,Yc,Ru,Rw,Zb,Yd,Ye,Ry,Rz,Wa,Wb,Wc,Wd,We];exact ld4) (by simp only[Qa,Qb,Qc,Qd,Qe,Qf,Qg,Qh,Qi,Qj,Qk,Ql,Qm,Qn,true_and,and_true,Qo,Qp,Qq,Qr,Qs,Qt,Qu,Qv,Qw,Qx,Qy,Qz,Ra,Rb,Rc,Rd,Re,Rf,Rg,Rh,Ri,Rj,Rk,Rm,Rn,Ro,Rp,Rq,Rt,Ya,Yb,Yc,Ru,Rw,Zb,Yd,Ye,Ry,Rz,Wa,Wb,Wc,Wd,We];exact BT _ _ _),Ak (by simp only[Qa,Qb,Qc,Qd,Qe,Qf,Qg,Qh,Qi,Qj,Qk,Ql,Qm,Qn,true_and,and_true,Qo,Qp,Qq,Qr,Qs,Qt,Qu,Qv,Qw,Qx,Qy,Qz,Ra,Rb,Rc,Rd,Re,Rf,Rg,Rh,Ri,Rj,Rk,Rm,Rn,Ro,Rp,Rq,Rt,Ya,Yb,Yc,Ru,Rw,Zb,Yd,Ye,Ry,Rz,Wa,Wb,Wc,Wd,We];exact lx4) (by simp only[Qa,Qb,Qc,Qd,Qe,Qf,Qg,Qh,Qi,Qj,Qk,Ql,Qm,Qn,true_and,and_true,Qo,Qp,Qq,Qr,Qs,Qt,Qu,Qv,Qw,Qx,Qy,Qz,Ra,Rb,Rc,Rd,Re,Rf,Rg,Rh,Ri,Rj,Rk,Rm,Rn,Ro,Rp,Rq,Rt,Ya,Yb,Yc,Ru,Rw,Zb,Yd,Ye,Ry,Rz,Wa,Wb,Wc,Wd,We];exact FQ _)⟩,?_⟩
  simp only[IB,happ5,Qa,Qb,Qc,Qd,Qe,Qf,Qg,Qh,Qi,Qj,Qk,Ql,Qm,Qn,true_and,and_true,Qo,Qp,Qq,Qr,Qs,Qt,Qu,Qv,Qw,Qx,Qy,Qz,Ra,Rb,Rc,Rd,Re,Rf,Rg,Rh,Ri,Rj,Rk,Rm,Rn,Ro,Rp,Rq,Rt,Ya,Yb,Yc,Ru,Rw,Zb,Yd,Ye,Ry,Rz,Wa,Wb,Wc,Wd,We]
  refine⟨Ak (by simp only[Qa,Qb,Qc,Qd,Qe,Qf,Qg,Qh,Qi,Qj,Qk,Ql,Qm,Qn,true_and,and_true,Qo,Qp,Qq,Qr,Qs,Qt,Qu,Qv,Qw,Qx,Qy,Qz,Ra,Rb,Rc,Rd,Re,Rf,Rg,Rh,Ri,Rj,Rk,Rm,Rn,Ro,Rp,Rq,Rt,Ya,Yb,Yc,Ru,Rw,Zb,Yd,Ye,Ry,Rz,Wa,Wb,Wc,Wd,We];exact lx5) (by simp only[Qa,Qb,Qc,Qd,Qe,Qf,Qg,Qh,Qi,Qj,Qk,Ql,Qm,Qn,true_and,and_true,Qo,Qp,Qq,Qr,Qs,Qt,Qu,Qv,Qw,Qx,Qy,Qz,Ra,Rb,Rc,Rd,Re,Rf,Rg,Rh,Ri,Rj,Rk,Rm,Rn,Ro,Rp,Rq,Rt,Ya,Yb,Yc,Ru,Rw,Zb,Yd,Ye,Ry,Rz,Wa,Wb,Wc,Wd,We];exact FQ _),?_⟩
  have gz:s5.heap.get (s.next+1)=some ZQ:=by rw[o45.2 _ (by omega),o34.2 _ (by omega),o3.2 _ (by omega),o2.2 _ (by omega)];exact g2
  obtain⟨st6,ld6⟩:=Bj (cs0:=[.bool false,.slice none 0 (some 0),.slice none 0 (some 0)]) rfl (x:=x.1) (a:=a4) (n:=x.2.1.length) (c:=cap4) (b:=a5) (m:=x.2.2.length) (d:=cap5) gz
  simp only[NQ,st6,ld6,AO,Xy,Za,Qa,Qb,Qc,Qd,Qe,Qf,Qg,Qh,Qi,Qj,Qk,Ql,Qm,Qn,true_and,and_true,Qo,Qp,Qq,Qr,Qs,Qt,Qu,Qv,Qw,Qx,Qy,Qz,Ra,Rb,Rc,Rd,Re,Rf,Rg,Rh,Ri,Rj,Rk,Rm,Rn,Ro,Rp,Rq,Rt,Ya,Yb,Yc,Ru,Rw,Zb,Yd,Ye,Ry,Rz,Wa,Wb,Wc,Wd,We]
  have o05:=o14.trans (o45.mono o14.1)
  have hsl:∀j∈Bx (.agg [.bool x.1,.slice a4 x.2.1.length cap4,.slice a5 x.2.2.length cap5]),s.next+2≤j∧j<s5.next:=fun j hj=>by
    rcases(Bi rfl).1 hj with hj | hj
    · refine ⟨?_, hd4'.slot_lt hj⟩
      rcases hsl4 j hj with h | h
      · injection h with h;omega
      · omega
    · refine ⟨?_, hd5.slot_lt hj⟩
      rcases hsl5 j hj with h | h
      · injection h with h;omega
      · omega
  have hq:QX s5 (.agg [.bool x.1,.slice a4 x.2.1.length cap4,.slice a5 x.2.2.length cap5]) x:=⟨_,_,rfl,hd4'.n32,hd5.n32,hl1,hl2⟩
  refine hK _ _ (o05.set (by omega) _) (hq.keep (qw _) fun j hj _=>Wx _ (by have:=hsl j hj;omega)) fun j hj=>?_
  have:=hsl j hj
  exact⟨by omega,this.2⟩
def Km(D:List (Hb×AV)):List CD:=D.map fun t=>((0:Int),(0:Rat),t.2)
structure OR(b:Nat)(S:AE)(cv:AV)(D:List (Hb×AV))(O:List Nat):Prop where
 buf:E6 26 3 S cv D.length (CM (Km D)) O
 ent:∀t∈D,QX S t.2 t.1∧∀j∈Bx t.2,b≤j∧j<S.next∧j ∉ O
 lo:∀j∈O,b≤j
theorem OR.old{b:Nat}{S S':AE}{cv:AV}{D:List (Hb×AV)}{O:List Nat}(h:OR b S cv D O)(hn:S.next≤S'.next)(hf:∀j,b≤j→j<S.next→S'.heap.get j=S.heap.get j):OR b S' cv D O:=
 ⟨h.buf.frame hn fun j hj=>hf j (h.lo j hj) (h.buf.lt j hj),fun t ht=>⟨(h.ent t ht).1.keep hn fun j hj hl=>hf j ((h.ent t ht).2 j hj).1 hl,fun j hj=>by have:=(h.ent t ht).2 j hj;exact⟨this.1,by omega,this.2.2⟩⟩,h.lo⟩
theorem OR.push{b:Nat}{S:AE}{cv:AV}{D:List (Hb×AV)}{O:List Nat}(h:OR b S cv D O){r:Nat}{x:Hb}{a c:Option (Nat×Nat)}{n m:Nat}{e f:Option Nat}(hr:S.heap.get r=some (R 26 3 false [.bool x.1,.slice a n e,.slice c m f]))(hq:QX S (.agg [.bool x.1,.slice a n e,.slice c m f]) x)(hs:∀j∈Bx (.agg [.bool x.1,.slice a n e,.slice c m f]),b≤j∧j<S.next∧j ∉ O)(hD:D.length≤1000000000)(hb:b≤S.next):
    ∃cv' S' O',Aw Tryz.prog S [28,28] [cv,.slice (some (r,0)) 1 (some 1)]=some (cv',S')∧OR b S' cv' (D++[(x,.agg [.bool x.1,.slice a n e,.slice c m f])]) O'∧S'.next=S.next+1∧(∀j,j<S.next→j ∉ O→S'.heap.get j=S.heap.get j)∧(∀j∈O',j∈O∨S.next≤j):=by
  obtain⟨v8,s8,O8,happ8,b8,n8,f8,hO8⟩:=Ib Tryz.underlying28 Ar kD (by decide) OM Sk (by decide) h.buf hr rfl rfl hD
  have key:∀ (v:AV) (y:Hb),QX S v y→(∀j∈Bx v,b≤j∧j<S.next∧j ∉ O)→QX s8 v y∧∀j∈Bx v,b≤j∧j<s8.next∧j ∉ O8:=fun v y h1 h2 =>
    ⟨h1.keep (by omega) fun j hj hl=>f8 j hl (h2 j hj).2.2,fun j hj=>by
      obtain⟨q1,q2,q3⟩:=h2 j hj
      refine⟨q1,by omega,fun h'=>?_⟩
      rcases hO8 j h' with h'' | h''
      · exact q3 h''
      · omega⟩
  refine⟨v8,s8,O8,happ8,⟨?_,fun t ht=>?_,fun j hj=>?_⟩,n8,f8,hO8⟩
  · have e:CM (Km (D++[(x,AV.agg [.bool x.1,.slice a n e,.slice c m f])]))=CM (Km D)++[.bool x.1,.slice a n e,.slice c m f]:=by simp[CM,Km,AV.cells]
    rw[e,rL]
    exact b8
  · rcases List.mem_append.1 ht with ht | ht
    · exact key _ _ (h.ent t ht).1 (h.ent t ht).2
    · rw[List.mem_singleton.1 ht];exact key _ _ hq hs
  · rcases hO8 j hj with hj | hj
    · exact h.lo j hj
    · omega
theorem YZ(hE:GoodN E){s0:AE}{p1 p3:Nat}{A1 A2 A3 A4 B1 B2 B3 B4:AV}{ac:Option (Nat×Nat)}{cc:Option Nat}{Q0:List Hb}{cells:List AV}(hcl:cells.length=Q0.length * 3)(ha:AZ s0.next s0 ac cells)(hqa:∀ (i:Nat)(x:Hb),Q0[i]? = some x→QX s0 (.agg ((cells.drop (i * 3)).take 3)) x)(hl:Q0.length≤1000000000)
  (h1:s0.next≤p1) (h3:p1<p3) (h0:s0.next≤s.next) (hp3:p3<s.next) {y0 y2:AV} {Q:Ax→Prop}
  (hq:∀ (S:AE) (cv:AV) (D:List (Hb×AV)) (O:List Nat) (y4 y5:AV),Ae s0.next s0 S→(∀j,j<s.next→j≠p3→S.heap.get j=s.heap.get j)→s.next≤S.next→S.heap.get p3=some (R 30 0 false [B1,B2,B3,B4,cv])→OR s.next S cv D O→D.map (·.1)=Q0→Q ⟨.exit 0,[y0,.ptr (some (p1,0)),y2,.ptr (some (p3,0)),y4,y5],[],S⟩)
  (g1:s.heap.get p1=some (R 30 0 false [A1,A2,A3,A4,.slice ac Q0.length cc])):
  ∀ (r i:Nat) (S:AE) (cv:AV) (D:List (Hb×AV)) (O:List Nat) (z5:AV),Q0.length - i=r→i≤Q0.length→D.map (·.1)=Q0.take i→Ae s0.next s0 S→(∀j,j<s.next→j≠p3→S.heap.get j=s.heap.get j)→s.next≤S.next→S.heap.get p3=some (R 30 0 false [B1,B2,B3,B4,cv])→OR s.next S cv D O→WC E none (.loop Om) Q [y0,.ptr (some (p1,0)),y2,.ptr (some (p3,0)),iv (i:Int),z5] [] S:=by
 intro r
 induction r with
 | zero =>
  intro i S cv D O z5 hi hle hD ho hf hn g3 hC
  have la:=AI (P:=Tryz.prog) (t:=28) (o:=0+4) GG ((hf p1 (by omega) (by omega)).trans g1) rfl
  have dd:decide ((i:Int)<(Q0.length:Int))=false:=decide_eq_false (by omega)
  refine WC.loop' ?_
  simp only[Om,XD,la,DA,AN Tryz.underlying28,Ry,dd,Qa,Qb,Qc,Qd,Qe,Qf,Qg,Qh,Qi,Qj,Qk,Ql,Qm,Qn,true_and,and_true,Qo,Qp,Qq,Qr,Qs,Qt,Qu,Qv,Qw,Qx,Qy,Qz,Ra,Rb,Rc,Rd,Re,Rf,Rg,Rh,Ri,Rj,Rk,Rm,Rn,Ro,Rp,Rq,Rt,Ya,Yb,Yc,Ru,Rw,Zb,Yd,Ye,Ry,Rz,Wa,Wb,Wc,Wd,We]
  exact hq S cv D O _ _ ho hf hn g3 hC (by rw[hD,List.take_of_length_le (by omega)])
 | succ r ih =>
  intro i S cv D O z5 hi hle hD ho hf hn g3 hC
  have la:=AI (P:=Tryz.prog) (t:=28) (o:=0+4) GG ((hf p1 (by omega) (by omega)).trans g1) rfl
  have lb:=AI (P:=Tryz.prog) (t:=28) (o:=0+4) GG g3 rfl
  have hlt:i<Q0.length:=by omega
  have hDl:D.length=i:=by have:=congrArg List.length hD;simp at this;omega
  have dd:decide ((i:Int)<(Q0.length:Int))=true:=decide_eq_true (by omega)
  have e17:=BU Tryz.prog 3 (i:Int) 1 ⟨by omega,by omega⟩
  have e17':((i:Int)+1)=((i+1:Nat):Int):=by omega
  have hx:Q0[i]? = some Q0[i]:=qy hlt
  obtain⟨ia,oa,rfl,hia,lda⟩:=IT ha hcl hlt
  have ixa:=Ah (cap:=cc) (i:=ia) (o:=oa) (n:=3) Tryz.underlying28 Ar hlt
  have lda':=JB BH ho hia lda
  refine WC.loop' ?_
  generalize hW:WC E none (Ad.loop Om) Q=WW
  simp only[Om,XD,eG,la,lb,DA,AN Tryz.underlying28,Ry,dd,ixa,lda',Qa,Qb,Qc,Qd,Qe,Qf,Qg,Qh,Qi,Qj,Qk,Ql,Qm,Qn,true_and,and_true,Qo,Qp,Qq,Qr,Qs,Qt,Qu,Qv,Qw,Qx,Qy,Qz,Ra,Rb,Rc,Rd,Re,Rf,Rg,Rh,Ri,Rj,Rk,Rm,Rn,Ro,Rp,Rq,Rt,Ya,Yb,Yc,Ru,Rw,Zb,Yd,Ye,Ry,Rz,Wa,Wb,Wc,Wd,We]
  refine ZV hE ((hqa i _ hx).old ho) fun s4 w o4 hw hsl=>?_
  have h4:=o4.1
  obtain⟨_,_,ecv,_⟩:=hC.buf.slice
  have lb4:=AI (P:=Tryz.prog) (t:=28) (o:=0+4) GG ((o4.2 p3 (by omega)).trans g3) rfl
  refine⟨⟨Ak (by simp only[Qa,Qb,Qc,Qd,Qe,Qf,Qg,Qh,Qi,Qj,Qk,Ql,Qm,Qn,true_and,and_true,Qo,Qp,Qq,Qr,Qs,Qt,Qu,Qv,Qw,Qx,Qy,Qz,Ra,Rb,Rc,Rd,Re,Rf,Rg,Rh,Ri,Rj,Rk,Rm,Rn,Ro,Rp,Rq,Rt,Ya,Yb,Yc,Ru,Rw,Zb,Yd,Ye,Ry,Rz,Wa,Wb,Wc,Wd,We];exact lb4) (by simp only[Qa,Qb,Qc,Qd,Qe,Qf,Qg,Qh,Qi,Qj,Qk,Ql,Qm,Qn,true_and,and_true,Qo,Qp,Qq,Qr,Qs,Qt,Qu,Qv,Qw,Qx,Qy,Qz,Ra,Rb,Rc,Rd,Re,Rf,Rg,Rh,Ri,Rj,Rk,Rm,Rn,Ro,Rp,Rq,Rt,Ya,Yb,Yc,Ru,Rw,Zb,Yd,Ye,Ry,Rz,Wa,Wb,Wc,Wd,We];rw[ecv];exact BT _ _ _),trivial⟩,?_⟩
  obtain⟨aa,nn,kk,bb,mm,ee,rfl⟩:=hw.shape
  obtain⟨n5,o5,g5⟩:=Bl s4 (R 26 3 false [.bool Q0[i].1,.slice aa nn kk,.slice bb mm ee])
  simp only[Lj,Xe,Qa,Qb,Qc,Qd,Qe,Qf,Qg,Qh,Qi,Qj,Qk,Ql,Qm,Qn,true_and,and_true,Qo,Qp,Qq,Qr,Qs,Qt,Qu,Qv,Qw,Qx,Qy,Qz,Ra,Rb,Rc,Rd,Re,Rf,Rg,Rh,Ri,Rj,Rk,Rm,Rn,Ro,Rp,Rq,Rt,Ya,Yb,Yc,Ru,Rw,Zb,Yd,Ye,Ry,Rz,Wa,Wb,Wc,Wd,We]
  generalize newObj s4 (R 26 3 false [.bool Q0[i].1,.slice aa nn kk,.slice bb mm ee])=s5 at *
  have o45:Ae S.next S s5:=o4.trans (o5.mono h4)
  obtain⟨v6,s6,O6,happ,C6,n6,f6,hO6⟩:=(hC.old o45.1 fun j _ hj=>o45.2 j hj).push g5 (hw.old o5) (fun j hj=>by
   obtain⟨q1,q2⟩:=hsl j hj
   exact⟨by omega,by omega,fun h=>by have:=hC.buf.lt j h;omega⟩) (by omega) (by omega)
  have hp3':p3 ∉ O:=fun h=>by have:=hC.lo p3 h;omega
  have g6:s6.heap.get p3=some (R 30 0 false [B1,B2,B3,B4,cv]):=by rw[f6 p3 (by omega) hp3',o45.2 p3 (by omega)];exact g3
  obtain⟨_,_,ev6,_⟩:=C6.buf.slice
  have st7:=Bo (P:=Tryz.prog) (t:=28) (o:=0+4) (v:=v6) mp g6 (by simp) (by rw[ev6];rfl)
  simp only[happ,st7,DA,eH,e17,e17',Xy,Za,Qa,Qb,Qc,Qd,Qe,Qf,Qg,Qh,Qi,Qj,Qk,Ql,Qm,Qn,true_and,and_true,Qo,Qp,Qq,Qr,Qs,Qt,Qu,Qv,Qw,Qx,Qy,Qz,Ra,Rb,Rc,Rd,Re,Rf,Rg,Rh,Ri,Rj,Rk,Rm,Rn,Ro,Rp,Rq,Rt,Ya,Yb,Yc,Ru,Rw,Zb,Yd,Ye,Ry,Rz,Wa,Wb,Wc,Wd,We]
  generalize hs7:setObj s6 p3 _=s7
  have f7:∀j,j≠p3→s7.heap.get j=s6.heap.get j:=fun j hj=>by rw[← hs7,Wx _ hj]
  have n7:s7.next=s6.next:=by rw[← hs7];rfl
  have g7:s7.heap.get p3=some (R 30 0 false [B1,B2,B3,B4,v6]):=by rw[← hs7,Ww];rfl
  rw[← hW]
  refine ih (i+1) s7 v6 _ O6 _ (by omega) (by omega) ?_ ⟨by have:=ho.1;omega,fun j hj=>?_⟩ (fun j hj hne=>?_) (by omega) g7 (C6.old (by omega) fun j hj _=>f7 j (by omega))
  ·rw[List.map_append,hD,List.map_singleton,List.take_add_one,hx];rfl
  ·rw[f7 j (by omega),f6 j (by omega) (fun h=>by have:=hC.lo j h;omega),o45.2 j (by omega),ho.2 j hj]
  ·rw[f7 j hne,f6 j (by omega) (fun h=>by have:=hC.lo j h;omega),o45.2 j (by omega),hf j hj hne]
theorem MO(hE:GoodN E){v:AV}{X:Hb}{vs:List Int}{Q:List Hb}(hv:LX s v X vs Q)(hvl:vs.length≤1000000)(hQl:Q.length≤1000000000){K:AV→AE→Prop}
    (hK:∀s' w,Ae s.next s s'→(∀s'',s'.next≤s''.next→(∀j,s.next≤j→j<s'.next→s''.heap.get j=s'.heap.get j)→LX s'' w X vs Q)→K w s'):WF E 18 [v] K s:=by
  obtain⟨a1,n1,c1,b1,m1,d1,av,cv,ac,cc,cells,rfl,hX,hcv,hcl,hc,hq⟩:=hv
  refine hE.go kV (by decide) rfl ?_
  obtain⟨n3,o1,g1,g2⟩:=D4 s (BL X.1 (.slice a1 n1 c1) (.slice b1 m1 d1) (.slice av vs.length cv) (.slice ac Q.length cc)) ZL
  simp only[pz,eC,Xa,Xh,Dm,Xc,Ap,Qa,Qb,Qc,Qd,Qe,Qf,Qg,Qh,Qi,Qj,Qk,Ql,Qm,Qn,true_and,and_true,Qo,Qp,Qq,Qr,Qs,Qt,Qu,Qv,Qw,Qx,Qy,Qz,Ra,Rb,Rc,Rd,Re,Rf,Rg,Rh,Ri,Rj,Rk,Rm,Rn,Ro,Rp,Rq,Rt,Ya,Yb,Yc,Ru,Rw,Zb,Yd,Ye,Ry,Rz,Wa,Wb,Wc,Wd,We]
  generalize newObj (newObj s (BL X.1 (.slice a1 n1 c1) (.slice b1 m1 d1) (.slice av vs.length cv) (.slice ac Q.length cc))) ZL=s1 at *
  have h1:=o1.1
  obtain⟨n2,o2,g3⟩:=Bl s1 (R 3 1 false [])
  have lc:AA Tryz.prog s1 26 (.ptr (some (s.next,0+0)))=some (.agg [.bool X.1,.slice a1 n1 c1,.slice b1 m1 d1]):=Ag (o:=0) (n:=3) BH Ar g1 (by simp)
  generalize hs2:newObj s1 (R 3 1 false [])=s2 at *
  have k2:=(o2.2 s.next (by omega)).trans g1
  have lv:=AI (P:=Tryz.prog) (t:=27) (o:=0+3) Ix k2 rfl
  obtain⟨n4,o3,g4⟩:=Bl s2 ZL
  simp only[eE,lc,Zm,Xe,hs2,lv,Hg,ET,Dm,Xc,Qa,Qb,Qc,Qd,Qe,Qf,Qg,Qh,Qi,Qj,Qk,Ql,Qm,Qn,true_and,and_true,Qo,Qp,Qq,Qr,Qs,Qt,Qu,Qv,Qw,Qx,Qy,Qz,Ra,Rb,Rc,Rd,Re,Rf,Rg,Rh,Ri,Rj,Rk,Rm,Rn,Ro,Rp,Rq,Rt,Ya,Yb,Yc,Ru,Rw,Zb,Yd,Ye,Ry,Rz,Wa,Wb,Wc,Wd,We]
  generalize newObj s2 ZL=s3 at *
  have o12:=o1.trans (o2.mono h1)
  have o13:=o12.trans (o3.mono o12.1)
  refine ZV hE (hX.old o13) fun s4 w o4 hw hsl=>?_
  have h4:=o4.1
  have k4:=(o4.2 s.next (by omega)).trans ((o3.2 s.next (by omega)).trans k2)
  have lv4:=AI (P:=Tryz.prog) (t:=27) (o:=0+3) Ix k4 rfl
  refine⟨⟨Ak (by simp only[Qa,Qb,Qc,Qd,Qe,Qf,Qg,Qh,Qi,Qj,Qk,Ql,Qm,Qn,true_and,and_true,Qo,Qp,Qq,Qr,Qs,Qt,Qu,Qv,Qw,Qx,Qy,Qz,Ra,Rb,Rc,Rd,Re,Rf,Rg,Rh,Ri,Rj,Rk,Rm,Rn,Ro,Rp,Rq,Rt,Ya,Yb,Yc,Ru,Rw,Zb,Yd,Ye,Ry,Rz,Wa,Wb,Wc,Wd,We];exact lv4) (by simp only[Qa,Qb,Qc,Qd,Qe,Qf,Qg,Qh,Qi,Qj,Qk,Ql,Qm,Qn,true_and,and_true,Qo,Qp,Qq,Qr,Qs,Qt,Qu,Qv,Qw,Qx,Qy,Qz,Ra,Rb,Rc,Rd,Re,Rf,Rg,Rh,Ri,Rj,Rk,Rm,Rn,Ro,Rp,Rq,Rt,Ya,Yb,Yc,Ru,Rw,Zb,Yd,Ye,Ry,Rz,Wa,Wb,Wc,Wd,We];exact BT _ _ _),trivial⟩,?_⟩
  have o04:=o13.trans (o4.mono o13.1)
  have hdV:CO 3 s4 (.slice (some (s1.next,0)) 0 (some 0)) 0 1 [] []:=CO.row (by omega) ((o4.2 s1.next (by omega)).trans ((o3.2 s1.next (by omega)).trans g3)) rfl
  obtain⟨v5,s5,O5,happ5,hd5,hn5,_,hf5,_,hsl5⟩:=hdV.append (st:=27) (xt:=27) Tryz.underlying27 Z9 px (by decide) T3 aM (M1 (e:=3) (sz:=1) (cap:=cv) (n:=vs.length) ((hcv.old o04 (qw _)).mono o04.1) (by simp) (by decide)) (by simp) (cE vs) (by omega) (by omega)
  have o45:Ae s4.next s4 s5:=⟨hn5,fun j hj=>hf5 j hj (by simp)⟩
  rw[rE,si]at hd5
  have hslv:∀j,CH v5=some j→s1.next≤j∧j<s5.next:=fun j hj=>by
    refine⟨?_,hd5.slot_lt hj⟩
    rcases hsl5 j hj with h | h
    · injection h with h;omega
    · omega
  obtain⟨a5,cap5,ev5,hc5⟩:=hd5.cells
  subst ev5
  obtain⟨aw,nw,cw,bw,mw,dw,rfl⟩:=hw.shape
  have k3:s5.heap.get s2.next=some ZL:=(o45.2 s2.next (by omega)).trans ((o4.2 s2.next (by omega)).trans g4)
  obtain⟨st6,_⟩:=CF (cs0:=[.bool false,.slice none 0 (some 0),.slice none 0 (some 0),.slice none 0 (some 0),.slice none 0 (some 0)]) rfl (x:=X.1) (a:=aw) (n:=nw) (c:=cw) (b:=bw) (m:=mw) (d:=dw) (av:=a5) (nv:=vs.length) (cv:=cap5) (ac:=none) (nc:=0) (cc:=some 0) k3
  simp only[happ5,Of,st6,eF,Xy,Za,Qa,Qb,Qc,Qd,Qe,Qf,Qg,Qh,Qi,Qj,Qk,Ql,Qm,Qn,true_and,and_true,Qo,Qp,Qq,Qr,Qs,Qt,Qu,Qv,Qw,Qx,Qy,Qz,Ra,Rb,Rc,Rd,Re,Rf,Rg,Rh,Ri,Rj,Rk,Rm,Rn,Ro,Rp,Rq,Rt,Ya,Yb,Yc,Ru,Rw,Zb,Yd,Ye,Ry,Rz,Wa,Wb,Wc,Wd,We]
  generalize hs6:setObj s5 s2.next _=s6
  have f6:∀j,j≠s2.next→s6.heap.get j=s5.heap.get j:=fun j hj=>by rw[← hs6,Wx _ hj]
  have g6:s6.heap.get s2.next=some (BL X.1 (.slice aw nw cw) (.slice bw mw dw) (.slice a5 vs.length cap5) (.slice none 0 (some 0))):=by rw[← hs6,Ww]
  have n6:s6.next=s5.next:=by rw[← hs6];rfl
  have o05:=o04.trans (o45.mono o04.1)
  have o06:Ae s.next s s6:=by rw[← hs6];exact o05.set (by omega) _
  have k6:s6.heap.get s.next=some (BL X.1 (.slice a1 n1 c1) (.slice b1 m1 d1) (.slice av vs.length cv) (.slice ac Q.length cc)):=by rw[f6 _ (by omega),o45.2 _ (by omega)];exact k4
  refine YZ hE (s:=s6) (s0:=s) (p1:=s.next) (p3:=s2.next) hcl hc hq hQl (qw _) (by omega) (by omega) (by omega) (fun S cvS D O y4 y5 hoS hfS hnS gS hC hD=>?_) k6 Q.length 0 s6 _ [] [] _ rfl (rB _) rfl o06 (fun _ _ _=>rfl) (qw _) g6 ⟨E6.nil _ _ _,fun t h=>by simp at h,fun j h=>by simp at h⟩
  obtain⟨a9,cap9,rfl,hc9,_⟩:=hC.buf.capZ
  have lS:=AG (P:=Tryz.prog) (t:=30) B6 Bp gS rfl
  have gz:S.heap.get (s.next+1)=some ZL:=by
    rw[hfS _ (by omega) (by omega),f6 _ (by omega),o45.2 _ (by omega),o4.2 _ (by omega),o3.2 _ (by omega),o2.2 _ (by omega)]
    exact g2
  obtain⟨st9,ld9⟩:=CF (cs0:=[.bool false,.slice none 0 (some 0),.slice none 0 (some 0),.slice none 0 (some 0),.slice none 0 (some 0)]) rfl (x:=X.1) (a:=aw) (n:=nw) (c:=cw) (b:=bw) (m:=mw) (d:=dw) (av:=a5) (nv:=vs.length) (cv:=cap5) (ac:=a9) (nc:=D.length) (cc:=cap9) gz
  simp only[eI,if_true,lS,st9,ld9,AO,Xy,Za,Qa,Qb,Qc,Qd,Qe,Qf,Qg,Qh,Qi,Qj,Qk,Ql,Qm,Qn,true_and,and_true,Qo,Qp,Qq,Qr,Qs,Qt,Qu,Qv,Qw,Qx,Qy,Qz,Ra,Rb,Rc,Rd,Re,Rf,Rg,Rh,Ri,Rj,Rk,Rm,Rn,Ro,Rp,Rq,Rt,Ya,Yb,Yc,Ru,Rw,Zb,Yd,Ye,Ry,Rz,Wa,Wb,Wc,Wd,We]
  generalize hs8:setObj S (s.next+1) _=s8
  have n8:s8.next=S.next:=by rw[← hs8];rfl
  have f8:∀j,j≠s.next+1→s8.heap.get j=S.heap.get j:=fun j hj=>by rw[← hs8,Wx _ hj]
  have o8:Ae s.next s s8:=by rw[← hs8];exact hoS.set (by omega) _
  refine hK s8 _ o8 fun s'' hn'' hf''=>?_
  have fall:∀j,s1.next≤j→j<S.next→s''.heap.get j=S.heap.get j:=fun j h1' h2'=>by rw[hf'' j (by omega) (by omega),f8 j (by omega)]
  have fw:∀j,s1.next≤j→j<s5.next→j≠s2.next→s''.heap.get j=s5.heap.get j:=fun j h1' h2' hne=>by rw[fall j h1' (by omega),hfS j (by omega) hne,f6 j hne]
  have hC9:=hC.old (S':=s'') (by omega) fun j hj1 hj2=>fall j (by omega) hj2
  obtain⟨a9',cap9',e9,hc9',_⟩:=hC9.buf.capZ
  injection e9 with e9 _ e9'
  subst e9;subst e9'
  have hDl:D.length=Q.length:=by rw[← hD,sO]
  have hl3:∀t∈Km D,t.2.2.cells.length=3:=fun t ht=>by
    obtain⟨t',ht',rfl⟩:=List.mem_map.1 ht
    obtain⟨_,_,_,_,_,_,e⟩:=(hC.ent t' ht').1.shape
    show t'.2.cells.length=3
    rw[e];rfl
  obtain⟨p1,p2⟩:=Ep (Km D) hl3
  have hel:(Km D).length=D.length:=by unfold Km;simp
  refine⟨aw,nw,cw,bw,mw,dw,a5,cap5,a9,cap9,CM (Km D),by rw[hDl],?_,?_,by rw[p1,hel,hDl],hc9',fun i x hi=>?_⟩
  · have hw5:=hw.old o45
    refine hw5.keep (by omega) fun j hj hl=>fw j ?_ hl ?_
    · have:=(hsl j hj).1;omega
    · have:=(hsl j hj).1;omega
  · have := hc5.keepS (s' := s'') (v := .slice a5 vs.length cap5) rfl fun j hj hl => fw j (hslv j hj).1 hl ?_
    · exact this.mono (by omega)
    · intro e
      have hkl:=hd5
      rcases hsl5 j hj with h | h
      · injection h with h;omega
      · omega
  · rw[← hD,sF]at hi
    cases hDi:D[i]? with
    | none=>rw[hDi]at hi;cases hi
    | some t =>
      rw[hDi]at hi
      injection hi with hi
      subst hi
      have htm:=rQ hDi
      have hEi:(Km D)[i]? = some ((0:Int),(0:Rat),t.2):=by unfold Km;rw[sF,hDi];rfl
      rw[p2 i _ hEi]
      obtain⟨_,_,_,_,_,_,e⟩:=(hC9.ent t htm).1.shape
      show QX s'' (AV.agg t.2.cells) t.1
      rw[show AV.agg t.2.cells=t.2 from by rw[e];rfl]
      exact(hC9.ent t htm).1
end
def dL(s:AE)(v:AV):Prop:=∃a n cap,v=.slice a n cap∧n≤1000000000∧(n=0∨∃i l,a=some (i,0)∧i<s.next∧Cu s i (us l) none∧l.length=n)
theorem NR.spN{b:Nat}{s:AE}{v:AV}{l:List Nat}(h:NR b s v l)(hl:l.length≤1000000000):dL s v:=by
  by_cases h0:l=[]
  · obtain⟨a,cap,rfl,_⟩:=h.n32
    rw[h0]
    exact⟨a,0,cap,rfl,by omega,.inl rfl⟩
  · obtain ⟨O, _, _, _, q4⟩ := h
    obtain⟨i,rfl,hi,ho⟩:=q4 h0
    exact⟨_,_,_,rfl,hl,.inr ⟨i,l,rfl,hi,ho,rfl⟩⟩
theorem dL.keep{s s':AE}{v:AV}(h:dL s v)(hn:s.next≤s'.next)(hf:∀j,CH v=some j→j<s.next→s'.heap.get j=s.heap.get j):dL s' v:=by
 obtain⟨a,n,cap,rfl,h1,h2⟩:=h
 refine⟨a,n,cap,rfl,h1,?_⟩
 rcases h2 with h2 | ⟨i,l,rfl,h3,h4,h5⟩
 ·exact .inl h2
 ·exact .inr ⟨i,l,rfl,by omega,h4.keep (hf i rfl h3),h5⟩
def ow(s:AE)(v:AV):Prop:=∃x m d,v=.agg [.bool x,m,d]∧dL s m∧dL s d∧∀j,CH m=some j→CH d≠some j
theorem QR.spQ{b k:Nat}{s:AE}{v:AV}{q:Rat}(h:QR b s v q)(hq:QH q k)(hk:k≤1000000000):ow s v:=by
 obtain⟨m,d,rfl,h1,h2,h3,_⟩:=h
 have:=As hq.1
 have:=As hq.2
 exact⟨_,m,d,rfl,h1.spN (by omega),h2.spN (by omega),h3⟩
theorem Tq(x:Nat):∃y:Nat,AS Tryz.prog .add 76 (BV x) (.int .u32 1)=some (BV y):=by
 refine⟨(x+1) % 4294967296,?_⟩
 show some (AV.int .u32 (DG .u32 ((x:Int)+1)))=_
 rw[NB]
 congr 2
section
variable{E:CR}{s:AE}
theorem Zz{p i:Nat}{x:Bool}{n:Nat}{c:Option Nat}{d:AV}(g:s.heap.get p=some (BQ x (.slice (some (i,0)) n c) d))(hpi:p≠i)(hn:n≤1000000000){Q:Ax→Prop}{y0 y3 y5:AV}
  (hq:∀S y2 y4,S.next=s.next→(∀j,j≠i→S.heap.get j=s.heap.get j)→Q ⟨.exit 0,[y0,.ptr (some (p,0)),y2,y3,y4,y5],[],S⟩):
  ∀ (r k:Nat) (S:AE) (l:List Nat) (y4:AV),n - k=r→k≤n→l.length=n→Cu S i (us l) none→S.next=s.next→(∀j,j≠i→S.heap.get j=s.heap.get j)→WC E none (.loop JW) Q [y0,.ptr (some (p,0)),iv (k:Int),y3,y4,y5] [] S:=by
 intro r
 induction r with
 | zero =>
  intro k S l y4 hi hle hl ho hS hf
  have lm:=AI (P:=Tryz.prog) (t:=22) (o:=0+0+1) CG ((hf p hpi).trans g) rfl
  have dd:decide ((k:Int)<(n:Int))=false:=decide_eq_false (by omega)
  refine WC.loop' ?_
  simp only[JW,TB,lm,ES,Cv,AN Tryz.underlying22,Ry,dd,Qa,Qb,Qc,Qd,Qe,Qf,Qg,Qh,Qi,Qj,Qk,Ql,Qm,Qn,true_and,and_true,Qo,Qp,Qq,Qr,Qs,Qt,Qu,Qv,Qw,Qx,Qy,Qz,Ra,Rb,Rc,Rd,Re,Rf,Rg,Rh,Ri,Rj,Rk,Rm,Rn,Ro,Rp,Rq,Rt,Ya,Yb,Yc,Ru,Rw,Zb,Yd,Ye,Ry,Rz,Wa,Wb,Wc,Wd,We]
  exact hq S _ _ hS hf
 | succ r ih =>
  intro k S l y4 hi hle hl ho hS hf
  have lm:=AI (P:=Tryz.prog) (t:=22) (o:=0+0+1) CG ((hf p hpi).trans g) rfl
  have hlt:k<n:=by omega
  have dd:decide ((k:Int)<(n:Int))=true:=decide_eq_true (by omega)
  have e17:=BU Tryz.prog 3 (k:Int) 1 ⟨by omega,by omega⟩
  have e17':((k:Int)+1)=((k+1:Nat):Int):=by omega
  have ix:=Ah (cap:=c) (i:=i) (o:=0) Tryz.underlying22 Ci hlt
  have hx:l[k]? = some (l[k]'(by omega)):=qy (by omega)
  have ld:AA Tryz.prog S 76 (.ptr (some (i,0+k * 1)))=some (BV (l[k]'(by omega))):=FU GH ho (by rw[rG,rE];exact Cy hx)
  obtain⟨y,hy⟩:=Tq (l[k]'(by omega))
  obtain⟨S',e1,e2,e3,e4⟩:=Df (P:=Tryz.prog) (t:=76) (o:=0+k * 1) (v:=BV y) Ci ho (by rw[CY];omega) rfl
  rw[show 0+k * 1=k by omega,Gu]at e2
  refine WC.loop' ?_
  generalize hW:WC E none (Ad.loop JW) Q=WW
  simp only[JW,TB,ep,lm,ES,Cv,AN Tryz.underlying22,Ry,dd,ix,ld,hy,e1,eq,e17,e17',Xy,Za,Qa,Qb,Qc,Qd,Qe,Qf,Qg,Qh,Qi,Qj,Qk,Ql,Qm,Qn,true_and,and_true,Qo,Qp,Qq,Qr,Qs,Qt,Qu,Qv,Qw,Qx,Qy,Qz,Ra,Rb,Rc,Rd,Re,Rf,Rg,Rh,Ri,Rj,Rk,Rm,Rn,Ro,Rp,Rq,Rt,Ya,Yb,Yc,Ru,Rw,Zb,Yd,Ye,Ry,Rz,Wa,Wb,Wc,Wd,We]
  rw[← hW]
  exact ih (k+1) S' (l.set k y) _ (by omega) (by omega) (by rw[sf];exact hl) e2 (by omega) fun j hj=>by rw[e4 j hj (by simp),hf j hj]
theorem Z0{p i:Nat}{x:Bool}{n:Nat}{c:Option Nat}{d:AV}(g:s.heap.get p=some (BQ x d (.slice (some (i,0)) n c)))(hpi:p≠i)(hn:n≤1000000000){Q:Ax→Prop}{y0 y2 y4:AV}
  (hq:∀S y3 y5,S.next=s.next→(∀j,j≠i→S.heap.get j=s.heap.get j)→Q ⟨.exit 2,[y0,.ptr (some (p,0)),y2,y3,y4,y5],[],S⟩):
  ∀ (r k:Nat) (S:AE) (l:List Nat) (y5:AV),n - k=r→k≤n→l.length=n→Cu S i (us l) none→S.next=s.next→(∀j,j≠i→S.heap.get j=s.heap.get j)→WC E none (.loop GQ) Q [y0,.ptr (some (p,0)),y2,iv (k:Int),y4,y5] [] S:=by
 intro r
 induction r with
 | zero =>
  intro k S l y4 hi hle hl ho hS hf
  have lm:=AI (P:=Tryz.prog) (t:=22) (o:=0+2) CG ((hf p hpi).trans g) rfl
  have dd:decide ((k:Int)<(n:Int))=false:=decide_eq_false (by omega)
  refine WC.loop' ?_
  simp only[GQ,TC,lm,FD,AN Tryz.underlying22,Ry,dd,Qa,Qb,Qc,Qd,Qe,Qf,Qg,Qh,Qi,Qj,Qk,Ql,Qm,Qn,true_and,and_true,Qo,Qp,Qq,Qr,Qs,Qt,Qu,Qv,Qw,Qx,Qy,Qz,Ra,Rb,Rc,Rd,Re,Rf,Rg,Rh,Ri,Rj,Rk,Rm,Rn,Ro,Rp,Rq,Rt,Ya,Yb,Yc,Ru,Rw,Zb,Yd,Ye,Ry,Rz,Wa,Wb,Wc,Wd,We]
  exact hq S _ _ hS hf
 | succ r ih =>
  intro k S l y4 hi hle hl ho hS hf
  have lm:=AI (P:=Tryz.prog) (t:=22) (o:=0+2) CG ((hf p hpi).trans g) rfl
  have hlt:k<n:=by omega
  have dd:decide ((k:Int)<(n:Int))=true:=decide_eq_true (by omega)
  have e17:=BU Tryz.prog 3 (k:Int) 1 ⟨by omega,by omega⟩
  have e17':((k:Int)+1)=((k+1:Nat):Int):=by omega
  have ix:=Ah (cap:=c) (i:=i) (o:=0) Tryz.underlying22 Ci hlt
  have hx:l[k]? = some (l[k]'(by omega)):=qy (by omega)
  have ld:AA Tryz.prog S 76 (.ptr (some (i,0+k * 1)))=some (BV (l[k]'(by omega))):=FU GH ho (by rw[rG,rE];exact Cy hx)
  obtain⟨y,hy⟩:=Tq (l[k]'(by omega))
  obtain⟨S',e1,e2,e3,e4⟩:=Df (P:=Tryz.prog) (t:=76) (o:=0+k * 1) (v:=BV y) Ci ho (by rw[CY];omega) rfl
  rw[show 0+k * 1=k by omega,Gu]at e2
  refine WC.loop' ?_
  generalize hW:WC E none (Ad.loop GQ) Q=WW
  simp only[GQ,TC,fA,lm,FD,AN Tryz.underlying22,Ry,dd,ix,ld,hy,e1,fB,e17,e17',Xy,Za,Qa,Qb,Qc,Qd,Qe,Qf,Qg,Qh,Qi,Qj,Qk,Ql,Qm,Qn,true_and,and_true,Qo,Qp,Qq,Qr,Qs,Qt,Qu,Qv,Qw,Qx,Qy,Qz,Ra,Rb,Rc,Rd,Re,Rf,Rg,Rh,Ri,Rj,Rk,Rm,Rn,Ro,Rp,Rq,Rt,Ya,Yb,Yc,Ru,Rw,Zb,Yd,Ye,Ry,Rz,Wa,Wb,Wc,Wd,We]
  rw[← hW]
  exact ih (k+1) S' (l.set k y) _ (by omega) (by omega) (by rw[sf];exact hl) e2 (by omega) fun j hj=>by rw[e4 j hj (by simp),hf j hj]
theorem Zx{p:Nat}{x:Bool}{a:Option (Nat×Nat)}{c:Option Nat}{d:AV}(g:s.heap.get p=some (BQ x (.slice a 0 c) d)){Q:Ax→Prop}{y0 y3 y4 y5:AV}
  (hq:∀y2 y4,Q ⟨.exit 0,[y0,.ptr (some (p,0)),y2,y3,y4,y5],[],s⟩):WC E none (.loop JW) Q [y0,.ptr (some (p,0)),iv ((0:Nat):Int),y3,y4,y5] [] s:=by
 have lm:=AI (P:=Tryz.prog) (t:=22) (o:=0+0+1) CG g rfl
 refine WC.loop' ?_
 simp only[JW,TB,lm,ES,Cv,AN Tryz.underlying22,Ry,show decide (((0:Nat):Int)<((0:Nat):Int))=false from rfl,Qa,Qb,Qc,Qd,Qe,Qf,Qg,Qh,Qi,Qj,Qk,Ql,Qm,Qn,true_and,and_true,Qo,Qp,Qq,Qr,Qs,Qt,Qu,Qv,Qw,Qx,Qy,Qz,Ra,Rb,Rc,Rd,Re,Rf,Rg,Rh,Ri,Rj,Rk,Rm,Rn,Ro,Rp,Rq,Rt,Ya,Yb,Yc,Ru,Rw,Zb,Yd,Ye,Ry,Rz,Wa,Wb,Wc,Wd,We]
 exact hq _ _
theorem Zy{p:Nat}{x:Bool}{a:Option (Nat×Nat)}{c:Option Nat}{d:AV}(g:s.heap.get p=some (BQ x d (.slice a 0 c))){Q:Ax→Prop}{y0 y2 y4 y5:AV}
  (hq:∀y3 y5,Q ⟨.exit 2,[y0,.ptr (some (p,0)),y2,y3,y4,y5],[],s⟩):WC E none (.loop GQ) Q [y0,.ptr (some (p,0)),y2,iv ((0:Nat):Int),y4,y5] [] s:=by
 have lm:=AI (P:=Tryz.prog) (t:=22) (o:=0+2) CG g rfl
 refine WC.loop' ?_
 simp only[GQ,TC,lm,FD,AN Tryz.underlying22,Ry,show decide (((0:Nat):Int)<((0:Nat):Int))=false from rfl,Qa,Qb,Qc,Qd,Qe,Qf,Qg,Qh,Qi,Qj,Qk,Ql,Qm,Qn,true_and,and_true,Qo,Qp,Qq,Qr,Qs,Qt,Qu,Qv,Qw,Qx,Qy,Qz,Ra,Rb,Rc,Rd,Re,Rf,Rg,Rh,Ri,Rj,Rk,Rm,Rn,Ro,Rp,Rq,Rt,Ya,Yb,Yc,Ru,Rw,Zb,Yd,Ye,Ry,Rz,Wa,Wb,Wc,Wd,We]
 exact hq _ _
theorem Z1{p:Nat}{x:Bool}{v d:AV}(g:s.heap.get p=some (BQ x v d))(hv:dL s v)(hp:CH v≠some p){Q:Ax→Prop}{y0 y3 y4 y5:AV}
  (hq:∀S y2 y4,S.next=s.next→(∀j,CH v≠some j→S.heap.get j=s.heap.get j)→Q ⟨.exit 0,[y0,.ptr (some (p,0)),y2,y3,y4,y5],[],S⟩):WC E none (.loop JW) Q [y0,.ptr (some (p,0)),iv ((0:Nat):Int),y3,y4,y5] [] s:=by
 obtain⟨a,n,c,rfl,hn,hv⟩:=hv
 rcases hv with rfl | ⟨i,l,rfl,hi,ho,hl⟩
 ·exact Zx g fun y2 y4=>hq s y2 y4 rfl fun _ _=>rfl
 ·exact Zz g (fun e=>hp (by rw[e];rfl)) hn (fun S y2 y4 h1 h2=>hq S y2 y4 h1 fun j hj=>h2 j fun e=>hj (by rw[e];rfl)) n 0 s l _ rfl (rB _) hl ho rfl fun _ _=>rfl
theorem Z2{p:Nat}{x:Bool}{v d:AV}(g:s.heap.get p=some (BQ x d v))(hv:dL s v)(hp:CH v≠some p){Q:Ax→Prop}{y0 y2 y4 y5:AV}
  (hq:∀S y3 y5,S.next=s.next→(∀j,CH v≠some j→S.heap.get j=s.heap.get j)→Q ⟨.exit 2,[y0,.ptr (some (p,0)),y2,y3,y4,y5],[],S⟩):WC E none (.loop GQ) Q [y0,.ptr (some (p,0)),y2,iv ((0:Nat):Int),y4,y5] [] s:=by
 obtain⟨a,n,c,rfl,hn,hv⟩:=hv
 rcases hv with rfl | ⟨i,l,rfl,hi,ho,hl⟩
 ·exact Zy g fun y3 y5=>hq s y3 y5 rfl fun _ _=>rfl
 ·exact Z0 g (fun e=>hp (by rw[e];rfl)) hn (fun S y3 y5 h1 h2=>hq S y3 y5 h1 fun j hj=>h2 j fun e=>hj (by rw[e];rfl)) n 0 s l _ rfl (rB _) hl ho rfl fun _ _=>rfl
theorem Im(hE:GoodN E){v:AV}(hv:ow s v)(hlt:∀j∈Bx v,j<s.next){K:AV→AE→Prop}(hK:∀s',s.next≤s'.next→(∀j,j<s.next→j ∉ Bx v→s'.heap.get j=s.heap.get j)→K (.tuple []) s'):WF E 24 [v] K s:=by
 obtain⟨x,m,d,rfl,hm,hd,hmd⟩:=hv
 have hm0:=hm
 have hd0:=hd
 obtain⟨am,nm,cm,rfl,_⟩:=hm
 obtain⟨ad,nd,cd,rfl,_⟩:=hd
 have ltm:∀j,CH (.slice am nm cm)=some j→j<s.next:=fun j hj=>hlt j ((Bi rfl).2 (.inl hj))
 have ltd:∀j,CH (.slice ad nd cd)=some j→j<s.next:=fun j hj=>hlt j ((Bi rfl).2 (.inr hj))
 refine hE.go kf (by decide) rfl ?_
 obtain⟨n1,o1,g1⟩:=Bl s (BQ x (.slice am nm cm) (.slice ad nd cd))
 simp only[qF,em,en,Xa,Xh,Xc,Qa,Qb,Qc,Qd,Qe,Qf,Qg,Qh,Qi,Qj,Qk,Ql,Qm,Qn,true_and,and_true,Qo,Qp,Qq,Qr,Qs,Qt,Qu,Qv,Qw,Qx,Qy,Qz,Ra,Rb,Rc,Rd,Re,Rf,Rg,Rh,Ri,Rj,Rk,Rm,Rn,Ro,Rp,Rq,Rt,Ya,Yb,Yc,Ru,Rw,Zb,Yd,Ye,Ry,Rz,Wa,Wb,Wc,Wd,We]
 generalize newObj s (BQ x (.slice am nm cm) (.slice ad nd cd))=s1 at *
 refine Z1 g1 (hm0.keep o1.1 fun j _ hl=>o1.2 j hl) (fun h=>by have:=ltm _ h;omega) fun S y2 y4 hS hf=>?_
 simp only[er,if_true,Qa,Qb,Qc,Qd,Qe,Qf,Qg,Qh,Qi,Qj,Qk,Ql,Qm,Qn,true_and,and_true,Qo,Qp,Qq,Qr,Qs,Qt,Qu,Qv,Qw,Qx,Qy,Qz,Ra,Rb,Rc,Rd,Re,Rf,Rg,Rh,Ri,Rj,Rk,Rm,Rn,Ro,Rp,Rq,Rt,Ya,Yb,Yc,Ru,Rw,Zb,Yd,Ye,Ry,Rz,Wa,Wb,Wc,Wd,We]
 have hfd:∀j,CH (.slice ad nd cd)=some j→S.heap.get j=s.heap.get j:=fun j hj=>by rw[hf j fun e=>hmd j e hj,o1.2 j (ltd j hj)]
 refine Z2 (s:=S) (by rw[hf s.next fun e=>by have:=ltm _ e;omega];exact g1) (hd0.keep (by omega) fun j hj _=>hfd j hj) (fun h=>by have:=ltd _ h;omega) fun S' y3 y5 hS' hf'=>?_
 simp only[if_true,Qa,Qb,Qc,Qd,Qe,Qf,Qg,Qh,Qi,Qj,Qk,Ql,Qm,Qn,true_and,and_true,Qo,Qp,Qq,Qr,Qs,Qt,Qu,Qv,Qw,Qx,Qy,Qz,Ra,Rb,Rc,Rd,Re,Rf,Rg,Rh,Ri,Rj,Rk,Rm,Rn,Ro,Rp,Rq,Rt,Ya,Yb,Yc,Ru,Rw,Zb,Yd,Ye,Ry,Rz,Wa,Wb,Wc,Wd,We]
 refine hK S' (by omega) fun j hj hjs=>?_
 rw[hf' j fun e=>hjs ((Bi rfl).2 (.inr e)),hf j fun e=>hjs ((Bi rfl).2 (.inl e)),o1.2 j hj]
end
def OU(sz:Nat)(s:AE)(i:Nat)(cs:List AV)(p:Option Nat):Prop:=∃r,s.heap.get i=some (.row r)∧JR r cs∧Dd r.mode=true∧r.sz=sz∧(r.par=none∨r.par=p)
theorem OU.keep{sz:Nat}{s s':AE}{i:Nat}{cs:List AV}{p:Option Nat}(h:OU sz s i cs p)(k:s'.heap.get i=s.heap.get i):OU sz s' i cs p:=by
 obtain⟨r,h1,h2⟩:=h
 exact⟨r,k.trans h1,h2⟩
theorem E6.own{e sz:Nat}{s:AE}{v:AV}{n:Nat}{cs:List AV}{O:List Nat}(h:E6 e sz s v n cs O):(v=.slice none 0 (some 0)∧n=0)∨∃i p,v=.slice (some (i,0)) n none∧O=i::p.toList∧OU sz s i cs p∧p≠some i:=by
  rcases h with⟨h1,h2,_⟩ | ⟨i,p,rfl,h1,h2⟩
  · exact .inl ⟨h1,h2⟩
  · rcases h1.ex with ⟨e, _⟩ | ⟨_, _, _, k4, r, k5, k6, k7, k8, k9, k10, _⟩
    · cases e
    · exact .inr ⟨i,p,rfl,h2,⟨r,k5,k6,by rw[k8];rfl,k9,.inr k10⟩,fun e=>(k4 i e).2.2 rfl⟩
theorem Sd         {sz : Nat} {P : Program} {s : AE}  {i o t n : Nat} {cs vs : List AV} {p : Option Nat} (hs : A7    P t = some n) (h : OU   sz s i cs p) (hn : vs.length = n) (ho : o + n ≤ cs.length) (hv : Au       vs = true) (h0 : vs ≠ []) :
    ∃s',AM P s t (.ptr (some (i,o))) (.agg vs)=some s'∧OU sz s' i (DO cs o vs) p∧s'.next=s.next∧∀j,j≠i→some j≠p→s'.heap.get j=s.heap.get j:=by
  obtain⟨r,h1,h2,h3,h4,h5⟩:=h
  have hrow:rowAt s i=some r:=by unfold rowAt;rw[h1]
  have hb:Nat.ble (o+vs.length) r.n=true:=Cn (by rw[h2.1];omega)
  have est:AM P s t (.ptr (some (i,o))) (.agg vs)=some (setObj (BF s i r) i (.row { r with c:=r.c.fill o vs,par:=none })):=by
    rw[Wh,hs]
    show AL (decide (vs.length=n)) (Ch s i o vs)=_
    rw[decide_eq_true hn]
    cases vs with
    | nil=>exact absurd rfl h0
    | cons v vs =>
      show(rowAt s i).bind _=_
      rw[hrow]
      show AL (Dd r.mode && Nat.ble (o+(v::vs).length) r.n && Au (v::vs)) _=_
      rw[h3,hb,hv]
      rfl
  have hun:(BF s i r).next=s.next∧∀j,some j≠p→(BF s i r).heap.get j=s.heap.get j:=by
    unfold BF
    rcases h5 with h5 | h5
    · rw[h5];exact⟨rfl,fun j _=>rfl⟩
    · rw[h5]
      cases p with
      | none=>exact⟨rfl,fun j _=>rfl⟩
      | some q =>
        simp only
        cases hbq:Nat.beq q i with
        | true=>exact⟨rfl,fun j _=>rfl⟩
        | false =>
          refine⟨rfl,fun j hj=>?_⟩
          show(CQ s q).heap.get j=_
          rw[GY,if_neg]
          intro e
          exact hj (by rw[e])
  have hsl:(DO cs o vs).length=cs.length:=EF vs cs o
  refine⟨_,est,⟨{ r with c:=r.c.fill o vs,par:=none },Ww _ _ _,⟨by show r.n=_;rw[hsl];exact h2.1,fun k u hk=>?_⟩,h3,h4,.inl rfl⟩,hun.1,fun j hj hp=>by rw[Wx _ hj];exact hun.2 j hp⟩
  show(r.c.fill o vs).get k=some u
  rw[F4 _ _ _ _ (by omega)]at hk
  rw[AW.get_fill]
  split at hk
  · rename_i hk'
    rw[if_pos hk'];exact hk
  · rename_i hk'
    rw[if_neg hk'];exact h2.2 k u hk
theorem cC(z:Int):∃y:Int,AS Tryz.prog .add 3 (iv z) (.int .i64 1)=some (iv y):=⟨_,rfl⟩
theorem VL:B7 Tryz.prog 26 (zipIdx [] [])=some (.agg [.bool false,.slice none 0 (some 0),.slice none 0 (some 0)]):=by kernel_rfl
theorem RM{sz:Nat}{s:AE}{i:Nat}{cs:List AV}{p:Option Nat}(h:OU sz s i cs p){b:Nat}(hi:i<b):AZ b s (some (i,0)) cs:=fun k u hu=>by
 obtain⟨r,h1,h2,_⟩:=h
 have hk:k<cs.length:=by
  rcases qz k cs.length with h' | h'
  ·exact h'
  ·rw[rI h']at hu;cases hu
 refine⟨i,0,rfl,hi,?_⟩
 unfold Cm rowAt
 rw[h1]
 simp only[Option.bind_some,AL,rE,show Nat.blt k r.n=true from by simp[rN,h2.1];omega,cond_true]
 exact h2.2 k u hu
def mY:Ad:=(.seq (.seq (.ops kO) (.block 2 (.loop JX))) (.seq (.ops Xv) (.seq (.ops Xw) (.block 4 (.loop JY)))))
theorem ZT:Xu=(.seq (.seq (.ops az) (.cond (.var 14) .skip (.exit 0))) (.seq (.block 1 mY) (.ops Xx))):=rfl
theorem QR.keepQ{b:Nat}{s s':AE}{v:AV}{q:Rat}(h:QR b s v q)(hn:s.next≤s'.next)(hf:∀j,j∈Bx v→s'.heap.get j=s.heap.get j):QR b s' v q:=by
 obtain⟨m,d,rfl,h2,h3,h4,h5⟩:=h
 exact⟨m,d,rfl,h2.keep hn fun j hj=>hf j ((Bi rfl).2 (.inl hj)),h3.keep hn fun j hj=>hf j ((Bi rfl).2 (.inr hj)),h4,h5⟩
section
variable{E:CR}{s:AE}
theorem UX        {ro i no : Nat} {rows : List AV} {vv : AV} (hi : i < no) (g : s.heap.get ro = some (R 30 5 false rows)) (hvv : rows[i * 5 + 3]? = some vv) {n : Nat} {cs : List AV} {O : List Nat} (hb : E6  3 1 s vv n cs O) (hcs : ∀ u ∈ cs, ∃ z, u = iv z) (hro : ro ∉ O) (hn : n ≤ 1000000000) {Q : Ax   → Prop}
    {y0 y1 y2 y3 y4 y5 y6 y7 y8 y12 y13 y14 y16:AV}
    (hq:∀S y11 y15,S.next=s.next→(∀j,j ∉ O→S.heap.get j=s.heap.get j)→Q ⟨.exit 2,[y0,y1,y2,y3,y4,y5,y6,y7,y8,.slice (some (ro,0)) no (some no),iv (i:Int),y11,y12,y13,y14,y15,y16],[],S⟩) (y15:AV):
    WC E none (.loop JX) Q [y0,y1,y2,y3,y4,y5,y6,y7,y8,.slice (some (ro,0)) no (some no),iv (i:Int),iv ((0:Nat):Int),y12,y13,y14,y15,y16] [] s:=by
  have ixo:=Ah (cap:=some no) (i:=ro) (o:=0) (n:=5) Tryz.underlying46 Bp hi
  have hvv':∀ (S:AE),S.heap.get ro=some (R 30 5 false rows)→AA Tryz.prog S 27 (.ptr (some (ro,0+i * 5+3)))=some vv:=fun S g=>AI (o:=0+i * 5+3) Ix g (by rw[rE];exact hvv)
  have hcl:=hb.len
  rw[rG]at hcl
  rcases hb.own with⟨rfl,rfl⟩ | ⟨i1,p,rfl,rfl,ho,hpi⟩
  · have lv:=hvv' s g
    refine WC.loop' ?_
    simp only[JX,TE,ixo,ET,lv,AN Tryz.underlying27,Ry,show decide (((0:Nat):Int)<((0:Nat):Int))=false from rfl,Qa,Qb,Qc,Qd,Qe,Qf,Qg,Qh,Qi,Qj,Qk,Ql,Qm,Qn,true_and,and_true,Qo,Qp,Qq,Qr,Qs,Qt,Qu,Qv,Qw,Qx,Qy,Qz,Ra,Rb,Rc,Rd,Re,Rf,Rg,Rh,Ri,Rj,Rk,Rm,Rn,Ro,Rp,Rq,Rt,Ya,Yb,Yc,Ru,Rw,Zb,Yd,Ye,Ry,Rz,Wa,Wb,Wc,Wd,We]
    exact hq s _ _ rfl fun _ _=>rfl
  · have hr1 : ro ≠ i1 := fun e => hro (by rw [e]; exact rH)
    have hrp:some ro≠p:=fun e=>hro (by rw[← e];simp)
    have key:∀ (r k:Nat) (S:AE) (cs:List AV) (x15:AV),n - k=r→k≤n→cs.length=n→(∀u∈cs,∃z,u=iv z)→Cu S i1 cs p→S.next=s.next→(∀j,j ∉ i1::p.toList→S.heap.get j=s.heap.get j) →
        WC E none (.loop JX) Q [y0,y1,y2,y3,y4,y5,y6,y7,y8,.slice (some (ro,0)) no (some no),iv (i:Int),iv (k:Int),y12,y13,y14,x15,y16] [] S:=by
      intro r
      induction r with
      | zero =>
        intro k S cs x15 hk hle hcl hcs ho hS hf
        have lv:=hvv' S ((hf ro hro).trans g)
        have dd:decide ((k:Int)<(n:Int))=false:=decide_eq_false (by omega)
        refine WC.loop' ?_
        simp only[JX,TE,ixo,ET,lv,AN Tryz.underlying27,Ry,dd,Qa,Qb,Qc,Qd,Qe,Qf,Qg,Qh,Qi,Qj,Qk,Ql,Qm,Qn,true_and,and_true,Qo,Qp,Qq,Qr,Qs,Qt,Qu,Qv,Qw,Qx,Qy,Qz,Ra,Rb,Rc,Rd,Re,Rf,Rg,Rh,Ri,Rj,Rk,Rm,Rn,Ro,Rp,Rq,Rt,Ya,Yb,Yc,Ru,Rw,Zb,Yd,Ye,Ry,Rz,Wa,Wb,Wc,Wd,We]
        exact hq S _ _ hS hf
      | succ r ih =>
        intro k S cs x15 hk hle hcl hcs ho hS hf
        have lv:=hvv' S ((hf ro hro).trans g)
        have hlt:k<n:=by omega
        have dd:decide ((k:Int)<(n:Int))=true:=decide_eq_true (by omega)
        have e17:=BU Tryz.prog 3 (k:Int) 1 ⟨by omega,by omega⟩
        have e17':((k:Int)+1)=((k+1:Nat):Int):=by omega
        have ix:=Ah (cap:=none) (i:=i1) (o:=0) Tryz.underlying27 Z9 hlt
        have hx:cs[k]? = some (cs[k]'(by omega)):=qy (by omega)
        obtain⟨z,hz⟩:=hcs (cs[k]'(by omega)) (List.getElem_mem _)
        rw[hz]at hx
        have ld:AA Tryz.prog S 3 (.ptr (some (i1,0+k * 1)))=some (iv z):=FU pC ho (by rw[rG,rE];exact hx)
        obtain⟨y,hy⟩:=cC z
        obtain⟨S',e1,e2,e3,e4⟩:=Df (P:=Tryz.prog) (t:=3) (o:=0+k * 1) (v:=iv y) Z9 ho (by omega) rfl
        refine WC.loop' ?_
        generalize hW:WC E none (Ad.loop JX) Q=WW
        simp only[JX,TE,gy,ixo,ET,lv,AN Tryz.underlying27,Ry,dd,ix,ld,hy,e1,hJ,e17,e17',Xy,Za,Qa,Qb,Qc,Qd,Qe,Qf,Qg,Qh,Qi,Qj,Qk,Ql,Qm,Qn,true_and,and_true,Qo,Qp,Qq,Qr,Qs,Qt,Qu,Qv,Qw,Qx,Qy,Qz,Ra,Rb,Rc,Rd,Re,Rf,Rg,Rh,Ri,Rj,Rk,Rm,Rn,Ro,Rp,Rq,Rt,Ya,Yb,Yc,Ru,Rw,Zb,Yd,Ye,Ry,Rz,Wa,Wb,Wc,Wd,We]
        rw[← hW]
        refine ih (k+1) S' (cs.set (0+k * 1) (iv y)) _ (by omega) (by omega) (by rw[sf];exact hcl) (fun u hu=>?_) e2 (by omega) fun j hj=>?_
        · rcases List.mem_or_eq_of_mem_set hu with h | h
          · exact hcs u h
          · exact⟨y,h⟩
        · rw[e4 j (fun e=>hj (by rw[e];exact rH)) (fun e=>hj (by rw[← e];simp)),hf j hj]
    exact key n 0 s cs _ rfl (rB _) hcl hcs ho rfl fun _ _=>rfl
theorem RQ         (hE : GoodN E) {ro i no b kk l0 : Nat} {rows : List AV} {cv : AV} (hi : i < no) (g : s.heap.get ro = some (R 30 5 false rows)) (hcv : rows[i * 5 + 4]? = some cv) {D : List CD}  {O : List Nat} (hb : E6  26 3 s cv D.length (CM    D) O) (hro : ro ∉ O) (hn : D.length ≤ 1000000000) (hkk : kk ≤ 1000000000)
    (hD:∀t∈D,QR b s t.2.2 t.2.1∧QH t.2.1 kk) (hdj:D.Pairwise fun t u=>UB t.2.2 u.2.2) (hO:∀j∈O,l0≤j) (hDl:∀t∈D,∀j∈Bx t.2.2,j<l0) (hrol:l0≤ro) (hron:ro<s.next) {Q:Ax→Prop}
    {y0 y1 y2 y3 y4 y5 y6 y7 y8 y11 y13 y14 y15:AV}
    (hq:∀S y12 y16,s.next≤S.next→(∀j,j<s.next→j ∉ O→(∀t∈D,j ∉ Bx t.2.2)→S.heap.get j=s.heap.get j)→Q ⟨.exit 4,[y0,y1,y2,y3,y4,y5,y6,y7,y8,.slice (some (ro,0)) no (some no),iv (i:Int),y11,y12,y13,y14,y15,y16],[],S⟩) (y16:AV):
    WC E none (.loop JY) Q [y0,y1,y2,y3,y4,y5,y6,y7,y8,.slice (some (ro,0)) no (some no),iv (i:Int),y11,iv ((0:Nat):Int),y13,y14,y15,y16] [] s:=by
  have ixo:=Ah (cap:=some no) (i:=ro) (o:=0) (n:=5) Tryz.underlying46 Bp hi
  have hvv':∀ (S:AE),S.heap.get ro=some (R 30 5 false rows)→AA Tryz.prog S 28 (.ptr (some (ro,0+i * 5+4)))=some cv:=fun S g=>AI (o:=0+i * 5+4) GG g (by rw[rE];exact hcv)
  have hcl:=hb.len
  have hl3:∀t∈D,t.2.2.cells.length=3:=fun t ht=>by
    obtain⟨_,_,_,_,_,_,_,e⟩:=(hD t ht).1.shape
    rw[e];rfl
  obtain⟨p1,p2⟩:=Ep D hl3
  have hrsl:∀t∈D,ro ∉ Bx t.2.2:=fun t ht h=>by have:=hDl t ht ro h;omega
  rcases hb.own with⟨rfl,h0⟩ | ⟨i2,p,rfl,rfl,ho,hpi⟩
  · have lv:=hvv' s g
    refine WC.loop' ?_
    simp only[JY,TF,ixo,DA,lv,AN Tryz.underlying28,Ry,show decide (((0:Nat):Int)<((0:Nat):Int))=false from rfl,Qa,Qb,Qc,Qd,Qe,Qf,Qg,Qh,Qi,Qj,Qk,Ql,Qm,Qn,true_and,and_true,Qo,Qp,Qq,Qr,Qs,Qt,Qu,Qv,Qw,Qx,Qy,Qz,Ra,Rb,Rc,Rd,Re,Rf,Rg,Rh,Ri,Rj,Rk,Rm,Rn,Ro,Rp,Rq,Rt,Ya,Yb,Yc,Ru,Rw,Zb,Yd,Ye,Ry,Rz,Wa,Wb,Wc,Wd,We]
    exact hq s _ _ (qw _) fun _ _ _ _=>rfl
  · have hi2 : i2 < s.next := hb.lt i2 rH
    have hr1:ro≠i2:=fun e=>hro (by rw[e];exact rH)
    have hrp:some ro≠p:=fun e=>hro (by rw[← e];simp)
    have hi2l:l0≤i2:=hO i2 rH
    have key:∀ (r k:Nat) (S:AE) (cs:List AV) (x16:AV),D.length - k=r→k≤D.length→cs.length=D.length * 3→(∀k',k≤k'→k'<D.length→(cs.drop (k' * 3)).take 3=((CM D).drop (k' * 3)).take 3)→OU 3 S i2 cs p→s.next≤S.next→(∀j,j<s.next→j ∉ i2::p.toList→(∀t∈D,j ∉ Bx t.2.2)→S.heap.get j=s.heap.get j)→(∀k' t,k≤k'→D[k']? = some t→QR b S t.2.2 t.2.1) →
        WC E none (.loop JY) Q [y0,y1,y2,y3,y4,y5,y6,y7,y8,.slice (some (ro,0)) no (some no),iv (i:Int),y11,iv (k:Int),y13,y14,y15,x16] [] S:=by
      intro r
      induction r with
      | zero =>
        intro k S cs x16 hk hle hcl hcs ho hS hf hqr
        have lv:=hvv' S ((hf ro hron hro hrsl).trans g)
        have dd:decide ((k:Int)<(D.length:Int))=false:=decide_eq_false (by omega)
        refine WC.loop' ?_
        simp only[JY,TF,ixo,DA,lv,AN Tryz.underlying28,Ry,dd,Qa,Qb,Qc,Qd,Qe,Qf,Qg,Qh,Qi,Qj,Qk,Ql,Qm,Qn,true_and,and_true,Qo,Qp,Qq,Qr,Qs,Qt,Qu,Qv,Qw,Qx,Qy,Qz,Ra,Rb,Rc,Rd,Re,Rf,Rg,Rh,Ri,Rj,Rk,Rm,Rn,Ro,Rp,Rq,Rt,Ya,Yb,Yc,Ru,Rw,Zb,Yd,Ye,Ry,Rz,Wa,Wb,Wc,Wd,We]
        exact hq S _ _ hS hf
      | succ r ih =>
        intro k S cs x16 hk hle hcl hcs ho hS hf hqr
        have gS:=(hf ro hron hro hrsl).trans g
        have lv:=hvv' S gS
        have hlt:k<D.length:=by omega
        have dd:decide ((k:Int)<(D.length:Int))=true:=decide_eq_true (by omega)
        have e17:=BU Tryz.prog 3 (k:Int) 1 ⟨by omega,by omega⟩
        have e17':((k:Int)+1)=((k+1:Nat):Int):=by omega
        have ix:=Ah (cap:=none) (i:=i2) (o:=0) (n:=3) Tryz.underlying28 Ar hlt
        have hDk:D[k]? = some D[k]:=qy hlt
        have hmem:D[k]∈D:=List.getElem_mem hlt
        generalize D[k]=t at hDk hmem
        have hqk:=hqr k t (qw _) hDk
        obtain⟨xx,aa,nn,kk',bb,mm,ee,et⟩:=hqk.shape
        obtain⟨i0,o0,e0,_,ld⟩:=IT (n:=D.length) (i:=k) (RM ho (b:=S.next) (by omega)) hcl hlt
        injection e0 with e0
        injection e0 with e0 e0'
        subst e0;subst e0'
        have hpart:(cs.drop (k * 3)).take 3=t.2.2.cells:=by rw[hcs k (qw _) hlt,p2 k t hDk]
        have hc3:t.2.2.cells=[.bool xx,.slice aa nn kk',.slice bb mm ee]:=by rw[et];rfl
        rw[hpart,hc3]at ld
        have hsq:ow S (.agg [.bool xx,.slice aa nn kk',.slice bb mm ee]):=by rw[← et];exact hqk.spQ (hD t hmem).2 hkk
        have hsl:Bx (.agg [.bool xx,.slice aa nn kk',.slice bb mm ee])=Bx t.2.2:=by rw[et]
        refine WC.loop' ?_
        generalize hW:WC E none (Ad.loop JY) Q=WW
        simp only[JY,TF,hY,ixo,DA,lv,AN Tryz.underlying28,Ry,dd,ix,ld,Qa,Qb,Qc,Qd,Qe,Qf,Qg,Qh,Qi,Qj,Qk,Ql,Qm,Qn,true_and,and_true,Qo,Qp,Qq,Qr,Qs,Qt,Qu,Qv,Qw,Qx,Qy,Qz,Ra,Rb,Rc,Rd,Re,Rf,Rg,Rh,Ri,Rj,Rk,Rm,Rn,Ro,Rp,Rq,Rt,Ya,Yb,Yc,Ru,Rw,Zb,Yd,Ye,Ry,Rz,Wa,Wb,Wc,Wd,We]
        refine Im hE hsq (fun j hj=>by rw[hsl]at hj;exact(hqk.slots hj).2) fun S' hn' hf'=>?_
        rw[hsl]at hf'
        have hi2S:i2 ∉ Bx t.2.2:=fun h=>by have:=hDl t hmem i2 h;omega
        have gS':=(hf' ro (by omega) (hrsl t hmem)).trans gS
        have lv':=hvv' S' gS'
        have ho':=ho.keep (hf' i2 (by omega) hi2S)
        obtain⟨S2,e1,e2,e3,e4⟩:=Sd (P:=Tryz.prog) (t:=26) (o:=0+k * 3) (vs:=[.bool false,.slice none 0 (some 0),.slice none 0 (some 0)]) Ar ho' rfl (by omega) rfl (by simp)
        simp only[hZ,ixo,DA,lv',VL,ix,e1,iA,e17,e17',Xy,Za,Qa,Qb,Qc,Qd,Qe,Qf,Qg,Qh,Qi,Qj,Qk,Ql,Qm,Qn,true_and,and_true,Qo,Qp,Qq,Qr,Qs,Qt,Qu,Qv,Qw,Qx,Qy,Qz,Ra,Rb,Rc,Rd,Re,Rf,Rg,Rh,Ri,Rj,Rk,Rm,Rn,Ro,Rp,Rq,Rt,Ya,Yb,Yc,Ru,Rw,Zb,Yd,Ye,Ry,Rz,Wa,Wb,Wc,Wd,We]
        rw[← hW]
        refine ih (k+1) S2 _ _ (by omega) (by omega) (by rw[EF];exact hcl) (fun k' hk1 hk2=>?_) e2 (by omega) (fun j hj hjO hjD=>?_) fun k' t' hk1 hk2=>?_
        · rw [← hcs k' (by omega) hk2]
          refine List.ext_getElem? fun m=>?_
          rw[sq,sq]
          split
          · rw[sJ,sJ,F4 _ _ _ _ (by show 0+k * 3+3≤_;omega),if_neg (by show ¬ (_∧_<0+k * 3+3);omega)]
          · rfl
        · rw[e4 j (fun e=>hjO (by rw[e];exact rH)) (fun e=>hjO (by rw[← e];simp)),hf' j (by omega) (hjD t hmem),hf j hj hjO hjD]
        · have hq' := hqr k' t' (by omega) hk2
          have hmem':=rQ hk2
          have hd:UB t.2.2 t'.2.2:=by
            rw[List.pairwise_iff_getElem]at hdj
            have hlt':k'<D.length:=by
              rcases qz k' D.length with h | h
              · exact h
              · rw[rI h]at hk2;cases hk2
            have:=hdj k k' hlt hlt' (by omega)
            rw[qy hlt]at hDk
            rw[qy hlt']at hk2
            injection hDk with hDk
            injection hk2 with hk2
            rw[hDk,hk2]at this
            exact this
          refine hq'.keepQ (by omega) fun j hj=>?_
          have hjl:=hDl t' hmem' j hj
          have hjs:=hq'.slots hj
          rw[e4 j (by omega) (fun e=>by have:=hO j (by rw[← e];simp);omega),hf' j hjs.2 (fun h=>hd j h hj)]
    exact key D.length 0 s (CM D) _ rfl (rB _) hcl (fun _ _ _=>rfl) ho (qw _) (fun _ _ _ _=>rfl) fun k' t _ h=>(hD t (rQ h)).1
end
structure OV where
 b:Nat
 se:AE
 c:List AV
def E7(r:OV):Prop:=∃C L kk,LR r.b r.se (.agg r.c) C L∧QH C kk∧(∀p∈L,QH p.2 kk)∧kk≤1000000000∧L.length≤1000000000
section
variable{E:CR}{s:AE}
theorem Un(hE:GoodN E){r:OV}(hr:E7 r){ro i no:Nat}{rows:List AV}(hi:i<no)(hrow:(rows.drop (i * 5)).take 5=r.c)(hS:r.se.next≤s.next)(hf:∀j,r.b≤j→j<r.se.next→s.heap.get j=r.se.heap.get j)(hro:r.se.next≤ro)(hron:ro<s.next)(g:s.heap.get ro=some (R 30 5 false rows))(hrl:rows.length=no * 5){Q:Ax→Prop}
  {y0 y1 y2 y3 y4 y5 y6 y7 y8 y11 y12 y13 y14 y15 y16:AV}
  (hq:∀S y11 y12 y15 y16,s.next≤S.next→(∀j,j<s.next→(j<r.b∨r.se.next≤j)→S.heap.get j=s.heap.get j)→Q ⟨.normal,[y0,y1,y2,y3,y4,y5,y6,y7,y8,.slice (some (ro,0)) no (some no),iv (i:Int),y11,y12,y13,y14,y15,y16],[],S⟩):
  Qa E none mY Q [y0,y1,y2,y3,y4,y5,y6,y7,y8,.slice (some (ro,0)) no (some no),iv (i:Int),y11,y12,y13,y14,y15,y16] [] s:=by
 obtain⟨C,L,kk,hL,hC,hLq,hkk,hLl⟩:=hr
 have hL0:=hL
 obtain⟨x,a,n,ca,d,m,cd,vv,cv,D,O1,O2,hc,hq0,hLD,hD,hdj,b1,b2,hO1,hO2,l0,hl1,hl2,hl3,hl4⟩:=hL
 injection hc with hc
 rw[hc]at hrow
 have hget:∀k,k<5→rows[i * 5+k]? = [AV.bool x,.slice a n ca,.slice d m cd,vv,cv][k]? := fun k hk=>by
  rw[← hrow,sS hk,sJ]
 have hDl:D.length≤1000000000:=by have:=congrArg List.length hLD;rw[sO]at this;omega
 have hslC:∀j∈Bx (.agg [.bool x,.slice a n ca,.slice d m cd]),r.b≤j∧j<r.se.next:=fun j hj=>hq0.slots hj
 have hslD:∀t∈D,∀j∈Bx t.2.2,r.b≤j∧j<r.se.next:=fun t ht j hj=>(hD t ht).1.slots hj
 have hO1':∀j∈O1,r.b≤j∧j<r.se.next:=fun j hj=>⟨(hO1 j hj).1,b1.lt j hj⟩
 have hO2':∀j∈O2,r.b≤j∧j<r.se.next:=fun j hj=>⟨hO2 j hj,b2.lt j hj⟩
 have ixo:=Ah (cap:=some no) (i:=ro) (o:=0) (n:=5) Tryz.underlying46 Bp hi
 unfold mY
 simp only[kO,Qa,Qb,Qc,Qd,Qe,Qf,Qg,Qh,Qi,Qj,Qk,Ql,Qm,Qn,true_and,and_true,Qo,Qp,Qq,Qr,Qs,Qt,Qu,Qv,Qw,Qx,Qy,Qz,Ra,Rb,Rc,Rd,Re,Rf,Rg,Rh,Ri,Rj,Rk,Rm,Rn,Ro,Rp,Rq,Rt,Ya,Yb,Yc,Ru,Rw,Zb,Yd,Ye,Ry,Rz,Wa,Wb,Wc,Wd,We]
 refine UX (vv:=vv) hi g (hget 3 (by omega)) (b1.frame hS fun j hj=>hf j (hO1' j hj).1 (hO1' j hj).2) (fun u hu=>?_) (fun h=>by have:=hO1' ro h;omega) hDl (fun S y11' y15' hn1 hf1=>?_) _
 ·unfold HO at hu
  obtain⟨t,_,rfl⟩:=List.mem_map.1 hu
  exact⟨_,rfl⟩
 have g1:S.heap.get ro=some (R 30 5 false rows):=(hf1 ro fun h=>by have:=hO1' ro h;omega).trans g
 have lC:AA Tryz.prog S 26 (.ptr (some (ro,0+i * 5+0)))=some (.agg [.bool x,.slice a n ca,.slice d m cd]):=by
  have hle:(i+1) * 5≤no * 5:=rF _ hi
  have:=Ag (P:=Tryz.prog) (s:=S) (t:=26) (i:=ro) (o:=i * 5) (n:=3) BH Ar g1 (by omega)
  rw[rE,rO,this]
  have e3:(rows.drop (i * 5)).take 3=((rows.drop (i * 5)).take 5).take 3:=by rw[List.take_take];rfl
  rw[e3,hrow];rfl
 have hC1:QR r.b S (.agg [.bool x,.slice a n ca,.slice d m cd]) C:=hq0.keepQ (by omega) fun j hj=>by
  rw[hf1 j fun h=>by have:=hl1 j h;have:=hl3 j hj;omega,hf j (hslC j hj).1 (hslC j hj).2]
 simp only[Xv,ixo,Hg,lC,if_true,Qa,Qb,Qc,Qd,Qe,Qf,Qg,Qh,Qi,Qj,Qk,Ql,Qm,Qn,true_and,and_true,Qo,Qp,Qq,Qr,Qs,Qt,Qu,Qv,Qw,Qx,Qy,Qz,Ra,Rb,Rc,Rd,Re,Rf,Rg,Rh,Ri,Rj,Rk,Rm,Rn,Ro,Rp,Rq,Rt,Ya,Yb,Yc,Ru,Rw,Zb,Yd,Ye,Ry,Rz,Wa,Wb,Wc,Wd,We]
 refine Im hE (hC1.spQ hC hkk) (fun j hj=>(hC1.slots hj).2) fun S2 hn2 hf2=>?_
 simp only[Xw,Qa,Qb,Qc,Qd,Qe,Qf,Qg,Qh,Qi,Qj,Qk,Ql,Qm,Qn,true_and,and_true,Qo,Qp,Qq,Qr,Qs,Qt,Qu,Qv,Qw,Qx,Qy,Qz,Ra,Rb,Rc,Rd,Re,Rf,Rg,Rh,Ri,Rj,Rk,Rm,Rn,Ro,Rp,Rq,Rt,Ya,Yb,Yc,Ru,Rw,Zb,Yd,Ye,Ry,Rz,Wa,Wb,Wc,Wd,We]
 have g2:S2.heap.get ro=some (R 30 5 false rows):=(hf2 ro (by omega) fun h=>by have:=hslC ro h;omega).trans g1
 have hb2:E6 26 3 S2 cv D.length (CM D) O2:=b2.frame (by omega) fun j hj=>by
  have:=hO2' j hj
  rw[hf2 j (by omega) (fun h=>by have:=hl2 j hj;have:=hl3 j h;omega),hf1 j (fun h=>(hO1 j h).2 hj),hf j this.1 this.2]
 have hD2:∀t∈D,QR r.b S2 t.2.2 t.2.1∧QH t.2.1 kk:=fun t ht=>by
  refine⟨(hD t ht).1.keepQ (by omega) fun j hj=>?_,hLq (t.1,t.2.1) (by rw[hLD];exact List.mem_map.2 ⟨t,ht,rfl⟩)⟩
  have h1:=hslD t ht j hj
  rw[hf2 j (by omega) (fun h=>(hD t ht).2.2 j h hj),hf1 j (fun h=>by have:=hl1 j h;have:=hl4 t ht j hj;omega),hf j h1.1 h1.2]
 refine RQ hE (b:=r.b) (kk:=kk) (l0:=min l0 r.se.next) (cv:=cv) hi g2 (hget 4 (by omega)) hb2 (fun h=>by have:=hO2' ro h;omega) hDl hkk hD2 hdj (fun j hj=>by have:=hl2 j hj;omega) (fun t ht j hj=>by have:=hl4 t ht j hj;have:=hslD t ht j hj;omega) (by omega) (by omega) (fun S3 y12' y16' hn3 hf3=>?_) _
 simp only[if_true,Qa,Qb,Qc,Qd,Qe,Qf,Qg,Qh,Qi,Qj,Qk,Ql,Qm,Qn,true_and,and_true,Qo,Qp,Qq,Qr,Qs,Qt,Qu,Qv,Qw,Qx,Qy,Qz,Ra,Rb,Rc,Rd,Re,Rf,Rg,Rh,Ri,Rj,Rk,Rm,Rn,Ro,Rp,Rq,Rt,Ya,Yb,Yc,Ru,Rw,Zb,Yd,Ye,Ry,Rz,Wa,Wb,Wc,Wd,We]
 refine hq S3 _ _ _ _ (by omega) fun j hj hjb=>?_
 rw[hf3 j (by omega) (fun h=>by have:=hO2' j h;omega) (fun t ht h=>by have:=hslD t ht j h;omega),hf2 j (by omega) (fun h=>by have:=hslC j h;omega),hf1 j fun h=>by have:=hO1' j h;omega]
theorem SN         (hE : GoodN E) {Rs : List OV}   (hok : ∀ r ∈ Rs, E7    r) (hlen : ∀ r ∈ Rs, r.c.length = 5) (hch : Rs.Pairwise fun r r' => r.se.next ≤ r'.b) {base ro : Nat} (hb : ∀ r ∈ Rs, base ≤ r.b ∧ r.se.next ≤ ro) (hbr : base ≤ ro) {s0 : AE}  (h0n : ro < s0.next) (g0 : s0.heap.get ro = some (R 30 5 false (Rs.map (·.c)).flatten)) (hRl : Rs.length ≤ 1000000) {Q : Ax   → Prop}
    {y0 y1 y2 y3 y4 y5 y6 y7 y8 y13:AV}
    (hq:∀S y10 y11 y12 y14 y15 y16,s0.next≤S.next→(∀j,j<base→S.heap.get j=s0.heap.get j)→Q ⟨.exit 0,[y0,y1,y2,y3,y4,y5,y6,y7,y8,.slice (some (ro,0)) Rs.length (some Rs.length),y10,y11,y12,y13,y14,y15,y16],[],S⟩):
    ∀ (rest:List OV) (i:Nat) (S:AE) (y11 y12 y14 y15 y16:AV),Rs.drop i=rest→i≤Rs.length→s0.next≤S.next→(∀j,j<base→S.heap.get j=s0.heap.get j)→S.heap.get ro=s0.heap.get ro→(∀r∈rest,r.se.next≤S.next∧∀j,r.b≤j→j<r.se.next→S.heap.get j=r.se.heap.get j) →
      WC E none (.loop Xu) Q [y0,y1,y2,y3,y4,y5,y6,y7,y8,.slice (some (ro,0)) Rs.length (some Rs.length),iv (i:Int),y11,y12,y13,y14,y15,y16] [] S:=by
  rw[ZT]
  have hflat:∀ (l:List OV),(∀r∈l,r.c.length=5)→((l.map (·.c)).flatten).length=l.length * 5∧∀ (k:Nat) (r:OV),l[k]? = some r→(((l.map (·.c)).flatten).drop (k * 5)).take 5=r.c:=by
    intro l
    induction l with
    | nil=>intro _;exact⟨rfl,fun k r h=>by cases h⟩
    | cons u l ih =>
      intro hl
      obtain⟨h1,h2⟩:=ih fun r hr=>hl r (rP _ hr)
      have hu:=hl u rH
      have e:((u::l).map (·.c)).flatten=u.c++(l.map (·.c)).flatten:=by simp
      rw[e]
      refine⟨by rw[rL,h1,hu,rn];omega,fun k r hk=>?_⟩
      cases k with
      | zero =>
        cases hk
        rw[sN,sM,tR hu]
      | succ k =>
        rw[show(k+1) * 5=u.c.length+k * 5 by rw[hu];omega,List.drop_append,rl (by omega),si,Nat.add_sub_cancel_left]
        exact h2 k r hk
  obtain⟨hfl,hpt⟩:=hflat Rs hlen
  intro rest
  induction rest with
  | nil =>
    intro i S y11 y12 y14 y15 y16 hd hi hn hfb hfr _
    have e:i=Rs.length:=by
      have:=congrArg List.length hd
      simp at this
      omega
    subst e
    have dd:decide ((Rs.length:Int)<(Rs.length:Int))=false:=decide_eq_false (by omega)
    refine WC.loop' ?_
    simp only[az,AN Tryz.underlying46,Ry,dd,Qa,Qb,Qc,Qd,Qe,Qf,Qg,Qh,Qi,Qj,Qk,Ql,Qm,Qn,true_and,and_true,Qo,Qp,Qq,Qr,Qs,Qt,Qu,Qv,Qw,Qx,Qy,Qz,Ra,Rb,Rc,Rd,Re,Rf,Rg,Rh,Ri,Rj,Rk,Rm,Rn,Ro,Rp,Rq,Rt,Ya,Yb,Yc,Ru,Rw,Zb,Yd,Ye,Ry,Rz,Wa,Wb,Wc,Wd,We]
    exact hq S _ _ _ _ _ _ hn hfb
  | cons r rest ih =>
    intro i S y11 y12 y14 y15 y16 hd hi hn hfb hfr hres
    have hlt:i<Rs.length:=by
      rcases qz i Rs.length with h' | h'
      · exact h'
      · rw[rl h']at hd;cases hd
    have hl:Rs[i]? = some r:=by
      have:=congrArg (fun l=>l[0]?) hd
      simpa using this
    have hd':Rs.drop (i+1)=rest:=by
      have:=congrArg (List.drop 1) hd
      simpa[sR]using this
    have hmem:=rQ hl
    have dd:decide ((i:Int)<(Rs.length:Int))=true:=decide_eq_true (by omega)
    have e17:=BU Tryz.prog 3 (i:Int) 1 ⟨by omega,by omega⟩
    have e17':((i:Int)+1)=((i+1:Nat):Int):=by omega
    obtain⟨hrn,hrf⟩:=hres r rH
    obtain⟨hb1,hb2⟩:=hb r hmem
    have hpw:∀r'∈rest,r.se.next≤r'.b:=by
      have:(Rs.drop i).Pairwise fun r r'=>r.se.next≤r'.b:=hch.sublist (List.drop_sublist _ _)
      rw[hd]at this
      exact(List.pairwise_cons.1 this).1
    refine WC.loop' ?_
    generalize hW:WC E none (Ad.loop _) Q=WW
    simp only[az,AN Tryz.underlying46,Ry,dd,Qa,Qb,Qc,Qd,Qe,Qf,Qg,Qh,Qi,Qj,Qk,Ql,Qm,Qn,true_and,and_true,Qo,Qp,Qq,Qr,Qs,Qt,Qu,Qv,Qw,Qx,Qy,Qz,Ra,Rb,Rc,Rd,Re,Rf,Rg,Rh,Ri,Rj,Rk,Rm,Rn,Ro,Rp,Rq,Rt,Ya,Yb,Yc,Ru,Rw,Zb,Yd,Ye,Ry,Rz,Wa,Wb,Wc,Wd,We]
    refine Un hE (hok r hmem) hlt (hpt i r hl) hrn hrf hb2 (by omega) (hfr.trans g0) hfl fun S' y11' y12' y15' y16' hn' hf'=>?_
    simp only[Xx,e17,e17',Qa,Qb,Qc,Qd,Qe,Qf,Qg,Qh,Qi,Qj,Qk,Ql,Qm,Qn,true_and,and_true,Qo,Qp,Qq,Qr,Qs,Qt,Qu,Qv,Qw,Qx,Qy,Qz,Ra,Rb,Rc,Rd,Re,Rf,Rg,Rh,Ri,Rj,Rk,Rm,Rn,Ro,Rp,Rq,Rt,Ya,Yb,Yc,Ru,Rw,Zb,Yd,Ye,Ry,Rz,Wa,Wb,Wc,Wd,We]
    rw[← hW]
    refine ih (i+1) S' _ _ _ _ _ hd' hlt (by omega) (fun j hj=>?_) ?_ fun r' hr'=>⟨?_,fun j h1 h2=>?_⟩
    · rw[hf' j (by omega) (.inl (by omega)),hfb j hj]
    · rw[hf' ro (by omega) (.inr hb2),hfr]
    · have:=(hres r' (rP _ hr')).1;omega
    · obtain⟨q1,q2⟩:=hres r' (rP _ hr')
      rw[hf' j (by omega) (.inr (by have:=hpw r' hr';omega)),q2 j h1 h2]
end
end
end Go.Proofs.YtjnkfbpadpmakaaGreatDoor.Am
set_option linter.unusedVariables false
set_option linter.unusedSimpArgs false
set_option maxRecDepth 16000
set_option maxHeartbeats 2000000
namespace Go.Proofs.YtjnkfbpadpmakaaGreatDoor.Am
open Go Go.Proofs
noncomputable section
theorem Zo(x0:Bool)(a0 b0 av0 ac0:Option (Nat×Nat))(n0 m0 nv0 nc0:Nat)(c0 d0 cv0 cc0:Option Nat):Af Tryz.prog 46 1 (zipIdx [0] [.agg [.bool x0,.slice a0 n0 c0,.slice b0 m0 d0,.slice av0 nv0 cv0,.slice ac0 nc0 cc0]])=some (R 30 5 false [.bool x0,.slice a0 n0 c0,.slice b0 m0 d0,.slice av0 nv0 cv0,.slice ac0 nc0 cc0]):=by kernel_rfl
theorem Zq(x0:Bool)(a0 b0 av0 ac0:Option (Nat×Nat))(n0 m0 nv0 nc0:Nat)(c0 d0 cv0 cc0:Option Nat)(x1:Bool)(a1 b1 av1 ac1:Option (Nat×Nat))(n1 m1 nv1 nc1:Nat)(c1 d1 cv1 cc1:Option Nat)(x2:Bool)(a2 b2 av2 ac2:Option (Nat×Nat))(n2 m2 nv2 nc2:Nat)(c2 d2 cv2 cc2:Option Nat)(x3:Bool)(a3 b3 av3 ac3:Option (Nat×Nat))(n3 m3 nv3 nc3:Nat)(c3 d3 cv3 cc3:Option Nat)(x4:Bool)(a4 b4 av4 ac4:Option (Nat×Nat))(n4 m4 nv4 nc4:Nat)(c4 d4 cv4 cc4:Option Nat)(x5:Bool)(a5 b5 av5 ac5:Option (Nat×Nat))(n5 m5 nv5 nc5:Nat)(c5 d5 cv5 cc5:Option Nat)(x6:Bool)(a6 b6 av6 ac6:Option (Nat×Nat))(n6 m6 nv6 nc6:Nat)(c6 d6 cv6 cc6:Option Nat)(x7:Bool)(a7 b7 av7 ac7:Option (Nat×Nat))(n7 m7 nv7 nc7:Nat)(c7 d7 cv7 cc7:Option Nat)(x8:Bool)(a8 b8 av8 ac8:Option (Nat×Nat))(n8 m8 nv8 nc8:Nat)(c8 d8 cv8 cc8:Option Nat):
  Af Tryz.prog 46 9 (zipIdx [0,1,2,3,4,5,6,7,8] [.agg [.bool x0,.slice a0 n0 c0,.slice b0 m0 d0,.slice av0 nv0 cv0,.slice ac0 nc0 cc0],.agg [.bool x1,.slice a1 n1 c1,.slice b1 m1 d1,.slice av1 nv1 cv1,.slice ac1 nc1 cc1],.agg [.bool x2,.slice a2 n2 c2,.slice b2 m2 d2,.slice av2 nv2 cv2,.slice ac2 nc2 cc2],.agg [.bool x3,.slice a3 n3 c3,.slice b3 m3 d3,.slice av3 nv3 cv3,.slice ac3 nc3 cc3],.agg [.bool x4,.slice a4 n4 c4,.slice b4 m4 d4,.slice av4 nv4 cv4,.slice ac4 nc4 cc4],.agg [.bool x5,.slice a5 n5 c5,.slice b5 m5 d5,.slice av5 nv5 cv5,.slice ac5 nc5 cc5],.agg [.bool x6,.slice a6 n6 c6,.slice b6 m6 d6,.slice av6 nv6 cv6,.slice ac6 nc6 cc6],.agg [.bool x7,.slice a7 n7 c7,.slice b7 m7 d7,.slice av7 nv7 cv7,.slice ac7 nc7 cc7],.agg [.bool x8,.slice a8 n8 c8,.slice b8 m8 d8,.slice av8 nv8 cv8,.slice ac8 nc8 cc8]]) =
   some (R 30 5 false [.bool x0,.slice a0 n0 c0,.slice b0 m0 d0,.slice av0 nv0 cv0,.slice ac0 nc0 cc0,.bool x1,.slice a1 n1 c1,.slice b1 m1 d1,.slice av1 nv1 cv1,.slice ac1 nc1 cc1,.bool x2,.slice a2 n2 c2,.slice b2 m2 d2,.slice av2 nv2 cv2,.slice ac2 nc2 cc2,.bool x3,.slice a3 n3 c3,.slice b3 m3 d3,.slice av3 nv3 cv3,.slice ac3 nc3 cc3,.bool x4,.slice a4 n4 c4,.slice b4 m4 d4,.slice av4 nv4 cv4,.slice ac4 nc4 cc4,.bool x5,.slice a5 n5 c5,.slice b5 m5 d5,.slice av5 nv5 cv5,.slice ac5 nc5 cc5,.bool x6,.slice a6 n6 c6,.slice b6 m6 d6,.slice av6 nv6 cv6,.slice ac6 nc6 cc6,.bool x7,.slice a7 n7 c7,.slice b7 m7 d7,.slice av7 nv7 cv7,.slice ac7 nc7 cc7,.bool x8,.slice a8 n8 c8,.slice b8 m8 d8,.slice av8 nv8 cv8,.slice ac8 nc8 cc8]):=by kernel_rfl
theorem VJ:B7 Tryz.prog 30 (zipIdx [] [])=some (.agg [.bool false,.slice none 0 (some 0),.slice none 0 (some 0),.slice none 0 (some 0),.slice none 0 (some 0)]):=by kernel_rfl
theorem Dc{s:AE}{loc var:List AV}(f:AE→AV→Option AV)(x a:CX):FC s loc var ⟨none,.r1 f,[x],a⟩=Mu (f s (C8 loc var x)) (C8 loc var a):=rfl
theorem dI(s:AE):QI s (.agg [.bool false,.slice none 0 (some 0),.slice none 0 (some 0)]) 0 1:=
 ⟨false,_,_,[],[],rfl,(NR.nil 0 s).n32,(NR.nil 0 s).n32,fun x h=>(by cases h),fun x h=>(by cases h),rB _,rB _,by decide⟩
theorem E7.of{b:Nat}{se:AE}{cs:List AV}{C:Rat}{T:List CD}{kk:Nat}(h:LR b se (.agg cs) C (Ba T))(hC:QH C kk)(hT:∀t∈T,QH t.2.1 kk)(hk:kk≤1000000000)(hk1:1≤kk)(hl:T.length≤1000000):E7 ⟨b,se,cs⟩:=
 ⟨C,Ba T,kk,h,hC,Nf hk1 hT,hk,by have:=IG T;omega⟩
section
variable{E:CR}{s:AE}
theorem NA(hE:DP E){vl:AV}{C:Rat}{vs:List Int}{cs:List Rat}(hl:LI s vl C vs cs 3)(hM:min cs.length vs.length≤8){K:AV→AE→Prop}
  (hK:∀s' w C' T,Ae s.next s s'→LR s.next s' w C' (Ba T)→QH C' 5000→(∀t∈T,QH t.2.1 5000)→T.length≤8→K w s'):WF E 16 [vl] K s:=by
 generalize hM':min cs.length vs.length=M at hM
 have b1:(M+1) * (3+2)≤9 * (3+2):=rF _ (by omega)
 have b2:M * (1+(M+1) * (3+2))≤8 * (1+9 * (3+2)):=rW (by omega) (by omega)
 have b3:(M+1) * (1+(M+1) * (3+2)+(1+M * (1+(M+1) * (3+2))+(1+(M+1) * (3+2)))+1)≤9 * 462:=rW (by omega) (by omega)
 have b4:(M+2) * (1+(M+1) * (3+2)+(1+M * (1+(M+1) * (3+2))+(1+(M+1) * (3+2)))+1)≤10 * 462:=rW (by omega) (by omega)
 exact QN hE hl (by decide) hM' (by omega) rfl rfl (by omega) fun s' w C' T o r _ hC hT _ hTl=>hK s' w C' T o r (hC.le (by omega)) (fun t ht=>(hT t ht).le (by omega)) (by omega)
theorem U5(hE:DP E){vl:AV}{C:Rat}{vs:List Int}{cs:List Rat}(hl:LI s vl C vs cs 5000)(hM:min cs.length vs.length≤8){K:AV→AE→Prop}
  (hK:∀s' w C' T,Ae s.next s s'→LR s.next s' w C' (Ba T)→QH C' 5000000→(∀t∈T,QH t.2.1 5000000)→T.length≤8→K w s'):WF E 16 [vl] K s:=by
 generalize hM':min cs.length vs.length=M at hM
 have b1:(M+1) * (5000+2)≤9 * (5000+2):=rF _ (by omega)
 have b2:M * (1+(M+1) * (5000+2))≤8 * (1+9 * (5000+2)):=rW (by omega) (by omega)
 have b3:(M+1) * (1+(M+1) * (5000+2)+(1+M * (1+(M+1) * (5000+2))+(1+(M+1) * (5000+2)))+1)≤9 * 460000:=rW (by omega) (by omega)
 have b4:(M+2) * (1+(M+1) * (5000+2)+(1+M * (1+(M+1) * (5000+2))+(1+(M+1) * (5000+2)))+1)≤10 * 460000:=rW (by omega) (by omega)
 exact QN hE hl (by decide) hM' (by omega) rfl rfl (by omega) fun s' w C' T o r _ hC hT _ hTl=>hK s' w C' T o r (hC.le (by omega)) (fun t ht=>(hT t ht).le (by omega)) (by omega)
theorem NI(hE:DP E){ri:Nat}{rows:List AV}{L:List (Rat×List Int×List Rat)}(hri:ri<s.next)(hrow:s.heap.get ri=some (R 30 5 false rows))(hrl:rows.length=L.length * 5)(hL:L.length≤2)
  (hel:∀ (i:Nat) (l:Rat×List Int×List Rat),L[i]? = some l→LI s (.agg ((rows.drop (i * 5)).take 5)) l.1 l.2.1 l.2.2 3∧min l.2.2.length l.2.1.length≤8) {K:AV→AE→Prop}
  (hK:∀s' w c T,Ae s.next s s'→LR s.next s' w c (Ba T)→QH c 1000→(∀t∈T,QH t.2.1 1000)→T.length≤1000000→K w s'):WF E 20 [.slice (some (ri,0)) L.length (some L.length)] K s:=by
 have b1:(L.length+1) * ((8+2) * (3+2))≤3 * ((8+2) * (3+2)):=rF _ (by omega)
 have b2:L.length * ((8+2) * (3+2))≤2 * ((8+2) * (3+2)):=rF _ (by omega)
 exact aT hE hri hrow hrl hel (by decide) (by omega) fun s' w c T o r _ hc hT _ hTl=>hK s' w c T o r (hc.le (by omega)) (fun t ht=>(hT t ht).le (by omega)) hTl
theorem cZ(hE:DP E){va vb:AV}{C C2:Rat}{vs vs2:List Int}{cs cs2:List Rat}(ha:LI s va C vs cs 3)(hb:LI s vb C2 vs2 cs2 3)(hMa:min cs.length vs.length≤8)(hMb:min cs2.length vs2.length≤8){K:AV→AE→Prop}
  (hK:∀s' w c T,Ae s.next s s'→LR s.next s' w c (Ba T)→QH c 1000→(∀t∈T,QH t.2.1 1000)→T.length≤1000000→K w s'):WF E 21 [va,vb] K s:=by
 exact Se hE ha hb (by decide) (by decide) (by omega) fun s' w T0 T o r t1 t2 hc hT _=>hK s' w _ T o r (hc.le (by omega)) (fun t ht=>(hT t ht).le (by omega)) (by
  have u1:=t1.len
  have u2:=t2.len
  simp only[sL]at u1
  omega)
theorem Ur(hE:DP E){vl vo:AV}{C o:Rat}{vs:List Int}{cs:List Rat}(hl:LI s vl C vs cs 3)(ho:QI s vo o 1)(hM:min cs.length vs.length≤8){K:AV→AE→Prop}
  (hK:∀s' w c T,Ae s.next s s'→LR s.next s' w c (Ba T)→QH c 1000→(∀t∈T,QH t.2.1 1000)→T.length≤1000000→K w s'):WF E 22 [vl,vo] K s:=by
 exact Zu hE hl ho (by decide) (by decide) (by omega) fun s' w T o r t1 hc hT _=>hK s' w _ T o r (hc.le (by omega)) (fun t ht=>(hT t ht).le (by omega)) (by
  have u1:=t1.len
  simp only[sL]at u1
  omega)
theorem cQ(hE:DP E){va vb:AV}{C C2:Rat}{vs vs2:List Int}{cs cs2:List Rat}{n:Int}(hn:i64 n)(ha:LI s va C vs cs 3)(hb:LI s vb C2 vs2 cs2 3)(hMa:min cs.length vs.length≤8)(hMb:min cs2.length vs2.length≤8){K:AV→AE→Prop}
    (hK:∀s' w c T,Ae s.next s s'→LR s.next s' w c (Ba T)→QH c 1000→(∀t∈T,QH t.2.1 1000)→T.length≤1000000→K w s'):WF E 10 [va,iv n,vb] K s:=by
  have b1:(min cs.length vs.length+1) * (3+2)≤9 * (3+2):=rF _ (by omega)
  have b2:(min cs2.length vs2.length+1) * (3+(1+(min cs.length vs.length+1) * (3+2))+1)≤9 * (3+(1+9 * (3+2))+1):=rW (by omega) (by omega)
  exact mV hE hn ha hb (by decide) (by decide) rfl rfl rfl rfl (by omega) fun s' w T0 C' T o r t0 hput hc hT _ _=>hK s' w C' T o r (hc.le (by omega)) (fun t ht=>(hT t ht).le (by omega)) (by
    have u1:=t0.len
    simp only[sL]at u1
    rcases hput with⟨_,_,rfl⟩ | ⟨_,_,t2⟩
    · omega
    · have u2 := t2.len
      have u3:=TR n T0
      omega)
structure nH(s:AE)(pA pB pO:Nat)(ca cb co:List AV)(C1:Rat)(vs1:List Int)(cs1:List Rat)(C2:Rat)(vs2:List Int)(cs2:List Rat):Prop where
 gA:s.heap.get pA=some (R 30 0 false ca)
 gB:s.heap.get pB=some (R 30 0 false cb)
 gO:s.heap.get pO=some (R 26 0 false co)
 lA:pA<s.next
 lB:pB<s.next
 lO:pO<s.next
 hA:LI s (.agg ca) C1 vs1 cs1 3
 hB:LI s (.agg cb) C2 vs2 cs2 3
 hO:QI s (.agg co) 1 1
 mA:min cs1.length vs1.length≤8
 mB:min cs2.length vs2.length≤8
theorem nH.old{s s':AE}{pA pB pO:Nat}{ca cb co:List AV}{C1:Rat}{vs1:List Int}{cs1:List Rat}{C2:Rat}{vs2:List Int}{cs2:List Rat}(h:nH s pA pB pO ca cb co C1 vs1 cs1 C2 vs2 cs2)(o:Ae s.next s s'):nH s' pA pB pO ca cb co C1 vs1 cs1 C2 vs2 cs2:=
 ⟨(o.2 _ h.lA).trans h.gA,(o.2 _ h.lB).trans h.gB,(o.2 _ h.lO).trans h.gO,rA h.lA o.1,rA h.lB o.1,rA h.lO o.1,h.hA.old o,h.hB.old o,h.hO.old o,h.mA,h.mB⟩
theorem mf(hE:DP E){pA pB pO:Nat}{ca cb co:List AV}{C1:Rat}{vs1:List Int}{cs1:List Rat}{C2:Rat}{vs2:List Int}{cs2:List Rat}(h:nH s pA pB pO ca cb co C1 vs1 cs1 C2 vs2 cs2){n:Int}(hn:i64 n)
  {y0 y2 y3 y6 y7 y9 y10 y11 y12 y13 y14 y15 y16:AV} {K:List AV→AE→Prop}
  (hK:∀ (S':AE) (ro:Nat) (Rs:List OV),Ae s.next s S'→ro<S'.next→s.next≤ro→S'.heap.get ro=some (R 30 5 false (Rs.map OV.c).flatten)→Rs.length=9→(∀r∈Rs,E7 r∧r.c.length=5∧s.next≤r.b∧r.se.next≤ro∧r.se.next≤S'.next∧∀j,r.b≤j→j<r.se.next→S'.heap.get j=r.se.heap.get j)→Rs.Pairwise (fun r r'=>r.se.next≤r'.b) →
   K [y0,iv n,y2,y3,.ptr (some (pA,0)),.ptr (some (pB,0)),y6,y7,.ptr (some (pO,0)),.slice (some (ro,0)) Rs.length (some Rs.length),y10,y11,y12,y13,y14,y15,y16] S'):
  Qb E kN K [] [y0,iv n,y2,y3,.ptr (some (pA,0)),.ptr (some (pB,0)),y6,y7,.ptr (some (pO,0)),y9,y10,y11,y12,y13,y14,y15,y16] s:=by
 have hA:=h.hA
 have hB:=h.hB
 have hO:=h.hO
 obtain⟨xa,aa,na,ka,ba,ma,da,va,nva,kva,wa,nwa,kwa,ea⟩:=hA.shape
 injection ea with ea
 obtain⟨xb,ab,nb,kb,bb,mb,db,vb,nvb,kvb,wb,nwb,kwb,eb⟩:=hB.shape
 injection eb with eb
 obtain⟨xo,ao,no,ko,bo,mo,do',eo⟩:=hO.shape
 injection eo with eo
 subst ea;subst eb;subst eo
 have lA0:=AG (P:=Tryz.prog) (t:=30) B6 Bp h.gA rfl
 obtain⟨n1,o1,g1⟩:=Bl s (R 30 5 false [.bool xa,.slice aa na ka,.slice ba ma da,.slice va nva kva,.slice wa nwa kwa])
 generalize hs1:newObj s (R 30 5 false [.bool xa,.slice aa na ka,.slice ba ma da,.slice va nva kva,.slice wa nwa kwa])=s1 at *
 have h1:=h.old o1
 have lA1:=AG (P:=Tryz.prog) (t:=30) B6 Bp h1.gA rfl
 have lB1:=AG (P:=Tryz.prog) (t:=30) B6 Bp h1.gB rfl
 obtain⟨n2,o2,g2⟩:=Bl s1 (R 30 5 false [.bool xa,.slice aa na ka,.slice ba ma da,.slice va nva kva,.slice wa nwa kwa,.bool xb,.slice ab nb kb,.slice bb mb db,.slice vb nvb kvb,.slice wb nwb kwb])
 generalize hs2:newObj s1 (R 30 5 false [.bool xa,.slice aa na ka,.slice ba ma da,.slice va nva kva,.slice wa nwa kwa,.bool xb,.slice ab nb kb,.slice bb mb db,.slice vb nvb kvb,.slice wb nwb kwb])=s2 at *
 have h2:=h1.old o2
 have lA2:=AG (P:=Tryz.prog) (t:=30) B6 Bp h2.gA rfl
 obtain⟨n3,o3,g3⟩:=Bl s2 (R 30 5 false [.bool xa,.slice aa na ka,.slice ba ma da,.slice va nva kva,.slice wa nwa kwa,.bool false,.slice none 0 (some 0),.slice none 0 (some 0),.slice none 0 (some 0),.slice none 0 (some 0)])
 generalize hs3:newObj s2 (R 30 5 false [.bool xa,.slice aa na ka,.slice ba ma da,.slice va nva kva,.slice wa nwa kwa,.bool false,.slice none 0 (some 0),.slice none 0 (some 0),.slice none 0 (some 0),.slice none 0 (some 0)])=s3 at *
 have h3:=h2.old o3
 have lA3:=AG (P:=Tryz.prog) (t:=30) B6 Bp h3.gA rfl
 have lB3:=AG (P:=Tryz.prog) (t:=30) B6 Bp h3.gB rfl
 have lO3:=AG (P:=Tryz.prog) (t:=26) BH Ar h3.gO rfl
 have lC3:AA Tryz.prog s3 26 (.ptr (some (pA,0+0)))=some (.agg [.bool xa,.slice aa na ka,.slice ba ma da]):=Ag (o:=0) (n:=3) BH Ar h3.gA (by simp)
 simp only[kN,lA0,Zo,Xe,hs1,lA1,lB1,Zp,hs2,lA2,VJ,hs3,lA3,lB3,lO3,lC3,Hg,Qa,Qb,Qc,Qd,Qe,Qf,Qg,Qh,Qi,Qj,Qk,Ql,Qm,Qn,true_and,and_true,Qo,Qp,Qq,Qr,Qs,Qt,Qu,Qv,Qw,Qx,Qy,Qz,Ra,Rb,Rc,Rd,Re,Rf,Rg,Rh,Ri,Rj,Rk,Rm,Rn,Ro,Rp,Rq,Rt,Ya,Yb,Yc,Ru,Rw,Zb,Yd,Ye,Ry,Rz,Wa,Wb,Wc,Wd,We]
 have o13:Ae s1.next s1 s3:=o2.trans (o3.mono o2.1)
 have o03:Ae s.next s s3:=o1.trans (o13.mono o1.1)
 have r1:s3.heap.get s.next=some (R 30 5 false [.bool xa,.slice aa na ka,.slice ba ma da,.slice va nva kva,.slice wa nwa kwa]):=(o13.2 _ (by omega)).trans g1
 have r2:s3.heap.get s1.next=some (R 30 5 false [.bool xa,.slice aa na ka,.slice ba ma da,.slice va nva kva,.slice wa nwa kwa,.bool xb,.slice ab nb kb,.slice bb mb db,.slice vb nvb kvb,.slice wb nwb kwb]):=(o3.2 _ (by omega)).trans g2
 refine NI hE (L:=[(C1,vs1,cs1)]) (by omega) r1 rfl (by show 1≤2;decide) (fun i l hl=>?_) fun s4 w4 c4 T4 o4 q4 hc4 hT4 hl4=>?_
 ·match i with
  | 0=>cases hl;exact⟨h3.hA,h3.mA⟩
  | i+1=>cases hl
 have h4:=h3.old o4
 have lA4:=AG (P:=Tryz.prog) (t:=30) B6 Bp h4.gA rfl
 have lB4:=AG (P:=Tryz.prog) (t:=30) B6 Bp h4.gB rfl
 have lO4:=AG (P:=Tryz.prog) (t:=26) BH Ar h4.gO rfl
 have lC4:AA Tryz.prog s4 26 (.ptr (some (pA,0+0)))=some (.agg [.bool xa,.slice aa na ka,.slice ba ma da]):=Ag (o:=0) (n:=3) BH Ar h4.gA (by simp)
 have r2:=(o4.2 _ (by omega)).trans r2
 have r3:=(o4.2 _ (by omega)).trans g3
 refine⟨by simp only[Dc,lA4,lB4,lO4,lC4,CE,Cd,Cr,Qa,Qb,Qc,Qd,Qe,Qf,Qg,Qh,Qi,Qj,Qk,Ql,Qm,Qn,true_and,and_true,Qo,Qp,Qq,Qr,Qs,Qt,Qu,Qv,Qw,Qx,Qy,Qz,Ra,Rb,Rc,Rd,Re,Rf,Rg,Rh,Ri,Rj,Rk,Rm,Rn,Ro,Rp,Rq,Rt,Ya,Yb,Yc,Ru,Rw,Zb,Yd,Ye,Ry,Rz,Wa,Wb,Wc,Wd,We],?_⟩
 simp only[Qa,Qb,Qc,Qd,Qe,Qf,Qg,Qh,Qi,Qj,Qk,Ql,Qm,Qn,true_and,and_true,Qo,Qp,Qq,Qr,Qs,Qt,Qu,Qv,Qw,Qx,Qy,Qz,Ra,Rb,Rc,Rd,Re,Rf,Rg,Rh,Ri,Rj,Rk,Rm,Rn,Ro,Rp,Rq,Rt,Ya,Yb,Yc,Ru,Rw,Zb,Yd,Ye,Ry,Rz,Wa,Wb,Wc,Wd,We]
 refine NI hE (L:=[(C1,vs1,cs1),(C2,vs2,cs2)]) (by have:=o4.1;omega) r2 rfl (by show 2≤2;decide) (fun i l hl=>?_) fun s5 w5 c5 T5 o5 q5 hc5 hT5 hl5=>?_
 ·match i with
  | 0=>cases hl;exact⟨h4.hA,h4.mA⟩
  | 1=>cases hl;exact⟨h4.hB,h4.mB⟩
  | i+2=>cases hl
 have h5:=h4.old o5
 have lA5:=AG (P:=Tryz.prog) (t:=30) B6 Bp h5.gA rfl
 have lB5:=AG (P:=Tryz.prog) (t:=30) B6 Bp h5.gB rfl
 have lO5:=AG (P:=Tryz.prog) (t:=26) BH Ar h5.gO rfl
 have lC5:AA Tryz.prog s5 26 (.ptr (some (pA,0+0)))=some (.agg [.bool xa,.slice aa na ka,.slice ba ma da]):=Ag (o:=0) (n:=3) BH Ar h5.gA (by simp)
 have r3:=(o5.2 _ (by have:=o4.1;omega)).trans r3
 refine⟨by simp only[Dc,lA5,lB5,lO5,lC5,CE,Cd,Cr,Qa,Qb,Qc,Qd,Qe,Qf,Qg,Qh,Qi,Qj,Qk,Ql,Qm,Qn,true_and,and_true,Qo,Qp,Qq,Qr,Qs,Qt,Qu,Qv,Qw,Qx,Qy,Qz,Ra,Rb,Rc,Rd,Re,Rf,Rg,Rh,Ri,Rj,Rk,Rm,Rn,Ro,Rp,Rq,Rt,Ya,Yb,Yc,Ru,Rw,Zb,Yd,Ye,Ry,Rz,Wa,Wb,Wc,Wd,We],?_⟩
 simp only[Qa,Qb,Qc,Qd,Qe,Qf,Qg,Qh,Qi,Qj,Qk,Ql,Qm,Qn,true_and,and_true,Qo,Qp,Qq,Qr,Qs,Qt,Qu,Qv,Qw,Qx,Qy,Qz,Ra,Rb,Rc,Rd,Re,Rf,Rg,Rh,Ri,Rj,Rk,Rm,Rn,Ro,Rp,Rq,Rt,Ya,Yb,Yc,Ru,Rw,Zb,Yd,Ye,Ry,Rz,Wa,Wb,Wc,Wd,We]
 refine NI hE (L:=[(C1,vs1,cs1),(0,[],[])]) (by have:=o4.1;have:=o5.1;omega) r3 rfl (by show 2≤2;decide) (fun i l hl=>?_) fun s6 w6 c6 T6 o6 q6 hc6 hT6 hl6=>?_
 ·match i with
  | 0=>cases hl;exact⟨h5.hA,h5.mA⟩
  | 1=>cases hl;exact⟨(LI.const (dI s5)).le (by decide),by decide⟩
  | i+2=>cases hl
 have h6:=h5.old o6
 have lA6:=AG (P:=Tryz.prog) (t:=30) B6 Bp h6.gA rfl
 have lB6:=AG (P:=Tryz.prog) (t:=30) B6 Bp h6.gB rfl
 have lO6:=AG (P:=Tryz.prog) (t:=26) BH Ar h6.gO rfl
 have lC6:AA Tryz.prog s6 26 (.ptr (some (pA,0+0)))=some (.agg [.bool xa,.slice aa na ka,.slice ba ma da]):=Ag (o:=0) (n:=3) BH Ar h6.gA (by simp)
 refine⟨by simp only[Dc,lA6,lB6,lO6,lC6,CE,Cd,Cr,Qa,Qb,Qc,Qd,Qe,Qf,Qg,Qh,Qi,Qj,Qk,Ql,Qm,Qn,true_and,and_true,Qo,Qp,Qq,Qr,Qs,Qt,Qu,Qv,Qw,Qx,Qy,Qz,Ra,Rb,Rc,Rd,Re,Rf,Rg,Rh,Ri,Rj,Rk,Rm,Rn,Ro,Rp,Rq,Rt,Ya,Yb,Yc,Ru,Rw,Zb,Yd,Ye,Ry,Rz,Wa,Wb,Wc,Wd,We],?_⟩
 simp only[Qa,Qb,Qc,Qd,Qe,Qf,Qg,Qh,Qi,Qj,Qk,Ql,Qm,Qn,true_and,and_true,Qo,Qp,Qq,Qr,Qs,Qt,Qu,Qv,Qw,Qx,Qy,Qz,Ra,Rb,Rc,Rd,Re,Rf,Rg,Rh,Ri,Rj,Rk,Rm,Rn,Ro,Rp,Rq,Rt,Ya,Yb,Yc,Ru,Rw,Zb,Yd,Ye,Ry,Rz,Wa,Wb,Wc,Wd,We]
 refine cZ hE h6.hA h6.hB h6.mA h6.mB fun s7 w7 c7 T7 o7 q7 hc7 hT7 hl7=>?_
 have h7:=h6.old o7
 have lA7:=AG (P:=Tryz.prog) (t:=30) B6 Bp h7.gA rfl
 have lB7:=AG (P:=Tryz.prog) (t:=30) B6 Bp h7.gB rfl
 have lO7:=AG (P:=Tryz.prog) (t:=26) BH Ar h7.gO rfl
 have lC7:AA Tryz.prog s7 26 (.ptr (some (pA,0+0)))=some (.agg [.bool xa,.slice aa na ka,.slice ba ma da]):=Ag (o:=0) (n:=3) BH Ar h7.gA (by simp)
 refine⟨by simp only[Dc,lA7,lB7,lO7,lC7,CE,Cd,Cr,Qa,Qb,Qc,Qd,Qe,Qf,Qg,Qh,Qi,Qj,Qk,Ql,Qm,Qn,true_and,and_true,Qo,Qp,Qq,Qr,Qs,Qt,Qu,Qv,Qw,Qx,Qy,Qz,Ra,Rb,Rc,Rd,Re,Rf,Rg,Rh,Ri,Rj,Rk,Rm,Rn,Ro,Rp,Rq,Rt,Ya,Yb,Yc,Ru,Rw,Zb,Yd,Ye,Ry,Rz,Wa,Wb,Wc,Wd,We],?_⟩
 simp only[Qa,Qb,Qc,Qd,Qe,Qf,Qg,Qh,Qi,Qj,Qk,Ql,Qm,Qn,true_and,and_true,Qo,Qp,Qq,Qr,Qs,Qt,Qu,Qv,Qw,Qx,Qy,Qz,Ra,Rb,Rc,Rd,Re,Rf,Rg,Rh,Ri,Rj,Rk,Rm,Rn,Ro,Rp,Rq,Rt,Ya,Yb,Yc,Ru,Rw,Zb,Yd,Ye,Ry,Rz,Wa,Wb,Wc,Wd,We]
 refine Ur hE h7.hA h7.hO h7.mA fun s8 w8 c8 T8 o8 q8 hc8 hT8 hl8=>?_
 have h8:=h7.old o8
 have lA8:=AG (P:=Tryz.prog) (t:=30) B6 Bp h8.gA rfl
 have lB8:=AG (P:=Tryz.prog) (t:=30) B6 Bp h8.gB rfl
 have lO8:=AG (P:=Tryz.prog) (t:=26) BH Ar h8.gO rfl
 have lC8:AA Tryz.prog s8 26 (.ptr (some (pA,0+0)))=some (.agg [.bool xa,.slice aa na ka,.slice ba ma da]):=Ag (o:=0) (n:=3) BH Ar h8.gA (by simp)
 refine⟨by simp only[Dc,lA8,lB8,lO8,lC8,CE,Cd,Cr,Qa,Qb,Qc,Qd,Qe,Qf,Qg,Qh,Qi,Qj,Qk,Ql,Qm,Qn,true_and,and_true,Qo,Qp,Qq,Qr,Qs,Qt,Qu,Qv,Qw,Qx,Qy,Qz,Ra,Rb,Rc,Rd,Re,Rf,Rg,Rh,Ri,Rj,Rk,Rm,Rn,Ro,Rp,Rq,Rt,Ya,Yb,Yc,Ru,Rw,Zb,Yd,Ye,Ry,Rz,Wa,Wb,Wc,Wd,We],?_⟩
 simp only[Qa,Qb,Qc,Qd,Qe,Qf,Qg,Qh,Qi,Qj,Qk,Ql,Qm,Qn,true_and,and_true,Qo,Qp,Qq,Qr,Qs,Qt,Qu,Qv,Qw,Qx,Qy,Qz,Ra,Rb,Rc,Rd,Re,Rf,Rg,Rh,Ri,Rj,Rk,Rm,Rn,Ro,Rp,Rq,Rt,Ya,Yb,Yc,Ru,Rw,Zb,Yd,Ye,Ry,Rz,Wa,Wb,Wc,Wd,We]
 refine cQ hE hn h8.hA h8.hB h8.mA h8.mB fun s9 w9 c9 T9 o9 q9 hc9 hT9 hl9=>?_
 have h9:=h8.old o9
 have lA9:=AG (P:=Tryz.prog) (t:=30) B6 Bp h9.gA rfl
 have lB9:=AG (P:=Tryz.prog) (t:=30) B6 Bp h9.gB rfl
 have lO9:=AG (P:=Tryz.prog) (t:=26) BH Ar h9.gO rfl
 have lC9:AA Tryz.prog s9 26 (.ptr (some (pA,0+0)))=some (.agg [.bool xa,.slice aa na ka,.slice ba ma da]):=Ag (o:=0) (n:=3) BH Ar h9.gA (by simp)
 refine⟨by simp only[Dc,lA9,lB9,lO9,lC9,CE,Cd,Cr,Qa,Qb,Qc,Qd,Qe,Qf,Qg,Qh,Qi,Qj,Qk,Ql,Qm,Qn,true_and,and_true,Qo,Qp,Qq,Qr,Qs,Qt,Qu,Qv,Qw,Qx,Qy,Qz,Ra,Rb,Rc,Rd,Re,Rf,Rg,Rh,Ri,Rj,Rk,Rm,Rn,Ro,Rp,Rq,Rt,Ya,Yb,Yc,Ru,Rw,Zb,Yd,Ye,Ry,Rz,Wa,Wb,Wc,Wd,We],?_⟩
 simp only[Qa,Qb,Qc,Qd,Qe,Qf,Qg,Qh,Qi,Qj,Qk,Ql,Qm,Qn,true_and,and_true,Qo,Qp,Qq,Qr,Qs,Qt,Qu,Qv,Qw,Qx,Qy,Qz,Ra,Rb,Rc,Rd,Re,Rf,Rg,Rh,Ri,Rj,Rk,Rm,Rn,Ro,Rp,Rq,Rt,Ya,Yb,Yc,Ru,Rw,Zb,Yd,Ye,Ry,Rz,Wa,Wb,Wc,Wd,We]
 refine NA hE h9.hA h9.mA fun s10 w10 kE T10 o10 q10 hc10 hT10 hl10=>?_
 have h10:=h9.old o10
 have lA10:=AG (P:=Tryz.prog) (t:=30) B6 Bp h10.gA rfl
 have lB10:=AG (P:=Tryz.prog) (t:=30) B6 Bp h10.gB rfl
 have lO10:=AG (P:=Tryz.prog) (t:=26) BH Ar h10.gO rfl
 have lC10:AA Tryz.prog s10 26 (.ptr (some (pA,0+0)))=some (.agg [.bool xa,.slice aa na ka,.slice ba ma da]):=Ag (o:=0) (n:=3) BH Ar h10.gA (by simp)
 refine⟨by simp only[Dc,lA10,lB10,lO10,lC10,CE,Cd,Cr,Qa,Qb,Qc,Qd,Qe,Qf,Qg,Qh,Qi,Qj,Qk,Ql,Qm,Qn,true_and,and_true,Qo,Qp,Qq,Qr,Qs,Qt,Qu,Qv,Qw,Qx,Qy,Qz,Ra,Rb,Rc,Rd,Re,Rf,Rg,Rh,Ri,Rj,Rk,Rm,Rn,Ro,Rp,Rq,Rt,Ya,Yb,Yc,Ru,Rw,Zb,Yd,Ye,Ry,Rz,Wa,Wb,Wc,Wd,We],?_⟩
 simp only[Qa,Qb,Qc,Qd,Qe,Qf,Qg,Qh,Qi,Qj,Qk,Ql,Qm,Qn,true_and,and_true,Qo,Qp,Qq,Qr,Qs,Qt,Qu,Qv,Qw,Qx,Qy,Qz,Ra,Rb,Rc,Rd,Re,Rf,Rg,Rh,Ri,Rj,Rk,Rm,Rn,Ro,Rp,Rq,Rt,Ya,Yb,Yc,Ru,Rw,Zb,Yd,Ye,Ry,Rz,Wa,Wb,Wc,Wd,We]
 have hCQ:QI s10 (.agg [.bool xa,.slice aa na ka,.slice ba ma da]) C1 3:=by
  obtain⟨x',a',n',c',b',m',d',av',cv',ac',cc',cells',e,hq,_⟩:=h10.hA
  injection e with e
  injection e with e1 e
  injection e with e2 e
  injection e with e3 _
  rw[e1,e2,e3];exact hq
 refine PE hE hCQ (by decide) (by decide) fun s11 w11 o11 q11=>?_
 have h11:=h10.old o11
 have lA11:=AG (P:=Tryz.prog) (t:=30) B6 Bp h11.gA rfl
 refine⟨by simp only[Dc,lA11,CE,Cd,Qa,Qb,Qc,Qd,Qe,Qf,Qg,Qh,Qi,Qj,Qk,Ql,Qm,Qn,true_and,and_true,Qo,Qp,Qq,Qr,Qs,Qt,Qu,Qv,Qw,Qx,Qy,Qz,Ra,Rb,Rc,Rd,Re,Rf,Rg,Rh,Ri,Rj,Rk,Rm,Rn,Ro,Rp,Rq,Rt,Ya,Yb,Yc,Ru,Rw,Zb,Yd,Ye,Ry,Rz,Wa,Wb,Wc,Wd,We],?_⟩
 simp only[Qa,Qb,Qc,Qd,Qe,Qf,Qg,Qh,Qi,Qj,Qk,Ql,Qm,Qn,true_and,and_true,Qo,Qp,Qq,Qr,Qs,Qt,Qu,Qv,Qw,Qx,Qy,Qz,Ra,Rb,Rc,Rd,Re,Rf,Rg,Rh,Ri,Rj,Rk,Rm,Rn,Ro,Rp,Rq,Rt,Ya,Yb,Yc,Ru,Rw,Zb,Yd,Ye,Ry,Rz,Wa,Wb,Wc,Wd,We]
 refine NA hE h11.hA h11.mA fun s12 w12 pE T12 o12 q12 hc12 hT12 hl12=>?_
 have hw12:LI s12 w12 _ _ _ 5000:=q12.li hc12 (Nf (by decide) hT12)
 simp only[Qa,Qb,Qc,Qd,Qe,Qf,Qg,Qh,Qi,Qj,Qk,Ql,Qm,Qn,true_and,and_true,Qo,Qp,Qq,Qr,Qs,Qt,Qu,Qv,Qw,Qx,Qy,Qz,Ra,Rb,Rc,Rd,Re,Rf,Rg,Rh,Ri,Rj,Rk,Rm,Rn,Ro,Rp,Rq,Rt,Ya,Yb,Yc,Ru,Rw,Zb,Yd,Ye,Ry,Rz,Wa,Wb,Wc,Wd,We]
 refine U5 hE hw12 (bC hl12) fun s13 w13 pF T13 o13' q13 hc13 hT13 hl13=>?_
 simp only[Qa,Qb,Qc,Qd,Qe,Qf,Qg,Qh,Qi,Qj,Qk,Ql,Qm,Qn,true_and,and_true,Qo,Qp,Qq,Qr,Qs,Qt,Qu,Qv,Qw,Qx,Qy,Qz,Ra,Rb,Rc,Rd,Re,Rf,Rg,Rh,Ri,Rj,Rk,Rm,Rn,Ro,Rp,Rq,Rt,Ya,Yb,Yc,Ru,Rw,Zb,Yd,Ye,Ry,Rz,Wa,Wb,Wc,Wd,We]
 obtain⟨x0,a0,n0',c0',b0,m0,d0,av0,nv0,cv0,ac0,nc0,cc0,e0⟩:=q4.shape
 subst e0
 obtain⟨x1,a1,n1',c1',b1,m1,d1,av1,nv1,cv1,ac1,nc1,cc1,e1⟩:=q5.shape
 subst e1
 obtain⟨x2,a2,n2',c2',b2,m2,d2,av2,nv2,cv2,ac2,nc2,cc2,e2⟩:=q6.shape
 subst e2
 obtain⟨x3,a3,n3',c3',b3,m3,d3,av3,nv3,cv3,ac3,nc3,cc3,e3⟩:=q7.shape
 subst e3
 obtain⟨x4,a4,n4',c4',b4,m4,d4,av4,nv4,cv4,ac4,nc4,cc4,e4⟩:=q8.shape
 subst e4
 obtain⟨x5,a5,n5',c5',b5,m5,d5,av5,nv5,cv5,ac5,nc5,cc5,e5⟩:=q9.shape
 subst e5
 obtain⟨x6,a6,n6',c6',b6,m6,d6,av6,nv6,cv6,ac6,nc6,cc6,e6⟩:=q10.shape
 subst e6
 obtain⟨x7,a7,n7',c7',b7,m7,d7,av7,nv7,cv7,ac7,nc7,cc7,e7⟩:=q11.shape
 subst e7
 obtain⟨x8,a8,n8',c8',b8,m8,d8,av8,nv8,cv8,ac8,nc8,cc8,e8⟩:=q13.shape
 subst e8
 obtain⟨n14,o14,g14⟩:=Bl s13 (R 30 5 false [.bool x0,.slice a0 n0' c0',.slice b0 m0 d0,.slice av0 nv0 cv0,.slice ac0 nc0 cc0,.bool x1,.slice a1 n1' c1',.slice b1 m1 d1,.slice av1 nv1 cv1,.slice ac1 nc1 cc1,.bool x2,.slice a2 n2' c2',.slice b2 m2 d2,.slice av2 nv2 cv2,.slice ac2 nc2 cc2,.bool x3,.slice a3 n3' c3',.slice b3 m3 d3,.slice av3 nv3 cv3,.slice ac3 nc3 cc3,.bool x4,.slice a4 n4' c4',.slice b4 m4 d4,.slice av4 nv4 cv4,.slice ac4 nc4 cc4,.bool x5,.slice a5 n5' c5',.slice b5 m5 d5,.slice av5 nv5 cv5,.slice ac5 nc5 cc5,.bool x6,.slice a6 n6' c6',.slice b6 m6 d6,.slice av6 nv6 cv6,.slice ac6 nc6 cc6,.bool x7,.slice a7 n7' c7',.slice b7 m7 d7,.slice av7 nv7 cv7,.slice ac7 nc7 cc7,.bool x8,.slice a8 n8' c8',.slice b8 m8 d8,.slice av8 nv8 cv8,.slice ac8 nc8 cc8])
 simp only[Zq,Xe,Qa,Qb,Qc,Qd,Qe,Qf,Qg,Qh,Qi,Qj,Qk,Ql,Qm,Qn,true_and,and_true,Qo,Qp,Qq,Qr,Qs,Qt,Qu,Qv,Qw,Qx,Qy,Qz,Ra,Rb,Rc,Rd,Re,Rf,Rg,Rh,Ri,Rj,Rk,Rm,Rn,Ro,Rp,Rq,Rt,Ya,Yb,Yc,Ru,Rw,Zb,Yd,Ye,Ry,Rz,Wa,Wb,Wc,Wd,We]
 generalize newObj s13 (R 30 5 false [.bool x0,.slice a0 n0' c0',.slice b0 m0 d0,.slice av0 nv0 cv0,.slice ac0 nc0 cc0,.bool x1,.slice a1 n1' c1',.slice b1 m1 d1,.slice av1 nv1 cv1,.slice ac1 nc1 cc1,.bool x2,.slice a2 n2' c2',.slice b2 m2 d2,.slice av2 nv2 cv2,.slice ac2 nc2 cc2,.bool x3,.slice a3 n3' c3',.slice b3 m3 d3,.slice av3 nv3 cv3,.slice ac3 nc3 cc3,.bool x4,.slice a4 n4' c4',.slice b4 m4 d4,.slice av4 nv4 cv4,.slice ac4 nc4 cc4,.bool x5,.slice a5 n5' c5',.slice b5 m5 d5,.slice av5 nv5 cv5,.slice ac5 nc5 cc5,.bool x6,.slice a6 n6' c6',.slice b6 m6 d6,.slice av6 nv6 cv6,.slice ac6 nc6 cc6,.bool x7,.slice a7 n7' c7',.slice b7 m7 d7,.slice av7 nv7 cv7,.slice ac7 nc7 cc7,.bool x8,.slice a8 n8' c8',.slice b8 m8 d8,.slice av8 nv8 cv8,.slice ac8 nc8 cc8])=s14 at *
 have e3:=o03.1
 have e4:=o4.1
 have e5:=o5.1
 have e6:=o6.1
 have e7:=o7.1
 have e8:=o8.1
 have e9:=o9.1
 have e10:=o10.1
 have e11:=o11.1
 have e12:=o12.1
 have e13:=o13'.1
 have p12:Ae s12.next s12 s14:=o13'.trans (o14.mono e13)
 have p13:Ae s13.next s13 s14:=o14
 have p11:Ae s11.next s11 s14:=o12.trans (p12.mono e12)
 have p10:Ae s10.next s10 s14:=o11.trans (p11.mono e11)
 have p9:Ae s9.next s9 s14:=o10.trans (p10.mono e10)
 have p8:Ae s8.next s8 s14:=o9.trans (p9.mono e9)
 have p7:Ae s7.next s7 s14:=o8.trans (p8.mono e8)
 have p6:Ae s6.next s6 s14:=o7.trans (p7.mono e7)
 have p5:Ae s5.next s5 s14:=o6.trans (p6.mono e6)
 have p4:Ae s4.next s4 s14:=o5.trans (p5.mono e5)
 have p3:Ae s3.next s3 s14:=o4.trans (p4.mono e4)
 refine hK s14 s13.next [⟨s3.next,s4,[.bool x0,.slice a0 n0' c0',.slice b0 m0 d0,.slice av0 nv0 cv0,.slice ac0 nc0 cc0]⟩,⟨s4.next,s5,[.bool x1,.slice a1 n1' c1',.slice b1 m1 d1,.slice av1 nv1 cv1,.slice ac1 nc1 cc1]⟩,⟨s5.next,s6,[.bool x2,.slice a2 n2' c2',.slice b2 m2 d2,.slice av2 nv2 cv2,.slice ac2 nc2 cc2]⟩,⟨s6.next,s7,[.bool x3,.slice a3 n3' c3',.slice b3 m3 d3,.slice av3 nv3 cv3,.slice ac3 nc3 cc3]⟩,⟨s7.next,s8,[.bool x4,.slice a4 n4' c4',.slice b4 m4 d4,.slice av4 nv4 cv4,.slice ac4 nc4 cc4]⟩,⟨s8.next,s9,[.bool x5,.slice a5 n5' c5',.slice b5 m5 d5,.slice av5 nv5 cv5,.slice ac5 nc5 cc5]⟩,⟨s9.next,s10,[.bool x6,.slice a6 n6' c6',.slice b6 m6 d6,.slice av6 nv6 cv6,.slice ac6 nc6 cc6]⟩,⟨s10.next,s11,[.bool x7,.slice a7 n7' c7',.slice b7 m7 d7,.slice av7 nv7 cv7,.slice ac7 nc7 cc7]⟩,⟨s12.next,s13,[.bool x8,.slice a8 n8' c8',.slice b8 m8 d8,.slice av8 nv8 cv8,.slice ac8 nc8 cc8]⟩] (o03.trans (p3.mono e3)) (by omega) (by omega) g14 rfl (fun r hr=>?_) ?_
 ·simp only[tN,List.not_mem_nil,or_false]at hr
  rcases hr with rfl | rfl | rfl | rfl | rfl | rfl | rfl | rfl | rfl
  ·exact⟨E7.of q4 hc4 hT4 (by decide) (by decide) (by omega),rfl,by show s.next≤s3.next;omega,by show s4.next≤s13.next;omega,p4.1,fun j _ hj=>p4.2 j hj⟩
  ·exact⟨E7.of q5 hc5 hT5 (by decide) (by decide) (by omega),rfl,by show s.next≤s4.next;omega,by show s5.next≤s13.next;omega,p5.1,fun j _ hj=>p5.2 j hj⟩
  ·exact⟨E7.of q6 hc6 hT6 (by decide) (by decide) (by omega),rfl,by show s.next≤s5.next;omega,by show s6.next≤s13.next;omega,p6.1,fun j _ hj=>p6.2 j hj⟩
  ·exact⟨E7.of q7 hc7 hT7 (by decide) (by decide) (by omega),rfl,by show s.next≤s6.next;omega,by show s7.next≤s13.next;omega,p7.1,fun j _ hj=>p7.2 j hj⟩
  ·exact⟨E7.of q8 hc8 hT8 (by decide) (by decide) (by omega),rfl,by show s.next≤s7.next;omega,by show s8.next≤s13.next;omega,p8.1,fun j _ hj=>p8.2 j hj⟩
  ·exact⟨E7.of q9 hc9 hT9 (by decide) (by decide) (by omega),rfl,by show s.next≤s8.next;omega,by show s9.next≤s13.next;omega,p9.1,fun j _ hj=>p9.2 j hj⟩
  ·exact⟨E7.of q10 hc10 hT10 (by decide) (by decide) (by omega),rfl,by show s.next≤s9.next;omega,by show s10.next≤s13.next;omega,p10.1,fun j _ hj=>p10.2 j hj⟩
  ·exact⟨E7.of q11 (hCQ.qh (by decide)) (fun t ht=>(by cases ht)) (by decide) (by decide) (rB _),rfl,by show s.next≤s10.next;omega,by show s11.next≤s13.next;omega,p11.1,fun j _ hj=>p11.2 j hj⟩
  ·exact⟨E7.of q13 hc13 hT13 (by decide) (by decide) (by omega),rfl,by show s.next≤s12.next;omega,by show s13.next≤s13.next;omega,p13.1,fun j _ hj=>p13.2 j hj⟩
 ·simp only[List.pairwise_cons,tN,List.not_mem_nil,or_false,forall_eq_or_imp,forall_eq]
  refine⟨⟨?_,?_,?_,?_,?_,?_,?_,?_⟩,⟨?_,?_,?_,?_,?_,?_,?_⟩,⟨?_,?_,?_,?_,?_,?_⟩,⟨?_,?_,?_,?_,?_⟩,⟨?_,?_,?_,?_⟩,⟨?_,?_,?_⟩,⟨?_,?_⟩,?_,?_⟩<;>first | omega | simp
end
end
end Go.Proofs.YtjnkfbpadpmakaaGreatDoor.Am
set_option linter.unusedVariables false
set_option linter.unusedSimpArgs false
set_option maxRecDepth 16000
set_option maxHeartbeats 1000000
namespace Go.Proofs.YtjnkfbpadpmakaaGreatDoor.Am
open Go Go.Proofs
noncomputable section
theorem QI.qx{s:AE}{v:AV}{q:Rat}{k:Nat}(h:QI s v q k)(hk:k≤1000000000):∃x,QX s v x:=by
 obtain⟨neg,m,d,lm,ld,rfl,h1,h2,_,_,h5,h6,_⟩:=h
 exact⟨(neg,lm,ld),m,d,rfl,h1,h2,by show lm.length≤_;omega,by show ld.length≤_;omega⟩
theorem LI.lx{s:AE}{v:AV}{C:Rat}{vs:List Int}{cs:List Rat}{k:Nat}(h:LI s v C vs cs k)(hk:k≤1000000000):∃X Q,LX s v X vs Q∧Q.length=cs.length:=by
 obtain⟨x,a,n,c,b,m,d,av,capv,ac,capc,cells,rfl,hq,hv,_,hr,_,_⟩:=h
 obtain⟨X,hX⟩:=hq.qx hk
 have hx:X.1=x:=by
  obtain⟨m',d',e,_⟩:=hX
  injection e with e
  injection e with e _
  injection e with e
  exact e.symm
 have key:∀i,∃y:Hb,i<cs.length→QX s (.agg ((cells.drop (i * 3)).take 3)) y:=fun i=>by
  by_cases hi:i<cs.length
  ·obtain⟨y,hy⟩:=(hr.rat i cs[i] (qy hi)).qx hk
   exact⟨y,fun _=>hy⟩
  ·exact⟨(false,[],[]),fun h=>absurd h hi⟩
 refine⟨X,(List.range cs.length).map fun i=>Classical.choose (key i),⟨a,n,c,b,m,d,av,capv,ac,capc,cells,by rw[hx];simp,by rw[hx];exact hX,hv,by simp[hr.len],hr.rd,fun i y hi=>?_⟩,by simp⟩
 rw[sF]at hi
 have hlt:i<cs.length:=by
  rcases qz i cs.length with h' | h'
  ·exact h'
  ·rw[rI (by simpa using h')]at hi;cases hi
 rw[tO hlt]at hi
 injection hi with hi
 rw[← hi]
 exact Classical.choose_spec (key i) hlt
theorem LX.shape{s:AE}{v:AV}{X:Hb}{vs:List Int}{Q:List Hb}(h:LX s v X vs Q):∃x a n c b m d av nv capv ac nc capc,v=.agg [.bool x,.slice a n c,.slice b m d,.slice av nv capv,.slice ac nc capc]:=by
 obtain⟨a,n,c,b,m,d,av,cv,ac,cc,cells,h1,_⟩:=h
 exact⟨_,_,_,_,_,_,_,_,_,_,_,_,_,h1⟩
section
variable{E:CR}{s:AE}
theorem Us(hE:DP E){ca cb:List AV}(hA:LA s (.agg ca))(hB:LA s (.agg cb)){n:Int}(hn:i64 n){K:AV→AE→Prop}(hK:∀s',Ae s.next s s'→K (.bool true) s'):WF E 5 [.agg (ca++cb),iv n] K s:=by
 obtain⟨xa,aa,na,ka,ba,ma,da,va,nva,kva,wa,nwa,kwa,ea⟩:=hA.shape
 injection ea with ea
 obtain⟨xb,ab,nb,kb,bb,mb,db,vb,nvb,kvb,wb,nwb,kwb,eb⟩:=hB.shape
 injection eb with eb
 subst ea;subst eb
 refine hE.go oR (by decide) rfl ?_
 obtain⟨n1,o1,g1⟩:=Bl s (R 31 0 false ([.bool xa,.slice aa na ka,.slice ba ma da,.slice va nva kva,.slice wa nwa kwa]++[.bool xb,.slice ab nb kb,.slice bb mb db,.slice vb nvb kvb,.slice wb nwb kwb]))
 simp only[c5,nr,ns,Xa,Xh,Xc,Qa,Qb,Qc,Qd,Qe,Qf,Qg,Qh,Qi,Qj,Qk,Ql,Qm,Qn,true_and,and_true,Qo,Qp,Qq,Qr,Qs,Qt,Qu,Qv,Qw,Qx,Qy,Qz,Ra,Rb,Rc,Rd,Re,Rf,Rg,Rh,Ri,Rj,Rk,Rm,Rn,Ro,Rp,Rq,Rt,Ya,Yb,Yc,Ru,Rw,Zb,Yd,Ye,Ry,Rz,Wa,Wb,Wc,Wd,We]
 generalize newObj s _=s1 at *
 refine WF.nat (hE.wk s1) ?_
 have l1:AA Tryz.prog s1 30 (.ptr (some (s.next,0+0)))=some (.agg [.bool xa,.slice aa na ka,.slice ba ma da,.slice va nva kva,.slice wa nwa kwa]):=Ag (o:=0) (n:=5) B6 Bp g1 (by simp)
 have l2:AA Tryz.prog s1 30 (.ptr (some (s.next,0+5)))=some (.agg [.bool xb,.slice ab nb kb,.slice bb mb db,.slice vb nvb kvb,.slice wb nwb kwb]):=Ag (o:=5) (n:=5) B6 Bp g1 (by simp)
 obtain⟨n3,o3,g3,g4⟩:=D4 s1 ZL ZL
 simp only[nz,Y7,Y8,l1,l2,Dm,Xc,Ap,Qa,Qb,Qc,Qd,Qe,Qf,Qg,Qh,Qi,Qj,Qk,Ql,Qm,Qn,true_and,and_true,Qo,Qp,Qq,Qr,Qs,Qt,Qu,Qv,Qw,Qx,Qy,Qz,Ra,Rb,Rc,Rd,Re,Rf,Rg,Rh,Ri,Rj,Rk,Rm,Rn,Ro,Rp,Rq,Rt,Ya,Yb,Yc,Ru,Rw,Zb,Yd,Ye,Ry,Rz,Wa,Wb,Wc,Wd,We]
 generalize newObj (newObj s1 ZL) ZL=s3 at *
 have o13:Ae s.next s s3:=o1.trans (o3.mono o1.1)
 refine Yv hE.toGoodN o13 hA fun s4 w4 C1 vs1 cs1 o4 hw4 nA mA=>?_
 have o14:Ae s.next s s4:=o13.trans (o4.mono o13.1)
 have l2':AA Tryz.prog s4 30 (.ptr (some (s.next,0+5)))=some (.agg [.bool xb,.slice ab nb kb,.slice bb mb db,.slice vb nvb kvb,.slice wb nwb kwb]):=Ag (o:=5) (n:=5) B6 Bp ((o4.2 s.next (by omega)).trans ((o3.2 s.next (by omega)).trans g1)) (by simp)
 refine⟨⟨Ak (by simp only[Qa,Qb,Qc,Qd,Qe,Qf,Qg,Qh,Qi,Qj,Qk,Ql,Qm,Qn,true_and,and_true,Qo,Qp,Qq,Qr,Qs,Qt,Qu,Qv,Qw,Qx,Qy,Qz,Ra,Rb,Rc,Rd,Re,Rf,Rg,Rh,Ri,Rj,Rk,Rm,Rn,Ro,Rp,Rq,Rt,Ya,Yb,Yc,Ru,Rw,Zb,Yd,Ye,Ry,Rz,Wa,Wb,Wc,Wd,We];exact l2') (Cd ..),trivial⟩,?_⟩
 simp only[Qa,Qb,Qc,Qd,Qe,Qf,Qg,Qh,Qi,Qj,Qk,Ql,Qm,Qn,true_and,and_true,Qo,Qp,Qq,Qr,Qs,Qt,Qu,Qv,Qw,Qx,Qy,Qz,Ra,Rb,Rc,Rd,Re,Rf,Rg,Rh,Ri,Rj,Rk,Rm,Rn,Ro,Rp,Rq,Rt,Ya,Yb,Yc,Ru,Rw,Zb,Yd,Ye,Ry,Rz,Wa,Wb,Wc,Wd,We]
 refine Yv hE.toGoodN o14 hB fun s5 w5 C2 vs2 cs2 o5 hw5 nB mB=>?_
 have hw4':=hw4 s4 (qw _) fun _ _ _=>rfl
 have hw5':=hw5 s5 (qw _) fun _ _ _=>rfl
 obtain⟨x4,a4,m4,c4,b4,l4,d4,av4,nv4,cv4,ac4,nc4,cc4,rfl⟩:=hw4'.shape
 obtain⟨x5,a5,m5,c5,b5,l5,d5,av5,nv5,cv5,ac5,nc5,cc5,rfl⟩:=hw5'.shape
 have hs4:=o4.1
 have hs5:=o5.1
 have hs3:=o3.1
 have o35:Ae s3.next s3 s5:=o4.trans (o5.mono o4.1)
 obtain⟨st6,_⟩:=CF (cs0:=[.bool false,.slice none 0 (some 0),.slice none 0 (some 0),.slice none 0 (some 0),.slice none 0 (some 0)]) rfl (x:=x4) (a:=a4) (n:=m4) (c:=c4) (b:=b4) (m:=l4) (d:=d4) (av:=av4) (nv:=nv4) (cv:=cv4) (ac:=ac4) (nc:=nc4) (cc:=cc4) ((o35.2 s1.next (by omega)).trans g3)
 generalize hs6:setObj s5 s1.next (BL x4 (.slice a4 m4 c4) (.slice b4 l4 d4) (.slice av4 nv4 cv4) (.slice ac4 nc4 cc4))=s6 at st6
 have g6:s6.heap.get s1.next=some (BL x4 (.slice a4 m4 c4) (.slice b4 l4 d4) (.slice av4 nv4 cv4) (.slice ac4 nc4 cc4)):=by rw[← hs6,Ww]
 have f6:∀j,j≠s1.next→s6.heap.get j=s5.heap.get j:=fun j hj=>by rw[← hs6,Wx _ hj]
 have n6:s6.next=s5.next:=by rw[← hs6];rfl
 obtain⟨st7,_⟩:=CF (cs0:=[.bool false,.slice none 0 (some 0),.slice none 0 (some 0),.slice none 0 (some 0),.slice none 0 (some 0)]) rfl (x:=x5) (a:=a5) (n:=m5) (c:=c5) (b:=b5) (m:=l5) (d:=d5) (av:=av5) (nv:=nv5) (cv:=cv5) (ac:=ac5) (nc:=nc5) (cc:=cc5) ((f6 (s1.next+1) (by omega)).trans ((o35.2 (s1.next+1) (by omega)).trans g4))
 generalize hs7:setObj s6 (s1.next+1) (BL x5 (.slice a5 m5 c5) (.slice b5 l5 d5) (.slice av5 nv5 cv5) (.slice ac5 nc5 cc5))=s7 at st7
 have g7B:s7.heap.get (s1.next+1)=some (BL x5 (.slice a5 m5 c5) (.slice b5 l5 d5) (.slice av5 nv5 cv5) (.slice ac5 nc5 cc5)):=by rw[← hs7,Ww]
 have f7:∀j,j≠s1.next+1→s7.heap.get j=s6.heap.get j:=fun j hj=>by rw[← hs7,Wx _ hj]
 have g7A:=(f7 s1.next (by omega)).trans g6
 have n7:s7.next=s6.next:=by rw[← hs7];rfl
 have f57:∀j,j≠s1.next→j≠s1.next+1→s7.heap.get j=s5.heap.get j:=fun j h1 h2=>by rw[f7 j h2,f6 j h1]
 have hw4s:=hw4 s7 (by omega) fun j hj h=>by rw[f57 j (by omega) (by omega),o5.2 j hj]
 have hw5s:=hw5 s7 (by omega) fun j hj h=>f57 j (by omega) (by omega)
 simp only[st6,st7,Xy,Za,Qa,Qb,Qc,Qd,Qe,Qf,Qg,Qh,Qi,Qj,Qk,Ql,Qm,Qn,true_and,and_true,Qo,Qp,Qq,Qr,Qs,Qt,Qu,Qv,Qw,Qx,Qy,Qz,Ra,Rb,Rc,Rd,Re,Rf,Rg,Rh,Ri,Rj,Rk,Rm,Rn,Ro,Rp,Rq,Rt,Ya,Yb,Yc,Ru,Rw,Zb,Yd,Ye,Ry,Rz,Wa,Wb,Wc,Wd,We]
 have o07:Ae s.next s s7:=⟨by omega,fun j hj=>by rw[f7 j (by omega),f6 j (by omega),o5.2 j (by omega),o14.2 j hj]⟩
 obtain⟨XA,QA',hXA,hQA⟩:=hw4s.lx (by decide)
 obtain⟨XB,QB',hXB,hQB⟩:=hw5s.lx (by decide)
 have lA7:=AG (P:=Tryz.prog) (t:=30) B6 Bp g7A rfl
 have lB7:=AG (P:=Tryz.prog) (t:=30) B6 Bp g7B rfl
 obtain⟨n9,o9,g9,g9'⟩:=D4 s7 ZL ZL
 simp only[oA,lA7,lB7,Dm,Xc,Ap,Qa,Qb,Qc,Qd,Qe,Qf,Qg,Qh,Qi,Qj,Qk,Ql,Qm,Qn,true_and,and_true,Qo,Qp,Qq,Qr,Qs,Qt,Qu,Qv,Qw,Qx,Qy,Qz,Ra,Rb,Rc,Rd,Re,Rf,Rg,Rh,Ri,Rj,Rk,Rm,Rn,Ro,Rp,Rq,Rt,Ya,Yb,Yc,Ru,Rw,Zb,Yd,Ye,Ry,Rz,Wa,Wb,Wc,Wd,We]
 generalize newObj (newObj s7 ZL) ZL=s9 at *
 refine MO hE.toGoodN (hXA.old o9) (by omega) (by omega) fun s10 w10 o10 hk10=>?_
 have hs10:=o10.1
 have lB10:=AG (P:=Tryz.prog) (t:=30) B6 Bp ((o10.2 _ (by omega)).trans ((o9.2 _ (by omega)).trans g7B)) rfl
 refine⟨⟨Ak (by simp only[Qa,Qb,Qc,Qd,Qe,Qf,Qg,Qh,Qi,Qj,Qk,Ql,Qm,Qn,true_and,and_true,Qo,Qp,Qq,Qr,Qs,Qt,Qu,Qv,Qw,Qx,Qy,Qz,Ra,Rb,Rc,Rd,Re,Rf,Rg,Rh,Ri,Rj,Rk,Rm,Rn,Ro,Rp,Rq,Rt,Ya,Yb,Yc,Ru,Rw,Zb,Yd,Ye,Ry,Rz,Wa,Wb,Wc,Wd,We];exact lB10) (Cd ..),trivial⟩,?_⟩
 have o710:Ae s7.next s7 s10:=o9.trans (o10.mono o9.1)
 simp only[Qa,Qb,Qc,Qd,Qe,Qf,Qg,Qh,Qi,Qj,Qk,Ql,Qm,Qn,true_and,and_true,Qo,Qp,Qq,Qr,Qs,Qt,Qu,Qv,Qw,Qx,Qy,Qz,Ra,Rb,Rc,Rd,Re,Rf,Rg,Rh,Ri,Rj,Rk,Rm,Rn,Ro,Rp,Rq,Rt,Ya,Yb,Yc,Ru,Rw,Zb,Yd,Ye,Ry,Rz,Wa,Wb,Wc,Wd,We]
 refine MO hE.toGoodN (hXB.old o710) (by omega) (by omega) fun s11 w11 o11 hk11=>?_
 have hs11:=o11.1
 obtain⟨x10,a10,m10,kE,b10,l10,d10,av10,nv10,cv10,ac10,nc10,cc10,e10⟩:=(hk10 s10 (qw _) fun _ _ _=>rfl).shape
 obtain⟨x11,a11,m11,c11,b11,l11,d11,av11,nv11,cv11,ac11,nc11,cc11,e11⟩:=(hk11 s11 (qw _) fun _ _ _=>rfl).shape
 subst e10;subst e11
 have o911:Ae s9.next s9 s11:=o10.trans (o11.mono hs10)
 obtain⟨st12,_⟩:=CF (cs0:=[.bool false,.slice none 0 (some 0),.slice none 0 (some 0),.slice none 0 (some 0),.slice none 0 (some 0)]) rfl (x:=x10) (a:=a10) (n:=m10) (c:=kE) (b:=b10) (m:=l10) (d:=d10) (av:=av10) (nv:=nv10) (cv:=cv10) (ac:=ac10) (nc:=nc10) (cc:=cc10) ((o911.2 s7.next (by omega)).trans g9)
 generalize hs12:setObj s11 s7.next (BL x10 (.slice a10 m10 kE) (.slice b10 l10 d10) (.slice av10 nv10 cv10) (.slice ac10 nc10 cc10))=s12 at st12
 have g12:s12.heap.get s7.next=some (BL x10 (.slice a10 m10 kE) (.slice b10 l10 d10) (.slice av10 nv10 cv10) (.slice ac10 nc10 cc10)):=by rw[← hs12,Ww]
 have f12:∀j,j≠s7.next→s12.heap.get j=s11.heap.get j:=fun j hj=>by rw[← hs12,Wx _ hj]
 have n12:s12.next=s11.next:=by rw[← hs12];rfl
 obtain⟨st13,_⟩:=CF (cs0:=[.bool false,.slice none 0 (some 0),.slice none 0 (some 0),.slice none 0 (some 0),.slice none 0 (some 0)]) rfl (x:=x11) (a:=a11) (n:=m11) (c:=c11) (b:=b11) (m:=l11) (d:=d11) (av:=av11) (nv:=nv11) (cv:=cv11) (ac:=ac11) (nc:=nc11) (cc:=cc11) ((f12 (s7.next+1) (by omega)).trans ((o911.2 (s7.next+1) (by omega)).trans g9'))
 generalize hs13:setObj s12 (s7.next+1) (BL x11 (.slice a11 m11 c11) (.slice b11 l11 d11) (.slice av11 nv11 cv11) (.slice ac11 nc11 cc11))=s13 at st13
 have g13B:s13.heap.get (s7.next+1)=some (BL x11 (.slice a11 m11 c11) (.slice b11 l11 d11) (.slice av11 nv11 cv11) (.slice ac11 nc11 cc11)):=by rw[← hs13,Ww]
 have f13:∀j,j≠s7.next+1→s13.heap.get j=s12.heap.get j:=fun j hj=>by rw[← hs13,Wx _ hj]
 have g13A:=(f13 s7.next (by omega)).trans g12
 have n13:s13.next=s12.next:=by rw[← hs13];rfl
 have hKA:=hk10 s13 (by omega) fun j h1 h2=>by rw[f13 j (by omega),f12 j (by omega),o11.2 j h2]
 have hKB:=hk11 s13 (by omega) fun j h1 h2=>by rw[f13 j (by omega),f12 j (by omega)]
 have o713:Ae s7.next s7 s13:=⟨by omega,fun j hj=>by rw[f13 j (by omega),f12 j (by omega),o911.2 j (by omega),o9.2 j hj]⟩
 simp only[st12,st13,oB,Xy,Za,Qa,Qb,Qc,Qd,Qe,Qf,Qg,Qh,Qi,Qj,Qk,Ql,Qm,Qn,true_and,and_true,Qo,Qp,Qq,Qr,Qs,Qt,Qu,Qv,Qw,Qx,Qy,Qz,Ra,Rb,Rc,Rd,Re,Rf,Rg,Rh,Ri,Rj,Rk,Rm,Rn,Ro,Rp,Rq,Rt,Ya,Yb,Yc,Ru,Rw,Zb,Yd,Ye,Ry,Rz,Wa,Wb,Wc,Wd,We]
 refine ZY hE.toGoodN fun s14 w14 o14' hq14=>?_
 have hs14:=o14'.1
 obtain⟨x14,a14,m14,c14,b14,l14,d14,rfl⟩:=hq14.shape
 obtain⟨n15,o15,g15⟩:=Bl s14 ZQ
 obtain⟨st16,_⟩:=Bj (cs0:=[.bool false,.slice none 0 (some 0),.slice none 0 (some 0)]) rfl (x:=x14) (a:=a14) (n:=m14) (c:=c14) (b:=b14) (m:=l14) (d:=d14) g15
 simp only[Bb,Xc,st16,Xy,Za,Qa,Qb,Qc,Qd,Qe,Qf,Qg,Qh,Qi,Qj,Qk,Ql,Qm,Qn,true_and,and_true,Qo,Qp,Qq,Qr,Qs,Qt,Qu,Qv,Qw,Qx,Qy,Qz,Ra,Rb,Rc,Rd,Re,Rf,Rg,Rh,Ri,Rj,Rk,Rm,Rn,Ro,Rp,Rq,Rt,Ya,Yb,Yc,Ru,Rw,Zb,Yd,Ye,Ry,Rz,Wa,Wb,Wc,Wd,We]
 generalize hs16:setObj (newObj s14 ZQ) s14.next (BQ x14 (.slice a14 m14 c14) (.slice b14 l14 d14))=s16
 have o1416:Ae s14.next s14 s16:=by rw[← hs16];exact o15.set (qw _) _
 have n16:s16.next=s14.next+1:=by rw[← hs16];exact n15
 have g16:s16.heap.get s14.next=some (BQ x14 (.slice a14 m14 c14) (.slice b14 l14 d14)):=by rw[← hs16,Ww]
 have o1316:Ae s13.next s13 s16:=o14'.trans (o1416.mono hs14)
 have o716:Ae s7.next s7 s16:=o713.trans (o1316.mono o713.1)
 have hone:QI s16 (.agg [.bool x14,.slice a14 m14 c14,.slice b14 l14 d14]) 1 1:=(hq14.old o1416).qi ⟨by decide,by decide⟩
 have hSh:nH s16 s1.next (s1.next+1) s14.next _ _ _ C1 vs1 cs1 C2 vs2 cs2:=
  ⟨(o716.2 _ (by omega)).trans g7A,(o716.2 _ (by omega)).trans g7B,g16,by omega,by omega,by omega,hw4s.old o716,hw5s.old o716,hone,by omega,by omega⟩
 have hXA16:=hXA.old o716
 have hXB16:=hXB.old o716
 have hKA16:=hKA.old o1316
 have hKB16:=hKB.old o1316
 have gKA16:=(o1316.2 s7.next (by omega)).trans g13A
 have gKB16:=(o1316.2 (s7.next+1) (by omega)).trans g13B
 refine mf hE hSh hn fun S1 ro Rs oS1 hro1 hro2 gro hRl hRs hpw=>?_
 simp only[oC,Qa,Qb,Qc,Qd,Qe,Qf,Qg,Qh,Qi,Qj,Qk,Ql,Qm,Qn,true_and,and_true,Qo,Qp,Qq,Qr,Qs,Qt,Qu,Qv,Qw,Qx,Qy,Qz,Ra,Rb,Rc,Rd,Re,Rf,Rg,Rh,Ri,Rj,Rk,Rm,Rn,Ro,Rp,Rq,Rt,Ya,Yb,Yc,Ru,Rw,Zb,Yd,Ye,Ry,Rz,Wa,Wb,Wc,Wd,We]
 refine SN hE.toGoodN (base:=s16.next) (fun r hr=>(hRs r hr).1) (fun r hr=>(hRs r hr).2.1) hpw (fun r hr=>⟨(hRs r hr).2.2.1,(hRs r hr).2.2.2.1⟩) hro2 hro1 gro (by omega) (fun S y10 y11 y12 y14 y15 y16 hnS hfS=>?_) Rs 0 S1 _ _ _ _ _ rfl (rB _) (qw _) (fun _ _=>rfl) rfl fun r hr=>(hRs r hr).2.2.2.2
 have oS:Ae s16.next s16 S:=⟨by have:=oS1.1;omega,fun j hj=>by rw[hfS j hj,oS1.2 j hj]⟩
 have hShS:=hSh.old oS
 have lAS:=AG (P:=Tryz.prog) (t:=30) B6 Bp hShS.gA rfl
 have hM1:(min cs1.length vs1.length+1) * (3+2)≤9 * (3+2):=rF _ (by omega)
 have hM2:(min cs1.length vs1.length+2) * (3+2)≤10 * (3+2):=rF _ (by omega)
 simp only[iB,if_true,lAS,Qa,Qb,Qc,Qd,Qe,Qf,Qg,Qh,Qi,Qj,Qk,Ql,Qm,Qn,true_and,and_true,Qo,Qp,Qq,Qr,Qs,Qt,Qu,Qv,Qw,Qx,Qy,Qz,Ra,Rb,Rc,Rd,Re,Rf,Rg,Rh,Ri,Rj,Rk,Rm,Rn,Ro,Rp,Rq,Rt,Ya,Yb,Yc,Ru,Rw,Zb,Yd,Ye,Ry,Rz,Wa,Wb,Wc,Wd,We]
 refine bG hE.toGoodN hn hShS.hA (by decide) (by omega) fun S2 w2 T2 oS2 _ hq2 hh2=>?_
 simp only[Qa,Qb,Qc,Qd,Qe,Qf,Qg,Qh,Qi,Qj,Qk,Ql,Qm,Qn,true_and,and_true,Qo,Qp,Qq,Qr,Qs,Qt,Qu,Qv,Qw,Qx,Qy,Qz,Ra,Rb,Rc,Rd,Re,Rf,Rg,Rh,Ri,Rj,Rk,Rm,Rn,Ro,Rp,Rq,Rt,Ya,Yb,Yc,Ru,Rw,Zb,Yd,Ye,Ry,Rz,Wa,Wb,Wc,Wd,We]
 refine Im hE.toGoodN (hq2.spQ hh2 (by omega)) (fun j hj=>(hq2.slots hj).2) fun S3 hn3 hf3=>?_
 have o2S3:Ae S.next S S3:=⟨by have:=oS2.1;omega,fun j hj=>by rw[hf3 j (by have:=oS2.1;omega) (fun h=>by have:=(hq2.slots h).1;omega),oS2.2 j hj]⟩
 have oS3:=oS.trans (o2S3.mono oS.1)
 have hSh3:=hSh.old oS3
 have lA3:=AG (P:=Tryz.prog) (t:=30) B6 Bp hSh3.gA rfl
 simp only[iC,lA3,Qa,Qb,Qc,Qd,Qe,Qf,Qg,Qh,Qi,Qj,Qk,Ql,Qm,Qn,true_and,and_true,Qo,Qp,Qq,Qr,Qs,Qt,Qu,Qv,Qw,Qx,Qy,Qz,Ra,Rb,Rc,Rd,Re,Rf,Rg,Rh,Ri,Rj,Rk,Rm,Rn,Ro,Rp,Rq,Rt,Ya,Yb,Yc,Ru,Rw,Zb,Yd,Ye,Ry,Rz,Wa,Wb,Wc,Wd,We]
 refine kC (vars:=[]) (wals:=[]) (av:=none) (ac:=none) (cells:=[]) hE hSh3.hA (by omega) AZ.nil ⟨rfl,AZ.nil,fun i q hi=>(by simp at hi)⟩ (by decide) fun S4 w4' oS4 hq4 hh4=>?_
 simp only[Qa,Qb,Qc,Qd,Qe,Qf,Qg,Qh,Qi,Qj,Qk,Ql,Qm,Qn,true_and,and_true,Qo,Qp,Qq,Qr,Qs,Qt,Qu,Qv,Qw,Qx,Qy,Qz,Ra,Rb,Rc,Rd,Re,Rf,Rg,Rh,Ri,Rj,Rk,Rm,Rn,Ro,Rp,Rq,Rt,Ya,Yb,Yc,Ru,Rw,Zb,Yd,Ye,Ry,Rz,Wa,Wb,Wc,Wd,We]
 refine Im hE.toGoodN (hq4.spQ hh4 (by decide)) (fun j hj=>(hq4.slots hj).2) fun S5 hn5 hf5=>?_
 have o3S5:Ae S3.next S3 S5:=⟨by have:=oS4.1;omega,fun j hj=>by rw[hf5 j (by have:=oS4.1;omega) (fun h=>by have:=(hq4.slots h).1;omega),oS4.2 j hj]⟩
 have oS5:=oS3.trans (o3S5.mono oS3.1)
 have hSh5:=hSh.old oS5
 have lA5:=AG (P:=Tryz.prog) (t:=30) B6 Bp hSh5.gA rfl
 have lKA5:=AG (P:=Tryz.prog) (t:=30) B6 Bp ((oS5.2 s7.next (by omega)).trans gKA16) rfl
 simp only[iD,lA5,lKA5,Qa,Qb,Qc,Qd,Qe,Qf,Qg,Qh,Qi,Qj,Qk,Ql,Qm,Qn,true_and,and_true,Qo,Qp,Qq,Qr,Qs,Qt,Qu,Qv,Qw,Qx,Qy,Qz,Ra,Rb,Rc,Rd,Re,Rf,Rg,Rh,Ri,Rj,Rk,Rm,Rn,Ro,Rp,Rq,Rt,Ya,Yb,Yc,Ru,Rw,Zb,Yd,Ye,Ry,Rz,Wa,Wb,Wc,Wd,We]
 refine OY hE.toGoodN (hXA16.old oS5) (hKA16.old oS5) (by omega) (by omega) fun S6 oS6=>?_
 have oS6':=oS5.trans (oS6.mono oS5.1)
 have hSh6:=hSh.old oS6'
 have lB6:=AG (P:=Tryz.prog) (t:=30) B6 Bp hSh6.gB rfl
 have lKB6:=AG (P:=Tryz.prog) (t:=30) B6 Bp ((oS6'.2 (s7.next+1) (by omega)).trans gKB16) rfl
 simp only[lB6,lKB6,Qa,Qb,Qc,Qd,Qe,Qf,Qg,Qh,Qi,Qj,Qk,Ql,Qm,Qn,true_and,and_true,Qo,Qp,Qq,Qr,Qs,Qt,Qu,Qv,Qw,Qx,Qy,Qz,Ra,Rb,Rc,Rd,Re,Rf,Rg,Rh,Ri,Rj,Rk,Rm,Rn,Ro,Rp,Rq,Rt,Ya,Yb,Yc,Ru,Rw,Zb,Yd,Ye,Ry,Rz,Wa,Wb,Wc,Wd,We]
 refine OY hE.toGoodN (hXB16.old oS6') (hKB16.old oS6') (by omega) (by omega) fun S7 oS7=>?_
 simp only[Ru,Qa,Qb,Qc,Qd,Qe,Qf,Qg,Qh,Qi,Qj,Qk,Ql,Qm,Qn,true_and,and_true,Qo,Qp,Qq,Qr,Qs,Qt,Qu,Qv,Qw,Qx,Qy,Qz,Ra,Rb,Rc,Rd,Re,Rf,Rg,Rh,Ri,Rj,Rk,Rm,Rn,Ro,Rp,Rq,Rt,Ya,Yb,Yc,Ru,Rw,Zb,Yd,Ye,Ry,Rz,Wa,Wb,Wc,Wd,We]
 have oS7':=oS6'.trans (oS7.mono oS6'.1)
 have o016:=o07.trans (o716.mono o07.1)
 exact hK S7 (o016.trans (oS7'.mono o016.1))
end
end
end Go.Proofs.YtjnkfbpadpmakaaGreatDoor.Am
set_option linter.unusedVariables false
set_option linter.unusedSimpArgs false
set_option maxRecDepth 16000
namespace Go.Proofs.YtjnkfbpadpmakaaGreatDoor.Am
open Go Go.Proofs
noncomputable section
theorem aX{t:TypeId}{k:IntKind}(ht:Tryz.prog.underlying t=some (.int k)){W:World}{base:Nat}{v:Value}(h:Value.okWide Tryz.prog W .any base t v){ρ:BD}{a:AV}(hr:AT ρ [a] v.cells.toList):AY ρ a v:=by
 have hv:v.cells.toList=[v]:=by
  cases v with
  | agg cs=>simp[Value.okWide,ht,Cell.okWide,Cell.ok]at h
  | _=>rfl
 rw[hv]at hr
 cases hr with
 | cons h _=>exact h
section
variable{H:Type}{enc:TypeId×Value→H}{W:World}{base:Nat}
theorem shares4_true{v0 v1:Value}(h0:Value.okWide Tryz.prog W .any base 31 v0)(h1:Value.okWide Tryz.prog W .any base 3 v1)
  {d0 d1:DataW H} {p0 p1:List MemPlace} (t0:DataW.Trod enc Tryz.prog W 0 (fun _=>true) true 31 v0 d0 p0) (t1:DataW.Trod enc Tryz.prog W 0 (fun _=>true) true 3 v1 d1 p1):
  Calls Tryz.prog 5 #[v0,v1] W fun e W'=>e=.returned (.bool true)∧NG W W':=by
 obtain⟨n0,t0⟩:=t0
 obtain⟨n1,t1⟩:=t1
 obtain⟨ρ1,s1,ca,cb,g1,g2,g3,g4,gA,gB⟩:=PI t0 (fun a ha=>aU Tryz.underlying31 h0 a ha) (oW Tryz.prog W)
 obtain⟨ρ2,s2,us1,x,k1,k2,k3,k4,k5,k6⟩:=MQ _ _ _ t1 ρ1 s1 g1
 subst k5
 exact UM k1 (.cons (aW Tryz.underlying31 h0 (g4.mono k2)) (.cons (aX Tryz.underlying3 h1 k4) .nil))
  (Us oX (gA.old k3) (gB.old k3) k6 fun _ _=>rfl)
end
end
end Go.Proofs.YtjnkfbpadpmakaaGreatDoor.Am
