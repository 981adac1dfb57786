/- Package nat: Cmp, short, walked; conditions: none. -/
import Derived.Test.YtjnkfbpadpmakaaGreatDoorAmM05
import Derived.Test.YtjnkfbpadpmakaaGreatDoorProg
set_option linter.unusedVariables false
set_option linter.unusedSimpArgs false
set_option maxRecDepth 12000
namespace Go.Proofs.YtjnkfbpadpmakaaGreatDoor.Am
open Go Go.Proofs
noncomputable section
def HG(a b:Nat):Int:=if a<b then -1 else if b<a then 1 else 0
theorem K1:∀ (n:Nat),n≠0→LB ^ ((AQ n).length - 1)≤n:=by
  intro n
  induction n using Nat.strongRecOn with
  | _ n ih =>
    intro h
    rw[En h,rn,tL]
    by_cases h2:n / LB=0
    · rw[h2,BJ]
      show LB ^ 0≤n
      rw[Nat.pow_zero];omega
    · have := ih (n / LB) (Nat.div_lt_self (by omega) (by decide)) h2
      have hne:(AQ (n / LB)).length≠0:=fun e=>Bs h2 (tQ e)
      obtain⟨m,hm⟩:∃m,(AQ (n / LB)).length=m+1:=⟨(AQ (n / LB)).length - 1,by omega⟩
      rw[hm,tL]at this
      rw[hm,sP]
      exact rD (rF LB this) (Nat.div_mul_le_self n LB)
theorem Y9(n:Nat):n<LB ^ (AQ n).length:=by
 have:=Cp (AX n)
 rw[Ab]at this
 exact this
theorem Ei{a b:Nat}(h:(AQ a).length<(AQ b).length):a<b:=by
 have hb:b≠0:=fun e=>by subst e;rw[BJ]at h;simp at h
 have h1:=Y9 a
 have h2:=K1 b hb
 have:LB ^ (AQ a).length≤LB ^ ((AQ b).length - 1):=sn BG (by omega)
 omega
theorem Pe{la lb:List Nat}{k x y:Nat}(hl:la.length=lb.length)(ha:Bv la)(hb:Bv lb)(hx:la[k]? = some x)(hy:lb[k]? = some y)(hd:la.drop (k+1)=lb.drop (k+1))(h:x<y):AH la<AH lb:=by
 have hka:k<la.length:=by
  rcases qz k la.length with h' | h'
  ·exact h'
  ·rw[rI h']at hx;cases hx
 have e:∀ (l:List Nat) (z:Nat),l[k]? = some z→k<l.length→AH l=AH (l.take k)+LB ^ k * (z+LB * AH (l.drop (k+1))):=by
  intro l z hz hkl
  have h1:=Bc (l.take k) (l.drop k)
  rw[sw,rR,so (by omega),FV hz]at h1
  exact h1
 rw[e la x hx hka,e lb y hy (by omega),hd]
 have h1:=Cp (ha.take k)
 rw[rR,so (by omega)]at h1
 generalize LB * AH (lb.drop (k+1))=z
 have h2:LB ^ k * (x+z+1)≤LB ^ k * (y+z):=rf _ (by omega)
 rw[rY,rG]at h2
 omega
section
variable{E:CR}{s:AE}
theorem YU       {a b : Option (Nat × Nat)} {ca cb : Option Nat} {la lb : List Nat} (hl : la.length = lb.length) (ha : Bv  la) (hb : Bv  lb) (hca : AZ      s.next s a (us la)) (hcb : AZ      s.next s b (us lb)) (h63 : la.length ≤ 100000000000) {Q : Ax   → Prop} (x2 x4 x5 : AV)
    (hq:la=lb→∀y3 y6 y7 y8,Q ⟨.exit 1,[.slice a la.length ca,.slice b lb.length cb,x2,y3,x4,x5,y6,y7,y8],[],s⟩)
    (hr:∀z y3 y6 y7 y8,z=HG (AH la) (AH lb)→Q ⟨.ret,[.slice a la.length ca,.slice b lb.length cb,iv z,y3,x4,x5,y6,y7,y8],[],s⟩):
    ∀ (k:Nat) (x6 x7 x8:AV),k≤la.length→la.drop k=lb.drop k→WC E none (.loop He) Q [.slice a la.length ca,.slice b lb.length cb,x2,iv ((k:Int) - 1),x4,x5,x6,x7,x8] [] s:=by
  intro k
  induction k with
  | zero =>
    intro x6 x7 x8 hk hd
    refine WC.loop' ?_
    have d0:decide ((0:Int)≤((0:Nat):Int) - 1)=false:=rfl
    simp only[He,Ow,Wb,d0,Qa,Qb,Qc,Qd,Qe,Qf,Qg,Qh,Qi,Qj,Qk,Ql,Qm,Qn,true_and,and_true,Qo,Qp,Qq,Qr,Qs,Qt,Qu,Qv,Qw,Qx,Qy,Qz,Ra,Rb,Rc,Rd,Re,Rf,Rg,Rh,Ri,Rj,Rk,Rm,Rn,Ro,Rp,Rq,Rt,Ya,Yb,Yc,Ru,Rw,Zb,Yd,Ye,Ry,Rz,Wa,Wb,Wc,Wd,We]
    exact hq (by simpa using hd) _ _ _ _
  | succ k ih =>
    intro x6 x7 x8 hk hd
    have hx:la[k]? = some la[k]:=qy (by omega)
    generalize la[k]=x at hx
    have hy:lb[k]? = some (lb[k]'(by omega)):=qy (by omega)
    generalize lb[k]'(by omega)=y at hy
    obtain⟨i,o,rfl,_,hload⟩:=hca k _ (Cy hx)
    obtain⟨i2,o2,rfl,_,hload2⟩:=hcb k _ (Cy hy)
    have e0:((k+1:Nat):Int) - 1=(k:Int):=by omega
    have d0:decide ((0:Int)≤(k:Int))=true:=decide_eq_true (by omega)
    have e1:=Ah (cap:=ca) (i:=i) (o:=o) Tryz.underlying22 Ci (show k<la.length by omega)
    have e2:AA Tryz.prog s 76 (.ptr (some (i,o+k * 1)))=some (BV x):=CJ GH (by rw[rG];exact hload)
    have e3:=Ah (cap:=cb) (i:=i2) (o:=o2) Tryz.underlying22 Ci (show k<lb.length by omega)
    have e4:AA Tryz.prog s 76 (.ptr (some (i2,o2+k * 1)))=some (BV y):=CJ GH (by rw[rG];exact hload2)
    have e5:=oh Tryz.prog 76 (a:=x) (b:=y) .u32
    have e6:=M5 Tryz.prog 76 (a:=x) (b:=y) .u32
    have e7:=C3 Tryz.prog 3 (k:Int) 1 ⟨by omega,by omega⟩
    refine WC.loop' ?_
    generalize hW:WC E none (Ad.loop He) Q=WW
    rw[e0]
    by_cases h1:x<y
    · have d1:decide (x<y)=true:=decide_eq_true h1
      simp only[He,Ow,TI,jA,Wb,d0,e1,e2,e3,e4,e5,d1,Qa,Qb,Qc,Qd,Qe,Qf,Qg,Qh,Qi,Qj,Qk,Ql,Qm,Qn,true_and,and_true,Qo,Qp,Qq,Qr,Qs,Qt,Qu,Qv,Qw,Qx,Qy,Qz,Ra,Rb,Rc,Rd,Re,Rf,Rg,Rh,Ri,Rj,Rk,Rm,Rn,Ro,Rp,Rq,Rt,Ya,Yb,Yc,Ru,Rw,Zb,Yd,Ye,Ry,Rz,Wa,Wb,Wc,Wd,We]
      refine hr _ _ _ _ _ ?_
      have:=Pe hl ha hb hx hy hd h1
      unfold HG
      rw[if_pos this]
    · have d1:decide (x<y)=false:=decide_eq_false h1
      by_cases h2:y<x
      · have d2:decide (y<x)=true:=decide_eq_true h2
        simp only[He,Ow,TI,RK,YG,Wb,d0,e1,e2,e3,e4,e5,e6,d1,d2,Qa,Qb,Qc,Qd,Qe,Qf,Qg,Qh,Qi,Qj,Qk,Ql,Qm,Qn,true_and,and_true,Qo,Qp,Qq,Qr,Qs,Qt,Qu,Qv,Qw,Qx,Qy,Qz,Ra,Rb,Rc,Rd,Re,Rf,Rg,Rh,Ri,Rj,Rk,Rm,Rn,Ro,Rp,Rq,Rt,Ya,Yb,Yc,Ru,Rw,Zb,Yd,Ye,Ry,Rz,Wa,Wb,Wc,Wd,We]
        refine hr _ _ _ _ _ ?_
        have:=Pe hl.symm hb ha hy hx hd.symm h2
        unfold HG
        rw[if_neg (by omega),if_pos this]
      · have d2 : decide (y < x) = false := decide_eq_false h2
        have hxy:x=y:=by omega
        simp only[He,Ow,TI,RK,YH,Wb,d0,e1,e2,e3,e4,e5,e6,d1,d2,e7,Qa,Qb,Qc,Qd,Qe,Qf,Qg,Qh,Qi,Qj,Qk,Ql,Qm,Qn,true_and,and_true,Qo,Qp,Qq,Qr,Qs,Qt,Qu,Qv,Qw,Qx,Qy,Qz,Ra,Rb,Rc,Rd,Re,Rf,Rg,Rh,Ri,Rj,Rk,Rm,Rn,Ro,Rp,Rq,Rt,Ya,Yb,Yc,Ru,Rw,Zb,Yd,Ye,Ry,Rz,Wa,Wb,Wc,Wd,We]
        rw[← hW]
        refine ih _ _ _ (by omega) ?_
        rw[sD (show k<la.length by omega),sD (show k<lb.length by omega),hd]
        have g1:la[k]=x:=by rw[qy (by omega)]at hx;exact Option.some.inj hx
        have g2:lb[k]'(by omega)=y:=by rw[qy (by omega)]at hy;exact Option.some.inj hy
        rw[g1,g2,hxy]
theorem YV     (hE : GoodN E) {va vb : AV} {la lb : List Nat} (ha : C7  s va la) (hb : C7  s vb lb) (hla : la.length ≤ 100000000000) (hlb : lb.length ≤ 100000000000) (hsa : Bv  la) (hsb : Bv  lb) {K : AV → AE  → Prop}
    (hK:∀s',Ae s.next s s'→K (iv (HG (AH la) (AH lb))) s'):WF E 93 [va,vb] K s:=by
  refine hE.go lg (by decide) rfl ?_
  simp only[qn,iz,i5,Qa,Qb,Qc,Qd,Qe,Qf,Qg,Qh,Qi,Qj,Qk,Ql,Qm,Qn,true_and,and_true,Qo,Qp,Qq,Qr,Qs,Qt,Qu,Qv,Qw,Qx,Qy,Qz,Ra,Rb,Rc,Rd,Re,Rf,Rg,Rh,Ri,Rj,Rk,Rm,Rn,Ro,Rp,Rq,Rt,Ya,Yb,Yc,Ru,Rw,Zb,Yd,Ye,Ry,Rz,Wa,Wb,Wc,Wd,We]
  refine Cc hE ha hla fun s1 v1 o1 r1=>?_
  simp only[Qa,Qb,Qc,Qd,Qe,Qf,Qg,Qh,Qi,Qj,Qk,Ql,Qm,Qn,true_and,and_true,Qo,Qp,Qq,Qr,Qs,Qt,Qu,Qv,Qw,Qx,Qy,Qz,Ra,Rb,Rc,Rd,Re,Rf,Rg,Rh,Ri,Rj,Rk,Rm,Rn,Ro,Rp,Rq,Rt,Ya,Yb,Yc,Ru,Rw,Zb,Yd,Ye,Ry,Rz,Wa,Wb,Wc,Wd,We]
  refine Cc hE (hb.old o1) hlb fun s2 v2 o2 r2=>?_
  have n1:=r1.n32.old o2
  have n2:=r2.n32
  have hend:=hK s2 (o1.trans (o2.mono o1.1))
  have t1:=Eu la
  have t2:=Eu lb
  rw[Br hsa]at n1 t1
  rw[Br hsb]at n2 t2
  generalize AH la=A at *
  generalize AH lb=B at *
  obtain⟨a,ca,rfl,_,hca⟩:=n1
  obtain⟨b,cb,rfl,_,hcb⟩:=n2
  by_cases h1:(AQ A).length<(AQ B).length
  · have d1 : decide (((AQ    A).length : Int) < ((AQ    B).length : Int)) = true := decide_eq_true (by omega)
    have e:HG A B=-1:=by unfold HG;rw[if_pos (Ei h1)]
    rw[e]at hend
    simp only[TH,i6,AN Tryz.underlying22,Ry,d1,Qa,Qb,Qc,Qd,Qe,Qf,Qg,Qh,Qi,Qj,Qk,Ql,Qm,Qn,true_and,and_true,Qo,Qp,Qq,Qr,Qs,Qt,Qu,Qv,Qw,Qx,Qy,Qz,Ra,Rb,Rc,Rd,Re,Rf,Rg,Rh,Ri,Rj,Rk,Rm,Rn,Ro,Rp,Rq,Rt,Ya,Yb,Yc,Ru,Rw,Zb,Yd,Ye,Ry,Rz,Wa,Wb,Wc,Wd,We]
    exact hend
  · have d1:decide (((AQ A).length:Int)<((AQ B).length:Int))=false:=decide_eq_false (by omega)
    by_cases h2:(AQ B).length<(AQ A).length
    · have d2 : decide (((AQ    B).length : Int) < ((AQ    A).length : Int)) = true := decide_eq_true (by omega)
      have hlt:=Ei h2
      have e:HG A B=1:=by unfold HG;rw[if_neg (by omega),if_pos hlt]
      rw[e]at hend
      simp only[TH,YJ,i7,AN Tryz.underlying22,Ry,Rz,d1,d2,Qa,Qb,Qc,Qd,Qe,Qf,Qg,Qh,Qi,Qj,Qk,Ql,Qm,Qn,true_and,and_true,Qo,Qp,Qq,Qr,Qs,Qt,Qu,Qv,Qw,Qx,Qy,Qz,Ra,Rb,Rc,Rd,Re,Rf,Rg,Rh,Ri,Rj,Rk,Rm,Rn,Ro,Rp,Rq,Rt,Ya,Yb,Yc,Ru,Rw,Zb,Yd,Ye,Ry,Rz,Wa,Wb,Wc,Wd,We]
      exact hend
    · have d2 : decide (((AQ    B).length : Int) < ((AQ    A).length : Int)) = false := decide_eq_false (by omega)
      have hl:(AQ A).length=(AQ B).length:=by omega
      have e7:=C3 Tryz.prog 3 ((AQ A).length:Int) 1 ⟨by omega,by omega⟩
      simp only[TH,YJ,i9,AN Tryz.underlying22,Ry,Rz,d1,d2,e7,Qa,Qb,Qc,Qd,Qe,Qf,Qg,Qh,Qi,Qj,Qk,Ql,Qm,Qn,true_and,and_true,Qo,Qp,Qq,Qr,Qs,Qt,Qu,Qv,Qw,Qx,Qy,Qz,Ra,Rb,Rc,Rd,Re,Rf,Rg,Rh,Ri,Rj,Rk,Rm,Rn,Ro,Rp,Rq,Rt,Ya,Yb,Yc,Ru,Rw,Zb,Yd,Ye,Ry,Rz,Wa,Wb,Wc,Wd,We]
      refine YU hl (AX A) (AX B) hca hcb (by omega) _ _ _ (fun heq y3 y6 y7 y8=>?_) (fun z y3 y6 y7 y8 hz=>?_) (AQ A).length _ _ _ (qw _) (by rw[List.drop_length,hl,List.drop_length])
      · have:A=B:=Uc heq
        subst this
        have e:HG A A=0:=by unfold HG;rw[if_neg (Nat.lt_irrefl _),if_neg (Nat.lt_irrefl _)]
        rw[e]at hend
        simp only[YI,if_true,Qa,Qb,Qc,Qd,Qe,Qf,Qg,Qh,Qi,Qj,Qk,Ql,Qm,Qn,true_and,and_true,Qo,Qp,Qq,Qr,Qs,Qt,Qu,Qv,Qw,Qx,Qy,Qz,Ra,Rb,Rc,Rd,Re,Rf,Rg,Rh,Ri,Rj,Rk,Rm,Rn,Ro,Rp,Rq,Rt,Ya,Yb,Yc,Ru,Rw,Zb,Yd,Ye,Ry,Rz,Wa,Wb,Wc,Wd,We]
        exact hend
      · rw[Ab,Ab]at hz
        subst hz
        simp only[Qa,Qb,Qc,Qd,Qe,Qf,Qg,Qh,Qi,Qj,Qk,Ql,Qm,Qn,true_and,and_true,Qo,Qp,Qq,Qr,Qs,Qt,Qu,Qv,Qw,Qx,Qy,Qz,Ra,Rb,Rc,Rd,Re,Rf,Rg,Rh,Ri,Rj,Rk,Rm,Rn,Ro,Rp,Rq,Rt,Ya,Yb,Yc,Ru,Rw,Zb,Yd,Ye,Ry,Rz,Wa,Wb,Wc,Wd,We]
        exact hend
end
theorem mX(n:Nat):SQ [AV.int .u32 0] n=us (List.replicate n 0):=by
 induction n with
 | zero=>rfl
 | succ n ih=>show [AV.int .u32 0]++SQ [AV.int .u32 0] n=_;rw[ih];rfl
theorem Nt(n:Nat)(h:n≤100000000000):CW Tryz.prog 22 (iv (n:Int)) (iv (n:Int))=some (R 76 1 false (us (List.replicate n 0)),.slice n):=by
 have e:CW Tryz.prog 22 (.int .i64 (.ofNat n)) (.int .i64 (.ofNat n))=some (Gi 76 1 (SQ [AV.int .u32 0] n),.slice n):=by
  simp[CW,Tryz.underlying22,UL,Ci,pn,AL,Cn (show 4 * n≤1099511627776 by omega),Cn (show n≤1099511627776 by omega),AV.cells]
 rw[mX]at e
 exact e
structure L0(s s':AE)(i:Nat):Prop where
 next:s'.next=s.next
 get:∀j,j≠i→s'.heap.get j=s.heap.get j
theorem L0.refl(s:AE)(i:Nat):L0 s s i:=⟨rfl,fun _ _=>rfl⟩
theorem L0.set{s s':AE}{i:Nat}(h:L0 s s' i)(o:BC):L0 s (setObj s' i o) i:=⟨h.next,fun j hj=>(Wx o hj).trans (h.get j hj)⟩
theorem L0.old{s s':AE}{i b:Nat}(h:L0 s s' i)(hb:b≤i):Ae b s s':=⟨rV h.next.symm,fun j hj=>h.get j (by omega)⟩
section
variable{E:CR}{s:AE}
theorem SX{s1:AE}{x:Nat}(hx:0<x)(hxB:x≤4294967296){a:Option (Nat×Nat)}{cap:Option Nat}{l:List Nat}{b qi:Nat}(hc:AZ b s1 a (us l))(hb:b≤qi)(hl:l.length≤100000000000)(hs:Bv l){Q:Ax→Prop}
  (hq:∀ (s':AE) (y4 y5:AV),L0 s1 s' qi→s'.heap.get qi=some (R 76 1 false (us (BS x l).1))→Q ⟨.exit 0,[.slice a l.length cap,Aj x,.slice (some (qi,0)) l.length (some l.length),Aj (BS x l).2,y4,y5],[],s'⟩):
  ∀ (k:Nat) (s':AE) (x5:AV),k≤l.length→L0 s1 s' qi→s'.heap.get qi=some (R 76 1 false (us (List.replicate k 0++(BS x (l.drop k)).1))) →
   WC E none (.loop Ox) Q [.slice a l.length cap,Aj x,.slice (some (qi,0)) l.length (some l.length),Aj (BS x (l.drop k)).2,iv ((k:Int) - 1),x5] [] s':=by
 intro k
 induction k with
 | zero =>
  intro s' x5 hk ho hg
  have d0:decide ((0:Int)≤((0:Nat):Int) - 1)=false:=rfl
  refine WC.loop' ?_
  simp only[Ox,YK,Wb,d0,Qa,Qb,Qc,Qd,Qe,Qf,Qg,Qh,Qi,Qj,Qk,Ql,Qm,Qn,true_and,and_true,Qo,Qp,Qq,Qr,Qs,Qt,Qu,Qv,Qw,Qx,Qy,Qz,Ra,Rb,Rc,Rd,Re,Rf,Rg,Rh,Ri,Rj,Rk,Rm,Rn,Ro,Rp,Rq,Rt,Ya,Yb,Yc,Ru,Rw,Zb,Yd,Ye,Ry,Rz,Wa,Wb,Wc,Wd,We]
  exact hq s' _ _ ho hg
 | succ k ih =>
  intro s' x5 hk ho hg
  have hy:l[k]? = some l[k]:=qy (by omega)
  have hdk:l.drop k=l[k]::l.drop (k+1):=sD (by omega)
  generalize l[k]=y at hy hdk
  have hys:y<4294967296:=hs y (rQ hy)
  obtain⟨i,o,rfl,hi,hload⟩:=hc k _ (Cy hy)
  obtain⟨_,v2,v3⟩:=D9 hx (l.drop (k+1))
  have hsl:BS x (l.drop k)=(((BS x (l.drop (k+1))).2 * LB+y) / x::(BS x (l.drop (k+1))).1,((BS x (l.drop (k+1))).2 * LB+y) % x):=by rw[hdk];rfl
  have hLB:LB=4294967296:=rfl
  rw[hLB]at hsl
  rw[hsl]at ih
  generalize BS x (l.drop (k+1))=T at *
  obtain⟨q,r⟩:=T
  simp only at *
  have hqlt:(r * 4294967296+y) / x<4294967296:=by
   rw[sK hx]
   have:(r+1) * 4294967296≤x * 4294967296:=rF _ v2
   rw[rK]at this
   rw[rM _ x]
   omega
  have e0:((k+1:Nat):Int) - 1=(k:Int):=by omega
  have d0:decide ((0:Int)≤(k:Int))=true:=decide_eq_true (by omega)
  have e1:AS Tryz.prog .shl 69 (Aj r) (.int .u64 32)=some (Aj (r * 4294967296)):=M6 Tryz.prog 69 (k:=.u64) (n:=32) (by decide) (by show r * 4294967296<_;omega)
  have e2:=Ah (cap:=cap) (i:=i) (o:=o) Tryz.underlying22 Ci (show k<l.length by omega)
  have e3:AA Tryz.prog s' 76 (.ptr (some (i,o+k * 1)))=some (BV y):=CJ GH (by rw[rG,Dr (ho.get i (by omega))];exact hload)
  have e4:=dC Tryz.prog 69 (a:=r) (b:=y) (by omega) hys
  have e5:=j6 Tryz.prog 69 (a:=r * 4294967296+y) (b:=x) (by omega) (by omega)
  have e6:(r * 4294967296+y) / x % 4294967296=(r * 4294967296+y) / x:=rv hqlt
  have e7:=Ah (cap:=some l.length) (i:=qi) (o:=0) Tryz.underlying22 Ci (show k<l.length by omega)
  rw[rG,rE]at e7
  have hlen:k<(us (List.replicate (k+1) 0++q)).length:=by rw[CY,rL,List.length_replicate];omega
  have e8:=Bo (P:=Tryz.prog) (t:=76) (v:=BV ((r * 4294967296+y) / x)) Ci hg hlen rfl
  have e9:=j7 Tryz.prog 69 (a:=r * 4294967296+y) (b:=x) (by omega)
  have e10:=C3 Tryz.prog 3 (k:Int) 1 ⟨by omega,by omega⟩
  have hrow:(us (List.replicate (k+1) 0++q)).set k (BV ((r * 4294967296+y) / x))=us (List.replicate k 0++((r * 4294967296+y) / x::q)):=by
   rw[Gu]
   congr 1
   rw[List.replicate_succ',rZ,List.set_append_right _ _ (by simp)]
   simp
  rw[hrow]at e8
  refine WC.loop' ?_
  generalize hW:WC E none (Ad.loop Ox) Q=WW
  rw[e0]
  simp only[Ox,YK,jE,jF,jG,jH,Wb,d0,e1,e2,e3,Bq hys,e4,e5,CC,e6,e7,e8,e9,e10,Xy,Za,Qa,Qb,Qc,Qd,Qe,Qf,Qg,Qh,Qi,Qj,Qk,Ql,Qm,Qn,true_and,and_true,Qo,Qp,Qq,Qr,Qs,Qt,Qu,Qv,Qw,Qx,Qy,Qz,Ra,Rb,Rc,Rd,Re,Rf,Rg,Rh,Ri,Rj,Rk,Rm,Rn,Ro,Rp,Rq,Rt,Ya,Yb,Yc,Ru,Rw,Zb,Yd,Ye,Ry,Rz,Wa,Wb,Wc,Wd,We]
  rw[← hW]
  exact ih _ _ (by omega) (ho.set _) (Ww _ _ _)
theorem P7(hE:GoodN E){v:AV}{l:List Nat}(hv:C7 s v l)(hl:l.length≤10000000000)(hs:Bv l){x:Nat}(hx:0<x)(hxB:x≤4294967296){K:AV→AE→Prop}(hK:∀s' v',Ae s.next s s'→NR s.next s' v' (Du (BS x l).1)→K (.tuple [v',Aj (BS x l).2]) s'):
  WF E 94 [v,Aj x] K s:=by
 obtain⟨a,cap,rfl,hcap,hc⟩:=hv
 have e1:=Nt l.length (by omega)
 have e2:=C3 Tryz.prog 3 (l.length:Int) 1 ⟨by omega,by omega⟩
 have ho:=Ae.new s (R 76 1 false (us (List.replicate l.length 0)))
 refine hE.go lh (by decide) rfl ?_
 simp only[qo,jB,jC,jD,AN Tryz.underlying22,e1,e2,Xy,Xe,Qa,Qb,Qc,Qd,Qe,Qf,Qg,Qh,Qi,Qj,Qk,Ql,Qm,Qn,true_and,and_true,Qo,Qp,Qq,Qr,Qs,Qt,Qu,Qv,Qw,Qx,Qy,Qz,Ra,Rb,Rc,Rd,Re,Rf,Rg,Rh,Ri,Rj,Rk,Rm,Rn,Ro,Rp,Rq,Rt,Ya,Yb,Yc,Ru,Rw,Zb,Yd,Ye,Ry,Rz,Wa,Wb,Wc,Wd,We]
 have hg0:(newObj s (R 76 1 false (us (List.replicate l.length 0)))).heap.get s.next=some (R 76 1 false (us (List.replicate l.length 0++(BS x (l.drop l.length)).1))):=by
  rw[AP,if_pos rfl,List.drop_length]
  simp[BS]
 have h0:AV.int .u64 0=Aj (BS x (l.drop l.length)).2:=by rw[List.drop_length];rfl
 rw[h0]
 refine SX (s1:=newObj s (R 76 1 false (us (List.replicate l.length 0)))) hx hxB (hc.old ho (qw _)) (qw s.next) (by omega) hs (fun s' y4 y5 o' hg'=>?_) l.length _ _ (qw _) (L0.refl _ _) hg0
 obtain⟨v1,v2,v3⟩:=D9 hx l
 have hsn:s'.next=s.next+1:=o'.next
 have hq:C7 s' (.slice (some (s.next,0)) l.length (some l.length)) (BS x l).1:=
  ⟨some (s.next,0),some l.length,by rw[v3],.inl ⟨l.length,rfl,by omega,fun e=>by cases e⟩,J7 hg' (by omega)⟩
 simp only[jI,if_true,Qa,Qb,Qc,Qd,Qe,Qf,Qg,Qh,Qi,Qj,Qk,Ql,Qm,Qn,true_and,and_true,Qo,Qp,Qq,Qr,Qs,Qt,Qu,Qv,Qw,Qx,Qy,Qz,Ra,Rb,Rc,Rd,Re,Rf,Rg,Rh,Ri,Rj,Rk,Rm,Rn,Ro,Rp,Rq,Rt,Ya,Yb,Yc,Ru,Rw,Zb,Yd,Ye,Ry,Rz,Wa,Wb,Wc,Wd,We]
 refine Cc hE hq (by omega) fun s2 v2 o2 r2=>?_
 simp only[Qa,Qb,Qc,Qd,Qe,Qf,Qg,Qh,Qi,Qj,Qk,Ql,Qm,Qn,true_and,and_true,Qo,Qp,Qq,Qr,Qs,Qt,Qu,Qv,Qw,Qx,Qy,Qz,Ra,Rb,Rc,Rd,Re,Rf,Rg,Rh,Ri,Rj,Rk,Rm,Rn,Ro,Rp,Rq,Rt,Ya,Yb,Yc,Ru,Rw,Zb,Yd,Ye,Ry,Rz,Wa,Wb,Wc,Wd,We]
 exact hK s2 v2 (ho.trans ((o'.old (qw _)).trans (o2.mono (by omega)))) (r2.mono (by omega))
end
def Fe(cu:List Nat)(off:Nat)(d:List Nat):List Nat:=cu.take off++d++cu.drop (off+d.length)
theorem Nw(cu:List Nat)(off:Nat):Fe cu off []=cu:=by simp[Fe,sw]
theorem G4{cu:List Nat}{off:Nat}{d:List Nat}(h:off+d.length≤cu.length):(Fe cu off d).length=cu.length:=by
 unfold Fe
 simp only[rL,rR,sC]
 omega
theorem Nv{cu:List Nat}{off:Nat}{d:List Nat}(h:off+d.length<cu.length):(Fe cu off d)[off+d.length]? = cu[off+d.length]? := by
 unfold Fe
 rw[sI (by simp;omega)]
 simp only[rL,rR]
 rw[sJ]
 congr 1
 omega
theorem KF{cu:List Nat}{off:Nat}{d:List Nat}(h:off+d.length<cu.length)(x:Nat):(Fe cu off d).set (off+d.length) x=Fe cu off (d++[x]):=by
 unfold Fe
 have hl:(cu.take off++d).length=off+d.length:=by simp;omega
 rw[List.set_append_right _ _ (by omega),hl,Nat.sub_self]
 rw[sD h]
 simp[rZ,re]
section
variable{E:CR}{s:AE}
theorem Uz{s1:AE}{q:Nat}(hq32:q<4294967296){ui off:Nat}{capu:Option Nat}{pp:Option Nat}{cu w:List Nat}(hcu:off+w.length≤cu.length)(hsu:Bv cu)(hsw:Bv w){a9:Option (Nat×Nat)}{c9:Option Nat}{b:Nat}(hc9:AZ b s1 a9 (us w))(h9:∀i o,a9=some (i,o)→i≠ui∧some i≠pp)
    (hwl:w.length≤100000000000) {D:List Nat} {cf bf:Nat} {Q:Ax→Prop} (x1 x3:AV)
    (hq:∀ (s':AE) (c br:Nat) (d:List Nat) (y6 y7 y8 y11 y12:AV),EV s1 s' ui pp→d=D→br=bf→Cu s' ui (us (Fe cu off d)) pp →
      Q ⟨.exit 0,[.slice (some (ui,off)) w.length capu,x1,Aj q,x3,Aj c,Aj br,y6,y7,y8,.slice a9 w.length c9,iv (w.length:Int),y11,y12],[],s'⟩):
    ∀ (r : List Nat) (s' : AE)  (c br : Nat) (d : List Nat) (x6 x7 x8 x12 : AV), w.drop d.length = r → d.length ≤ w.length → EV    s1 s' ui pp → c < 4294967296 → br ≤ 1 →
      (d++(CN q ((cu.drop (off+d.length)).zip r) c br).1,(CN q ((cu.drop (off+d.length)).zip r) c br).2)=(D,cf,bf)→Cu s' ui (us (Fe cu off d)) pp →
      WC E none (.loop Kg) Q [.slice (some (ui,off)) w.length capu,x1,Aj q,x3,Aj c,Aj br,x6,x7,x8,.slice a9 w.length c9,iv (w.length:Int),iv (d.length:Int),x12] [] s':=by
  intro r
  induction r with
  | nil =>
    intro s' c br d x6 x7 x8 x12 hd hk ho hc hb hT hg
    have hkl:d.length=w.length:=by
      have:=congrArg List.length hd
      simp at this
      omega
    rw[List.zip_nil_right]at hT
    simp only[CN,sj,Prod.mk.injEq]at hT
    have dd:decide ((d.length:Int)<(w.length:Int))=false:=decide_eq_false (by omega)
    refine WC.loop' ?_
    simp only[Kg,YN,Ry,dd,Qa,Qb,Qc,Qd,Qe,Qf,Qg,Qh,Qi,Qj,Qk,Ql,Qm,Qn,true_and,and_true,Qo,Qp,Qq,Qr,Qs,Qt,Qu,Qv,Qw,Qx,Qy,Qz,Ra,Rb,Rc,Rd,Re,Rf,Rg,Rh,Ri,Rj,Rk,Rm,Rn,Ro,Rp,Rq,Rt,Ya,Yb,Yc,Ru,Rw,Zb,Yd,Ye,Ry,Rz,Wa,Wb,Wc,Wd,We]
    exact hq s' c br d _ _ _ _ _ ho hT.1 hT.2.2 hg
  | cons y r ih =>
    intro s' c br d x6 x7 x8 x12 hd hk ho hc hb hT hg
    have hlt:d.length<w.length:=by
      rcases qz d.length w.length with h' | h'
      · exact h'
      · rw[rl h']at hd;cases hd
    have hy:w[d.length]? = some y:=by
      have:=congrArg (fun l=>l[0]?) hd
      simpa using this
    have hd':w.drop (d.length+1)=r:=by
      have:=congrArg (List.drop 1) hd
      simpa[sR]using this
    have hys:y<4294967296:=hsw y (rQ hy)
    have hlu:off+d.length<cu.length:=by omega
    have hu:cu[off+d.length]? = some cu[off+d.length]:=qy hlu
    have hdu:cu.drop (off+d.length)=cu[off+d.length]::cu.drop (off+(d.length+1)):=sD hlu
    generalize cu[off+d.length]=u at hu hdu
    have hus:u<4294967296:=hsu u (rQ hu)
    rw[hdu,tB]at hT
    simp only[CN]at hT
    obtain⟨i,o,rfl,hi,hload⟩:=hc9 d.length _ (Cy hy)
    have hne:=h9 i o rfl
    have hkk:decide ((d.length:Int)<(w.length:Int))=true:=decide_eq_true (by omega)
    have e1:=Ah (cap:=c9) (i:=i) (o:=o) Tryz.underlying22 Ci hlt
    have e2:AA Tryz.prog s' 76 (.ptr (some (i,o+d.length * 1)))=some (BV y):=CJ GH (by rw[rG,Dr (ho.get i hne.1 hne.2)];exact hload)
    have hqy:q * y≤4294967295 * 4294967295:=rW (by omega) (by omega)
    have e3:=QK Tryz.prog 69 (a:=q) (b:=y) (by omega)
    have e4:=HX Tryz.prog 69 (a:=c) (b:=q * y) (by omega)
    have e5:=Ah (cap:=capu) (i:=ui) (o:=off) Tryz.underlying22 Ci hlt
    have hcell:(us (Fe cu off d))[off+d.length * 1]? = some (BV u):=by rw[rG];exact Cy ((Nv hlu).trans hu)
    have e6:=FU (P:=Tryz.prog) (t:=76) GH hg hcell
    have hLB:LB=4294967296:=rfl
    rw[hLB]at hT
    generalize hc1:c+q * y=c1 at hT e4
    have hc1b:c1<18446744073709551616:=by omega
    have e7:=Js Tryz.prog 69 hc1b
    have hm:c1 % 4294967296<4294967296:=rU _ (by decide)
    generalize hmm:c1 % 4294967296=m at hT e7 hm
    have e8:=M7 Tryz.prog 69 (a:=u) (b:=m) (by omega)
    have e9:=M7 Tryz.prog 69 (a:=(u+18446744073709551616 - m) % 18446744073709551616) (b:=br) (by omega)
    generalize hdd:((u+18446744073709551616 - m) % 18446744073709551616+18446744073709551616 - br) % 18446744073709551616=dd at e9
    have hddb:dd<18446744073709551616:=by rw[← hdd];exact rU _ (by decide)
    have e10:=Js Tryz.prog 69 hddb
    have e11:dd % 4294967296 % 4294967296=dd % 4294967296:=tC _ _
    have e12:dd % 4294967296=(u+4294967296 - m - br) % 4294967296:=by omega
    have e13:AS Tryz.prog .shr 69 (Aj dd) (.int .u64 63)=some (Aj (dd / 9223372036854775808)):=Ip Tryz.prog 69 (k:=.u64) (n:=63) (by decide)
    have e14:dd / 9223372036854775808=if u<m+br then 1 else 0:=by split<;>omega
    have e15:AS Tryz.prog .shr 69 (Aj c1) (.int .u64 32)=some (Aj (c1 / 4294967296)):=Ip Tryz.prog 69 (k:=.u64) (n:=32) (by decide)
    rw[e12]at e10 e11
    generalize hx:(u+4294967296 - m - br) % 4294967296=x at hT e10 e11 e12
    have hlm:off+d.length * 1<(us (Fe cu off d)).length:=by rw[CY,G4 (by omega)];omega
    obtain⟨s2,e16,w1,w2,w3⟩:=Df (P:=Tryz.prog) (t:=76) (v:=BV x) Ci hg hlm rfl
    rw[rG]at e16
    rw[rG,Gu,KF hlu]at w1
    rw[rG]at e5 e6
    have e17:=BU Tryz.prog 3 (d.length:Int) 1 ⟨by omega,by omega⟩
    have e17':((d.length:Int)+1)=((d.length+1:Nat):Int):=by omega
    refine WC.loop' ?_
    generalize hW:WC E none (Ad.loop Kg) Q=WW
    simp only[Kg,YN,jT,jU,jV,jW,jX,jY,YL,Ry,hkk,e1,e2,Bq hys,e3,e4,e5,e6,Bq hus,e7,e8,e9,e10,CC,e11,e16,e15,e13,e14,e17,e17',Xy,Za,Qa,Qb,Qc,Qd,Qe,Qf,Qg,Qh,Qi,Qj,Qk,Ql,Qm,Qn,true_and,and_true,Qo,Qp,Qq,Qr,Qs,Qt,Qu,Qv,Qw,Qx,Qy,Qz,Ra,Rb,Rc,Rd,Re,Rf,Rg,Rh,Ri,Rj,Rk,Rm,Rn,Ro,Rp,Rq,Rt,Ya,Yb,Yc,Ru,Rw,Zb,Yd,Ye,Ry,Rz,Wa,Wb,Wc,Wd,We]
    rw[← hW]
    have hlen1:(d++[x]).length=d.length+1:=by rw[rL];rfl
    have key:=ih s2 (c1 / 4294967296) (if u<m+br then 1 else 0) (d++[x])
    rw[hlen1]at key
    exact key _ _ _ _ hd' hlt (ho.step w2 w3) (by omega) (by split<;>omega) (by rw[rZ];exact hT) w1
theorem cl(hE:GoodN E){q:Nat}(hq32:q<4294967296){ui off:Nat}{capu:Option Nat}{pp:Option Nat}{cu vl:List Nat}(hui:ui<s.next)(hpp:∀q,pp=some q→q<s.next)(hg:Cu s ui (us cu) pp)(hcu:off+(vl.length+1)≤cu.length)(hsu:Bv cu)(hsv:Bv vl){vv:AV}(hv:C7 s vv vl)(hvl:vl.length≤10000000000){K:AV→AE→Prop}
  (hK:∀s',s.next≤s'.next→(∀j,j<s.next→j≠ui→some j≠pp→s'.heap.get j=s.heap.get j)→Cu s' ui (us (Fe cu off (CN q ((cu.drop off).zip (vl++[0])) 0 0).1)) pp →
   K (.bool (decide (0<(CN q ((cu.drop off).zip (vl++[0])) 0 0).2.2))) s'):WF E 97 [.slice (some (ui,off)) (vl.length+1) capu,vv,Aj q] K s:=by
 refine hE.go ls (by decide) rfl ?_
 simp only[qr,jQ,jR,jS,Qa,Qb,Qc,Qd,Qe,Qf,Qg,Qh,Qi,Qj,Qk,Ql,Qm,Qn,true_and,and_true,Qo,Qp,Qq,Qr,Qs,Qt,Qu,Qv,Qw,Qx,Qy,Qz,Ra,Rb,Rc,Rd,Re,Rf,Rg,Rh,Ri,Rj,Rk,Rm,Rn,Ro,Rp,Rq,Rt,Ya,Yb,Yc,Ru,Rw,Zb,Yd,Ye,Ry,Rz,Wa,Wb,Wc,Wd,We]
 refine Kl hE hv (by omega) fun s1 v1 o1 r1=>?_
 obtain⟨O,hD,hO,hsl,_⟩:=r1
 obtain⟨v2,s2,O2,happ,hD2,hn2,hf2,hO2,hsl2⟩:=Ic hD 0 (by omega)
 have hn12:s.next≤s2.next:=by have:=o1.1;omega
 have hkeep:∀j,j<s.next→s2.heap.get j=s.heap.get j:=fun j hj=>by rw[hf2 j (by have:=o1.1;omega) (fun h=>by have:=hO j h;omega)];exact o1.2 j hj
 obtain⟨a9,c9,rfl,hc9⟩:=hD2.cells
 have hids:∀i o,a9=some (i,o)→i≠ui∧some i≠pp:=fun i o e=>by
  subst e
  have hge:s.next≤i:=by
   rcases hsl2 i rfl with h | h
   ·exact hsl i h
   ·have:=o1.1;omega
  exact⟨by omega,fun e=>by have:=hpp i e.symm;omega⟩
 have hw:(vl++[0]).length=vl.length+1:=by rw[rL];rfl
 have happ':Aw Tryz.prog (newObj s1 (R 76 1 false [.int .u32 0])) [22,22] [v1,.slice (some (s1.next,0)) 1 (some 1)]=some (.slice a9 (vl++[0]).length c9,s2):=happ
 simp only[Fz,Xe,happ',AN Tryz.underlying22,Qa,Qb,Qc,Qd,Qe,Qf,Qg,Qh,Qi,Qj,Qk,Ql,Qm,Qn,true_and,and_true,Qo,Qp,Qq,Qr,Qs,Qt,Qu,Qv,Qw,Qx,Qy,Qz,Ra,Rb,Rc,Rd,Re,Rf,Rg,Rh,Ri,Rj,Rk,Rm,Rn,Ro,Rp,Rq,Rt,Ya,Yb,Yc,Ru,Rw,Zb,Yd,Ye,Ry,Rz,Wa,Wb,Wc,Wd,We]
 have hsw:Bv (vl++[0]):=hsv.append (fun x hx=>by rw[List.mem_singleton.1 hx];exact BG)
 rw[← hw]
 refine Uz (s1:=s2) hq32 (w:=vl++[0]) (by rw[hw];exact hcu) hsu hsw hc9 hids (by rw[hw];omega) (D:=(CN q ((cu.drop off).zip (vl++[0])) 0 0).1) (cf:=(CN q ((cu.drop off).zip (vl++[0])) 0 0).2.1) (bf:=(CN q ((cu.drop off).zip (vl++[0])) 0 0).2.2) _ _
  (fun s' c br d y6 y7 y8 y11 y12 ho hd hbr hg'=>?_) (vl++[0]) s2 0 0 [] _ _ _ _ rfl (rB _) (EV.refl _ _ _) (by decide) (by decide) rfl (by rw[Nw];exact hg.keep (hkeep ui hui))
 subst hd;subst hbr
 have e1:AS Tryz.prog .gtr 69 (Aj (CN q ((cu.drop off).zip (vl++[0])) 0 0).2.2) (.int .u64 0)=some (.bool (decide (0<(CN q ((cu.drop off).zip (vl++[0])) 0 0).2.2))):=M5 Tryz.prog 69 (b:=0) .u64
 simp only[YM,e1,if_true,Qa,Qb,Qc,Qd,Qe,Qf,Qg,Qh,Qi,Qj,Qk,Ql,Qm,Qn,true_and,and_true,Qo,Qp,Qq,Qr,Qs,Qt,Qu,Qv,Qw,Qx,Qy,Qz,Ra,Rb,Rc,Rd,Re,Rf,Rg,Rh,Ri,Rj,Rk,Rm,Rn,Ro,Rp,Rq,Rt,Ya,Yb,Yc,Ru,Rw,Zb,Yd,Ye,Ry,Rz,Wa,Wb,Wc,Wd,We]
 exact hK s' (by have:=ho.next;omega) (fun j hj hne hnp=>(ho.get j hne hnp).trans (hkeep j hj)) hg'
theorem UH{s1:AE}{ui off:Nat}{capu:Option Nat}{pp:Option Nat}{cu w:List Nat}(hcu:off+w.length≤cu.length)(hsu:Bv cu)(hsw:Bv w){a9:Option (Nat×Nat)}{c9:Option Nat}{b:Nat}(hc9:AZ b s1 a9 (us w))(h9:∀i o,a9=some (i,o)→i≠ui∧some i≠pp)
  (hwl:w.length≤100000000000) {D:List Nat} {Q:Ax→Prop} (x1:AV)
  (hq:∀ (s':AE) (d:List Nat) (y2 y3 y4 y7 y8:AV),EV s1 s' ui pp→d=D→Cu s' ui (us (Fe cu off d)) pp →
   Q ⟨.exit 0,[.slice (some (ui,off)) w.length capu,x1,y2,y3,y4,.slice a9 w.length c9,iv (w.length:Int),y7,y8],[],s'⟩):
  ∀ (r:List Nat) (s':AE) (c:Nat) (d:List Nat) (x3 x4 x8:AV),w.drop d.length=r→d.length≤w.length→EV s1 s' ui pp→c≤1 →
   d++(EH ((cu.drop (off+d.length)).zip r) c).1=D→Cu s' ui (us (Fe cu off d)) pp →
   WC E none (.loop O9) Q [.slice (some (ui,off)) w.length capu,x1,Aj c,x3,x4,.slice a9 w.length c9,iv (w.length:Int),iv (d.length:Int),x8] [] s':=by
 intro r
 induction r with
 | nil =>
  intro s' c d x3 x4 x8 hd hk ho hc hT hg
  have hkl:d.length=w.length:=by
   have:=congrArg List.length hd
   simp at this
   omega
  rw[List.zip_nil_right]at hT
  simp only[EH,sj]at hT
  have dd:decide ((d.length:Int)<(w.length:Int))=false:=decide_eq_false (by omega)
  refine WC.loop' ?_
  simp only[O9,YO,Ry,dd,Qa,Qb,Qc,Qd,Qe,Qf,Qg,Qh,Qi,Qj,Qk,Ql,Qm,Qn,true_and,and_true,Qo,Qp,Qq,Qr,Qs,Qt,Qu,Qv,Qw,Qx,Qy,Qz,Ra,Rb,Rc,Rd,Re,Rf,Rg,Rh,Ri,Rj,Rk,Rm,Rn,Ro,Rp,Rq,Rt,Ya,Yb,Yc,Ru,Rw,Zb,Yd,Ye,Ry,Rz,Wa,Wb,Wc,Wd,We]
  exact hq s' d _ _ _ _ _ ho hT hg
 | cons y r ih =>
  intro s' c d x3 x4 x8 hd hk ho hc hT hg
  have hlt:d.length<w.length:=by
   rcases qz d.length w.length with h' | h'
   ·exact h'
   ·rw[rl h']at hd;cases hd
  have hy:w[d.length]? = some y:=by
   have:=congrArg (fun l=>l[0]?) hd
   simpa using this
  have hd':w.drop (d.length+1)=r:=by
   have:=congrArg (List.drop 1) hd
   simpa[sR]using this
  have hys:y<4294967296:=hsw y (rQ hy)
  have hlu:off+d.length<cu.length:=by omega
  have hu:cu[off+d.length]? = some cu[off+d.length]:=qy hlu
  have hdu:cu.drop (off+d.length)=cu[off+d.length]::cu.drop (off+(d.length+1)):=sD hlu
  generalize cu[off+d.length]=u at hu hdu
  have hus:u<4294967296:=hsu u (rQ hu)
  rw[hdu,tB]at hT
  simp only[EH]at hT
  obtain⟨i,o,rfl,hi,hload⟩:=hc9 d.length _ (Cy hy)
  have hne:=h9 i o rfl
  have hkk:decide ((d.length:Int)<(w.length:Int))=true:=decide_eq_true (by omega)
  have e1:=Ah (cap:=c9) (i:=i) (o:=o) Tryz.underlying22 Ci hlt
  have e2:AA Tryz.prog s' 76 (.ptr (some (i,o+d.length * 1)))=some (BV y):=CJ GH (by rw[rG,Dr (ho.get i hne.1 hne.2)];exact hload)
  have e5:=Ah (cap:=capu) (i:=ui) (o:=off) Tryz.underlying22 Ci hlt
  have hcell:(us (Fe cu off d))[off+d.length * 1]? = some (BV u):=by rw[rG];exact Cy ((Nv hlu).trans hu)
  have e6:=FU (P:=Tryz.prog) (t:=76) GH hg hcell
  have e3:=HX Tryz.prog 69 (a:=u) (b:=y) (by omega)
  have e4:=HX Tryz.prog 69 (a:=c) (b:=u+y) (by omega)
  have hLB:LB=4294967296:=rfl
  rw[hLB,show u+y+c=c+(u+y) by omega]at hT
  generalize hc1:c+(u+y)=c1 at hT e4
  have hc1b:c1<18446744073709551616:=by omega
  have e7:=Js Tryz.prog 69 hc1b
  have e11:c1 % 4294967296 % 4294967296=c1 % 4294967296:=tC _ _
  have e15:AS Tryz.prog .shr 69 (Aj c1) (.int .u64 32)=some (Aj (c1 / 4294967296)):=Ip Tryz.prog 69 (k:=.u64) (n:=32) (by decide)
  generalize hx:c1 % 4294967296=x at hT e7 e11
  have hlm:off+d.length * 1<(us (Fe cu off d)).length:=by rw[CY,G4 (by omega)];omega
  obtain⟨s2,e16,w1,w2,w3⟩:=Df (P:=Tryz.prog) (t:=76) (v:=BV x) Ci hg hlm rfl
  rw[rG]at e16
  rw[rG,Gu,KF hlu]at w1
  rw[rG]at e5 e6
  have e17:=BU Tryz.prog 3 (d.length:Int) 1 ⟨by omega,by omega⟩
  have e17':((d.length:Int)+1)=((d.length+1:Nat):Int):=by omega
  refine WC.loop' ?_
  generalize hW:WC E none (Ad.loop O9) Q=WW
  simp only[O9,YO,jb,jc,jd,je,jf,Ry,hkk,e1,e2,e5,e6,Bq hus,Bq hys,e3,e4,e7,CC,e11,e16,e15,e17,e17',Xy,Za,Qa,Qb,Qc,Qd,Qe,Qf,Qg,Qh,Qi,Qj,Qk,Ql,Qm,Qn,true_and,and_true,Qo,Qp,Qq,Qr,Qs,Qt,Qu,Qv,Qw,Qx,Qy,Qz,Ra,Rb,Rc,Rd,Re,Rf,Rg,Rh,Ri,Rj,Rk,Rm,Rn,Ro,Rp,Rq,Rt,Ya,Yb,Yc,Ru,Rw,Zb,Yd,Ye,Ry,Rz,Wa,Wb,Wc,Wd,We]
  rw[← hW]
  have hlen1:(d++[x]).length=d.length+1:=by rw[rL];rfl
  have key:=ih s2 (c1 / 4294967296) (d++[x])
  rw[hlen1]at key
  exact key _ _ _ hd' hlt (ho.step w2 w3) (by omega) (by rw[rZ];exact hT) w1
theorem aY(hE:GoodN E){ui off:Nat}{capu:Option Nat}{pp:Option Nat}{cu vl:List Nat}(hui:ui<s.next)(hpp:∀q,pp=some q→q<s.next)(hg:Cu s ui (us cu) pp)(hcu:off+(vl.length+1)≤cu.length)(hsu:Bv cu)(hsv:Bv vl){vv:AV}(hv:C7 s vv vl)(hvl:vl.length≤10000000000){K:AV→AE→Prop}
  (hK:∀s' r,s.next≤s'.next→(∀j,j<s.next→j≠ui→some j≠pp→s'.heap.get j=s.heap.get j)→Cu s' ui (us (Fe cu off (EH ((cu.drop off).zip (vl++[0])) 0).1)) pp→K r s'):WF E 98 [.slice (some (ui,off)) (vl.length+1) capu,vv] K s:=by
 refine hE.go lz (by decide) rfl ?_
 simp only[qt,jZ,ja,Qa,Qb,Qc,Qd,Qe,Qf,Qg,Qh,Qi,Qj,Qk,Ql,Qm,Qn,true_and,and_true,Qo,Qp,Qq,Qr,Qs,Qt,Qu,Qv,Qw,Qx,Qy,Qz,Ra,Rb,Rc,Rd,Re,Rf,Rg,Rh,Ri,Rj,Rk,Rm,Rn,Ro,Rp,Rq,Rt,Ya,Yb,Yc,Ru,Rw,Zb,Yd,Ye,Ry,Rz,Wa,Wb,Wc,Wd,We]
 refine Kl hE hv (by omega) fun s1 v1 o1 r1=>?_
 obtain⟨O,hD,hO,hsl,_⟩:=r1
 obtain⟨v2,s2,O2,happ,hD2,hn2,hf2,hO2,hsl2⟩:=Ic hD 0 (by omega)
 have hn12:s.next≤s2.next:=by have:=o1.1;omega
 have hkeep:∀j,j<s.next→s2.heap.get j=s.heap.get j:=fun j hj=>by rw[hf2 j (by have:=o1.1;omega) (fun h=>by have:=hO j h;omega)];exact o1.2 j hj
 obtain⟨a9,c9,rfl,hc9⟩:=hD2.cells
 have hids:∀i o,a9=some (i,o)→i≠ui∧some i≠pp:=fun i o e=>by
  subst e
  have hge:s.next≤i:=by
   rcases hsl2 i rfl with h | h
   ·exact hsl i h
   ·have:=o1.1;omega
  exact⟨by omega,fun e=>by have:=hpp i e.symm;omega⟩
 have hw:(vl++[0]).length=vl.length+1:=by rw[rL];rfl
 have happ':Aw Tryz.prog (newObj s1 (R 76 1 false [.int .u32 0])) [22,22] [v1,.slice (some (s1.next,0)) 1 (some 1)]=some (.slice a9 (vl++[0]).length c9,s2):=happ
 simp only[Fz,Xe,happ',AN Tryz.underlying22,Qa,Qb,Qc,Qd,Qe,Qf,Qg,Qh,Qi,Qj,Qk,Ql,Qm,Qn,true_and,and_true,Qo,Qp,Qq,Qr,Qs,Qt,Qu,Qv,Qw,Qx,Qy,Qz,Ra,Rb,Rc,Rd,Re,Rf,Rg,Rh,Ri,Rj,Rk,Rm,Rn,Ro,Rp,Rq,Rt,Ya,Yb,Yc,Ru,Rw,Zb,Yd,Ye,Ry,Rz,Wa,Wb,Wc,Wd,We]
 have hsw:Bv (vl++[0]):=hsv.append (fun x hx=>by rw[List.mem_singleton.1 hx];exact BG)
 rw[← hw]
 refine UH (s1:=s2) (w:=vl++[0]) (by rw[hw];exact hcu) hsu hsw hc9 hids (by rw[hw];omega) (D:=(EH ((cu.drop off).zip (vl++[0])) 0).1) _
  (fun s' d y2 y3 y4 y7 y8 ho hd hg'=>?_) (vl++[0]) s2 0 [] _ _ _ rfl (rB _) (EV.refl _ _ _) (by decide) rfl (by rw[Nw];exact hg.keep (hkeep ui hui))
 subst hd
 simp only[if_true,Qa,Qb,Qc,Qd,Qe,Qf,Qg,Qh,Qi,Qj,Qk,Ql,Qm,Qn,true_and,and_true,Qo,Qp,Qq,Qr,Qs,Qt,Qu,Qv,Qw,Qx,Qy,Qz,Ra,Rb,Rc,Rd,Re,Rf,Rg,Rh,Ri,Rj,Rk,Rm,Rn,Ro,Rp,Rq,Rt,Ya,Yb,Yc,Ru,Rw,Zb,Yd,Ye,Ry,Rz,Wa,Wb,Wc,Wd,We]
 exact hK s' _ (by have:=ho.next;omega) (fun j hj hne hnp=>(ho.get j hne hnp).trans (hkeep j hj)) hg'
end
section
variable{E:CR}{s:AE}
theorem EC{a:Option (Nat×Nat)}{l:List Nat}{b:Nat}(hc:AZ b s a (us l)){n k x:Nat}{cap:Option Nat}(hk:k<n)(hx:l[k]? = some x):
  ∃p,AK Tryz.prog 22 (.slice a n cap) (iv (k:Int))=some p∧AA Tryz.prog s 76 p=some (BV x):=by
 obtain⟨i,o,rfl,_,hload⟩:=hc k _ (Cy hx)
 exact⟨_,Ah Tryz.underlying22 Ci hk,CJ GH (by rw[rG];exact hload)⟩
theorem R5         {plo vlo : List Nat} {u2 u1 u0 v2 v1 : Nat} {ap av : Option (Nat × Nat)} {cp cv : Option Nat} (hp : AZ      s.next s ap (us (plo ++ [u2, u1, u0]))) (hv : AZ      s.next s av (us (vlo ++ [v2, v1]))) (hlen : plo.length = vlo.length) (hml : vlo.length ≤ 10000000000) {Q : Ax   → Prop} (x2 x4 : AV)
    (hq:∀ (g:Nat) (y6 y7 y8:AV),g<4294967296→AH (plo++[u2,u1,u0]) / AH (vlo++[v2,v1])≤g→g≤AH (plo++[u2,u1,u0]) / AH (vlo++[v2,v1])+1 →
      Q ⟨.exit 0,[.slice ap (vlo.length+3) cp,.slice av (vlo.length+2) cv,x2,iv ((vlo.length+2:Nat):Int),x4,Aj g,y6,y7,y8],[],s⟩):
    ∀ (g left:Nat) (x7 x8:AV),GE plo vlo u2 u1 u0 v2 v1 g left→left<4294967296→g≤4294967297 →
      WC E none (.loop Kf) Q [.slice ap (vlo.length+3) cp,.slice av (vlo.length+2) cv,x2,iv ((vlo.length+2:Nat):Int),x4,Aj g,Aj left,x7,x8] [] s:=by
  have hLB:LB=4294967296:=rfl
  intro g
  induction g with
  | zero =>
    intro left x7 x8 hI hl hg
    have hc2:=hI.c2
    have hc1:=hI.c1
    have hb2:=hI.b2
    rw[hLB]at hc2 hc1 hb2
    have s1:=C3 Tryz.prog 3 ((vlo.length+2:Nat):Int) 1 ⟨by omega,by omega⟩
    have s1':((vlo.length+2:Nat):Int) - 1=((vlo.length+1:Nat):Int):=by omega
    have s2:=C3 Tryz.prog 3 ((vlo.length+2:Nat):Int) 2 ⟨by omega,by omega⟩
    have s2':((vlo.length+2:Nat):Int) - 2=((vlo.length:Nat):Int):=by omega
    obtain⟨p1,i1,l1⟩:=EC (cap:=cv) (n:=vlo.length+2) hv (show vlo.length<vlo.length+2 by omega) (x:=v2) (by simp)
    obtain⟨p2,i2,l2⟩:=EC (cap:=cp) (n:=vlo.length+3) hp (k:=vlo.length) (by omega) (x:=u2) (by rw[← hlen];simp)
    have d0:AS Tryz.prog .gtr 69 (Aj 0) (.int .u64 4294967295)=some (.bool false):=by kernel_rfl
    have m1:=QK Tryz.prog 69 (a:=0) (b:=v2) (by omega)
    have m2:AS Tryz.prog .shl 69 (Aj left) (.int .u64 32)=some (Aj (left * 4294967296)):=M6 Tryz.prog 69 (k:=.u64) (n:=32) (by decide) (by show left * 4294967296<_;omega)
    have m3:=dC Tryz.prog 69 (a:=left) (b:=u2) (by omega) hb2
    have m4:=M5 Tryz.prog 69 (a:=0 * v2) (b:=left * 4294967296+u2) .u64
    have m5:decide (left * 4294967296+u2<0 * v2)=false:=decide_eq_false (by omega)
    refine WC.loop' ?_
    simp only[Kf,MM,d0,s2,s2',i1,l1,Bq hc2,m1,m2,i2,l2,Bq hb2,m3,m4,m5,Qa,Qb,Qc,Qd,Qe,Qf,Qg,Qh,Qi,Qj,Qk,Ql,Qm,Qn,true_and,and_true,Qo,Qp,Qq,Qr,Qs,Qt,Qu,Qv,Qw,Qx,Qy,Qz,Ra,Rb,Rc,Rd,Re,Rf,Rg,Rh,Ri,Rj,Rk,Rm,Rn,Ro,Rp,Rq,Rt,Ya,Yb,Yc,Ru,Rw,Zb,Yd,Ye,Ry,Rz,Wa,Wb,Wc,Wd,We]
    exact hq 0 _ _ _ (by decide) hI.low (hI.done (by decide) (by omega))
  | succ g ih =>
    intro left x7 x8 hI hl hg
    have hc2:=hI.c2
    have hc1:=hI.c1
    have hb2:=hI.b2
    have hb1:=hI.b1
    have htop:=hI.top
    have hsum:=hI.sum
    rw[hLB]at hc2 hc1 hb2 hb1 hsum
    have s1:=C3 Tryz.prog 3 ((vlo.length+2:Nat):Int) 1 ⟨by omega,by omega⟩
    have s1':((vlo.length+2:Nat):Int) - 1=((vlo.length+1:Nat):Int):=by omega
    have s2:=C3 Tryz.prog 3 ((vlo.length+2:Nat):Int) 2 ⟨by omega,by omega⟩
    have s2':((vlo.length+2:Nat):Int) - 2=((vlo.length:Nat):Int):=by omega
    obtain⟨p1,i1,l1⟩:=EC (cap:=cv) (n:=vlo.length+2) hv (show vlo.length<vlo.length+2 by omega) (x:=v2) (by simp)
    obtain⟨p2,i2,l2⟩:=EC (cap:=cp) (n:=vlo.length+3) hp (k:=vlo.length) (by omega) (x:=u2) (by rw[← hlen];simp)
    obtain⟨p3,i3,l3⟩:=EC (cap:=cv) (n:=vlo.length+2) hv (show vlo.length+1<vlo.length+2 by omega) (x:=v1) (by simp)
    have m6:AS Tryz.prog .sub 69 (Aj (g+1)) (.int .u64 1)=some (Aj g):=by
      have:=M7 Tryz.prog 69 (a:=g+1) (b:=1) (by decide)
      rw[show(g+1+18446744073709551616 - 1) % 18446744073709551616=g by omega]at this
      exact this
    have m7:=HX Tryz.prog 69 (a:=left) (b:=v1) (by omega)
    have m8:AS Tryz.prog .gtr 69 (Aj (left+v1)) (.int .u64 4294967295)=some (.bool (decide (4294967295<left+v1))):=M5 Tryz.prog 69 (b:=4294967295) .u64
    have down:(4294967296≤g+1∨left * 4294967296+u2<(g+1) * v2)→Qa E none (.block 1 (.seq (.ops Oy) (.seq (.ops Oz) (.seq (.ops O3) (.cond (.var 8) (.exit 0) .skip))))) (Jz (WC E none (.loop Kf) Q) Q) [.slice ap (vlo.length+3) cp,.slice av (vlo.length+2) cv,x2,iv ((vlo.length+2:Nat):Int),x4,Aj (g+1),Aj left,.bool true,x8] [] s:=by
      intro hc
      obtain⟨_,hI'⟩:=hI.dec (by rw[hLB];exact hc)
      rw[tL]at hI'
      generalize hW:WC E none (Ad.loop Kf) Q=WW
      by_cases hbk:4294967295<left+v1
      · have db : decide (4294967295 < left + v1) = true := decide_eq_true hbk
        have hgB:g<4294967296:=by
          rcases qz g 4294967296 with h | h
          · exact h
          · exfalso
            have h1:4294967297 * v1≤(g+1) * v1:=rF v1 (by omega)
            have h2:u0 * 4294967296≤v1 * 4294967296:=rF _ htop
            omega
        have hle:g * v2≤4294967295 * 4294967295:=rW (by omega) (by omega)
        have hdone:=hI'.done (by rw[hLB];exact hgB) (by rw[hLB];omega)
        simp only[Oy,Oz,O3,m6,s1,s1',i3,l3,Bq hc1,m7,m8,db,Qa,Qb,Qc,Qd,Qe,Qf,Qg,Qh,Qi,Qj,Qk,Ql,Qm,Qn,true_and,and_true,Qo,Qp,Qq,Qr,Qs,Qt,Qu,Qv,Qw,Qx,Qy,Qz,Ra,Rb,Rc,Rd,Re,Rf,Rg,Rh,Ri,Rj,Rk,Rm,Rn,Ro,Rp,Rq,Rt,Ya,Yb,Yc,Ru,Rw,Zb,Yd,Ye,Ry,Rz,Wa,Wb,Wc,Wd,We]
        exact hq g _ _ _ hgB hI'.low hdone
      · have db:decide (4294967295<left+v1)=false:=decide_eq_false hbk
        simp only[Oy,Oz,O3,m6,s1,s1',i3,l3,Bq hc1,m7,m8,db,Qa,Qb,Qc,Qd,Qe,Qf,Qg,Qh,Qi,Qj,Qk,Ql,Qm,Qn,true_and,and_true,Qo,Qp,Qq,Qr,Qs,Qt,Qu,Qv,Qw,Qx,Qy,Qz,Ra,Rb,Rc,Rd,Re,Rf,Rg,Rh,Ri,Rj,Rk,Rm,Rn,Ro,Rp,Rq,Rt,Ya,Yb,Yc,Ru,Rw,Zb,Yd,Ye,Ry,Rz,Wa,Wb,Wc,Wd,We]
        rw[← hW]
        exact ih (left+v1) _ _ hI' (by omega) (by omega)
    have d0:AS Tryz.prog .gtr 69 (Aj (g+1)) (.int .u64 4294967295)=some (.bool (decide (4294967295<g+1))):=M5 Tryz.prog 69 (b:=4294967295) .u64
    refine WC.loop' ?_
    generalize hW:WC E none (Ad.loop Kf) Q=WW
    rw[hW]at down
    generalize hB:Ad.block 1 (.seq (.ops Oy) (.seq (.ops Oz) (.seq (.ops O3) (.cond (.var 8) (.exit 0) .skip))))=BB at down
    have hl8:Kf=.seq (.seq (.ops MM) (.cond (.var 7) .skip (.exit 0))) BB:=by rw[← hB];rfl
    by_cases hgB:4294967295<g+1
    · have db:decide (4294967295<g+1)=true:=decide_eq_true hgB
      rw[hl8]
      generalize hBW:Qa E none BB (Jz WW Q)=BW at down
      simp only[MM,d0,db,hBW,Qa,Qb,Qc,Qd,Qe,Qf,Qg,Qh,Qi,Qj,Qk,Ql,Qm,Qn,true_and,and_true,Qo,Qp,Qq,Qr,Qs,Qt,Qu,Qv,Qw,Qx,Qy,Qz,Ra,Rb,Rc,Rd,Re,Rf,Rg,Rh,Ri,Rj,Rk,Rm,Rn,Ro,Rp,Rq,Rt,Ya,Yb,Yc,Ru,Rw,Zb,Yd,Ye,Ry,Rz,Wa,Wb,Wc,Wd,We]
      exact down (.inl (by omega))
    · have db : decide (4294967295 < g + 1) = false := decide_eq_false hgB
      have hgv:(g+1) * v2≤4294967295 * 4294967295:=rW (by omega) (by omega)
      have m1:=QK Tryz.prog 69 (a:=g+1) (b:=v2) (by omega)
      have m2:AS Tryz.prog .shl 69 (Aj left) (.int .u64 32)=some (Aj (left * 4294967296)):=M6 Tryz.prog 69 (k:=.u64) (n:=32) (by decide) (by show left * 4294967296<_;omega)
      have m3:=dC Tryz.prog 69 (a:=left) (b:=u2) (by omega) hb2
      have m4:=M5 Tryz.prog 69 (a:=(g+1) * v2) (b:=left * 4294967296+u2) .u64
      by_cases hc:left * 4294967296+u2<(g+1) * v2
      · have m5:decide (left * 4294967296+u2<(g+1) * v2)=true:=decide_eq_true hc
        rw[hl8]
        generalize hBW:Qa E none BB (Jz WW Q)=BW at down
        simp only[MM,d0,db,s2,s2',i1,l1,Bq hc2,m1,m2,i2,l2,Bq hb2,m3,m4,m5,hBW,Qa,Qb,Qc,Qd,Qe,Qf,Qg,Qh,Qi,Qj,Qk,Ql,Qm,Qn,true_and,and_true,Qo,Qp,Qq,Qr,Qs,Qt,Qu,Qv,Qw,Qx,Qy,Qz,Ra,Rb,Rc,Rd,Re,Rf,Rg,Rh,Ri,Rj,Rk,Rm,Rn,Ro,Rp,Rq,Rt,Ya,Yb,Yc,Ru,Rw,Zb,Yd,Ye,Ry,Rz,Wa,Wb,Wc,Wd,We]
        exact down (.inr hc)
      · have m5:decide (left * 4294967296+u2<(g+1) * v2)=false:=decide_eq_false hc
        rw[hl8]
        generalize hBW:Qa E none BB (Jz WW Q)=BW at down
        simp only[MM,d0,db,s2,s2',i1,l1,Bq hc2,m1,m2,i2,l2,Bq hb2,m3,m4,m5,hBW,Qa,Qb,Qc,Qd,Qe,Qf,Qg,Qh,Qi,Qj,Qk,Ql,Qm,Qn,true_and,and_true,Qo,Qp,Qq,Qr,Qs,Qt,Qu,Qv,Qw,Qx,Qy,Qz,Ra,Rb,Rc,Rd,Re,Rf,Rg,Rh,Ri,Rj,Rk,Rm,Rn,Ro,Rp,Rq,Rt,Ya,Yb,Yc,Ru,Rw,Zb,Yd,Ye,Ry,Rz,Wa,Wb,Wc,Wd,We]
        exact hq (g+1) _ _ _ (by omega) hI.low (hI.done (by rw[hLB];omega) (by rw[hLB];omega))
theorem Y0(hE:GoodN E){plo vlo:List Nat}{u2 u1 u0 v2 v1:Nat}{vp vv:AV}(hp:C7 s vp (plo++[u2,u1,u0]))(hv:C7 s vv (vlo++[v2,v1]))(hI:GE plo vlo u2 u1 u0 v2 v1 ((u0 * LB+u1) / v1) ((u0 * LB+u1) % v1))(hml:vlo.length≤10000000000)(hu0:u0<4294967296){K:AV→AE→Prop}
  (hK:∀g,g<4294967296→AH (plo++[u2,u1,u0]) / AH (vlo++[v2,v1])≤g→g≤AH (plo++[u2,u1,u0]) / AH (vlo++[v2,v1])+1→K (Aj g) s):WF E 96 [vp,vv] K s:=by
 have hLB:LB=4294967296:=rfl
 have hlen:=hI.len
 obtain⟨ap,cp,rfl,_,hcp⟩:=hp
 obtain⟨av,cv,rfl,_,hcv⟩:=hv
 have hc1:=hI.c1
 have hb1:=hI.b1
 have hbig:=hI.big
 have htop:=hI.top
 rw[hLB]at hc1 hb1 hbig
 have hlp:(plo++[u2,u1,u0]).length=vlo.length+3:=by simp[hlen]
 have hlv:(vlo++[v2,v1]).length=vlo.length+2:=by simp
 rw[hlp,hlv]
 have s1:=C3 Tryz.prog 3 ((vlo.length+2:Nat):Int) 1 ⟨by omega,by omega⟩
 have s1':((vlo.length+2:Nat):Int) - 1=((vlo.length+1:Nat):Int):=by omega
 obtain⟨p1,i1,l1⟩:=EC (cap:=cp) (n:=vlo.length+3) hcp (k:=vlo.length+2) (by omega) (x:=u0) (by rw[← hlen];simp)
 obtain⟨p2,i2,l2⟩:=EC (cap:=cp) (n:=vlo.length+3) hcp (k:=vlo.length+1) (by omega) (x:=u1) (by rw[← hlen];simp)
 obtain⟨p3,i3,l3⟩:=EC (cap:=cv) (n:=vlo.length+2) hcv (show vlo.length+1<vlo.length+2 by omega) (x:=v1) (by simp)
 have m2:AS Tryz.prog .shl 69 (Aj u0) (.int .u64 32)=some (Aj (u0 * 4294967296)):=M6 Tryz.prog 69 (k:=.u64) (n:=32) (by decide) (by show u0 * 4294967296<_;omega)
 have m3:=dC Tryz.prog 69 (a:=u0) (b:=u1) (by omega) hb1
 have m4:=j6 Tryz.prog 69 (a:=u0 * 4294967296+u1) (b:=v1) (by omega) (by omega)
 have m5:=j7 Tryz.prog 69 (a:=u0 * 4294967296+u1) (b:=v1) (by omega)
 rw[hLB]at hI
 have hsum:=hI.sum
 rw[hLB]at hsum
 have hl:(u0 * 4294967296+u1) % v1<v1:=rU _ (by omega)
 have hgle:(u0 * 4294967296+u1) / v1≤4294967297:=by
  rw[← Nat.lt_succ_iff,sK (by omega)]
  have:u0 * 4294967296≤v1 * 4294967296:=rF _ htop
  show _<4294967298 * v1
  omega
 refine hE.go lr (by decide) rfl ?_
 simp only[qq,jL,jM,jN,jO,AN Tryz.underlying22,s1,s1',i1,l1,i2,l2,i3,l3,Bq hu0,Bq hb1,Bq hc1,m2,m3,m4,m5,Qa,Qb,Qc,Qd,Qe,Qf,Qg,Qh,Qi,Qj,Qk,Ql,Qm,Qn,true_and,and_true,Qo,Qp,Qq,Qr,Qs,Qt,Qu,Qv,Qw,Qx,Qy,Qz,Ra,Rb,Rc,Rd,Re,Rf,Rg,Rh,Ri,Rj,Rk,Rm,Rn,Ro,Rp,Rq,Rt,Ya,Yb,Yc,Ru,Rw,Zb,Yd,Ye,Ry,Rz,Wa,Wb,Wc,Wd,We]
 refine R5 hcp hcv hlen hml _ _ (fun g y6 y7 y8 g1 g2 g3=>?_) _ _ _ _ hI (by omega) hgle
 simp only[jP,if_true,Qa,Qb,Qc,Qd,Qe,Qf,Qg,Qh,Qi,Qj,Qk,Ql,Qm,Qn,true_and,and_true,Qo,Qp,Qq,Qr,Qs,Qt,Qu,Qv,Qw,Qx,Qy,Qz,Ra,Rb,Rc,Rd,Re,Rf,Rg,Rh,Ri,Rj,Rk,Rm,Rn,Ro,Rp,Rq,Rt,Ya,Yb,Yc,Ru,Rw,Zb,Yd,Ye,Ry,Rz,Wa,Wb,Wc,Wd,We]
 exact hK g g1 g2 g3
end
theorem C7.keep{s s':AE}{v:AV}{l:List Nat}(h:C7 s v l)(hn:s.next≤s'.next)(hf:∀j,CH v=some j→j<s.next→s'.heap.get j=s.heap.get j):C7 s' v l:=by
  obtain⟨a,cap,rfl,h2,h3⟩:=h
  refine⟨a,cap,rfl,?_,fun k u hu=>?_⟩
  · rcases h2 with h2 | ⟨g1, i, o, r, rfl, g3, g4, g5⟩
    · exact .inl h2
    · exact .inr ⟨g1,i,o,r,rfl,by omega,by rw[hf i rfl g3];exact g4,g5⟩
  · obtain⟨i,o,rfl,g2,g3⟩:=h3 k u hu
    exact⟨i,o,rfl,by omega,by rw[Dr (hf i rfl g2)];exact g3⟩
theorem bh{s:AE}{i lo hi n:Nat}{cs:List AV}{p:Option Nat}(h:Cu s i cs p)(hi':i<s.next)(h1:lo≤hi)(h2:hi≤cs.length):
  BK Tryz.prog 22 true true false s [.slice (some (i,0)) n none,iv (lo:Int),iv (hi:Int)]=some (.slice (some (i,lo)) (hi - lo) none):=by
 obtain⟨r,g1,g2,_,g4,_⟩:=h
 have hrow:rowAt s i=some r:=by unfold rowAt;rw[g1]
 have hrn:r.n=cs.length:=g2.1
 show Bn Tryz.prog s 22 (.slice (some (i,0)) n none) (some (iv (lo:Int))) (some (iv (hi:Int))) none=_
 have hb1:Be (iv (hi:Int)) ((r.n - 0) / 1)=some hi:=by simp[Be,GC,AL,Cn (show hi≤r.n by omega),D3]
 have hb2:Be (iv (lo:Int)) hi=some lo:=by simp[Be,GC,AL,Cn h1,D3]
 have hsz:Nat.beq 1 r.sz=true:=Fi g4.symm
 simp only[Bn,Tryz.underlying22,Ci,hrow,hsz,AL,hb1,hb2,Cn (rB r.n),show Nat.beq 1 0=false from rfl,Option.bind_some,Bool.true_and,Bool.and_true,Bool.not_false,cond_true]
 simp
theorem Pu{s:AE}{i lo m:Nat}{cu:List Nat}{p:Option Nat}(h:Cu s i (us cu) p)(hi':i<s.next)(h2:lo+m≤cu.length):C7 s (.slice (some (i,lo)) m none) ((cu.drop lo).take m):=by
 have hc:=I1 h hi'
 obtain⟨r,g1,g2,_,g4,_⟩:=h
 have hrn:r.n=cu.length:=by rw[g2.1,CY]
 have hl:((cu.drop lo).take m).length=m:=by rw[rR,sC];omega
 refine⟨some (i,lo),none,by rw[hl],.inr ⟨rfl,i,lo,r,rfl,hi',g1,g4,by rw[hl];omega⟩,fun k u hu=>?_⟩
 have hk:k<m:=by
  rcases qz k m with h' | h'
  ·exact h'
  ·rw[rI (by rw[CY,hl];exact h')]at hu;cases hu
 have hu':(us cu)[lo+k]? = some u:=by
  rw[Tr,sS hk]at hu
  unfold us at hu ⊢
  rw[List.map_drop,sJ]at hu
  exact hu
 obtain⟨i',o',e,q2,q3⟩:=hc (lo+k) u hu'
 injection e with e
 injection e with e1 e2
 subst e1;subst e2
 rw[rE]at q3
 exact⟨i,lo,rfl,q2,q3⟩
section
variable{E:CR}{s:AE}
structure pr(s0:AE)(ui qi:Nat)(pp:Option Nat)(U0 V:List Nat)(S:AE)(cu qs:List Nat)(k:Nat):Prop where
 next:s0.next≤S.next
 keep:∀j,j<s0.next→j≠ui→some j≠pp→j≠qi→S.heap.get j=s0.heap.get j
 u:Cu S ui (us cu) pp
 q:Cu S qi (us qs) none
 inv:QS U0 V cu qs k
 qlen:qs.length+V.length=U0.length
set_option maxHeartbeats 1000000 in
theorem Yn       (hE : GoodN E) {s0 : AE}  {ui qi : Nat} {pp : Option Nat} (hui : ui < s0.next) (hqi : qi < s0.next) (hne : ui ≠ qi) (hpp : ∀ q, pp = some q → q < s0.next ∧ q ≠ qi) {U0 vlo : List Nat} {v2 v1 : Nat} (hsV : Bv  (vlo ++ [v2, v1])) (hv1 : 2147483648 ≤ v1) (hul : U0.length ≤ 10000000000)
    {vv:AV} (hvv:C7 s0 vv (vlo++[v2,v1])) (hvs:∀j,CH vv=some j→j≠ui∧some j≠pp∧j≠qi) {Q:Ax→Prop} (a0 a1 a3 a4 a5 a6 a7 a13 a14 a15 a16:AV)
    (hq:∀ (S:AE) (cu qs:List Nat) (y10 y11 y12 y17 y18:AV),pr s0 ui qi pp U0 (vlo++[v2,v1]) S cu qs 0 →
      Q ⟨.exit 3,[a0,a1,.slice (some (qi,0)) (U0.length - (vlo.length+2)) (some (U0.length - (vlo.length+2))),a3,a4,a5,a6,a7,.slice (some (ui,0)) U0.length none,vv,y10,y11,y12,a13,a14,a15,a16,y17,y18],[],S⟩):
    ∀ (k:Nat) (S:AE) (cu qs:List Nat) (x11 x12 x17 x18:AV),pr s0 ui qi pp U0 (vlo++[v2,v1]) S cu qs k→k+(vlo.length+2)≤U0.length →
      WC E none (.loop Iz) Q [a0,a1,.slice (some (qi,0)) (U0.length - (vlo.length+2)) (some (U0.length - (vlo.length+2))),a3,a4,a5,a6,a7,.slice (some (ui,0)) U0.length none,vv,iv ((k:Int) - 1),x11,x12,a13,a14,a15,a16,x17,x18] [] S:=by
  have hLB:LB=4294967296:=rfl
  have hVl:(vlo++[v2,v1]).length=vlo.length+2:=by simp
  have hv1b:v1<LB:=hsV v1 (by simp)
  have hv2b:v2<LB:=hsV v2 (by simp)
  have hVpos:0<AH (vlo++[v2,v1]):=by
    rw[IV]
    have h2:0<v1 * LB+v2:=by have:=sW (show 0<v1 by omega) BG;omega
    have:=sW (sQ BG (n:=vlo.length)) h2
    omega
  intro k
  induction k with
  | zero =>
    intro S cu qs x11 x12 x17 x18 hS hk
    have d0:decide ((0:Int)≤((0:Nat):Int) - 1)=false:=rfl
    refine WC.loop' ?_
    simp only[Iz,RH,Wb,d0,Qa,Qb,Qc,Qd,Qe,Qf,Qg,Qh,Qi,Qj,Qk,Ql,Qm,Qn,true_and,and_true,Qo,Qp,Qq,Qr,Qs,Qt,Qu,Qv,Qw,Qx,Qy,Qz,Ra,Rb,Rc,Rd,Re,Rf,Rg,Rh,Ri,Rj,Rk,Rm,Rn,Ro,Rp,Rq,Rt,Ya,Yb,Yc,Ru,Rw,Zb,Yd,Ye,Ry,Rz,Wa,Wb,Wc,Wd,We]
    exact hq S cu qs _ _ _ _ _ hS
  | succ k ih =>
    intro S cu qs x11 x12 x17 x18 hS hk
    have hcl:cu.length=U0.length:=hS.inv.len
    have hql:qs.length=U0.length - (vlo.length+2):=by have:=hS.qlen;rw[hVl]at this;omega
    have hkq:k<qs.length:=by omega
    obtain⟨p1,p2,p3⟩:=hS.inv.part hsV hVpos (by rw[hVl];omega)
    have hw1:((vlo++[v2,v1])++[0]).length=(vlo++[v2,v1]).length+1:=by rw[rL];rfl
    have hpl:((cu.drop k).take ((vlo++[v2,v1]).length+1)).length=vlo.length+3:=by rw[rR,sC,hVl];omega
    have hps:Bv ((cu.drop k).take ((vlo++[v2,v1]).length+1)):=(hS.inv.sm.drop k).take _
    have hplt:AH ((cu.drop k).take ((vlo++[v2,v1]).length+1))<AH (vlo++[v2,v1]) * LB:=by rw[p1];exact p2
    have hpart:=Pu hS.u (rA hui hS.next) (lo:=k) (m:=(vlo++[v2,v1]).length+1) (by rw[hVl];omega)
    have hzip:=Gx (cu.drop k) ((vlo++[v2,v1])++[0])
    rw[hw1]at hzip
    have hdig:=fun g h1 h2 h3=>Ym (p:=(cu.drop k).take ((vlo++[v2,v1]).length+1)) (v:=vlo++[v2,v1]) (by rw[hpl,hVl]) hps hsV hVpos (g:=g) h1 h2 h3
    rw[hzip]at hdig
    have hstep:∀D:List Nat,D.length=(vlo++[v2,v1]).length+1→Bv D→AH D=AH ((cu.drop k).take ((vlo++[v2,v1]).length+1)) % AH (vlo++[v2,v1])→∀x:Nat,x=AH ((cu.drop k).take ((vlo++[v2,v1]).length+1)) / AH (vlo++[v2,v1]) →
        QS U0 (vlo++[v2,v1]) (Fe cu k D) (qs.set k x) k:=fun D hD hDs hDv x hx=>by
      have:=hS.inv.step hsV hVpos (by rw[hVl];omega) hkq hD hDs hDv hx
      unfold Fe
      rw[hD,← re]
      exact this
    have hxB:AH ((cu.drop k).take ((vlo++[v2,v1]).length+1)) / AH (vlo++[v2,v1])<4294967296:=by
      rw[← hLB,sK hVpos,rM]
      exact hplt
    have hDl:=fun g=>JN g ((cu.drop k).zip ((vlo++[v2,v1])++[0])) 0 0
    have hDs:=fun g=>Gt g ((cu.drop k).zip ((vlo++[v2,v1])++[0])) 0 0
    have hzl:((cu.drop k).zip ((vlo++[v2,v1])++[0])).length=(vlo++[v2,v1]).length+1:=by rw[su,hw1,sC,hVl];omega
    obtain⟨plo,u2,u1,u0,hpe,hplo⟩:∃plo u2 u1 u0,(cu.drop k).take ((vlo++[v2,v1]).length+1)=plo++[u2,u1,u0]∧plo.length=vlo.length:=by
      obtain⟨l1,t1,e1,f1⟩:=FA (n:=vlo.length+2) (by rw[hpl])
      obtain⟨l2,t2,e2,f2⟩:=FA (n:=vlo.length+1) f1
      obtain⟨l3,t3,e3,f3⟩:=FA (n:=vlo.length) f2
      exact⟨l3,t3,t2,t1,by rw[e1,e2,e3];simp,f3⟩
    have hu0:u0<LB:=by rw[hpe]at hps;exact hps u0 (by simp)
    have hG:GE plo vlo u2 u1 u0 v2 v1 ((u0 * LB+u1) / v1) ((u0 * LB+u1) % v1):=by
      rw[hpe]at hps hplt
      exact GE.start (u0:=u0) hplo (fun x hx=>hps x (tA _ hx)) (fun x hx=>hsV x (tA _ hx)) (hps u2 (by simp)) (hps u1 (by simp)) hv2b hv1b (by rw[hLB];omega) hplt
    have hvS:C7 S vv (vlo++[v2,v1]):=hvv.keep hS.next fun j hj hjl=>by
      obtain⟨g1,g2,g3⟩:=hvs j hj
      exact hS.keep j hjl g1 g2 g3
    have hguess:=fun K hK=>Y0 (s:=S) (K:=K) (vp:=.slice (some (ui,k)) ((vlo++[v2,v1]).length+1) none) hE (by rw[← hpe];exact hpart) hvS hG (by omega) (by rw[← hLB];exact hu0) hK
    rw[← hpe]at hguess
    obtain⟨av,cv,rfl,_,_⟩:=id hvv
    have e0:((k+1:Nat):Int) - 1=(k:Int):=by omega
    have d0:decide ((0:Int)≤(k:Int))=true:=decide_eq_true (by omega)
    have i1:=BU Tryz.prog 3 (k:Int) (((vlo++[v2,v1]).length:Nat):Int) ⟨by omega,by omega⟩
    have i2:=BU Tryz.prog 3 ((k:Int)+(((vlo++[v2,v1]).length:Nat):Int)) 1 ⟨by omega,by omega⟩
    have i2':(k:Int)+(((vlo++[v2,v1]).length:Nat):Int)+1=((k+((vlo++[v2,v1]).length+1):Nat):Int):=by omega
    have i3:=bh (n:=U0.length) hS.u (rA hui hS.next) (lo:=k) (hi:=k+((vlo++[v2,v1]).length+1)) (by omega) (by rw[CY];omega)
    have i3':k+((vlo++[v2,v1]).length+1) - k=(vlo++[v2,v1]).length+1:=by omega
    rw[i3']at i3
    have e10:=C3 Tryz.prog 3 (k:Int) 1 ⟨by omega,by omega⟩
    have e11:=Ah (cap:=some (U0.length - (vlo.length+2))) (i:=qi) (o:=0) Tryz.underlying22 Ci (show k<U0.length - (vlo.length+2) by omega)
    rw[rG,rE]at e11
    have hpS:∀q,pp=some q→q<S.next:=fun q hq=>rA (hpp q hq).1 hS.next
    have last:∀ (S2:AE) (D:List Nat) (x:Nat) (y18:AV),S.next≤S2.next→(∀j,j<S.next→j≠ui→some j≠pp→S2.heap.get j=S.heap.get j)→Cu S2 ui (us (Fe cu k D)) pp→D.length=(vlo++[v2,v1]).length+1→Bv D →
        AH D=AH ((cu.drop k).take ((vlo++[v2,v1]).length+1)) % AH (vlo++[v2,v1])→x=AH ((cu.drop k).take ((vlo++[v2,v1]).length+1)) / AH (vlo++[v2,v1]) →
        Qb E RI (fun v s'=>Qb E RJ (fun v s'=>WC E none (.loop Iz) Q v [] s') [] v s') [] [a0,a1,.slice (some (qi,0)) (U0.length - (vlo.length+2)) (some (U0.length - (vlo.length+2))),a3,a4,a5,a6,a7,.slice (some (ui,0)) U0.length none,.slice av (vlo++[v2,v1]).length cv,iv (k:Int),.slice (some (ui,k)) ((vlo++[v2,v1]).length+1) none,Aj x,a13,a14,a15,a16,.bool true,y18] S2:=by
      intro S2 D x y18 n2 f2 o2 hDl hDs hDv hx
      have hxb:x<4294967296:=by rw[hx];exact hxB
      have hq2:Cu S2 qi (us qs) none:=hS.q.keep (f2 qi (rA hqi hS.next) (Ne.symm hne) (fun e=>(hpp qi e.symm).2 rfl))
      obtain⟨S3,st,w1,w2,w3⟩:=Df (P:=Tryz.prog) (t:=76) (v:=BV x) (o:=k) Ci hq2 (by rw[CY];exact hkq) rfl
      rw[Gu]at w1
      have ex:x % 4294967296=x:=rv hxb
      simp only[RI,RJ,CC,ex,e11,st,e10,Xy,Za,Qa,Qb,Qc,Qd,Qe,Qf,Qg,Qh,Qi,Qj,Qk,Ql,Qm,Qn,true_and,and_true,Qo,Qp,Qq,Qr,Qs,Qt,Qu,Qv,Qw,Qx,Qy,Qz,Ra,Rb,Rc,Rd,Re,Rf,Rg,Rh,Ri,Rj,Rk,Rm,Rn,Ro,Rp,Rq,Rt,Ya,Yb,Yc,Ru,Rw,Zb,Yd,Ye,Ry,Rz,Wa,Wb,Wc,Wd,We]
      refine ih S3 (Fe cu k D) (qs.set k x) _ _ _ _ ⟨by have:=hS.next;omega,fun j hj j1 j2 j3=>?_,?_,w1,hstep D hDl hDs hDv x hx,by rw[sf];exact hS.qlen⟩ (by omega)
      · rw[w3 j j3 (fun e=>by cases e),f2 j (rA hj hS.next) j1 j2]
        exact hS.keep j hj j1 j2 j3
      · exact o2.keep (w3 ui hne (fun e=>by cases e))
    refine WC.loop' ?_
    generalize hW:WC E none (Ad.loop Iz) Q=WW
    rw[hW]at last
    rw[e0]
    simp only[Iz,RH,XU,XV,Wb,d0,AN Tryz.underlying22,i1,i2,i2',i3,Qa,Qb,Qc,Qd,Qe,Qf,Qg,Qh,Qi,Qj,Qk,Ql,Qm,Qn,true_and,and_true,Qo,Qp,Qq,Qr,Qs,Qt,Qu,Qv,Qw,Qx,Qy,Qz,Ra,Rb,Rc,Rd,Re,Rf,Rg,Rh,Ri,Rj,Rk,Rm,Rn,Ro,Rp,Rq,Rt,Ya,Yb,Yc,Ru,Rw,Zb,Yd,Ye,Ry,Rz,Wa,Wb,Wc,Wd,We]
    refine hguess _ fun g g1 g2 g3=>?_
    obtain⟨dg1,dg2⟩:=hdig g g2 g3 (by rw[hLB];exact g1)
    have hDl:=hDl g
    have hDs:=hDs g
    rw[hzl]at hDl
    simp only[XW,Qa,Qb,Qc,Qd,Qe,Qf,Qg,Qh,Qi,Qj,Qk,Ql,Qm,Qn,true_and,and_true,Qo,Qp,Qq,Qr,Qs,Qt,Qu,Qv,Qw,Qx,Qy,Qz,Ra,Rb,Rc,Rd,Re,Rf,Rg,Rh,Ri,Rj,Rk,Rm,Rn,Ro,Rp,Rq,Rt,Ya,Yb,Yc,Ru,Rw,Zb,Yd,Ye,Ry,Rz,Wa,Wb,Wc,Wd,We]
    refine cl hE g1 (rA hui hS.next) hpS hS.u (off:=k) (vl:=vlo++[v2,v1]) (by rw[hVl];omega) hS.inv.sm hsV hvS (by rw[hVl];omega) fun S2 n2 f2 o2=>?_
    generalize CN g ((cu.drop k).zip ((vlo++[v2,v1])++[0])) 0 0=T at *
    obtain⟨D,c,br⟩:=T
    simp only at *
    by_cases hbr:br=0
    · obtain⟨r1,r2⟩:=dg1 hbr
      have db:decide (0<br)=false:=decide_eq_false (by omega)
      simp only[db,Qa,Qb,Qc,Qd,Qe,Qf,Qg,Qh,Qi,Qj,Qk,Ql,Qm,Qn,true_and,and_true,Qo,Qp,Qq,Qr,Qs,Qt,Qu,Qv,Qw,Qx,Qy,Qz,Ra,Rb,Rc,Rd,Re,Rf,Rg,Rh,Ri,Rj,Rk,Rm,Rn,Ro,Rp,Rq,Rt,Ya,Yb,Yc,Ru,Rw,Zb,Yd,Ye,Ry,Rz,Wa,Wb,Wc,Wd,We]
      exact last S2 D g (.bool false) n2 f2 o2 hDl hDs r2 r1
    · obtain⟨r1,r2⟩:=dg2 hbr
      have db:decide (0<br)=true:=decide_eq_true (by omega)
      have hg1:1≤g:=rD (Nat.succ_le_succ (rB _)) (rV r1.symm)
      have hvS2:C7 S2 (.slice av (vlo++[v2,v1]).length cv) (vlo++[v2,v1]):=hvS.keep n2 fun j hj hjl=>by
        obtain⟨q1,q2,q3⟩:=hvs j hj
        exact f2 j hjl q1 q2
      have hml:(Fe cu k D).length=cu.length:=G4 (by rw[hDl,hVl];omega)
      have hms:Bv (Fe cu k D):=((hS.inv.sm.take k).append hDs).append (hS.inv.sm.drop _)
      have hmd:((Fe cu k D).drop k).zip ((vlo++[v2,v1])++[0])=D.zip ((vlo++[v2,v1])++[0]):=by
        unfold Fe
        rw[rZ,tS (by rw[rR];omega)]
        exact aL (by rw[hDl,hw1]) _
      have m6:AS Tryz.prog .sub 69 (Aj g) (.int .u64 1)=some (Aj (g - 1)):=by
        have:=M7 Tryz.prog 69 (a:=g) (b:=1) (by decide)
        rw[show(g+18446744073709551616 - 1) % 18446744073709551616=g - 1 by omega]at this
        exact this
      simp only[db,XY,Qa,Qb,Qc,Qd,Qe,Qf,Qg,Qh,Qi,Qj,Qk,Ql,Qm,Qn,true_and,and_true,Qo,Qp,Qq,Qr,Qs,Qt,Qu,Qv,Qw,Qx,Qy,Qz,Ra,Rb,Rc,Rd,Re,Rf,Rg,Rh,Ri,Rj,Rk,Rm,Rn,Ro,Rp,Rq,Rt,Ya,Yb,Yc,Ru,Rw,Zb,Yd,Ye,Ry,Rz,Wa,Wb,Wc,Wd,We]
      refine aY hE (rA hui (rD hS.next n2)) (fun q hq=>rA (hpS q hq) n2) o2 (off:=k) (vl:=vlo++[v2,v1]) (by rw[hVl];omega) hms hsV hvS2 (by rw[hVl];omega) fun S3 y n3 f3 o3=>?_
      rw[hmd]at o3
      have hOl:=H7 (D.zip ((vlo++[v2,v1])++[0])) 0
      have hOs:=Fh (D.zip ((vlo++[v2,v1])++[0])) 0
      rw[su,hw1,hDl,tM]at hOl
      generalize (EH (D.zip ((vlo++[v2,v1])++[0])) 0).1=O at *
      have hmm:Fe (Fe cu k D) k O=Fe cu k O:=by
        unfold Fe
        have htk:(cu.take k).length=k:=by rw[rR];omega
        have e1:(cu.take k++D++cu.drop (k+D.length)).take k=cu.take k:=by rw[rZ,tR htk]
        have e2:(cu.take k++D++cu.drop (k+D.length)).drop (k+O.length)=cu.drop (k+O.length):=by
          rw[hOl,← hDl]
          rw[tS (by rw[rL,htk])]
        rw[e1,e2]
      rw[hmm]at o3
      simp only[XZ,m6,Qa,Qb,Qc,Qd,Qe,Qf,Qg,Qh,Qi,Qj,Qk,Ql,Qm,Qn,true_and,and_true,Qo,Qp,Qq,Qr,Qs,Qt,Qu,Qv,Qw,Qx,Qy,Qz,Ra,Rb,Rc,Rd,Re,Rf,Rg,Rh,Ri,Rj,Rk,Rm,Rn,Ro,Rp,Rq,Rt,Ya,Yb,Yc,Ru,Rw,Zb,Yd,Ye,Ry,Rz,Wa,Wb,Wc,Wd,We]
      exact last S3 O (g - 1) (.bool true) (rD n2 n3) (fun j hj j1 j2=>(f3 j (rA hj n2) j1 j2).trans (f2 j hj j1 j2)) o3 hOl hOs r2 (by rw[r1,tL])
end
section
variable(P:Program)(t:TypeId){a:Nat}
theorem dA{k:IntKind}{n:Nat}(hn:n≤32):AS P .shl t (BV a) (.int k (n:Int))=some (BV (a * 2 ^ n % 4294967296)):=by
 show(Dt P (Op.shift .shl .u32 (a:Int) k (n:Int))).bind ofValue=_
 unfold Op.shift
 rw[if_neg (by omega)]
 show some (AV.int .u32 (IntKind.wrap .u32 ((a:Int) * 2 ^ min (n:Int).toNat 32)))=_
 rw[show min (n:Int).toNat 32=n by omega,Mc]
 congr 2
theorem dB{k:IntKind}{n:Nat}(hn:n≤32):AS P .shr t (BV a) (.int k (n:Int))=some (BV (a / 2 ^ n)):=by
 show(Dt P (Op.shift .shr .u32 (a:Int) k (n:Int))).bind ofValue=_
 unfold Op.shift
 rw[if_neg (by omega)]
 show some (AV.int .u32 ((a:Int).fdiv (2 ^ min (n:Int).toNat 32)))=_
 rw[show min (n:Int).toNat 32=n by omega]
 congr 2
 rw[show((2:Int) ^ n)=((2 ^ n:Nat):Int) by push_cast;rfl]
 exact(Int.ofNat_fdiv a (2 ^ n)).symm
end
theorem J1{s:AE}{loc var:List AV}(f:AE→List AV→Option AV)(xs:List CX)(a:CX):FC s loc var ⟨none,.r f,xs,a⟩=Mu (f s (Qh loc var xs)) (C8 loc var a):=by
 have:∀l:List CX,Di loc var l=Qh loc var l:=by
  intro l
  induction l with
  | nil=>rfl
  | cons x l ih=>show C8 loc var x::Di loc var l=C8 loc var x::Qh loc var l;rw[ih]
 show(!Bk loc var none || Mu (EZ (.r f) (Di loc var xs) s) (C8 loc var a))=_
 rw[this]
 rfl
theorem CE(u v:AV):Mu (some u) v=FJ u v:=rfl
theorem RY(n:Int):FJ (iv n) (iv n)=true:=by simp[FJ,ER,Bu]
section
variable{E:CR}{s:AE}
theorem Ui{b:Option (Nat×Nat)}{cb:Option Nat}{lo:List Nat}{bt:Nat}(hc:AZ s.next s b (us (lo++[bt])))(hbt:0<bt)(hb:bt<4294967296)(hl:lo.length≤10000000000){Q:Ax→Prop}(a0 a2 a3 a4 a5 a6 a8 a9 a10 a11 a12 a13 a14 a15 a17 a18:AV)
  (hq:∀ (n:Nat) (y16:AV),n≤31→2147483648≤bt * 2 ^ n→bt * 2 ^ n<4294967296→Q ⟨.exit 1,[a0,.slice b (lo.length+1) cb,a2,a3,a4,a5,a6,Aj n,a8,a9,a10,a11,a12,a13,a14,a15,y16,a17,a18],[],s⟩):
  ∀ (m n:Nat) (x16:AV),n+m=32→bt * 2 ^ n<4294967296→WC E none (.loop Kc) Q [a0,.slice b (lo.length+1) cb,a2,a3,a4,a5,a6,Aj n,a8,a9,a10,a11,a12,a13,a14,a15,x16,a17,a18] [] s:=by
 intro m
 induction m with
 | zero =>
  intro n x16 hn hlt
  exfalso
  have:n=32:=by omega
  subst this
  have e:(2:Nat) ^ 32=4294967296:=by decide
  rw[e]at hlt
  have:=rF 4294967296 hbt
  omega
 | succ m ih =>
  intro n x16 hn hlt
  have s1:=C3 Tryz.prog 3 ((lo.length+1:Nat):Int) 1 ⟨by omega,by omega⟩
  have s1':((lo.length+1:Nat):Int) - 1=(lo.length:Int):=by omega
  obtain⟨p1,i1,l1⟩:=EC (cap:=cb) (n:=lo.length+1) hc (k:=lo.length) (by omega) (x:=bt) (by simp)
  have m1:=dA Tryz.prog 76 (a:=bt) (k:=.u64) (n:=n) (by omega)
  rw[rv hlt]at m1
  have m2:AS Tryz.prog .shr 76 (BV (bt * 2 ^ n)) (.int .u64 31)=some (BV (bt * 2 ^ n / 2147483648)):=dB Tryz.prog 76 (k:=.u64) (n:=31) (by decide)
  have m3:AS Tryz.prog .eql 76 (BV (bt * 2 ^ n / 2147483648)) (.int .u32 0)=some (.bool (decide (bt * 2 ^ n / 2147483648=0))):=j5 Tryz.prog 76 (b:=0) .u32
  have m4:AS Tryz.prog .add 113 (Aj n) (.int .u64 1)=some (Aj (n+1)):=HX Tryz.prog 113 (b:=1) (by omega)
  refine WC.loop' ?_
  generalize hW:WC E none (Ad.loop Kc) Q=WW
  by_cases h:2147483648≤bt * 2 ^ n
  ·have db:decide (bt * 2 ^ n / 2147483648=0)=false:=decide_eq_false (by omega)
   simp only[Kc,RG,AN Tryz.underlying22,s1,s1',i1,l1,m1,m2,m3,db,Qa,Qb,Qc,Qd,Qe,Qf,Qg,Qh,Qi,Qj,Qk,Ql,Qm,Qn,true_and,and_true,Qo,Qp,Qq,Qr,Qs,Qt,Qu,Qv,Qw,Qx,Qy,Qz,Ra,Rb,Rc,Rd,Re,Rf,Rg,Rh,Ri,Rj,Rk,Rm,Rn,Ro,Rp,Rq,Rt,Ya,Yb,Yc,Ru,Rw,Zb,Yd,Ye,Ry,Rz,Wa,Wb,Wc,Wd,We]
   exact hq n _ (by omega) h hlt
  ·have db:decide (bt * 2 ^ n / 2147483648=0)=true:=decide_eq_true (by omega)
   simp only[Kc,RG,XQ,AN Tryz.underlying22,s1,s1',i1,l1,m1,m2,m3,db,m4,Qa,Qb,Qc,Qd,Qe,Qf,Qg,Qh,Qi,Qj,Qk,Ql,Qm,Qn,true_and,and_true,Qo,Qp,Qq,Qr,Qs,Qt,Qu,Qv,Qw,Qx,Qy,Qz,Ra,Rb,Rc,Rd,Re,Rf,Rg,Rh,Ri,Rj,Rk,Rm,Rn,Ro,Rp,Rq,Rt,Ya,Yb,Yc,Ru,Rw,Zb,Yd,Ye,Ry,Rz,Wa,Wb,Wc,Wd,We]
   rw[← hW]
   exact ih (n+1) _ (by omega) (by rw[sP,← rT];omega)
theorem TS      (hE : GoodN E) {va vb : AV} {la lb : List Nat} (ha : C7  s va la) (hb : C7  s vb lb) (hla : la.length ≤ 1000000000) (hlb : lb.length ≤ 1000000000) (hsa : Bv  la) (hsb : Bv  lb) {K : AV → AE  → Prop}
    (hK0:AH lb=0→∀s',Ae s.next s s'→K (.tuple [.slice none 0 (some 0),.slice none 0 (some 0),iv 3]) s')
    (hK1:AH lb≠0→∀s' vq vr,Ae s.next s s'→NR s.next s' vq (AQ (AH la / AH lb))→NR s.next s' vr (AQ (AH la % AH lb))→(AH la<AH lb→vq=.slice none 0 (some 0))→K (.tuple [vq,vr,iv 0]) s'):WF E 50 [va,vb] K s:=by
  have hLB:LB=4294967296:=rfl
  refine hE.go lG (by decide) rfl ?_
  simp only[qS,gK,gL,Qa,Qb,Qc,Qd,Qe,Qf,Qg,Qh,Qi,Qj,Qk,Ql,Qm,Qn,true_and,and_true,Qo,Qp,Qq,Qr,Qs,Qt,Qu,Qv,Qw,Qx,Qy,Qz,Ra,Rb,Rc,Rd,Re,Rf,Rg,Rh,Ri,Rj,Rk,Rm,Rn,Ro,Rp,Rq,Rt,Ya,Yb,Yc,Ru,Rw,Zb,Yd,Ye,Ry,Rz,Wa,Wb,Wc,Wd,We]
  refine Cc hE ha (by omega) fun s1 v1 o1 r1=>?_
  simp only[Qa,Qb,Qc,Qd,Qe,Qf,Qg,Qh,Qi,Qj,Qk,Ql,Qm,Qn,true_and,and_true,Qo,Qp,Qq,Qr,Qs,Qt,Qu,Qv,Qw,Qx,Qy,Qz,Ra,Rb,Rc,Rd,Re,Rf,Rg,Rh,Ri,Rj,Rk,Rm,Rn,Ro,Rp,Rq,Rt,Ya,Yb,Yc,Ru,Rw,Zb,Yd,Ye,Ry,Rz,Wa,Wb,Wc,Wd,We]
  refine Cc hE (hb.old o1) (by omega) fun s2 v2 o2 r2=>?_
  have t1:=Eu la
  have t2:=Eu lb
  have R1:NR s.next s2 v1 (AQ (AH la)):=by have:=r1.old o2;rw[Br hsa]at this;exact this
  have R2:NR s.next s2 v2 (AQ (AH lb)):=by have:=r2.mono o1.1;rw[Br hsb]at this;exact this
  rw[Br hsa]at t1
  rw[Br hsb]at t2
  have oS:Ae s.next s s2:=o1.trans (o2.mono o1.1)
  have n1:=R1.n32
  have n2:=R2.n32
  clear r1 r2 o1 o2 ha hb hsa hsb
  generalize AH la=A at *
  generalize AH lb=B at *
  have hsA:=AX A
  have hsB:=AX B
  have hvA:=Ab A
  have hvB:=Ab B
  obtain⟨b,cb,rfl,hcapb,hcb⟩:=id n2
  by_cases hB0:B=0
  · subst hB0
    have hl0:(AQ 0).length=0:=by rw[BJ];rfl
    have d0:decide (((AQ 0).length:Int)=0)=true:=decide_eq_true (by omega)
    simp only[XX,gM,AN Tryz.underlying22,Wc,d0,Qa,Qb,Qc,Qd,Qe,Qf,Qg,Qh,Qi,Qj,Qk,Ql,Qm,Qn,true_and,and_true,Qo,Qp,Qq,Qr,Qs,Qt,Qu,Qv,Qw,Qx,Qy,Qz,Ra,Rb,Rc,Rd,Re,Rf,Rg,Rh,Ri,Rj,Rk,Rm,Rn,Ro,Rp,Rq,Rt,Ya,Yb,Yc,Ru,Rw,Zb,Yd,Ye,Ry,Rz,Wa,Wb,Wc,Wd,We]
    exact hK0 rfl s2 oS
  · have hBl : (AQ    B).length ≠ 0 := fun e => Bs       hB0 (tQ                            e)
    have d0:decide (((AQ B).length:Int)=0)=false:=decide_eq_false (by omega)
    simp only[XX,gN,AN Tryz.underlying22,Wc,d0,Qa,Qb,Qc,Qd,Qe,Qf,Qg,Qh,Qi,Qj,Qk,Ql,Qm,Qn,true_and,and_true,Qo,Qp,Qq,Qr,Qs,Qt,Qu,Qv,Qw,Qx,Qy,Qz,Ra,Rb,Rc,Rd,Re,Rf,Rg,Rh,Ri,Rj,Rk,Rm,Rn,Ro,Rp,Rq,Rt,Ya,Yb,Yc,Ru,Rw,Zb,Yd,Ye,Ry,Rz,Wa,Wb,Wc,Wd,We]
    refine YV hE n1 n2 (by omega) (by omega) hsA hsB fun s3 o3=>?_
    rw[hvA,hvB]
    have oS3:Ae s.next s s3:=oS.trans (o3.mono oS.1)
    have R1':=R1.old o3
    have n1':=n1.old o3
    have n2':=n2.old o3
    by_cases hlt:A<B
    · have ec : HG   A B = -1 := by unfold HG;   rw [if_pos hlt]
      have d1:decide ((-1:Int)<0)=true:=by decide
      simp only[ec,Ry,d1,gP,Qa,Qb,Qc,Qd,Qe,Qf,Qg,Qh,Qi,Qj,Qk,Ql,Qm,Qn,true_and,and_true,Qo,Qp,Qq,Qr,Qs,Qt,Qu,Qv,Qw,Qx,Qy,Qz,Ra,Rb,Rc,Rd,Re,Rf,Rg,Rh,Ri,Rj,Rk,Rm,Rn,Ro,Rp,Rq,Rt,Ya,Yb,Yc,Ru,Rw,Zb,Yd,Ye,Ry,Rz,Wa,Wb,Wc,Wd,We]
      refine hK1 hB0 s3 _ _ oS3 ?_ ?_ (fun _=>rfl)
      · rw[sc hlt,BJ];exact NR.nil _ _
      · rw[rv hlt];exact R1'
    · have d1:decide (HG A B<0)=false:=by
        unfold HG
        rw[if_neg hlt]
        split<;>decide
      by_cases h1:(AQ B).length=1
      · have d2:decide (((AQ B).length:Int)=1)=true:=decide_eq_true (by omega)
        obtain⟨y,hy⟩:∃y,AQ B=[y]:=by
          match hlb:AQ B,h1 with
          | [y],_=>exact⟨y,rfl⟩
        have hyB:y=B:=by
          have:=hvB
          rw[hy]at this
          show y=B
          have e:AH [y]=y:=by show y+LB * 0=y;omega
          rw[e]at this;exact this
        subst hyB
        have hy32:y<4294967296:=by have:=hsB y (by rw[hy];simp);exact this
        obtain⟨p1,i1,l1⟩:=EC (cap:=cb) (n:=(AQ y).length) (hcb.old o3 (qw _)) (k:=0) (by omega) (x:=y) (by rw[hy];rfl)
        have i1':AK Tryz.prog 22 (.slice b (AQ y).length cb) (.int .i64 0)=some p1:=i1
        simp only[Ry,d1,Xi,gQ,AN Tryz.underlying22,Wc,d2,i1',l1,Bq hy32,Qa,Qb,Qc,Qd,Qe,Qf,Qg,Qh,Qi,Qj,Qk,Ql,Qm,Qn,true_and,and_true,Qo,Qp,Qq,Qr,Qs,Qt,Qu,Qv,Qw,Qx,Qy,Qz,Ra,Rb,Rc,Rd,Re,Rf,Rg,Rh,Ri,Rj,Rk,Rm,Rn,Ro,Rp,Rq,Rt,Ya,Yb,Yc,Ru,Rw,Zb,Yd,Ye,Ry,Rz,Wa,Wb,Wc,Wd,We]
        refine P7 hE n1' (by omega) hsA (x:=y) (by omega) (by omega) fun s4 vq o4 r4=>?_
        obtain⟨w1,w2,w3⟩:=D9 (show 0<y by omega) (AQ A)
        rw[hvA]at w1
        have hsq:=F3 (show 0<y by omega) hsA
        generalize BS y (AQ A)=T at *
        have hq:AH T.1=A / y:=by
          rw[w1,Nat.mul_add_div (by omega),sc w2,rO]
        have hr:T.2=A % y:=by
          rw[w1,Nat.mul_add_mod,rv w2]
        rw[Br hsq,hq]at r4
        rw[hr]
        simp only[gR,Zb,Qa,Qb,Qc,Qd,Qe,Qf,Qg,Qh,Qi,Qj,Qk,Ql,Qm,Qn,true_and,and_true,Qo,Qp,Qq,Qr,Qs,Qt,Qu,Qv,Qw,Qx,Qy,Qz,Ra,Rb,Rc,Rd,Re,Rf,Rg,Rh,Ri,Rj,Rk,Rm,Rn,Ro,Rp,Rq,Rt,Ya,Yb,Yc,Ru,Rw,Zb,Yd,Ye,Ry,Rz,Wa,Wb,Wc,Wd,We]
        refine Nk hE (n:=A % y) (by have:=rU A (show 0<y by omega);omega) fun s5 vr o5 r5=>?_
        simp only[Qa,Qb,Qc,Qd,Qe,Qf,Qg,Qh,Qi,Qj,Qk,Ql,Qm,Qn,true_and,and_true,Qo,Qp,Qq,Qr,Qs,Qt,Qu,Qv,Qw,Qx,Qy,Qz,Ra,Rb,Rc,Rd,Re,Rf,Rg,Rh,Ri,Rj,Rk,Rm,Rn,Ro,Rp,Rq,Rt,Ya,Yb,Yc,Ru,Rw,Zb,Yd,Ye,Ry,Rz,Wa,Wb,Wc,Wd,We]
        exact hK1 hB0 s5 vq vr (oS3.trans ((o4.mono oS3.1).trans (o5.mono (rD oS3.1 o4.1)))) ((r4.old o5).mono oS3.1) (r5.mono (rD oS3.1 o4.1)) (fun h=>absurd h hlt)
      · have d2:decide (((AQ B).length:Int)=1)=false:=decide_eq_false (by omega)
        obtain⟨lo,bt,hlo,hlol⟩:=FA (n:=(AQ B).length - 1) (l:=AQ B) (by omega)
        obtain⟨m,hm⟩:∃m,lo.length=m+1:=⟨lo.length - 1,by omega⟩
        have hbt32:bt<4294967296:=hsB bt (by rw[hlo];simp)
        have hbt0:0<bt:=by
          rcases sE bt with h | h
          · exfalso
            have e1:=K1 B hB0
            have e2:=Cp (fun x hx=>hsB x (by rw[hlo];exact tA _ hx):Bv lo)
            rw[hlo,De,h,sT,rO]at hvB
            rw[hlol]at e2
            omega
          · exact h
        simp only[Ry,d1,Xi,gT,AN Tryz.underlying22,Wc,d2,Qa,Qb,Qc,Qd,Qe,Qf,Qg,Qh,Qi,Qj,Qk,Ql,Qm,Qn,true_and,and_true,Qo,Qp,Qq,Qr,Qs,Qt,Qu,Qv,Qw,Qx,Qy,Qz,Ra,Rb,Rc,Rd,Re,Rf,Rg,Rh,Ri,Rj,Rk,Rm,Rn,Ro,Rp,Rq,Rt,Ya,Yb,Yc,Ru,Rw,Zb,Yd,Ye,Ry,Rz,Wa,Wb,Wc,Wd,We]
        have hcb3:AZ s3.next s3 b (us (lo++[bt])):=by rw[← hlo];exact(hcb.old o3 (qw _)).mono o3.1
        have hbl:(AQ B).length=lo.length+1:=by rw[hlo];simp
        rw[hbl]
        refine Ui hcb3 hbt0 hbt32 (by omega) _ _ _ _ _ _ _ _ _ _ _ _ _ _ _ _ (fun n y16 hn31 hn1 hn2=>?_) 32 0 _ rfl (by simpa using hbt32)
        have hnv:=mP (lo:=lo) (bt:=bt) (by rw[← hlo];exact hsB) hn31 hn1 hn2
        obtain⟨hV,vlo0,v1',hVe,hvlo0,hv1'⟩:=hnv
        rw[← hlo,hvB]at hV
        rw[← hlo]at hVe
        obtain⟨vlo,v2',hvloe,hvlol⟩:=FA (n:=m) (by rw[hvlo0,hm])
        have hVe2:(Jx (AQ B) (2 ^ n) 0).take (lo.length+1)=vlo++[v2',v1']:=by rw[hVe,hvloe];simp
        have h2n:2 ^ n<LB:=by
          rw[hLB]
          have e32:(2:Nat) ^ 32=4294967296:=by decide
          rw[← e32]
          exact Nat.pow_lt_pow_right (by decide) (by omega)
        have hsU:=FP h2n hsA BG
        have hsW:=FP h2n hsB BG
        have hUl:=IC (2 ^ n) (AQ A) 0
        have hWl:=IC (2 ^ n) (AQ B) 0
        have hUv:=J4 (AQ A) (2 ^ n) 0
        rw[hvA,rO]at hUv
        have hAB:lo.length+1≤(AQ A).length:=by
          rcases qz (AQ A).length (lo.length+1)with h | h
          · rw[← hbl]at h
            exact absurd (Ei h) hlt
          · exact h
        have hnu:=mO (vlo:=vlo0) hsA hn31 hv1' (by omega)
        rw[← hVe,hvlo0]at hnu
        have hsV:Bv (vlo++[v2',v1']):=by rw[← hVe2];exact hsW.take _
        rw[hVe2]at hV hnu
        simp only[if_true,XR,AN Tryz.underlying22,Qa,Qb,Qc,Qd,Qe,Qf,Qg,Qh,Qi,Qj,Qk,Ql,Qm,Qn,true_and,and_true,Qo,Qp,Qq,Qr,Qs,Qt,Qu,Qv,Qw,Qx,Qy,Qz,Ra,Rb,Rc,Rd,Re,Rf,Rg,Rh,Ri,Rj,Rk,Rm,Rn,Ro,Rp,Rq,Rt,Ya,Yb,Yc,Ru,Rw,Zb,Yd,Ye,Ry,Rz,Wa,Wb,Wc,Wd,We]
        have n2'':C7 s3 (.slice b (lo.length+1) cb) (AQ B):=by rw[← hbl];exact n2'
        refine j8 hE n1' (by omega) hsA (n:=n) (by omega) fun s4 vu o4 r4=>?_
        simp only[J1,AN Tryz.underlying22,CE,RY,Qa,Qb,Qc,Qd,Qe,Qf,Qg,Qh,Qi,Qj,Qk,Ql,Qm,Qn,true_and,and_true,Qo,Qp,Qq,Qr,Qs,Qt,Qu,Qv,Qw,Qx,Qy,Qz,Ra,Rb,Rc,Rd,Re,Rf,Rg,Rh,Ri,Rj,Rk,Rm,Rn,Ro,Rp,Rq,Rt,Ya,Yb,Yc,Ru,Rw,Zb,Yd,Ye,Ry,Rz,Wa,Wb,Wc,Wd,We]
        refine j8 hE (n2''.old o4) (by omega) hsB (n:=n) (by omega) fun s5 vw o5 r5=>?_
        have nw:=r5.n32'
        obtain⟨ui,pu,rfl,hu1,hu2,hu3,hu4⟩:=r4.own (by intro e;rw[e]at hUl;simp at hUl)
        obtain⟨wi,pw,rfl,hw1,hw2,hw3,hw4⟩:=r5.own (by intro e;rw[e]at hWl;simp at hWl)
        obtain⟨aw,cw,ew,hcapw,hcw⟩:=nw
        injection ew with ew1 ew2 ew3
        subst ew1;subst ew3
        have e1:=PG Tryz.underlying22 Ci hcapw (k:=lo.length+1) (by rw[hWl];omega)
        have nV:=C7.take hcapw hcw (k:=lo.length+1) (by rw[hWl];omega)
        rw[hVe2]at nV
        have e2:=C3 Tryz.prog 3 (((Jx (AQ A) (2 ^ n) 0).length:Nat):Int) ((lo.length+1:Nat):Int) ⟨by omega,by omega⟩
        have e2':(((Jx (AQ A) (2 ^ n) 0).length:Nat):Int) - ((lo.length+1:Nat):Int)=(((Jx (AQ A) (2 ^ n) 0).length - (lo.length+1):Nat):Int):=by omega
        have e3:=Nt ((Jx (AQ A) (2 ^ n) 0).length - (lo.length+1)) (by omega)
        have e4:=C3 Tryz.prog 3 (((Jx (AQ A) (2 ^ n) 0).length - (lo.length+1):Nat):Int) 1 ⟨by omega,by omega⟩
        simp only[J1,AN Tryz.underlying22,CE,RY,e1,XS,XT,e2,e2',Xy,e3,Xe,e4,Qa,Qb,Qc,Qd,Qe,Qf,Qg,Qh,Qi,Qj,Qk,Ql,Qm,Qn,true_and,and_true,Qo,Qp,Qq,Qr,Qs,Qt,Qu,Qv,Qw,Qx,Qy,Qz,Ra,Rb,Rc,Rd,Re,Rf,Rg,Rh,Ri,Rj,Rk,Rm,Rn,Ro,Rp,Rq,Rt,Ya,Yb,Yc,Ru,Rw,Zb,Yd,Ye,Ry,Rz,Wa,Wb,Wc,Wd,We]
        generalize hU0:Jx (AQ A) (2 ^ n) 0=U0 at *
        have hml:m=vlo.length:=hvlol.symm
        have hll:lo.length+1=vlo.length+2:=by omega
        rw[hll]at nV
        rw[hll]at *
        have hn5:s5.next<(newObj s5 (R 76 1 false (us (List.replicate (U0.length - (vlo.length+2)) 0)))).next:=sB _
        have o6:=Ae.new s5 (R 76 1 false (us (List.replicate (U0.length - (vlo.length+2)) 0)))
        have hVl:(vlo++[v2',v1']).length=vlo.length+2:=by simp
        generalize hs6:newObj s5 (R 76 1 false (us (List.replicate (U0.length - (vlo.length+2)) 0)))=s6 at *
        have hq6:s6.heap.get s5.next=some (R 76 1 false (us (List.replicate (U0.length - (vlo.length+2)) 0))):=by rw[← hs6,AP,if_pos rfl]
        have o46:Ae s4.next s4 s6:=o5.trans (o6.mono o5.1)
        have hu6:Cu s6 ui (us U0) pu:=hu3.keep (o46.2 ui hu2)
        refine Yn hE (s0:=s6) (U0:=U0) (ui:=ui) (qi:=s5.next) (pp:=pu) (rA hu2 o46.1) hn5 (by have:=o5.1;omega) (fun q hq=>⟨by have:=(hu4 q hq).2.1;have:=o46.1;omega,by have:=(hu4 q hq).2.1;have:=o5.1;omega⟩) hsV hv1' (by omega)
          (nV.old o6) (fun j hj=>?_) _ _ _ _ _ _ _ _ _ _ _ (fun S cu qs y10 y11 y12 y17 y18 hS=>?_) (U0.length - (vlo.length+2)) s6 U0 (List.replicate (U0.length - (vlo.length+2)) 0) _ _ _ _ ⟨qw _,fun j _ _ _ _=>rfl,hu6,Cu.of_R hq6,?_,?_⟩ (by omega)
        · injection hj with hj
          subst hj
          exact⟨by omega,fun e=>by have:=(hu4 wi e.symm).2.1;omega,by omega⟩
        ·
          have hVpos:0<AH (vlo++[v2',v1']):=by
            rw[hV]
            exact sW (by omega) (sQ (by decide))
          have hrem:=hS.inv.rem
          have hquo:=hS.inv.quo
          rw[sM,sM,hUv,hV]at hrem hquo
          rw[Nat.mul_div_mul_right _ _ (sQ (by decide))]at hquo
          rw[Nat.mul_mod_mul_right]at hrem
          have hcl:=hS.inv.len
          have hql:qs.length=U0.length - (vlo.length+2):=by have:=hS.qlen;rw[hVl]at this;omega
          have huiS:ui<S.next:=by have:=hS.next;have:=o46.1;omega
          have nu:=Pu hS.u huiS (lo:=0) (m:=cu.length) (by omega)
          rw[sM,List.take_length,hcl]at nu
          have p31:2 ^ n≤2147483648:=by
            have e31:(2:Nat) ^ 31=2147483648:=by decide
            rw[← e31]
            exact sn (by decide) hn31
          have p0:0<2 ^ n:=sQ (by decide)
          have es:AS Tryz.prog .shl 69 (.int .u64 1) (Aj n)=some (Aj (2 ^ n)):=by
            have:=M6 Tryz.prog 69 (a:=1) (k:=.u64) (n:=n) (by omega) (by rw[sV];omega)
            rw[sV]at this
            exact this
          simp only[if_true,Xb,es,Qa,Qb,Qc,Qd,Qe,Qf,Qg,Qh,Qi,Qj,Qk,Ql,Qm,Qn,true_and,and_true,Qo,Qp,Qq,Qr,Qs,Qt,Qu,Qv,Qw,Qx,Qy,Qz,Ra,Rb,Rc,Rd,Re,Rf,Rg,Rh,Ri,Rj,Rk,Rm,Rn,Ro,Rp,Rq,Rt,Ya,Yb,Yc,Ru,Rw,Zb,Yd,Ye,Ry,Rz,Wa,Wb,Wc,Wd,We]
          refine P7 hE nu (by omega) hS.inv.sm p0 (by omega) fun s8 vr o8 r8=>?_
          obtain⟨w1,w2,w3⟩:=D9 p0 cu
          have hss:=F3 p0 hS.inv.sm
          rw[hrem]at w1
          generalize BS (2 ^ n) cu=T at *
          have hr:AH T.1=A % B:=by
            have e1:2 ^ n * AH T.1+T.2=2 ^ n * (A % B):=by rw[← w1,rM]
            have e2:(2 ^ n * AH T.1+T.2) / 2 ^ n=2 ^ n * (A % B) / 2 ^ n:=by rw[e1]
            rw[Nat.mul_add_div p0,sc w2,rO,Nat.mul_div_cancel_left _ p0]at e2
            exact e2
          rw[Br hss,hr]at r8
          have hqiS:s5.next<S.next:=by have:=hS.next;omega
          have hq8:=hS.q.keep (o8.2 s5.next hqiS)
          have nq:C7 s8 (.slice (some (s5.next,0)) (U0.length - (vlo.length+2)) (some (U0.length - (vlo.length+2)))) qs:=
            ⟨some (s5.next,0),some (U0.length - (vlo.length+2)),by rw[hql],.inl ⟨_,rfl,by omega,fun e=>by cases e⟩,I1 hq8 (rA hqiS o8.1)⟩
          simp only[Xf,Zb,Qa,Qb,Qc,Qd,Qe,Qf,Qg,Qh,Qi,Qj,Qk,Ql,Qm,Qn,true_and,and_true,Qo,Qp,Qq,Qr,Qs,Qt,Qu,Qv,Qw,Qx,Qy,Qz,Ra,Rb,Rc,Rd,Re,Rf,Rg,Rh,Ri,Rj,Rk,Rm,Rn,Ro,Rp,Rq,Rt,Ya,Yb,Yc,Ru,Rw,Zb,Yd,Ye,Ry,Rz,Wa,Wb,Wc,Wd,We]
          refine Cc hE nq (by omega) fun s9 vq o9 r9=>?_
          rw[Br hS.inv.qsm,hquo]at r9
          have hbase:s.next≤S.next:=by have:=oS3.1;have:=o4.1;have:=o46.1;have:=hS.next;omega
          have oSS:Ae s.next s S:=⟨hbase,fun j hj=>by
            have h3:j<s3.next:=rA hj oS3.1
            have h4:j<s4.next:=rA h3 o4.1
            rw[hS.keep j (rA h4 o46.1) (by omega) (fun e=>by have:=(hu4 j e.symm).1;omega) (by have:=o5.1;omega),o46.2 j h4,o4.2 j h3]
            exact oS3.2 j hj⟩
          simp only[Qa,Qb,Qc,Qd,Qe,Qf,Qg,Qh,Qi,Qj,Qk,Ql,Qm,Qn,true_and,and_true,Qo,Qp,Qq,Qr,Qs,Qt,Qu,Qv,Qw,Qx,Qy,Qz,Ra,Rb,Rc,Rd,Re,Rf,Rg,Rh,Ri,Rj,Rk,Rm,Rn,Ro,Rp,Rq,Rt,Ya,Yb,Yc,Ru,Rw,Zb,Yd,Ye,Ry,Rz,Wa,Wb,Wc,Wd,We]
          exact hK1 hB0 s9 vq vr (oSS.trans ((o8.mono hbase).trans (o9.mono (rD hbase o8.1)))) (r9.mono (rD hbase o8.1)) ((r8.old o9).mono hbase) (fun h=>absurd h hlt)
        · have hd:AH (U0.drop (U0.length - (vlo.length+2)))<AH (vlo++[v2',v1']):=by
            have:U0.length - (vlo.length+2)=(AQ A).length - lo.length:=by omega
            rw[this];exact hnu
          refine⟨rfl,rfl,hsU,(rv hd).symm,fun x hx=>?_,?_⟩
          · rw[List.eq_of_mem_replicate hx];exact BG
          · rw [sc               hd, rl                     (by simp)]
            rfl
        · rw[List.length_replicate,hVl];omega
theorem RW(hE:GoodN E){va vb:AV}{la lb:List Nat}(ha:C7 s va la)(hb:C7 s vb lb)(hla:la.length≤1000000000)(hlb:lb.length≤1000000000)(hsa:Bv la)(hsb:Bv lb){K:AV→AE→Prop}
  (hK0:AH lb=0→∀s',Ae s.next s s'→K (.tuple [.slice none 0 (some 0),.slice none 0 (some 0),iv 3]) s')
  (hK1:AH lb≠0→∀s' vq vr,Ae s.next s s'→NR s.next s' vq (AQ (AH la / AH lb))→NR s.next s' vr (AQ (AH la % AH lb))→K (.tuple [vq,vr,iv 0]) s'):WF E 50 [va,vb] K s:=
 TS hE ha hb hla hlb hsa hsb hK0 fun h s' vq vr o r1 r2 _=>hK1 h s' vq vr o r1 r2
end
theorem Fs{a b:Nat}(h:a≤b):(AQ a).length≤(AQ b).length:=by
 rcases qz (AQ b).length (AQ a).length with h' | h'
 ·have:=Ei h';omega
 ·exact h'
section
variable{E:CR}{s:AE}
theorem Yx(hE:GoodN E){b:Nat}{Q:Ax→Prop}(x2:AV):
    ∀ (n A B : Nat) (S : AE)  (va vb x3 x4 : AV), B < n → Ae  b s S → b ≤ S.next → NR b S va (AQ    A) → NR b S vb (AQ    B) → (AQ    A).length ≤ 1000000000 → (AQ    B).length ≤ 1000000000 →
      (∀ (S:AE) (va vb y3 y4:AV),Ae b s S→NR b S va (AQ (Nat.gcd A B))→Q ⟨.exit 0,[va,vb,x2,y3,y4],[],S⟩) →
      WC E none (.loop Ot) Q [va,vb,x2,x3,x4] [] S:=by
  intro n
  induction n with
  | zero=>intro A B S va vb x3 x4 hB;omega
  | succ n ih =>
    intro A B S va vb x3 x4 hB ho hbS ha hb hla hlb hq
    have nb:=hb.n32
    have hlen:BN Tryz.prog S 22 vb=some (iv ((AQ B).length:Int)):=by
      obtain⟨a,cap,rfl,_,_⟩:=nb
      exact AN Tryz.underlying22
    refine WC.loop' ?_
    generalize hW:WC E none (Ad.loop Ot) Q=WW
    by_cases h0:B=0
    · subst h0
      have dd:decide ((0:Int)<((AQ 0).length:Int))=false:=by rw[BJ];rfl
      simp only[Ot,XP,hlen,Rz,dd,Qa,Qb,Qc,Qd,Qe,Qf,Qg,Qh,Qi,Qj,Qk,Ql,Qm,Qn,true_and,and_true,Qo,Qp,Qq,Qr,Qs,Qt,Qu,Qv,Qw,Qx,Qy,Qz,Ra,Rb,Rc,Rd,Re,Rf,Rg,Rh,Ri,Rj,Rk,Rm,Rn,Ro,Rp,Rq,Rt,Ya,Yb,Yc,Ru,Rw,Zb,Yd,Ye,Ry,Rz,Wa,Wb,Wc,Wd,We]
      refine hq S va vb _ _ ho ?_
      rw[Nat.gcd_zero_right]
      exact ha
    · have hpos : 0 < (AQ    B).length := List.length_pos_iff.2 (Bs       h0)
      have dd:decide ((0:Int)<((AQ B).length:Int))=true:=decide_eq_true (by omega)
      simp only[Ot,XP,gH,hlen,Rz,dd,Qa,Qb,Qc,Qd,Qe,Qf,Qg,Qh,Qi,Qj,Qk,Ql,Qm,Qn,true_and,and_true,Qo,Qp,Qq,Qr,Qs,Qt,Qu,Qv,Qw,Qx,Qy,Qz,Ra,Rb,Rc,Rd,Re,Rf,Rg,Rh,Ri,Rj,Rk,Rm,Rn,Ro,Rp,Rq,Rt,Ya,Yb,Yc,Ru,Rw,Zb,Yd,Ye,Ry,Rz,Wa,Wb,Wc,Wd,We]
      refine RW hE ha.n32 nb hla hlb (AX A) (AX B) (fun e=>absurd (by rw[Ab]at e;exact e) h0) fun _ s' vq vr o' rq rr=>?_
      rw[Ab,Ab]at rr
      have hlt:A % B<B:=rU _ (by omega)
      simp only[gI,Zb,Qa,Qb,Qc,Qd,Qe,Qf,Qg,Qh,Qi,Qj,Qk,Ql,Qm,Qn,true_and,and_true,Qo,Qp,Qq,Qr,Qs,Qt,Qu,Qv,Qw,Qx,Qy,Qz,Ra,Rb,Rc,Rd,Re,Rf,Rg,Rh,Ri,Rj,Rk,Rm,Rn,Ro,Rp,Rq,Rt,Ya,Yb,Yc,Ru,Rw,Zb,Yd,Ye,Ry,Rz,Wa,Wb,Wc,Wd,We]
      rw[← hW]
      have e:Nat.gcd A B=Nat.gcd B (A % B):=by rw[Nat.gcd_comm,Nat.gcd_rec,Nat.gcd_comm]
      rw[e]at hq
      refine ih B (A % B) s' vb vr _ _ (by omega) (ho.trans (o'.mono hbS)) (rD hbS o'.1) (hb.old o') (rr.mono hbS) hlb (rD (Fs (Nat.le_of_lt hlt)) hlb) hq
theorem R0(hE:GoodN E){va vb:AV}{la lb:List Nat}(ha:C7 s va la)(hb:C7 s vb lb)(hla:la.length≤1000000000)(hlb:lb.length≤1000000000)(hsa:Bv la)(hsb:Bv lb){K:AV→AE→Prop}
  (hK:∀s' v,Ae s.next s s'→NR s.next s' v (AQ (Nat.gcd (AH la) (AH lb)))→K v s'):WF E 49 [va,vb] K s:=by
 refine hE.go lF (by decide) rfl ?_
 simp only[qR,gF,gG,Qa,Qb,Qc,Qd,Qe,Qf,Qg,Qh,Qi,Qj,Qk,Ql,Qm,Qn,true_and,and_true,Qo,Qp,Qq,Qr,Qs,Qt,Qu,Qv,Qw,Qx,Qy,Qz,Ra,Rb,Rc,Rd,Re,Rf,Rg,Rh,Ri,Rj,Rk,Rm,Rn,Ro,Rp,Rq,Rt,Ya,Yb,Yc,Ru,Rw,Zb,Yd,Ye,Ry,Rz,Wa,Wb,Wc,Wd,We]
 refine Cc hE ha (by omega) fun s1 v1 o1 r1=>?_
 simp only[Qa,Qb,Qc,Qd,Qe,Qf,Qg,Qh,Qi,Qj,Qk,Ql,Qm,Qn,true_and,and_true,Qo,Qp,Qq,Qr,Qs,Qt,Qu,Qv,Qw,Qx,Qy,Qz,Ra,Rb,Rc,Rd,Re,Rf,Rg,Rh,Ri,Rj,Rk,Rm,Rn,Ro,Rp,Rq,Rt,Ya,Yb,Yc,Ru,Rw,Zb,Yd,Ye,Ry,Rz,Wa,Wb,Wc,Wd,We]
 refine Cc hE (hb.old o1) (by omega) fun s2 v2 o2 r2=>?_
 have t1:=Eu la
 have t2:=Eu lb
 have R1:NR s.next s2 v1 (AQ (AH la)):=by have:=r1.old o2;rw[Br hsa]at this;exact this
 have R2:NR s.next s2 v2 (AQ (AH lb)):=by have:=r2.mono o1.1;rw[Br hsb]at this;exact this
 rw[Br hsa]at t1
 rw[Br hsb]at t2
 have o12:=o1.trans (o2.mono o1.1)
 simp only[Qa,Qb,Qc,Qd,Qe,Qf,Qg,Qh,Qi,Qj,Qk,Ql,Qm,Qn,true_and,and_true,Qo,Qp,Qq,Qr,Qs,Qt,Qu,Qv,Qw,Qx,Qy,Qz,Ra,Rb,Rc,Rd,Re,Rf,Rg,Rh,Ri,Rj,Rk,Rm,Rn,Ro,Rp,Rq,Rt,Ya,Yb,Yc,Ru,Rw,Zb,Yd,Ye,Ry,Rz,Wa,Wb,Wc,Wd,We]
 refine Yx (s:=s) hE _ (AH lb+1) _ _ s2 v1 v2 _ _ (sB _) o12 o12.1 R1 R2 (by omega) (by omega) fun S va vb y3 y4 hS hr=>?_
 simp only[gJ,if_true,Qa,Qb,Qc,Qd,Qe,Qf,Qg,Qh,Qi,Qj,Qk,Ql,Qm,Qn,true_and,and_true,Qo,Qp,Qq,Qr,Qs,Qt,Qu,Qv,Qw,Qx,Qy,Qz,Ra,Rb,Rc,Rd,Re,Rf,Rg,Rh,Ri,Rj,Rk,Rm,Rn,Ro,Rp,Rq,Rt,Ya,Yb,Yc,Ru,Rw,Zb,Yd,Ye,Ry,Rz,Wa,Wb,Wc,Wd,We]
 exact hK S va hS hr
end
theorem ND:∀ (l w:List Nat),l.zip (w.take l.length)=l.zip w
 | [],w=>by simp
 | x::l,[]=>by simp
 | x::l,y::w=>by rw[rn,List.take_succ_cons,tB,tB,ND l w]
structure UC(la lb cu:List Nat)(i:Nat):Prop where
 len:cu.length=la.length+lb.length
 sm:Bv cu
 val:AH cu=AH (la.take i) * AH lb
 zero:cu.drop (i+lb.length)=List.replicate (la.length - i) 0
theorem UC.step{la lb cu:List Nat}{i x:Nat}(h:UC la lb cu i)(hx:la[i]? = some x)(hxs:x<LB)(hb:Bv lb):
  UC la lb (Fe cu i ((FX x (lb.zip (cu.drop i)) 0).1++[(FX x (lb.zip (cu.drop i)) 0).2])) (i+1):=by
 obtain⟨h1,h2,h3,h4⟩:=h
 have hi:i<la.length:=(List.getElem?_eq_some_iff.1 hx).1
 have hz:lb.zip (cu.drop i)=lb.zip ((cu.drop i).take lb.length):=(ND _ _).symm
 rw[hz]
 have hwl:((cu.drop i).take lb.length).length=lb.length:=by rw[rR,sC];omega
 have hv:=Ph x (lb.zip ((cu.drop i).take lb.length)) 0
 have hl:=LJ x (lb.zip ((cu.drop i).take lb.length)) 0
 have hzl:(lb.zip ((cu.drop i).take lb.length)).length=lb.length:=by rw[su,hwl,tM]
 obtain⟨c1,c2⟩:=Hk (x:=x) (P:=lb.zip ((cu.drop i).take lb.length)) (c:=0) hxs (fun p hp=>by
  have:=List.of_mem_zip (a:=p.1) (b:=p.2) hp
  exact⟨hb _ this.1,(h2.drop i).take lb.length _ this.2⟩) BG
 rw[OO hwl.symm,OP hwl.symm,hzl]at hv
 rw[hzl]at hl
 generalize FX x (lb.zip ((cu.drop i).take lb.length)) 0=T at *
 obtain⟨T1,T2⟩:=T
 simp only at *
 have hdl:(T1++[T2]).length=lb.length+1:=by rw[rL,hl];rfl
 have hd0:cu.drop (i+(lb.length+1))=List.replicate (la.length - (i+1)) 0:=by
  rw[← re,← sR,h4,List.drop_replicate]
  congr 1
 have hcu:AH cu=AH (cu.take i)+LB ^ i * AH ((cu.drop i).take lb.length):=by
  have e1:cu=cu.take i++((cu.drop i).take lb.length++cu.drop (i+lb.length)):=by
   rw[← sR,sw,sw]
  have e2:=congrArg AH e1
  rw[Bc,h4,Bc,HF,sT,rO,rR,so (by omega)]at e2
  exact e2
 have hta:AH (la.take (i+1))=AH (la.take i)+LB ^ i * x:=by
  rw[List.take_add_one,hx,Bc,rR,so (by omega)]
  simp[AH]
 refine⟨?_,?_,?_,?_⟩
 ·rw[G4 (by rw[hdl];omega)];exact h1
 ·unfold Fe
  refine((h2.take i).append (c2.append fun y hy=>?_)).append (h2.drop _)
  rw[List.mem_singleton.1 hy];exact c1
 ·unfold Fe
  rw[hdl,hd0,Bc,HF,sT,rO,Bc,Bc,hl,hta,rR,so (by omega)]
  have e3:AH [T2]=T2:=by simp[AH]
  rw[e3,hv,rS,← h3,hcu,rO,rY,rT]
  omega
 ·unfold Fe
  rw[show i+1+lb.length=(cu.take i++(T1++[T2])).length by simp[hl];omega,List.drop_left,hdl]
  exact hd0
section
variable{E:CR}{s:AE}
theorem Zr{s1:AE}{x:Nat}(hxs:x<4294967296){ui off N:Nat}{cu w:List Nat}(hN:N=cu.length)(hcu:off+w.length≤cu.length)(hcl:cu.length≤100000000000)(hsu:Bv cu)(hsw:Bv w){a9:Option (Nat×Nat)}{c9:Option Nat}{b:Nat}(hc9:AZ b s1 a9 (us w))(h9:b≤ui)
    {T:List Nat×Nat} {Q:Ax→Prop} (y0 y1 y2 y9 y10 y11 y12:AV)
    (hq:∀ (s':AE) (y7 y8 y15 y16:AV),EV s1 s' ui none→Cu s' ui (us (Fe cu off T.1)) none →
      Q ⟨.exit 2,[y0,y1,y2,.slice (some (ui,0)) N (some N),iv (off:Int),BV x,Aj T.2,y7,y8,y9,y10,y11,y12,.slice a9 w.length c9,iv (w.length:Int),y15,y16],[],s'⟩):
    ∀ (r : List Nat) (s' : AE)  (c : Nat) (d : List Nat) (x7 x8 x16 : AV), w.drop d.length = r → d.length ≤ w.length → EV    s1 s' ui none → c < 4294967296 →
      (d++(FX x (r.zip (cu.drop (off+d.length))) c).1,(FX x (r.zip (cu.drop (off+d.length))) c).2)=T→Cu s' ui (us (Fe cu off d)) none →
      WC E none (.loop Kd) Q [y0,y1,y2,.slice (some (ui,0)) N (some N),iv (off:Int),BV x,Aj c,x7,x8,y9,y10,y11,y12,.slice a9 w.length c9,iv (w.length:Int),iv (d.length:Int),x16] [] s':=by
  subst hN
  intro r
  induction r with
  | nil =>
    intro s' c d x7 x8 x16 hd hk ho hc hT hg
    have hkl:d.length=w.length:=by
      have:=congrArg List.length hd
      simp at this
      omega
    rw[List.zip_nil_left]at hT
    simp only[FX,sj]at hT
    have dd:decide ((d.length:Int)<(w.length:Int))=false:=decide_eq_false (by omega)
    refine WC.loop' ?_
    simp only[Kd,Xt,Ry,dd,Qa,Qb,Qc,Qd,Qe,Qf,Qg,Qh,Qi,Qj,Qk,Ql,Qm,Qn,true_and,and_true,Qo,Qp,Qq,Qr,Qs,Qt,Qu,Qv,Qw,Qx,Qy,Qz,Ra,Rb,Rc,Rd,Re,Rf,Rg,Rh,Ri,Rj,Rk,Rm,Rn,Ro,Rp,Rq,Rt,Ya,Yb,Yc,Ru,Rw,Zb,Yd,Ye,Ry,Rz,Wa,Wb,Wc,Wd,We]
    subst hT
    exact hq s' _ _ _ _ ho hg
  | cons y r ih =>
    intro s' c d x7 x8 x16 hd hk ho hc hT hg
    have hlt:d.length<w.length:=by
      rcases qz d.length w.length with h' | h'
      · exact h'
      · rw[rl h']at hd;cases hd
    have hy:w[d.length]? = some y:=by
      have:=congrArg (fun l=>l[0]?) hd
      simpa using this
    have hd':w.drop (d.length+1)=r:=by
      have:=congrArg (List.drop 1) hd
      simpa[sR]using this
    have hys:y<4294967296:=hsw y (rQ hy)
    have hlu:off+d.length<cu.length:=by omega
    have hu:cu[off+d.length]? = some cu[off+d.length]:=qy hlu
    have hdu:cu.drop (off+d.length)=cu[off+d.length]::cu.drop (off+(d.length+1)):=sD hlu
    generalize cu[off+d.length]=u at hu hdu
    have hus:u<4294967296:=hsu u (rQ hu)
    rw[hdu,tB]at hT
    simp only[FX]at hT
    obtain⟨i,o,rfl,hi,hload⟩:=hc9 d.length _ (Cy hy)
    have hne:i≠ui:=by omega
    have hkk:decide ((d.length:Int)<(w.length:Int))=true:=decide_eq_true (by omega)
    have e1:=Ah (cap:=c9) (i:=i) (o:=o) Tryz.underlying22 Ci hlt
    have e2:AA Tryz.prog s' 76 (.ptr (some (i,o+d.length * 1)))=some (BV y):=CJ GH (by rw[rG,Dr (ho.get i hne (by simp))];exact hload)
    have e0:=BU Tryz.prog 3 (off:Int) (d.length:Int) ⟨by omega,by omega⟩
    have e0':((off:Int)+(d.length:Int))=((off+d.length:Nat):Int):=by omega
    have e5:=Ah (cap:=some cu.length) (i:=ui) (o:=0) Tryz.underlying22 Ci hlu
    have hcell:(us (Fe cu off d))[0+(off+d.length) * 1]? = some (BV u):=by rw[rG,rE];exact Cy ((Nv hlu).trans hu)
    have e6:=FU (P:=Tryz.prog) (t:=76) GH hg hcell
    have hxy:x * y≤4294967295 * 4294967295:=rW (by omega) (by omega)
    have e3:=QK Tryz.prog 69 (a:=x) (b:=y) (by omega)
    have e3':=HX Tryz.prog 69 (a:=x * y) (b:=u) (by omega)
    have e4:=HX Tryz.prog 69 (a:=c) (b:=x * y+u) (by omega)
    have hLB:LB=4294967296:=rfl
    rw[hLB]at hT
    generalize hc1:c+(x * y+u)=c1 at hT e4
    have hc1b:c1<18446744073709551616:=by omega
    have e7:=Js Tryz.prog 69 hc1b
    have e11:c1 % 4294967296 % 4294967296=c1 % 4294967296:=tC _ _
    have e15:AS Tryz.prog .shr 69 (Aj c1) (.int .u64 32)=some (Aj (c1 / 4294967296)):=Ip Tryz.prog 69 (k:=.u64) (n:=32) (by decide)
    have hcq:c1 / 4294967296<4294967296:=by omega
    generalize hx:c1 % 4294967296=z at hT e7 e11
    have hlm:0+(off+d.length) * 1<(us (Fe cu off d)).length:=by rw[CY,G4 (by omega)];omega
    obtain⟨s2,e16,w1,w2,w3⟩:=Df (P:=Tryz.prog) (t:=76) (v:=BV z) Ci hg hlm rfl
    rw[rG,rE]at e16
    rw[rG,rE,Gu,KF hlu]at w1
    rw[rG,rE]at e5 e6
    have e17:=BU Tryz.prog 3 (d.length:Int) 1 ⟨by omega,by omega⟩
    have e17':((d.length:Int)+1)=((d.length+1:Nat):Int):=by omega
    refine WC.loop' ?_
    generalize hW:WC E none (Ad.loop Kd) Q=WW
    simp only[Kd,Xt,ge,gg,Xj,Xk,Xm,Ry,hkk,e0,e0',e1,e2,e5,e6,Bq hus,Bq hys,Bq hxs,e3,e3',e4,e7,CC,e11,e16,e15,e17,e17',Xy,Za,Qa,Qb,Qc,Qd,Qe,Qf,Qg,Qh,Qi,Qj,Qk,Ql,Qm,Qn,true_and,and_true,Qo,Qp,Qq,Qr,Qs,Qt,Qu,Qv,Qw,Qx,Qy,Qz,Ra,Rb,Rc,Rd,Re,Rf,Rg,Rh,Ri,Rj,Rk,Rm,Rn,Ro,Rp,Rq,Rt,Ya,Yb,Yc,Ru,Rw,Zb,Yd,Ye,Ry,Rz,Wa,Wb,Wc,Wd,We]
    rw[← hW]
    have hlen1:(d++[z]).length=d.length+1:=by rw[rL];rfl
    have key:=ih s2 (c1 / 4294967296) (d++[z])
    rw[hlen1]at key
    exact key _ _ _ hd' hlt (ho.step w2 w3) hcq (by rw[rZ];exact hT) w1
end
section
variable{E:CR}{s:AE}
theorem ZE       {s1 : AE}  {qi : Nat} {a b : Option (Nat × Nat)} {ca cb : Option Nat} {la lb : List Nat} (hca : AZ      qi s1 a (us la)) (hcb : AZ      qi s1 b (us lb)) (hla : la.length ≤ 10000000000) (hlb : lb.length ≤ 10000000000) (hsa : Bv  la) (hsb : Bv  lb) {Q : Ax   → Prop} (y2 : AV)
    (hq:∀ (s':AE) (cu:List Nat) (y4 y5 y6 y7 y8 y11 y12 y13 y14 y15 y16:AV),EV s1 s' qi none→Cu s' qi (us cu) none→UC la lb cu la.length →
      Q ⟨.exit 0,[.slice a la.length ca,.slice b lb.length cb,y2,.slice (some (qi,0)) (la.length+lb.length) (some (la.length+lb.length)),y4,y5,y6,y7,y8,.slice a la.length ca,iv (la.length:Int),y11,y12,y13,y14,y15,y16],[],s'⟩):
    ∀ (k i:Nat) (s':AE) (cu:List Nat) (x4 x5 x6 x7 x8 x12 x13 x14 x15 x16:AV),i+k=la.length→EV s1 s' qi none→Cu s' qi (us cu) none→UC la lb cu i →
      WC E none (.loop Ke) Q [.slice a la.length ca,.slice b lb.length cb,y2,.slice (some (qi,0)) (la.length+lb.length) (some (la.length+lb.length)),x4,x5,x6,x7,x8,.slice a la.length ca,iv (la.length:Int),iv (i:Int),x12,x13,x14,x15,x16] [] s':=by
  intro k
  induction k with
  | zero =>
    intro i s' cu x4 x5 x6 x7 x8 x12 x13 x14 x15 x16 hik ho hg hm
    have e:i=la.length:=by omega
    subst e
    have dd:decide ((la.length:Int)<(la.length:Int))=false:=decide_eq_false (by omega)
    refine WC.loop' ?_
    simp only[Ke,Xs,Ry,dd,Qa,Qb,Qc,Qd,Qe,Qf,Qg,Qh,Qi,Qj,Qk,Ql,Qm,Qn,true_and,and_true,Qo,Qp,Qq,Qr,Qs,Qt,Qu,Qv,Qw,Qx,Qy,Qz,Ra,Rb,Rc,Rd,Re,Rf,Rg,Rh,Ri,Rj,Rk,Rm,Rn,Ro,Rp,Rq,Rt,Ya,Yb,Yc,Ru,Rw,Zb,Yd,Ye,Ry,Rz,Wa,Wb,Wc,Wd,We]
    exact hq s' cu _ _ _ _ _ _ _ _ _ _ _ ho hg hm
  | succ k ih =>
    intro i s' cu x4 x5 x6 x7 x8 x12 x13 x14 x15 x16 hik ho hg hm
    have hi:i<la.length:=by omega
    have hx:la[i]? = some la[i]:=qy hi
    generalize la[i]=x at hx
    have hxs:x<4294967296:=hsa x (rQ hx)
    have hstep:=hm.step hx hxs hsb
    obtain⟨pi,o,rfl,hpi,hload⟩:=hca i _ (Cy hx)
    have dd:decide ((i:Int)<(la.length:Int))=true:=decide_eq_true (by omega)
    have e1:=Ah (cap:=ca) (i:=pi) (o:=o) Tryz.underlying22 Ci hi
    have e2:AA Tryz.prog s' 76 (.ptr (some (pi,o+i * 1)))=some (BV x):=CJ GH (by rw[rG,Dr (ho.get pi (by omega) (by simp))];exact hload)
    have hTl:(FX x (lb.zip (cu.drop i)) 0).1.length=lb.length:=by
      rw[LJ,su,sC,hm.len];omega
    generalize hT:FX x (lb.zip (cu.drop i)) 0=T at *
    have hlen:=hm.len
    have hil:i+T.1.length<cu.length:=by omega
    refine WC.loop' ?_
    generalize hW:WC E none (Ad.loop Ke) Q=WW
    simp only[Ke,Xs,gX,gY,gZ,AN Tryz.underlying22,Ry,dd,e1,e2,Qa,Qb,Qc,Qd,Qe,Qf,Qg,Qh,Qi,Qj,Qk,Ql,Qm,Qn,true_and,and_true,Qo,Qp,Qq,Qr,Qs,Qt,Qu,Qv,Qw,Qx,Qy,Qz,Ra,Rb,Rc,Rd,Re,Rf,Rg,Rh,Ri,Rj,Rk,Rm,Rn,Ro,Rp,Rq,Rt,Ya,Yb,Yc,Ru,Rw,Zb,Yd,Ye,Ry,Rz,Wa,Wb,Wc,Wd,We]
    refine Zr (s1:=s1) (x:=x) hxs (ui:=qi) (off:=i) (N:=la.length+lb.length) (cu:=cu) (w:=lb) (a9:=b) (c9:=cb) (b:=qi) hm.len.symm (by omega) (by omega) hm.sm hsb hcb (qw _) (T:=T) _ _ _ _ _ _ _ (fun s2 y7 y8 y15 y16 ho2 hg2=>?_) lb s' 0 [] _ _ _ rfl (rB _) ho (by decide) (by rw[← hT];rfl) (by rw[Nw];exact hg)
    have e3:=BU Tryz.prog 3 (i:Int) (lb.length:Int) ⟨by omega,by omega⟩
    have e3':((i:Int)+(lb.length:Int))=((i+lb.length:Nat):Int):=by omega
    have e4:=Ah (cap:=some (la.length+lb.length)) (i:=qi) (o:=0) Tryz.underlying22 Ci (show i+lb.length<la.length+lb.length by omega)
    have hT2:T.2<4294967296:=by
      rw[← hT]
      exact(Hk (x:=x) hxs (fun p hp=>by
        have:=List.of_mem_zip (a:=p.1) (b:=p.2) hp
        exact⟨hsb _ this.1,hm.sm.drop i _ this.2⟩) BG).1
    have e5:T.2 % 4294967296=T.2:=rv hT2
    have hlm:0+(i+lb.length) * 1<(us (Fe cu i T.1)).length:=by rw[CY,G4 (by omega)];omega
    obtain⟨s3,e16,w1,w2,w3⟩:=Df (P:=Tryz.prog) (t:=76) (v:=BV T.2) Ci hg2 hlm rfl
    rw[rG,rE]at e16 e4
    rw[rG,rE,Gu,← hTl,KF hil]at w1
    have e17:=BU Tryz.prog 3 (i:Int) 1 ⟨by omega,by omega⟩
    have e17':((i:Int)+1)=((i+1:Nat):Int):=by omega
    simp only[Xp,Xq,if_true,AN Tryz.underlying22,CC,e3,e3',e4,e5,e16,e17,e17',Xy,Za,Qa,Qb,Qc,Qd,Qe,Qf,Qg,Qh,Qi,Qj,Qk,Ql,Qm,Qn,true_and,and_true,Qo,Qp,Qq,Qr,Qs,Qt,Qu,Qv,Qw,Qx,Qy,Qz,Ra,Rb,Rc,Rd,Re,Rf,Rg,Rh,Ri,Rj,Rk,Rm,Rn,Ro,Rp,Rq,Rt,Ya,Yb,Yc,Ru,Rw,Zb,Yd,Ye,Ry,Rz,Wa,Wb,Wc,Wd,We]
    rw[← hW]
    exact ih (i+1) s3 _ _ _ _ _ _ _ _ _ _ _ (by omega) (ho2.step w2 w3) w1 hstep
theorem Nz(hE:GoodN E){va vb:AV}{la lb:List Nat}(ha:C7 s va la)(hb:C7 s vb lb)(hla:la.length≤1000000000)(hlb:lb.length≤1000000000)(hsa:Bv la)(hsb:Bv lb){K:AV→AE→Prop}
  (hK:∀s' v,Ae s.next s s'→NR s.next s' v (AQ (AH la * AH lb))→K v s'):WF E 51 [va,vb] K s:=by
 obtain⟨a,ca,rfl,hcapa,hca⟩:=ha
 obtain⟨b,cb,rfl,hcapb,hcb⟩:=hb
 have e0:=BU Tryz.prog 3 (la.length:Int) (lb.length:Int) ⟨by omega,by omega⟩
 have e0':((la.length:Int)+(lb.length:Int))=((la.length+lb.length:Nat):Int):=by omega
 have e1:=Nt (la.length+lb.length) (by omega)
 have ho:=Ae.new s (R 76 1 false (us (List.replicate (la.length+lb.length) 0)))
 refine hE.go lH (by decide) rfl ?_
 simp only[qT,gU,gV,gW,AN Tryz.underlying22,e0,e0',e1,Xy,Xe,Qa,Qb,Qc,Qd,Qe,Qf,Qg,Qh,Qi,Qj,Qk,Ql,Qm,Qn,true_and,and_true,Qo,Qp,Qq,Qr,Qs,Qt,Qu,Qv,Qw,Qx,Qy,Qz,Ra,Rb,Rc,Rd,Re,Rf,Rg,Rh,Ri,Rj,Rk,Rm,Rn,Ro,Rp,Rq,Rt,Ya,Yb,Yc,Ru,Rw,Zb,Yd,Ye,Ry,Rz,Wa,Wb,Wc,Wd,We]
 have hg0:(newObj s (R 76 1 false (us (List.replicate (la.length+lb.length) 0)))).heap.get s.next=some (R 76 1 false (us (List.replicate (la.length+lb.length) 0))):=by
  rw[AP,if_pos rfl]
 have hR0:UC la lb (List.replicate (la.length+lb.length) 0) 0:=by
  refine⟨by simp,fun x hx=>by rw[List.eq_of_mem_replicate hx];exact BG,?_,?_⟩
  ·rw[HF,tD]
   show 0=0 * _
   rw[sN]
  ·rw[List.drop_replicate]
   congr 1
   omega
 refine ZE (s1:=newObj s (R 76 1 false (us (List.replicate (la.length+lb.length) 0)))) (qi:=s.next) (hca.old ho (qw _)) (hcb.old ho (qw _)) (by omega) (by omega) hsa hsb _
  (fun s' cu y4 y5 y6 y7 y8 y11 y12 y13 y14 y15 y16 o' hg' hm=>?_) la.length 0 _ _ _ _ _ _ _ _ _ _ _ _ (by omega) (EV.refl _ _ _) (Cu.of_R hg0) hR0
 have hsn:s'.next=s.next+1:=o'.next
 have hq:C7 s' (.slice (some (s.next,0)) (la.length+lb.length) (some (la.length+lb.length))) cu:=
  ⟨some (s.next,0),some (la.length+lb.length),by rw[hm.len],.inl ⟨_,rfl,by have:=hm.len;omega,fun e=>by cases e⟩,I1 hg' (by omega)⟩
 simp only[Xr,if_true,Qa,Qb,Qc,Qd,Qe,Qf,Qg,Qh,Qi,Qj,Qk,Ql,Qm,Qn,true_and,and_true,Qo,Qp,Qq,Qr,Qs,Qt,Qu,Qv,Qw,Qx,Qy,Qz,Ra,Rb,Rc,Rd,Re,Rf,Rg,Rh,Ri,Rj,Rk,Rm,Rn,Ro,Rp,Rq,Rt,Ya,Yb,Yc,Ru,Rw,Zb,Yd,Ye,Ry,Rz,Wa,Wb,Wc,Wd,We]
 refine Cc hE hq (by have:=hm.len;omega) fun s2 v2 o2 r2=>?_
 rw[Br hm.sm,hm.val,List.take_length]at r2
 simp only[Qa,Qb,Qc,Qd,Qe,Qf,Qg,Qh,Qi,Qj,Qk,Ql,Qm,Qn,true_and,and_true,Qo,Qp,Qq,Qr,Qs,Qt,Qu,Qv,Qw,Qx,Qy,Qz,Ra,Rb,Rc,Rd,Re,Rf,Rg,Rh,Ri,Rj,Rk,Rm,Rn,Ro,Rp,Rq,Rt,Ya,Yb,Yc,Ru,Rw,Zb,Yd,Ye,Ry,Rz,Wa,Wb,Wc,Wd,We]
 exact hK s2 v2 (ho.trans (Ae.trans ⟨by have:s.next≤(newObj s (R 76 1 false (us (List.replicate (la.length+lb.length) 0)))).next:=sG _;have:=o'.next;omega,fun j hj=>o'.get j (by omega) (by simp)⟩ (o2.mono (by omega)))) (r2.mono (by omega))
end
end
end Go.Proofs.YtjnkfbpadpmakaaGreatDoor.Am
set_option linter.unusedVariables false
set_option linter.unusedSimpArgs false
namespace Go.Proofs.YtjnkfbpadpmakaaGreatDoor.Am
open Go Go.Proofs
noncomputable section
theorem Cf{s s':AE}{l:Nat}(h:s'.heap.get l=s.heap.get l):A8 s' l=A8 s l:=by unfold A8;rw[h]
theorem CK(s:AE)(l:Nat)(r:C0):A8 (setObj s l (.loop r)) l=some r:=by unfold A8;rw[Kw,if_pos rfl]
def H5(Q:Ax→Prop)(var:List AV)(marks:List Nat)(s:AE)(pd:Option Code):Prop:=match pd with
 | none=>Q ⟨.normal,var,marks,s⟩
 | some .ret=>Q ⟨.ret,var,marks,s⟩
 | some (.exit id)=>Q ⟨.exit id,var,marks,s⟩
 | some _=>False
theorem ZZ{Q:Ax→Prop}{var:List AV}{marks:List Nat}{s:AE}{pd:Option Code}(h:H5 Q var marks s pd):∃r,GR var marks s pd=some r∧Q r:=by
 unfold H5 at h
 unfold GR
 split at h
 ·exact⟨_,rfl,h⟩
 ·exact⟨_,rfl,h⟩
 ·exact⟨_,rfl,h⟩
 ·exact h.elim
def Fv(fn:FuncId)(var:List AV)(ps:Array Tmp)(a b:Code)(dfr:Nat):C0:={ state:=.ready,pending:=none,fn,var,params:=ps,assign:=a,body:=b,dfr }
theorem WC.range{E:CR}{Q:Ax→Prop}{var:List AV}{marks:List Nat}{s:AE}{fn:FuncId}{f:CX}{ps:Array Tmp}{a b:Code}{g:FuncId}{first cap:List AV}(hf:C8 [] var f=.func g first cap)
  (h:WF E g (first++([.yield (s.next+1)]++cap)) (fun _ s'=>∃r,A8 s' (s.next+1)=some r∧R8 r.state=false∧H5 Q var (s.next::marks) (setObj s' (s.next+1) (.loop { r with state:=.exhausted })) r.pending)
   (newObj (newObj s .mark) (.loop (Fv fn var ps a b s.next)))):WC E none (.rangeFunc fn f ps a b) Q var marks s:=by
 obtain⟨n,p,h1,r,h2,h3,h4⟩:=h
 obtain⟨res,h5,h6⟩:=ZZ h4
 refine⟨n+1,res,?_,h6⟩
 show C5 (D8 E n) none (.rangeFunc fn f ps a b) var marks s=some res
 simp only[C5,Ki,E8,Gy,hf,GU]
 have e:(newObj s .mark).next=s.next+1:=rfl
 rw[e]
 have h1':=h1
 unfold Fv at h1'
 rw[h1']
 simp only[Option.bind_some,h2,h3,cond_false,h5]
theorem WR.round{E:CR}{K:AV→AE→Prop}{l:Nat}{xs:List AV}{s:AE}{r:C0}{var:List AV}{ca cb:Ad}(h1:A8 s l=some r)(h2:Ct (Cz E.P r.fn) r.var r.params.toList xs=some var)
  (h3:DX E.P r.fn r.assign=some ca) (h4:DX E.P r.fn r.body=some cb)
  (h:WC E (some l) ca (fun q=>q.exit=.normal∧∃r',A8 q.st l=some r'∧KB r'.state=true ∧
   WC E (some l) cb (fun q2=>∃r'',A8 q2.st l=some r''∧K (.bool (DR q2.exit).isNone) (setObj q2.st l (.loop { r'' with state:=HC (DR q2.exit),pending:=DR q2.exit }))) q.var q.marks (setObj q.st l (.loop { r' with state:=.busy }))) var [] s):WR E l xs K s:=by
 obtain⟨n,q,g1,g2,r',g3,g4,m,q2,g5,r'',g6,g7⟩:=h
 refine⟨max n m+1,(_,_),?_,g7⟩
 show Jr E (D8 E (max n m)) l xs s=_
 simp only[Jr,h1,Option.bind_some,h2,h3,h4,G8,(F0 E (Nat.le_max_left n m)).code g1,g2,IM,cond_true,g3,g4,Ii,(F0 E (Nat.le_max_right n m)).code g5,g6]
 rfl
def CU:Code→List (Code×Code)
 | .seq x y=>CU x++CU y
 | .cond _ x y=>CU x++CU y
 | .block _ c=>CU c
 | .loop c=>CU c
 | .scope c=>CU c
 | .rangeFunc _ _ a b=>CU a++CU b++[(a,b)]
 | _=>[]
def EE (f k:Nat):Code×Code:=(((Tryz.prog.funcs[f]?).bind fun fn=>fn.body.bind fun c=>(CU c)[k]?)).getD (.skip,.skip)
end
end Go.Proofs.YtjnkfbpadpmakaaGreatDoor.Am
set_option linter.unusedVariables false
set_option linter.unusedSimpArgs false
set_option maxRecDepth 100000
namespace Go.Proofs.YtjnkfbpadpmakaaGreatDoor.Am
open Go Go.Proofs
noncomputable section
def W2:List AB:=[
 ⟨none,.mk (fun l=>match l with | [v]=>Bf 22 v | _=>none),[.var 0],(.set 2),[]⟩,
 ⟨none,.mk (fun l=>match l with | [v]=>Bf 22 v | _=>none),[.var 1],(.set 3),[]⟩,
 ⟨none,.p1 some,[(.const .nilFunc)],(.set 4),[]⟩]
def W3:List AB:=[
 ⟨none,.mk (fun l=>match l with | []=>Ac Tryz.prog 197 | _=>none),[],(.set 5),[]⟩,
 ⟨none,.e (fun s=>Xy (fun a x=>Za (AM Tryz.prog s 197 a x))),[(.var 5),(.const (.func 187 [] []))],.push,[]⟩]
def W4:List AB:=[
 ⟨none,.p (fun l=>some (.func 188 (l.take 0) (l.drop 0))),[.var 2,.var 3,.var 5],.push,[]⟩,
 ⟨none,.p1 some,[.loc 0],(.set 4),[]⟩]
def nh:Aq:=⟨2,6,(.seq (.ops W2) (.seq (.ops W3) (.seq (.ops W4) .ret))),[((.var 4),none)]⟩
def RD:List AB:=[
 ⟨none,.p1 some,[(.const (.int .u64 (0)))],(.set 2),[]⟩]
def RE:List AB:=[
 ⟨none,.r (fun s l=>match l with | [x]=>BN Tryz.prog s 22 x | _=>none),[.var 0],.push,[]⟩,
 ⟨none,.p2 (AS Tryz.prog .geq 3),[.var 1,.loc 0],(.set 3),[]⟩]
def W5:List AB:=[
 ⟨none,.p1 some,[(.const (.int .u64 (0)))],(.set 2),[]⟩]
def W6:List AB:=[
 ⟨none,.p2 (AK Tryz.prog 22),[.var 0,.var 1],.push,[]⟩,
 ⟨none,.r1 (fun s a=>AA Tryz.prog s 76 a),[.loc 0],.push,[]⟩,
 ⟨none,.r1 (fun s x=>At Tryz.prog s 76 69 x),[.loc 0],.push,[]⟩,
 ⟨none,.p1 some,[.loc 0],(.set 2),[]⟩]
def kK:Aq:=⟨2,4,(.seq (.ops RD) (.seq (.seq (.ops RE) (.cond (.var 3)
 (.seq (.ops W5) .ret)
 .skip)) (.seq (.ops W6) .ret))),[((.var 2),none)]⟩
def W7:List AB:=[
 ⟨none,.r1 (fun s a=>AA Tryz.prog s 22 a),[.var 1],.push,[]⟩,
 ⟨none,.r (fun s l=>match l with | [x]=>BN Tryz.prog s 22 x | _=>none),[.loc 0],.push,[]⟩,
 ⟨none,.r1 (fun s a=>AA Tryz.prog s 22 a),[.var 2],.push,[]⟩,
 ⟨none,.r (fun s l=>match l with | [x]=>BN Tryz.prog s 22 x | _=>none),[.loc 0],.push,[]⟩,
 ⟨none,.p (fun l=>match l with | v::l=>Cx true v l | []=>none),[.loc 2,.loc 0],(.set 5),[]⟩,
 ⟨none,.p1 some,[(.const (.int .i64 (0)))],(.set 6),[]⟩]
def RF:List AB:=[
 ⟨none,.p2 (AS Tryz.prog .lss 3),[.var 6,.var 5],(.set 7),[]⟩]
def W8:List AB:=[
 ⟨none,.p1 some,[.var 6],(.set 4),[]⟩]
def W9:List AB:=[
 ⟨none,.r1 (fun s a=>AA Tryz.prog s 197 a),[.var 3],.push,[]⟩,
 ⟨none,.r1 (fun s a=>AA Tryz.prog s 22 a),[.var 1],.push,[]⟩,
 ⟨none,.r1 (fun s a=>AA Tryz.prog s 197 a),[.var 3],.push,[]⟩,
 ⟨none,.r1 (fun s a=>AA Tryz.prog s 22 a),[.var 2],.push,[]⟩,
 ⟨none,.callv,[.loc 3,.loc 2,.var 4],.push,[⟨none,.r1 (fun s a=>AA Tryz.prog s 22 a),[.var 2],(.loc 1)⟩,⟨none,.r1 (fun s a=>AA Tryz.prog s 197 a),[.var 3],(.loc 2)⟩]⟩,
 ⟨none,.callv,[.loc 2,.loc 1,.var 4],.push,[]⟩,
 ⟨none,.callv,[.var 0,.loc 1,.loc 0],.push,[]⟩,
 ⟨none,.p1 (U3 Tryz.prog Go.UnOp.not),[.loc 0],(.set 8),[]⟩]
def XC:List AB:=[
 ⟨none,.p2 (AS Tryz.prog .add 3),[(.var 6),(.const (.int .i64 (1)))],.push,[]⟩,
 ⟨none,.p1 some,[.loc 0],(.set 6),[]⟩]
def Kb:Ad:=(.seq (.ops RF) (.seq (.cond (.var 7)
 .skip
 (.exit 0)) (.seq (.block 1 (.seq (.ops W8) (.seq (.ops W9) (.cond (.var 8)
 .ret
 .skip)))) (.ops XC))))
def ni:Aq:=⟨4,9,(.seq (.ops W7) (.block 0 (.loop Kb))),[]⟩
def Wq:List AB:=[
 ⟨none,.p1 some,[(.const (.slice none 0 (some 0)))],(.set 1),[]⟩]
def Ws:List AB:=[
 ⟨none,.p1 some,[.var 0],(.set 7),[]⟩,
 ⟨none,.r (fun s l=>match l with | [x]=>BN Tryz.prog s 196 x | _=>none),[.var 7],(.set 8),[]⟩,
 ⟨none,.p1 some,[(.const (.int .i64 (0)))],(.set 9),[]⟩]
def RA:List AB:=[
 ⟨none,.p2 (AS Tryz.prog .lss 3),[.var 9,.var 8],(.set 10),[]⟩]
def Wt:List AB:=[
 ⟨none,.p2 (AK Tryz.prog 196),[.var 7,.var 9],.push,[]⟩,
 ⟨none,.r1 (fun s a=>AA Tryz.prog s 22 a),[.loc 0],.push,[]⟩,
 ⟨none,.p1 some,[.loc 0],(.set 2),[]⟩]
def Wu:List AB:=[
 ⟨none,.mk (fun l=>match l with | []=>Ac Tryz.prog 22 | _=>none),[],(.set 3),[]⟩]
def Wv:List AB:=[
 ⟨none,.mk (fun l=>match l with | []=>Ac Tryz.prog 69 | _=>none),[],(.set 4),[]⟩,
 ⟨none,.e (fun s=>Xy (fun a x=>Za (AM Tryz.prog s 69 a x))),[(.var 4),(.const (.int .u64 (0)))],.push,[]⟩]
def Wy:List AB:=[
 ⟨none,.call 174,[.var 1,.var 2],(.set 11),[]⟩]
def Wz:List AB:=[
 ⟨none,.p1 some,[.var 12],(.set 5),[]⟩]
def W0:List AB:=[
 ⟨none,.p1 some,[.var 13],(.set 6),[]⟩]
def W1:List AB:=[
 ⟨none,.r1 (fun s a=>AA Tryz.prog s 69 a),[.var 4],.push,[]⟩,
 ⟨none,.p2 (AS Tryz.prog .add 69),[.var 5,.var 6],.push,[]⟩,
 ⟨none,.p2 (AS Tryz.prog .add 69),[.loc 1,.loc 0],.push,[]⟩,
 ⟨none,.e (fun s=>Xy (fun a x=>Za (AM Tryz.prog s 69 a x))),[.var 4,.loc 0],.push,[]⟩]
def Sz:List AB:=[
 ⟨none,.r1 (fun s a=>AA Tryz.prog s 22 a),[.var 3],.push,[]⟩,
 ⟨none,.r1 (fun s a=>AA Tryz.prog s 69 a),[.var 4],.push,[]⟩,
 ⟨none,.p2 (AS Tryz.prog .and 69),[(.loc 0),(.const (.int .u64 (4294967295)))],.push,[]⟩,
 ⟨none,.r1 (fun s x=>At Tryz.prog s 69 76 x),[.loc 0],.push,[]⟩,
 ⟨none,.mk (fun l=>(Af Tryz.prog 22 1 (zipIdx [0] l)).bind fun r=>some (r,.slice 1)),[.loc 0],.push,[]⟩,
 ⟨none,.e (fun s l=>Aw Tryz.prog s [22,22] l),[.loc 4,.loc 0],.push,[]⟩,
 ⟨none,.e (fun s=>Xy (fun a x=>Za (AM Tryz.prog s 22 a x))),[.var 3,.loc 0],.push,[]⟩]
def S0:List AB:=[
 ⟨none,.r1 (fun s a=>AA Tryz.prog s 69 a),[.var 4],.push,[]⟩,
 ⟨none,.p2 (AS Tryz.prog .shr 69),[(.loc 0),(.const (.int .u64 (32)))],.push,[]⟩,
 ⟨none,.e (fun s=>Xy (fun a x=>Za (AM Tryz.prog s 69 a x))),[.var 4,.loc 0],.push,[]⟩]
def Ok:Ad:=(.seq (.ops Wz) (.ops W0))
def Ol:Ad:=(.block 3 (.seq (.ops W1) (.seq (.ops Sz) (.ops S0))))
def Na:Code:=(EE 173 0).1
def Nb:Code:=(EE 173 0).2
theorem Wm:DX Tryz.prog 173 Na=some Ok:=by kernel_rfl
theorem Wn:DX Tryz.prog 173 Nb=some Ol:=by kernel_rfl
theorem RC:Cz Tryz.prog 173=[0,2,4,5,6,7,8,9,10,11,12,17,18,19]:=by kernel_rfl
def S8:List AB:=[
 ⟨none,.r1 (fun s a=>AA Tryz.prog s 22 a),[.var 3],.push,[]⟩,
 ⟨none,.r1 (fun s a=>AA Tryz.prog s 69 a),[.var 4],.push,[]⟩,
 ⟨none,.r1 (fun s x=>At Tryz.prog s 69 76 x),[.loc 0],.push,[]⟩,
 ⟨none,.mk (fun l=>(Af Tryz.prog 22 1 (zipIdx [0] l)).bind fun r=>some (r,.slice 1)),[.loc 0],.push,[]⟩,
 ⟨none,.e (fun s l=>Aw Tryz.prog s [22,22] l),[.loc 3,.loc 0],.push,[]⟩,
 ⟨none,.p1 some,[.loc 0],(.set 1),[]⟩]
def S9:List AB:=[
 ⟨none,.p2 (AS Tryz.prog .add 3),[(.var 9),(.const (.int .i64 (1)))],.push,[]⟩,
 ⟨none,.p1 some,[.loc 0],(.set 9),[]⟩]
def ID:Ad:=(.seq (.ops RA) (.seq (.cond (.var 10)
 .skip
 (.exit 0)) (.seq (.block 1 (.seq (.ops Wt) (.seq (.ops Wu) (.seq (.ops Wv) (.seq (.seq (.ops Wy) (.block 2 (.rangeFunc 173 (.var 11) #[18,19] Na Nb))) (.ops S8)))))) (.ops S9))))
def TA:List AB:=[
 ⟨none,.p1 some,[.var 1],.push,[]⟩,
 ⟨none,.call 92,[.loc 0],.push,[]⟩,
 ⟨none,.p1 some,[.loc 0],(.set 1),[]⟩]
def nf:Aq:=⟨1,14,(.seq (.ops Wq) (.seq (.seq (.ops Ws) (.block 0 (.loop ID))) (.seq (.ops TA) .ret))),[((.var 1),none)]⟩
def WE:List AB:=[
 ⟨none,.p1 some,[(.const (.slice none 0 (some 0)))],(.set 2),[]⟩]
def WG:List AB:=[
 ⟨none,.mk (fun l=>(Af Tryz.prog 196 2 (zipIdx [0,1] l)).bind fun r=>some (r,.slice 2)),[.var 0,.var 1],.push,[]⟩,
 ⟨none,.call 173,[.loc 0],.push,[]⟩,
 ⟨none,.p1 some,[.loc 0],(.set 2),[]⟩]
def nZ:Aq:=⟨2,3,(.seq (.ops WE) (.seq (.ops WG) .ret)),[((.var 2),none)]⟩
def WK:List AB:=[
 ⟨none,.p1 some,[(.const (.slice none 0 (some 0)))],(.set 2),[]⟩,
 ⟨none,.p1 some,[(.const (.bool false))],(.set 3),[]⟩]
def WL:List AB:=[
 ⟨none,.call 93,[.var 0,.var 1],.push,[]⟩,
 ⟨none,.p2 (AS Tryz.prog .lss 3),[(.loc 0),(.const (.int .i64 (0)))],(.set 9),[]⟩]
def WM:List AB:=[
 ⟨none,.p1 some,[(.const (.slice none 0 (some 0)))],(.set 2),[]⟩,
 ⟨none,.p1 some,[(.const (.bool false))],(.set 3),[]⟩]
def WN:List AB:=[
 ⟨none,.mk (fun l=>match l with | []=>Ac Tryz.prog 22 | _=>none),[],(.set 4),[]⟩]
def WO:List AB:=[
 ⟨none,.mk (fun l=>match l with | []=>Ac Tryz.prog 69 | _=>none),[],(.set 5),[]⟩,
 ⟨none,.e (fun s=>Xy (fun a x=>Za (AM Tryz.prog s 69 a x))),[(.var 5),(.const (.int .u64 (0)))],.push,[]⟩]
def WP:List AB:=[
 ⟨none,.call 174,[.var 0,.var 1],(.set 10),[]⟩]
def WQ:List AB:=[
 ⟨none,.p1 some,[.var 11],(.set 6),[]⟩]
def WS:List AB:=[
 ⟨none,.p1 some,[.var 12],(.set 7),[]⟩]
def WT:List AB:=[
 ⟨none,.p2 (AS Tryz.prog .sub 69),[.var 6,.var 7],.push,[]⟩,
 ⟨none,.r1 (fun s a=>AA Tryz.prog s 69 a),[.var 5],.push,[]⟩,
 ⟨none,.p2 (AS Tryz.prog .sub 69),[.loc 1,.loc 0],.push,[]⟩,
 ⟨none,.p1 some,[.loc 0],(.set 8),[]⟩]
def WU:List AB:=[
 ⟨none,.r1 (fun s a=>AA Tryz.prog s 22 a),[.var 4],.push,[]⟩,
 ⟨none,.p2 (AS Tryz.prog .and 69),[(.var 8),(.const (.int .u64 (4294967295)))],.push,[]⟩,
 ⟨none,.r1 (fun s x=>At Tryz.prog s 69 76 x),[.loc 0],.push,[]⟩,
 ⟨none,.mk (fun l=>(Af Tryz.prog 22 1 (zipIdx [0] l)).bind fun r=>some (r,.slice 1)),[.loc 0],.push,[]⟩,
 ⟨none,.e (fun s l=>Aw Tryz.prog s [22,22] l),[.loc 3,.loc 0],.push,[]⟩,
 ⟨none,.e (fun s=>Xy (fun a x=>Za (AM Tryz.prog s 22 a x))),[.var 4,.loc 0],.push,[]⟩]
def Sx:List AB:=[
 ⟨none,.p2 (AS Tryz.prog .shr 69),[(.var 8),(.const (.int .u64 (63)))],.push,[]⟩,
 ⟨none,.e (fun s=>Xy (fun a x=>Za (AM Tryz.prog s 69 a x))),[.var 5,.loc 0],.push,[]⟩]
def Oi:Ad:=(.seq (.ops WQ) (.ops WS))
def Oj:Ad:=(.block 1 (.seq (.ops WT) (.seq (.ops WU) (.ops Sx))))
def NY:Code:=(EE 154 0).1
def NZ:Code:=(EE 154 0).2
theorem WH:DX Tryz.prog 154 NY=some Oi:=by kernel_rfl
theorem WJ:DX Tryz.prog 154 NZ=some Oj:=by kernel_rfl
theorem Q9:Cz Tryz.prog 154=[0,1,4,5,6,7,8,9,10,14,17,18,19]:=by kernel_rfl
def Sy:List AB:=[
 ⟨none,.r1 (fun s a=>AA Tryz.prog s 22 a),[.var 4],.push,[]⟩,
 ⟨none,.call 92,[.loc 0],.push,[]⟩,
 ⟨none,.p1 some,[.loc 0],(.set 2),[]⟩,
 ⟨none,.p1 some,[(.const (.bool true))],(.set 3),[]⟩]
def ne:Aq:=⟨2,13,(.seq (.ops WK) (.seq (.seq (.ops WL) (.cond (.var 9)
 (.seq (.ops WM) .ret)
 .skip)) (.seq (.ops WN) (.seq (.ops WO) (.seq (.seq (.ops WP) (.block 0 (.rangeFunc 154 (.var 10) #[18,19] NY NZ))) (.seq (.ops Sy) .ret)))))),[((.var 2),none),((.var 3),none)]⟩
theorem bX:AR Tryz.prog 174=some nh:=by kernel_rfl
theorem bY:AR Tryz.prog 187=some kK:=by kernel_rfl
theorem bZ:AR Tryz.prog 188=some ni:=by kernel_rfl
theorem bW:AR Tryz.prog 173=some nf:=by kernel_rfl
theorem bU:AR Tryz.prog 153=some nZ:=by kernel_rfl
theorem bV:AR Tryz.prog 154=some ne:=by kernel_rfl
end
end Go.Proofs.YtjnkfbpadpmakaaGreatDoor.Am
set_option linter.unusedVariables false
set_option linter.unusedSimpArgs false
set_option maxRecDepth 12000
namespace Go.Proofs.YtjnkfbpadpmakaaGreatDoor.Am
open Go Go.Proofs
noncomputable section
theorem Ll(k:IntKind):Bu k k=true:=by cases k<;>rfl
theorem FN(a:Nat):Nat.beq a a=true:=Fi rfl
theorem BT(a:Option (Nat×Nat))(n:Nat)(cap:Option Nat):FJ (.slice a n cap) (.slice a n cap)=true:=by
 cases a<;>cases cap<;>simp[FJ,FN]
theorem TU(f:FuncId):FJ (.func f [] []) (.func f [] [])=true:=by simp[FJ,FJ.eqAs,FN]
theorem Ak{s:AE}{loc var:List AV}{f:AE→AV→Option AV}{x ans:CX}(h:f s (C8 loc var x)=some (C8 loc var ans))(he:FJ (C8 loc var ans) (C8 loc var ans)=true):FC s loc var ⟨none,.r1 f,[x],ans⟩=true:=by
 unfold FC
 show(!true || Mu (f s (C8 loc var x)) (C8 loc var ans))=true
 rw[h]
 exact he
section
variable{E:CR}{s:AE}
theorem Te(hE:GoodN E){a:Option (Nat×Nat)}{ca:Option Nat}{b:Nat}{la:List Nat}(hc:AZ b s a (us la))(hs:Bv la){i:Nat}{K:AV→AE→Prop}(hK:K (Aj (la.getD i 0)) s):
  WF E 187 [.slice a la.length ca,iv (i:Int)] K s:=by
 refine hE.go bY (by decide) rfl ?_
 rcases qz i la.length with h | h
 ·have hx:la[i]? = some la[i]:=qy h
  rw[tK,hx]at hK
  generalize la[i]=x at hx hK
  obtain⟨pi,o,rfl,_,hload⟩:=hc i _ (Cy hx)
  have dd:decide ((la.length:Int)≤(i:Int))=false:=decide_eq_false (by omega)
  have e1:=Ah (cap:=ca) (i:=pi) (o:=o) Tryz.underlying22 Ci h
  have e2:AA Tryz.prog s 76 (.ptr (some (pi,o+i * 1)))=some (BV x):=CJ GH (by rw[rG];exact hload)
  have e3:=Bq (s:=s) (hs x (rQ hx))
  simp only[kK,RD,RE,W6,AN Tryz.underlying22,Wb,dd,e1,e2,e3,Qa,Qb,Qc,Qd,Qe,Qf,Qg,Qh,Qi,Qj,Qk,Ql,Qm,Qn,true_and,and_true,Qo,Qp,Qq,Qr,Qs,Qt,Qu,Qv,Qw,Qx,Qy,Qz,Ra,Rb,Rc,Rd,Re,Rf,Rg,Rh,Ri,Rj,Rk,Rm,Rn,Ro,Rp,Rq,Rt,Ya,Yb,Yc,Ru,Rw,Zb,Yd,Ye,Ry,Rz,Wa,Wb,Wc,Wd,We]
  exact hK
 ·have dd:decide ((la.length:Int)≤(i:Int))=true:=decide_eq_true (by omega)
  rw[tK,rI h]at hK
  simp only[kK,RD,RE,W5,AN Tryz.underlying22,Wb,dd,Qa,Qb,Qc,Qd,Qe,Qf,Qg,Qh,Qi,Qj,Qk,Ql,Qm,Qn,true_and,and_true,Qo,Qp,Qq,Qr,Qs,Qt,Qu,Qv,Qw,Qx,Qy,Qz,Ra,Rb,Rc,Rd,Re,Rf,Rg,Rh,Ri,Rj,Rk,Rm,Rn,Ro,Rp,Rq,Rt,Ya,Yb,Yc,Ru,Rw,Zb,Yd,Ye,Ry,Rz,Wa,Wb,Wc,Wd,We]
  exact hK
def Su(v:AV):BC:=R 22 0 false [v]
def nJ:BC:=R 197 0 false [.func 187 [] []]
theorem Ps(hE:GoodN E){va vb:AV}(hca:va.cells=[va])(hcb:vb.cells=[vb]){K:AV→AE→Prop}
  (hK:∀s',s'.next=s.next+3→(∀j,j<s.next→s'.heap.get j=s.heap.get j)→s'.heap.get s.next=some (Su va)→s'.heap.get (s.next+1)=some (Su vb)→s'.heap.get (s.next+2)=some nJ →
   K (.func 188 [] [.ptr (some (s.next,0)),.ptr (some (s.next+1,0)),.ptr (some (s.next+2,0))]) s'):WF E 174 [va,vb] K s:=by
 refine hE.go bX (by decide) rfl ?_
 have hz:Ac Tryz.prog 197=some (R 197 0 false [.nilFunc],.ptr):=by kernel_rfl
 have hsz:A7 Tryz.prog 197=some 1:=by kernel_rfl
 have n1:(newObj s (R 22 0 false [va])).next=s.next+1:=rfl
 have n2:(newObj (newObj s (R 22 0 false [va])) (R 22 0 false [vb])).next=s.next+2:=rfl
 have hg:(newObj (newObj (newObj s (R 22 0 false [va])) (R 22 0 false [vb])) (R 197 0 false [.nilFunc])).heap.get (s.next+2)=some (R 197 0 false [.nilFunc]):=by
  rw[AP,if_pos n2.symm]
 have hst:=Bo (P:=Tryz.prog) (t:=197) (o:=0) (v:=.func 187 [] []) hsz hg (by simp) rfl
 simp only[sX]at hst
 simp only[nh,W2,W3,W4,Xa,hca,hcb,hz,Xc,n1,n2,hst,Xy,Za,tD,sM,Qa,Qb,Qc,Qd,Qe,Qf,Qg,Qh,Qi,Qj,Qk,Ql,Qm,Qn,true_and,and_true,Qo,Qp,Qq,Qr,Qs,Qt,Qu,Qv,Qw,Qx,Qy,Qz,Ra,Rb,Rc,Rd,Re,Rf,Rg,Rh,Ri,Rj,Rk,Rm,Rn,Ro,Rp,Rq,Rt,Ya,Yb,Yc,Ru,Rw,Zb,Yd,Ye,Ry,Rz,Wa,Wb,Wc,Wd,We]
 refine hK _ rfl (fun j hj=>?_) ?_ ?_ (Ww _ _ _)
 ·rw[Wx _ (by omega),AP,if_neg (by rw[n2];omega),AP,if_neg (by rw[n1];omega),AP,if_neg (by omega)]
 ·rw[Wx _ (by omega),AP,if_neg (by rw[n2];omega),AP,if_neg (by rw[n1];omega),AP,if_pos rfl];rfl
 ·rw[Wx _ (by omega),AP,if_neg (by rw[n2];omega),AP,if_pos n1.symm];rfl
structure PK(n0 p:Nat)(s0 s:AE):Prop where
 next:s0.next≤s.next
 low:∀j,j<n0→s.heap.get j=s0.heap.get j
 a:s.heap.get p=s0.heap.get p
 b:s.heap.get (p+1)=s0.heap.get (p+1)
 l:s.heap.get (p+2)=s0.heap.get (p+2)
theorem PK.refl(n0 p:Nat)(s:AE):PK n0 p s s:=⟨qw _,fun _ _=>rfl,rfl,rfl,rfl⟩
theorem PK.trans{n0 p:Nat}{s0 s1 s2:AE}(h:PK n0 p s0 s1)(k:PK n0 p s1 s2):PK n0 p s0 s2:=
 ⟨rD h.next k.next,fun j hj=>(k.low j hj).trans (h.low j hj),k.a.trans h.a,k.b.trans h.b,k.l.trans h.l⟩
theorem Mn(hE:GoodN E){s0:AE}{n0 p l:Nat}{a b:Option (Nat×Nat)}{ca cb:Option Nat}{la lb:List Nat}(hla:la.length≤10000000000)(hlb:lb.length≤10000000000)(hsa:Bv la)(hsb:Bv lb)
  (hca:AZ n0 s0 a (us la)) (hcb:AZ n0 s0 b (us lb)) (h1:s0.heap.get p=some (Su (.slice a la.length ca))) (h2:s0.heap.get (p+1)=some (Su (.slice b lb.length cb))) (h3:s0.heap.get (p+2)=some nJ)
  (LI:Nat→AE→Prop) (hLI:∀k s,LI k s→PK n0 p s0 s)
  (hround:∀ (k:Nat) (s:AE) (K:AV→AE→Prop),k<max la.length lb.length→LI k s→(∀s',LI (k+1) s'→K (.bool true) s')→WR E l [Aj (la.getD k 0),Aj (lb.getD k 0)] K s)
  {K:AV→AE→Prop} (h0:LI 0 s) (hend:∀v s',LI (max la.length lb.length) s'→K v s'):
  WF E 188 [.yield l,.ptr (some (p,0)),.ptr (some (p+1,0)),.ptr (some (p+2,0))] K s:=by
 have hag:Dx Tryz.prog 197=some false:=by kernel_rfl
 have lda:∀ {s':AE},PK n0 p s0 s'→AA Tryz.prog s' 22 (.ptr (some (p,0)))=some (.slice a la.length ca):=fun h=>AI CG (h.a.trans h1) rfl
 have ldb:∀ {s':AE},PK n0 p s0 s'→AA Tryz.prog s' 22 (.ptr (some (p+1,0)))=some (.slice b lb.length cb):=fun h=>AI CG (h.b.trans h2) rfl
 have ldl:∀ {s':AE},PK n0 p s0 s'→AA Tryz.prog s' 197 (.ptr (some (p+2,0)))=some (.func 187 [] []):=fun h=>AI hag (h.l.trans h3) rfl
 have hmm:Cx true (iv (la.length:Int)) [iv (lb.length:Int)]=some (iv ((max la.length lb.length:Nat):Int)):=by
  simp only[Cx,Ll,AL,cond_true]
  congr 2
  cases hlt:Lz (la.length:Int) (lb.length:Int)with
  | true=>rw[Cw]at hlt;have:=of_decide_eq_true hlt;simp only[cond_true];omega
  | false=>rw[Cw]at hlt;have:=of_decide_eq_false hlt;simp only[cond_true,cond_false];omega
 refine hE.go bZ (by decide) rfl ?_
 simp only[ni,W7,lda (hLI 0 s h0),ldb (hLI 0 s h0),AN Tryz.underlying22,hmm,Qa,Qb,Qc,Qd,Qe,Qf,Qg,Qh,Qi,Qj,Qk,Ql,Qm,Qn,true_and,and_true,Qo,Qp,Qq,Qr,Qs,Qt,Qu,Qv,Qw,Qx,Qy,Qz,Ra,Rb,Rc,Rd,Re,Rf,Rg,Rh,Ri,Rj,Rk,Rm,Rn,Ro,Rp,Rq,Rt,Ya,Yb,Yc,Ru,Rw,Zb,Yd,Ye,Ry,Rz,Wa,Wb,Wc,Wd,We]
 generalize hM:max la.length lb.length=M at *
 have hMle:M≤10000000000:=by omega
 have key:∀ (m k:Nat) (S:AE) (x4 x7 x8:AV),k+m=M→LI k S→WC E none (.loop Kb) (fun r=>(r.exit=.exit 0∧r.marks=[]∧LI M r.st)) [.yield l,.ptr (some (p,0)),.ptr (some (p+1,0)),.ptr (some (p+2,0)),x4,iv (M:Int),iv (k:Int),x7,x8] [] S:=by
  intro m
  induction m with
  | zero =>
   intro k S x4 x7 x8 hk hS
   have e:k=M:=by omega
   subst e
   have dd:decide ((k:Int)<(k:Int))=false:=decide_eq_false (by omega)
   refine WC.loop' ?_
   simp only[Kb,RF,Ry,dd,Qa,Qb,Qc,Qd,Qe,Qf,Qg,Qh,Qi,Qj,Qk,Ql,Qm,Qn,true_and,and_true,Qo,Qp,Qq,Qr,Qs,Qt,Qu,Qv,Qw,Qx,Qy,Qz,Ra,Rb,Rc,Rd,Re,Rf,Rg,Rh,Ri,Rj,Rk,Rm,Rn,Ro,Rp,Rq,Rt,Ya,Yb,Yc,Ru,Rw,Zb,Yd,Ye,Ry,Rz,Wa,Wb,Wc,Wd,We]
   exact hS
  | succ m ih =>
   intro k S x4 x7 x8 hk hS
   have dd:decide ((k:Int)<(M:Int))=true:=decide_eq_true (by omega)
   have pk:=hLI k S hS
   have l1:=lda pk
   have l2:=ldb pk
   have l3:=ldl pk
   have e17:=BU Tryz.prog 3 (k:Int) 1 ⟨by omega,by omega⟩
   have e17':((k:Int)+1)=((k+1:Nat):Int):=by omega
   refine WC.loop' ?_
   generalize hW:WC E none (Ad.loop Kb) _=WW
   simp only[Kb,RF,W8,W9,Ry,dd,l1,l2,l3,Qa,Qb,Qc,Qd,Qe,Qf,Qg,Qh,Qi,Qj,Qk,Ql,Qm,Qn,true_and,and_true,Qo,Qp,Qq,Qr,Qs,Qt,Qu,Qv,Qw,Qx,Qy,Qz,Ra,Rb,Rc,Rd,Re,Rf,Rg,Rh,Ri,Rj,Rk,Rm,Rn,Ro,Rp,Rq,Rt,Ya,Yb,Yc,Ru,Rw,Zb,Yd,Ye,Ry,Rz,Wa,Wb,Wc,Wd,We]
   have ca':AZ n0 S a (us la):=hca.old ⟨pk.next,pk.low⟩ (qw _)
   have cb':AZ n0 S b (us lb):=hcb.old ⟨pk.next,pk.low⟩ (qw _)
   refine Te hE ca' hsa ?_
   refine⟨⟨Ak (by simp only[Qa,Qb,Qc,Qd,Qe,Qf,Qg,Qh,Qi,Qj,Qk,Ql,Qm,Qn,true_and,and_true,Qo,Qp,Qq,Qr,Qs,Qt,Qu,Qv,Qw,Qx,Qy,Qz,Ra,Rb,Rc,Rd,Re,Rf,Rg,Rh,Ri,Rj,Rk,Rm,Rn,Ro,Rp,Rq,Rt,Ya,Yb,Yc,Ru,Rw,Zb,Yd,Ye,Ry,Rz,Wa,Wb,Wc,Wd,We];exact l2) (BT _ _ _),Ak (by simp only[Qa,Qb,Qc,Qd,Qe,Qf,Qg,Qh,Qi,Qj,Qk,Ql,Qm,Qn,true_and,and_true,Qo,Qp,Qq,Qr,Qs,Qt,Qu,Qv,Qw,Qx,Qy,Qz,Ra,Rb,Rc,Rd,Re,Rf,Rg,Rh,Ri,Rj,Rk,Rm,Rn,Ro,Rp,Rq,Rt,Ya,Yb,Yc,Ru,Rw,Zb,Yd,Ye,Ry,Rz,Wa,Wb,Wc,Wd,We];exact l3) (TU _),trivial⟩,?_⟩
   simp only[Qa,Qb,Qc,Qd,Qe,Qf,Qg,Qh,Qi,Qj,Qk,Ql,Qm,Qn,true_and,and_true,Qo,Qp,Qq,Qr,Qs,Qt,Qu,Qv,Qw,Qx,Qy,Qz,Ra,Rb,Rc,Rd,Re,Rf,Rg,Rh,Ri,Rj,Rk,Rm,Rn,Ro,Rp,Rq,Rt,Ya,Yb,Yc,Ru,Rw,Zb,Yd,Ye,Ry,Rz,Wa,Wb,Wc,Wd,We]
   refine Te hE cb' hsb ?_
   simp only[Qa,Qb,Qc,Qd,Qe,Qf,Qg,Qh,Qi,Qj,Qk,Ql,Qm,Qn,true_and,and_true,Qo,Qp,Qq,Qr,Qs,Qt,Qu,Qv,Qw,Qx,Qy,Qz,Ra,Rb,Rc,Rd,Re,Rf,Rg,Rh,Ri,Rj,Rk,Rm,Rn,Ro,Rp,Rq,Rt,Ya,Yb,Yc,Ru,Rw,Zb,Yd,Ye,Ry,Rz,Wa,Wb,Wc,Wd,We]
   refine hround k S _ (by omega) hS fun s' hs'=>?_
   simp only[XC,We,Bool.not_true,e17,e17',Qa,Qb,Qc,Qd,Qe,Qf,Qg,Qh,Qi,Qj,Qk,Ql,Qm,Qn,true_and,and_true,Qo,Qp,Qq,Qr,Qs,Qt,Qu,Qv,Qw,Qx,Qy,Qz,Ra,Rb,Rc,Rd,Re,Rf,Rg,Rh,Ri,Rj,Rk,Rm,Rn,Ro,Rp,Rq,Rt,Ya,Yb,Yc,Ru,Rw,Zb,Yd,Ye,Ry,Rz,Wa,Wb,Wc,Wd,We]
   rw[← hW]
   exact ih (k+1) s' _ _ _ (by omega) hs'
 refine(key M 0 s _ _ _ (by omega) h0).mono ?_
 rintro⟨e,v,m,s'⟩ ⟨q1,q0,q2⟩
 simp only at q1 q0 q2
 subst q0
 subst q1
 simp only[if_true,Qa,Qb,Qc,Qd,Qe,Qf,Qg,Qh,Qi,Qj,Qk,Ql,Qm,Qn,true_and,and_true,Qo,Qp,Qq,Qr,Qs,Qt,Qu,Qv,Qw,Qx,Qy,Qz,Ra,Rb,Rc,Rd,Re,Rf,Rg,Rh,Ri,Rj,Rk,Rm,Rn,Ro,Rp,Rq,Rt,Ya,Yb,Yc,Ru,Rw,Zb,Yd,Ye,Ry,Rz,Wa,Wb,Wc,Wd,We]
 exact hend _ _ q2
end
end
end Go.Proofs.YtjnkfbpadpmakaaGreatDoor.Am
set_option linter.unusedVariables false
set_option linter.unusedSimpArgs false
set_option maxRecDepth 16000
namespace Go.Proofs.YtjnkfbpadpmakaaGreatDoor.Am
open Go Go.Proofs
noncomputable section
theorem LW{a b:List Nat}{k:Nat}(h:k<max a.length b.length):(CA a b)[k]? = some (a.getD k 0,b.getD k 0):=by
 unfold CA
 rw[sF,tO h];rfl
theorem LY(a b:List Nat):(CA a b).length=max a.length b.length:=by simp[CA]
theorem G1{a:List Nat}(h:Bv a)(k:Nat):a.getD k 0<4294967296:=by
 rw[tK]
 rcases qz k a.length with h' | h'
 ·rw[qy h'];exact h _ (List.getElem_mem h')
 ·rw[rI h'];exact(by decide)
theorem Uj{a b:List Nat}(ha:Bv a)(hb:Bv b):∀p∈CA a b,p.1<LB∧p.2<LB:=fun p hp=>by
 unfold CA at hp
 obtain⟨i,_,rfl⟩:=List.mem_map.1 hp
 exact⟨G1 ha i,G1 hb i⟩
def LD (v0 v1 v2 x5 x6 x7 x8 x9 x10:AV) (n0:Nat) (x12 x13:AV):C0:=
 Fv 173 [v0,v1,v2,.ptr (some (n0,0)),.ptr (some (n0+1,0)),x5,x6,x7,x8,x9,x10,.func 188 [] [.ptr (some (n0+2,0)),.ptr (some (n0+2+1,0)),.ptr (some (n0+2+2,0))],x12,x13] #[18,19] Na Nb (n0+5)
structure kA(n0:Nat)(s0:AE)(lo:C0)(P:List (Nat×Nat))(T:List Nat×Nat)(k:Nat)(s:AE):Prop where
 pk:PK n0 (n0+2) s0 s
 lt:n0+7≤s.next
 lp:A8 s (n0+6)=some lo
 mrk:s.heap.get (n0+5)=some .mark
 ex:∃vo d O c,s.heap.get n0=some (R 22 0 false [vo])∧s.heap.get (n0+1)=some (R 69 0 false [Aj c])∧CO 76 s vo d.length 1 (us d) O∧(∀j∈O,n0+7≤j)∧(∀j,CH vo=some j→n0+7≤j)∧d.length=k∧c≤1∧(d++(EH (P.drop k) c).1,(EH (P.drop k) c).2)=T
section
variable{E:CR}{s:AE}
theorem Uy(hE:GoodN E){n0:Nat}{s0:AE}{v0 v1 v2 x5 x6 x7 x8 x9 x10 x12 x13:AV}{P:List (Nat×Nat)}(hPl:P.length≤10000000000){T:List Nat×Nat}{k x y:Nat}(hP:P[k]? = some (x,y))(hx:x<4294967296)(hy:y<4294967296)
    (hI:kA n0 s0 (LD v0 v1 v2 x5 x6 x7 x8 x9 x10 n0 x12 x13) P T k s) {K:AV→AE→Prop} (hK:∀s',kA n0 s0 (LD v0 v1 v2 x5 x6 x7 x8 x9 x10 n0 x12 x13) P T (k+1) s'→K (.bool true) s'):
    WR E (n0+6) [Aj x,Aj y] K s:=by
  obtain⟨pk,hlt,hlp,hmk,vo,d,O,c,g1,g2,hD,hO,hsl,hdl,hc,hT⟩:=hI
  have hz:Ct (Cz E.P 173) (LD v0 v1 v2 x5 x6 x7 x8 x9 x10 n0 x12 x13).var [18,19] [Aj x,Aj y]=some [v0,v1,v2,.ptr (some (n0,0)),.ptr (some (n0+1,0)),x5,x6,x7,x8,x9,x10,.func 188 [] [.ptr (some (n0+2,0)),.ptr (some (n0+2+1,0)),.ptr (some (n0+2+2,0))],Aj x,Aj y]:=by
    rw[hE.P,RC];rfl
  refine WR.round hlp hz (by rw[hE.P];exact Wm) (by rw[hE.P];exact Wn) ?_
  refine DV ?_
  simp only[Ok,Wz,W0,Qa,Qb,Qc,Qd,Qe,Qf,Qg,Qh,Qi,Qj,Qk,Ql,Qm,Qn,true_and,and_true,Qo,Qp,Qq,Qr,Qs,Qt,Qu,Qv,Qw,Qx,Qy,Qz,Ra,Rb,Rc,Rd,Re,Rf,Rg,Rh,Ri,Rj,Rk,Rm,Rn,Ro,Rp,Rq,Rt,Ya,Yb,Yc,Ru,Rw,Zb,Yd,Ye,Ry,Rz,Wa,Wb,Wc,Wd,We]
  refine⟨_,hlp,rfl,DV ?_⟩
  generalize hs1:setObj s (n0+6) _=s1
  have n1:s1.next=s.next:=by rw[← hs1];rfl
  have f1:∀j,j≠n0+6→s1.heap.get j=s.heap.get j:=fun j hj=>by rw[← hs1,Wx _ hj]
  have l1:A8 s1 (n0+6)=some { LD v0 v1 v2 x5 x6 x7 x8 x9 x10 n0 x12 x13 with state:=.busy }:=by rw[← hs1,CK]
  have g1':=(f1 n0 (by omega)).trans g1
  have g2':=(f1 (n0+1) (by omega)).trans g2
  have hD1:CO 76 s1 vo d.length 1 (us d) O:=hD.frame (rV n1.symm) (fun j hj=>f1 j (by have:=hsl j hj;omega))
  have hdk:P.drop k=(x,y)::P.drop (k+1):=by
    have hk:k<P.length:=(List.getElem?_eq_some_iff.1 hP).1
    rw[sD hk]
    rw[qy hk]at hP
    rw[Option.some.inj hP]
  have hkP:k<P.length:=(List.getElem?_eq_some_iff.1 hP).1
  rw[hdk]at hT
  simp only[EH]at hT
  have hLB:LB=4294967296:=rfl
  rw[hLB,show x+y+c=c+(x+y) by omega]at hT
  have e1:=HX Tryz.prog 69 (a:=x) (b:=y) (by omega)
  have e2:=HX Tryz.prog 69 (a:=c) (b:=x+y) (by omega)
  generalize hc1:c+(x+y)=c1 at hT e2
  have hc1b:c1<18446744073709551616:=by omega
  have e3:=Js Tryz.prog 69 hc1b
  have e11:c1 % 4294967296 % 4294967296=c1 % 4294967296:=tC _ _
  have e15:AS Tryz.prog .shr 69 (Aj c1) (.int .u64 32)=some (Aj (c1 / 4294967296)):=Ip Tryz.prog 69 (k:=.u64) (n:=32) (by decide)
  have hcq:c1 / 4294967296≤1:=by omega
  generalize hz:c1 % 4294967296=z at hT e3 e11
  have ld2:AA Tryz.prog s1 69 (.ptr (some (n0+1,0)))=some (Aj c):=AI VA g2' rfl
  have st2:=Bo (P:=Tryz.prog) (t:=69) (o:=0) (v:=Aj c1) aC g2' (by simp) rfl
  simp only[sX]at st2
  generalize hs2:setObj s1 (n0+1) (R 69 0 false [Aj c1])=s2 at st2
  have n2:s2.next=s1.next:=by rw[← hs2];rfl
  have f2:∀j,j≠n0+1→s2.heap.get j=s1.heap.get j:=fun j hj=>by rw[← hs2,Wx _ hj]
  have g22:s2.heap.get (n0+1)=some (R 69 0 false [Aj c1]):=by rw[← hs2,Ww]
  have ld22:AA Tryz.prog s2 69 (.ptr (some (n0+1,0)))=some (Aj c1):=AI VA g22 rfl
  have g12:=(f2 n0 (by omega)).trans g1'
  have ld12:AA Tryz.prog s2 22 (.ptr (some (n0,0)))=some vo:=AI CG g12 rfl
  have hD2:CO 76 s2 vo d.length 1 (us d) O:=hD1.frame (rV n2.symm) (fun j hj=>f2 j (by have:=hsl j hj;omega))
  obtain⟨v',s3,O',happ,hD3,hn3,f3,hO3,hsl3⟩:=Ic hD2 z (by omega)
  have happ':Aw Tryz.prog (newObj s2 (R 76 1 false [.int .u32 z])) [22,22] [vo,.slice (some (s2.next,0)) 1 (some 1)]=some (v',s3):=happ
  have g13:s3.heap.get n0=some (R 22 0 false [vo]):=(f3 n0 (by omega) (fun h=>by have:=hO n0 h;omega)).trans g12
  have g23:s3.heap.get (n0+1)=some (R 69 0 false [Aj c1]):=(f3 (n0+1) (by omega) (fun h=>by have:=hO _ h;omega)).trans g22
  have hv'c:v'.isCell=true:=by obtain⟨a,cap,rfl,_⟩:=hD3.cells;rfl
  have st3:=Bo (P:=Tryz.prog) (t:=22) (o:=0) (v:=v') OK g13 (by simp) hv'c
  simp only[sX]at st3
  generalize hs4:setObj s3 n0 (R 22 0 false [v'])=s4 at st3
  have n4:s4.next=s3.next:=by rw[← hs4];rfl
  have f4:∀j,j≠n0→s4.heap.get j=s3.heap.get j:=fun j hj=>by rw[← hs4,Wx _ hj]
  have g24:=(f4 (n0+1) (by omega)).trans g23
  have ld24:AA Tryz.prog s4 69 (.ptr (some (n0+1,0)))=some (Aj c1):=AI VA g24 rfl
  have st4:=Bo (P:=Tryz.prog) (t:=69) (o:=0) (v:=Aj (c1 / 4294967296)) aC g24 (by simp) rfl
  simp only[sX]at st4
  generalize hs5:setObj s4 (n0+1) (R 69 0 false [Aj (c1 / 4294967296)])=s5 at st4
  have n5:s5.next=s4.next:=by rw[← hs5];rfl
  have f5:∀j,j≠n0+1→s5.heap.get j=s4.heap.get j:=fun j hj=>by rw[← hs5,Wx _ hj]
  have fall:∀j,j<s.next→j ∉ O→j≠n0→j≠n0+1→s5.heap.get j=s1.heap.get j:=fun j hj h1 h2 h3=>by
    rw[f5 j h3,f4 j h2,f3 j (by omega) h1,f2 j h3]
  have l5:A8 s5 (n0+6)=some { LD v0 v1 v2 x5 x6 x7 x8 x9 x10 n0 x12 x13 with state:=.busy }:=by
    rw[Cf (fall (n0+6) (by omega) (fun h=>by have:=hO _ h;omega) (by omega) (by omega))];exact l1
  simp only[Ol,W1,Sz,S0,e1,e2,ld2,st2,ld12,ld22,e3,CC,e11,Fz,Xe,happ',st3,ld24,e15,st4,Xy,Za,Qa,Qb,Qc,Qd,Qe,Qf,Qg,Qh,Qi,Qj,Qk,Ql,Qm,Qn,true_and,and_true,Qo,Qp,Qq,Qr,Qs,Qt,Qu,Qv,Qw,Qx,Qy,Qz,Ra,Rb,Rc,Rd,Re,Rf,Rg,Rh,Ri,Rj,Rk,Rm,Rn,Ro,Rp,Rq,Rt,Ya,Yb,Yc,Ru,Rw,Zb,Yd,Ye,Ry,Rz,Wa,Wb,Wc,Wd,We]
  refine⟨_,l5,hK _ ?_⟩
  have fl:∀j,j≠n0+6→∀r,(setObj s5 (n0+6) r).heap.get j=s5.heap.get j:=fun j hj r=>Wx _ hj
  have hlow:∀j,j<n0+6→j≠n0→j≠n0+1→∀r,(setObj s5 (n0+6) r).heap.get j=s.heap.get j:=fun j h1 h2 h3 r=>by
    rw[fl j (by omega),fall j (by omega) (fun h=>by have:=hO _ h;omega) h2 h3,f1 j (by omega)]
  refine⟨pk.trans ⟨?_,fun j hj=>hlow j (by omega) (by omega) (by omega) _,hlow _ (by omega) (by omega) (by omega) _,hlow _ (by omega) (by omega) (by omega) _,hlow _ (by omega) (by omega) (by omega) _⟩,?_,?_,?_,v',d++[z],O',c1 / 4294967296,?_,?_,?_,fun j hj=>?_,fun j hj=>?_,?_,hcq,?_⟩
  · show s.next≤s5.next;omega
  · show n0+7≤s5.next;omega
  · rw[CK];rfl
  · rw[hlow _ (by omega) (by omega) (by omega)];exact hmk
  · rw[fl n0 (by omega),f5 n0 (by omega),← hs4,Ww]
  · rw[fl (n0+1) (by omega),← hs5,Ww]
  · refine hD3.frame (by show s3.next≤s5.next;omega) (fun j hj=>?_)
    have hj7:n0+7≤j:=by
      rcases hsl3 j hj with h | h
      · exact hsl j h
      · omega
    rw[fl j (by omega),f5 j (by omega),f4 j (by omega)]
  · rcases hO3 j hj with h | h
    · exact hO j h
    · omega
  · rcases hsl3 j hj with h | h
    · exact hsl j h
    · omega
  · rw[rL,hdl];rfl
  · rw[rZ];exact hT
end
end
end Go.Proofs.YtjnkfbpadpmakaaGreatDoor.Am
