/- Package nat: Cmp, short, walked; conditions: none. -/
import Derived.Test.YtjnkfbpadpmakaaGreatDoorAmM05
import Derived.Test.YtjnkfbpadpmakaaGreatDoorProg
set_option linter.unusedVariables false
set_option linter.unusedSimpArgs false
set_option maxRecDepth 12000
namespace Go.Proofs.YtjnkfbpadpmakaaGreatDoor.Am
open Go Go.Proofs
noncomputable section
def Eh(a b:Nat):Int:=if a<b then -1 else if b<a then 1 else 0
theorem Kg:∀ (n:Nat),n≠0→LB ^ ((AR n).length - 1)≤n:=by
  intro n
  induction n using Nat.strongRecOn with
  | _ n ih =>
    intro h
    rw[EW h,oV,qI]
    by_cases h2:n / LB=0
    · rw[h2,BM]
      show LB ^ 0≤n
      rw[Nat.pow_zero];omega
    · have := ih (n / LB) (Nat.div_lt_self (by omega) (by decide)) h2
      have hne:(AR (n / LB)).length≠0:=fun e=>Cg h2 (qD e)
      obtain⟨m,hm⟩:∃m,(AR (n / LB)).length=m+1:=⟨(AR (n / LB)).length - 1,by omega⟩
      rw[hm,qI]at this
      rw[hm,pE]
      exact ny (oC LB this) (Nat.div_mul_le_self n LB)
theorem X8(n:Nat):n<LB ^ (AR n).length:=by
 have:=Cb (Ae n)
 rw[Ah]at this
 exact this
theorem ER{a b:Nat}(h:(AR a).length<(AR b).length):a<b:=by
 have hb:b≠0:=fun e=>by subst e;rw[BM]at h;simp at h
 have h1:=X8 a
 have h2:=Kg b hb
 have:LB ^ (AR a).length≤LB ^ ((AR b).length - 1):=pm BF (by omega)
 omega
theorem Oo{la lb:List Nat}{k x y:Nat}(hl:la.length=lb.length)(ha:Bl la)(hb:Bl lb)(hx:la[k]? = some x)(hy:lb[k]? = some y)(hd:la.drop (k+1)=lb.drop (k+1))(h:x<y):AG la<AG lb:=by
 have hka:k<la.length:=by
  rcases nm k la.length with h' | h'
  ·exact h'
  ·rw[oF h']at hx;cases hx
 have e:∀ (l:List Nat) (z:Nat),l[k]? = some z→k<l.length→AG l=AG (l.take k)+LB ^ k * (z+LB * AG (l.drop (k+1))):=by
  intro l z hz hkl
  have h1:=BN (l.take k) (l.drop k)
  rw[pn,oO,px (by omega),FH hz]at h1
  exact h1
 rw[e la x hx hka,e lb y hy (by omega),hd]
 have h1:=Cb (ha.take k)
 rw[oO,px (by omega)]at h1
 generalize LB * AG (lb.drop (k+1))=z
 have h2:LB ^ k * (x+z+1)≤LB ^ k * (y+z):=oZ _ (by omega)
 rw[oW,oD]at h2
 omega
section
variable{E:CP}{s:AD}
theorem XO       {a b : Option (Nat × Nat)} {ca cb : Option Nat} {la lb : List Nat} (hl : la.length = lb.length) (ha : Bl  la) (hb : Bl  lb) (hca : AZ      s.next s a (us la)) (hcb : AZ      s.next s b (us lb)) (h63 : la.length ≤ 100000000000) {Q : A5   → Prop} (x2 x4 x5 : AV)
    (hq:la=lb→∀y3 y6 y7 y8,Q ⟨.exit 1,[.slice a la.length ca,.slice b lb.length cb,x2,y3,x4,x5,y6,y7,y8],[],s⟩)
    (hr:∀z y3 y6 y7 y8,z=Eh (AG la) (AG lb)→Q ⟨.ret,[.slice a la.length ca,.slice b lb.length cb,iv z,y3,x4,x5,y6,y7,y8],[],s⟩):
    ∀ (k:Nat) (x6 x7 x8:AV),k≤la.length→la.drop k=lb.drop k→WC E none (.loop HI) Q [.slice a la.length ca,.slice b lb.length cb,x2,iv ((k:Int) - 1),x4,x5,x6,x7,x8] [] s:=by
  intro k
  induction k with
  | zero =>
    intro x6 x7 x8 hk hd
    refine WC.loop' ?_
    have d0:decide ((0:Int)≤((0:Nat):Int) - 1)=false:=rfl
    simp only[HI,OI,Wa,d0,Qa,Qb,Qc,Qd,Qe,Qf,Qg,Qh,Qi,Qj,Qk,Ql,Qm,Qn,true_and,and_true,Qo,Qp,Qq,Qr,Qs,Qt,Qu,Qv,Qw,Qx,Qy,Qz,Ra,Rb,Rc,Rd,Re,Rf,Rg,Rh,Ri,Rj,Rk,Rm,Rn,Ro,Rp,Rq,Rs,Ya,Yb,Yc,Rt,Ru,Za,Yd,Ye,Rx,Ry,Rz,Wa,Wb,Wc,Wd]
    exact hq (by simpa using hd) _ _ _ _
  | succ k ih =>
    intro x6 x7 x8 hk hd
    have hx:la[k]? = some la[k]:=nr (by omega)
    generalize la[k]=x at hx
    have hy:lb[k]? = some (lb[k]'(by omega)):=nr (by omega)
    generalize lb[k]'(by omega)=y at hy
    obtain⟨i,o,rfl,_,hload⟩:=hca k _ (Da hx)
    obtain⟨i2,o2,rfl,_,hload2⟩:=hcb k _ (Da hy)
    have e0:((k+1:Nat):Int) - 1=(k:Int):=by omega
    have d0:decide ((0:Int)≤(k:Int))=true:=decide_eq_true (by omega)
    have e1:=An (cap:=ca) (i:=i) (o:=o) Tryz.underlying22 Ct (show k<la.length by omega)
    have e2:AC Tryz.prog s 76 (.ptr (some (i,o+k * 1)))=some (Bf x):=CM Hm (by rw[oD];exact hload)
    have e3:=An (cap:=cb) (i:=i2) (o:=o2) Tryz.underlying22 Ct (show k<lb.length by omega)
    have e4:AC Tryz.prog s 76 (.ptr (some (i2,o2+k * 1)))=some (Bf y):=CM Hm (by rw[oD];exact hload2)
    have e5:=lh Tryz.prog 76 (a:=x) (b:=y) .u32
    have e6:=Mc Tryz.prog 76 (a:=x) (b:=y) .u32
    have e7:=CK Tryz.prog 3 (k:Int) 1 ⟨by omega,by omega⟩
    refine WC.loop' ?_
    generalize hW:WC E none (Af.loop HI) Q=WW
    rw[e0]
    by_cases h1:x<y
    · have d1:decide (x<y)=true:=decide_eq_true h1
      simp only[HI,OI,SS,fc,Wa,d0,e1,e2,e3,e4,e5,d1,Qa,Qb,Qc,Qd,Qe,Qf,Qg,Qh,Qi,Qj,Qk,Ql,Qm,Qn,true_and,and_true,Qo,Qp,Qq,Qr,Qs,Qt,Qu,Qv,Qw,Qx,Qy,Qz,Ra,Rb,Rc,Rd,Re,Rf,Rg,Rh,Ri,Rj,Rk,Rm,Rn,Ro,Rp,Rq,Rs,Ya,Yb,Yc,Rt,Ru,Za,Yd,Ye,Rx,Ry,Rz,Wa,Wb,Wc,Wd]
      refine hr _ _ _ _ _ ?_
      have:=Oo hl ha hb hx hy hd h1
      unfold Eh
      rw[if_pos this]
    · have d1:decide (x<y)=false:=decide_eq_false h1
      by_cases h2:y<x
      · have d2:decide (y<x)=true:=decide_eq_true h2
        simp only[HI,OI,SS,QC,XD,Wa,d0,e1,e2,e3,e4,e5,e6,d1,d2,Qa,Qb,Qc,Qd,Qe,Qf,Qg,Qh,Qi,Qj,Qk,Ql,Qm,Qn,true_and,and_true,Qo,Qp,Qq,Qr,Qs,Qt,Qu,Qv,Qw,Qx,Qy,Qz,Ra,Rb,Rc,Rd,Re,Rf,Rg,Rh,Ri,Rj,Rk,Rm,Rn,Ro,Rp,Rq,Rs,Ya,Yb,Yc,Rt,Ru,Za,Yd,Ye,Rx,Ry,Rz,Wa,Wb,Wc,Wd]
        refine hr _ _ _ _ _ ?_
        have:=Oo hl.symm hb ha hy hx hd.symm h2
        unfold Eh
        rw[if_neg (by omega),if_pos this]
      · have d2 : decide (y < x) = false := decide_eq_false h2
        have hxy:x=y:=by omega
        simp only[HI,OI,SS,QC,XE,Wa,d0,e1,e2,e3,e4,e5,e6,d1,d2,e7,Qa,Qb,Qc,Qd,Qe,Qf,Qg,Qh,Qi,Qj,Qk,Ql,Qm,Qn,true_and,and_true,Qo,Qp,Qq,Qr,Qs,Qt,Qu,Qv,Qw,Qx,Qy,Qz,Ra,Rb,Rc,Rd,Re,Rf,Rg,Rh,Ri,Rj,Rk,Rm,Rn,Ro,Rp,Rq,Rs,Ya,Yb,Yc,Rt,Ru,Za,Yd,Ye,Rx,Ry,Rz,Wa,Wb,Wc,Wd]
        rw[← hW]
        refine ih _ _ _ (by omega) ?_
        rw[ol (show k<la.length by omega),ol (show k<lb.length by omega),hd]
        have g1:la[k]=x:=by rw[nr (by omega)]at hx;exact Option.some.inj hx
        have g2:lb[k]'(by omega)=y:=by rw[nr (by omega)]at hy;exact Option.some.inj hy
        rw[g1,g2,hxy]
theorem QF     (hE : GoodN E) {va vb : AV} {la lb : List Nat} (ha : Cv  s va la) (hb : Cv  s vb lb) (hla : la.length ≤ 100000000000) (hlb : lb.length ≤ 100000000000) (hsa : Bl  la) (hsb : Bl  lb) {K : AV → AD  → Prop}
    (hK:∀s',Ac s.next s s'→K (iv (Eh (AG la) (AG lb))) s'):WF E 93 [va,vb] K s:=by
  refine hE.go jJ (by decide) rfl ?_
  simp only[nY,fX,fY,Qa,Qb,Qc,Qd,Qe,Qf,Qg,Qh,Qi,Qj,Qk,Ql,Qm,Qn,true_and,and_true,Qo,Qp,Qq,Qr,Qs,Qt,Qu,Qv,Qw,Qx,Qy,Qz,Ra,Rb,Rc,Rd,Re,Rf,Rg,Rh,Ri,Rj,Rk,Rm,Rn,Ro,Rp,Rq,Rs,Ya,Yb,Yc,Rt,Ru,Za,Yd,Ye,Rx,Ry,Rz,Wa,Wb,Wc,Wd]
  refine CT hE ha hla fun s1 v1 o1 r1=>?_
  simp only[Qa,Qb,Qc,Qd,Qe,Qf,Qg,Qh,Qi,Qj,Qk,Ql,Qm,Qn,true_and,and_true,Qo,Qp,Qq,Qr,Qs,Qt,Qu,Qv,Qw,Qx,Qy,Qz,Ra,Rb,Rc,Rd,Re,Rf,Rg,Rh,Ri,Rj,Rk,Rm,Rn,Ro,Rp,Rq,Rs,Ya,Yb,Yc,Rt,Ru,Za,Yd,Ye,Rx,Ry,Rz,Wa,Wb,Wc,Wd]
  refine CT hE (hb.old o1) hlb fun s2 v2 o2 r2=>?_
  have n1:=r1.n32.old o2
  have n2:=r2.n32
  have hend:=hK s2 (o1.trans (o2.mono o1.1))
  have t1:=Eb la
  have t2:=Eb lb
  rw[Bq hsa]at n1 t1
  rw[Bq hsb]at n2 t2
  generalize AG la=A at *
  generalize AG lb=B at *
  obtain⟨a,ca,rfl,_,hca⟩:=n1
  obtain⟨b,cb,rfl,_,hcb⟩:=n2
  by_cases h1:(AR A).length<(AR B).length
  · have d1 : decide (((AR    A).length : Int) < ((AR    B).length : Int)) = true := decide_eq_true (by omega)
    have e:Eh A B=-1:=by unfold Eh;rw[if_pos (ER h1)]
    rw[e]at hend
    simp only[SR,fZ,AU Tryz.underlying22,Rx,d1,Qa,Qb,Qc,Qd,Qe,Qf,Qg,Qh,Qi,Qj,Qk,Ql,Qm,Qn,true_and,and_true,Qo,Qp,Qq,Qr,Qs,Qt,Qu,Qv,Qw,Qx,Qy,Qz,Ra,Rb,Rc,Rd,Re,Rf,Rg,Rh,Ri,Rj,Rk,Rm,Rn,Ro,Rp,Rq,Rs,Ya,Yb,Yc,Rt,Ru,Za,Yd,Ye,Rx,Ry,Rz,Wa,Wb,Wc,Wd]
    exact hend
  · have d1:decide (((AR A).length:Int)<((AR B).length:Int))=false:=decide_eq_false (by omega)
    by_cases h2:(AR B).length<(AR A).length
    · have d2 : decide (((AR    B).length : Int) < ((AR    A).length : Int)) = true := decide_eq_true (by omega)
      have hlt:=ER h2
      have e:Eh A B=1:=by unfold Eh;rw[if_neg (by omega),if_pos hlt]
      rw[e]at hend
      simp only[SR,XG,fa,AU Tryz.underlying22,Rx,Ry,d1,d2,Qa,Qb,Qc,Qd,Qe,Qf,Qg,Qh,Qi,Qj,Qk,Ql,Qm,Qn,true_and,and_true,Qo,Qp,Qq,Qr,Qs,Qt,Qu,Qv,Qw,Qx,Qy,Qz,Ra,Rb,Rc,Rd,Re,Rf,Rg,Rh,Ri,Rj,Rk,Rm,Rn,Ro,Rp,Rq,Rs,Ya,Yb,Yc,Rt,Ru,Za,Yd,Ye,Rx,Ry,Rz,Wa,Wb,Wc,Wd]
      exact hend
    · have d2 : decide (((AR    B).length : Int) < ((AR    A).length : Int)) = false := decide_eq_false (by omega)
      have hl:(AR A).length=(AR B).length:=by omega
      have e7:=CK Tryz.prog 3 ((AR A).length:Int) 1 ⟨by omega,by omega⟩
      simp only[SR,XG,fb,AU Tryz.underlying22,Rx,Ry,d1,d2,e7,Qa,Qb,Qc,Qd,Qe,Qf,Qg,Qh,Qi,Qj,Qk,Ql,Qm,Qn,true_and,and_true,Qo,Qp,Qq,Qr,Qs,Qt,Qu,Qv,Qw,Qx,Qy,Qz,Ra,Rb,Rc,Rd,Re,Rf,Rg,Rh,Ri,Rj,Rk,Rm,Rn,Ro,Rp,Rq,Rs,Ya,Yb,Yc,Rt,Ru,Za,Yd,Ye,Rx,Ry,Rz,Wa,Wb,Wc,Wd]
      refine XO hl (Ae A) (Ae B) hca hcb (by omega) _ _ _ (fun heq y3 y6 y7 y8=>?_) (fun z y3 y6 y7 y8 hz=>?_) (AR A).length _ _ _ (nl _) (by rw[List.drop_length,hl,List.drop_length])
      · have:A=B:=Tj heq
        subst this
        have e:Eh A A=0:=by unfold Eh;rw[if_neg (Nat.lt_irrefl _),if_neg (Nat.lt_irrefl _)]
        rw[e]at hend
        simp only[XF,if_true,Qa,Qb,Qc,Qd,Qe,Qf,Qg,Qh,Qi,Qj,Qk,Ql,Qm,Qn,true_and,and_true,Qo,Qp,Qq,Qr,Qs,Qt,Qu,Qv,Qw,Qx,Qy,Qz,Ra,Rb,Rc,Rd,Re,Rf,Rg,Rh,Ri,Rj,Rk,Rm,Rn,Ro,Rp,Rq,Rs,Ya,Yb,Yc,Rt,Ru,Za,Yd,Ye,Rx,Ry,Rz,Wa,Wb,Wc,Wd]
        exact hend
      · rw[Ah,Ah]at hz
        subst hz
        simp only[Qa,Qb,Qc,Qd,Qe,Qf,Qg,Qh,Qi,Qj,Qk,Ql,Qm,Qn,true_and,and_true,Qo,Qp,Qq,Qr,Qs,Qt,Qu,Qv,Qw,Qx,Qy,Qz,Ra,Rb,Rc,Rd,Re,Rf,Rg,Rh,Ri,Rj,Rk,Rm,Rn,Ro,Rp,Rq,Rs,Ya,Yb,Yc,Rt,Ru,Za,Yd,Ye,Rx,Ry,Rz,Wa,Wb,Wc,Wd]
        exact hend
end
theorem jh(n:Nat):RH [AV.int .u32 0] n=us (List.replicate n 0):=by
 induction n with
 | zero=>rfl
 | succ n ih=>show [AV.int .u32 0]++RH [AV.int .u32 0] n=_;rw[ih];rfl
theorem NJ(n:Nat)(h:n≤100000000000):CF Tryz.prog 22 (iv (n:Int)) (iv (n:Int))=some (R 76 1 false (us (List.replicate n 0)),.slice n):=by
 have e:CF Tryz.prog 22 (.int .i64 (.ofNat n)) (.int .i64 (.ofNat n))=some (GP 76 1 (RH [AV.int .u32 0] n),.slice n):=by
  simp[CF,Tryz.underlying22,UX,Ct,mV,AJ,CZ (show 4 * n≤1099511627776 by omega),CZ (show n≤1099511627776 by omega),AV.cells]
 rw[jh]at e
 exact e
structure Lh(s s':AD)(i:Nat):Prop where
 next:s'.next=s.next
 get:∀j,j≠i→s'.heap.get j=s.heap.get j
theorem Lh.refl(s:AD)(i:Nat):Lh s s i:=⟨rfl,fun _ _=>rfl⟩
theorem Lh.set{s s':AD}{i:Nat}(h:Lh s s' i)(o:A8):Lh s (setObj s' i o) i:=⟨h.next,fun j hj=>(Ww o hj).trans (h.get j hj)⟩
theorem Lh.old{s s':AD}{i b:Nat}(h:Lh s s' i)(hb:b≤i):Ac b s s':=⟨oU h.next.symm,fun j hj=>h.get j (by omega)⟩
section
variable{E:CP}{s:AD}
theorem RP{s1:AD}{x:Nat}(hx:0<x)(hxB:x≤4294967296){a:Option (Nat×Nat)}{cap:Option Nat}{l:List Nat}{b qi:Nat}(hc:AZ b s1 a (us l))(hb:b≤qi)(hl:l.length≤100000000000)(hs:Bl l){Q:A5→Prop}
  (hq:∀ (s':AD) (y4 y5:AV),Lh s1 s' qi→s'.heap.get qi=some (R 76 1 false (us (BG x l).1))→Q ⟨.exit 0,[.slice a l.length cap,Ag x,.slice (some (qi,0)) l.length (some l.length),Ag (BG x l).2,y4,y5],[],s'⟩):
  ∀ (k:Nat) (s':AD) (x5:AV),k≤l.length→Lh s1 s' qi→s'.heap.get qi=some (R 76 1 false (us (List.replicate k 0++(BG x (l.drop k)).1))) →
   WC E none (.loop OJ) Q [.slice a l.length cap,Ag x,.slice (some (qi,0)) l.length (some l.length),Ag (BG x (l.drop k)).2,iv ((k:Int) - 1),x5] [] s':=by
 intro k
 induction k with
 | zero =>
  intro s' x5 hk ho hg
  have d0:decide ((0:Int)≤((0:Nat):Int) - 1)=false:=rfl
  refine WC.loop' ?_
  simp only[OJ,XH,Wa,d0,Qa,Qb,Qc,Qd,Qe,Qf,Qg,Qh,Qi,Qj,Qk,Ql,Qm,Qn,true_and,and_true,Qo,Qp,Qq,Qr,Qs,Qt,Qu,Qv,Qw,Qx,Qy,Qz,Ra,Rb,Rc,Rd,Re,Rf,Rg,Rh,Ri,Rj,Rk,Rm,Rn,Ro,Rp,Rq,Rs,Ya,Yb,Yc,Rt,Ru,Za,Yd,Ye,Rx,Ry,Rz,Wa,Wb,Wc,Wd]
  exact hq s' _ _ ho hg
 | succ k ih =>
  intro s' x5 hk ho hg
  have hy:l[k]? = some l[k]:=nr (by omega)
  have hdk:l.drop k=l[k]::l.drop (k+1):=ol (by omega)
  generalize l[k]=y at hy hdk
  have hys:y<4294967296:=hs y (oP hy)
  obtain⟨i,o,rfl,hi,hload⟩:=hc k _ (Da hy)
  obtain⟨_,v2,v3⟩:=Dt hx (l.drop (k+1))
  have hsl:BG x (l.drop k)=(((BG x (l.drop (k+1))).2 * LB+y) / x::(BG x (l.drop (k+1))).1,((BG x (l.drop (k+1))).2 * LB+y) % x):=by rw[hdk];rfl
  have hLB:LB=4294967296:=rfl
  rw[hLB]at hsl
  rw[hsl]at ih
  generalize BG x (l.drop (k+1))=T at *
  obtain⟨q,r⟩:=T
  simp only at *
  have hqlt:(r * 4294967296+y) / x<4294967296:=by
   rw[oz hx]
   have:(r+1) * 4294967296≤x * 4294967296:=oC _ v2
   rw[oH]at this
   rw[oJ _ x]
   omega
  have e0:((k+1:Nat):Int) - 1=(k:Int):=by omega
  have d0:decide ((0:Int)≤(k:Int))=true:=decide_eq_true (by omega)
  have e1:AT Tryz.prog .shl 69 (Ag r) (.int .u64 32)=some (Ag (r * 4294967296)):=Md Tryz.prog 69 (k:=.u64) (n:=32) (by decide) (by show r * 4294967296<_;omega)
  have e2:=An (cap:=cap) (i:=i) (o:=o) Tryz.underlying22 Ct (show k<l.length by omega)
  have e3:AC Tryz.prog s' 76 (.ptr (some (i,o+k * 1)))=some (Bf y):=CM Hm (by rw[oD,D7 (ho.get i (by omega))];exact hload)
  have e4:=ao Tryz.prog 69 (a:=r) (b:=y) (by omega) hys
  have e5:=gy Tryz.prog 69 (a:=r * 4294967296+y) (b:=x) (by omega) (by omega)
  have e6:(r * 4294967296+y) / x % 4294967296=(r * 4294967296+y) / x:=oe hqlt
  have e7:=An (cap:=some l.length) (i:=qi) (o:=0) Tryz.underlying22 Ct (show k<l.length by omega)
  rw[oD,oG]at e7
  have hlen:k<(us (List.replicate (k+1) 0++q)).length:=by rw[Cl,oI,List.length_replicate];omega
  have e8:=B1 (P:=Tryz.prog) (t:=76) (v:=Bf ((r * 4294967296+y) / x)) Ct hg hlen rfl
  have e9:=g0 Tryz.prog 69 (a:=r * 4294967296+y) (b:=x) (by omega)
  have e10:=CK Tryz.prog 3 (k:Int) 1 ⟨by omega,by omega⟩
  have hrow:(us (List.replicate (k+1) 0++q)).set k (Bf ((r * 4294967296+y) / x))=us (List.replicate k 0++((r * 4294967296+y) / x::q)):=by
   rw[I5]
   congr 1
   rw[List.replicate_succ',oX,List.set_append_right _ _ (by simp)]
   simp
  rw[hrow]at e8
  refine WC.loop' ?_
  generalize hW:WC E none (Af.loop OJ) Q=WW
  rw[e0]
  simp only[OJ,XH,fh,fi,fj,fk,Wa,d0,e1,e2,e3,Bi hys,e4,e5,Bx,e6,e7,e8,e9,e10,Xx,Xz,Qa,Qb,Qc,Qd,Qe,Qf,Qg,Qh,Qi,Qj,Qk,Ql,Qm,Qn,true_and,and_true,Qo,Qp,Qq,Qr,Qs,Qt,Qu,Qv,Qw,Qx,Qy,Qz,Ra,Rb,Rc,Rd,Re,Rf,Rg,Rh,Ri,Rj,Rk,Rm,Rn,Ro,Rp,Rq,Rs,Ya,Yb,Yc,Rt,Ru,Za,Yd,Ye,Rx,Ry,Rz,Wa,Wb,Wc,Wd]
  rw[← hW]
  exact ih _ _ (by omega) (ho.set _) (Wv _ _ _)
theorem PU(hE:GoodN E){v:AV}{l:List Nat}(hv:Cv s v l)(hl:l.length≤10000000000)(hs:Bl l){x:Nat}(hx:0<x)(hxB:x≤4294967296){K:AV→AD→Prop}(hK:∀s' v',Ac s.next s s'→NR s.next s' v' (DY (BG x l).1)→K (.tuple [v',Ag (BG x l).2]) s'):
  WF E 94 [v,Ag x] K s:=by
 obtain⟨a,cap,rfl,hcap,hc⟩:=hv
 have e1:=NJ l.length (by omega)
 have e2:=CK Tryz.prog 3 (l.length:Int) 1 ⟨by omega,by omega⟩
 have ho:=Ac.new s (R 76 1 false (us (List.replicate l.length 0)))
 refine hE.go jK (by decide) rfl ?_
 simp only[nZ,fe,ff,fg,AU Tryz.underlying22,e1,e2,Xx,Xd,Qa,Qb,Qc,Qd,Qe,Qf,Qg,Qh,Qi,Qj,Qk,Ql,Qm,Qn,true_and,and_true,Qo,Qp,Qq,Qr,Qs,Qt,Qu,Qv,Qw,Qx,Qy,Qz,Ra,Rb,Rc,Rd,Re,Rf,Rg,Rh,Ri,Rj,Rk,Rm,Rn,Ro,Rp,Rq,Rs,Ya,Yb,Yc,Rt,Ru,Za,Yd,Ye,Rx,Ry,Rz,Wa,Wb,Wc,Wd]
 have hg0:(newObj s (R 76 1 false (us (List.replicate l.length 0)))).heap.get s.next=some (R 76 1 false (us (List.replicate l.length 0++(BG x (l.drop l.length)).1))):=by
  rw[AO,if_pos rfl,List.drop_length]
  simp[BG]
 have h0:AV.int .u64 0=Ag (BG x (l.drop l.length)).2:=by rw[List.drop_length];rfl
 rw[h0]
 refine RP (s1:=newObj s (R 76 1 false (us (List.replicate l.length 0)))) hx hxB (hc.old ho (nl _)) (nl s.next) (by omega) hs (fun s' y4 y5 o' hg'=>?_) l.length _ _ (nl _) (Lh.refl _ _) hg0
 obtain⟨v1,v2,v3⟩:=Dt hx l
 have hsn:s'.next=s.next+1:=o'.next
 have hq:Cv s' (.slice (some (s.next,0)) l.length (some l.length)) (BG x l).1:=
  ⟨some (s.next,0),some l.length,by rw[v3],.inl ⟨l.length,rfl,by omega,fun e=>by cases e⟩,Ew hg' (by omega)⟩
 simp only[fm,if_true,Qa,Qb,Qc,Qd,Qe,Qf,Qg,Qh,Qi,Qj,Qk,Ql,Qm,Qn,true_and,and_true,Qo,Qp,Qq,Qr,Qs,Qt,Qu,Qv,Qw,Qx,Qy,Qz,Ra,Rb,Rc,Rd,Re,Rf,Rg,Rh,Ri,Rj,Rk,Rm,Rn,Ro,Rp,Rq,Rs,Ya,Yb,Yc,Rt,Ru,Za,Yd,Ye,Rx,Ry,Rz,Wa,Wb,Wc,Wd]
 refine CT hE hq (by omega) fun s2 v2 o2 r2=>?_
 simp only[Qa,Qb,Qc,Qd,Qe,Qf,Qg,Qh,Qi,Qj,Qk,Ql,Qm,Qn,true_and,and_true,Qo,Qp,Qq,Qr,Qs,Qt,Qu,Qv,Qw,Qx,Qy,Qz,Ra,Rb,Rc,Rd,Re,Rf,Rg,Rh,Ri,Rj,Rk,Rm,Rn,Ro,Rp,Rq,Rs,Ya,Yb,Yc,Rt,Ru,Za,Yd,Ye,Rx,Ry,Rz,Wa,Wb,Wc,Wd]
 exact hK s2 v2 (ho.trans ((o'.old (nl _)).trans (o2.mono (by omega)))) (r2.mono (by omega))
end
def FT(cu:List Nat)(off:Nat)(d:List Nat):List Nat:=cu.take off++d++cu.drop (off+d.length)
theorem NM(cu:List Nat)(off:Nat):FT cu off []=cu:=by simp[FT,pn]
theorem Gl{cu:List Nat}{off:Nat}{d:List Nat}(h:off+d.length≤cu.length):(FT cu off d).length=cu.length:=by
 unfold FT
 simp only[oI,oO,oh]
 omega
theorem NL{cu:List Nat}{off:Nat}{d:List Nat}(h:off+d.length<cu.length):(FT cu off d)[off+d.length]? = cu[off+d.length]? := by
 unfold FT
 rw[ov (by simp;omega)]
 simp only[oI,oO]
 rw[pW]
 congr 1
 omega
theorem Ju{cu:List Nat}{off:Nat}{d:List Nat}(h:off+d.length<cu.length)(x:Nat):(FT cu off d).set (off+d.length) x=FT cu off (d++[x]):=by
 unfold FT
 have hl:(cu.take off++d).length=off+d.length:=by simp;omega
 rw[List.set_append_right _ _ (by omega),hl,Nat.sub_self]
 rw[ol h]
 simp[oX,oY]
section
variable{E:CP}{s:AD}
theorem T9{s1:AD}{q:Nat}(hq32:q<4294967296){ui off:Nat}{capu:Option Nat}{pp:Option Nat}{cu w:List Nat}(hcu:off+w.length≤cu.length)(hsu:Bl cu)(hsw:Bl w){a9:Option (Nat×Nat)}{c9:Option Nat}{b:Nat}(hc9:AZ b s1 a9 (us w))(h9:∀i o,a9=some (i,o)→i≠ui∧some i≠pp)
    (hwl:w.length≤100000000000) {D:List Nat} {cf bf:Nat} {Q:A5→Prop} (x1 x3:AV)
    (hq:∀ (s':AD) (c br:Nat) (d:List Nat) (y6 y7 y8 y11 y12:AV),ED s1 s' ui pp→d=D→br=bf→Cy s' ui (us (FT cu off d)) pp →
      Q ⟨.exit 0,[.slice (some (ui,off)) w.length capu,x1,Ag q,x3,Ag c,Ag br,y6,y7,y8,.slice a9 w.length c9,iv (w.length:Int),y11,y12],[],s'⟩):
    ∀ (r : List Nat) (s' : AD)  (c br : Nat) (d : List Nat) (x6 x7 x8 x12 : AV), w.drop d.length = r → d.length ≤ w.length → ED    s1 s' ui pp → c < 4294967296 → br ≤ 1 →
      (d++(B6 q ((cu.drop (off+d.length)).zip r) c br).1,(B6 q ((cu.drop (off+d.length)).zip r) c br).2)=(D,cf,bf)→Cy s' ui (us (FT cu off d)) pp →
      WC E none (.loop KK) Q [.slice (some (ui,off)) w.length capu,x1,Ag q,x3,Ag c,Ag br,x6,x7,x8,.slice a9 w.length c9,iv (w.length:Int),iv (d.length:Int),x12] [] s':=by
  intro r
  induction r with
  | nil =>
    intro s' c br d x6 x7 x8 x12 hd hk ho hc hb hT hg
    have hkl:d.length=w.length:=by
      have:=congrArg List.length hd
      simp at this
      omega
    rw[List.zip_nil_right]at hT
    simp only[B6,pz,Prod.mk.injEq]at hT
    have dd:decide ((d.length:Int)<(w.length:Int))=false:=decide_eq_false (by omega)
    refine WC.loop' ?_
    simp only[KK,XK,Rx,dd,Qa,Qb,Qc,Qd,Qe,Qf,Qg,Qh,Qi,Qj,Qk,Ql,Qm,Qn,true_and,and_true,Qo,Qp,Qq,Qr,Qs,Qt,Qu,Qv,Qw,Qx,Qy,Qz,Ra,Rb,Rc,Rd,Re,Rf,Rg,Rh,Ri,Rj,Rk,Rm,Rn,Ro,Rp,Rq,Rs,Ya,Yb,Yc,Rt,Ru,Za,Yd,Ye,Rx,Ry,Rz,Wa,Wb,Wc,Wd]
    exact hq s' c br d _ _ _ _ _ ho hT.1 hT.2.2 hg
  | cons y r ih =>
    intro s' c br d x6 x7 x8 x12 hd hk ho hc hb hT hg
    have hlt:d.length<w.length:=by
      rcases nm d.length w.length with h' | h'
      · exact h'
      · rw[oo h']at hd;cases hd
    have hy:w[d.length]? = some y:=by
      have:=congrArg (fun l=>l[0]?) hd
      simpa using this
    have hd':w.drop (d.length+1)=r:=by
      have:=congrArg (List.drop 1) hd
      simpa[pF]using this
    have hys:y<4294967296:=hsw y (oP hy)
    have hlu:off+d.length<cu.length:=by omega
    have hu:cu[off+d.length]? = some cu[off+d.length]:=nr hlu
    have hdu:cu.drop (off+d.length)=cu[off+d.length]::cu.drop (off+(d.length+1)):=ol hlu
    generalize cu[off+d.length]=u at hu hdu
    have hus:u<4294967296:=hsu u (oP hu)
    rw[hdu,qA]at hT
    simp only[B6]at hT
    obtain⟨i,o,rfl,hi,hload⟩:=hc9 d.length _ (Da hy)
    have hne:=h9 i o rfl
    have hkk:decide ((d.length:Int)<(w.length:Int))=true:=decide_eq_true (by omega)
    have e1:=An (cap:=c9) (i:=i) (o:=o) Tryz.underlying22 Ct hlt
    have e2:AC Tryz.prog s' 76 (.ptr (some (i,o+d.length * 1)))=some (Bf y):=CM Hm (by rw[oD,D7 (ho.get i hne.1 hne.2)];exact hload)
    have hqy:q * y≤4294967295 * 4294967295:=oq (by omega) (by omega)
    have e3:=Pf Tryz.prog 69 (a:=q) (b:=y) (by omega)
    have e4:=HD Tryz.prog 69 (a:=c) (b:=q * y) (by omega)
    have e5:=An (cap:=capu) (i:=ui) (o:=off) Tryz.underlying22 Ct hlt
    have hcell:(us (FT cu off d))[off+d.length * 1]? = some (Bf u):=by rw[oD];exact Da ((NL hlu).trans hu)
    have e6:=Km (P:=Tryz.prog) (t:=76) Hm hg hcell
    have hLB:LB=4294967296:=rfl
    rw[hLB]at hT
    generalize hc1:c+q * y=c1 at hT e4
    have hc1b:c1<18446744073709551616:=by omega
    have e7:=JV Tryz.prog 69 hc1b
    have hm:c1 % 4294967296<4294967296:=oT _ (by decide)
    generalize hmm:c1 % 4294967296=m at hT e7 hm
    have e8:=Me Tryz.prog 69 (a:=u) (b:=m) (by omega)
    have e9:=Me Tryz.prog 69 (a:=(u+18446744073709551616 - m) % 18446744073709551616) (b:=br) (by omega)
    generalize hdd:((u+18446744073709551616 - m) % 18446744073709551616+18446744073709551616 - br) % 18446744073709551616=dd at e9
    have hddb:dd<18446744073709551616:=by rw[← hdd];exact oT _ (by decide)
    have e10:=JV Tryz.prog 69 hddb
    have e11:dd % 4294967296 % 4294967296=dd % 4294967296:=qB _ _
    have e12:dd % 4294967296=(u+4294967296 - m - br) % 4294967296:=by omega
    have e13:AT Tryz.prog .shr 69 (Ag dd) (.int .u64 63)=some (Ag (dd / 9223372036854775808)):=IU Tryz.prog 69 (k:=.u64) (n:=63) (by decide)
    have e14:dd / 9223372036854775808=if u<m+br then 1 else 0:=by split<;>omega
    have e15:AT Tryz.prog .shr 69 (Ag c1) (.int .u64 32)=some (Ag (c1 / 4294967296)):=IU Tryz.prog 69 (k:=.u64) (n:=32) (by decide)
    rw[e12]at e10 e11
    generalize hx:(u+4294967296 - m - br) % 4294967296=x at hT e10 e11 e12
    have hlm:off+d.length * 1<(us (FT cu off d)).length:=by rw[Cl,Gl (by omega)];omega
    obtain⟨s2,e16,w1,w2,w3⟩:=FR (P:=Tryz.prog) (t:=76) (v:=Bf x) Ct hg hlm rfl
    rw[oD]at e16
    rw[oD,I5,Ju hlu]at w1
    rw[oD]at e5 e6
    have e17:=Bh Tryz.prog 3 (d.length:Int) 1 ⟨by omega,by omega⟩
    have e17':((d.length:Int)+1)=((d.length+1:Nat):Int):=by omega
    refine WC.loop' ?_
    generalize hW:WC E none (Af.loop KK) Q=WW
    simp only[KK,XK,gF,gG,gH,gI,gJ,gK,XI,Rx,hkk,e1,e2,Bi hys,e3,e4,e5,e6,Bi hus,e7,e8,e9,e10,Bx,e11,e16,e15,e13,e14,e17,e17',Xx,Xz,Qa,Qb,Qc,Qd,Qe,Qf,Qg,Qh,Qi,Qj,Qk,Ql,Qm,Qn,true_and,and_true,Qo,Qp,Qq,Qr,Qs,Qt,Qu,Qv,Qw,Qx,Qy,Qz,Ra,Rb,Rc,Rd,Re,Rf,Rg,Rh,Ri,Rj,Rk,Rm,Rn,Ro,Rp,Rq,Rs,Ya,Yb,Yc,Rt,Ru,Za,Yd,Ye,Rx,Ry,Rz,Wa,Wb,Wc,Wd]
    rw[← hW]
    have hlen1:(d++[x]).length=d.length+1:=by rw[oI];rfl
    have key:=ih s2 (c1 / 4294967296) (if u<m+br then 1 else 0) (d++[x])
    rw[hlen1]at key
    exact key _ _ _ _ hd' hlt (ho.step w2 w3) (by omega) (by split<;>omega) (by rw[oX];exact hT) w1
theorem ah(hE:GoodN E){q:Nat}(hq32:q<4294967296){ui off:Nat}{capu:Option Nat}{pp:Option Nat}{cu vl:List Nat}(hui:ui<s.next)(hpp:∀q,pp=some q→q<s.next)(hg:Cy s ui (us cu) pp)(hcu:off+(vl.length+1)≤cu.length)(hsu:Bl cu)(hsv:Bl vl){vv:AV}(hv:Cv s vv vl)(hvl:vl.length≤10000000000){K:AV→AD→Prop}
  (hK:∀s',s.next≤s'.next→(∀j,j<s.next→j≠ui→some j≠pp→s'.heap.get j=s.heap.get j)→Cy s' ui (us (FT cu off (B6 q ((cu.drop off).zip (vl++[0])) 0 0).1)) pp →
   K (.bool (decide (0<(B6 q ((cu.drop off).zip (vl++[0])) 0 0).2.2))) s'):WF E 97 [.slice (some (ui,off)) (vl.length+1) capu,vv,Ag q] K s:=by
 refine hE.go jN (by decide) rfl ?_
 simp only[ng,gC,gD,gE,Qa,Qb,Qc,Qd,Qe,Qf,Qg,Qh,Qi,Qj,Qk,Ql,Qm,Qn,true_and,and_true,Qo,Qp,Qq,Qr,Qs,Qt,Qu,Qv,Qw,Qx,Qy,Qz,Ra,Rb,Rc,Rd,Re,Rf,Rg,Rh,Ri,Rj,Rk,Rm,Rn,Ro,Rp,Rq,Rs,Ya,Yb,Yc,Rt,Ru,Za,Yd,Ye,Rx,Ry,Rz,Wa,Wb,Wc,Wd]
 refine KQ hE hv (by omega) fun s1 v1 o1 r1=>?_
 obtain⟨O,hD,hO,hsl,_⟩:=r1
 obtain⟨v2,s2,O2,happ,hD2,hn2,hf2,hO2,hsl2⟩:=IE hD 0 (by omega)
 have hn12:s.next≤s2.next:=by have:=o1.1;omega
 have hkeep:∀j,j<s.next→s2.heap.get j=s.heap.get j:=fun j hj=>by rw[hf2 j (by have:=o1.1;omega) (fun h=>by have:=hO j h;omega)];exact o1.2 j hj
 obtain⟨a9,c9,rfl,hc9⟩:=hD2.cells
 have hids:∀i o,a9=some (i,o)→i≠ui∧some i≠pp:=fun i o e=>by
  subst e
  have hge:s.next≤i:=by
   rcases hsl2 i rfl with h | h
   ·exact hsl i h
   ·have:=o1.1;omega
  exact⟨by omega,fun e=>by have:=hpp i e.symm;omega⟩
 have hw:(vl++[0]).length=vl.length+1:=by rw[oI];rfl
 have happ':Av Tryz.prog (newObj s1 (R 76 1 false [.int .u32 0])) [22,22] [v1,.slice (some (s1.next,0)) 1 (some 1)]=some (.slice a9 (vl++[0]).length c9,s2):=happ
 simp only[Fj,Xd,happ',AU Tryz.underlying22,Qa,Qb,Qc,Qd,Qe,Qf,Qg,Qh,Qi,Qj,Qk,Ql,Qm,Qn,true_and,and_true,Qo,Qp,Qq,Qr,Qs,Qt,Qu,Qv,Qw,Qx,Qy,Qz,Ra,Rb,Rc,Rd,Re,Rf,Rg,Rh,Ri,Rj,Rk,Rm,Rn,Ro,Rp,Rq,Rs,Ya,Yb,Yc,Rt,Ru,Za,Yd,Ye,Rx,Ry,Rz,Wa,Wb,Wc,Wd]
 have hsw:Bl (vl++[0]):=hsv.append (fun x hx=>by rw[List.mem_singleton.1 hx];exact BF)
 rw[← hw]
 refine T9 (s1:=s2) hq32 (w:=vl++[0]) (by rw[hw];exact hcu) hsu hsw hc9 hids (by rw[hw];omega) (D:=(B6 q ((cu.drop off).zip (vl++[0])) 0 0).1) (cf:=(B6 q ((cu.drop off).zip (vl++[0])) 0 0).2.1) (bf:=(B6 q ((cu.drop off).zip (vl++[0])) 0 0).2.2) _ _
  (fun s' c br d y6 y7 y8 y11 y12 ho hd hbr hg'=>?_) (vl++[0]) s2 0 0 [] _ _ _ _ rfl (oB _) (ED.refl _ _ _) (by decide) (by decide) rfl (by rw[NM];exact hg.keep (hkeep ui hui))
 subst hd;subst hbr
 have e1:AT Tryz.prog .gtr 69 (Ag (B6 q ((cu.drop off).zip (vl++[0])) 0 0).2.2) (.int .u64 0)=some (.bool (decide (0<(B6 q ((cu.drop off).zip (vl++[0])) 0 0).2.2))):=Mc Tryz.prog 69 (b:=0) .u64
 simp only[XJ,e1,if_true,Qa,Qb,Qc,Qd,Qe,Qf,Qg,Qh,Qi,Qj,Qk,Ql,Qm,Qn,true_and,and_true,Qo,Qp,Qq,Qr,Qs,Qt,Qu,Qv,Qw,Qx,Qy,Qz,Ra,Rb,Rc,Rd,Re,Rf,Rg,Rh,Ri,Rj,Rk,Rm,Rn,Ro,Rp,Rq,Rs,Ya,Yb,Yc,Rt,Ru,Za,Yd,Ye,Rx,Ry,Rz,Wa,Wb,Wc,Wd]
 exact hK s' (by have:=ho.next;omega) (fun j hj hne hnp=>(ho.get j hne hnp).trans (hkeep j hj)) hg'
theorem TP{s1:AD}{ui off:Nat}{capu:Option Nat}{pp:Option Nat}{cu w:List Nat}(hcu:off+w.length≤cu.length)(hsu:Bl cu)(hsw:Bl w){a9:Option (Nat×Nat)}{c9:Option Nat}{b:Nat}(hc9:AZ b s1 a9 (us w))(h9:∀i o,a9=some (i,o)→i≠ui∧some i≠pp)
  (hwl:w.length≤100000000000) {D:List Nat} {Q:A5→Prop} (x1:AV)
  (hq:∀ (s':AD) (d:List Nat) (y2 y3 y4 y7 y8:AV),ED s1 s' ui pp→d=D→Cy s' ui (us (FT cu off d)) pp →
   Q ⟨.exit 0,[.slice (some (ui,off)) w.length capu,x1,y2,y3,y4,.slice a9 w.length c9,iv (w.length:Int),y7,y8],[],s'⟩):
  ∀ (r:List Nat) (s':AD) (c:Nat) (d:List Nat) (x3 x4 x8:AV),w.drop d.length=r→d.length≤w.length→ED s1 s' ui pp→c≤1 →
   d++(D1 ((cu.drop (off+d.length)).zip r) c).1=D→Cy s' ui (us (FT cu off d)) pp →
   WC E none (.loop ON) Q [.slice (some (ui,off)) w.length capu,x1,Ag c,x3,x4,.slice a9 w.length c9,iv (w.length:Int),iv (d.length:Int),x8] [] s':=by
 intro r
 induction r with
 | nil =>
  intro s' c d x3 x4 x8 hd hk ho hc hT hg
  have hkl:d.length=w.length:=by
   have:=congrArg List.length hd
   simp at this
   omega
  rw[List.zip_nil_right]at hT
  simp only[D1,pz]at hT
  have dd:decide ((d.length:Int)<(w.length:Int))=false:=decide_eq_false (by omega)
  refine WC.loop' ?_
  simp only[ON,XL,Rx,dd,Qa,Qb,Qc,Qd,Qe,Qf,Qg,Qh,Qi,Qj,Qk,Ql,Qm,Qn,true_and,and_true,Qo,Qp,Qq,Qr,Qs,Qt,Qu,Qv,Qw,Qx,Qy,Qz,Ra,Rb,Rc,Rd,Re,Rf,Rg,Rh,Ri,Rj,Rk,Rm,Rn,Ro,Rp,Rq,Rs,Ya,Yb,Yc,Rt,Ru,Za,Yd,Ye,Rx,Ry,Rz,Wa,Wb,Wc,Wd]
  exact hq s' d _ _ _ _ _ ho hT hg
 | cons y r ih =>
  intro s' c d x3 x4 x8 hd hk ho hc hT hg
  have hlt:d.length<w.length:=by
   rcases nm d.length w.length with h' | h'
   ·exact h'
   ·rw[oo h']at hd;cases hd
  have hy:w[d.length]? = some y:=by
   have:=congrArg (fun l=>l[0]?) hd
   simpa using this
  have hd':w.drop (d.length+1)=r:=by
   have:=congrArg (List.drop 1) hd
   simpa[pF]using this
  have hys:y<4294967296:=hsw y (oP hy)
  have hlu:off+d.length<cu.length:=by omega
  have hu:cu[off+d.length]? = some cu[off+d.length]:=nr hlu
  have hdu:cu.drop (off+d.length)=cu[off+d.length]::cu.drop (off+(d.length+1)):=ol hlu
  generalize cu[off+d.length]=u at hu hdu
  have hus:u<4294967296:=hsu u (oP hu)
  rw[hdu,qA]at hT
  simp only[D1]at hT
  obtain⟨i,o,rfl,hi,hload⟩:=hc9 d.length _ (Da hy)
  have hne:=h9 i o rfl
  have hkk:decide ((d.length:Int)<(w.length:Int))=true:=decide_eq_true (by omega)
  have e1:=An (cap:=c9) (i:=i) (o:=o) Tryz.underlying22 Ct hlt
  have e2:AC Tryz.prog s' 76 (.ptr (some (i,o+d.length * 1)))=some (Bf y):=CM Hm (by rw[oD,D7 (ho.get i hne.1 hne.2)];exact hload)
  have e5:=An (cap:=capu) (i:=ui) (o:=off) Tryz.underlying22 Ct hlt
  have hcell:(us (FT cu off d))[off+d.length * 1]? = some (Bf u):=by rw[oD];exact Da ((NL hlu).trans hu)
  have e6:=Km (P:=Tryz.prog) (t:=76) Hm hg hcell
  have e3:=HD Tryz.prog 69 (a:=u) (b:=y) (by omega)
  have e4:=HD Tryz.prog 69 (a:=c) (b:=u+y) (by omega)
  have hLB:LB=4294967296:=rfl
  rw[hLB,show u+y+c=c+(u+y) by omega]at hT
  generalize hc1:c+(u+y)=c1 at hT e4
  have hc1b:c1<18446744073709551616:=by omega
  have e7:=JV Tryz.prog 69 hc1b
  have e11:c1 % 4294967296 % 4294967296=c1 % 4294967296:=qB _ _
  have e15:AT Tryz.prog .shr 69 (Ag c1) (.int .u64 32)=some (Ag (c1 / 4294967296)):=IU Tryz.prog 69 (k:=.u64) (n:=32) (by decide)
  generalize hx:c1 % 4294967296=x at hT e7 e11
  have hlm:off+d.length * 1<(us (FT cu off d)).length:=by rw[Cl,Gl (by omega)];omega
  obtain⟨s2,e16,w1,w2,w3⟩:=FR (P:=Tryz.prog) (t:=76) (v:=Bf x) Ct hg hlm rfl
  rw[oD]at e16
  rw[oD,I5,Ju hlu]at w1
  rw[oD]at e5 e6
  have e17:=Bh Tryz.prog 3 (d.length:Int) 1 ⟨by omega,by omega⟩
  have e17':((d.length:Int)+1)=((d.length+1:Nat):Int):=by omega
  refine WC.loop' ?_
  generalize hW:WC E none (Af.loop ON) Q=WW
  simp only[ON,XL,gN,gO,gR,gT,gU,Rx,hkk,e1,e2,e5,e6,Bi hus,Bi hys,e3,e4,e7,Bx,e11,e16,e15,e17,e17',Xx,Xz,Qa,Qb,Qc,Qd,Qe,Qf,Qg,Qh,Qi,Qj,Qk,Ql,Qm,Qn,true_and,and_true,Qo,Qp,Qq,Qr,Qs,Qt,Qu,Qv,Qw,Qx,Qy,Qz,Ra,Rb,Rc,Rd,Re,Rf,Rg,Rh,Ri,Rj,Rk,Rm,Rn,Ro,Rp,Rq,Rs,Ya,Yb,Yc,Rt,Ru,Za,Yd,Ye,Rx,Ry,Rz,Wa,Wb,Wc,Wd]
  rw[← hW]
  have hlen1:(d++[x]).length=d.length+1:=by rw[oI];rfl
  have key:=ih s2 (c1 / 4294967296) (d++[x])
  rw[hlen1]at key
  exact key _ _ _ hd' hlt (ho.step w2 w3) (by omega) (by rw[oX];exact hT) w1
theorem ZS(hE:GoodN E){ui off:Nat}{capu:Option Nat}{pp:Option Nat}{cu vl:List Nat}(hui:ui<s.next)(hpp:∀q,pp=some q→q<s.next)(hg:Cy s ui (us cu) pp)(hcu:off+(vl.length+1)≤cu.length)(hsu:Bl cu)(hsv:Bl vl){vv:AV}(hv:Cv s vv vl)(hvl:vl.length≤10000000000){K:AV→AD→Prop}
  (hK:∀s' r,s.next≤s'.next→(∀j,j<s.next→j≠ui→some j≠pp→s'.heap.get j=s.heap.get j)→Cy s' ui (us (FT cu off (D1 ((cu.drop off).zip (vl++[0])) 0).1)) pp→K r s'):WF E 98 [.slice (some (ui,off)) (vl.length+1) capu,vv] K s:=by
 refine hE.go jO (by decide) rfl ?_
 simp only[nh,gL,gM,Qa,Qb,Qc,Qd,Qe,Qf,Qg,Qh,Qi,Qj,Qk,Ql,Qm,Qn,true_and,and_true,Qo,Qp,Qq,Qr,Qs,Qt,Qu,Qv,Qw,Qx,Qy,Qz,Ra,Rb,Rc,Rd,Re,Rf,Rg,Rh,Ri,Rj,Rk,Rm,Rn,Ro,Rp,Rq,Rs,Ya,Yb,Yc,Rt,Ru,Za,Yd,Ye,Rx,Ry,Rz,Wa,Wb,Wc,Wd]
 refine KQ hE hv (by omega) fun s1 v1 o1 r1=>?_
 obtain⟨O,hD,hO,hsl,_⟩:=r1
 obtain⟨v2,s2,O2,happ,hD2,hn2,hf2,hO2,hsl2⟩:=IE hD 0 (by omega)
 have hn12:s.next≤s2.next:=by have:=o1.1;omega
 have hkeep:∀j,j<s.next→s2.heap.get j=s.heap.get j:=fun j hj=>by rw[hf2 j (by have:=o1.1;omega) (fun h=>by have:=hO j h;omega)];exact o1.2 j hj
 obtain⟨a9,c9,rfl,hc9⟩:=hD2.cells
 have hids:∀i o,a9=some (i,o)→i≠ui∧some i≠pp:=fun i o e=>by
  subst e
  have hge:s.next≤i:=by
   rcases hsl2 i rfl with h | h
   ·exact hsl i h
   ·have:=o1.1;omega
  exact⟨by omega,fun e=>by have:=hpp i e.symm;omega⟩
 have hw:(vl++[0]).length=vl.length+1:=by rw[oI];rfl
 have happ':Av Tryz.prog (newObj s1 (R 76 1 false [.int .u32 0])) [22,22] [v1,.slice (some (s1.next,0)) 1 (some 1)]=some (.slice a9 (vl++[0]).length c9,s2):=happ
 simp only[Fj,Xd,happ',AU Tryz.underlying22,Qa,Qb,Qc,Qd,Qe,Qf,Qg,Qh,Qi,Qj,Qk,Ql,Qm,Qn,true_and,and_true,Qo,Qp,Qq,Qr,Qs,Qt,Qu,Qv,Qw,Qx,Qy,Qz,Ra,Rb,Rc,Rd,Re,Rf,Rg,Rh,Ri,Rj,Rk,Rm,Rn,Ro,Rp,Rq,Rs,Ya,Yb,Yc,Rt,Ru,Za,Yd,Ye,Rx,Ry,Rz,Wa,Wb,Wc,Wd]
 have hsw:Bl (vl++[0]):=hsv.append (fun x hx=>by rw[List.mem_singleton.1 hx];exact BF)
 rw[← hw]
 refine TP (s1:=s2) (w:=vl++[0]) (by rw[hw];exact hcu) hsu hsw hc9 hids (by rw[hw];omega) (D:=(D1 ((cu.drop off).zip (vl++[0])) 0).1) _
  (fun s' d y2 y3 y4 y7 y8 ho hd hg'=>?_) (vl++[0]) s2 0 [] _ _ _ rfl (oB _) (ED.refl _ _ _) (by decide) rfl (by rw[NM];exact hg.keep (hkeep ui hui))
 subst hd
 simp only[if_true,Qa,Qb,Qc,Qd,Qe,Qf,Qg,Qh,Qi,Qj,Qk,Ql,Qm,Qn,true_and,and_true,Qo,Qp,Qq,Qr,Qs,Qt,Qu,Qv,Qw,Qx,Qy,Qz,Ra,Rb,Rc,Rd,Re,Rf,Rg,Rh,Ri,Rj,Rk,Rm,Rn,Ro,Rp,Rq,Rs,Ya,Yb,Yc,Rt,Ru,Za,Yd,Ye,Rx,Ry,Rz,Wa,Wb,Wc,Wd]
 exact hK s' _ (by have:=ho.next;omega) (fun j hj hne hnp=>(ho.get j hne hnp).trans (hkeep j hj)) hg'
end
section
variable{E:CP}{s:AD}
theorem Dw{a:Option (Nat×Nat)}{l:List Nat}{b:Nat}(hc:AZ b s a (us l)){n k x:Nat}{cap:Option Nat}(hk:k<n)(hx:l[k]? = some x):
  ∃p,AM Tryz.prog 22 (.slice a n cap) (iv (k:Int))=some p∧AC Tryz.prog s 76 p=some (Bf x):=by
 obtain⟨i,o,rfl,_,hload⟩:=hc k _ (Da hx)
 exact⟨_,An Tryz.underlying22 Ct hk,CM Hm (by rw[oD];exact hload)⟩
theorem QU         {plo vlo : List Nat} {u2 u1 u0 v2 v1 : Nat} {ap av : Option (Nat × Nat)} {cp cv : Option Nat} (hp : AZ      s.next s ap (us (plo ++ [u2, u1, u0]))) (hv : AZ      s.next s av (us (vlo ++ [v2, v1]))) (hlen : plo.length = vlo.length) (hml : vlo.length ≤ 10000000000) {Q : A5   → Prop} (x2 x4 : AV)
    (hq:∀ (g:Nat) (y6 y7 y8:AV),g<4294967296→AG (plo++[u2,u1,u0]) / AG (vlo++[v2,v1])≤g→g≤AG (plo++[u2,u1,u0]) / AG (vlo++[v2,v1])+1 →
      Q ⟨.exit 0,[.slice ap (vlo.length+3) cp,.slice av (vlo.length+2) cv,x2,iv ((vlo.length+2:Nat):Int),x4,Ag g,y6,y7,y8],[],s⟩):
    ∀ (g left:Nat) (x7 x8:AV),F0 plo vlo u2 u1 u0 v2 v1 g left→left<4294967296→g≤4294967297 →
      WC E none (.loop KJ) Q [.slice ap (vlo.length+3) cp,.slice av (vlo.length+2) cv,x2,iv ((vlo.length+2:Nat):Int),x4,Ag g,Ag left,x7,x8] [] s:=by
  have hLB:LB=4294967296:=rfl
  intro g
  induction g with
  | zero =>
    intro left x7 x8 hI hl hg
    have hc2:=hI.c2
    have hc1:=hI.c1
    have hb2:=hI.b2
    rw[hLB]at hc2 hc1 hb2
    have s1:=CK Tryz.prog 3 ((vlo.length+2:Nat):Int) 1 ⟨by omega,by omega⟩
    have s1':((vlo.length+2:Nat):Int) - 1=((vlo.length+1:Nat):Int):=by omega
    have s2:=CK Tryz.prog 3 ((vlo.length+2:Nat):Int) 2 ⟨by omega,by omega⟩
    have s2':((vlo.length+2:Nat):Int) - 2=((vlo.length:Nat):Int):=by omega
    obtain⟨p1,i1,l1⟩:=Dw (cap:=cv) (n:=vlo.length+2) hv (show vlo.length<vlo.length+2 by omega) (x:=v2) (by simp)
    obtain⟨p2,i2,l2⟩:=Dw (cap:=cp) (n:=vlo.length+3) hp (k:=vlo.length) (by omega) (x:=u2) (by rw[← hlen];simp)
    have d0:AT Tryz.prog .gtr 69 (Ag 0) (.int .u64 4294967295)=some (.bool false):=by kernel_rfl
    have m1:=Pf Tryz.prog 69 (a:=0) (b:=v2) (by omega)
    have m2:AT Tryz.prog .shl 69 (Ag left) (.int .u64 32)=some (Ag (left * 4294967296)):=Md Tryz.prog 69 (k:=.u64) (n:=32) (by decide) (by show left * 4294967296<_;omega)
    have m3:=ao Tryz.prog 69 (a:=left) (b:=u2) (by omega) hb2
    have m4:=Mc Tryz.prog 69 (a:=0 * v2) (b:=left * 4294967296+u2) .u64
    have m5:decide (left * 4294967296+u2<0 * v2)=false:=decide_eq_false (by omega)
    refine WC.loop' ?_
    simp only[KJ,Lw,d0,s2,s2',i1,l1,Bi hc2,m1,m2,i2,l2,Bi hb2,m3,m4,m5,Qa,Qb,Qc,Qd,Qe,Qf,Qg,Qh,Qi,Qj,Qk,Ql,Qm,Qn,true_and,and_true,Qo,Qp,Qq,Qr,Qs,Qt,Qu,Qv,Qw,Qx,Qy,Qz,Ra,Rb,Rc,Rd,Re,Rf,Rg,Rh,Ri,Rj,Rk,Rm,Rn,Ro,Rp,Rq,Rs,Ya,Yb,Yc,Rt,Ru,Za,Yd,Ye,Rx,Ry,Rz,Wa,Wb,Wc,Wd]
    exact hq 0 _ _ _ (by decide) hI.low (hI.done (by decide) (by omega))
  | succ g ih =>
    intro left x7 x8 hI hl hg
    have hc2:=hI.c2
    have hc1:=hI.c1
    have hb2:=hI.b2
    have hb1:=hI.b1
    have htop:=hI.top
    have hsum:=hI.sum
    rw[hLB]at hc2 hc1 hb2 hb1 hsum
    have s1:=CK Tryz.prog 3 ((vlo.length+2:Nat):Int) 1 ⟨by omega,by omega⟩
    have s1':((vlo.length+2:Nat):Int) - 1=((vlo.length+1:Nat):Int):=by omega
    have s2:=CK Tryz.prog 3 ((vlo.length+2:Nat):Int) 2 ⟨by omega,by omega⟩
    have s2':((vlo.length+2:Nat):Int) - 2=((vlo.length:Nat):Int):=by omega
    obtain⟨p1,i1,l1⟩:=Dw (cap:=cv) (n:=vlo.length+2) hv (show vlo.length<vlo.length+2 by omega) (x:=v2) (by simp)
    obtain⟨p2,i2,l2⟩:=Dw (cap:=cp) (n:=vlo.length+3) hp (k:=vlo.length) (by omega) (x:=u2) (by rw[← hlen];simp)
    obtain⟨p3,i3,l3⟩:=Dw (cap:=cv) (n:=vlo.length+2) hv (show vlo.length+1<vlo.length+2 by omega) (x:=v1) (by simp)
    have m6:AT Tryz.prog .sub 69 (Ag (g+1)) (.int .u64 1)=some (Ag g):=by
      have:=Me Tryz.prog 69 (a:=g+1) (b:=1) (by decide)
      rw[show(g+1+18446744073709551616 - 1) % 18446744073709551616=g by omega]at this
      exact this
    have m7:=HD Tryz.prog 69 (a:=left) (b:=v1) (by omega)
    have m8:AT Tryz.prog .gtr 69 (Ag (left+v1)) (.int .u64 4294967295)=some (.bool (decide (4294967295<left+v1))):=Mc Tryz.prog 69 (b:=4294967295) .u64
    have down:(4294967296≤g+1∨left * 4294967296+u2<(g+1) * v2)→Qa E none (.block 1 (.seq (.ops OK) (.seq (.ops OL) (.seq (.ops OM) (.cond (.var 8) (.exit 0) .skip))))) (Ja (WC E none (.loop KJ) Q) Q) [.slice ap (vlo.length+3) cp,.slice av (vlo.length+2) cv,x2,iv ((vlo.length+2:Nat):Int),x4,Ag (g+1),Ag left,.bool true,x8] [] s:=by
      intro hc
      obtain⟨_,hI'⟩:=hI.dec (by rw[hLB];exact hc)
      rw[qI]at hI'
      generalize hW:WC E none (Af.loop KJ) Q=WW
      by_cases hbk:4294967295<left+v1
      · have db : decide (4294967295 < left + v1) = true := decide_eq_true hbk
        have hgB:g<4294967296:=by
          rcases nm g 4294967296 with h | h
          · exact h
          · exfalso
            have h1:4294967297 * v1≤(g+1) * v1:=oC v1 (by omega)
            have h2:u0 * 4294967296≤v1 * 4294967296:=oC _ htop
            omega
        have hle:g * v2≤4294967295 * 4294967295:=oq (by omega) (by omega)
        have hdone:=hI'.done (by rw[hLB];exact hgB) (by rw[hLB];omega)
        simp only[OK,OL,OM,m6,s1,s1',i3,l3,Bi hc1,m7,m8,db,Qa,Qb,Qc,Qd,Qe,Qf,Qg,Qh,Qi,Qj,Qk,Ql,Qm,Qn,true_and,and_true,Qo,Qp,Qq,Qr,Qs,Qt,Qu,Qv,Qw,Qx,Qy,Qz,Ra,Rb,Rc,Rd,Re,Rf,Rg,Rh,Ri,Rj,Rk,Rm,Rn,Ro,Rp,Rq,Rs,Ya,Yb,Yc,Rt,Ru,Za,Yd,Ye,Rx,Ry,Rz,Wa,Wb,Wc,Wd]
        exact hq g _ _ _ hgB hI'.low hdone
      · have db:decide (4294967295<left+v1)=false:=decide_eq_false hbk
        simp only[OK,OL,OM,m6,s1,s1',i3,l3,Bi hc1,m7,m8,db,Qa,Qb,Qc,Qd,Qe,Qf,Qg,Qh,Qi,Qj,Qk,Ql,Qm,Qn,true_and,and_true,Qo,Qp,Qq,Qr,Qs,Qt,Qu,Qv,Qw,Qx,Qy,Qz,Ra,Rb,Rc,Rd,Re,Rf,Rg,Rh,Ri,Rj,Rk,Rm,Rn,Ro,Rp,Rq,Rs,Ya,Yb,Yc,Rt,Ru,Za,Yd,Ye,Rx,Ry,Rz,Wa,Wb,Wc,Wd]
        rw[← hW]
        exact ih (left+v1) _ _ hI' (by omega) (by omega)
    have d0:AT Tryz.prog .gtr 69 (Ag (g+1)) (.int .u64 4294967295)=some (.bool (decide (4294967295<g+1))):=Mc Tryz.prog 69 (b:=4294967295) .u64
    refine WC.loop' ?_
    generalize hW:WC E none (Af.loop KJ) Q=WW
    rw[hW]at down
    generalize hB:Af.block 1 (.seq (.ops OK) (.seq (.ops OL) (.seq (.ops OM) (.cond (.var 8) (.exit 0) .skip))))=BB at down
    have hl8:KJ=.seq (.seq (.ops Lw) (.cond (.var 7) .skip (.exit 0))) BB:=by rw[← hB];rfl
    by_cases hgB:4294967295<g+1
    · have db:decide (4294967295<g+1)=true:=decide_eq_true hgB
      rw[hl8]
      generalize hBW:Qa E none BB (Ja WW Q)=BW at down
      simp only[Lw,d0,db,hBW,Qa,Qb,Qc,Qd,Qe,Qf,Qg,Qh,Qi,Qj,Qk,Ql,Qm,Qn,true_and,and_true,Qo,Qp,Qq,Qr,Qs,Qt,Qu,Qv,Qw,Qx,Qy,Qz,Ra,Rb,Rc,Rd,Re,Rf,Rg,Rh,Ri,Rj,Rk,Rm,Rn,Ro,Rp,Rq,Rs,Ya,Yb,Yc,Rt,Ru,Za,Yd,Ye,Rx,Ry,Rz,Wa,Wb,Wc,Wd]
      exact down (.inl (by omega))
    · have db : decide (4294967295 < g + 1) = false := decide_eq_false hgB
      have hgv:(g+1) * v2≤4294967295 * 4294967295:=oq (by omega) (by omega)
      have m1:=Pf Tryz.prog 69 (a:=g+1) (b:=v2) (by omega)
      have m2:AT Tryz.prog .shl 69 (Ag left) (.int .u64 32)=some (Ag (left * 4294967296)):=Md Tryz.prog 69 (k:=.u64) (n:=32) (by decide) (by show left * 4294967296<_;omega)
      have m3:=ao Tryz.prog 69 (a:=left) (b:=u2) (by omega) hb2
      have m4:=Mc Tryz.prog 69 (a:=(g+1) * v2) (b:=left * 4294967296+u2) .u64
      by_cases hc:left * 4294967296+u2<(g+1) * v2
      · have m5:decide (left * 4294967296+u2<(g+1) * v2)=true:=decide_eq_true hc
        rw[hl8]
        generalize hBW:Qa E none BB (Ja WW Q)=BW at down
        simp only[Lw,d0,db,s2,s2',i1,l1,Bi hc2,m1,m2,i2,l2,Bi hb2,m3,m4,m5,hBW,Qa,Qb,Qc,Qd,Qe,Qf,Qg,Qh,Qi,Qj,Qk,Ql,Qm,Qn,true_and,and_true,Qo,Qp,Qq,Qr,Qs,Qt,Qu,Qv,Qw,Qx,Qy,Qz,Ra,Rb,Rc,Rd,Re,Rf,Rg,Rh,Ri,Rj,Rk,Rm,Rn,Ro,Rp,Rq,Rs,Ya,Yb,Yc,Rt,Ru,Za,Yd,Ye,Rx,Ry,Rz,Wa,Wb,Wc,Wd]
        exact down (.inr hc)
      · have m5:decide (left * 4294967296+u2<(g+1) * v2)=false:=decide_eq_false hc
        rw[hl8]
        generalize hBW:Qa E none BB (Ja WW Q)=BW at down
        simp only[Lw,d0,db,s2,s2',i1,l1,Bi hc2,m1,m2,i2,l2,Bi hb2,m3,m4,m5,hBW,Qa,Qb,Qc,Qd,Qe,Qf,Qg,Qh,Qi,Qj,Qk,Ql,Qm,Qn,true_and,and_true,Qo,Qp,Qq,Qr,Qs,Qt,Qu,Qv,Qw,Qx,Qy,Qz,Ra,Rb,Rc,Rd,Re,Rf,Rg,Rh,Ri,Rj,Rk,Rm,Rn,Ro,Rp,Rq,Rs,Ya,Yb,Yc,Rt,Ru,Za,Yd,Ye,Rx,Ry,Rz,Wa,Wb,Wc,Wd]
        exact hq (g+1) _ _ _ (by omega) hI.low (hI.done (by rw[hLB];omega) (by rw[hLB];omega))
theorem Xw(hE:GoodN E){plo vlo:List Nat}{u2 u1 u0 v2 v1:Nat}{vp vv:AV}(hp:Cv s vp (plo++[u2,u1,u0]))(hv:Cv s vv (vlo++[v2,v1]))(hI:F0 plo vlo u2 u1 u0 v2 v1 ((u0 * LB+u1) / v1) ((u0 * LB+u1) % v1))(hml:vlo.length≤10000000000)(hu0:u0<4294967296){K:AV→AD→Prop}
  (hK:∀g,g<4294967296→AG (plo++[u2,u1,u0]) / AG (vlo++[v2,v1])≤g→g≤AG (plo++[u2,u1,u0]) / AG (vlo++[v2,v1])+1→K (Ag g) s):WF E 96 [vp,vv] K s:=by
 have hLB:LB=4294967296:=rfl
 have hlen:=hI.len
 obtain⟨ap,cp,rfl,_,hcp⟩:=hp
 obtain⟨av,cv,rfl,_,hcv⟩:=hv
 have hc1:=hI.c1
 have hb1:=hI.b1
 have hbig:=hI.big
 have htop:=hI.top
 rw[hLB]at hc1 hb1 hbig
 have hlp:(plo++[u2,u1,u0]).length=vlo.length+3:=by simp[hlen]
 have hlv:(vlo++[v2,v1]).length=vlo.length+2:=by simp
 rw[hlp,hlv]
 have s1:=CK Tryz.prog 3 ((vlo.length+2:Nat):Int) 1 ⟨by omega,by omega⟩
 have s1':((vlo.length+2:Nat):Int) - 1=((vlo.length+1:Nat):Int):=by omega
 obtain⟨p1,i1,l1⟩:=Dw (cap:=cp) (n:=vlo.length+3) hcp (k:=vlo.length+2) (by omega) (x:=u0) (by rw[← hlen];simp)
 obtain⟨p2,i2,l2⟩:=Dw (cap:=cp) (n:=vlo.length+3) hcp (k:=vlo.length+1) (by omega) (x:=u1) (by rw[← hlen];simp)
 obtain⟨p3,i3,l3⟩:=Dw (cap:=cv) (n:=vlo.length+2) hcv (show vlo.length+1<vlo.length+2 by omega) (x:=v1) (by simp)
 have m2:AT Tryz.prog .shl 69 (Ag u0) (.int .u64 32)=some (Ag (u0 * 4294967296)):=Md Tryz.prog 69 (k:=.u64) (n:=32) (by decide) (by show u0 * 4294967296<_;omega)
 have m3:=ao Tryz.prog 69 (a:=u0) (b:=u1) (by omega) hb1
 have m4:=gy Tryz.prog 69 (a:=u0 * 4294967296+u1) (b:=v1) (by omega) (by omega)
 have m5:=g0 Tryz.prog 69 (a:=u0 * 4294967296+u1) (b:=v1) (by omega)
 rw[hLB]at hI
 have hsum:=hI.sum
 rw[hLB]at hsum
 have hl:(u0 * 4294967296+u1) % v1<v1:=oT _ (by omega)
 have hgle:(u0 * 4294967296+u1) / v1≤4294967297:=by
  rw[← Nat.lt_succ_iff,oz (by omega)]
  have:u0 * 4294967296≤v1 * 4294967296:=oC _ htop
  show _<4294967298 * v1
  omega
 refine hE.go jM (by decide) rfl ?_
 simp only[nf,fu,fv,fw,fy,AU Tryz.underlying22,s1,s1',i1,l1,i2,l2,i3,l3,Bi hu0,Bi hb1,Bi hc1,m2,m3,m4,m5,Qa,Qb,Qc,Qd,Qe,Qf,Qg,Qh,Qi,Qj,Qk,Ql,Qm,Qn,true_and,and_true,Qo,Qp,Qq,Qr,Qs,Qt,Qu,Qv,Qw,Qx,Qy,Qz,Ra,Rb,Rc,Rd,Re,Rf,Rg,Rh,Ri,Rj,Rk,Rm,Rn,Ro,Rp,Rq,Rs,Ya,Yb,Yc,Rt,Ru,Za,Yd,Ye,Rx,Ry,Rz,Wa,Wb,Wc,Wd]
 refine QU hcp hcv hlen hml _ _ (fun g y6 y7 y8 g1 g2 g3=>?_) _ _ _ _ hI (by omega) hgle
 simp only[fz,if_true,Qa,Qb,Qc,Qd,Qe,Qf,Qg,Qh,Qi,Qj,Qk,Ql,Qm,Qn,true_and,and_true,Qo,Qp,Qq,Qr,Qs,Qt,Qu,Qv,Qw,Qx,Qy,Qz,Ra,Rb,Rc,Rd,Re,Rf,Rg,Rh,Ri,Rj,Rk,Rm,Rn,Ro,Rp,Rq,Rs,Ya,Yb,Yc,Rt,Ru,Za,Yd,Ye,Rx,Ry,Rz,Wa,Wb,Wc,Wd]
 exact hK g g1 g2 g3
end
theorem Cv.keep{s s':AD}{v:AV}{l:List Nat}(h:Cv s v l)(hn:s.next≤s'.next)(hf:∀j,Cd v=some j→j<s.next→s'.heap.get j=s.heap.get j):Cv s' v l:=by
  obtain⟨a,cap,rfl,h2,h3⟩:=h
  refine⟨a,cap,rfl,?_,fun k u hu=>?_⟩
  · rcases h2 with h2 | ⟨g1, i, o, r, rfl, g3, g4, g5⟩
    · exact .inl h2
    · exact .inr ⟨g1,i,o,r,rfl,by omega,by rw[hf i rfl g3];exact g4,g5⟩
  · obtain⟨i,o,rfl,g2,g3⟩:=h3 k u hu
    exact⟨i,o,rfl,by omega,by rw[D7 (hf i rfl g2)];exact g3⟩
theorem Z5{s:AD}{i lo hi n:Nat}{cs:List AV}{p:Option Nat}(h:Cy s i cs p)(hi':i<s.next)(h1:lo≤hi)(h2:hi≤cs.length):
  A4 Tryz.prog 22 true true false s [.slice (some (i,0)) n none,iv (lo:Int),iv (hi:Int)]=some (.slice (some (i,lo)) (hi - lo) none):=by
 obtain⟨r,g1,g2,_,g4,_⟩:=h
 have hrow:rowAt s i=some r:=by unfold rowAt;rw[g1]
 have hrn:r.n=cs.length:=g2.1
 show Bg Tryz.prog s 22 (.slice (some (i,0)) n none) (some (iv (lo:Int))) (some (iv (hi:Int))) none=_
 have hb1:BV (iv (hi:Int)) ((r.n - 0) / 1)=some hi:=by simp[BV,Fw,AJ,CZ (show hi≤r.n by omega),Do]
 have hb2:BV (iv (lo:Int)) hi=some lo:=by simp[BV,Fw,AJ,CZ h1,Do]
 have hsz:Nat.beq 1 r.sz=true:=FX g4.symm
 simp only[Bg,Tryz.underlying22,Ct,hrow,hsz,AJ,hb1,hb2,CZ (oB r.n),show Nat.beq 1 0=false from rfl,Option.bind_some,Bool.true_and,Bool.and_true,Bool.not_false,cond_true]
 simp
theorem PF{s:AD}{i lo m:Nat}{cu:List Nat}{p:Option Nat}(h:Cy s i (us cu) p)(hi':i<s.next)(h2:lo+m≤cu.length):Cv s (.slice (some (i,lo)) m none) ((cu.drop lo).take m):=by
 have hc:=Ie h hi'
 obtain⟨r,g1,g2,_,g4,_⟩:=h
 have hrn:r.n=cu.length:=by rw[g2.1,Cl]
 have hl:((cu.drop lo).take m).length=m:=by rw[oO,oh];omega
 refine⟨some (i,lo),none,by rw[hl],.inr ⟨rfl,i,lo,r,rfl,hi',g1,g4,by rw[hl];omega⟩,fun k u hu=>?_⟩
 have hk:k<m:=by
  rcases nm k m with h' | h'
  ·exact h'
  ·rw[oF (by rw[Cl,hl];exact h')]at hu;cases hu
 have hu':(us cu)[lo+k]? = some u:=by
  rw[TA,pV hk]at hu
  unfold us at hu ⊢
  rw[List.map_drop,pW]at hu
  exact hu
 obtain⟨i',o',e,q2,q3⟩:=hc (lo+k) u hu'
 injection e with e
 injection e with e1 e2
 subst e1;subst e2
 rw[oG]at q3
 exact⟨i,lo,rfl,q2,q3⟩
section
variable{E:CP}{s:AD}
structure mW(s0:AD)(ui qi:Nat)(pp:Option Nat)(U0 V:List Nat)(S:AD)(cu qs:List Nat)(k:Nat):Prop where
 next:s0.next≤S.next
 keep:∀j,j<s0.next→j≠ui→some j≠pp→j≠qi→S.heap.get j=s0.heap.get j
 u:Cy S ui (us cu) pp
 q:Cy S qi (us qs) none
 inv:Pk U0 V cu qs k
 qlen:qs.length+V.length=U0.length
set_option maxHeartbeats 1000000 in
theorem XY       (hE : GoodN E) {s0 : AD}  {ui qi : Nat} {pp : Option Nat} (hui : ui < s0.next) (hqi : qi < s0.next) (hne : ui ≠ qi) (hpp : ∀ q, pp = some q → q < s0.next ∧ q ≠ qi) {U0 vlo : List Nat} {v2 v1 : Nat} (hsV : Bl  (vlo ++ [v2, v1])) (hv1 : 2147483648 ≤ v1) (hul : U0.length ≤ 10000000000)
    {vv:AV} (hvv:Cv s0 vv (vlo++[v2,v1])) (hvs:∀j,Cd vv=some j→j≠ui∧some j≠pp∧j≠qi) {Q:A5→Prop} (a0 a1 a3 a4 a5 a6 a7 a13 a14 a15 a16:AV)
    (hq:∀ (S:AD) (cu qs:List Nat) (y10 y11 y12 y17 y18:AV),mW s0 ui qi pp U0 (vlo++[v2,v1]) S cu qs 0 →
      Q ⟨.exit 3,[a0,a1,.slice (some (qi,0)) (U0.length - (vlo.length+2)) (some (U0.length - (vlo.length+2))),a3,a4,a5,a6,a7,.slice (some (ui,0)) U0.length none,vv,y10,y11,y12,a13,a14,a15,a16,y17,y18],[],S⟩):
    ∀ (k:Nat) (S:AD) (cu qs:List Nat) (x11 x12 x17 x18:AV),mW s0 ui qi pp U0 (vlo++[v2,v1]) S cu qs k→k+(vlo.length+2)≤U0.length →
      WC E none (.loop Ic) Q [a0,a1,.slice (some (qi,0)) (U0.length - (vlo.length+2)) (some (U0.length - (vlo.length+2))),a3,a4,a5,a6,a7,.slice (some (ui,0)) U0.length none,vv,iv ((k:Int) - 1),x11,x12,a13,a14,a15,a16,x17,x18] [] S:=by
  have hLB:LB=4294967296:=rfl
  have hVl:(vlo++[v2,v1]).length=vlo.length+2:=by simp
  have hv1b:v1<LB:=hsV v1 (by simp)
  have hv2b:v2<LB:=hsV v2 (by simp)
  have hVpos:0<AG (vlo++[v2,v1]):=by
    rw[H8]
    have h2:0<v1 * LB+v2:=by have:=pg (show 0<v1 by omega) BF;omega
    have:=pg (pK BF (n:=vlo.length)) h2
    omega
  intro k
  induction k with
  | zero =>
    intro S cu qs x11 x12 x17 x18 hS hk
    have d0:decide ((0:Int)≤((0:Nat):Int) - 1)=false:=rfl
    refine WC.loop' ?_
    simp only[Ic,P8,Wa,d0,Qa,Qb,Qc,Qd,Qe,Qf,Qg,Qh,Qi,Qj,Qk,Ql,Qm,Qn,true_and,and_true,Qo,Qp,Qq,Qr,Qs,Qt,Qu,Qv,Qw,Qx,Qy,Qz,Ra,Rb,Rc,Rd,Re,Rf,Rg,Rh,Ri,Rj,Rk,Rm,Rn,Ro,Rp,Rq,Rs,Ya,Yb,Yc,Rt,Ru,Za,Yd,Ye,Rx,Ry,Rz,Wa,Wb,Wc,Wd]
    exact hq S cu qs _ _ _ _ _ hS
  | succ k ih =>
    intro S cu qs x11 x12 x17 x18 hS hk
    have hcl:cu.length=U0.length:=hS.inv.len
    have hql:qs.length=U0.length - (vlo.length+2):=by have:=hS.qlen;rw[hVl]at this;omega
    have hkq:k<qs.length:=by omega
    obtain⟨p1,p2,p3⟩:=hS.inv.part hsV hVpos (by rw[hVl];omega)
    have hw1:((vlo++[v2,v1])++[0]).length=(vlo++[v2,v1]).length+1:=by rw[oI];rfl
    have hpl:((cu.drop k).take ((vlo++[v2,v1]).length+1)).length=vlo.length+3:=by rw[oO,oh,hVl];omega
    have hps:Bl ((cu.drop k).take ((vlo++[v2,v1]).length+1)):=(hS.inv.sm.drop k).take _
    have hplt:AG ((cu.drop k).take ((vlo++[v2,v1]).length+1))<AG (vlo++[v2,v1]) * LB:=by rw[p1];exact p2
    have hpart:=PF hS.u (ns hui hS.next) (lo:=k) (m:=(vlo++[v2,v1]).length+1) (by rw[hVl];omega)
    have hzip:=Gb (cu.drop k) ((vlo++[v2,v1])++[0])
    rw[hw1]at hzip
    have hdig:=fun g h1 h2 h3=>XX (p:=(cu.drop k).take ((vlo++[v2,v1]).length+1)) (v:=vlo++[v2,v1]) (by rw[hpl,hVl]) hps hsV hVpos (g:=g) h1 h2 h3
    rw[hzip]at hdig
    have hstep:∀D:List Nat,D.length=(vlo++[v2,v1]).length+1→Bl D→AG D=AG ((cu.drop k).take ((vlo++[v2,v1]).length+1)) % AG (vlo++[v2,v1])→∀x:Nat,x=AG ((cu.drop k).take ((vlo++[v2,v1]).length+1)) / AG (vlo++[v2,v1]) →
        Pk U0 (vlo++[v2,v1]) (FT cu k D) (qs.set k x) k:=fun D hD hDs hDv x hx=>by
      have:=hS.inv.step hsV hVpos (by rw[hVl];omega) hkq hD hDs hDv hx
      unfold FT
      rw[hD,← oY]
      exact this
    have hxB:AG ((cu.drop k).take ((vlo++[v2,v1]).length+1)) / AG (vlo++[v2,v1])<4294967296:=by
      rw[← hLB,oz hVpos,oJ]
      exact hplt
    have hDl:=fun g=>I4 g ((cu.drop k).zip ((vlo++[v2,v1])++[0])) 0 0
    have hDs:=fun g=>GZ g ((cu.drop k).zip ((vlo++[v2,v1])++[0])) 0 0
    have hzl:((cu.drop k).zip ((vlo++[v2,v1])++[0])).length=(vlo++[v2,v1]).length+1:=by rw[p8,hw1,oh,hVl];omega
    obtain⟨plo,u2,u1,u0,hpe,hplo⟩:∃plo u2 u1 u0,(cu.drop k).take ((vlo++[v2,v1]).length+1)=plo++[u2,u1,u0]∧plo.length=vlo.length:=by
      obtain⟨l1,t1,e1,f1⟩:=E1 (n:=vlo.length+2) (by rw[hpl])
      obtain⟨l2,t2,e2,f2⟩:=E1 (n:=vlo.length+1) f1
      obtain⟨l3,t3,e3,f3⟩:=E1 (n:=vlo.length) f2
      exact⟨l3,t3,t2,t1,by rw[e1,e2,e3];simp,f3⟩
    have hu0:u0<LB:=by rw[hpe]at hps;exact hps u0 (by simp)
    have hG:F0 plo vlo u2 u1 u0 v2 v1 ((u0 * LB+u1) / v1) ((u0 * LB+u1) % v1):=by
      rw[hpe]at hps hplt
      exact F0.start (u0:=u0) hplo (fun x hx=>hps x (p9 _ hx)) (fun x hx=>hsV x (p9 _ hx)) (hps u2 (by simp)) (hps u1 (by simp)) hv2b hv1b (by rw[hLB];omega) hplt
    have hvS:Cv S vv (vlo++[v2,v1]):=hvv.keep hS.next fun j hj hjl=>by
      obtain⟨g1,g2,g3⟩:=hvs j hj
      exact hS.keep j hjl g1 g2 g3
    have hguess:=fun K hK=>Xw (s:=S) (K:=K) (vp:=.slice (some (ui,k)) ((vlo++[v2,v1]).length+1) none) hE (by rw[← hpe];exact hpart) hvS hG (by omega) (by rw[← hLB];exact hu0) hK
    rw[← hpe]at hguess
    obtain⟨av,cv,rfl,_,_⟩:=id hvv
    have e0:((k+1:Nat):Int) - 1=(k:Int):=by omega
    have d0:decide ((0:Int)≤(k:Int))=true:=decide_eq_true (by omega)
    have i1:=Bh Tryz.prog 3 (k:Int) (((vlo++[v2,v1]).length:Nat):Int) ⟨by omega,by omega⟩
    have i2:=Bh Tryz.prog 3 ((k:Int)+(((vlo++[v2,v1]).length:Nat):Int)) 1 ⟨by omega,by omega⟩
    have i2':(k:Int)+(((vlo++[v2,v1]).length:Nat):Int)+1=((k+((vlo++[v2,v1]).length+1):Nat):Int):=by omega
    have i3:=Z5 (n:=U0.length) hS.u (ns hui hS.next) (lo:=k) (hi:=k+((vlo++[v2,v1]).length+1)) (by omega) (by rw[Cl];omega)
    have i3':k+((vlo++[v2,v1]).length+1) - k=(vlo++[v2,v1]).length+1:=by omega
    rw[i3']at i3
    have e10:=CK Tryz.prog 3 (k:Int) 1 ⟨by omega,by omega⟩
    have e11:=An (cap:=some (U0.length - (vlo.length+2))) (i:=qi) (o:=0) Tryz.underlying22 Ct (show k<U0.length - (vlo.length+2) by omega)
    rw[oD,oG]at e11
    have hpS:∀q,pp=some q→q<S.next:=fun q hq=>ns (hpp q hq).1 hS.next
    have last:∀ (S2:AD) (D:List Nat) (x:Nat) (y18:AV),S.next≤S2.next→(∀j,j<S.next→j≠ui→some j≠pp→S2.heap.get j=S.heap.get j)→Cy S2 ui (us (FT cu k D)) pp→D.length=(vlo++[v2,v1]).length+1→Bl D →
        AG D=AG ((cu.drop k).take ((vlo++[v2,v1]).length+1)) % AG (vlo++[v2,v1])→x=AG ((cu.drop k).take ((vlo++[v2,v1]).length+1)) / AG (vlo++[v2,v1]) →
        Qb E P9 (fun v s'=>Qb E QB (fun v s'=>WC E none (.loop Ic) Q v [] s') [] v s') [] [a0,a1,.slice (some (qi,0)) (U0.length - (vlo.length+2)) (some (U0.length - (vlo.length+2))),a3,a4,a5,a6,a7,.slice (some (ui,0)) U0.length none,.slice av (vlo++[v2,v1]).length cv,iv (k:Int),.slice (some (ui,k)) ((vlo++[v2,v1]).length+1) none,Ag x,a13,a14,a15,a16,.bool true,y18] S2:=by
      intro S2 D x y18 n2 f2 o2 hDl hDs hDv hx
      have hxb:x<4294967296:=by rw[hx];exact hxB
      have hq2:Cy S2 qi (us qs) none:=hS.q.keep (f2 qi (ns hqi hS.next) (Ne.symm hne) (fun e=>(hpp qi e.symm).2 rfl))
      obtain⟨S3,st,w1,w2,w3⟩:=FR (P:=Tryz.prog) (t:=76) (v:=Bf x) (o:=k) Ct hq2 (by rw[Cl];exact hkq) rfl
      rw[I5]at w1
      have ex:x % 4294967296=x:=oe hxb
      simp only[P9,QB,Bx,ex,e11,st,e10,Xx,Xz,Qa,Qb,Qc,Qd,Qe,Qf,Qg,Qh,Qi,Qj,Qk,Ql,Qm,Qn,true_and,and_true,Qo,Qp,Qq,Qr,Qs,Qt,Qu,Qv,Qw,Qx,Qy,Qz,Ra,Rb,Rc,Rd,Re,Rf,Rg,Rh,Ri,Rj,Rk,Rm,Rn,Ro,Rp,Rq,Rs,Ya,Yb,Yc,Rt,Ru,Za,Yd,Ye,Rx,Ry,Rz,Wa,Wb,Wc,Wd]
      refine ih S3 (FT cu k D) (qs.set k x) _ _ _ _ ⟨by have:=hS.next;omega,fun j hj j1 j2 j3=>?_,?_,w1,hstep D hDl hDs hDv x hx,by rw[qN];exact hS.qlen⟩ (by omega)
      · rw[w3 j j3 (fun e=>by cases e),f2 j (ns hj hS.next) j1 j2]
        exact hS.keep j hj j1 j2 j3
      · exact o2.keep (w3 ui hne (fun e=>by cases e))
    refine WC.loop' ?_
    generalize hW:WC E none (Af.loop Ic) Q=WW
    rw[hW]at last
    rw[e0]
    simp only[Ic,P8,WK,WL,Wa,d0,AU Tryz.underlying22,i1,i2,i2',i3,Qa,Qb,Qc,Qd,Qe,Qf,Qg,Qh,Qi,Qj,Qk,Ql,Qm,Qn,true_and,and_true,Qo,Qp,Qq,Qr,Qs,Qt,Qu,Qv,Qw,Qx,Qy,Qz,Ra,Rb,Rc,Rd,Re,Rf,Rg,Rh,Ri,Rj,Rk,Rm,Rn,Ro,Rp,Rq,Rs,Ya,Yb,Yc,Rt,Ru,Za,Yd,Ye,Rx,Ry,Rz,Wa,Wb,Wc,Wd]
    refine hguess _ fun g g1 g2 g3=>?_
    obtain⟨dg1,dg2⟩:=hdig g g2 g3 (by rw[hLB];exact g1)
    have hDl:=hDl g
    have hDs:=hDs g
    rw[hzl]at hDl
    simp only[WM,Qa,Qb,Qc,Qd,Qe,Qf,Qg,Qh,Qi,Qj,Qk,Ql,Qm,Qn,true_and,and_true,Qo,Qp,Qq,Qr,Qs,Qt,Qu,Qv,Qw,Qx,Qy,Qz,Ra,Rb,Rc,Rd,Re,Rf,Rg,Rh,Ri,Rj,Rk,Rm,Rn,Ro,Rp,Rq,Rs,Ya,Yb,Yc,Rt,Ru,Za,Yd,Ye,Rx,Ry,Rz,Wa,Wb,Wc,Wd]
    refine ah hE g1 (ns hui hS.next) hpS hS.u (off:=k) (vl:=vlo++[v2,v1]) (by rw[hVl];omega) hS.inv.sm hsV hvS (by rw[hVl];omega) fun S2 n2 f2 o2=>?_
    generalize B6 g ((cu.drop k).zip ((vlo++[v2,v1])++[0])) 0 0=T at *
    obtain⟨D,c,br⟩:=T
    simp only at *
    by_cases hbr:br=0
    · obtain⟨r1,r2⟩:=dg1 hbr
      have db:decide (0<br)=false:=decide_eq_false (by omega)
      simp only[db,Qa,Qb,Qc,Qd,Qe,Qf,Qg,Qh,Qi,Qj,Qk,Ql,Qm,Qn,true_and,and_true,Qo,Qp,Qq,Qr,Qs,Qt,Qu,Qv,Qw,Qx,Qy,Qz,Ra,Rb,Rc,Rd,Re,Rf,Rg,Rh,Ri,Rj,Rk,Rm,Rn,Ro,Rp,Rq,Rs,Ya,Yb,Yc,Rt,Ru,Za,Yd,Ye,Rx,Ry,Rz,Wa,Wb,Wc,Wd]
      exact last S2 D g (.bool false) n2 f2 o2 hDl hDs r2 r1
    · obtain⟨r1,r2⟩:=dg2 hbr
      have db:decide (0<br)=true:=decide_eq_true (by omega)
      have hg1:1≤g:=ny (Nat.succ_le_succ (oB _)) (oU r1.symm)
      have hvS2:Cv S2 (.slice av (vlo++[v2,v1]).length cv) (vlo++[v2,v1]):=hvS.keep n2 fun j hj hjl=>by
        obtain⟨q1,q2,q3⟩:=hvs j hj
        exact f2 j hjl q1 q2
      have hml:(FT cu k D).length=cu.length:=Gl (by rw[hDl,hVl];omega)
      have hms:Bl (FT cu k D):=((hS.inv.sm.take k).append hDs).append (hS.inv.sm.drop _)
      have hmd:((FT cu k D).drop k).zip ((vlo++[v2,v1])++[0])=D.zip ((vlo++[v2,v1])++[0]):=by
        unfold FT
        rw[oX,qL (by rw[oO];omega)]
        exact ZE (by rw[hDl,hw1]) _
      have m6:AT Tryz.prog .sub 69 (Ag g) (.int .u64 1)=some (Ag (g - 1)):=by
        have:=Me Tryz.prog 69 (a:=g) (b:=1) (by decide)
        rw[show(g+18446744073709551616 - 1) % 18446744073709551616=g - 1 by omega]at this
        exact this
      simp only[db,WO,Qa,Qb,Qc,Qd,Qe,Qf,Qg,Qh,Qi,Qj,Qk,Ql,Qm,Qn,true_and,and_true,Qo,Qp,Qq,Qr,Qs,Qt,Qu,Qv,Qw,Qx,Qy,Qz,Ra,Rb,Rc,Rd,Re,Rf,Rg,Rh,Ri,Rj,Rk,Rm,Rn,Ro,Rp,Rq,Rs,Ya,Yb,Yc,Rt,Ru,Za,Yd,Ye,Rx,Ry,Rz,Wa,Wb,Wc,Wd]
      refine ZS hE (ns hui (ny hS.next n2)) (fun q hq=>ns (hpS q hq) n2) o2 (off:=k) (vl:=vlo++[v2,v1]) (by rw[hVl];omega) hms hsV hvS2 (by rw[hVl];omega) fun S3 y n3 f3 o3=>?_
      rw[hmd]at o3
      have hOl:=Hk (D.zip ((vlo++[v2,v1])++[0])) 0
      have hOs:=FV (D.zip ((vlo++[v2,v1])++[0])) 0
      rw[p8,hw1,hDl,Nat.min_self]at hOl
      generalize (D1 (D.zip ((vlo++[v2,v1])++[0])) 0).1=O at *
      have hmm:FT (FT cu k D) k O=FT cu k O:=by
        unfold FT
        have htk:(cu.take k).length=k:=by rw[oO];omega
        have e1:(cu.take k++D++cu.drop (k+D.length)).take k=cu.take k:=by rw[oX,List.take_left' htk]
        have e2:(cu.take k++D++cu.drop (k+D.length)).drop (k+O.length)=cu.drop (k+O.length):=by
          rw[hOl,← hDl]
          rw[qL (by rw[oI,htk])]
        rw[e1,e2]
      rw[hmm]at o3
      simp only[WP,m6,Qa,Qb,Qc,Qd,Qe,Qf,Qg,Qh,Qi,Qj,Qk,Ql,Qm,Qn,true_and,and_true,Qo,Qp,Qq,Qr,Qs,Qt,Qu,Qv,Qw,Qx,Qy,Qz,Ra,Rb,Rc,Rd,Re,Rf,Rg,Rh,Ri,Rj,Rk,Rm,Rn,Ro,Rp,Rq,Rs,Ya,Yb,Yc,Rt,Ru,Za,Yd,Ye,Rx,Ry,Rz,Wa,Wb,Wc,Wd]
      exact last S3 O (g - 1) (.bool true) (ny n2 n3) (fun j hj j1 j2=>(f3 j (ns hj n2) j1 j2).trans (f2 j hj j1 j2)) o3 hOl hOs r2 (by rw[r1,qI])
end
section
variable(P:Program)(t:TypeId){a:Nat}
theorem aj{k:IntKind}{n:Nat}(hn:n≤32):AT P .shl t (Bf a) (.int k (n:Int))=some (Bf (a * 2 ^ n % 4294967296)):=by
 show(DW P (Op.shift .shl .u32 (a:Int) k (n:Int))).bind ofValue=_
 unfold Op.shift
 rw[if_neg (by omega)]
 show some (AV.int .u32 (IntKind.wrap .u32 ((a:Int) * 2 ^ min (n:Int).toNat 32)))=_
 rw[show min (n:Int).toNat 32=n by omega,MD]
 congr 2
theorem ak{k:IntKind}{n:Nat}(hn:n≤32):AT P .shr t (Bf a) (.int k (n:Int))=some (Bf (a / 2 ^ n)):=by
 show(DW P (Op.shift .shr .u32 (a:Int) k (n:Int))).bind ofValue=_
 unfold Op.shift
 rw[if_neg (by omega)]
 show some (AV.int .u32 ((a:Int).fdiv (2 ^ min (n:Int).toNat 32)))=_
 rw[show min (n:Int).toNat 32=n by omega]
 congr 2
 rw[show((2:Int) ^ n)=((2 ^ n:Nat):Int) by push_cast;rfl]
 exact(Int.ofNat_fdiv a (2 ^ n)).symm
end
theorem Gc{s:AD}{loc var:List AV}(f:AD→List AV→Option AV)(xs:List CX)(a:CX):FW s loc var ⟨none,.r f,xs,a⟩=PO (f s (Qh loc var xs)) (Co loc var a):=by
 have:∀l:List CX,DP loc var l=Qh loc var l:=by
  intro l
  induction l with
  | nil=>rfl
  | cons x l ih=>show Co loc var x::DP loc var l=Co loc var x::Qh loc var l;rw[ih]
 show(!Bd loc var none || PO (EH (.r f) (DP loc var xs) s) (Co loc var a))=_
 rw[this]
 rfl
theorem Ds(u v:AV):PO (some u) v=Et u v:=rfl
theorem KS(n:Int):Et (iv n) (iv n)=true:=by simp[Et,Ek,B0]
section
variable{E:CP}{s:AD}
theorem Tq{b:Option (Nat×Nat)}{cb:Option Nat}{lo:List Nat}{bt:Nat}(hc:AZ s.next s b (us (lo++[bt])))(hbt:0<bt)(hb:bt<4294967296)(hl:lo.length≤10000000000){Q:A5→Prop}(a0 a2 a3 a4 a5 a6 a8 a9 a10 a11 a12 a13 a14 a15 a17 a18:AV)
  (hq:∀ (n:Nat) (y16:AV),n≤31→2147483648≤bt * 2 ^ n→bt * 2 ^ n<4294967296→Q ⟨.exit 1,[a0,.slice b (lo.length+1) cb,a2,a3,a4,a5,a6,Ag n,a8,a9,a10,a11,a12,a13,a14,a15,y16,a17,a18],[],s⟩):
  ∀ (m n:Nat) (x16:AV),n+m=32→bt * 2 ^ n<4294967296→WC E none (.loop KF) Q [a0,.slice b (lo.length+1) cb,a2,a3,a4,a5,a6,Ag n,a8,a9,a10,a11,a12,a13,a14,a15,x16,a17,a18] [] s:=by
 intro m
 induction m with
 | zero =>
  intro n x16 hn hlt
  exfalso
  have:n=32:=by omega
  subst this
  have e:(2:Nat) ^ 32=4294967296:=by decide
  rw[e]at hlt
  have:=oC 4294967296 hbt
  omega
 | succ m ih =>
  intro n x16 hn hlt
  have s1:=CK Tryz.prog 3 ((lo.length+1:Nat):Int) 1 ⟨by omega,by omega⟩
  have s1':((lo.length+1:Nat):Int) - 1=(lo.length:Int):=by omega
  obtain⟨p1,i1,l1⟩:=Dw (cap:=cb) (n:=lo.length+1) hc (k:=lo.length) (by omega) (x:=bt) (by simp)
  have m1:=aj Tryz.prog 76 (a:=bt) (k:=.u64) (n:=n) (by omega)
  rw[oe hlt]at m1
  have m2:AT Tryz.prog .shr 76 (Bf (bt * 2 ^ n)) (.int .u64 31)=some (Bf (bt * 2 ^ n / 2147483648)):=ak Tryz.prog 76 (k:=.u64) (n:=31) (by decide)
  have m3:AT Tryz.prog .eql 76 (Bf (bt * 2 ^ n / 2147483648)) (.int .u32 0)=some (.bool (decide (bt * 2 ^ n / 2147483648=0))):=gx Tryz.prog 76 (b:=0) .u32
  have m4:AT Tryz.prog .add 113 (Ag n) (.int .u64 1)=some (Ag (n+1)):=HD Tryz.prog 113 (b:=1) (by omega)
  refine WC.loop' ?_
  generalize hW:WC E none (Af.loop KF) Q=WW
  by_cases h:2147483648≤bt * 2 ^ n
  ·have db:decide (bt * 2 ^ n / 2147483648=0)=false:=decide_eq_false (by omega)
   simp only[KF,P7,AU Tryz.underlying22,s1,s1',i1,l1,m1,m2,m3,db,Qa,Qb,Qc,Qd,Qe,Qf,Qg,Qh,Qi,Qj,Qk,Ql,Qm,Qn,true_and,and_true,Qo,Qp,Qq,Qr,Qs,Qt,Qu,Qv,Qw,Qx,Qy,Qz,Ra,Rb,Rc,Rd,Re,Rf,Rg,Rh,Ri,Rj,Rk,Rm,Rn,Ro,Rp,Rq,Rs,Ya,Yb,Yc,Rt,Ru,Za,Yd,Ye,Rx,Ry,Rz,Wa,Wb,Wc,Wd]
   exact hq n _ (by omega) h hlt
  ·have db:decide (bt * 2 ^ n / 2147483648=0)=true:=decide_eq_true (by omega)
   simp only[KF,P7,WE,AU Tryz.underlying22,s1,s1',i1,l1,m1,m2,m3,db,m4,Qa,Qb,Qc,Qd,Qe,Qf,Qg,Qh,Qi,Qj,Qk,Ql,Qm,Qn,true_and,and_true,Qo,Qp,Qq,Qr,Qs,Qt,Qu,Qv,Qw,Qx,Qy,Qz,Ra,Rb,Rc,Rd,Re,Rf,Rg,Rh,Ri,Rj,Rk,Rm,Rn,Ro,Rp,Rq,Rs,Ya,Yb,Yc,Rt,Ru,Za,Yd,Ye,Rx,Ry,Rz,Wa,Wb,Wc,Wd]
   rw[← hW]
   exact ih (n+1) _ (by omega) (by rw[pE,← oR];omega)
theorem Sc      (hE : GoodN E) {va vb : AV} {la lb : List Nat} (ha : Cv  s va la) (hb : Cv  s vb lb) (hla : la.length ≤ 1000000000) (hlb : lb.length ≤ 1000000000) (hsa : Bl  la) (hsb : Bl  lb) {K : AV → AD  → Prop}
    (hK0:AG lb=0→∀s',Ac s.next s s'→K (.tuple [.slice none 0 (some 0),.slice none 0 (some 0),iv 3]) s')
    (hK1:AG lb≠0→∀s' vq vr,Ac s.next s s'→NR s.next s' vq (AR (AG la / AG lb))→NR s.next s' vr (AR (AG la % AG lb))→(AG la<AG lb→vq=.slice none 0 (some 0))→K (.tuple [vq,vr,iv 0]) s'):WF E 50 [va,vb] K s:=by
  have hLB:LB=4294967296:=rfl
  refine hE.go iq (by decide) rfl ?_
  simp only[nF,dW,dX,Qa,Qb,Qc,Qd,Qe,Qf,Qg,Qh,Qi,Qj,Qk,Ql,Qm,Qn,true_and,and_true,Qo,Qp,Qq,Qr,Qs,Qt,Qu,Qv,Qw,Qx,Qy,Qz,Ra,Rb,Rc,Rd,Re,Rf,Rg,Rh,Ri,Rj,Rk,Rm,Rn,Ro,Rp,Rq,Rs,Ya,Yb,Yc,Rt,Ru,Za,Yd,Ye,Rx,Ry,Rz,Wa,Wb,Wc,Wd]
  refine CT hE ha (by omega) fun s1 v1 o1 r1=>?_
  simp only[Qa,Qb,Qc,Qd,Qe,Qf,Qg,Qh,Qi,Qj,Qk,Ql,Qm,Qn,true_and,and_true,Qo,Qp,Qq,Qr,Qs,Qt,Qu,Qv,Qw,Qx,Qy,Qz,Ra,Rb,Rc,Rd,Re,Rf,Rg,Rh,Ri,Rj,Rk,Rm,Rn,Ro,Rp,Rq,Rs,Ya,Yb,Yc,Rt,Ru,Za,Yd,Ye,Rx,Ry,Rz,Wa,Wb,Wc,Wd]
  refine CT hE (hb.old o1) (by omega) fun s2 v2 o2 r2=>?_
  have t1:=Eb la
  have t2:=Eb lb
  have R1:NR s.next s2 v1 (AR (AG la)):=by have:=r1.old o2;rw[Bq hsa]at this;exact this
  have R2:NR s.next s2 v2 (AR (AG lb)):=by have:=r2.mono o1.1;rw[Bq hsb]at this;exact this
  rw[Bq hsa]at t1
  rw[Bq hsb]at t2
  have oS:Ac s.next s s2:=o1.trans (o2.mono o1.1)
  have n1:=R1.n32
  have n2:=R2.n32
  clear r1 r2 o1 o2 ha hb hsa hsb
  generalize AG la=A at *
  generalize AG lb=B at *
  have hsA:=Ae A
  have hsB:=Ae B
  have hvA:=Ah A
  have hvB:=Ah B
  obtain⟨b,cb,rfl,hcapb,hcb⟩:=id n2
  by_cases hB0:B=0
  · subst hB0
    have hl0:(AR 0).length=0:=by rw[BM];rfl
    have d0:decide (((AR 0).length:Int)=0)=true:=decide_eq_true (by omega)
    simp only[WN,dY,AU Tryz.underlying22,Wb,d0,Qa,Qb,Qc,Qd,Qe,Qf,Qg,Qh,Qi,Qj,Qk,Ql,Qm,Qn,true_and,and_true,Qo,Qp,Qq,Qr,Qs,Qt,Qu,Qv,Qw,Qx,Qy,Qz,Ra,Rb,Rc,Rd,Re,Rf,Rg,Rh,Ri,Rj,Rk,Rm,Rn,Ro,Rp,Rq,Rs,Ya,Yb,Yc,Rt,Ru,Za,Yd,Ye,Rx,Ry,Rz,Wa,Wb,Wc,Wd]
    exact hK0 rfl s2 oS
  · have hBl : (AR    B).length ≠ 0 := fun e => Cg       hB0 (qD                            e)
    have d0:decide (((AR B).length:Int)=0)=false:=decide_eq_false (by omega)
    simp only[WN,dZ,AU Tryz.underlying22,Wb,d0,Qa,Qb,Qc,Qd,Qe,Qf,Qg,Qh,Qi,Qj,Qk,Ql,Qm,Qn,true_and,and_true,Qo,Qp,Qq,Qr,Qs,Qt,Qu,Qv,Qw,Qx,Qy,Qz,Ra,Rb,Rc,Rd,Re,Rf,Rg,Rh,Ri,Rj,Rk,Rm,Rn,Ro,Rp,Rq,Rs,Ya,Yb,Yc,Rt,Ru,Za,Yd,Ye,Rx,Ry,Rz,Wa,Wb,Wc,Wd]
    refine QF hE n1 n2 (by omega) (by omega) hsA hsB fun s3 o3=>?_
    rw[hvA,hvB]
    have oS3:Ac s.next s s3:=oS.trans (o3.mono oS.1)
    have R1':=R1.old o3
    have n1':=n1.old o3
    have n2':=n2.old o3
    by_cases hlt:A<B
    · have ec : Eh   A B = -1 := by unfold Eh;   rw [if_pos hlt]
      have d1:decide ((-1:Int)<0)=true:=by decide
      simp only[ec,Rx,d1,dc,Qa,Qb,Qc,Qd,Qe,Qf,Qg,Qh,Qi,Qj,Qk,Ql,Qm,Qn,true_and,and_true,Qo,Qp,Qq,Qr,Qs,Qt,Qu,Qv,Qw,Qx,Qy,Qz,Ra,Rb,Rc,Rd,Re,Rf,Rg,Rh,Ri,Rj,Rk,Rm,Rn,Ro,Rp,Rq,Rs,Ya,Yb,Yc,Rt,Ru,Za,Yd,Ye,Rx,Ry,Rz,Wa,Wb,Wc,Wd]
      refine hK1 hB0 s3 _ _ oS3 ?_ ?_ (fun _=>rfl)
      · rw[pe hlt,BM];exact NR.nil _ _
      · rw[oe hlt];exact R1'
    · have d1:decide (Eh A B<0)=false:=by
        unfold Eh
        rw[if_neg hlt]
        split<;>decide
      by_cases h1:(AR B).length=1
      · have d2:decide (((AR B).length:Int)=1)=true:=decide_eq_true (by omega)
        obtain⟨y,hy⟩:∃y,AR B=[y]:=by
          match hlb:AR B,h1 with
          | [y],_=>exact⟨y,rfl⟩
        have hyB:y=B:=by
          have:=hvB
          rw[hy]at this
          show y=B
          have e:AG [y]=y:=by show y+LB * 0=y;omega
          rw[e]at this;exact this
        subst hyB
        have hy32:y<4294967296:=by have:=hsB y (by rw[hy];simp);exact this
        obtain⟨p1,i1,l1⟩:=Dw (cap:=cb) (n:=(AR y).length) (hcb.old o3 (nl _)) (k:=0) (by omega) (x:=y) (by rw[hy];rfl)
        have i1':AM Tryz.prog 22 (.slice b (AR y).length cb) (.int .i64 0)=some p1:=i1
        simp only[Rx,d1,WT,df,AU Tryz.underlying22,Wb,d2,i1',l1,Bi hy32,Qa,Qb,Qc,Qd,Qe,Qf,Qg,Qh,Qi,Qj,Qk,Ql,Qm,Qn,true_and,and_true,Qo,Qp,Qq,Qr,Qs,Qt,Qu,Qv,Qw,Qx,Qy,Qz,Ra,Rb,Rc,Rd,Re,Rf,Rg,Rh,Ri,Rj,Rk,Rm,Rn,Ro,Rp,Rq,Rs,Ya,Yb,Yc,Rt,Ru,Za,Yd,Ye,Rx,Ry,Rz,Wa,Wb,Wc,Wd]
        refine PU hE n1' (by omega) hsA (x:=y) (by omega) (by omega) fun s4 vq o4 r4=>?_
        obtain⟨w1,w2,w3⟩:=Dt (show 0<y by omega) (AR A)
        rw[hvA]at w1
        have hsq:=Fm (show 0<y by omega) hsA
        generalize BG y (AR A)=T at *
        have hq:AG T.1=A / y:=by
          rw[w1,Nat.mul_add_div (by omega),pe w2,oM]
        have hr:T.2=A % y:=by
          rw[w1,Nat.mul_add_mod,oe w2]
        rw[Bq hsq,hq]at r4
        rw[hr]
        simp only[dg,Za,Qa,Qb,Qc,Qd,Qe,Qf,Qg,Qh,Qi,Qj,Qk,Ql,Qm,Qn,true_and,and_true,Qo,Qp,Qq,Qr,Qs,Qt,Qu,Qv,Qw,Qx,Qy,Qz,Ra,Rb,Rc,Rd,Re,Rf,Rg,Rh,Ri,Rj,Rk,Rm,Rn,Ro,Rp,Rq,Rs,Ya,Yb,Yc,Rt,Ru,Za,Yd,Ye,Rx,Ry,Rz,Wa,Wb,Wc,Wd]
        refine Sj hE (n:=A % y) (by have:=oT A (show 0<y by omega);omega) fun s5 vr o5 r5=>?_
        simp only[Qa,Qb,Qc,Qd,Qe,Qf,Qg,Qh,Qi,Qj,Qk,Ql,Qm,Qn,true_and,and_true,Qo,Qp,Qq,Qr,Qs,Qt,Qu,Qv,Qw,Qx,Qy,Qz,Ra,Rb,Rc,Rd,Re,Rf,Rg,Rh,Ri,Rj,Rk,Rm,Rn,Ro,Rp,Rq,Rs,Ya,Yb,Yc,Rt,Ru,Za,Yd,Ye,Rx,Ry,Rz,Wa,Wb,Wc,Wd]
        exact hK1 hB0 s5 vq vr (oS3.trans ((o4.mono oS3.1).trans (o5.mono (ny oS3.1 o4.1)))) ((r4.old o5).mono oS3.1) (r5.mono (ny oS3.1 o4.1)) (fun h=>absurd h hlt)
      · have d2:decide (((AR B).length:Int)=1)=false:=decide_eq_false (by omega)
        obtain⟨lo,bt,hlo,hlol⟩:=E1 (n:=(AR B).length - 1) (l:=AR B) (by omega)
        obtain⟨m,hm⟩:∃m,lo.length=m+1:=⟨lo.length - 1,by omega⟩
        have hbt32:bt<4294967296:=hsB bt (by rw[hlo];simp)
        have hbt0:0<bt:=by
          rcases ow bt with h | h
          · exfalso
            have e1:=Kg B hB0
            have e2:=Cb (fun x hx=>hsB x (by rw[hlo];exact p9 _ hx):Bl lo)
            rw[hlo,DL,h,pI,oM]at hvB
            rw[hlol]at e2
            omega
          · exact h
        simp only[Rx,d1,WT,dh,AU Tryz.underlying22,Wb,d2,Qa,Qb,Qc,Qd,Qe,Qf,Qg,Qh,Qi,Qj,Qk,Ql,Qm,Qn,true_and,and_true,Qo,Qp,Qq,Qr,Qs,Qt,Qu,Qv,Qw,Qx,Qy,Qz,Ra,Rb,Rc,Rd,Re,Rf,Rg,Rh,Ri,Rj,Rk,Rm,Rn,Ro,Rp,Rq,Rs,Ya,Yb,Yc,Rt,Ru,Za,Yd,Ye,Rx,Ry,Rz,Wa,Wb,Wc,Wd]
        have hcb3:AZ s3.next s3 b (us (lo++[bt])):=by rw[← hlo];exact(hcb.old o3 (nl _)).mono o3.1
        have hbl:(AR B).length=lo.length+1:=by rw[hlo];simp
        rw[hbl]
        refine Tq hcb3 hbt0 hbt32 (by omega) _ _ _ _ _ _ _ _ _ _ _ _ _ _ _ _ (fun n y16 hn31 hn1 hn2=>?_) 32 0 _ rfl (by simpa using hbt32)
        have hnv:=jc (lo:=lo) (bt:=bt) (by rw[← hlo];exact hsB) hn31 hn1 hn2
        obtain⟨hV,vlo0,v1',hVe,hvlo0,hv1'⟩:=hnv
        rw[← hlo,hvB]at hV
        rw[← hlo]at hVe
        obtain⟨vlo,v2',hvloe,hvlol⟩:=E1 (n:=m) (by rw[hvlo0,hm])
        have hVe2:(JZ (AR B) (2 ^ n) 0).take (lo.length+1)=vlo++[v2',v1']:=by rw[hVe,hvloe];simp
        have h2n:2 ^ n<LB:=by
          rw[hLB]
          have e32:(2:Nat) ^ 32=4294967296:=by decide
          rw[← e32]
          exact Nat.pow_lt_pow_right (by decide) (by omega)
        have hsU:=FD h2n hsA BF
        have hsW:=FD h2n hsB BF
        have hUl:=Hn (2 ^ n) (AR A) 0
        have hWl:=Hn (2 ^ n) (AR B) 0
        have hUv:=Jf (AR A) (2 ^ n) 0
        rw[hvA,oM]at hUv
        have hAB:lo.length+1≤(AR A).length:=by
          rcases nm (AR A).length (lo.length+1)with h | h
          · rw[← hbl]at h
            exact absurd (ER h) hlt
          · exact h
        have hnu:=jb (vlo:=vlo0) hsA hn31 hv1' (by omega)
        rw[← hVe,hvlo0]at hnu
        have hsV:Bl (vlo++[v2',v1']):=by rw[← hVe2];exact hsW.take _
        rw[hVe2]at hV hnu
        simp only[if_true,WG,AU Tryz.underlying22,Qa,Qb,Qc,Qd,Qe,Qf,Qg,Qh,Qi,Qj,Qk,Ql,Qm,Qn,true_and,and_true,Qo,Qp,Qq,Qr,Qs,Qt,Qu,Qv,Qw,Qx,Qy,Qz,Ra,Rb,Rc,Rd,Re,Rf,Rg,Rh,Ri,Rj,Rk,Rm,Rn,Ro,Rp,Rq,Rs,Ya,Yb,Yc,Rt,Ru,Za,Yd,Ye,Rx,Ry,Rz,Wa,Wb,Wc,Wd]
        have n2'':Cv s3 (.slice b (lo.length+1) cb) (AR B):=by rw[← hbl];exact n2'
        refine hJ hE n1' (by omega) hsA (n:=n) (by omega) fun s4 vu o4 r4=>?_
        simp only[Gc,AU Tryz.underlying22,Ds,KS,Qa,Qb,Qc,Qd,Qe,Qf,Qg,Qh,Qi,Qj,Qk,Ql,Qm,Qn,true_and,and_true,Qo,Qp,Qq,Qr,Qs,Qt,Qu,Qv,Qw,Qx,Qy,Qz,Ra,Rb,Rc,Rd,Re,Rf,Rg,Rh,Ri,Rj,Rk,Rm,Rn,Ro,Rp,Rq,Rs,Ya,Yb,Yc,Rt,Ru,Za,Yd,Ye,Rx,Ry,Rz,Wa,Wb,Wc,Wd]
        refine hJ hE (n2''.old o4) (by omega) hsB (n:=n) (by omega) fun s5 vw o5 r5=>?_
        have nw:=r5.n32'
        obtain⟨ui,pu,rfl,hu1,hu2,hu3,hu4⟩:=r4.own (by intro e;rw[e]at hUl;simp at hUl)
        obtain⟨wi,pw,rfl,hw1,hw2,hw3,hw4⟩:=r5.own (by intro e;rw[e]at hWl;simp at hWl)
        obtain⟨aw,cw,ew,hcapw,hcw⟩:=nw
        injection ew with ew1 ew2 ew3
        subst ew1;subst ew3
        have e1:=OS Tryz.underlying22 Ct hcapw (k:=lo.length+1) (by rw[hWl];omega)
        have nV:=Cv.take hcapw hcw (k:=lo.length+1) (by rw[hWl];omega)
        rw[hVe2]at nV
        have e2:=CK Tryz.prog 3 (((JZ (AR A) (2 ^ n) 0).length:Nat):Int) ((lo.length+1:Nat):Int) ⟨by omega,by omega⟩
        have e2':(((JZ (AR A) (2 ^ n) 0).length:Nat):Int) - ((lo.length+1:Nat):Int)=(((JZ (AR A) (2 ^ n) 0).length - (lo.length+1):Nat):Int):=by omega
        have e3:=NJ ((JZ (AR A) (2 ^ n) 0).length - (lo.length+1)) (by omega)
        have e4:=CK Tryz.prog 3 (((JZ (AR A) (2 ^ n) 0).length - (lo.length+1):Nat):Int) 1 ⟨by omega,by omega⟩
        simp only[Gc,AU Tryz.underlying22,Ds,KS,e1,WH,WJ,e2,e2',Xx,e3,Xd,e4,Qa,Qb,Qc,Qd,Qe,Qf,Qg,Qh,Qi,Qj,Qk,Ql,Qm,Qn,true_and,and_true,Qo,Qp,Qq,Qr,Qs,Qt,Qu,Qv,Qw,Qx,Qy,Qz,Ra,Rb,Rc,Rd,Re,Rf,Rg,Rh,Ri,Rj,Rk,Rm,Rn,Ro,Rp,Rq,Rs,Ya,Yb,Yc,Rt,Ru,Za,Yd,Ye,Rx,Ry,Rz,Wa,Wb,Wc,Wd]
        generalize hU0:JZ (AR A) (2 ^ n) 0=U0 at *
        have hml:m=vlo.length:=hvlol.symm
        have hll:lo.length+1=vlo.length+2:=by omega
        rw[hll]at nV
        rw[hll]at *
        have hn5:s5.next<(newObj s5 (R 76 1 false (us (List.replicate (U0.length - (vlo.length+2)) 0)))).next:=og _
        have o6:=Ac.new s5 (R 76 1 false (us (List.replicate (U0.length - (vlo.length+2)) 0)))
        have hVl:(vlo++[v2',v1']).length=vlo.length+2:=by simp
        generalize hs6:newObj s5 (R 76 1 false (us (List.replicate (U0.length - (vlo.length+2)) 0)))=s6 at *
        have hq6:s6.heap.get s5.next=some (R 76 1 false (us (List.replicate (U0.length - (vlo.length+2)) 0))):=by rw[← hs6,AO,if_pos rfl]
        have o46:Ac s4.next s4 s6:=o5.trans (o6.mono o5.1)
        have hu6:Cy s6 ui (us U0) pu:=hu3.keep (o46.2 ui hu2)
        refine XY hE (s0:=s6) (U0:=U0) (ui:=ui) (qi:=s5.next) (pp:=pu) (ns hu2 o46.1) hn5 (by have:=o5.1;omega) (fun q hq=>⟨by have:=(hu4 q hq).2.1;have:=o46.1;omega,by have:=(hu4 q hq).2.1;have:=o5.1;omega⟩) hsV hv1' (by omega)
          (nV.old o6) (fun j hj=>?_) _ _ _ _ _ _ _ _ _ _ _ (fun S cu qs y10 y11 y12 y17 y18 hS=>?_) (U0.length - (vlo.length+2)) s6 U0 (List.replicate (U0.length - (vlo.length+2)) 0) _ _ _ _ ⟨nl _,fun j _ _ _ _=>rfl,hu6,Cy.of_R hq6,?_,?_⟩ (by omega)
        · injection hj with hj
          subst hj
          exact⟨by omega,fun e=>by have:=(hu4 wi e.symm).2.1;omega,by omega⟩
        ·
          have hVpos:0<AG (vlo++[v2',v1']):=by
            rw[hV]
            exact pg (by omega) (pK (by decide))
          have hrem:=hS.inv.rem
          have hquo:=hS.inv.quo
          rw[pC,pC,hUv,hV]at hrem hquo
          rw[Nat.mul_div_mul_right _ _ (pK (by decide))]at hquo
          rw[Nat.mul_mod_mul_right]at hrem
          have hcl:=hS.inv.len
          have hql:qs.length=U0.length - (vlo.length+2):=by have:=hS.qlen;rw[hVl]at this;omega
          have huiS:ui<S.next:=by have:=hS.next;have:=o46.1;omega
          have nu:=PF hS.u huiS (lo:=0) (m:=cu.length) (by omega)
          rw[pC,List.take_length,hcl]at nu
          have p31:2 ^ n≤2147483648:=by
            have e31:(2:Nat) ^ 31=2147483648:=by decide
            rw[← e31]
            exact pm (by decide) hn31
          have p0:0<2 ^ n:=pK (by decide)
          have es:AT Tryz.prog .shl 69 (.int .u64 1) (Ag n)=some (Ag (2 ^ n)):=by
            have:=Md Tryz.prog 69 (a:=1) (k:=.u64) (n:=n) (by omega) (by rw[pN];omega)
            rw[pN]at this
            exact this
          simp only[if_true,WQ,es,Qa,Qb,Qc,Qd,Qe,Qf,Qg,Qh,Qi,Qj,Qk,Ql,Qm,Qn,true_and,and_true,Qo,Qp,Qq,Qr,Qs,Qt,Qu,Qv,Qw,Qx,Qy,Qz,Ra,Rb,Rc,Rd,Re,Rf,Rg,Rh,Ri,Rj,Rk,Rm,Rn,Ro,Rp,Rq,Rs,Ya,Yb,Yc,Rt,Ru,Za,Yd,Ye,Rx,Ry,Rz,Wa,Wb,Wc,Wd]
          refine PU hE nu (by omega) hS.inv.sm p0 (by omega) fun s8 vr o8 r8=>?_
          obtain⟨w1,w2,w3⟩:=Dt p0 cu
          have hss:=Fm p0 hS.inv.sm
          rw[hrem]at w1
          generalize BG (2 ^ n) cu=T at *
          have hr:AG T.1=A % B:=by
            have e1:2 ^ n * AG T.1+T.2=2 ^ n * (A % B):=by rw[← w1,oJ]
            have e2:(2 ^ n * AG T.1+T.2) / 2 ^ n=2 ^ n * (A % B) / 2 ^ n:=by rw[e1]
            rw[Nat.mul_add_div p0,pe w2,oM,Nat.mul_div_cancel_left _ p0]at e2
            exact e2
          rw[Bq hss,hr]at r8
          have hqiS:s5.next<S.next:=by have:=hS.next;omega
          have hq8:=hS.q.keep (o8.2 s5.next hqiS)
          have nq:Cv s8 (.slice (some (s5.next,0)) (U0.length - (vlo.length+2)) (some (U0.length - (vlo.length+2)))) qs:=
            ⟨some (s5.next,0),some (U0.length - (vlo.length+2)),by rw[hql],.inl ⟨_,rfl,by omega,fun e=>by cases e⟩,Ie hq8 (ns hqiS o8.1)⟩
          simp only[WS,Za,Qa,Qb,Qc,Qd,Qe,Qf,Qg,Qh,Qi,Qj,Qk,Ql,Qm,Qn,true_and,and_true,Qo,Qp,Qq,Qr,Qs,Qt,Qu,Qv,Qw,Qx,Qy,Qz,Ra,Rb,Rc,Rd,Re,Rf,Rg,Rh,Ri,Rj,Rk,Rm,Rn,Ro,Rp,Rq,Rs,Ya,Yb,Yc,Rt,Ru,Za,Yd,Ye,Rx,Ry,Rz,Wa,Wb,Wc,Wd]
          refine CT hE nq (by omega) fun s9 vq o9 r9=>?_
          rw[Bq hS.inv.qsm,hquo]at r9
          have hbase:s.next≤S.next:=by have:=oS3.1;have:=o4.1;have:=o46.1;have:=hS.next;omega
          have oSS:Ac s.next s S:=⟨hbase,fun j hj=>by
            have h3:j<s3.next:=ns hj oS3.1
            have h4:j<s4.next:=ns h3 o4.1
            rw[hS.keep j (ns h4 o46.1) (by omega) (fun e=>by have:=(hu4 j e.symm).1;omega) (by have:=o5.1;omega),o46.2 j h4,o4.2 j h3]
            exact oS3.2 j hj⟩
          simp only[Qa,Qb,Qc,Qd,Qe,Qf,Qg,Qh,Qi,Qj,Qk,Ql,Qm,Qn,true_and,and_true,Qo,Qp,Qq,Qr,Qs,Qt,Qu,Qv,Qw,Qx,Qy,Qz,Ra,Rb,Rc,Rd,Re,Rf,Rg,Rh,Ri,Rj,Rk,Rm,Rn,Ro,Rp,Rq,Rs,Ya,Yb,Yc,Rt,Ru,Za,Yd,Ye,Rx,Ry,Rz,Wa,Wb,Wc,Wd]
          exact hK1 hB0 s9 vq vr (oSS.trans ((o8.mono hbase).trans (o9.mono (ny hbase o8.1)))) (r9.mono (ny hbase o8.1)) ((r8.old o9).mono hbase) (fun h=>absurd h hlt)
        · have hd:AG (U0.drop (U0.length - (vlo.length+2)))<AG (vlo++[v2',v1']):=by
            have:U0.length - (vlo.length+2)=(AR A).length - lo.length:=by omega
            rw[this];exact hnu
          refine⟨rfl,rfl,hsU,(oe hd).symm,fun x hx=>?_,?_⟩
          · rw[List.eq_of_mem_replicate hx];exact BF
          · rw [pe               hd, oo                     (by simp)]
            rfl
        · rw[List.length_replicate,hVl];omega
theorem XZ(hE:GoodN E){va vb:AV}{la lb:List Nat}(ha:Cv s va la)(hb:Cv s vb lb)(hla:la.length≤1000000000)(hlb:lb.length≤1000000000)(hsa:Bl la)(hsb:Bl lb){K:AV→AD→Prop}
  (hK0:AG lb=0→∀s',Ac s.next s s'→K (.tuple [.slice none 0 (some 0),.slice none 0 (some 0),iv 3]) s')
  (hK1:AG lb≠0→∀s' vq vr,Ac s.next s s'→NR s.next s' vq (AR (AG la / AG lb))→NR s.next s' vr (AR (AG la % AG lb))→K (.tuple [vq,vr,iv 0]) s'):WF E 50 [va,vb] K s:=
 Sc hE ha hb hla hlb hsa hsb hK0 fun h s' vq vr o r1 r2 _=>hK1 h s' vq vr o r1 r2
end
theorem Fe{a b:Nat}(h:a≤b):(AR a).length≤(AR b).length:=by
 rcases nm (AR b).length (AR a).length with h' | h'
 ·have:=ER h';omega
 ·exact h'
section
variable{E:CP}{s:AD}
theorem Xt(hE:GoodN E){b:Nat}{Q:A5→Prop}(x2:AV):
    ∀ (n A B : Nat) (S : AD)  (va vb x3 x4 : AV), B < n → Ac  b s S → b ≤ S.next → NR b S va (AR    A) → NR b S vb (AR    B) → (AR    A).length ≤ 1000000000 → (AR    B).length ≤ 1000000000 →
      (∀ (S:AD) (va vb y3 y4:AV),Ac b s S→NR b S va (AR (Nat.gcd A B))→Q ⟨.exit 0,[va,vb,x2,y3,y4],[],S⟩) →
      WC E none (.loop OF) Q [va,vb,x2,x3,x4] [] S:=by
  intro n
  induction n with
  | zero=>intro A B S va vb x3 x4 hB;omega
  | succ n ih =>
    intro A B S va vb x3 x4 hB ho hbS ha hb hla hlb hq
    have nb:=hb.n32
    have hlen:BZ Tryz.prog S 22 vb=some (iv ((AR B).length:Int)):=by
      obtain⟨a,cap,rfl,_,_⟩:=nb
      exact AU Tryz.underlying22
    refine WC.loop' ?_
    generalize hW:WC E none (Af.loop OF) Q=WW
    by_cases h0:B=0
    · subst h0
      have dd:decide ((0:Int)<((AR 0).length:Int))=false:=by rw[BM];rfl
      simp only[OF,WD,hlen,Ry,dd,Qa,Qb,Qc,Qd,Qe,Qf,Qg,Qh,Qi,Qj,Qk,Ql,Qm,Qn,true_and,and_true,Qo,Qp,Qq,Qr,Qs,Qt,Qu,Qv,Qw,Qx,Qy,Qz,Ra,Rb,Rc,Rd,Re,Rf,Rg,Rh,Ri,Rj,Rk,Rm,Rn,Ro,Rp,Rq,Rs,Ya,Yb,Yc,Rt,Ru,Za,Yd,Ye,Rx,Ry,Rz,Wa,Wb,Wc,Wd]
      refine hq S va vb _ _ ho ?_
      rw[Nat.gcd_zero_right]
      exact ha
    · have hpos : 0 < (AR    B).length := List.length_pos_iff.2 (Cg       h0)
      have dd:decide ((0:Int)<((AR B).length:Int))=true:=decide_eq_true (by omega)
      simp only[OF,WD,dT,hlen,Ry,dd,Qa,Qb,Qc,Qd,Qe,Qf,Qg,Qh,Qi,Qj,Qk,Ql,Qm,Qn,true_and,and_true,Qo,Qp,Qq,Qr,Qs,Qt,Qu,Qv,Qw,Qx,Qy,Qz,Ra,Rb,Rc,Rd,Re,Rf,Rg,Rh,Ri,Rj,Rk,Rm,Rn,Ro,Rp,Rq,Rs,Ya,Yb,Yc,Rt,Ru,Za,Yd,Ye,Rx,Ry,Rz,Wa,Wb,Wc,Wd]
      refine XZ hE ha.n32 nb hla hlb (Ae A) (Ae B) (fun e=>absurd (by rw[Ah]at e;exact e) h0) fun _ s' vq vr o' rq rr=>?_
      rw[Ah,Ah]at rr
      have hlt:A % B<B:=oT _ (by omega)
      simp only[dU,Za,Qa,Qb,Qc,Qd,Qe,Qf,Qg,Qh,Qi,Qj,Qk,Ql,Qm,Qn,true_and,and_true,Qo,Qp,Qq,Qr,Qs,Qt,Qu,Qv,Qw,Qx,Qy,Qz,Ra,Rb,Rc,Rd,Re,Rf,Rg,Rh,Ri,Rj,Rk,Rm,Rn,Ro,Rp,Rq,Rs,Ya,Yb,Yc,Rt,Ru,Za,Yd,Ye,Rx,Ry,Rz,Wa,Wb,Wc,Wd]
      rw[← hW]
      have e:Nat.gcd A B=Nat.gcd B (A % B):=by rw[Nat.gcd_comm,Nat.gcd_rec,Nat.gcd_comm]
      rw[e]at hq
      refine ih B (A % B) s' vb vr _ _ (by omega) (ho.trans (o'.mono hbS)) (ny hbS o'.1) (hb.old o') (rr.mono hbS) hlb (ny (Fe (Nat.le_of_lt hlt)) hlb) hq
theorem jV(hE:GoodN E){va vb:AV}{la lb:List Nat}(ha:Cv s va la)(hb:Cv s vb lb)(hla:la.length≤1000000000)(hlb:lb.length≤1000000000)(hsa:Bl la)(hsb:Bl lb){K:AV→AD→Prop}
  (hK:∀s' v,Ac s.next s s'→NR s.next s' v (AR (Nat.gcd (AG la) (AG lb)))→K v s'):WF E 49 [va,vb] K s:=by
 refine hE.go ip (by decide) rfl ?_
 simp only[nE,dR,dS,Qa,Qb,Qc,Qd,Qe,Qf,Qg,Qh,Qi,Qj,Qk,Ql,Qm,Qn,true_and,and_true,Qo,Qp,Qq,Qr,Qs,Qt,Qu,Qv,Qw,Qx,Qy,Qz,Ra,Rb,Rc,Rd,Re,Rf,Rg,Rh,Ri,Rj,Rk,Rm,Rn,Ro,Rp,Rq,Rs,Ya,Yb,Yc,Rt,Ru,Za,Yd,Ye,Rx,Ry,Rz,Wa,Wb,Wc,Wd]
 refine CT hE ha (by omega) fun s1 v1 o1 r1=>?_
 simp only[Qa,Qb,Qc,Qd,Qe,Qf,Qg,Qh,Qi,Qj,Qk,Ql,Qm,Qn,true_and,and_true,Qo,Qp,Qq,Qr,Qs,Qt,Qu,Qv,Qw,Qx,Qy,Qz,Ra,Rb,Rc,Rd,Re,Rf,Rg,Rh,Ri,Rj,Rk,Rm,Rn,Ro,Rp,Rq,Rs,Ya,Yb,Yc,Rt,Ru,Za,Yd,Ye,Rx,Ry,Rz,Wa,Wb,Wc,Wd]
 refine CT hE (hb.old o1) (by omega) fun s2 v2 o2 r2=>?_
 have t1:=Eb la
 have t2:=Eb lb
 have R1:NR s.next s2 v1 (AR (AG la)):=by have:=r1.old o2;rw[Bq hsa]at this;exact this
 have R2:NR s.next s2 v2 (AR (AG lb)):=by have:=r2.mono o1.1;rw[Bq hsb]at this;exact this
 rw[Bq hsa]at t1
 rw[Bq hsb]at t2
 have o12:=o1.trans (o2.mono o1.1)
 simp only[Qa,Qb,Qc,Qd,Qe,Qf,Qg,Qh,Qi,Qj,Qk,Ql,Qm,Qn,true_and,and_true,Qo,Qp,Qq,Qr,Qs,Qt,Qu,Qv,Qw,Qx,Qy,Qz,Ra,Rb,Rc,Rd,Re,Rf,Rg,Rh,Ri,Rj,Rk,Rm,Rn,Ro,Rp,Rq,Rs,Ya,Yb,Yc,Rt,Ru,Za,Yd,Ye,Rx,Ry,Rz,Wa,Wb,Wc,Wd]
 refine Xt (s:=s) hE _ (AG lb+1) _ _ s2 v1 v2 _ _ (og _) o12 o12.1 R1 R2 (by omega) (by omega) fun S va vb y3 y4 hS hr=>?_
 simp only[dV,if_true,Qa,Qb,Qc,Qd,Qe,Qf,Qg,Qh,Qi,Qj,Qk,Ql,Qm,Qn,true_and,and_true,Qo,Qp,Qq,Qr,Qs,Qt,Qu,Qv,Qw,Qx,Qy,Qz,Ra,Rb,Rc,Rd,Re,Rf,Rg,Rh,Ri,Rj,Rk,Rm,Rn,Ro,Rp,Rq,Rs,Ya,Yb,Yc,Rt,Ru,Za,Yd,Ye,Rx,Ry,Rz,Wa,Wb,Wc,Wd]
 exact hK S va hS hr
end
theorem Mi:∀ (l w:List Nat),l.zip (w.take l.length)=l.zip w
 | [],w=>by simp
 | x::l,[]=>by simp
 | x::l,y::w=>by rw[oV,List.take_succ_cons,qA,qA,Mi l w]
structure TK(la lb cu:List Nat)(i:Nat):Prop where
 len:cu.length=la.length+lb.length
 sm:Bl cu
 val:AG cu=AG (la.take i) * AG lb
 zero:cu.drop (i+lb.length)=List.replicate (la.length - i) 0
theorem TK.step{la lb cu:List Nat}{i x:Nat}(h:TK la lb cu i)(hx:la[i]? = some x)(hxs:x<LB)(hb:Bl lb):
  TK la lb (FT cu i ((FJ x (lb.zip (cu.drop i)) 0).1++[(FJ x (lb.zip (cu.drop i)) 0).2])) (i+1):=by
 obtain⟨h1,h2,h3,h4⟩:=h
 have hi:i<la.length:=(List.getElem?_eq_some_iff.1 hx).1
 have hz:lb.zip (cu.drop i)=lb.zip ((cu.drop i).take lb.length):=(Mi _ _).symm
 rw[hz]
 have hwl:((cu.drop i).take lb.length).length=lb.length:=by rw[oO,oh];omega
 have hv:=Ou x (lb.zip ((cu.drop i).take lb.length)) 0
 have hl:=Ku x (lb.zip ((cu.drop i).take lb.length)) 0
 have hzl:(lb.zip ((cu.drop i).take lb.length)).length=lb.length:=by rw[p8,hwl,Nat.min_self]
 obtain⟨c1,c2⟩:=HP (x:=x) (P:=lb.zip ((cu.drop i).take lb.length)) (c:=0) hxs (fun p hp=>by
  have:=List.of_mem_zip (a:=p.1) (b:=p.2) hp
  exact⟨hb _ this.1,(h2.drop i).take lb.length _ this.2⟩) BF
 rw[Nq hwl.symm,Nr hwl.symm,hzl]at hv
 rw[hzl]at hl
 generalize FJ x (lb.zip ((cu.drop i).take lb.length)) 0=T at *
 obtain⟨T1,T2⟩:=T
 simp only at *
 have hdl:(T1++[T2]).length=lb.length+1:=by rw[oI,hl];rfl
 have hd0:cu.drop (i+(lb.length+1))=List.replicate (la.length - (i+1)) 0:=by
  rw[← oY,← pF,h4,List.drop_replicate]
  congr 1
 have hcu:AG cu=AG (cu.take i)+LB ^ i * AG ((cu.drop i).take lb.length):=by
  have e1:cu=cu.take i++((cu.drop i).take lb.length++cu.drop (i+lb.length)):=by
   rw[← pF,pn,pn]
  have e2:=congrArg AG e1
  rw[BN,h4,BN,Gz,pI,oM,oO,px (by omega)]at e2
  exact e2
 have hta:AG (la.take (i+1))=AG (la.take i)+LB ^ i * x:=by
  rw[List.take_add_one,hx,BN,oO,px (by omega)]
  simp[AG]
 refine⟨?_,?_,?_,?_⟩
 ·rw[Gl (by rw[hdl];omega)];exact h1
 ·unfold FT
  refine((h2.take i).append (c2.append fun y hy=>?_)).append (h2.drop _)
  rw[List.mem_singleton.1 hy];exact c1
 ·unfold FT
  rw[hdl,hd0,BN,Gz,pI,oM,BN,BN,hl,hta,oO,px (by omega)]
  have e3:AG [T2]=T2:=by simp[AG]
  rw[e3,hv,oQ,← h3,hcu,oM,oW,oR]
  omega
 ·unfold FT
  rw[show i+1+lb.length=(cu.take i++(T1++[T2])).length by simp[hl];omega,List.drop_left,hdl]
  exact hd0
section
variable{E:CP}{s:AD}
theorem Yq{s1:AD}{x:Nat}(hxs:x<4294967296){ui off N:Nat}{cu w:List Nat}(hN:N=cu.length)(hcu:off+w.length≤cu.length)(hcl:cu.length≤100000000000)(hsu:Bl cu)(hsw:Bl w){a9:Option (Nat×Nat)}{c9:Option Nat}{b:Nat}(hc9:AZ b s1 a9 (us w))(h9:b≤ui)
    {T:List Nat×Nat} {Q:A5→Prop} (y0 y1 y2 y9 y10 y11 y12:AV)
    (hq:∀ (s':AD) (y7 y8 y15 y16:AV),ED s1 s' ui none→Cy s' ui (us (FT cu off T.1)) none →
      Q ⟨.exit 2,[y0,y1,y2,.slice (some (ui,0)) N (some N),iv (off:Int),Bf x,Ag T.2,y7,y8,y9,y10,y11,y12,.slice a9 w.length c9,iv (w.length:Int),y15,y16],[],s'⟩):
    ∀ (r : List Nat) (s' : AD)  (c : Nat) (d : List Nat) (x7 x8 x16 : AV), w.drop d.length = r → d.length ≤ w.length → ED    s1 s' ui none → c < 4294967296 →
      (d++(FJ x (r.zip (cu.drop (off+d.length))) c).1,(FJ x (r.zip (cu.drop (off+d.length))) c).2)=T→Cy s' ui (us (FT cu off d)) none →
      WC E none (.loop KG) Q [y0,y1,y2,.slice (some (ui,0)) N (some N),iv (off:Int),Bf x,Ag c,x7,x8,y9,y10,y11,y12,.slice a9 w.length c9,iv (w.length:Int),iv (d.length:Int),x16] [] s':=by
  subst hN
  intro r
  induction r with
  | nil =>
    intro s' c d x7 x8 x16 hd hk ho hc hT hg
    have hkl:d.length=w.length:=by
      have:=congrArg List.length hd
      simp at this
      omega
    rw[List.zip_nil_left]at hT
    simp only[FJ,pz]at hT
    have dd:decide ((d.length:Int)<(w.length:Int))=false:=decide_eq_false (by omega)
    refine WC.loop' ?_
    simp only[KG,Wj,Rx,dd,Qa,Qb,Qc,Qd,Qe,Qf,Qg,Qh,Qi,Qj,Qk,Ql,Qm,Qn,true_and,and_true,Qo,Qp,Qq,Qr,Qs,Qt,Qu,Qv,Qw,Qx,Qy,Qz,Ra,Rb,Rc,Rd,Re,Rf,Rg,Rh,Ri,Rj,Rk,Rm,Rn,Ro,Rp,Rq,Rs,Ya,Yb,Yc,Rt,Ru,Za,Yd,Ye,Rx,Ry,Rz,Wa,Wb,Wc,Wd]
    subst hT
    exact hq s' _ _ _ _ ho hg
  | cons y r ih =>
    intro s' c d x7 x8 x16 hd hk ho hc hT hg
    have hlt:d.length<w.length:=by
      rcases nm d.length w.length with h' | h'
      · exact h'
      · rw[oo h']at hd;cases hd
    have hy:w[d.length]? = some y:=by
      have:=congrArg (fun l=>l[0]?) hd
      simpa using this
    have hd':w.drop (d.length+1)=r:=by
      have:=congrArg (List.drop 1) hd
      simpa[pF]using this
    have hys:y<4294967296:=hsw y (oP hy)
    have hlu:off+d.length<cu.length:=by omega
    have hu:cu[off+d.length]? = some cu[off+d.length]:=nr hlu
    have hdu:cu.drop (off+d.length)=cu[off+d.length]::cu.drop (off+(d.length+1)):=ol hlu
    generalize cu[off+d.length]=u at hu hdu
    have hus:u<4294967296:=hsu u (oP hu)
    rw[hdu,qA]at hT
    simp only[FJ]at hT
    obtain⟨i,o,rfl,hi,hload⟩:=hc9 d.length _ (Da hy)
    have hne:i≠ui:=by omega
    have hkk:decide ((d.length:Int)<(w.length:Int))=true:=decide_eq_true (by omega)
    have e1:=An (cap:=c9) (i:=i) (o:=o) Tryz.underlying22 Ct hlt
    have e2:AC Tryz.prog s' 76 (.ptr (some (i,o+d.length * 1)))=some (Bf y):=CM Hm (by rw[oD,D7 (ho.get i hne (by simp))];exact hload)
    have e0:=Bh Tryz.prog 3 (off:Int) (d.length:Int) ⟨by omega,by omega⟩
    have e0':((off:Int)+(d.length:Int))=((off+d.length:Nat):Int):=by omega
    have e5:=An (cap:=some cu.length) (i:=ui) (o:=0) Tryz.underlying22 Ct hlu
    have hcell:(us (FT cu off d))[0+(off+d.length) * 1]? = some (Bf u):=by rw[oD,oG];exact Da ((NL hlu).trans hu)
    have e6:=Km (P:=Tryz.prog) (t:=76) Hm hg hcell
    have hxy:x * y≤4294967295 * 4294967295:=oq (by omega) (by omega)
    have e3:=Pf Tryz.prog 69 (a:=x) (b:=y) (by omega)
    have e3':=HD Tryz.prog 69 (a:=x * y) (b:=u) (by omega)
    have e4:=HD Tryz.prog 69 (a:=c) (b:=x * y+u) (by omega)
    have hLB:LB=4294967296:=rfl
    rw[hLB]at hT
    generalize hc1:c+(x * y+u)=c1 at hT e4
    have hc1b:c1<18446744073709551616:=by omega
    have e7:=JV Tryz.prog 69 hc1b
    have e11:c1 % 4294967296 % 4294967296=c1 % 4294967296:=qB _ _
    have e15:AT Tryz.prog .shr 69 (Ag c1) (.int .u64 32)=some (Ag (c1 / 4294967296)):=IU Tryz.prog 69 (k:=.u64) (n:=32) (by decide)
    have hcq:c1 / 4294967296<4294967296:=by omega
    generalize hx:c1 % 4294967296=z at hT e7 e11
    have hlm:0+(off+d.length) * 1<(us (FT cu off d)).length:=by rw[Cl,Gl (by omega)];omega
    obtain⟨s2,e16,w1,w2,w3⟩:=FR (P:=Tryz.prog) (t:=76) (v:=Bf z) Ct hg hlm rfl
    rw[oD,oG]at e16
    rw[oD,oG,I5,Ju hlu]at w1
    rw[oD,oG]at e5 e6
    have e17:=Bh Tryz.prog 3 (d.length:Int) 1 ⟨by omega,by omega⟩
    have e17':((d.length:Int)+1)=((d.length+1:Nat):Int):=by omega
    refine WC.loop' ?_
    generalize hW:WC E none (Af.loop KG) Q=WW
    simp only[KG,Wj,dw,dx,WU,WV,WX,Rx,hkk,e0,e0',e1,e2,e5,e6,Bi hus,Bi hys,Bi hxs,e3,e3',e4,e7,Bx,e11,e16,e15,e17,e17',Xx,Xz,Qa,Qb,Qc,Qd,Qe,Qf,Qg,Qh,Qi,Qj,Qk,Ql,Qm,Qn,true_and,and_true,Qo,Qp,Qq,Qr,Qs,Qt,Qu,Qv,Qw,Qx,Qy,Qz,Ra,Rb,Rc,Rd,Re,Rf,Rg,Rh,Ri,Rj,Rk,Rm,Rn,Ro,Rp,Rq,Rs,Ya,Yb,Yc,Rt,Ru,Za,Yd,Ye,Rx,Ry,Rz,Wa,Wb,Wc,Wd]
    rw[← hW]
    have hlen1:(d++[z]).length=d.length+1:=by rw[oI];rfl
    have key:=ih s2 (c1 / 4294967296) (d++[z])
    rw[hlen1]at key
    exact key _ _ _ hd' hlt (ho.step w2 w3) hcq (by rw[oX];exact hT) w1
end
section
variable{E:CP}{s:AD}
theorem YE       {s1 : AD}  {qi : Nat} {a b : Option (Nat × Nat)} {ca cb : Option Nat} {la lb : List Nat} (hca : AZ      qi s1 a (us la)) (hcb : AZ      qi s1 b (us lb)) (hla : la.length ≤ 10000000000) (hlb : lb.length ≤ 10000000000) (hsa : Bl  la) (hsb : Bl  lb) {Q : A5   → Prop} (y2 : AV)
    (hq:∀ (s':AD) (cu:List Nat) (y4 y5 y6 y7 y8 y11 y12 y13 y14 y15 y16:AV),ED s1 s' qi none→Cy s' qi (us cu) none→TK la lb cu la.length →
      Q ⟨.exit 0,[.slice a la.length ca,.slice b lb.length cb,y2,.slice (some (qi,0)) (la.length+lb.length) (some (la.length+lb.length)),y4,y5,y6,y7,y8,.slice a la.length ca,iv (la.length:Int),y11,y12,y13,y14,y15,y16],[],s'⟩):
    ∀ (k i:Nat) (s':AD) (cu:List Nat) (x4 x5 x6 x7 x8 x12 x13 x14 x15 x16:AV),i+k=la.length→ED s1 s' qi none→Cy s' qi (us cu) none→TK la lb cu i →
      WC E none (.loop KH) Q [.slice a la.length ca,.slice b lb.length cb,y2,.slice (some (qi,0)) (la.length+lb.length) (some (la.length+lb.length)),x4,x5,x6,x7,x8,.slice a la.length ca,iv (la.length:Int),iv (i:Int),x12,x13,x14,x15,x16] [] s':=by
  intro k
  induction k with
  | zero =>
    intro i s' cu x4 x5 x6 x7 x8 x12 x13 x14 x15 x16 hik ho hg hm
    have e:i=la.length:=by omega
    subst e
    have dd:decide ((la.length:Int)<(la.length:Int))=false:=decide_eq_false (by omega)
    refine WC.loop' ?_
    simp only[KH,Wi,Rx,dd,Qa,Qb,Qc,Qd,Qe,Qf,Qg,Qh,Qi,Qj,Qk,Ql,Qm,Qn,true_and,and_true,Qo,Qp,Qq,Qr,Qs,Qt,Qu,Qv,Qw,Qx,Qy,Qz,Ra,Rb,Rc,Rd,Re,Rf,Rg,Rh,Ri,Rj,Rk,Rm,Rn,Ro,Rp,Rq,Rs,Ya,Yb,Yc,Rt,Ru,Za,Yd,Ye,Rx,Ry,Rz,Wa,Wb,Wc,Wd]
    exact hq s' cu _ _ _ _ _ _ _ _ _ _ _ ho hg hm
  | succ k ih =>
    intro i s' cu x4 x5 x6 x7 x8 x12 x13 x14 x15 x16 hik ho hg hm
    have hi:i<la.length:=by omega
    have hx:la[i]? = some la[i]:=nr hi
    generalize la[i]=x at hx
    have hxs:x<4294967296:=hsa x (oP hx)
    have hstep:=hm.step hx hxs hsb
    obtain⟨pi,o,rfl,hpi,hload⟩:=hca i _ (Da hx)
    have dd:decide ((i:Int)<(la.length:Int))=true:=decide_eq_true (by omega)
    have e1:=An (cap:=ca) (i:=pi) (o:=o) Tryz.underlying22 Ct hi
    have e2:AC Tryz.prog s' 76 (.ptr (some (pi,o+i * 1)))=some (Bf x):=CM Hm (by rw[oD,D7 (ho.get pi (by omega) (by simp))];exact hload)
    have hTl:(FJ x (lb.zip (cu.drop i)) 0).1.length=lb.length:=by
      rw[Ku,p8,oh,hm.len];omega
    generalize hT:FJ x (lb.zip (cu.drop i)) 0=T at *
    have hlen:=hm.len
    have hil:i+T.1.length<cu.length:=by omega
    refine WC.loop' ?_
    generalize hW:WC E none (Af.loop KH) Q=WW
    simp only[KH,Wi,dr,du,dv,AU Tryz.underlying22,Rx,dd,e1,e2,Qa,Qb,Qc,Qd,Qe,Qf,Qg,Qh,Qi,Qj,Qk,Ql,Qm,Qn,true_and,and_true,Qo,Qp,Qq,Qr,Qs,Qt,Qu,Qv,Qw,Qx,Qy,Qz,Ra,Rb,Rc,Rd,Re,Rf,Rg,Rh,Ri,Rj,Rk,Rm,Rn,Ro,Rp,Rq,Rs,Ya,Yb,Yc,Rt,Ru,Za,Yd,Ye,Rx,Ry,Rz,Wa,Wb,Wc,Wd]
    refine Yq (s1:=s1) (x:=x) hxs (ui:=qi) (off:=i) (N:=la.length+lb.length) (cu:=cu) (w:=lb) (a9:=b) (c9:=cb) (b:=qi) hm.len.symm (by omega) (by omega) hm.sm hsb hcb (nl _) (T:=T) _ _ _ _ _ _ _ (fun s2 y7 y8 y15 y16 ho2 hg2=>?_) lb s' 0 [] _ _ _ rfl (oB _) ho (by decide) (by rw[← hT];rfl) (by rw[NM];exact hg)
    have e3:=Bh Tryz.prog 3 (i:Int) (lb.length:Int) ⟨by omega,by omega⟩
    have e3':((i:Int)+(lb.length:Int))=((i+lb.length:Nat):Int):=by omega
    have e4:=An (cap:=some (la.length+lb.length)) (i:=qi) (o:=0) Tryz.underlying22 Ct (show i+lb.length<la.length+lb.length by omega)
    have hT2:T.2<4294967296:=by
      rw[← hT]
      exact(HP (x:=x) hxs (fun p hp=>by
        have:=List.of_mem_zip (a:=p.1) (b:=p.2) hp
        exact⟨hsb _ this.1,hm.sm.drop i _ this.2⟩) BF).1
    have e5:T.2 % 4294967296=T.2:=oe hT2
    have hlm:0+(i+lb.length) * 1<(us (FT cu i T.1)).length:=by rw[Cl,Gl (by omega)];omega
    obtain⟨s3,e16,w1,w2,w3⟩:=FR (P:=Tryz.prog) (t:=76) (v:=Bf T.2) Ct hg2 hlm rfl
    rw[oD,oG]at e16 e4
    rw[oD,oG,I5,← hTl,Ju hil]at w1
    have e17:=Bh Tryz.prog 3 (i:Int) 1 ⟨by omega,by omega⟩
    have e17':((i:Int)+1)=((i+1:Nat):Int):=by omega
    simp only[WY,WZ,if_true,AU Tryz.underlying22,Bx,e3,e3',e4,e5,e16,e17,e17',Xx,Xz,Qa,Qb,Qc,Qd,Qe,Qf,Qg,Qh,Qi,Qj,Qk,Ql,Qm,Qn,true_and,and_true,Qo,Qp,Qq,Qr,Qs,Qt,Qu,Qv,Qw,Qx,Qy,Qz,Ra,Rb,Rc,Rd,Re,Rf,Rg,Rh,Ri,Rj,Rk,Rm,Rn,Ro,Rp,Rq,Rs,Ya,Yb,Yc,Rt,Ru,Za,Yd,Ye,Rx,Ry,Rz,Wa,Wb,Wc,Wd]
    rw[← hW]
    exact ih (i+1) s3 _ _ _ _ _ _ _ _ _ _ _ (by omega) (ho2.step w2 w3) w1 hstep
theorem Q7(hE:GoodN E){va vb:AV}{la lb:List Nat}(ha:Cv s va la)(hb:Cv s vb lb)(hla:la.length≤1000000000)(hlb:lb.length≤1000000000)(hsa:Bl la)(hsb:Bl lb){K:AV→AD→Prop}
  (hK:∀s' v,Ac s.next s s'→NR s.next s' v (AR (AG la * AG lb))→K v s'):WF E 51 [va,vb] K s:=by
 obtain⟨a,ca,rfl,hcapa,hca⟩:=ha
 obtain⟨b,cb,rfl,hcapb,hcb⟩:=hb
 have e0:=Bh Tryz.prog 3 (la.length:Int) (lb.length:Int) ⟨by omega,by omega⟩
 have e0':((la.length:Int)+(lb.length:Int))=((la.length+lb.length:Nat):Int):=by omega
 have e1:=NJ (la.length+lb.length) (by omega)
 have ho:=Ac.new s (R 76 1 false (us (List.replicate (la.length+lb.length) 0)))
 refine hE.go ir (by decide) rfl ?_
 simp only[nG,di,dk,dm,AU Tryz.underlying22,e0,e0',e1,Xx,Xd,Qa,Qb,Qc,Qd,Qe,Qf,Qg,Qh,Qi,Qj,Qk,Ql,Qm,Qn,true_and,and_true,Qo,Qp,Qq,Qr,Qs,Qt,Qu,Qv,Qw,Qx,Qy,Qz,Ra,Rb,Rc,Rd,Re,Rf,Rg,Rh,Ri,Rj,Rk,Rm,Rn,Ro,Rp,Rq,Rs,Ya,Yb,Yc,Rt,Ru,Za,Yd,Ye,Rx,Ry,Rz,Wa,Wb,Wc,Wd]
 have hg0:(newObj s (R 76 1 false (us (List.replicate (la.length+lb.length) 0)))).heap.get s.next=some (R 76 1 false (us (List.replicate (la.length+lb.length) 0))):=by
  rw[AO,if_pos rfl]
 have hR0:TK la lb (List.replicate (la.length+lb.length) 0) 0:=by
  refine⟨by simp,fun x hx=>by rw[List.eq_of_mem_replicate hx];exact BF,?_,?_⟩
  ·rw[Gz,pr]
   show 0=0 * _
   rw[pO]
  ·rw[List.drop_replicate]
   congr 1
   omega
 refine YE (s1:=newObj s (R 76 1 false (us (List.replicate (la.length+lb.length) 0)))) (qi:=s.next) (hca.old ho (nl _)) (hcb.old ho (nl _)) (by omega) (by omega) hsa hsb _
  (fun s' cu y4 y5 y6 y7 y8 y11 y12 y13 y14 y15 y16 o' hg' hm=>?_) la.length 0 _ _ _ _ _ _ _ _ _ _ _ _ (by omega) (ED.refl _ _ _) (Cy.of_R hg0) hR0
 have hsn:s'.next=s.next+1:=o'.next
 have hq:Cv s' (.slice (some (s.next,0)) (la.length+lb.length) (some (la.length+lb.length))) cu:=
  ⟨some (s.next,0),some (la.length+lb.length),by rw[hm.len],.inl ⟨_,rfl,by have:=hm.len;omega,fun e=>by cases e⟩,Ie hg' (by omega)⟩
 simp only[Wh,if_true,Qa,Qb,Qc,Qd,Qe,Qf,Qg,Qh,Qi,Qj,Qk,Ql,Qm,Qn,true_and,and_true,Qo,Qp,Qq,Qr,Qs,Qt,Qu,Qv,Qw,Qx,Qy,Qz,Ra,Rb,Rc,Rd,Re,Rf,Rg,Rh,Ri,Rj,Rk,Rm,Rn,Ro,Rp,Rq,Rs,Ya,Yb,Yc,Rt,Ru,Za,Yd,Ye,Rx,Ry,Rz,Wa,Wb,Wc,Wd]
 refine CT hE hq (by have:=hm.len;omega) fun s2 v2 o2 r2=>?_
 rw[Bq hm.sm,hm.val,List.take_length]at r2
 simp only[Qa,Qb,Qc,Qd,Qe,Qf,Qg,Qh,Qi,Qj,Qk,Ql,Qm,Qn,true_and,and_true,Qo,Qp,Qq,Qr,Qs,Qt,Qu,Qv,Qw,Qx,Qy,Qz,Ra,Rb,Rc,Rd,Re,Rf,Rg,Rh,Ri,Rj,Rk,Rm,Rn,Ro,Rp,Rq,Rs,Ya,Yb,Yc,Rt,Ru,Za,Yd,Ye,Rx,Ry,Rz,Wa,Wb,Wc,Wd]
 exact hK s2 v2 (ho.trans (Ac.trans ⟨by have:s.next≤(newObj s (R 76 1 false (us (List.replicate (la.length+lb.length) 0)))).next:=ot _;have:=o'.next;omega,fun j hj=>o'.get j (by omega) (by simp)⟩ (o2.mono (by omega)))) (r2.mono (by omega))
end
end
end Go.Proofs.YtjnkfbpadpmakaaGreatDoor.Am
set_option linter.unusedVariables false
set_option linter.unusedSimpArgs false
namespace Go.Proofs.YtjnkfbpadpmakaaGreatDoor.Am
open Go Go.Proofs
noncomputable section
theorem DK{s s':AD}{l:Nat}(h:s'.heap.get l=s.heap.get l):BC s' l=BC s l:=by unfold BC;rw[h]
theorem CQ(s:AD)(l:Nat)(r:C4):BC (setObj s l (.loop r)) l=some r:=by unfold BC;rw[Kb,if_pos rfl]
def J0(Q:A5→Prop)(var:List AV)(marks:List Nat)(s:AD)(pd:Option Code):Prop:=match pd with
 | none=>Q ⟨.normal,var,marks,s⟩
 | some .ret=>Q ⟨.ret,var,marks,s⟩
 | some (.exit id)=>Q ⟨.exit id,var,marks,s⟩
 | some _=>False
theorem YV{Q:A5→Prop}{var:List AV}{marks:List Nat}{s:AD}{pd:Option Code}(h:J0 Q var marks s pd):∃r,GA var marks s pd=some r∧Q r:=by
 unfold J0 at h
 unfold GA
 split at h
 ·exact⟨_,rfl,h⟩
 ·exact⟨_,rfl,h⟩
 ·exact⟨_,rfl,h⟩
 ·exact h.elim
def Gj(fn:FuncId)(var:List AV)(ps:Array Tmp)(a b:Code)(dfr:Nat):C4:={ state:=.ready,pending:=none,fn,var,params:=ps,assign:=a,body:=b,dfr }
theorem WC.range{E:CP}{Q:A5→Prop}{var:List AV}{marks:List Nat}{s:AD}{fn:FuncId}{f:CX}{ps:Array Tmp}{a b:Code}{g:FuncId}{first cap:List AV}(hf:Co [] var f=.func g first cap)
  (h:WF E g (first++([.yield (s.next+1)]++cap)) (fun _ s'=>∃r,BC s' (s.next+1)=some r∧QX r.state=false∧J0 Q var (s.next::marks) (setObj s' (s.next+1) (.loop { r with state:=.exhausted })) r.pending)
   (newObj (newObj s .mark) (.loop (Gj fn var ps a b s.next)))):WC E none (.rangeFunc fn f ps a b) Q var marks s:=by
 obtain⟨n,p,h1,r,h2,h3,h4⟩:=h
 obtain⟨res,h5,h6⟩:=YV h4
 refine⟨n+1,res,?_,h6⟩
 show Cc (Dr E n) none (.rangeFunc fn f ps a b) var marks s=some res
 simp only[Cc,KM,Ev,Gd,hf,GD]
 have e:(newObj s .mark).next=s.next+1:=rfl
 rw[e]
 have h1':=h1
 unfold Gj at h1'
 rw[h1']
 simp only[Option.bind_some,h2,h3,cond_false,h5]
theorem WR.round{E:CP}{K:AV→AD→Prop}{l:Nat}{xs:List AV}{s:AD}{r:C4}{var:List AV}{ca cb:Af}(h1:BC s l=some r)(h2:Cu (C3 E.P r.fn) r.var r.params.toList xs=some var)
  (h3:Di E.P r.fn r.assign=some ca) (h4:Di E.P r.fn r.body=some cb)
  (h:WC E (some l) ca (fun q=>q.exit=.normal∧∃r',BC q.st l=some r'∧Jo r'.state=true ∧
   WC E (some l) cb (fun q2=>∃r'',BC q2.st l=some r''∧K (.bool (C9 q2.exit).isNone) (setObj q2.st l (.loop { r'' with state:=Gv (C9 q2.exit),pending:=C9 q2.exit }))) q.var q.marks (setObj q.st l (.loop { r' with state:=.busy }))) var [] s):WR E l xs K s:=by
 obtain⟨n,q,g1,g2,r',g3,g4,m,q2,g5,r'',g6,g7⟩:=h
 refine⟨max n m+1,(_,_),?_,g7⟩
 show JU E (Dr E (max n m)) l xs s=_
 simp only[JU,h1,Option.bind_some,h2,h3,h4,Gr,(Fk E (Nat.le_max_left n m)).code g1,g2,H0,cond_true,g3,g4,IM,(Fk E (Nat.le_max_right n m)).code g5,g6]
 rfl
def CD:Code→List (Code×Code)
 | .seq x y=>CD x++CD y
 | .cond _ x y=>CD x++CD y
 | .block _ c=>CD c
 | .loop c=>CD c
 | .scope c=>CD c
 | .rangeFunc _ _ a b=>CD a++CD b++[(a,b)]
 | _=>[]
def E0 (f k:Nat):Code×Code:=(((Tryz.prog.funcs[f]?).bind fun fn=>fn.body.bind fun c=>(CD c)[k]?)).getD (.skip,.skip)
end
end Go.Proofs.YtjnkfbpadpmakaaGreatDoor.Am
set_option linter.unusedVariables false
set_option linter.unusedSimpArgs false
set_option maxRecDepth 100000
namespace Go.Proofs.YtjnkfbpadpmakaaGreatDoor.Am
open Go Go.Proofs
noncomputable section
def Vt:List AA:=[
 ⟨none,.mk (fun l=>match l with | [v]=>Be 22 v | _=>none),[.var 0],(.set 2),[]⟩,
 ⟨none,.mk (fun l=>match l with | [v]=>Be 22 v | _=>none),[.var 1],(.set 3),[]⟩,
 ⟨none,.p1 some,[(.const .nilFunc)],(.set 4),[]⟩]
def Vu:List AA:=[
 ⟨none,.mk (fun l=>match l with | []=>Ab Tryz.prog 197 | _=>none),[],(.set 5),[]⟩,
 ⟨none,.e (fun s=>Xx (fun a x=>Xz (AK Tryz.prog s 197 a x))),[(.var 5),(.const (.func 187 [] []))],.push,[]⟩]
def Vv:List AA:=[
 ⟨none,.p (fun l=>some (.func 188 (l.take 0) (l.drop 0))),[.var 2,.var 3,.var 5],.push,[]⟩,
 ⟨none,.p1 some,[.loc 0],(.set 4),[]⟩]
def kP:Ao:=⟨2,6,(.seq (.ops Vt) (.seq (.ops Vu) (.seq (.ops Vv) .ret))),[((.var 4),none)]⟩
def P4:List AA:=[
 ⟨none,.p1 some,[(.const (.int .u64 (0)))],(.set 2),[]⟩]
def P5:List AA:=[
 ⟨none,.r (fun s l=>match l with | [x]=>BZ Tryz.prog s 22 x | _=>none),[.var 0],.push,[]⟩,
 ⟨none,.p2 (AT Tryz.prog .geq 3),[.var 1,.loc 0],(.set 3),[]⟩]
def Vw:List AA:=[
 ⟨none,.p1 some,[(.const (.int .u64 (0)))],(.set 2),[]⟩]
def Vx:List AA:=[
 ⟨none,.p2 (AM Tryz.prog 22),[.var 0,.var 1],.push,[]⟩,
 ⟨none,.r1 (fun s a=>AC Tryz.prog s 76 a),[.loc 0],.push,[]⟩,
 ⟨none,.r1 (fun s x=>As Tryz.prog s 76 69 x),[.loc 0],.push,[]⟩,
 ⟨none,.p1 some,[.loc 0],(.set 2),[]⟩]
def iL:Ao:=⟨2,4,(.seq (.ops P4) (.seq (.seq (.ops P5) (.cond (.var 3)
 (.seq (.ops Vw) .ret)
 .skip)) (.seq (.ops Vx) .ret))),[((.var 2),none)]⟩
def Vy:List AA:=[
 ⟨none,.r1 (fun s a=>AC Tryz.prog s 22 a),[.var 1],.push,[]⟩,
 ⟨none,.r (fun s l=>match l with | [x]=>BZ Tryz.prog s 22 x | _=>none),[.loc 0],.push,[]⟩,
 ⟨none,.r1 (fun s a=>AC Tryz.prog s 22 a),[.var 2],.push,[]⟩,
 ⟨none,.r (fun s l=>match l with | [x]=>BZ Tryz.prog s 22 x | _=>none),[.loc 0],.push,[]⟩,
 ⟨none,.p (fun l=>match l with | v::l=>B3 true v l | []=>none),[.loc 2,.loc 0],(.set 5),[]⟩,
 ⟨none,.p1 some,[(.const (.int .i64 (0)))],(.set 6),[]⟩]
def P6:List AA:=[
 ⟨none,.p2 (AT Tryz.prog .lss 3),[.var 6,.var 5],(.set 7),[]⟩]
def Vz:List AA:=[
 ⟨none,.p1 some,[.var 6],(.set 4),[]⟩]
def V0:List AA:=[
 ⟨none,.r1 (fun s a=>AC Tryz.prog s 197 a),[.var 3],.push,[]⟩,
 ⟨none,.r1 (fun s a=>AC Tryz.prog s 22 a),[.var 1],.push,[]⟩,
 ⟨none,.r1 (fun s a=>AC Tryz.prog s 197 a),[.var 3],.push,[]⟩,
 ⟨none,.r1 (fun s a=>AC Tryz.prog s 22 a),[.var 2],.push,[]⟩,
 ⟨none,.callv,[.loc 3,.loc 2,.var 4],.push,[⟨none,.r1 (fun s a=>AC Tryz.prog s 22 a),[.var 2],(.loc 1)⟩,⟨none,.r1 (fun s a=>AC Tryz.prog s 197 a),[.var 3],(.loc 2)⟩]⟩,
 ⟨none,.callv,[.loc 2,.loc 1,.var 4],.push,[]⟩,
 ⟨none,.callv,[.var 0,.loc 1,.loc 0],.push,[]⟩,
 ⟨none,.p1 (UH Tryz.prog Go.UnOp.not),[.loc 0],(.set 8),[]⟩]
def V1:List AA:=[
 ⟨none,.p2 (AT Tryz.prog .add 3),[(.var 6),(.const (.int .i64 (1)))],.push,[]⟩,
 ⟨none,.p1 some,[.loc 0],(.set 6),[]⟩]
def KE:Af:=(.seq (.ops P6) (.seq (.cond (.var 7)
 .skip
 (.exit 0)) (.seq (.block 1 (.seq (.ops Vz) (.seq (.ops V0) (.cond (.var 8)
 .ret
 .skip)))) (.ops V1))))
def kQ:Ao:=⟨4,9,(.seq (.ops Vy) (.block 0 (.loop KE))),[]⟩
def Vk:List AA:=[
 ⟨none,.p1 some,[(.const (.slice none 0 (some 0)))],(.set 1),[]⟩]
def Vl:List AA:=[
 ⟨none,.p1 some,[.var 0],(.set 7),[]⟩,
 ⟨none,.r (fun s l=>match l with | [x]=>BZ Tryz.prog s 196 x | _=>none),[.var 7],(.set 8),[]⟩,
 ⟨none,.p1 some,[(.const (.int .i64 (0)))],(.set 9),[]⟩]
def P2:List AA:=[
 ⟨none,.p2 (AT Tryz.prog .lss 3),[.var 9,.var 8],(.set 10),[]⟩]
def Vm:List AA:=[
 ⟨none,.p2 (AM Tryz.prog 196),[.var 7,.var 9],.push,[]⟩,
 ⟨none,.r1 (fun s a=>AC Tryz.prog s 22 a),[.loc 0],.push,[]⟩,
 ⟨none,.p1 some,[.loc 0],(.set 2),[]⟩]
def Vn:List AA:=[
 ⟨none,.mk (fun l=>match l with | []=>Ab Tryz.prog 22 | _=>none),[],(.set 3),[]⟩]
def Vo:List AA:=[
 ⟨none,.mk (fun l=>match l with | []=>Ab Tryz.prog 69 | _=>none),[],(.set 4),[]⟩,
 ⟨none,.e (fun s=>Xx (fun a x=>Xz (AK Tryz.prog s 69 a x))),[(.var 4),(.const (.int .u64 (0)))],.push,[]⟩]
def Vp:List AA:=[
 ⟨none,.call 174,[.var 1,.var 2],(.set 11),[]⟩]
def Vq:List AA:=[
 ⟨none,.p1 some,[.var 12],(.set 5),[]⟩]
def Vr:List AA:=[
 ⟨none,.p1 some,[.var 13],(.set 6),[]⟩]
def Vs:List AA:=[
 ⟨none,.r1 (fun s a=>AC Tryz.prog s 69 a),[.var 4],.push,[]⟩,
 ⟨none,.p2 (AT Tryz.prog .add 69),[.var 5,.var 6],.push,[]⟩,
 ⟨none,.p2 (AT Tryz.prog .add 69),[.loc 1,.loc 0],.push,[]⟩,
 ⟨none,.e (fun s=>Xx (fun a x=>Xz (AK Tryz.prog s 69 a x))),[.var 4,.loc 0],.push,[]⟩]
def SJ:List AA:=[
 ⟨none,.r1 (fun s a=>AC Tryz.prog s 22 a),[.var 3],.push,[]⟩,
 ⟨none,.r1 (fun s a=>AC Tryz.prog s 69 a),[.var 4],.push,[]⟩,
 ⟨none,.p2 (AT Tryz.prog .and 69),[(.loc 0),(.const (.int .u64 (4294967295)))],.push,[]⟩,
 ⟨none,.r1 (fun s x=>As Tryz.prog s 69 76 x),[.loc 0],.push,[]⟩,
 ⟨none,.mk (fun l=>(Ad Tryz.prog 22 1 (zipIdx [0] l)).bind fun r=>some (r,.slice 1)),[.loc 0],.push,[]⟩,
 ⟨none,.e (fun s l=>Av Tryz.prog s [22,22] l),[.loc 4,.loc 0],.push,[]⟩,
 ⟨none,.e (fun s=>Xx (fun a x=>Xz (AK Tryz.prog s 22 a x))),[.var 3,.loc 0],.push,[]⟩]
def SK:List AA:=[
 ⟨none,.r1 (fun s a=>AC Tryz.prog s 69 a),[.var 4],.push,[]⟩,
 ⟨none,.p2 (AT Tryz.prog .shr 69),[(.loc 0),(.const (.int .u64 (32)))],.push,[]⟩,
 ⟨none,.e (fun s=>Xx (fun a x=>Xz (AK Tryz.prog s 69 a x))),[.var 4,.loc 0],.push,[]⟩]
def OB:Af:=(.seq (.ops Vq) (.ops Vr))
def OC:Af:=(.block 3 (.seq (.ops Vs) (.seq (.ops SJ) (.ops SK))))
def M2:Code:=(E0 173 0).1
def M3:Code:=(E0 173 0).2
theorem Vi:Di Tryz.prog 173 M2=some OB:=by kernel_rfl
theorem Vj:Di Tryz.prog 173 M3=some OC:=by kernel_rfl
theorem P3:C3 Tryz.prog 173=[0,2,4,5,6,7,8,9,10,11,12,17,18,19]:=by kernel_rfl
def SL:List AA:=[
 ⟨none,.r1 (fun s a=>AC Tryz.prog s 22 a),[.var 3],.push,[]⟩,
 ⟨none,.r1 (fun s a=>AC Tryz.prog s 69 a),[.var 4],.push,[]⟩,
 ⟨none,.r1 (fun s x=>As Tryz.prog s 69 76 x),[.loc 0],.push,[]⟩,
 ⟨none,.mk (fun l=>(Ad Tryz.prog 22 1 (zipIdx [0] l)).bind fun r=>some (r,.slice 1)),[.loc 0],.push,[]⟩,
 ⟨none,.e (fun s l=>Av Tryz.prog s [22,22] l),[.loc 3,.loc 0],.push,[]⟩,
 ⟨none,.p1 some,[.loc 0],(.set 1),[]⟩]
def SM:List AA:=[
 ⟨none,.p2 (AT Tryz.prog .add 3),[(.var 9),(.const (.int .i64 (1)))],.push,[]⟩,
 ⟨none,.p1 some,[.loc 0],(.set 9),[]⟩]
def Ho:Af:=(.seq (.ops P2) (.seq (.cond (.var 10)
 .skip
 (.exit 0)) (.seq (.block 1 (.seq (.ops Vm) (.seq (.ops Vn) (.seq (.ops Vo) (.seq (.seq (.ops Vp) (.block 2 (.rangeFunc 173 (.var 11) #[18,19] M2 M3))) (.ops SL)))))) (.ops SM))))
def SN:List AA:=[
 ⟨none,.p1 some,[.var 1],.push,[]⟩,
 ⟨none,.call 92,[.loc 0],.push,[]⟩,
 ⟨none,.p1 some,[.loc 0],(.set 1),[]⟩]
def kO:Ao:=⟨1,14,(.seq (.ops Vk) (.seq (.seq (.ops Vl) (.block 0 (.loop Ho))) (.seq (.ops SN) .ret))),[((.var 1),none)]⟩
def VU:List AA:=[
 ⟨none,.p1 some,[(.const (.slice none 0 (some 0)))],(.set 2),[]⟩]
def VV:List AA:=[
 ⟨none,.mk (fun l=>(Ad Tryz.prog 196 2 (zipIdx [0,1] l)).bind fun r=>some (r,.slice 2)),[.var 0,.var 1],.push,[]⟩,
 ⟨none,.call 173,[.loc 0],.push,[]⟩,
 ⟨none,.p1 some,[.loc 0],(.set 2),[]⟩]
def kM:Ao:=⟨2,3,(.seq (.ops VU) (.seq (.ops VV) .ret)),[((.var 2),none)]⟩
def VY:List AA:=[
 ⟨none,.p1 some,[(.const (.slice none 0 (some 0)))],(.set 2),[]⟩,
 ⟨none,.p1 some,[(.const (.bool false))],(.set 3),[]⟩]
def VZ:List AA:=[
 ⟨none,.call 93,[.var 0,.var 1],.push,[]⟩,
 ⟨none,.p2 (AT Tryz.prog .lss 3),[(.loc 0),(.const (.int .i64 (0)))],(.set 9),[]⟩]
def Va:List AA:=[
 ⟨none,.p1 some,[(.const (.slice none 0 (some 0)))],(.set 2),[]⟩,
 ⟨none,.p1 some,[(.const (.bool false))],(.set 3),[]⟩]
def Vb:List AA:=[
 ⟨none,.mk (fun l=>match l with | []=>Ab Tryz.prog 22 | _=>none),[],(.set 4),[]⟩]
def Vc:List AA:=[
 ⟨none,.mk (fun l=>match l with | []=>Ab Tryz.prog 69 | _=>none),[],(.set 5),[]⟩,
 ⟨none,.e (fun s=>Xx (fun a x=>Xz (AK Tryz.prog s 69 a x))),[(.var 5),(.const (.int .u64 (0)))],.push,[]⟩]
def Vd:List AA:=[
 ⟨none,.call 174,[.var 0,.var 1],(.set 10),[]⟩]
def Ve:List AA:=[
 ⟨none,.p1 some,[.var 11],(.set 6),[]⟩]
def Vf:List AA:=[
 ⟨none,.p1 some,[.var 12],(.set 7),[]⟩]
def Vg:List AA:=[
 ⟨none,.p2 (AT Tryz.prog .sub 69),[.var 6,.var 7],.push,[]⟩,
 ⟨none,.r1 (fun s a=>AC Tryz.prog s 69 a),[.var 5],.push,[]⟩,
 ⟨none,.p2 (AT Tryz.prog .sub 69),[.loc 1,.loc 0],.push,[]⟩,
 ⟨none,.p1 some,[.loc 0],(.set 8),[]⟩]
def Vh:List AA:=[
 ⟨none,.r1 (fun s a=>AC Tryz.prog s 22 a),[.var 4],.push,[]⟩,
 ⟨none,.p2 (AT Tryz.prog .and 69),[(.var 8),(.const (.int .u64 (4294967295)))],.push,[]⟩,
 ⟨none,.r1 (fun s x=>As Tryz.prog s 69 76 x),[.loc 0],.push,[]⟩,
 ⟨none,.mk (fun l=>(Ad Tryz.prog 22 1 (zipIdx [0] l)).bind fun r=>some (r,.slice 1)),[.loc 0],.push,[]⟩,
 ⟨none,.e (fun s l=>Av Tryz.prog s [22,22] l),[.loc 3,.loc 0],.push,[]⟩,
 ⟨none,.e (fun s=>Xx (fun a x=>Xz (AK Tryz.prog s 22 a x))),[.var 4,.loc 0],.push,[]⟩]
def SH:List AA:=[
 ⟨none,.p2 (AT Tryz.prog .shr 69),[(.var 8),(.const (.int .u64 (63)))],.push,[]⟩,
 ⟨none,.e (fun s=>Xx (fun a x=>Xz (AK Tryz.prog s 69 a x))),[.var 5,.loc 0],.push,[]⟩]
def N9:Af:=(.seq (.ops Ve) (.ops Vf))
def OA:Af:=(.block 1 (.seq (.ops Vg) (.seq (.ops Vh) (.ops SH))))
def M0:Code:=(E0 154 0).1
def M1:Code:=(E0 154 0).2
theorem VW:Di Tryz.prog 154 M0=some N9:=by kernel_rfl
theorem VX:Di Tryz.prog 154 M1=some OA:=by kernel_rfl
theorem P1:C3 Tryz.prog 154=[0,1,4,5,6,7,8,9,10,14,17,18,19]:=by kernel_rfl
def SI:List AA:=[
 ⟨none,.r1 (fun s a=>AC Tryz.prog s 22 a),[.var 4],.push,[]⟩,
 ⟨none,.call 92,[.loc 0],.push,[]⟩,
 ⟨none,.p1 some,[.loc 0],(.set 2),[]⟩,
 ⟨none,.p1 some,[(.const (.bool true))],(.set 3),[]⟩]
def kN:Ao:=⟨2,13,(.seq (.ops VY) (.seq (.seq (.ops VZ) (.cond (.var 9)
 (.seq (.ops Va) .ret)
 .skip)) (.seq (.ops Vb) (.seq (.ops Vc) (.seq (.seq (.ops Vd) (.block 0 (.rangeFunc 154 (.var 10) #[18,19] M0 M1))) (.seq (.ops SI) .ret)))))),[((.var 2),none),((.var 3),none)]⟩
theorem Z2:AN Tryz.prog 174=some kP:=by kernel_rfl
theorem Z3:AN Tryz.prog 187=some iL:=by kernel_rfl
theorem Z4:AN Tryz.prog 188=some kQ:=by kernel_rfl
theorem Z1:AN Tryz.prog 173=some kO:=by kernel_rfl
theorem Zz:AN Tryz.prog 153=some kM:=by kernel_rfl
theorem Z0:AN Tryz.prog 154=some kN:=by kernel_rfl
end
end Go.Proofs.YtjnkfbpadpmakaaGreatDoor.Am
set_option linter.unusedVariables false
set_option linter.unusedSimpArgs false
set_option maxRecDepth 12000
namespace Go.Proofs.YtjnkfbpadpmakaaGreatDoor.Am
open Go Go.Proofs
noncomputable section
theorem LO(k:IntKind):B0 k k=true:=by cases k<;>rfl
theorem Eg(a:Nat):Nat.beq a a=true:=FX rfl
theorem Bb(a:Option (Nat×Nat))(n:Nat)(cap:Option Nat):Et (.slice a n cap) (.slice a n cap)=true:=by
 cases a<;>cases cap<;>simp[Et,Eg]
theorem Se(f:FuncId):Et (.func f [] []) (.func f [] [])=true:=by simp[Et,Et.eqAs,Eg]
theorem Aa{s:AD}{loc var:List AV}{f:AD→AV→Option AV}{x ans:CX}(h:f s (Co loc var x)=some (Co loc var ans))(he:Et (Co loc var ans) (Co loc var ans)=true):FW s loc var ⟨none,.r1 f,[x],ans⟩=true:=by
 unfold FW
 show(!true || PO (f s (Co loc var x)) (Co loc var ans))=true
 rw[h]
 exact he
section
variable{E:CP}{s:AD}
theorem Sr(hE:GoodN E){a:Option (Nat×Nat)}{ca:Option Nat}{b:Nat}{la:List Nat}(hc:AZ b s a (us la))(hs:Bl la){i:Nat}{K:AV→AD→Prop}(hK:K (Ag (la.getD i 0)) s):
  WF E 187 [.slice a la.length ca,iv (i:Int)] K s:=by
 refine hE.go Z3 (by decide) rfl ?_
 rcases nm i la.length with h | h
 ·have hx:la[i]? = some la[i]:=nr h
  rw[qH,hx]at hK
  generalize la[i]=x at hx hK
  obtain⟨pi,o,rfl,_,hload⟩:=hc i _ (Da hx)
  have dd:decide ((la.length:Int)≤(i:Int))=false:=decide_eq_false (by omega)
  have e1:=An (cap:=ca) (i:=pi) (o:=o) Tryz.underlying22 Ct h
  have e2:AC Tryz.prog s 76 (.ptr (some (pi,o+i * 1)))=some (Bf x):=CM Hm (by rw[oD];exact hload)
  have e3:=Bi (s:=s) (hs x (oP hx))
  simp only[iL,P4,P5,Vx,AU Tryz.underlying22,Wa,dd,e1,e2,e3,Qa,Qb,Qc,Qd,Qe,Qf,Qg,Qh,Qi,Qj,Qk,Ql,Qm,Qn,true_and,and_true,Qo,Qp,Qq,Qr,Qs,Qt,Qu,Qv,Qw,Qx,Qy,Qz,Ra,Rb,Rc,Rd,Re,Rf,Rg,Rh,Ri,Rj,Rk,Rm,Rn,Ro,Rp,Rq,Rs,Ya,Yb,Yc,Rt,Ru,Za,Yd,Ye,Rx,Ry,Rz,Wa,Wb,Wc,Wd]
  exact hK
 ·have dd:decide ((la.length:Int)≤(i:Int))=true:=decide_eq_true (by omega)
  rw[qH,oF h]at hK
  simp only[iL,P4,P5,Vw,AU Tryz.underlying22,Wa,dd,Qa,Qb,Qc,Qd,Qe,Qf,Qg,Qh,Qi,Qj,Qk,Ql,Qm,Qn,true_and,and_true,Qo,Qp,Qq,Qr,Qs,Qt,Qu,Qv,Qw,Qx,Qy,Qz,Ra,Rb,Rc,Rd,Re,Rf,Rg,Rh,Ri,Rj,Rk,Rm,Rn,Ro,Rp,Rq,Rs,Ya,Yb,Yc,Rt,Ru,Za,Yd,Ye,Rx,Ry,Rz,Wa,Wb,Wc,Wd]
  exact hK
def SE(v:AV):A8:=R 22 0 false [v]
def j5:A8:=R 197 0 false [.func 187 [] []]
theorem PD(hE:GoodN E){va vb:AV}(hca:va.cells=[va])(hcb:vb.cells=[vb]){K:AV→AD→Prop}
  (hK:∀s',s'.next=s.next+3→(∀j,j<s.next→s'.heap.get j=s.heap.get j)→s'.heap.get s.next=some (SE va)→s'.heap.get (s.next+1)=some (SE vb)→s'.heap.get (s.next+2)=some j5 →
   K (.func 188 [] [.ptr (some (s.next,0)),.ptr (some (s.next+1,0)),.ptr (some (s.next+2,0))]) s'):WF E 174 [va,vb] K s:=by
 refine hE.go Z2 (by decide) rfl ?_
 have hz:Ab Tryz.prog 197=some (R 197 0 false [.nilFunc],.ptr):=by kernel_rfl
 have hsz:A3 Tryz.prog 197=some 1:=by kernel_rfl
 have n1:(newObj s (R 22 0 false [va])).next=s.next+1:=rfl
 have n2:(newObj (newObj s (R 22 0 false [va])) (R 22 0 false [vb])).next=s.next+2:=rfl
 have hg:(newObj (newObj (newObj s (R 22 0 false [va])) (R 22 0 false [vb])) (R 197 0 false [.nilFunc])).heap.get (s.next+2)=some (R 197 0 false [.nilFunc]):=by
  rw[AO,if_pos n2.symm]
 have hst:=B1 (P:=Tryz.prog) (t:=197) (o:=0) (v:=.func 187 [] []) hsz hg (by simp) rfl
 simp only[pD]at hst
 simp only[kP,Vt,Vu,Vv,Wz,hca,hcb,hz,Xb,n1,n2,hst,Xx,Xz,pr,pC,Qa,Qb,Qc,Qd,Qe,Qf,Qg,Qh,Qi,Qj,Qk,Ql,Qm,Qn,true_and,and_true,Qo,Qp,Qq,Qr,Qs,Qt,Qu,Qv,Qw,Qx,Qy,Qz,Ra,Rb,Rc,Rd,Re,Rf,Rg,Rh,Ri,Rj,Rk,Rm,Rn,Ro,Rp,Rq,Rs,Ya,Yb,Yc,Rt,Ru,Za,Yd,Ye,Rx,Ry,Rz,Wa,Wb,Wc,Wd]
 refine hK _ rfl (fun j hj=>?_) ?_ ?_ (Wv _ _ _)
 ·rw[Ww _ (by omega),AO,if_neg (by rw[n2];omega),AO,if_neg (by rw[n1];omega),AO,if_neg (by omega)]
 ·rw[Ww _ (by omega),AO,if_neg (by rw[n2];omega),AO,if_neg (by rw[n1];omega),AO,if_pos rfl];rfl
 ·rw[Ww _ (by omega),AO,if_neg (by rw[n2];omega),AO,if_pos n1.symm];rfl
structure PK(n0 p:Nat)(s0 s:AD):Prop where
 next:s0.next≤s.next
 low:∀j,j<n0→s.heap.get j=s0.heap.get j
 a:s.heap.get p=s0.heap.get p
 b:s.heap.get (p+1)=s0.heap.get (p+1)
 l:s.heap.get (p+2)=s0.heap.get (p+2)
theorem PK.refl(n0 p:Nat)(s:AD):PK n0 p s s:=⟨nl _,fun _ _=>rfl,rfl,rfl,rfl⟩
theorem PK.trans{n0 p:Nat}{s0 s1 s2:AD}(h:PK n0 p s0 s1)(k:PK n0 p s1 s2):PK n0 p s0 s2:=
 ⟨ny h.next k.next,fun j hj=>(k.low j hj).trans (h.low j hj),k.a.trans h.a,k.b.trans h.b,k.l.trans h.l⟩
theorem MM(hE:GoodN E){s0:AD}{n0 p l:Nat}{a b:Option (Nat×Nat)}{ca cb:Option Nat}{la lb:List Nat}(hla:la.length≤10000000000)(hlb:lb.length≤10000000000)(hsa:Bl la)(hsb:Bl lb)
  (hca:AZ n0 s0 a (us la)) (hcb:AZ n0 s0 b (us lb)) (h1:s0.heap.get p=some (SE (.slice a la.length ca))) (h2:s0.heap.get (p+1)=some (SE (.slice b lb.length cb))) (h3:s0.heap.get (p+2)=some j5)
  (LI:Nat→AD→Prop) (hLI:∀k s,LI k s→PK n0 p s0 s)
  (hround:∀ (k:Nat) (s:AD) (K:AV→AD→Prop),k<max la.length lb.length→LI k s→(∀s',LI (k+1) s'→K (.bool true) s')→WR E l [Ag (la.getD k 0),Ag (lb.getD k 0)] K s)
  {K:AV→AD→Prop} (h0:LI 0 s) (hend:∀v s',LI (max la.length lb.length) s'→K v s'):
  WF E 188 [.yield l,.ptr (some (p,0)),.ptr (some (p+1,0)),.ptr (some (p+2,0))] K s:=by
 have hag:De Tryz.prog 197=some false:=by kernel_rfl
 have lda:∀ {s':AD},PK n0 p s0 s'→AC Tryz.prog s' 22 (.ptr (some (p,0)))=some (.slice a la.length ca):=fun h=>AX DO (h.a.trans h1) rfl
 have ldb:∀ {s':AD},PK n0 p s0 s'→AC Tryz.prog s' 22 (.ptr (some (p+1,0)))=some (.slice b lb.length cb):=fun h=>AX DO (h.b.trans h2) rfl
 have ldl:∀ {s':AD},PK n0 p s0 s'→AC Tryz.prog s' 197 (.ptr (some (p+2,0)))=some (.func 187 [] []):=fun h=>AX hag (h.l.trans h3) rfl
 have hmm:B3 true (iv (la.length:Int)) [iv (lb.length:Int)]=some (iv ((max la.length lb.length:Nat):Int)):=by
  simp only[B3,LO,AJ,cond_true]
  congr 2
  cases hlt:Lg (la.length:Int) (lb.length:Int)with
  | true=>rw[Ca]at hlt;have:=of_decide_eq_true hlt;simp only[cond_true];omega
  | false=>rw[Ca]at hlt;have:=of_decide_eq_false hlt;simp only[cond_true,cond_false];omega
 refine hE.go Z4 (by decide) rfl ?_
 simp only[kQ,Vy,lda (hLI 0 s h0),ldb (hLI 0 s h0),AU Tryz.underlying22,hmm,Qa,Qb,Qc,Qd,Qe,Qf,Qg,Qh,Qi,Qj,Qk,Ql,Qm,Qn,true_and,and_true,Qo,Qp,Qq,Qr,Qs,Qt,Qu,Qv,Qw,Qx,Qy,Qz,Ra,Rb,Rc,Rd,Re,Rf,Rg,Rh,Ri,Rj,Rk,Rm,Rn,Ro,Rp,Rq,Rs,Ya,Yb,Yc,Rt,Ru,Za,Yd,Ye,Rx,Ry,Rz,Wa,Wb,Wc,Wd]
 generalize hM:max la.length lb.length=M at *
 have hMle:M≤10000000000:=by omega
 have key:∀ (m k:Nat) (S:AD) (x4 x7 x8:AV),k+m=M→LI k S→WC E none (.loop KE) (fun r=>(r.exit=.exit 0∧r.marks=[]∧LI M r.st)) [.yield l,.ptr (some (p,0)),.ptr (some (p+1,0)),.ptr (some (p+2,0)),x4,iv (M:Int),iv (k:Int),x7,x8] [] S:=by
  intro m
  induction m with
  | zero =>
   intro k S x4 x7 x8 hk hS
   have e:k=M:=by omega
   subst e
   have dd:decide ((k:Int)<(k:Int))=false:=decide_eq_false (by omega)
   refine WC.loop' ?_
   simp only[KE,P6,Rx,dd,Qa,Qb,Qc,Qd,Qe,Qf,Qg,Qh,Qi,Qj,Qk,Ql,Qm,Qn,true_and,and_true,Qo,Qp,Qq,Qr,Qs,Qt,Qu,Qv,Qw,Qx,Qy,Qz,Ra,Rb,Rc,Rd,Re,Rf,Rg,Rh,Ri,Rj,Rk,Rm,Rn,Ro,Rp,Rq,Rs,Ya,Yb,Yc,Rt,Ru,Za,Yd,Ye,Rx,Ry,Rz,Wa,Wb,Wc,Wd]
   exact hS
  | succ m ih =>
   intro k S x4 x7 x8 hk hS
   have dd:decide ((k:Int)<(M:Int))=true:=decide_eq_true (by omega)
   have pk:=hLI k S hS
   have l1:=lda pk
   have l2:=ldb pk
   have l3:=ldl pk
   have e17:=Bh Tryz.prog 3 (k:Int) 1 ⟨by omega,by omega⟩
   have e17':((k:Int)+1)=((k+1:Nat):Int):=by omega
   refine WC.loop' ?_
   generalize hW:WC E none (Af.loop KE) _=WW
   simp only[KE,P6,Vz,V0,Rx,dd,l1,l2,l3,Qa,Qb,Qc,Qd,Qe,Qf,Qg,Qh,Qi,Qj,Qk,Ql,Qm,Qn,true_and,and_true,Qo,Qp,Qq,Qr,Qs,Qt,Qu,Qv,Qw,Qx,Qy,Qz,Ra,Rb,Rc,Rd,Re,Rf,Rg,Rh,Ri,Rj,Rk,Rm,Rn,Ro,Rp,Rq,Rs,Ya,Yb,Yc,Rt,Ru,Za,Yd,Ye,Rx,Ry,Rz,Wa,Wb,Wc,Wd]
   have ca':AZ n0 S a (us la):=hca.old ⟨pk.next,pk.low⟩ (nl _)
   have cb':AZ n0 S b (us lb):=hcb.old ⟨pk.next,pk.low⟩ (nl _)
   refine Sr hE ca' hsa ?_
   refine⟨⟨Aa (by simp only[Qa,Qb,Qc,Qd,Qe,Qf,Qg,Qh,Qi,Qj,Qk,Ql,Qm,Qn,true_and,and_true,Qo,Qp,Qq,Qr,Qs,Qt,Qu,Qv,Qw,Qx,Qy,Qz,Ra,Rb,Rc,Rd,Re,Rf,Rg,Rh,Ri,Rj,Rk,Rm,Rn,Ro,Rp,Rq,Rs,Ya,Yb,Yc,Rt,Ru,Za,Yd,Ye,Rx,Ry,Rz,Wa,Wb,Wc,Wd];exact l2) (Bb _ _ _),Aa (by simp only[Qa,Qb,Qc,Qd,Qe,Qf,Qg,Qh,Qi,Qj,Qk,Ql,Qm,Qn,true_and,and_true,Qo,Qp,Qq,Qr,Qs,Qt,Qu,Qv,Qw,Qx,Qy,Qz,Ra,Rb,Rc,Rd,Re,Rf,Rg,Rh,Ri,Rj,Rk,Rm,Rn,Ro,Rp,Rq,Rs,Ya,Yb,Yc,Rt,Ru,Za,Yd,Ye,Rx,Ry,Rz,Wa,Wb,Wc,Wd];exact l3) (Se _),trivial⟩,?_⟩
   simp only[Qa,Qb,Qc,Qd,Qe,Qf,Qg,Qh,Qi,Qj,Qk,Ql,Qm,Qn,true_and,and_true,Qo,Qp,Qq,Qr,Qs,Qt,Qu,Qv,Qw,Qx,Qy,Qz,Ra,Rb,Rc,Rd,Re,Rf,Rg,Rh,Ri,Rj,Rk,Rm,Rn,Ro,Rp,Rq,Rs,Ya,Yb,Yc,Rt,Ru,Za,Yd,Ye,Rx,Ry,Rz,Wa,Wb,Wc,Wd]
   refine Sr hE cb' hsb ?_
   simp only[Qa,Qb,Qc,Qd,Qe,Qf,Qg,Qh,Qi,Qj,Qk,Ql,Qm,Qn,true_and,and_true,Qo,Qp,Qq,Qr,Qs,Qt,Qu,Qv,Qw,Qx,Qy,Qz,Ra,Rb,Rc,Rd,Re,Rf,Rg,Rh,Ri,Rj,Rk,Rm,Rn,Ro,Rp,Rq,Rs,Ya,Yb,Yc,Rt,Ru,Za,Yd,Ye,Rx,Ry,Rz,Wa,Wb,Wc,Wd]
   refine hround k S _ (by omega) hS fun s' hs'=>?_
   simp only[V1,Wd,Bool.not_true,e17,e17',Qa,Qb,Qc,Qd,Qe,Qf,Qg,Qh,Qi,Qj,Qk,Ql,Qm,Qn,true_and,and_true,Qo,Qp,Qq,Qr,Qs,Qt,Qu,Qv,Qw,Qx,Qy,Qz,Ra,Rb,Rc,Rd,Re,Rf,Rg,Rh,Ri,Rj,Rk,Rm,Rn,Ro,Rp,Rq,Rs,Ya,Yb,Yc,Rt,Ru,Za,Yd,Ye,Rx,Ry,Rz,Wa,Wb,Wc,Wd]
   rw[← hW]
   exact ih (k+1) s' _ _ _ (by omega) hs'
 refine(key M 0 s _ _ _ (by omega) h0).mono ?_
 rintro⟨e,v,m,s'⟩ ⟨q1,q0,q2⟩
 simp only at q1 q0 q2
 subst q0
 subst q1
 simp only[if_true,Qa,Qb,Qc,Qd,Qe,Qf,Qg,Qh,Qi,Qj,Qk,Ql,Qm,Qn,true_and,and_true,Qo,Qp,Qq,Qr,Qs,Qt,Qu,Qv,Qw,Qx,Qy,Qz,Ra,Rb,Rc,Rd,Re,Rf,Rg,Rh,Ri,Rj,Rk,Rm,Rn,Ro,Rp,Rq,Rs,Ya,Yb,Yc,Rt,Ru,Za,Yd,Ye,Rx,Ry,Rz,Wa,Wb,Wc,Wd]
 exact hend _ _ q2
end
end
end Go.Proofs.YtjnkfbpadpmakaaGreatDoor.Am
set_option linter.unusedVariables false
set_option linter.unusedSimpArgs false
set_option maxRecDepth 16000
namespace Go.Proofs.YtjnkfbpadpmakaaGreatDoor.Am
open Go Go.Proofs
noncomputable section
theorem K7{a b:List Nat}{k:Nat}(h:k<max a.length b.length):(Bw a b)[k]? = some (a.getD k 0,b.getD k 0):=by
 unfold Bw
 rw[pH,qR h];rfl
theorem K8(a b:List Nat):(Bw a b).length=max a.length b.length:=by simp[Bw]
theorem Gg{a:List Nat}(h:Bl a)(k:Nat):a.getD k 0<4294967296:=by
 rw[qH]
 rcases nm k a.length with h' | h'
 ·rw[nr h'];exact h _ (List.getElem_mem h')
 ·rw[oF h'];exact(by decide)
theorem Tr{a b:List Nat}(ha:Bl a)(hb:Bl b):∀p∈Bw a b,p.1<LB∧p.2<LB:=fun p hp=>by
 unfold Bw at hp
 obtain⟨i,_,rfl⟩:=List.mem_map.1 hp
 exact⟨Gg ha i,Gg hb i⟩
def Ko (v0 v1 v2 x5 x6 x7 x8 x9 x10:AV) (n0:Nat) (x12 x13:AV):C4:=
 Gj 173 [v0,v1,v2,.ptr (some (n0,0)),.ptr (some (n0+1,0)),x5,x6,x7,x8,x9,x10,.func 188 [] [.ptr (some (n0+2,0)),.ptr (some (n0+2+1,0)),.ptr (some (n0+2+2,0))],x12,x13] #[18,19] M2 M3 (n0+5)
structure iB(n0:Nat)(s0:AD)(lo:C4)(P:List (Nat×Nat))(T:List Nat×Nat)(k:Nat)(s:AD):Prop where
 pk:PK n0 (n0+2) s0 s
 lt:n0+7≤s.next
 lp:BC s (n0+6)=some lo
 mrk:s.heap.get (n0+5)=some .mark
 ex:∃vo d O c,s.heap.get n0=some (R 22 0 false [vo])∧s.heap.get (n0+1)=some (R 69 0 false [Ag c])∧B9 76 s vo d.length 1 (us d) O∧(∀j∈O,n0+7≤j)∧(∀j,Cd vo=some j→n0+7≤j)∧d.length=k∧c≤1∧(d++(D1 (P.drop k) c).1,(D1 (P.drop k) c).2)=T
section
variable{E:CP}{s:AD}
theorem T8(hE:GoodN E){n0:Nat}{s0:AD}{v0 v1 v2 x5 x6 x7 x8 x9 x10 x12 x13:AV}{P:List (Nat×Nat)}(hPl:P.length≤10000000000){T:List Nat×Nat}{k x y:Nat}(hP:P[k]? = some (x,y))(hx:x<4294967296)(hy:y<4294967296)
    (hI:iB n0 s0 (Ko v0 v1 v2 x5 x6 x7 x8 x9 x10 n0 x12 x13) P T k s) {K:AV→AD→Prop} (hK:∀s',iB n0 s0 (Ko v0 v1 v2 x5 x6 x7 x8 x9 x10 n0 x12 x13) P T (k+1) s'→K (.bool true) s'):
    WR E (n0+6) [Ag x,Ag y] K s:=by
  obtain⟨pk,hlt,hlp,hmk,vo,d,O,c,g1,g2,hD,hO,hsl,hdl,hc,hT⟩:=hI
  have hz:Cu (C3 E.P 173) (Ko v0 v1 v2 x5 x6 x7 x8 x9 x10 n0 x12 x13).var [18,19] [Ag x,Ag y]=some [v0,v1,v2,.ptr (some (n0,0)),.ptr (some (n0+1,0)),x5,x6,x7,x8,x9,x10,.func 188 [] [.ptr (some (n0+2,0)),.ptr (some (n0+2+1,0)),.ptr (some (n0+2+2,0))],Ag x,Ag y]:=by
    rw[hE.P,P3];rfl
  refine WR.round hlp hz (by rw[hE.P];exact Vi) (by rw[hE.P];exact Vj) ?_
  refine Dy ?_
  simp only[OB,Vq,Vr,Qa,Qb,Qc,Qd,Qe,Qf,Qg,Qh,Qi,Qj,Qk,Ql,Qm,Qn,true_and,and_true,Qo,Qp,Qq,Qr,Qs,Qt,Qu,Qv,Qw,Qx,Qy,Qz,Ra,Rb,Rc,Rd,Re,Rf,Rg,Rh,Ri,Rj,Rk,Rm,Rn,Ro,Rp,Rq,Rs,Ya,Yb,Yc,Rt,Ru,Za,Yd,Ye,Rx,Ry,Rz,Wa,Wb,Wc,Wd]
  refine⟨_,hlp,rfl,Dy ?_⟩
  generalize hs1:setObj s (n0+6) _=s1
  have n1:s1.next=s.next:=by rw[← hs1];rfl
  have f1:∀j,j≠n0+6→s1.heap.get j=s.heap.get j:=fun j hj=>by rw[← hs1,Ww _ hj]
  have l1:BC s1 (n0+6)=some { Ko v0 v1 v2 x5 x6 x7 x8 x9 x10 n0 x12 x13 with state:=.busy }:=by rw[← hs1,CQ]
  have g1':=(f1 n0 (by omega)).trans g1
  have g2':=(f1 (n0+1) (by omega)).trans g2
  have hD1:B9 76 s1 vo d.length 1 (us d) O:=hD.frame (oU n1.symm) (fun j hj=>f1 j (by have:=hsl j hj;omega))
  have hdk:P.drop k=(x,y)::P.drop (k+1):=by
    have hk:k<P.length:=(List.getElem?_eq_some_iff.1 hP).1
    rw[ol hk]
    rw[nr hk]at hP
    rw[Option.some.inj hP]
  have hkP:k<P.length:=(List.getElem?_eq_some_iff.1 hP).1
  rw[hdk]at hT
  simp only[D1]at hT
  have hLB:LB=4294967296:=rfl
  rw[hLB,show x+y+c=c+(x+y) by omega]at hT
  have e1:=HD Tryz.prog 69 (a:=x) (b:=y) (by omega)
  have e2:=HD Tryz.prog 69 (a:=c) (b:=x+y) (by omega)
  generalize hc1:c+(x+y)=c1 at hT e2
  have hc1b:c1<18446744073709551616:=by omega
  have e3:=JV Tryz.prog 69 hc1b
  have e11:c1 % 4294967296 % 4294967296=c1 % 4294967296:=qB _ _
  have e15:AT Tryz.prog .shr 69 (Ag c1) (.int .u64 32)=some (Ag (c1 / 4294967296)):=IU Tryz.prog 69 (k:=.u64) (n:=32) (by decide)
  have hcq:c1 / 4294967296≤1:=by omega
  generalize hz:c1 % 4294967296=z at hT e3 e11
  have ld2:AC Tryz.prog s1 69 (.ptr (some (n0+1,0)))=some (Ag c):=AX UM g2' rfl
  have st2:=B1 (P:=Tryz.prog) (t:=69) (o:=0) (v:=Ag c1) Y4 g2' (by simp) rfl
  simp only[pD]at st2
  generalize hs2:setObj s1 (n0+1) (R 69 0 false [Ag c1])=s2 at st2
  have n2:s2.next=s1.next:=by rw[← hs2];rfl
  have f2:∀j,j≠n0+1→s2.heap.get j=s1.heap.get j:=fun j hj=>by rw[← hs2,Ww _ hj]
  have g22:s2.heap.get (n0+1)=some (R 69 0 false [Ag c1]):=by rw[← hs2,Wv]
  have ld22:AC Tryz.prog s2 69 (.ptr (some (n0+1,0)))=some (Ag c1):=AX UM g22 rfl
  have g12:=(f2 n0 (by omega)).trans g1'
  have ld12:AC Tryz.prog s2 22 (.ptr (some (n0,0)))=some vo:=AX DO g12 rfl
  have hD2:B9 76 s2 vo d.length 1 (us d) O:=hD1.frame (oU n2.symm) (fun j hj=>f2 j (by have:=hsl j hj;omega))
  obtain⟨v',s3,O',happ,hD3,hn3,f3,hO3,hsl3⟩:=IE hD2 z (by omega)
  have happ':Av Tryz.prog (newObj s2 (R 76 1 false [.int .u32 z])) [22,22] [vo,.slice (some (s2.next,0)) 1 (some 1)]=some (v',s3):=happ
  have g13:s3.heap.get n0=some (R 22 0 false [vo]):=(f3 n0 (by omega) (fun h=>by have:=hO n0 h;omega)).trans g12
  have g23:s3.heap.get (n0+1)=some (R 69 0 false [Ag c1]):=(f3 (n0+1) (by omega) (fun h=>by have:=hO _ h;omega)).trans g22
  have hv'c:v'.isCell=true:=by obtain⟨a,cap,rfl,_⟩:=hD3.cells;rfl
  have st3:=B1 (P:=Tryz.prog) (t:=22) (o:=0) (v:=v') Y3 g13 (by simp) hv'c
  simp only[pD]at st3
  generalize hs4:setObj s3 n0 (R 22 0 false [v'])=s4 at st3
  have n4:s4.next=s3.next:=by rw[← hs4];rfl
  have f4:∀j,j≠n0→s4.heap.get j=s3.heap.get j:=fun j hj=>by rw[← hs4,Ww _ hj]
  have g24:=(f4 (n0+1) (by omega)).trans g23
  have ld24:AC Tryz.prog s4 69 (.ptr (some (n0+1,0)))=some (Ag c1):=AX UM g24 rfl
  have st4:=B1 (P:=Tryz.prog) (t:=69) (o:=0) (v:=Ag (c1 / 4294967296)) Y4 g24 (by simp) rfl
  simp only[pD]at st4
  generalize hs5:setObj s4 (n0+1) (R 69 0 false [Ag (c1 / 4294967296)])=s5 at st4
  have n5:s5.next=s4.next:=by rw[← hs5];rfl
  have f5:∀j,j≠n0+1→s5.heap.get j=s4.heap.get j:=fun j hj=>by rw[← hs5,Ww _ hj]
  have fall:∀j,j<s.next→j ∉ O→j≠n0→j≠n0+1→s5.heap.get j=s1.heap.get j:=fun j hj h1 h2 h3=>by
    rw[f5 j h3,f4 j h2,f3 j (by omega) h1,f2 j h3]
  have l5:BC s5 (n0+6)=some { Ko v0 v1 v2 x5 x6 x7 x8 x9 x10 n0 x12 x13 with state:=.busy }:=by
    rw[DK (fall (n0+6) (by omega) (fun h=>by have:=hO _ h;omega) (by omega) (by omega))];exact l1
  simp only[OC,Vs,SJ,SK,e1,e2,ld2,st2,ld12,ld22,e3,Bx,e11,Fj,Xd,happ',st3,ld24,e15,st4,Xx,Xz,Qa,Qb,Qc,Qd,Qe,Qf,Qg,Qh,Qi,Qj,Qk,Ql,Qm,Qn,true_and,and_true,Qo,Qp,Qq,Qr,Qs,Qt,Qu,Qv,Qw,Qx,Qy,Qz,Ra,Rb,Rc,Rd,Re,Rf,Rg,Rh,Ri,Rj,Rk,Rm,Rn,Ro,Rp,Rq,Rs,Ya,Yb,Yc,Rt,Ru,Za,Yd,Ye,Rx,Ry,Rz,Wa,Wb,Wc,Wd]
  refine⟨_,l5,hK _ ?_⟩
  have fl:∀j,j≠n0+6→∀r,(setObj s5 (n0+6) r).heap.get j=s5.heap.get j:=fun j hj r=>Ww _ hj
  have hlow:∀j,j<n0+6→j≠n0→j≠n0+1→∀r,(setObj s5 (n0+6) r).heap.get j=s.heap.get j:=fun j h1 h2 h3 r=>by
    rw[fl j (by omega),fall j (by omega) (fun h=>by have:=hO _ h;omega) h2 h3,f1 j (by omega)]
  refine⟨pk.trans ⟨?_,fun j hj=>hlow j (by omega) (by omega) (by omega) _,hlow _ (by omega) (by omega) (by omega) _,hlow _ (by omega) (by omega) (by omega) _,hlow _ (by omega) (by omega) (by omega) _⟩,?_,?_,?_,v',d++[z],O',c1 / 4294967296,?_,?_,?_,fun j hj=>?_,fun j hj=>?_,?_,hcq,?_⟩
  · show s.next≤s5.next;omega
  · show n0+7≤s5.next;omega
  · rw[CQ];rfl
  · rw[hlow _ (by omega) (by omega) (by omega)];exact hmk
  · rw[fl n0 (by omega),f5 n0 (by omega),← hs4,Wv]
  · rw[fl (n0+1) (by omega),← hs5,Wv]
  · refine hD3.frame (by show s3.next≤s5.next;omega) (fun j hj=>?_)
    have hj7:n0+7≤j:=by
      rcases hsl3 j hj with h | h
      · exact hsl j h
      · omega
    rw[fl j (by omega),f5 j (by omega),f4 j (by omega)]
  · rcases hO3 j hj with h | h
    · exact hO j h
    · omega
  · rcases hsl3 j hj with h | h
    · exact hsl j h
    · omega
  · rw[oI,hdl];rfl
  · rw[oX];exact hT
end
end
end Go.Proofs.YtjnkfbpadpmakaaGreatDoor.Am
