/- Package nat: Cmp, short, walked; conditions: none. -/
import Derived.Test.YtjnkfbpadpmakaaGreatDoorAmM05
import Derived.Test.YtjnkfbpadpmakaaGreatDoorProg
set_option linter.unusedVariables false
set_option linter.unusedSimpArgs false
set_option maxRecDepth 12000
namespace Go.Proofs.YtjnkfbpadpmakaaGreatDoor.Am
open Go Go.Proofs
noncomputable section
def Hw(a b:Nat):Int:=if a<b then -1 else if b<a then 1 else 0
theorem MH:∀ (n:Nat),n≠0→LB ^ ((AJ n).length - 1)≤n:=by
  intro n
  induction n using Nat.strongRecOn with
  | _ n ih =>
    intro h
    rw[EK h,yU,zH]
    by_cases h2:n / LB=0
    · rw[h2,A8]
      show LB ^ 0≤n
      rw[Nat.pow_zero];omega
    · have := ih (n / LB) (zT              (by omega) (by decide)) h2
      have hne:(AJ (n / LB)).length≠0:=fun e=>Br h2 (zN e)
      obtain⟨m,hm⟩:∃m,(AJ (n / LB)).length=m+1:=⟨(AJ (n / LB)).length - 1,by omega⟩
      rw[hm,zH]at this
      rw[hm,yJ]
      exact xh (yA LB this) (Nat.div_mul_le_self n LB)
theorem fW(n:Nat):n<LB ^ (AJ n).length:=by
 have:=CN (AK n)
 rw[AR]at this
 exact this
theorem E1{a b:Nat}(h:(AJ a).length<(AJ b).length):a<b:=by
 have hb:b≠0:=fun e=>by subst e;rw[A8]at h;simp at h
 have h1:=fW a
 have h2:=MH b hb
 have:LB ^ (AJ a).length≤LB ^ ((AJ b).length - 1):=yT BO (by omega)
 omega
theorem SA{la lb:List Nat}{k x y:Nat}(hl:la.length=lb.length)(ha:Be la)(hb:Be lb)(hx:la[k]? = some x)(hy:lb[k]? = some y)(hd:la.drop (k+1)=lb.drop (k+1))(h:x<y):AG la<AG lb:=by
 have hka:k<la.length:=by
  rcases xf k la.length with h' | h'
  ·exact h'
  ·rw[xr h']at hx;cases hx
 have e:∀ (l:List Nat) (z:Nat),l[k]? = some z→k<l.length→AG l=AG (l.take k)+LB ^ k * (z+LB * AG (l.drop (k+1))):=by
  intro l z hz hkl
  have h1:=Bk (l.take k) (l.drop k)
  rw[zB,xz,yv (by omega),F0 hz]at h1
  exact h1
 rw[e la x hx hka,e lb y hy (by omega),hd]
 have h1:=CN (ha.take k)
 rw[xz,yv (by omega)]at h1
 generalize LB * AG (lb.drop (k+1))=z
 have h2:LB ^ k * (x+z+1)≤LB ^ k * (y+z):=yZ _ (by omega)
 rw[yB,xj]at h2
 omega
section
variable{E:CU}{s:AE}
theorem eV       {a b : Option (Nat × Nat)} {ca cb : Option Nat} {la lb : List Nat} (hl : la.length = lb.length) (ha : Be  la) (hb : Be  lb) (hca : AU      s.next s a (us la)) (hcb : AU      s.next s b (us lb)) (h63 : la.length ≤ 100000000000) {Q : Ay   → Prop} (x2 x4 x5 : AV)
    (hq:la=lb→∀y3 y6 y7 y8,Q ⟨.exit 1,[.slice a la.length ca,.slice b lb.length cb,x2,y3,x4,x5,y6,y7,y8],[],s⟩)
    (hr:∀z y3 y6 y7 y8,z=Hw (AG la) (AG lb)→Q ⟨.ret,[.slice a la.length ca,.slice b lb.length cb,iv z,y3,x4,x5,y6,y7,y8],[],s⟩):
    ∀ (k:Nat) (x6 x7 x8:AV),k≤la.length→la.drop k=lb.drop k→WC E none (.loop IK) Q [.slice a la.length ca,.slice b lb.length cb,x2,iv ((k:Int) - 1),x4,x5,x6,x7,x8] [] s:=by
  intro k
  induction k with
  | zero =>
    intro x6 x7 x8 hk hd
    refine WC.loop' ?_
    have d0:decide ((0:Int)≤((0:Nat):Int) - 1)=false:=rfl
    simp only[IK,Q6,Wb,d0,Qa,Qb,Qc,Qd,Qf,Qh,Qi,Qj,Qm,Qo,true_and,Qp,Qq,Qr,Qs,Qt,Qv,Ra,Rb,Rc,Rd,Re,Rf,Wb]
    exact hq (by simpa using hd) _ _ _ _
  | succ k ih =>
    intro x6 x7 x8 hk hd
    have hx:la[k]? = some la[k]:=xe (by omega)
    generalize la[k]=x at hx
    have hy:lb[k]? = some (lb[k]'(by omega)):=xe (by omega)
    generalize lb[k]'(by omega)=y at hy
    obtain⟨i,o,rfl,_,hload⟩:=hca k _ (DE hx)
    obtain⟨i2,o2,rfl,_,hload2⟩:=hcb k _ (DE hy)
    have e0:((k+1:Nat):Int) - 1=(k:Int):=by omega
    have d0:decide ((0:Int)≤(k:Int))=true:=decide_eq_true (by omega)
    have e1:=Ae (cap:=ca) (i:=i) (o:=o) Tryz.underlying22 Cx (show k<la.length by omega)
    have e2:AC Tryz.prog s 76 (.ptr (some (i,o+k * 1)))=some (Aw x):=Bd Gq (by rw[xj];exact hload)
    have e3:=Ae (cap:=cb) (i:=i2) (o:=o2) Tryz.underlying22 Cx (show k<lb.length by omega)
    have e4:AC Tryz.prog s 76 (.ptr (some (i2,o2+k * 1)))=some (Aw y):=Bd Gq (by rw[xj];exact hload2)
    have e5:=vN Tryz.prog 76 (a:=x) (b:=y) .u32
    have e6:=ON Tryz.prog 76 (a:=x) (b:=y) .u32
    have e7:=CP Tryz.prog 3 (k:Int) 1 ⟨by omega,by omega⟩
    refine WC.loop' ?_
    generalize hW:WC E none (Aa.loop IK) Q=WW
    rw[e0]
    by_cases h1:x<y
    · have d1:decide (x<y)=true:=decide_eq_true h1
      simp only[IK,Q6,Vi,pm,Wb,d0,e1,e2,e3,e4,e5,d1,Qa,Qb,Qc,Qd,Qf,Qh,Qi,Qj,Qk,Qm,Qo,true_and,Qp,Qq,Qr,Qs,Qt,Qv,Qz,Rb,Rc,Rd,Re,Rf,Wb]
      refine hr _ _ _ _ _ ?_
      have:=SA hl ha hb hx hy hd h1
      unfold Hw
      rw[if_pos this]
    · have d1:decide (x<y)=false:=decide_eq_false h1
      by_cases h2:y<x
      · have d2:decide (y<x)=true:=decide_eq_true h2
        simp only[IK,Q6,Vi,Tz,eG,Wb,d0,e1,e2,e3,e4,e5,e6,d1,d2,Qa,Qb,Qc,Qd,Qf,Qh,Qi,Qj,Qk,Qm,Qo,true_and,Qp,Qq,Qr,Qs,Qt,Qv,Qz,Ra,Rb,Rc,Rd,Re,Rf,Wb]
        refine hr _ _ _ _ _ ?_
        have:=SA hl.symm hb ha hy hx hd.symm h2
        unfold Hw
        rw[if_neg (by omega),if_pos this]
      · have d2 : decide (y < x) = false := decide_eq_false h2
        have hxy:x=y:=by omega
        simp only[IK,Q6,Vi,Tz,eH,Wb,d0,e1,e2,e3,e4,e5,e6,d1,d2,e7,Qa,Qb,Qc,Qd,Qf,Qh,Qi,Qj,Qk,Qm,Qo,true_and,Qp,Qq,Qr,Qs,Qt,Qv,Qz,Ra,Rb,Rc,Rd,Re,Rf,Wb]
        rw[← hW]
        refine ih _ _ _ (by omega) ?_
        rw[yV (show k<la.length by omega),yV (show k<lb.length by omega),hd]
        have g1:la[k]=x:=by rw[xe (by omega)]at hx;exact Option.some.inj hx
        have g2:lb[k]'(by omega)=y:=by rw[xe (by omega)]at hy;exact Option.some.inj hy
        rw[g1,g2,hxy]
theorem eW     (hE : GoodN E) {va vb : AV} {la lb : List Nat} (ha : Bo  s va la) (hb : Bo  s vb lb) (hla : la.length ≤ 100000000000) (hlb : lb.length ≤ 100000000000) (hsa : Be  la) (hsb : Be  lb) {K : AV → AE  → Prop}
    (hK:∀s',Af s.next s s'→K (iv (Hw (AG la) (AG lb))) s'):WF E 93 [va,vb] K s:=by
  refine hE.go sn (by decide) rfl ?_
  simp only[xR,pZ,pe,Qa,Qb,Qc,Qd,Qf,Qh,Qi,Qj,Qk,Ql,Qm,Qo,true_and,Qp,Qq,Qr,Qt,Qv,Rb,Rc,Re,Rf,Rh,Rk,Rm,Rn,Yc]
  refine C6 hE ha hla fun s1 v1 o1 r1=>?_
  simp only[Qd,Qo,true_and,Qr,Qs]
  refine C6 hE (hb.old o1) hlb fun s2 v2 o2 r2=>?_
  have n1:=r1.n32.old o2
  have n2:=r2.n32
  have hend:=hK s2 (o1.trans (o2.mono o1.1))
  have t1:=FE la
  have t2:=FE lb
  rw[B0 hsa]at n1 t1
  rw[B0 hsb]at n2 t2
  generalize AG la=A at *
  generalize AG lb=B at *
  obtain⟨a,ca,rfl,_,hca⟩:=n1
  obtain⟨b,cb,rfl,_,hcb⟩:=n2
  by_cases h1:(AJ A).length<(AJ B).length
  · have d1 : decide (((AJ    A).length : Int) < ((AJ    B).length : Int)) = true := decide_eq_true (by omega)
    have e:Hw A B=-1:=by unfold Hw;rw[if_pos (E1 h1)]
    rw[e]at hend
    simp only[Vh,pg,AH Tryz.underlying22,Ry,d1,Qb,Qc,Qd,Qf,Qh,Qi,Qj,Qk,Qm,Qo,true_and,Qp,Qq,Qr,Qs,Qt,Qv,Qz,Rj,Ry]
    exact hend
  · have d1:decide (((AJ A).length:Int)<((AJ B).length:Int))=false:=decide_eq_false (by omega)
    by_cases h2:(AJ B).length<(AJ A).length
    · have d2 : decide (((AJ    B).length : Int) < ((AJ    A).length : Int)) = true := decide_eq_true (by omega)
      have hlt:=E1 h2
      have e:Hw A B=1:=by unfold Hw;rw[if_neg (by omega),if_pos hlt]
      rw[e]at hend
      simp only[Vh,eJ,ph,AH Tryz.underlying22,Ry,Rz,d1,d2,Qb,Qc,Qd,Qf,Qh,Qi,Qj,Qk,Qm,Qo,true_and,Qp,Qq,Qr,Qs,Qt,Qv,Qz,Ra,Rj,Ry,Rz]
      exact hend
    · have d2 : decide (((AJ    B).length : Int) < ((AJ    A).length : Int)) = false := decide_eq_false (by omega)
      have hl:(AJ A).length=(AJ B).length:=by omega
      have e7:=CP Tryz.prog 3 ((AJ A).length:Int) 1 ⟨by omega,by omega⟩
      simp only[Vh,eJ,pj,AH Tryz.underlying22,Ry,Rz,d1,d2,e7,Qb,Qc,Qd,Qf,Qh,Qi,Qj,Qk,Qm,Qo,true_and,Qp,Qq,Qr,Qs,Qt,Qv,Ra,Ry,Rz]
      refine eV hl (AK A) (AK B) hca hcb (by omega) _ _ _ (fun heq y3 y6 y7 y8=>?_) (fun z y3 y6 y7 y8 hz=>?_) (AJ A).length _ _ _ (xZ _) (by rw[List.drop_length,hl,List.drop_length])
      · have:A=B:=XP heq
        subst this
        have e:Hw A A=0:=by unfold Hw;rw[if_neg (Nat.lt_irrefl _),if_neg (Nat.lt_irrefl _)]
        rw[e]at hend
        simp only[eI,if_true,Qb,Qc,Qd,Qf,Qh,Qi,Qm,Qo,true_and,Qp,Qq,Qr,Qs,Qt,Qv,Rb,Rd,Rg,Rj]
        exact hend
      · rw[AR,AR]at hz
        subst hz
        simp only[Qj,Qm,Qr,Qs,Rc,Rf,Rh,Rj,Rk,Rm,Rn,Yc]
        exact hend
end
theorem tY(n:Nat):NL [AV.int .u32 0] n=us (List.replicate n 0):=by
 induction n with
 | zero=>rfl
 | succ n ih=>show [AV.int .u32 0]++NL [AV.int .u32 0] n=_;rw[ih];rfl
theorem PX(n:Nat)(h:n≤100000000000):BV Tryz.prog 22 (iv (n:Int)) (iv (n:Int))=some (R 76 1 false (us (List.replicate n 0)),.slice n):=by
 have e:BV Tryz.prog 22 (.int .i64 (.ofNat n)) (.int .i64 (.ofNat n))=some (F2 76 1 (NL [AV.int .u32 0] n),.slice n):=by
  simp[BV,Tryz.underlying22,W4,Cx,wM,AP,CQ (show 4 * n≤1099511627776 by omega),CQ (show n≤1099511627776 by omega),AV.cells]
 rw[tY]at e
 exact e
structure II(s s':AE)(i:Nat):Prop where
 next:s'.next=s.next
 get:∀j,j≠i→s'.heap.get j=s.heap.get j
theorem II.refl(s:AE)(i:Nat):II s s i:=⟨rfl,fun _ _=>rfl⟩
theorem II.set{s s':AE}{i:Nat}(h:II s s' i)(o:BD):II s (setObj s' i o) i:=⟨h.next,fun j hj=>(Wx o hj).trans (h.get j hj)⟩
theorem II.old{s s':AE}{i b:Nat}(h:II s s' i)(hb:b≤i):Af b s s':=⟨ya h.next.symm,fun j hj=>h.get j (by omega)⟩
section
variable{E:CU}{s:AE}
theorem Up{s1:AE}{x:Nat}(hx:0<x)(hxB:x≤4294967296){a:Option (Nat×Nat)}{cap:Option Nat}{l:List Nat}{b qi:Nat}(hc:AU b s1 a (us l))(hb:b≤qi)(hl:l.length≤100000000000)(hs:Be l){Q:Ay→Prop}
  (hq:∀ (s':AE) (y4 y5:AV),II s1 s' qi→s'.heap.get qi=some (R 76 1 false (us (Bc x l).1))→Q ⟨.exit 0,[.slice a l.length cap,Aj x,.slice (some (qi,0)) l.length (some l.length),Aj (Bc x l).2,y4,y5],[],s'⟩):
  ∀ (k:Nat) (s':AE) (x5:AV),k≤l.length→II s1 s' qi→s'.heap.get qi=some (R 76 1 false (us (List.replicate k 0++(Bc x (l.drop k)).1))) →
   WC E none (.loop Q7) Q [.slice a l.length cap,Aj x,.slice (some (qi,0)) l.length (some l.length),Aj (Bc x (l.drop k)).2,iv ((k:Int) - 1),x5] [] s':=by
 intro k
 induction k with
 | zero =>
  intro s' x5 hk ho hg
  have d0:decide ((0:Int)≤((0:Nat):Int) - 1)=false:=rfl
  refine WC.loop' ?_
  simp only[Q7,eK,Wb,d0,Qa,Qb,Qc,Qd,Qf,Qh,Qi,Qj,Qm,Qo,true_and,Qp,Qq,Qr,Qs,Qt,Qv,Ra,Rb,Rd,Re,Wb]
  exact hq s' _ _ ho hg
 | succ k ih =>
  intro s' x5 hk ho hg
  have hy:l[k]? = some l[k]:=xe (by omega)
  have hdk:l.drop k=l[k]::l.drop (k+1):=yV (by omega)
  generalize l[k]=y at hy hdk
  have hys:y<4294967296:=hs y (yG hy)
  obtain⟨i,o,rfl,hi,hload⟩:=hc k _ (DE hy)
  obtain⟨_,v2,v3⟩:=ET hx (l.drop (k+1))
  have hsl:Bc x (l.drop k)=(((Bc x (l.drop (k+1))).2 * LB+y) / x::(Bc x (l.drop (k+1))).1,((Bc x (l.drop (k+1))).2 * LB+y) % x):=by rw[hdk];rfl
  have hLB:LB=4294967296:=rfl
  rw[hLB]at hsl
  rw[hsl]at ih
  generalize Bc x (l.drop (k+1))=T at *
  obtain⟨q,r⟩:=T
  simp only at *
  have hqlt:(r * 4294967296+y) / x<4294967296:=by
   rw[yu hx]
   have:(r+1) * 4294967296≤x * 4294967296:=yA _ v2
   rw[yN]at this
   rw[xy _ x]
   omega
  have e0:((k+1:Nat):Int) - 1=(k:Int):=by omega
  have d0:decide ((0:Int)≤(k:Int))=true:=decide_eq_true (by omega)
  have e1:AL Tryz.prog .shl 69 (Aj r) (.int .u64 32)=some (Aj (r * 4294967296)):=OO Tryz.prog 69 (k:=.u64) (n:=32) (by decide) (by show r * 4294967296<_;omega)
  have e2:=Ae (cap:=cap) (i:=i) (o:=o) Tryz.underlying22 Cx (show k<l.length by omega)
  have e3:AC Tryz.prog s' 76 (.ptr (some (i,o+k * 1)))=some (Aw y):=Bd Gq (by rw[xj,B6 (ho.get i (by omega))];exact hload)
  have e4:=kO Tryz.prog 69 (a:=r) (b:=y) (by omega) hys
  have e5:=q7 Tryz.prog 69 (a:=r * 4294967296+y) (b:=x) (by omega) (by omega)
  have e6:(r * 4294967296+y) / x % 4294967296=(r * 4294967296+y) / x:=yS hqlt
  have e7:=Ae (cap:=some l.length) (i:=qi) (o:=0) Tryz.underlying22 Cx (show k<l.length by omega)
  rw[xj,xu]at e7
  have hlen:k<(us (List.replicate (k+1) 0++q)).length:=by rw[DS,xp,List.length_replicate];omega
  have e8:=Bn (P:=Tryz.prog) (t:=76) (v:=Aw ((r * 4294967296+y) / x)) Cx hg hlen rfl
  have e9:=q8 Tryz.prog 69 (a:=r * 4294967296+y) (b:=x) (by omega)
  have e10:=CP Tryz.prog 3 (k:Int) 1 ⟨by omega,by omega⟩
  have hrow:(us (List.replicate (k+1) 0++q)).set k (Aw ((r * 4294967296+y) / x))=us (List.replicate k 0++((r * 4294967296+y) / x::q)):=by
   rw[Im]
   congr 1
   rw[List.replicate_succ',yW,List.set_append_right _ _ (by simp)]
   simp
  rw[hrow]at e8
  refine WC.loop' ?_
  generalize hW:WC E none (Aa.loop Q7) Q=WW
  rw[e0]
  simp only[Q7,eK,py,pz,p4,p6,Wb,d0,e1,e2,e3,Bz hys,e4,e5,CL,e6,e7,e8,e9,e10,Xy,Za,Qa,Qb,Qc,Qd,Qf,Qh,Qi,Qj,Qk,Qm,Qo,true_and,Qp,Qq,Qr,Qs,Qt,Qv,Qz,Rb,Rd,Re,Wb]
  rw[← hW]
  exact ih _ _ (by omega) (ho.set _) (Ww _ _ _)
theorem Sm(hE:GoodN E){v:AV}{l:List Nat}(hv:Bo s v l)(hl:l.length≤10000000000)(hs:Be l){x:Nat}(hx:0<x)(hxB:x≤4294967296){K:AV→AE→Prop}(hK:∀s' v',Af s.next s s'→NR s.next s' v' (DH (Bc x l).1)→K (.tuple [v',Aj (Bc x l).2]) s'):
  WF E 94 [v,Aj x] K s:=by
 obtain⟨a,cap,rfl,hcap,hc⟩:=hv
 have e1:=PX l.length (by omega)
 have e2:=CP Tryz.prog 3 (l.length:Int) 1 ⟨by omega,by omega⟩
 have ho:=Af.new s (R 76 1 false (us (List.replicate l.length 0)))
 refine hE.go so (by decide) rfl ?_
 simp only[xS,pn,pr,px,AH Tryz.underlying22,e1,e2,Xy,Xe,Qa,Qb,Qc,Qd,Qf,Qh,Qi,Qj,Qk,Ql,Qm,Qo,true_and,Qp,Qq,Qr,Qt,Qv,Rb,Rh,Rk,Rm,Rp,Yc]
 have hg0:(newObj s (R 76 1 false (us (List.replicate l.length 0)))).heap.get s.next=some (R 76 1 false (us (List.replicate l.length 0++(Bc x (l.drop l.length)).1))):=by
  rw[AW,if_pos rfl,List.drop_length]
  simp[Bc]
 have h0:AV.int .u64 0=Aj (Bc x (l.drop l.length)).2:=by rw[List.drop_length];rfl
 rw[h0]
 refine Up (s1:=newObj s (R 76 1 false (us (List.replicate l.length 0)))) hx hxB (hc.old ho (xZ _)) (xZ s.next) (by omega) hs (fun s' y4 y5 o' hg'=>?_) l.length _ _ (xZ _) (II.refl _ _) hg0
 obtain⟨v1,v2,v3⟩:=ET hx l
 have hsn:s'.next=s.next+1:=o'.next
 have hq:Bo s' (.slice (some (s.next,0)) l.length (some l.length)) (Bc x l).1:=
  ⟨some (s.next,0),some l.length,by rw[v3],.inl ⟨l.length,rfl,by omega,fun e=>by cases e⟩,Hb hg' (by omega)⟩
 simp only[p7,if_true,Qb,Qc,Qd,Qf,Qh,Qj,Qk,Qm,Qo,true_and,Qr,Qs,Qt,Qv,Rb,Rd,Rg,Rj]
 refine C6 hE hq (by omega) fun s2 v2 o2 r2=>?_
 simp only[Qd,Qo,true_and,Qp,Qq,Qr,Qs]
 exact hK s2 v2 (ho.trans ((o'.old (xZ _)).trans (o2.mono (by omega)))) (r2.mono (by omega))
end
def GE(cu:List Nat)(off:Nat)(d:List Nat):List Nat:=cu.take off++d++cu.drop (off+d.length)
theorem Pa(cu:List Nat)(off:Nat):GE cu off []=cu:=by simp[GE,zB]
theorem Hj{cu:List Nat}{off:Nat}{d:List Nat}(h:off+d.length≤cu.length):(GE cu off d).length=cu.length:=by
 unfold GE
 simp only[xp,xz,yL]
 omega
theorem PZ{cu:List Nat}{off:Nat}{d:List Nat}(h:off+d.length<cu.length):(GE cu off d)[off+d.length]? = cu[off+d.length]? := by
 unfold GE
 rw[yi (by simp;omega)]
 simp only[xp,xz]
 rw[yn]
 congr 1
 omega
theorem LJ{cu:List Nat}{off:Nat}{d:List Nat}(h:off+d.length<cu.length)(x:Nat):(GE cu off d).set (off+d.length) x=GE cu off (d++[x]):=by
 unfold GE
 have hl:(cu.take off++d).length=off+d.length:=by simp;omega
 rw[List.set_append_right _ _ (by omega),hl,zi]
 rw[yV h]
 simp[yW,yR]
section
variable{E:CU}{s:AE}
theorem X6{s1:AE}{q:Nat}(hq32:q<4294967296){ui off:Nat}{capu:Option Nat}{pp:Option Nat}{cu w:List Nat}(hcu:off+w.length≤cu.length)(hsu:Be cu)(hsw:Be w){a9:Option (Nat×Nat)}{c9:Option Nat}{b:Nat}(hc9:AU b s1 a9 (us w))(h9:∀i o,a9=some (i,o)→i≠ui∧some i≠pp)
    (hwl:w.length≤100000000000) {D:List Nat} {cf bf:Nat} {Q:Ay→Prop} (x1 x3:AV)
    (hq:∀ (s':AE) (c br:Nat) (d:List Nat) (y6 y7 y8 y11 y12:AV),Eo s1 s' ui pp→d=D→br=bf→Cf s' ui (us (GE cu off d)) pp →
      Q ⟨.exit 0,[.slice (some (ui,off)) w.length capu,x1,Aj q,x3,Aj c,Aj br,y6,y7,y8,.slice a9 w.length c9,iv (w.length:Int),y11,y12],[],s'⟩):
    ∀ (r : List Nat) (s' : AE)  (c br : Nat) (d : List Nat) (x6 x7 x8 x12 : AV), w.drop d.length = r → d.length ≤ w.length → Eo    s1 s' ui pp → c < 4294967296 → br ≤ 1 →
      (d++(CY q ((cu.drop (off+d.length)).zip r) c br).1,(CY q ((cu.drop (off+d.length)).zip r) c br).2)=(D,cf,bf)→Cf s' ui (us (GE cu off d)) pp →
      WC E none (.loop Lq) Q [.slice (some (ui,off)) w.length capu,x1,Aj q,x3,Aj c,Aj br,x6,x7,x8,.slice a9 w.length c9,iv (w.length:Int),iv (d.length:Int),x12] [] s':=by
  intro r
  induction r with
  | nil =>
    intro s' c br d x6 x7 x8 x12 hd hk ho hc hb hT hg
    have hkl:d.length=w.length:=by
      have:=congrArg List.length hd
      simp at this
      omega
    rw[List.zip_nil_right]at hT
    simp only[CY,zS,Prod.mk.injEq]at hT
    have dd:decide ((d.length:Int)<(w.length:Int))=false:=decide_eq_false (by omega)
    refine WC.loop' ?_
    simp only[Lq,eN,Ry,dd,Qa,Qb,Qc,Qd,Qf,Qh,Qj,Qm,Qo,true_and,Qp,Qq,Qr,Qs,Qt,Qv,Ra,Rb,Rd,Re,Ry]
    exact hq s' c br d _ _ _ _ _ ho hT.1 hT.2.2 hg
  | cons y r ih =>
    intro s' c br d x6 x7 x8 x12 hd hk ho hc hb hT hg
    have hlt:d.length<w.length:=by
      rcases xf d.length w.length with h' | h'
      · exact h'
      · rw[yQ h']at hd;cases hd
    have hy:w[d.length]? = some y:=by
      have:=congrArg (fun l=>l[0]?) hd
      simpa using this
    have hd':w.drop (d.length+1)=r:=by
      have:=congrArg (List.drop 1) hd
      simpa[zC]using this
    have hys:y<4294967296:=hsw y (yG hy)
    have hlu:off+d.length<cu.length:=by omega
    have hu:cu[off+d.length]? = some cu[off+d.length]:=xe hlu
    have hdu:cu.drop (off+d.length)=cu[off+d.length]::cu.drop (off+(d.length+1)):=yV hlu
    generalize cu[off+d.length]=u at hu hdu
    have hus:u<4294967296:=hsu u (yG hu)
    rw[hdu,zX]at hT
    simp only[CY]at hT
    obtain⟨i,o,rfl,hi,hload⟩:=hc9 d.length _ (DE hy)
    have hne:=h9 i o rfl
    have hkk:decide ((d.length:Int)<(w.length:Int))=true:=decide_eq_true (by omega)
    have e1:=Ae (cap:=c9) (i:=i) (o:=o) Tryz.underlying22 Cx hlt
    have e2:AC Tryz.prog s' 76 (.ptr (some (i,o+d.length * 1)))=some (Aw y):=Bd Gq (by rw[xj,B6 (ho.get i hne.1 hne.2)];exact hload)
    have hqy:q * y≤4294967295 * 4294967295:=yh (by omega) (by omega)
    have e3:=Sx Tryz.prog 69 (a:=q) (b:=y) (by omega)
    have e4:=IE Tryz.prog 69 (a:=c) (b:=q * y) (by omega)
    have e5:=Ae (cap:=capu) (i:=ui) (o:=off) Tryz.underlying22 Cx hlt
    have hcell:(us (GE cu off d))[off+d.length * 1]? = some (Aw u):=by rw[xj];exact DE ((PZ hlu).trans hu)
    have e6:=HH (P:=Tryz.prog) (t:=76) Gq hg hcell
    have hLB:LB=4294967296:=rfl
    rw[hLB]at hT
    generalize hc1:c+q * y=c1 at hT e4
    have hc1b:c1<18446744073709551616:=by omega
    have e7:=Kn Tryz.prog 69 hc1b
    have hm:c1 % 4294967296<4294967296:=yP _ (by decide)
    generalize hmm:c1 % 4294967296=m at hT e7 hm
    have e8:=OP Tryz.prog 69 (a:=u) (b:=m) (by omega)
    have e9:=OP Tryz.prog 69 (a:=(u+18446744073709551616 - m) % 18446744073709551616) (b:=br) (by omega)
    generalize hdd:((u+18446744073709551616 - m) % 18446744073709551616+18446744073709551616 - br) % 18446744073709551616=dd at e9
    have hddb:dd<18446744073709551616:=by rw[← hdd];exact yP _ (by decide)
    have e10:=Kn Tryz.prog 69 hddb
    have e11:dd % 4294967296 % 4294967296=dd % 4294967296:=zZ _ _
    have e12:dd % 4294967296=(u+4294967296 - m - br) % 4294967296:=by omega
    have e13:AL Tryz.prog .shr 69 (Aj dd) (.int .u64 63)=some (Aj (dd / 9223372036854775808)):=JZ Tryz.prog 69 (k:=.u64) (n:=63) (by decide)
    have e14:dd / 9223372036854775808=if u<m+br then 1 else 0:=by split<;>omega
    have e15:AL Tryz.prog .shr 69 (Aj c1) (.int .u64 32)=some (Aj (c1 / 4294967296)):=JZ Tryz.prog 69 (k:=.u64) (n:=32) (by decide)
    rw[e12]at e10 e11
    generalize hx:(u+4294967296 - m - br) % 4294967296=x at hT e10 e11 e12
    have hlm:off+d.length * 1<(us (GE cu off d)).length:=by rw[DS,Hj (by omega)];omega
    obtain⟨s2,e16,w1,w2,w3⟩:=EU (P:=Tryz.prog) (t:=76) (v:=Aw x) Cx hg hlm rfl
    rw[xj]at e16
    rw[xj,Im,LJ hlu]at w1
    rw[xj]at e5 e6
    have e17:=Az Tryz.prog 3 (d.length:Int) 1 ⟨by omega,by omega⟩
    have e17':((d.length:Int)+1)=((d.length+1:Nat):Int):=by omega
    refine WC.loop' ?_
    generalize hW:WC E none (Aa.loop Lq) Q=WW
    simp only[Lq,eN,qK,qL,qM,qN,qO,qP,eL,Ry,hkk,e1,e2,Bz hys,e3,e4,e5,e6,Bz hus,e7,e8,e9,e10,CL,e11,e16,e15,e13,e14,e17,e17',Xy,Za,Qa,Qb,Qc,Qd,Qf,Qh,Qi,Qj,Qk,Qm,Qo,true_and,Qp,Qq,Qr,Qs,Qt,Qv,Qz,Rb,Rd,Re,Ry]
    rw[← hW]
    have hlen1:(d++[x]).length=d.length+1:=by rw[xp];rfl
    have key:=ih s2 (c1 / 4294967296) (if u<m+br then 1 else 0) (d++[x])
    rw[hlen1]at key
    exact key _ _ _ _ hd' hlt (ho.step w2 w3) (by omega) (by split<;>omega) (by rw[yW];exact hT) w1
theorem kK(hE:GoodN E){q:Nat}(hq32:q<4294967296){ui off:Nat}{capu:Option Nat}{pp:Option Nat}{cu vl:List Nat}(hui:ui<s.next)(hpp:∀q,pp=some q→q<s.next)(hg:Cf s ui (us cu) pp)(hcu:off+(vl.length+1)≤cu.length)(hsu:Be cu)(hsv:Be vl){vv:AV}(hv:Bo s vv vl)(hvl:vl.length≤10000000000){K:AV→AE→Prop}
  (hK:∀s',s.next≤s'.next→(∀j,j<s.next→j≠ui→some j≠pp→s'.heap.get j=s.heap.get j)→Cf s' ui (us (GE cu off (CY q ((cu.drop off).zip (vl++[0])) 0 0).1)) pp →
   K (.bool (decide (0<(CY q ((cu.drop off).zip (vl++[0])) 0 0).2.2))) s'):WF E 97 [.slice (some (ui,off)) (vl.length+1) capu,vv,Aj q] K s:=by
 refine hE.go sw (by decide) rfl ?_
 simp only[xV,qH,qI,qJ,Qa,Qb,Qc,Qd,Qf,Qh,Qi,Qj,Qk,Ql,Qm,Qo,true_and,Qp,Qq,Qr,Qs,Qt,Qv,Rb,Rh,Rk,Rm,Rn,Yc]
 refine Ly hE hv (by omega) fun s1 v1 o1 r1=>?_
 obtain⟨O,hD,hO,hsl,_⟩:=r1
 obtain⟨v2,s2,O2,happ,hD2,hn2,hf2,hO2,hsl2⟩:=JJ hD 0 (by omega)
 have hn12:s.next≤s2.next:=by have:=o1.1;omega
 have hkeep:∀j,j<s.next→s2.heap.get j=s.heap.get j:=fun j hj=>by rw[hf2 j (by have:=o1.1;omega) (fun h=>by have:=hO j h;omega)];exact o1.2 j hj
 obtain⟨a9,c9,rfl,hc9⟩:=hD2.cells
 have hids:∀i o,a9=some (i,o)→i≠ui∧some i≠pp:=fun i o e=>by
  subst e
  have hge:s.next≤i:=by
   rcases hsl2 i rfl with h | h
   ·exact hsl i h
   ·have:=o1.1;omega
  exact⟨by omega,fun e=>by have:=hpp i e.symm;omega⟩
 have hw:(vl++[0]).length=vl.length+1:=by rw[xp];rfl
 have happ':Ar Tryz.prog (newObj s1 (R 76 1 false [.int .u32 0])) [22,22] [v1,.slice (some (s1.next,0)) 1 (some 1)]=some (.slice a9 (vl++[0]).length c9,s2):=happ
 simp only[GZ,Xe,happ',AH Tryz.underlying22,Qd,Qm,Qo,true_and,Qp,Qq,Qr,Qs,Yc]
 have hsw:Be (vl++[0]):=hsv.append (fun x hx=>by rw[A0H.1 hx];exact BO)
 rw[← hw]
 refine X6 (s1:=s2) hq32 (w:=vl++[0]) (by rw[hw];exact hcu) hsu hsw hc9 hids (by rw[hw];omega) (D:=(CY q ((cu.drop off).zip (vl++[0])) 0 0).1) (cf:=(CY q ((cu.drop off).zip (vl++[0])) 0 0).2.1) (bf:=(CY q ((cu.drop off).zip (vl++[0])) 0 0).2.2) _ _
  (fun s' c br d y6 y7 y8 y11 y12 ho hd hbr hg'=>?_) (vl++[0]) s2 0 0 [] _ _ _ _ rfl (xg _) (Eo.refl _ _ _) (by decide) (by decide) rfl (by rw[Pa];exact hg.keep (hkeep ui hui))
 subst hd;subst hbr
 have e1:AL Tryz.prog .gtr 69 (Aj (CY q ((cu.drop off).zip (vl++[0])) 0 0).2.2) (.int .u64 0)=some (.bool (decide (0<(CY q ((cu.drop off).zip (vl++[0])) 0 0).2.2))):=ON Tryz.prog 69 (b:=0) .u64
 simp only[eM,e1,if_true,Qb,Qc,Qd,Qf,Qh,Qi,Qj,Qk,Qm,Qo,true_and,Qp,Qq,Qr,Qs,Qt,Qv,Rb,Rd,Rg,Rj]
 exact hK s' (by have:=ho.next;omega) (fun j hj hne hnp=>(ho.get j hne hnp).trans (hkeep j hj)) hg'
theorem Wz{s1:AE}{ui off:Nat}{capu:Option Nat}{pp:Option Nat}{cu w:List Nat}(hcu:off+w.length≤cu.length)(hsu:Be cu)(hsw:Be w){a9:Option (Nat×Nat)}{c9:Option Nat}{b:Nat}(hc9:AU b s1 a9 (us w))(h9:∀i o,a9=some (i,o)→i≠ui∧some i≠pp)
  (hwl:w.length≤100000000000) {D:List Nat} {Q:Ay→Prop} (x1:AV)
  (hq:∀ (s':AE) (d:List Nat) (y2 y3 y4 y7 y8:AV),Eo s1 s' ui pp→d=D→Cf s' ui (us (GE cu off d)) pp →
   Q ⟨.exit 0,[.slice (some (ui,off)) w.length capu,x1,y2,y3,y4,.slice a9 w.length c9,iv (w.length:Int),y7,y8],[],s'⟩):
  ∀ (r:List Nat) (s':AE) (c:Nat) (d:List Nat) (x3 x4 x8:AV),w.drop d.length=r→d.length≤w.length→Eo s1 s' ui pp→c≤1 →
   d++(Ea ((cu.drop (off+d.length)).zip r) c).1=D→Cf s' ui (us (GE cu off d)) pp →
   WC E none (.loop RC) Q [.slice (some (ui,off)) w.length capu,x1,Aj c,x3,x4,.slice a9 w.length c9,iv (w.length:Int),iv (d.length:Int),x8] [] s':=by
 intro r
 induction r with
 | nil =>
  intro s' c d x3 x4 x8 hd hk ho hc hT hg
  have hkl:d.length=w.length:=by
   have:=congrArg List.length hd
   simp at this
   omega
  rw[List.zip_nil_right]at hT
  simp only[Ea,zS]at hT
  have dd:decide ((d.length:Int)<(w.length:Int))=false:=decide_eq_false (by omega)
  refine WC.loop' ?_
  simp only[RC,eO,Ry,dd,Qa,Qb,Qc,Qd,Qf,Qh,Qj,Qm,Qo,true_and,Qp,Qq,Qr,Qs,Qt,Qv,Ra,Rb,Rd,Re,Ry]
  exact hq s' d _ _ _ _ _ ho hT hg
 | cons y r ih =>
  intro s' c d x3 x4 x8 hd hk ho hc hT hg
  have hlt:d.length<w.length:=by
   rcases xf d.length w.length with h' | h'
   ·exact h'
   ·rw[yQ h']at hd;cases hd
  have hy:w[d.length]? = some y:=by
   have:=congrArg (fun l=>l[0]?) hd
   simpa using this
  have hd':w.drop (d.length+1)=r:=by
   have:=congrArg (List.drop 1) hd
   simpa[zC]using this
  have hys:y<4294967296:=hsw y (yG hy)
  have hlu:off+d.length<cu.length:=by omega
  have hu:cu[off+d.length]? = some cu[off+d.length]:=xe hlu
  have hdu:cu.drop (off+d.length)=cu[off+d.length]::cu.drop (off+(d.length+1)):=yV hlu
  generalize cu[off+d.length]=u at hu hdu
  have hus:u<4294967296:=hsu u (yG hu)
  rw[hdu,zX]at hT
  simp only[Ea]at hT
  obtain⟨i,o,rfl,hi,hload⟩:=hc9 d.length _ (DE hy)
  have hne:=h9 i o rfl
  have hkk:decide ((d.length:Int)<(w.length:Int))=true:=decide_eq_true (by omega)
  have e1:=Ae (cap:=c9) (i:=i) (o:=o) Tryz.underlying22 Cx hlt
  have e2:AC Tryz.prog s' 76 (.ptr (some (i,o+d.length * 1)))=some (Aw y):=Bd Gq (by rw[xj,B6 (ho.get i hne.1 hne.2)];exact hload)
  have e5:=Ae (cap:=capu) (i:=ui) (o:=off) Tryz.underlying22 Cx hlt
  have hcell:(us (GE cu off d))[off+d.length * 1]? = some (Aw u):=by rw[xj];exact DE ((PZ hlu).trans hu)
  have e6:=HH (P:=Tryz.prog) (t:=76) Gq hg hcell
  have e3:=IE Tryz.prog 69 (a:=u) (b:=y) (by omega)
  have e4:=IE Tryz.prog 69 (a:=c) (b:=u+y) (by omega)
  have hLB:LB=4294967296:=rfl
  rw[hLB,show u+y+c=c+(u+y) by omega]at hT
  generalize hc1:c+(u+y)=c1 at hT e4
  have hc1b:c1<18446744073709551616:=by omega
  have e7:=Kn Tryz.prog 69 hc1b
  have e11:c1 % 4294967296 % 4294967296=c1 % 4294967296:=zZ _ _
  have e15:AL Tryz.prog .shr 69 (Aj c1) (.int .u64 32)=some (Aj (c1 / 4294967296)):=JZ Tryz.prog 69 (k:=.u64) (n:=32) (by decide)
  generalize hx:c1 % 4294967296=x at hT e7 e11
  have hlm:off+d.length * 1<(us (GE cu off d)).length:=by rw[DS,Hj (by omega)];omega
  obtain⟨s2,e16,w1,w2,w3⟩:=EU (P:=Tryz.prog) (t:=76) (v:=Aw x) Cx hg hlm rfl
  rw[xj]at e16
  rw[xj,Im,LJ hlu]at w1
  rw[xj]at e5 e6
  have e17:=Az Tryz.prog 3 (d.length:Int) 1 ⟨by omega,by omega⟩
  have e17':((d.length:Int)+1)=((d.length+1:Nat):Int):=by omega
  refine WC.loop' ?_
  generalize hW:WC E none (Aa.loop RC) Q=WW
  simp only[RC,eO,qS,qT,qU,qV,qW,Ry,hkk,e1,e2,e5,e6,Bz hus,Bz hys,e3,e4,e7,CL,e11,e16,e15,e17,e17',Xy,Za,Qa,Qb,Qc,Qd,Qf,Qh,Qi,Qj,Qk,Qm,Qo,true_and,Qp,Qq,Qr,Qs,Qt,Qv,Qz,Rb,Rd,Re,Ry]
  rw[← hW]
  have hlen1:(d++[x]).length=d.length+1:=by rw[xp];rfl
  have key:=ih s2 (c1 / 4294967296) (d++[x])
  rw[hlen1]at key
  exact key _ _ _ hd' hlt (ho.step w2 w3) (by omega) (by rw[yW];exact hT) w1
theorem iJ(hE:GoodN E){ui off:Nat}{capu:Option Nat}{pp:Option Nat}{cu vl:List Nat}(hui:ui<s.next)(hpp:∀q,pp=some q→q<s.next)(hg:Cf s ui (us cu) pp)(hcu:off+(vl.length+1)≤cu.length)(hsu:Be cu)(hsv:Be vl){vv:AV}(hv:Bo s vv vl)(hvl:vl.length≤10000000000){K:AV→AE→Prop}
  (hK:∀s' r,s.next≤s'.next→(∀j,j<s.next→j≠ui→some j≠pp→s'.heap.get j=s.heap.get j)→Cf s' ui (us (GE cu off (Ea ((cu.drop off).zip (vl++[0])) 0).1)) pp→K r s'):WF E 98 [.slice (some (ui,off)) (vl.length+1) capu,vv] K s:=by
 refine hE.go tA (by decide) rfl ?_
 simp only[xW,qQ,qR,Qa,Qb,Qc,Qd,Qf,Qh,Qi,Qj,Qk,Ql,Qm,Qo,true_and,Qp,Qq,Qr,Qs,Qt,Qv,Rb]
 refine Ly hE hv (by omega) fun s1 v1 o1 r1=>?_
 obtain⟨O,hD,hO,hsl,_⟩:=r1
 obtain⟨v2,s2,O2,happ,hD2,hn2,hf2,hO2,hsl2⟩:=JJ hD 0 (by omega)
 have hn12:s.next≤s2.next:=by have:=o1.1;omega
 have hkeep:∀j,j<s.next→s2.heap.get j=s.heap.get j:=fun j hj=>by rw[hf2 j (by have:=o1.1;omega) (fun h=>by have:=hO j h;omega)];exact o1.2 j hj
 obtain⟨a9,c9,rfl,hc9⟩:=hD2.cells
 have hids:∀i o,a9=some (i,o)→i≠ui∧some i≠pp:=fun i o e=>by
  subst e
  have hge:s.next≤i:=by
   rcases hsl2 i rfl with h | h
   ·exact hsl i h
   ·have:=o1.1;omega
  exact⟨by omega,fun e=>by have:=hpp i e.symm;omega⟩
 have hw:(vl++[0]).length=vl.length+1:=by rw[xp];rfl
 have happ':Ar Tryz.prog (newObj s1 (R 76 1 false [.int .u32 0])) [22,22] [v1,.slice (some (s1.next,0)) 1 (some 1)]=some (.slice a9 (vl++[0]).length c9,s2):=happ
 simp only[GZ,Xe,happ',AH Tryz.underlying22,Qd,Qm,Qo,true_and,Qp,Qq,Qr,Qs,Yc]
 have hsw:Be (vl++[0]):=hsv.append (fun x hx=>by rw[A0H.1 hx];exact BO)
 rw[← hw]
 refine Wz (s1:=s2) (w:=vl++[0]) (by rw[hw];exact hcu) hsu hsw hc9 hids (by rw[hw];omega) (D:=(Ea ((cu.drop off).zip (vl++[0])) 0).1) _
  (fun s' d y2 y3 y4 y7 y8 ho hd hg'=>?_) (vl++[0]) s2 0 [] _ _ _ rfl (xg _) (Eo.refl _ _ _) (by decide) rfl (by rw[Pa];exact hg.keep (hkeep ui hui))
 subst hd
 simp only[if_true,Qm,Rg,Ri,Rj,Rk,Ro]
 exact hK s' _ (by have:=ho.next;omega) (fun j hj hne hnp=>(ho.get j hne hnp).trans (hkeep j hj)) hg'
end
section
variable{E:CU}{s:AE}
theorem EX{a:Option (Nat×Nat)}{l:List Nat}{b:Nat}(hc:AU b s a (us l)){n k x:Nat}{cap:Option Nat}(hk:k<n)(hx:l[k]? = some x):
  ∃p,AM Tryz.prog 22 (.slice a n cap) (iv (k:Int))=some p∧AC Tryz.prog s 76 p=some (Aw x):=by
 obtain⟨i,o,rfl,_,hload⟩:=hc k _ (DE hx)
 exact⟨_,Ae Tryz.underlying22 Cx hk,Bd Gq (by rw[xj];exact hload)⟩
theorem UJ         {plo vlo : List Nat} {u2 u1 u0 v2 v1 : Nat} {ap av : Option (Nat × Nat)} {cp cv : Option Nat} (hp : AU      s.next s ap (us (plo ++ [u2, u1, u0]))) (hv : AU      s.next s av (us (vlo ++ [v2, v1]))) (hlen : plo.length = vlo.length) (hml : vlo.length ≤ 10000000000) {Q : Ay   → Prop} (x2 x4 : AV)
    (hq:∀ (g:Nat) (y6 y7 y8:AV),g<4294967296→AG (plo++[u2,u1,u0]) / AG (vlo++[v2,v1])≤g→g≤AG (plo++[u2,u1,u0]) / AG (vlo++[v2,v1])+1 →
      Q ⟨.exit 0,[.slice ap (vlo.length+3) cp,.slice av (vlo.length+2) cv,x2,iv ((vlo.length+2:Nat):Int),x4,Aj g,y6,y7,y8],[],s⟩):
    ∀ (g left:Nat) (x7 x8:AV),Gn plo vlo u2 u1 u0 v2 v1 g left→left<4294967296→g≤4294967297 →
      WC E none (.loop Lp) Q [.slice ap (vlo.length+3) cp,.slice av (vlo.length+2) cv,x2,iv ((vlo.length+2:Nat):Int),x4,Aj g,Aj left,x7,x8] [] s:=by
  have hLB:LB=4294967296:=rfl
  intro g
  induction g with
  | zero =>
    intro left x7 x8 hI hl hg
    have hc2:=hI.c2
    have hc1:=hI.c1
    have hb2:=hI.b2
    rw[hLB]at hc2 hc1 hb2
    have s1:=CP Tryz.prog 3 ((vlo.length+2:Nat):Int) 1 ⟨by omega,by omega⟩
    have s1':((vlo.length+2:Nat):Int) - 1=((vlo.length+1:Nat):Int):=by omega
    have s2:=CP Tryz.prog 3 ((vlo.length+2:Nat):Int) 2 ⟨by omega,by omega⟩
    have s2':((vlo.length+2:Nat):Int) - 2=((vlo.length:Nat):Int):=by omega
    obtain⟨p1,i1,l1⟩:=EX (cap:=cv) (n:=vlo.length+2) hv (show vlo.length<vlo.length+2 by omega) (x:=v2) (by simp)
    obtain⟨p2,i2,l2⟩:=EX (cap:=cp) (n:=vlo.length+3) hp (k:=vlo.length) (by omega) (x:=u2) (by rw[← hlen];simp)
    have d0:AL Tryz.prog .gtr 69 (Aj 0) (.int .u64 4294967295)=some (.bool false):=by kernel_rfl
    have m1:=Sx Tryz.prog 69 (a:=0) (b:=v2) (by omega)
    have m2:AL Tryz.prog .shl 69 (Aj left) (.int .u64 32)=some (Aj (left * 4294967296)):=OO Tryz.prog 69 (k:=.u64) (n:=32) (by decide) (by show left * 4294967296<_;omega)
    have m3:=kO Tryz.prog 69 (a:=left) (b:=u2) (by omega) hb2
    have m4:=ON Tryz.prog 69 (a:=0 * v2) (b:=left * 4294967296+u2) .u64
    have m5:decide (left * 4294967296+u2<0 * v2)=false:=decide_eq_false (by omega)
    refine WC.loop' ?_
    simp only[Lp,NX,d0,s2,s2',i1,l1,Bz hc2,m1,m2,i2,l2,Bz hb2,m3,m4,m5,Qa,Qb,Qc,Qd,Qf,Qg,Qh,Qi,Qj,Qk,Qm,Qo,true_and,Qp,Qq,Qr,Qs,Qt,Qv,Qw,Qx,Ra,Rb,Rd,Re,Rg,Rt,Yb,Ru,Rw]
    exact hq 0 _ _ _ (by decide) hI.low (hI.done (by decide) (by omega))
  | succ g ih =>
    intro left x7 x8 hI hl hg
    have hc2:=hI.c2
    have hc1:=hI.c1
    have hb2:=hI.b2
    have hb1:=hI.b1
    have htop:=hI.top
    have hsum:=hI.sum
    rw[hLB]at hc2 hc1 hb2 hb1 hsum
    have s1:=CP Tryz.prog 3 ((vlo.length+2:Nat):Int) 1 ⟨by omega,by omega⟩
    have s1':((vlo.length+2:Nat):Int) - 1=((vlo.length+1:Nat):Int):=by omega
    have s2:=CP Tryz.prog 3 ((vlo.length+2:Nat):Int) 2 ⟨by omega,by omega⟩
    have s2':((vlo.length+2:Nat):Int) - 2=((vlo.length:Nat):Int):=by omega
    obtain⟨p1,i1,l1⟩:=EX (cap:=cv) (n:=vlo.length+2) hv (show vlo.length<vlo.length+2 by omega) (x:=v2) (by simp)
    obtain⟨p2,i2,l2⟩:=EX (cap:=cp) (n:=vlo.length+3) hp (k:=vlo.length) (by omega) (x:=u2) (by rw[← hlen];simp)
    obtain⟨p3,i3,l3⟩:=EX (cap:=cv) (n:=vlo.length+2) hv (show vlo.length+1<vlo.length+2 by omega) (x:=v1) (by simp)
    have m6:AL Tryz.prog .sub 69 (Aj (g+1)) (.int .u64 1)=some (Aj g):=by
      have:=OP Tryz.prog 69 (a:=g+1) (b:=1) (by decide)
      rw[show(g+1+18446744073709551616 - 1) % 18446744073709551616=g by omega]at this
      exact this
    have m7:=IE Tryz.prog 69 (a:=left) (b:=v1) (by omega)
    have m8:AL Tryz.prog .gtr 69 (Aj (left+v1)) (.int .u64 4294967295)=some (.bool (decide (4294967295<left+v1))):=ON Tryz.prog 69 (b:=4294967295) .u64
    have down:(4294967296≤g+1∨left * 4294967296+u2<(g+1) * v2)→Qa E none (.block 1 (.seq (.ops Q8) (.seq (.ops Q9) (.seq (.ops RA) (.cond (.var 8) (.exit 0) .skip))))) (If (WC E none (.loop Lp) Q) Q) [.slice ap (vlo.length+3) cp,.slice av (vlo.length+2) cv,x2,iv ((vlo.length+2:Nat):Int),x4,Aj (g+1),Aj left,.bool true,x8] [] s:=by
      intro hc
      obtain⟨_,hI'⟩:=hI.dec (by rw[hLB];exact hc)
      rw[zH]at hI'
      generalize hW:WC E none (Aa.loop Lp) Q=WW
      by_cases hbk:4294967295<left+v1
      · have db : decide (4294967295 < left + v1) = true := decide_eq_true hbk
        have hgB:g<4294967296:=by
          rcases xf g 4294967296 with h | h
          · exact h
          · exfalso
            have h1:4294967297 * v1≤(g+1) * v1:=yA v1 (by omega)
            have h2:u0 * 4294967296≤v1 * 4294967296:=yA _ htop
            omega
        have hle:g * v2≤4294967295 * 4294967295:=yh (by omega) (by omega)
        have hdone:=hI'.done (by rw[hLB];exact hgB) (by rw[hLB];omega)
        simp only[Q8,Q9,RA,m6,s1,s1',i3,l3,Bz hc1,m7,m8,db,Qa,Qb,Qc,Qd,Qf,Qh,Qi,Qj,Qk,Qm,Qo,true_and,Qp,Qq,Qr,Qs,Qt,Qv,Qz,Rb,Rd,Re,Rg]
        exact hq g _ _ _ hgB hI'.low hdone
      · have db:decide (4294967295<left+v1)=false:=decide_eq_false hbk
        simp only[Q8,Q9,RA,m6,s1,s1',i3,l3,Bz hc1,m7,m8,db,Qa,Qb,Qc,Qd,Qf,Qh,Qi,Qj,Qk,Qm,Qo,true_and,Qp,Qq,Qr,Qs,Qt,Qv,Ra,Rb,Rd,Re,Rg]
        rw[← hW]
        exact ih (left+v1) _ _ hI' (by omega) (by omega)
    have d0:AL Tryz.prog .gtr 69 (Aj (g+1)) (.int .u64 4294967295)=some (.bool (decide (4294967295<g+1))):=ON Tryz.prog 69 (b:=4294967295) .u64
    refine WC.loop' ?_
    generalize hW:WC E none (Aa.loop Lp) Q=WW
    rw[hW]at down
    generalize hB:Aa.block 1 (.seq (.ops Q8) (.seq (.ops Q9) (.seq (.ops RA) (.cond (.var 8) (.exit 0) .skip))))=BB at down
    have hl8:Lp=.seq (.seq (.ops NX) (.cond (.var 7) .skip (.exit 0))) BB:=by rw[← hB];rfl
    by_cases hgB:4294967295<g+1
    · have db:decide (4294967295<g+1)=true:=decide_eq_true hgB
      rw[hl8]
      generalize hBW:Qa E none BB (If WW Q)=BW at down
      simp only[NX,d0,db,hBW,Qa,Qb,Qc,Qd,Qf,Qg,Qh,Qi,Qj,Qk,Qm,Qo,true_and,Qp,Qq,Qr,Qs,Qt,Qu,Qv,Qw,Qx,Qz,Rb,Rd,Rt,Ya,Ru,Rw]
      exact down (.inl (by omega))
    · have db : decide (4294967295 < g + 1) = false := decide_eq_false hgB
      have hgv:(g+1) * v2≤4294967295 * 4294967295:=yh (by omega) (by omega)
      have m1:=Sx Tryz.prog 69 (a:=g+1) (b:=v2) (by omega)
      have m2:AL Tryz.prog .shl 69 (Aj left) (.int .u64 32)=some (Aj (left * 4294967296)):=OO Tryz.prog 69 (k:=.u64) (n:=32) (by decide) (by show left * 4294967296<_;omega)
      have m3:=kO Tryz.prog 69 (a:=left) (b:=u2) (by omega) hb2
      have m4:=ON Tryz.prog 69 (a:=(g+1) * v2) (b:=left * 4294967296+u2) .u64
      by_cases hc:left * 4294967296+u2<(g+1) * v2
      · have m5:decide (left * 4294967296+u2<(g+1) * v2)=true:=decide_eq_true hc
        rw[hl8]
        generalize hBW:Qa E none BB (If WW Q)=BW at down
        simp only[NX,d0,db,s2,s2',i1,l1,Bz hc2,m1,m2,i2,l2,Bz hb2,m3,m4,m5,hBW,Qa,Qb,Qc,Qd,Qf,Qg,Qh,Qi,Qj,Qk,Qm,Qo,true_and,Qp,Qq,Qr,Qs,Qt,Qv,Qw,Qx,Qz,Rb,Rd,Rt,Yb,Ru,Rw]
        exact down (.inr hc)
      · have m5:decide (left * 4294967296+u2<(g+1) * v2)=false:=decide_eq_false hc
        rw[hl8]
        generalize hBW:Qa E none BB (If WW Q)=BW at down
        simp only[NX,d0,db,s2,s2',i1,l1,Bz hc2,m1,m2,i2,l2,Bz hb2,m3,m4,m5,hBW,Qa,Qb,Qc,Qd,Qf,Qg,Qh,Qi,Qj,Qk,Qm,Qo,true_and,Qp,Qq,Qr,Qs,Qt,Qv,Qw,Qx,Ra,Rb,Rd,Rt,Yb,Ru,Rw]
        exact hq (g+1) _ _ _ (by omega) hI.low (hI.done (by rw[hLB];omega) (by rw[hLB];omega))
theorem fR(hE:GoodN E){plo vlo:List Nat}{u2 u1 u0 v2 v1:Nat}{vp vv:AV}(hp:Bo s vp (plo++[u2,u1,u0]))(hv:Bo s vv (vlo++[v2,v1]))(hI:Gn plo vlo u2 u1 u0 v2 v1 ((u0 * LB+u1) / v1) ((u0 * LB+u1) % v1))(hml:vlo.length≤10000000000)(hu0:u0<4294967296){K:AV→AE→Prop}
  (hK:∀g,g<4294967296→AG (plo++[u2,u1,u0]) / AG (vlo++[v2,v1])≤g→g≤AG (plo++[u2,u1,u0]) / AG (vlo++[v2,v1])+1→K (Aj g) s):WF E 96 [vp,vv] K s:=by
 have hLB:LB=4294967296:=rfl
 have hlen:=hI.len
 obtain⟨ap,cp,rfl,_,hcp⟩:=hp
 obtain⟨av,cv,rfl,_,hcv⟩:=hv
 have hc1:=hI.c1
 have hb1:=hI.b1
 have hbig:=hI.big
 have htop:=hI.top
 rw[hLB]at hc1 hb1 hbig
 have hlp:(plo++[u2,u1,u0]).length=vlo.length+3:=by simp[hlen]
 have hlv:(vlo++[v2,v1]).length=vlo.length+2:=by simp
 rw[hlp,hlv]
 have s1:=CP Tryz.prog 3 ((vlo.length+2:Nat):Int) 1 ⟨by omega,by omega⟩
 have s1':((vlo.length+2:Nat):Int) - 1=((vlo.length+1:Nat):Int):=by omega
 obtain⟨p1,i1,l1⟩:=EX (cap:=cp) (n:=vlo.length+3) hcp (k:=vlo.length+2) (by omega) (x:=u0) (by rw[← hlen];simp)
 obtain⟨p2,i2,l2⟩:=EX (cap:=cp) (n:=vlo.length+3) hcp (k:=vlo.length+1) (by omega) (x:=u1) (by rw[← hlen];simp)
 obtain⟨p3,i3,l3⟩:=EX (cap:=cv) (n:=vlo.length+2) hcv (show vlo.length+1<vlo.length+2 by omega) (x:=v1) (by simp)
 have m2:AL Tryz.prog .shl 69 (Aj u0) (.int .u64 32)=some (Aj (u0 * 4294967296)):=OO Tryz.prog 69 (k:=.u64) (n:=32) (by decide) (by show u0 * 4294967296<_;omega)
 have m3:=kO Tryz.prog 69 (a:=u0) (b:=u1) (by omega) hb1
 have m4:=q7 Tryz.prog 69 (a:=u0 * 4294967296+u1) (b:=v1) (by omega) (by omega)
 have m5:=q8 Tryz.prog 69 (a:=u0 * 4294967296+u1) (b:=v1) (by omega)
 rw[hLB]at hI
 have hsum:=hI.sum
 rw[hLB]at hsum
 have hl:(u0 * 4294967296+u1) % v1<v1:=yP _ (by omega)
 have hgle:(u0 * 4294967296+u1) / v1≤4294967297:=by
  rw[← Nat.lt_succ_iff,yu (by omega)]
  have:u0 * 4294967296≤v1 * 4294967296:=yA _ htop
  show _<4294967298 * v1
  omega
 refine hE.go su (by decide) rfl ?_
 simp only[xU,qB,qD,qE,qF,AH Tryz.underlying22,s1,s1',i1,l1,i2,l2,i3,l3,Bz hu0,Bz hb1,Bz hc1,m2,m3,m4,m5,Qa,Qb,Qc,Qd,Qf,Qh,Qi,Qj,Qk,Ql,Qm,Qo,true_and,Qp,Qq,Qr,Qs,Qt,Qv,Rb,Rh,Rk,Rm,Rn,Yc]
 refine UJ hcp hcv hlen hml _ _ (fun g y6 y7 y8 g1 g2 g3=>?_) _ _ _ _ hI (by omega) hgle
 simp only[qG,if_true,Qb,Qc,Qd,Qf,Qh,Qj,Qm,Qo,true_and,Qp,Qq,Qr,Qs,Qt,Qv,Rb,Rd,Rg,Rj]
 exact hK g g1 g2 g3
end
theorem Bo.keep{s s':AE}{v:AV}{l:List Nat}(h:Bo s v l)(hn:s.next≤s'.next)(hf:∀j,By v=some j→j<s.next→s'.heap.get j=s.heap.get j):Bo s' v l:=by
  obtain⟨a,cap,rfl,h2,h3⟩:=h
  refine⟨a,cap,rfl,?_,fun k u hu=>?_⟩
  · rcases h2 with h2 | ⟨g1, i, o, r, rfl, g3, g4, g5⟩
    · exact .inl h2
    · exact .inr ⟨g1,i,o,r,rfl,by omega,by rw[hf i rfl g3];exact g4,g5⟩
  · obtain⟨i,o,rfl,g2,g3⟩:=h3 k u hu
    exact⟨i,o,rfl,by omega,by rw[B6 (hf i rfl g2)];exact g3⟩
theorem jY{s:AE}{i lo hi n:Nat}{cs:List AV}{p:Option Nat}(h:Cf s i cs p)(hi':i<s.next)(h1:lo≤hi)(h2:hi≤cs.length):
  At Tryz.prog 22 true true false s [.slice (some (i,0)) n none,iv (lo:Int),iv (hi:Int)]=some (.slice (some (i,lo)) (hi - lo) none):=by
 obtain⟨r,g1,g2,_,g4,_⟩:=h
 have hrow:rowAt s i=some r:=by unfold rowAt;rw[g1]
 have hrn:r.n=cs.length:=g2.1
 show Bj Tryz.prog s 22 (.slice (some (i,0)) n none) (some (iv (lo:Int))) (some (iv (hi:Int))) none=_
 have hb1:Bi (iv (hi:Int)) ((r.n - 0) / 1)=some hi:=by simp[Bi,Ft,AP,CQ (show hi≤r.n by omega),Dz]
 have hb2:Bi (iv (lo:Int)) hi=some lo:=by simp[Bi,Ft,AP,CQ h1,Dz]
 have hsz:Nat.beq 1 r.sz=true:=Fe g4.symm
 simp only[Bj,Tryz.underlying22,Cx,hrow,hsz,AP,hb1,hb2,CQ (xg r.n),show Nat.beq 1 0=false from rfl,Option.bind_some,Bool.true_and,Bool.and_true,Bool.not_false,cond_true]
 simp
theorem SR{s:AE}{i lo m:Nat}{cu:List Nat}{p:Option Nat}(h:Cf s i (us cu) p)(hi':i<s.next)(h2:lo+m≤cu.length):Bo s (.slice (some (i,lo)) m none) ((cu.drop lo).take m):=by
 have hc:=Hc h hi'
 obtain⟨r,g1,g2,_,g4,_⟩:=h
 have hrn:r.n=cu.length:=by rw[g2.1,DS]
 have hl:((cu.drop lo).take m).length=m:=by rw[xz,yL];omega
 refine⟨some (i,lo),none,by rw[hl],.inr ⟨rfl,i,lo,r,rfl,hi',g1,g4,by rw[hl];omega⟩,fun k u hu=>?_⟩
 have hk:k<m:=by
  rcases xf k m with h' | h'
  ·exact h'
  ·rw[xr (by rw[DS,hl];exact h')]at hu;cases hu
 have hu':(us cu)[lo+k]? = some u:=by
  rw[WU,yy hk]at hu
  unfold us at hu ⊢
  rw[List.map_drop,yn]at hu
  exact hu
 obtain⟨i',o',e,q2,q3⟩:=hc (lo+k) u hu'
 injection e with e
 injection e with e1 e2
 subst e1;subst e2
 rw[xu]at q3
 exact⟨i,lo,rfl,q2,q3⟩
section
variable{E:CU}{s:AE}
structure wN(s0:AE)(ui qi:Nat)(pp:Option Nat)(U0 V:List Nat)(S:AE)(cu qs:List Nat)(k:Nat):Prop where
 next:s0.next≤S.next
 keep:∀j,j<s0.next→j≠ui→some j≠pp→j≠qi→S.heap.get j=s0.heap.get j
 u:Cf S ui (us cu) pp
 q:Cf S qi (us qs) none
 inv:TC U0 V cu qs k
 qlen:qs.length+V.length=U0.length
set_option maxHeartbeats 1000000 in
theorem fA       (hE : GoodN E) {s0 : AE}  {ui qi : Nat} {pp : Option Nat} (hui : ui < s0.next) (hqi : qi < s0.next) (hne : ui ≠ qi) (hpp : ∀ q, pp = some q → q < s0.next ∧ q ≠ qi) {U0 vlo : List Nat} {v2 v1 : Nat} (hsV : Be  (vlo ++ [v2, v1])) (hv1 : 2147483648 ≤ v1) (hul : U0.length ≤ 10000000000)
    {vv:AV} (hvv:Bo s0 vv (vlo++[v2,v1])) (hvs:∀j,By vv=some j→j≠ui∧some j≠pp∧j≠qi) {Q:Ay→Prop} (a0 a1 a3 a4 a5 a6 a7 a13 a14 a15 a16:AV)
    (hq:∀ (S:AE) (cu qs:List Nat) (y10 y11 y12 y17 y18:AV),wN s0 ui qi pp U0 (vlo++[v2,v1]) S cu qs 0 →
      Q ⟨.exit 3,[a0,a1,.slice (some (qi,0)) (U0.length - (vlo.length+2)) (some (U0.length - (vlo.length+2))),a3,a4,a5,a6,a7,.slice (some (ui,0)) U0.length none,vv,y10,y11,y12,a13,a14,a15,a16,y17,y18],[],S⟩):
    ∀ (k:Nat) (S:AE) (cu qs:List Nat) (x11 x12 x17 x18:AV),wN s0 ui qi pp U0 (vlo++[v2,v1]) S cu qs k→k+(vlo.length+2)≤U0.length →
      WC E none (.loop Jq) Q [a0,a1,.slice (some (qi,0)) (U0.length - (vlo.length+2)) (some (U0.length - (vlo.length+2))),a3,a4,a5,a6,a7,.slice (some (ui,0)) U0.length none,vv,iv ((k:Int) - 1),x11,x12,a13,a14,a15,a16,x17,x18] [] S:=by
  have hLB:LB=4294967296:=rfl
  have hVl:(vlo++[v2,v1]).length=vlo.length+2:=by simp
  have hv1b:v1<LB:=hsV v1 (by simp)
  have hv2b:v2<LB:=hsV v2 (by simp)
  have hVpos:0<AG (vlo++[v2,v1]):=by
    rw[JB]
    have h2:0<v1 * LB+v2:=by have:=zA (show 0<v1 by omega) BO;omega
    have:=zA (yt BO (n:=vlo.length)) h2
    omega
  intro k
  induction k with
  | zero =>
    intro S cu qs x11 x12 x17 x18 hS hk
    have d0:decide ((0:Int)≤((0:Nat):Int) - 1)=false:=rfl
    refine WC.loop' ?_
    simp only[Jq,Tw,Wb,d0,Qa,Qb,Qc,Qd,Qf,Qh,Qi,Qj,Qm,Qo,true_and,Qp,Qq,Qr,Qs,Qt,Qv,Ra,Rb,Rd,Re,Wb]
    exact hq S cu qs _ _ _ _ _ hS
  | succ k ih =>
    intro S cu qs x11 x12 x17 x18 hS hk
    have hcl:cu.length=U0.length:=hS.inv.len
    have hql:qs.length=U0.length - (vlo.length+2):=by have:=hS.qlen;rw[hVl]at this;omega
    have hkq:k<qs.length:=by omega
    obtain⟨p1,p2,p3⟩:=hS.inv.part hsV hVpos (by rw[hVl];omega)
    have hw1:((vlo++[v2,v1])++[0]).length=(vlo++[v2,v1]).length+1:=by rw[xp];rfl
    have hpl:((cu.drop k).take ((vlo++[v2,v1]).length+1)).length=vlo.length+3:=by rw[xz,yL,hVl];omega
    have hps:Be ((cu.drop k).take ((vlo++[v2,v1]).length+1)):=(hS.inv.sm.drop k).take _
    have hplt:AG ((cu.drop k).take ((vlo++[v2,v1]).length+1))<AG (vlo++[v2,v1]) * LB:=by rw[p1];exact p2
    have hpart:=SR hS.u (xi hui hS.next) (lo:=k) (m:=(vlo++[v2,v1]).length+1) (by rw[hVl];omega)
    have hzip:=HV (cu.drop k) ((vlo++[v2,v1])++[0])
    rw[hw1]at hzip
    have hdig:=fun g h1 h2 h3=>eq (p:=(cu.drop k).take ((vlo++[v2,v1]).length+1)) (v:=vlo++[v2,v1]) (by rw[hpl,hVl]) hps hsV hVpos (g:=g) h1 h2 h3
    rw[hzip]at hdig
    have hstep:∀D:List Nat,D.length=(vlo++[v2,v1]).length+1→Be D→AG D=AG ((cu.drop k).take ((vlo++[v2,v1]).length+1)) % AG (vlo++[v2,v1])→∀x:Nat,x=AG ((cu.drop k).take ((vlo++[v2,v1]).length+1)) / AG (vlo++[v2,v1]) →
        TC U0 (vlo++[v2,v1]) (GE cu k D) (qs.set k x) k:=fun D hD hDs hDv x hx=>by
      have:=hS.inv.step hsV hVpos (by rw[hVl];omega) hkq hD hDs hDv hx
      unfold GE
      rw[hD,← yR]
      exact this
    have hxB:AG ((cu.drop k).take ((vlo++[v2,v1]).length+1)) / AG (vlo++[v2,v1])<4294967296:=by
      rw[← hLB,yu hVpos,xy]
      exact hplt
    have hDl:=fun g=>KH g ((cu.drop k).zip ((vlo++[v2,v1])++[0])) 0 0
    have hDs:=fun g=>HT g ((cu.drop k).zip ((vlo++[v2,v1])++[0])) 0 0
    have hzl:((cu.drop k).zip ((vlo++[v2,v1])++[0])).length=(vlo++[v2,v1]).length+1:=by rw[zV,hw1,yL,hVl];omega
    obtain⟨plo,u2,u1,u0,hpe,hplo⟩:∃plo u2 u1 u0,(cu.drop k).take ((vlo++[v2,v1]).length+1)=plo++[u2,u1,u0]∧plo.length=vlo.length:=by
      obtain⟨l1,t1,e1,f1⟩:=FY (n:=vlo.length+2) (by rw[hpl])
      obtain⟨l2,t2,e2,f2⟩:=FY (n:=vlo.length+1) f1
      obtain⟨l3,t3,e3,f3⟩:=FY (n:=vlo.length) f2
      exact⟨l3,t3,t2,t1,by rw[e1,e2,e3];simp,f3⟩
    have hu0:u0<LB:=by rw[hpe]at hps;exact hps u0 (by simp)
    have hG:Gn plo vlo u2 u1 u0 v2 v1 ((u0 * LB+u1) / v1) ((u0 * LB+u1) % v1):=by
      rw[hpe]at hps hplt
      exact Gn.start (u0:=u0) hplo (fun x hx=>hps x (zW _ hx)) (fun x hx=>hsV x (zW _ hx)) (hps u2 (by simp)) (hps u1 (by simp)) hv2b hv1b (by rw[hLB];omega) hplt
    have hvS:Bo S vv (vlo++[v2,v1]):=hvv.keep hS.next fun j hj hjl=>by
      obtain⟨g1,g2,g3⟩:=hvs j hj
      exact hS.keep j hjl g1 g2 g3
    have hguess:=fun K hK=>fR (s:=S) (K:=K) (vp:=.slice (some (ui,k)) ((vlo++[v2,v1]).length+1) none) hE (by rw[← hpe];exact hpart) hvS hG (by omega) (by rw[← hLB];exact hu0) hK
    rw[← hpe]at hguess
    obtain⟨av,cv,rfl,_,_⟩:=id hvv
    have e0:((k+1:Nat):Int) - 1=(k:Int):=by omega
    have d0:decide ((0:Int)≤(k:Int))=true:=decide_eq_true (by omega)
    have i1:=Az Tryz.prog 3 (k:Int) (((vlo++[v2,v1]).length:Nat):Int) ⟨by omega,by omega⟩
    have i2:=Az Tryz.prog 3 ((k:Int)+(((vlo++[v2,v1]).length:Nat):Int)) 1 ⟨by omega,by omega⟩
    have i2':(k:Int)+(((vlo++[v2,v1]).length:Nat):Int)+1=((k+((vlo++[v2,v1]).length+1):Nat):Int):=by omega
    have i3:=jY (n:=U0.length) hS.u (xi hui hS.next) (lo:=k) (hi:=k+((vlo++[v2,v1]).length+1)) (by omega) (by rw[DS];omega)
    have i3':k+((vlo++[v2,v1]).length+1) - k=(vlo++[v2,v1]).length+1:=by omega
    rw[i3']at i3
    have e10:=CP Tryz.prog 3 (k:Int) 1 ⟨by omega,by omega⟩
    have e11:=Ae (cap:=some (U0.length - (vlo.length+2))) (i:=qi) (o:=0) Tryz.underlying22 Cx (show k<U0.length - (vlo.length+2) by omega)
    rw[xj,xu]at e11
    have hpS:∀q,pp=some q→q<S.next:=fun q hq=>xi (hpp q hq).1 hS.next
    have last:∀ (S2:AE) (D:List Nat) (x:Nat) (y18:AV),S.next≤S2.next→(∀j,j<S.next→j≠ui→some j≠pp→S2.heap.get j=S.heap.get j)→Cf S2 ui (us (GE cu k D)) pp→D.length=(vlo++[v2,v1]).length+1→Be D →
        AG D=AG ((cu.drop k).take ((vlo++[v2,v1]).length+1)) % AG (vlo++[v2,v1])→x=AG ((cu.drop k).take ((vlo++[v2,v1]).length+1)) / AG (vlo++[v2,v1]) →
        Qb E Tx (fun v s'=>Qb E Ty (fun v s'=>WC E none (.loop Jq) Q v [] s') [] v s') [] [a0,a1,.slice (some (qi,0)) (U0.length - (vlo.length+2)) (some (U0.length - (vlo.length+2))),a3,a4,a5,a6,a7,.slice (some (ui,0)) U0.length none,.slice av (vlo++[v2,v1]).length cv,iv (k:Int),.slice (some (ui,k)) ((vlo++[v2,v1]).length+1) none,Aj x,a13,a14,a15,a16,.bool true,y18] S2:=by
      intro S2 D x y18 n2 f2 o2 hDl hDs hDv hx
      have hxb:x<4294967296:=by rw[hx];exact hxB
      have hq2:Cf S2 qi (us qs) none:=hS.q.keep (f2 qi (xi hqi hS.next) (Ne.symm hne) (fun e=>(hpp qi e.symm).2 rfl))
      obtain⟨S3,st,w1,w2,w3⟩:=EU (P:=Tryz.prog) (t:=76) (v:=Aw x) (o:=k) Cx hq2 (by rw[DS];exact hkq) rfl
      rw[Im]at w1
      have ex:x % 4294967296=x:=yS hxb
      simp only[Tx,Ty,CL,ex,e11,st,e10,Xy,Za,Qb,Qc,Qd,Qf,Qh,Qi,Qj,Qk,Qm,Qo,true_and,Qp,Qq,Qr,Qs,Qt,Qv]
      refine ih S3 (GE cu k D) (qs.set k x) _ _ _ _ ⟨by have:=hS.next;omega,fun j hj j1 j2 j3=>?_,?_,w1,hstep D hDl hDs hDv x hx,by rw[yz];exact hS.qlen⟩ (by omega)
      · rw[w3 j j3 (fun e=>by cases e),f2 j (xi hj hS.next) j1 j2]
        exact hS.keep j hj j1 j2 j3
      · exact o2.keep (w3 ui hne (fun e=>by cases e))
    refine WC.loop' ?_
    generalize hW:WC E none (Aa.loop Jq) Q=WW
    rw[hW]at last
    rw[e0]
    simp only[Jq,Tw,dG,dH,Wb,d0,AH Tryz.underlying22,i1,i2,i2',i3,Qa,Qb,Qc,Qd,Qf,Qh,Qi,Qj,Qk,Qm,Qo,true_and,Qp,Qq,Qr,Qs,Qt,Qv,Qz,Rb,Rd,Re,Wb]
    refine hguess _ fun g g1 g2 g3=>?_
    obtain⟨dg1,dg2⟩:=hdig g g2 g3 (by rw[hLB];exact g1)
    have hDl:=hDl g
    have hDs:=hDs g
    rw[hzl]at hDl
    simp only[dI,Qb,Qc,Qd,Qf,Qh,Qj,Qo,true_and,Qp,Qq,Qr,Qs,Qt,Qv]
    refine kK hE g1 (xi hui hS.next) hpS hS.u (off:=k) (vl:=vlo++[v2,v1]) (by rw[hVl];omega) hS.inv.sm hsV hvS (by rw[hVl];omega) fun S2 n2 f2 o2=>?_
    generalize CY g ((cu.drop k).zip ((vlo++[v2,v1])++[0])) 0 0=T at *
    obtain⟨D,c,br⟩:=T
    simp only at *
    by_cases hbr:br=0
    · obtain⟨r1,r2⟩:=dg1 hbr
      have db:decide (0<br)=false:=decide_eq_false (by omega)
      simp only[db,Qd,Qo,true_and,Qp,Qq,Qr,Qs,Ra]
      exact last S2 D g (.bool false) n2 f2 o2 hDl hDs r2 r1
    · obtain⟨r1,r2⟩:=dg2 hbr
      have db:decide (0<br)=true:=decide_eq_true (by omega)
      have hg1:1≤g:=xh (Nat.succ_le_succ (xg _)) (ya r1.symm)
      have hvS2:Bo S2 (.slice av (vlo++[v2,v1]).length cv) (vlo++[v2,v1]):=hvS.keep n2 fun j hj hjl=>by
        obtain⟨q1,q2,q3⟩:=hvs j hj
        exact f2 j hjl q1 q2
      have hml:(GE cu k D).length=cu.length:=Hj (by rw[hDl,hVl];omega)
      have hms:Be (GE cu k D):=((hS.inv.sm.take k).append hDs).append (hS.inv.sm.drop _)
      have hmd:((GE cu k D).drop k).zip ((vlo++[v2,v1])++[0])=D.zip ((vlo++[v2,v1])++[0]):=by
        unfold GE
        rw[yW,zy (by rw[xz];omega)]
        exact iA (by rw[hDl,hw1]) _
      have m6:AL Tryz.prog .sub 69 (Aj g) (.int .u64 1)=some (Aj (g - 1)):=by
        have:=OP Tryz.prog 69 (a:=g) (b:=1) (by decide)
        rw[show(g+18446744073709551616 - 1) % 18446744073709551616=g - 1 by omega]at this
        exact this
      simp only[db,dK,Qb,Qc,Qd,Qf,Qh,Qj,Qo,true_and,Qp,Qq,Qr,Qs,Qt,Qv,Qz]
      refine iJ hE (xi hui (xh hS.next n2)) (fun q hq=>xi (hpS q hq) n2) o2 (off:=k) (vl:=vlo++[v2,v1]) (by rw[hVl];omega) hms hsV hvS2 (by rw[hVl];omega) fun S3 y n3 f3 o3=>?_
      rw[hmd]at o3
      have hOl:=Ip (D.zip ((vlo++[v2,v1])++[0])) 0
      have hOs:=GI (D.zip ((vlo++[v2,v1])++[0])) 0
      rw[zV,hw1,hDl,zt]at hOl
      generalize (Ea (D.zip ((vlo++[v2,v1])++[0])) 0).1=O at *
      have hmm:GE (GE cu k D) k O=GE cu k O:=by
        unfold GE
        have htk:(cu.take k).length=k:=by rw[xz];omega
        have e1:(cu.take k++D++cu.drop (k+D.length)).take k=cu.take k:=by rw[yW,List.take_left' htk]
        have e2:(cu.take k++D++cu.drop (k+D.length)).drop (k+O.length)=cu.drop (k+O.length):=by
          rw[hOl,← hDl]
          rw[zy (by rw[xp,htk])]
        rw[e1,e2]
      rw[hmm]at o3
      simp only[dL,m6,Qb,Qc,Qd,Qf,Qh,Qi,Qj,Qk,Qm,Qo,true_and,Qp,Qq,Qr,Qs,Qt,Qv]
      exact last S3 O (g - 1) (.bool true) (xh n2 n3) (fun j hj j1 j2=>(f3 j (xi hj n2) j1 j2).trans (f2 j hj j1 j2)) o3 hOl hOs r2 (by rw[r1,zH])
end
section
variable(P:Program)(t:TypeId){a:Nat}
theorem kM{k:IntKind}{n:Nat}(hn:n≤32):AL P .shl t (Aw a) (.int k (n:Int))=some (Aw (a * 2 ^ n % 4294967296)):=by
 show(DI P (Op.shift .shl .u32 (a:Int) k (n:Int))).bind ofValue=_
 unfold Op.shift
 rw[if_neg (by omega)]
 show some (AV.int .u32 (IntKind.wrap .u32 ((a:Int) * 2 ^ min (n:Int).toNat 32)))=_
 rw[show min (n:Int).toNat 32=n by omega,Fv]
 congr 2
theorem kN{k:IntKind}{n:Nat}(hn:n≤32):AL P .shr t (Aw a) (.int k (n:Int))=some (Aw (a / 2 ^ n)):=by
 show(DI P (Op.shift .shr .u32 (a:Int) k (n:Int))).bind ofValue=_
 unfold Op.shift
 rw[if_neg (by omega)]
 show some (AV.int .u32 ((a:Int).fdiv (2 ^ min (n:Int).toNat 32)))=_
 rw[show min (n:Int).toNat 32=n by omega]
 congr 2
 rw[show((2:Int) ^ n)=((2 ^ n:Nat):Int) by push_cast;rfl]
 exact(Int.ofNat_fdiv a (2 ^ n)).symm
end
theorem HW{s:AE}{loc var:List AV}(f:AE→List AV→Option AV)(xs:List CX)(a:CX):Fd s loc var ⟨none,.r f,xs,a⟩=OB (f s (Qh loc var xs)) (DK loc var a):=by
 have:∀l:List CX,D3 loc var l=Qh loc var l:=by
  intro l
  induction l with
  | nil=>rfl
  | cons x l ih=>show DK loc var x::D3 loc var l=DK loc var x::Qh loc var l;rw[ih]
 show(!Bs loc var none || OB (Es (.r f) (D3 loc var xs) s) (DK loc var a))=_
 rw[this]
 rfl
theorem BY(u v:AV):OB (some u) v=Fl u v:=rfl
theorem UD(n:Int):Fl (iv n) (iv n)=true:=by simp[Fl,Em,B7]
section
variable{E:CU}{s:AE}
theorem XZ{b:Option (Nat×Nat)}{cb:Option Nat}{lo:List Nat}{bt:Nat}(hc:AU s.next s b (us (lo++[bt])))(hbt:0<bt)(hb:bt<4294967296)(hl:lo.length≤10000000000){Q:Ay→Prop}(a0 a2 a3 a4 a5 a6 a8 a9 a10 a11 a12 a13 a14 a15 a17 a18:AV)
  (hq:∀ (n:Nat) (y16:AV),n≤31→2147483648≤bt * 2 ^ n→bt * 2 ^ n<4294967296→Q ⟨.exit 1,[a0,.slice b (lo.length+1) cb,a2,a3,a4,a5,a6,Aj n,a8,a9,a10,a11,a12,a13,a14,a15,y16,a17,a18],[],s⟩):
  ∀ (m n:Nat) (x16:AV),n+m=32→bt * 2 ^ n<4294967296→WC E none (.loop Lm) Q [a0,.slice b (lo.length+1) cb,a2,a3,a4,a5,a6,Aj n,a8,a9,a10,a11,a12,a13,a14,a15,x16,a17,a18] [] s:=by
 intro m
 induction m with
 | zero =>
  intro n x16 hn hlt
  exfalso
  have:n=32:=by omega
  subst this
  have e:(2:Nat) ^ 32=4294967296:=by decide
  rw[e]at hlt
  have:=yA 4294967296 hbt
  omega
 | succ m ih =>
  intro n x16 hn hlt
  have s1:=CP Tryz.prog 3 ((lo.length+1:Nat):Int) 1 ⟨by omega,by omega⟩
  have s1':((lo.length+1:Nat):Int) - 1=(lo.length:Int):=by omega
  obtain⟨p1,i1,l1⟩:=EX (cap:=cb) (n:=lo.length+1) hc (k:=lo.length) (by omega) (x:=bt) (by simp)
  have m1:=kM Tryz.prog 76 (a:=bt) (k:=.u64) (n:=n) (by omega)
  rw[yS hlt]at m1
  have m2:AL Tryz.prog .shr 76 (Aw (bt * 2 ^ n)) (.int .u64 31)=some (Aw (bt * 2 ^ n / 2147483648)):=kN Tryz.prog 76 (k:=.u64) (n:=31) (by decide)
  have m3:AL Tryz.prog .eql 76 (Aw (bt * 2 ^ n / 2147483648)) (.int .u32 0)=some (.bool (decide (bt * 2 ^ n / 2147483648=0))):=gn Tryz.prog 76 (b:=0) .u32
  have m4:AL Tryz.prog .add 113 (Aj n) (.int .u64 1)=some (Aj (n+1)):=IE Tryz.prog 113 (b:=1) (by omega)
  refine WC.loop' ?_
  generalize hW:WC E none (Aa.loop Lm) Q=WW
  by_cases h:2147483648≤bt * 2 ^ n
  ·have db:decide (bt * 2 ^ n / 2147483648=0)=false:=decide_eq_false (by omega)
   simp only[Lm,Tv,AH Tryz.underlying22,s1,s1',i1,l1,m1,m2,m3,db,Qa,Qb,Qc,Qd,Qf,Qh,Qi,Qj,Qk,Qm,Qo,true_and,Qp,Qq,Qr,Qs,Qt,Qv,Ra,Rb,Rd,Re]
   exact hq n _ (by omega) h hlt
  ·have db:decide (bt * 2 ^ n / 2147483648=0)=true:=decide_eq_true (by omega)
   simp only[Lm,Tv,dC,AH Tryz.underlying22,s1,s1',i1,l1,m1,m2,m3,db,m4,Qa,Qb,Qc,Qd,Qf,Qh,Qi,Qj,Qk,Qm,Qo,true_and,Qp,Qq,Qr,Qs,Qt,Qv,Qz,Rb,Rd,Re]
   rw[← hW]
   exact ih (n+1) _ (by omega) (by rw[yJ,← xw];omega)
theorem Vv      (hE : GoodN E) {va vb : AV} {la lb : List Nat} (ha : Bo  s va la) (hb : Bo  s vb lb) (hla : la.length ≤ 1000000000) (hlb : lb.length ≤ 1000000000) (hsa : Be  la) (hsb : Be  lb) {K : AV → AE  → Prop}
    (hK0:AG lb=0→∀s',Af s.next s s'→K (.tuple [.slice none 0 (some 0),.slice none 0 (some 0),iv 3]) s')
    (hK1:AG lb≠0→∀s' vq vr,Af s.next s s'→NR s.next s' vq (AJ (AG la / AG lb))→NR s.next s' vr (AJ (AG la % AG lb))→(AG la<AG lb→vq=.slice none 0 (some 0))→K (.tuple [vq,vr,iv 0]) s'):WF E 50 [va,vb] K s:=by
  have hLB:LB=4294967296:=rfl
  refine hE.go sJ (by decide) rfl ?_
  simp only[ws,mt,mu,Qa,Qb,Qc,Qd,Qf,Qh,Qi,Qj,Qk,Ql,Qm,Qo,true_and,Qp,Qq,Qr,Qt,Qv,Rb,Rc,Re,Rf,Rh,Rk,Rm,Rp,Yc]
  refine C6 hE ha (by omega) fun s1 v1 o1 r1=>?_
  simp only[Qd,Qo,true_and,Qr,Qs]
  refine C6 hE (hb.old o1) (by omega) fun s2 v2 o2 r2=>?_
  have t1:=FE la
  have t2:=FE lb
  have R1:NR s.next s2 v1 (AJ (AG la)):=by have:=r1.old o2;rw[B0 hsa]at this;exact this
  have R2:NR s.next s2 v2 (AJ (AG lb)):=by have:=r2.mono o1.1;rw[B0 hsb]at this;exact this
  rw[B0 hsa]at t1
  rw[B0 hsb]at t2
  have oS:Af s.next s s2:=o1.trans (o2.mono o1.1)
  have n1:=R1.n32
  have n2:=R2.n32
  clear r1 r2 o1 o2 ha hb hsa hsb
  generalize AG la=A at *
  generalize AG lb=B at *
  have hsA:=AK A
  have hsB:=AK B
  have hvA:=AR A
  have hvB:=AR B
  obtain⟨b,cb,rfl,hcapb,hcb⟩:=id n2
  by_cases hB0:B=0
  · subst hB0
    have hl0:(AJ 0).length=0:=by rw[A8];rfl
    have d0:decide (((AJ 0).length:Int)=0)=true:=decide_eq_true (by omega)
    simp only[dJ,mw,AH Tryz.underlying22,Wc,d0,Qb,Qc,Qd,Qf,Qh,Qi,Qj,Qk,Qm,Qo,true_and,Qp,Qq,Qr,Qs,Qt,Qv,Qz,Rj,Wc]
    exact hK0 rfl s2 oS
  · have hBl : (AJ    B).length ≠ 0 := fun e => Br       hB0 (zN                            e)
    have d0:decide (((AJ B).length:Int)=0)=false:=decide_eq_false (by omega)
    simp only[dJ,my,AH Tryz.underlying22,Wc,d0,Qb,Qc,Qd,Qf,Qh,Qi,Qj,Qk,Qm,Qo,true_and,Qp,Qq,Qr,Qs,Qt,Qv,Ra,Wc]
    refine eW hE n1 n2 (by omega) (by omega) hsA hsB fun s3 o3=>?_
    rw[hvA,hvB]
    have oS3:Af s.next s s3:=oS.trans (o3.mono oS.1)
    have R1':=R1.old o3
    have n1':=n1.old o3
    have n2':=n2.old o3
    by_cases hlt:A<B
    · have ec : Hw   A B = -1 := by unfold Hw;   rw [if_pos hlt]
      have d1:decide ((-1:Int)<0)=true:=by decide
      simp only[ec,Ry,d1,mz,Qb,Qc,Qd,Qf,Qh,Qi,Qj,Qm,Qo,true_and,Qp,Qq,Qr,Qs,Qt,Qv,Qz,Rj,Ry]
      refine hK1 hB0 s3 _ _ oS3 ?_ ?_ (fun _=>rfl)
      · rw[zE hlt,A8];exact NR.nil _ _
      · rw[yS hlt];exact R1'
    · have d1:decide (Hw A B<0)=false:=by
        unfold Hw
        rw[if_neg hlt]
        split<;>decide
      by_cases h1:(AJ B).length=1
      · have d2:decide (((AJ B).length:Int)=1)=true:=decide_eq_true (by omega)
        obtain⟨y,hy⟩:∃y,AJ B=[y]:=by
          match hlb:AJ B,h1 with
          | [y],_=>exact⟨y,rfl⟩
        have hyB:y=B:=by
          have:=hvB
          rw[hy]at this
          show y=B
          have e:AG [y]=y:=by show y+LB * 0=y;omega
          rw[e]at this;exact this
        subst hyB
        have hy32:y<4294967296:=by have:=hsB y (by rw[hy];simp);exact this
        obtain⟨p1,i1,l1⟩:=EX (cap:=cb) (n:=(AJ y).length) (hcb.old o3 (xZ _)) (k:=0) (by omega) (x:=y) (by rw[hy];rfl)
        have i1':AM Tryz.prog 22 (.slice b (AJ y).length cb) (.int .i64 0)=some p1:=i1
        simp only[Ry,d1,dO,nA,AH Tryz.underlying22,Wc,d2,i1',l1,Bz hy32,Qb,Qc,Qd,Qf,Qh,Qi,Qj,Qk,Qm,Qo,true_and,Qp,Qq,Qr,Qs,Qt,Qv,Qz,Ra,Rj,Zb,Ry,Wc]
        refine Sm hE n1' (by omega) hsA (x:=y) (by omega) (by omega) fun s4 vq o4 r4=>?_
        obtain⟨w1,w2,w3⟩:=ET (show 0<y by omega) (AJ A)
        rw[hvA]at w1
        have hsq:=Gd (show 0<y by omega) hsA
        generalize Bc y (AJ A)=T at *
        have hq:AG T.1=A / y:=by
          rw[w1,Nat.mul_add_div (by omega),zE w2,yF]
        have hr:T.2=A % y:=by
          rw[w1,Nat.mul_add_mod,yS w2]
        rw[B0 hsq,hq]at r4
        rw[hr]
        simp only[nB,Qb,Qc,Qd,Qf,Qh,Qi,Qj,Qk,Qm,Qo,true_and,Qp,Qq,Qr,Qs,Qt,Qv,Yd,Ye]
        refine PN hE (n:=A % y) (by have:=yP A (show 0<y by omega);omega) fun s5 vr o5 r5=>?_
        simp only[Qd,Qo,true_and,Qp,Qq,Qr,Qs]
        exact hK1 hB0 s5 vq vr (oS3.trans ((o4.mono oS3.1).trans (o5.mono (xh oS3.1 o4.1)))) ((r4.old o5).mono oS3.1) (r5.mono (xh oS3.1 o4.1)) (fun h=>absurd h hlt)
      · have d2:decide (((AJ B).length:Int)=1)=false:=decide_eq_false (by omega)
        obtain⟨lo,bt,hlo,hlol⟩:=FY (n:=(AJ B).length - 1) (l:=AJ B) (by omega)
        obtain⟨m,hm⟩:∃m,lo.length=m+1:=⟨lo.length - 1,by omega⟩
        have hbt32:bt<4294967296:=hsB bt (by rw[hlo];simp)
        have hbt0:0<bt:=by
          rcases yX bt with h | h
          · exfalso
            have e1:=MH B hB0
            have e2:=CN (fun x hx=>hsB x (by rw[hlo];exact zW _ hx):Be lo)
            rw[hlo,Ce,h,yO,yF]at hvB
            rw[hlol]at e2
            omega
          · exact h
        simp only[Ry,d1,dO,nC,AH Tryz.underlying22,Wc,d2,Qb,Qc,Qd,Qf,Qh,Qi,Qj,Qk,Qm,Qo,true_and,Qp,Qq,Qr,Qs,Qt,Qv,Ra,Ry,Wc]
        have hcb3:AU s3.next s3 b (us (lo++[bt])):=by rw[← hlo];exact(hcb.old o3 (xZ _)).mono o3.1
        have hbl:(AJ B).length=lo.length+1:=by rw[hlo];simp
        rw[hbl]
        refine XZ hcb3 hbt0 hbt32 (by omega) _ _ _ _ _ _ _ _ _ _ _ _ _ _ _ _ (fun n y16 hn31 hn1 hn2=>?_) 32 0 _ rfl (by simpa using hbt32)
        have hnv:=tO (lo:=lo) (bt:=bt) (by rw[← hlo];exact hsB) hn31 hn1 hn2
        obtain⟨hV,vlo0,v1',hVe,hvlo0,hv1'⟩:=hnv
        rw[← hlo,hvB]at hV
        rw[← hlo]at hVe
        obtain⟨vlo,v2',hvloe,hvlol⟩:=FY (n:=m) (by rw[hvlo0,hm])
        have hVe2:(Kr (AJ B) (2 ^ n) 0).take (lo.length+1)=vlo++[v2',v1']:=by rw[hVe,hvloe];simp
        have h2n:2 ^ n<LB:=by
          rw[hLB]
          have e32:(2:Nat) ^ 32=4294967296:=by decide
          rw[← e32]
          exact Nat.pow_lt_pow_right (by decide) (by omega)
        have hsU:=Fp h2n hsA BO
        have hsW:=Fp h2n hsB BO
        have hUl:=Is (2 ^ n) (AJ A) 0
        have hWl:=Is (2 ^ n) (AJ B) 0
        have hUv:=K0 (AJ A) (2 ^ n) 0
        rw[hvA,yF]at hUv
        have hAB:lo.length+1≤(AJ A).length:=by
          rcases xf (AJ A).length (lo.length+1)with h | h
          · rw[← hbl]at h
            exact absurd (E1 h) hlt
          · exact h
        have hnu:=tN (vlo:=vlo0) hsA hn31 hv1' (by omega)
        rw[← hVe,hvlo0]at hnu
        have hsV:Be (vlo++[v2',v1']):=by rw[← hVe2];exact hsW.take _
        rw[hVe2]at hV hnu
        simp only[if_true,dD,AH Tryz.underlying22,Qb,Qc,Qd,Qf,Qh,Qj,Qk,Qm,Qo,true_and,Qr,Qs,Qt,Qv,Rb,Rd,Rg]
        have n2'':Bo s3 (.slice b (lo.length+1) cb) (AJ B):=by rw[← hbl];exact n2'
        refine rA hE n1' (by omega) hsA (n:=n) (by omega) fun s4 vu o4 r4=>?_
        simp only[HW,AH Tryz.underlying22,BY,UD,Qd,Qh,Qj,Qk,Qo,true_and,and_true,Qr,Qs]
        refine rA hE (n2''.old o4) (by omega) hsB (n:=n) (by omega) fun s5 vw o5 r5=>?_
        have nw:=r5.n32'
        obtain⟨ui,pu,rfl,hu1,hu2,hu3,hu4⟩:=r4.own (by intro e;rw[e]at hUl;simp at hUl)
        obtain⟨wi,pw,rfl,hw1,hw2,hw3,hw4⟩:=r5.own (by intro e;rw[e]at hWl;simp at hWl)
        obtain⟨aw,cw,ew,hcapw,hcw⟩:=nw
        injection ew with ew1 ew2 ew3
        subst ew1;subst ew3
        have e1:=RK Tryz.underlying22 Cx hcapw (k:=lo.length+1) (by rw[hWl];omega)
        have nV:=Bo.take hcapw hcw (k:=lo.length+1) (by rw[hWl];omega)
        rw[hVe2]at nV
        have e2:=CP Tryz.prog 3 (((Kr (AJ A) (2 ^ n) 0).length:Nat):Int) ((lo.length+1:Nat):Int) ⟨by omega,by omega⟩
        have e2':(((Kr (AJ A) (2 ^ n) 0).length:Nat):Int) - ((lo.length+1:Nat):Int)=(((Kr (AJ A) (2 ^ n) 0).length - (lo.length+1):Nat):Int):=by omega
        have e3:=PX ((Kr (AJ A) (2 ^ n) 0).length - (lo.length+1)) (by omega)
        have e4:=CP Tryz.prog 3 (((Kr (AJ A) (2 ^ n) 0).length - (lo.length+1):Nat):Int) 1 ⟨by omega,by omega⟩
        simp only[HW,AH Tryz.underlying22,BY,UD,e1,dE,dF,e2,e2',Xy,e3,Xe,e4,Qb,Qc,Qd,Qf,Qh,Qi,Qj,Qk,Qm,Qo,true_and,and_true,Qp,Qq,Qr,Qs,Qt,Qv]
        generalize hU0:Kr (AJ A) (2 ^ n) 0=U0 at *
        have hml:m=vlo.length:=hvlol.symm
        have hll:lo.length+1=vlo.length+2:=by omega
        rw[hll]at nV
        rw[hll]at *
        have hn5:s5.next<(newObj s5 (R 76 1 false (us (List.replicate (U0.length - (vlo.length+2)) 0)))).next:=yg _
        have o6:=Af.new s5 (R 76 1 false (us (List.replicate (U0.length - (vlo.length+2)) 0)))
        have hVl:(vlo++[v2',v1']).length=vlo.length+2:=by simp
        generalize hs6:newObj s5 (R 76 1 false (us (List.replicate (U0.length - (vlo.length+2)) 0)))=s6 at *
        have hq6:s6.heap.get s5.next=some (R 76 1 false (us (List.replicate (U0.length - (vlo.length+2)) 0))):=by rw[← hs6,AW,if_pos rfl]
        have o46:Af s4.next s4 s6:=o5.trans (o6.mono o5.1)
        have hu6:Cf s6 ui (us U0) pu:=hu3.keep (o46.2 ui hu2)
        refine fA hE (s0:=s6) (U0:=U0) (ui:=ui) (qi:=s5.next) (pp:=pu) (xi hu2 o46.1) hn5 (by have:=o5.1;omega) (fun q hq=>⟨by have:=(hu4 q hq).2.1;have:=o46.1;omega,by have:=(hu4 q hq).2.1;have:=o5.1;omega⟩) hsV hv1' (by omega)
          (nV.old o6) (fun j hj=>?_) _ _ _ _ _ _ _ _ _ _ _ (fun S cu qs y10 y11 y12 y17 y18 hS=>?_) (U0.length - (vlo.length+2)) s6 U0 (List.replicate (U0.length - (vlo.length+2)) 0) _ _ _ _ ⟨xZ _,fun j _ _ _ _=>rfl,hu6,Cf.of_R hq6,?_,?_⟩ (by omega)
        · injection hj with hj
          subst hj
          exact⟨by omega,fun e=>by have:=(hu4 wi e.symm).2.1;omega,by omega⟩
        ·
          have hVpos:0<AG (vlo++[v2',v1']):=by
            rw[hV]
            exact zA (by omega) (yt (by decide))
          have hrem:=hS.inv.rem
          have hquo:=hS.inv.quo
          rw[yx,yx,hUv,hV]at hrem hquo
          rw[Nat.mul_div_mul_right _ _ (yt (by decide))]at hquo
          rw[Nat.mul_mod_mul_right]at hrem
          have hcl:=hS.inv.len
          have hql:qs.length=U0.length - (vlo.length+2):=by have:=hS.qlen;rw[hVl]at this;omega
          have huiS:ui<S.next:=by have:=hS.next;have:=o46.1;omega
          have nu:=SR hS.u huiS (lo:=0) (m:=cu.length) (by omega)
          rw[yx,zP,hcl]at nu
          have p31:2 ^ n≤2147483648:=by
            have e31:(2:Nat) ^ 31=2147483648:=by decide
            rw[← e31]
            exact yT (by decide) hn31
          have p0:0<2 ^ n:=yt (by decide)
          have es:AL Tryz.prog .shl 69 (.int .u64 1) (Aj n)=some (Aj (2 ^ n)):=by
            have:=OO Tryz.prog 69 (a:=1) (k:=.u64) (n:=n) (by omega) (by rw[ye];omega)
            rw[ye]at this
            exact this
          simp only[if_true,dM,es,Qb,Qc,Qd,Qf,Qh,Qi,Qj,Qk,Qm,Qo,true_and,Qr,Qs,Qt,Qv,Rb,Rd,Rg,Rj,Zb]
          refine Sm hE nu (by omega) hS.inv.sm p0 (by omega) fun s8 vr o8 r8=>?_
          obtain⟨w1,w2,w3⟩:=ET p0 cu
          have hss:=Gd p0 hS.inv.sm
          rw[hrem]at w1
          generalize Bc (2 ^ n) cu=T at *
          have hr:AG T.1=A % B:=by
            have e1:2 ^ n * AG T.1+T.2=2 ^ n * (A % B):=by rw[← w1,xy]
            have e2:(2 ^ n * AG T.1+T.2) / 2 ^ n=2 ^ n * (A % B) / 2 ^ n:=by rw[e1]
            rw[Nat.mul_add_div p0,zE w2,yF,ze _ p0]at e2
            exact e2
          rw[B0 hss,hr]at r8
          have hqiS:s5.next<S.next:=by have:=hS.next;omega
          have hq8:=hS.q.keep (o8.2 s5.next hqiS)
          have nq:Bo s8 (.slice (some (s5.next,0)) (U0.length - (vlo.length+2)) (some (U0.length - (vlo.length+2)))) qs:=
            ⟨some (s5.next,0),some (U0.length - (vlo.length+2)),by rw[hql],.inl ⟨_,rfl,by omega,fun e=>by cases e⟩,Hc hq8 (xi hqiS o8.1)⟩
          simp only[dN,Qb,Qc,Qd,Qf,Qh,Qi,Qj,Qk,Qm,Qo,true_and,Qp,Qq,Qr,Qs,Qt,Qv,Yd,Ye]
          refine C6 hE nq (by omega) fun s9 vq o9 r9=>?_
          rw[B0 hS.inv.qsm,hquo]at r9
          have hbase:s.next≤S.next:=by have:=oS3.1;have:=o4.1;have:=o46.1;have:=hS.next;omega
          have oSS:Af s.next s S:=⟨hbase,fun j hj=>by
            have h3:j<s3.next:=xi hj oS3.1
            have h4:j<s4.next:=xi h3 o4.1
            rw[hS.keep j (xi h4 o46.1) (by omega) (fun e=>by have:=(hu4 j e.symm).1;omega) (by have:=o5.1;omega),o46.2 j h4,o4.2 j h3]
            exact oS3.2 j hj⟩
          simp only[Qd,Qo,true_and,Qp,Qq,Qr,Qs]
          exact hK1 hB0 s9 vq vr (oSS.trans ((o8.mono hbase).trans (o9.mono (xh hbase o8.1)))) (r9.mono (xh hbase o8.1)) ((r8.old o9).mono hbase) (fun h=>absurd h hlt)
        · have hd:AG (U0.drop (U0.length - (vlo.length+2)))<AG (vlo++[v2',v1']):=by
            have:U0.length - (vlo.length+2)=(AJ A).length - lo.length:=by omega
            rw[this];exact hnu
          refine⟨rfl,rfl,hsU,(yS hd).symm,fun x hx=>?_,?_⟩
          · rw[List.eq_of_mem_replicate hx];exact BO
          · rw [zE               hd, yQ                     (by simp)]
            rfl
        · rw[List.length_replicate,hVl];omega
theorem UB(hE:GoodN E){va vb:AV}{la lb:List Nat}(ha:Bo s va la)(hb:Bo s vb lb)(hla:la.length≤1000000000)(hlb:lb.length≤1000000000)(hsa:Be la)(hsb:Be lb){K:AV→AE→Prop}
  (hK0:AG lb=0→∀s',Af s.next s s'→K (.tuple [.slice none 0 (some 0),.slice none 0 (some 0),iv 3]) s')
  (hK1:AG lb≠0→∀s' vq vr,Af s.next s s'→NR s.next s' vq (AJ (AG la / AG lb))→NR s.next s' vr (AJ (AG la % AG lb))→K (.tuple [vq,vr,iv 0]) s'):WF E 50 [va,vb] K s:=
 Vv hE ha hb hla hlb hsa hsb hK0 fun h s' vq vr o r1 r2 _=>hK1 h s' vq vr o r1 r2
end
theorem E0{a b:Nat}(h:a≤b):(AJ a).length≤(AJ b).length:=by
 rcases xf (AJ b).length (AJ a).length with h' | h'
 ·have:=E1 h';omega
 ·exact h'
section
variable{E:CU}{s:AE}
theorem fO(hE:GoodN E){b:Nat}{Q:Ay→Prop}(x2:AV):
    ∀ (n A B : Nat) (S : AE)  (va vb x3 x4 : AV), B < n → Af  b s S → b ≤ S.next → NR b S va (AJ    A) → NR b S vb (AJ    B) → (AJ    A).length ≤ 1000000000 → (AJ    B).length ≤ 1000000000 →
      (∀ (S:AE) (va vb y3 y4:AV),Af b s S→NR b S va (AJ (Nat.gcd A B))→Q ⟨.exit 0,[va,vb,x2,y3,y4],[],S⟩) →
      WC E none (.loop Q4) Q [va,vb,x2,x3,x4] [] S:=by
  intro n
  induction n with
  | zero=>intro A B S va vb x3 x4 hB;omega
  | succ n ih =>
    intro A B S va vb x3 x4 hB ho hbS ha hb hla hlb hq
    have nb:=hb.n32
    have hlen:A6 Tryz.prog S 22 vb=some (iv ((AJ B).length:Int)):=by
      obtain⟨a,cap,rfl,_,_⟩:=nb
      exact AH Tryz.underlying22
    refine WC.loop' ?_
    generalize hW:WC E none (Aa.loop Q4) Q=WW
    by_cases h0:B=0
    · subst h0
      have dd:decide ((0:Int)<((AJ 0).length:Int))=false:=by rw[A8];rfl
      simp only[Q4,dB,hlen,Rz,dd,Qa,Qb,Qc,Qd,Qf,Qh,Qi,Qj,Qk,Qm,Qo,true_and,Qp,Qq,Qr,Qs,Qt,Qv,Ra,Rb,Rd,Re,Rz]
      refine hq S va vb _ _ ho ?_
      rw[Nat.gcd_zero_right]
      exact ha
    · have hpos : 0 < (AJ    B).length := List.length_pos_iff.2 (Br       h0)
      have dd:decide ((0:Int)<((AJ B).length:Int))=true:=decide_eq_true (by omega)
      simp only[Q4,dB,mq,hlen,Rz,dd,Qa,Qb,Qc,Qd,Qf,Qh,Qi,Qj,Qk,Qm,Qo,true_and,Qp,Qq,Qr,Qs,Qt,Qv,Qz,Rb,Rd,Re,Zb,Rz]
      refine UB hE ha.n32 nb hla hlb (AK A) (AK B) (fun e=>absurd (by rw[AR]at e;exact e) h0) fun _ s' vq vr o' rq rr=>?_
      rw[AR,AR]at rr
      have hlt:A % B<B:=yP _ (by omega)
      simp only[mr,Qb,Qc,Qd,Qf,Qh,Qj,Qk,Qm,Qo,true_and,Qp,Qq,Qr,Qs,Qt,Qv,Yd,Ye]
      rw[← hW]
      have e:Nat.gcd A B=Nat.gcd B (A % B):=by rw[zv,Nat.gcd_rec,zv]
      rw[e]at hq
      refine ih B (A % B) s' vb vr _ _ (by omega) (ho.trans (o'.mono hbS)) (xh hbS o'.1) (hb.old o') (rr.mono hbS) hlb (xh (E0 (Nat.le_of_lt hlt)) hlb) hq
theorem UG(hE:GoodN E){va vb:AV}{la lb:List Nat}(ha:Bo s va la)(hb:Bo s vb lb)(hla:la.length≤1000000000)(hlb:lb.length≤1000000000)(hsa:Be la)(hsb:Be lb){K:AV→AE→Prop}
  (hK:∀s' v,Af s.next s s'→NR s.next s' v (AJ (Nat.gcd (AG la) (AG lb)))→K v s'):WF E 49 [va,vb] K s:=by
 refine hE.go sI (by decide) rfl ?_
 simp only[wq,mo,mp,Qa,Qb,Qc,Qd,Qf,Qh,Qi,Qj,Qk,Ql,Qm,Qo,true_and,Qp,Qq,Qr,Qt,Qv,Rb,Rh,Rk,Rm,Rn,Yc]
 refine C6 hE ha (by omega) fun s1 v1 o1 r1=>?_
 simp only[Qd,Qo,true_and,Qr,Qs]
 refine C6 hE (hb.old o1) (by omega) fun s2 v2 o2 r2=>?_
 have t1:=FE la
 have t2:=FE lb
 have R1:NR s.next s2 v1 (AJ (AG la)):=by have:=r1.old o2;rw[B0 hsa]at this;exact this
 have R2:NR s.next s2 v2 (AJ (AG lb)):=by have:=r2.mono o1.1;rw[B0 hsb]at this;exact this
 rw[B0 hsa]at t1
 rw[B0 hsb]at t2
 have o12:=o1.trans (o2.mono o1.1)
 simp only[Qd,Qo,true_and,Qp,Qq,Qr,Qs]
 refine fO (s:=s) hE _ (AG lb+1) _ _ s2 v1 v2 _ _ (yg _) o12 o12.1 R1 R2 (by omega) (by omega) fun S va vb y3 y4 hS hr=>?_
 simp only[ms,if_true,Qb,Qc,Qd,Qf,Qh,Qj,Qm,Qo,true_and,Qp,Qq,Qr,Qs,Qt,Qv,Rb,Rd,Rg,Rj]
 exact hK S va hS hr
end
theorem OT:∀ (l w:List Nat),l.zip (w.take l.length)=l.zip w
 | [],w=>by simp
 | x::l,[]=>by simp
 | x::l,y::w=>by rw[yU,A0L,zX,zX,OT l w]
structure Ws(la lb cu:List Nat)(i:Nat):Prop where
 len:cu.length=la.length+lb.length
 sm:Be cu
 val:AG cu=AG (la.take i) * AG lb
 zero:cu.drop (i+lb.length)=List.replicate (la.length - i) 0
theorem Ws.step{la lb cu:List Nat}{i x:Nat}(h:Ws la lb cu i)(hx:la[i]? = some x)(hxs:x<LB)(hb:Be lb):
  Ws la lb (GE cu i ((F3 x (lb.zip (cu.drop i)) 0).1++[(F3 x (lb.zip (cu.drop i)) 0).2])) (i+1):=by
 obtain⟨h1,h2,h3,h4⟩:=h
 have hi:i<la.length:=(List.getElem?_eq_some_iff.1 hx).1
 have hz:lb.zip (cu.drop i)=lb.zip ((cu.drop i).take lb.length):=(OT _ _).symm
 rw[hz]
 have hwl:((cu.drop i).take lb.length).length=lb.length:=by rw[xz,yL];omega
 have hv:=SF x (lb.zip ((cu.drop i).take lb.length)) 0
 have hl:=MX x (lb.zip ((cu.drop i).take lb.length)) 0
 have hzl:(lb.zip ((cu.drop i).take lb.length)).length=lb.length:=by rw[zV,hwl,zt]
 obtain⟨c1,c2⟩:=IU (x:=x) (P:=lb.zip ((cu.drop i).take lb.length)) (c:=0) hxs (fun p hp=>by
  have:=List.of_mem_zip (a:=p.1) (b:=p.2) hp
  exact⟨hb _ this.1,(h2.drop i).take lb.length _ this.2⟩) BO
 rw[P6 hwl.symm,P7 hwl.symm,hzl]at hv
 rw[hzl]at hl
 generalize F3 x (lb.zip ((cu.drop i).take lb.length)) 0=T at *
 obtain⟨T1,T2⟩:=T
 simp only at *
 have hdl:(T1++[T2]).length=lb.length+1:=by rw[xp,hl];rfl
 have hd0:cu.drop (i+(lb.length+1))=List.replicate (la.length - (i+1)) 0:=by
  rw[← yR,← zC,h4,List.drop_replicate]
  congr 1
 have hcu:AG cu=AG (cu.take i)+LB ^ i * AG ((cu.drop i).take lb.length):=by
  have e1:cu=cu.take i++((cu.drop i).take lb.length++cu.drop (i+lb.length)):=by
   rw[← zC,zB,zB]
  have e2:=congrArg AG e1
  rw[Bk,h4,Bk,Hv,yO,yF,xz,yv (by omega)]at e2
  exact e2
 have hta:AG (la.take (i+1))=AG (la.take i)+LB ^ i * x:=by
  rw[List.take_add_one,hx,Bk,xz,yv (by omega)]
  simp[AG]
 refine⟨?_,?_,?_,?_⟩
 ·rw[Hj (by rw[hdl];omega)];exact h1
 ·unfold GE
  refine((h2.take i).append (c2.append fun y hy=>?_)).append (h2.drop _)
  rw[A0H.1 hy];exact c1
 ·unfold GE
  rw[hdl,hd0,Bk,Hv,yO,yF,Bk,Bk,hl,hta,xz,yv (by omega)]
  have e3:AG [T2]=T2:=by simp[AG]
  rw[e3,hv,yH,← h3,hcu,yF,yB,xw]
  omega
 ·unfold GE
  rw[show i+1+lb.length=(cu.take i++(T1++[T2])).length by simp[hl];omega,List.drop_left,hdl]
  exact hd0
section
variable{E:CU}{s:AE}
theorem gQ{s1:AE}{x:Nat}(hxs:x<4294967296){ui off N:Nat}{cu w:List Nat}(hN:N=cu.length)(hcu:off+w.length≤cu.length)(hcl:cu.length≤100000000000)(hsu:Be cu)(hsw:Be w){a9:Option (Nat×Nat)}{c9:Option Nat}{b:Nat}(hc9:AU b s1 a9 (us w))(h9:b≤ui)
    {T:List Nat×Nat} {Q:Ay→Prop} (y0 y1 y2 y9 y10 y11 y12:AV)
    (hq:∀ (s':AE) (y7 y8 y15 y16:AV),Eo s1 s' ui none→Cf s' ui (us (GE cu off T.1)) none →
      Q ⟨.exit 2,[y0,y1,y2,.slice (some (ui,0)) N (some N),iv (off:Int),Aw x,Aj T.2,y7,y8,y9,y10,y11,y12,.slice a9 w.length c9,iv (w.length:Int),y15,y16],[],s'⟩):
    ∀ (r : List Nat) (s' : AE)  (c : Nat) (d : List Nat) (x7 x8 x16 : AV), w.drop d.length = r → d.length ≤ w.length → Eo    s1 s' ui none → c < 4294967296 →
      (d++(F3 x (r.zip (cu.drop (off+d.length))) c).1,(F3 x (r.zip (cu.drop (off+d.length))) c).2)=T→Cf s' ui (us (GE cu off d)) none →
      WC E none (.loop Ln) Q [y0,y1,y2,.slice (some (ui,0)) N (some N),iv (off:Int),Aw x,Aj c,x7,x8,y9,y10,y11,y12,.slice a9 w.length c9,iv (w.length:Int),iv (d.length:Int),x16] [] s':=by
  subst hN
  intro r
  induction r with
  | nil =>
    intro s' c d x7 x8 x16 hd hk ho hc hT hg
    have hkl:d.length=w.length:=by
      have:=congrArg List.length hd
      simp at this
      omega
    rw[List.zip_nil_left]at hT
    simp only[F3,zS]at hT
    have dd:decide ((d.length:Int)<(w.length:Int))=false:=decide_eq_false (by omega)
    refine WC.loop' ?_
    simp only[Ln,dW,Ry,dd,Qa,Qb,Qc,Qd,Qf,Qh,Qj,Qm,Qo,true_and,Qp,Qq,Qr,Qs,Qt,Qv,Ra,Rb,Rd,Re,Ry]
    subst hT
    exact hq s' _ _ _ _ ho hg
  | cons y r ih =>
    intro s' c d x7 x8 x16 hd hk ho hc hT hg
    have hlt:d.length<w.length:=by
      rcases xf d.length w.length with h' | h'
      · exact h'
      · rw[yQ h']at hd;cases hd
    have hy:w[d.length]? = some y:=by
      have:=congrArg (fun l=>l[0]?) hd
      simpa using this
    have hd':w.drop (d.length+1)=r:=by
      have:=congrArg (List.drop 1) hd
      simpa[zC]using this
    have hys:y<4294967296:=hsw y (yG hy)
    have hlu:off+d.length<cu.length:=by omega
    have hu:cu[off+d.length]? = some cu[off+d.length]:=xe hlu
    have hdu:cu.drop (off+d.length)=cu[off+d.length]::cu.drop (off+(d.length+1)):=yV hlu
    generalize cu[off+d.length]=u at hu hdu
    have hus:u<4294967296:=hsu u (yG hu)
    rw[hdu,zX]at hT
    simp only[F3]at hT
    obtain⟨i,o,rfl,hi,hload⟩:=hc9 d.length _ (DE hy)
    have hne:i≠ui:=by omega
    have hkk:decide ((d.length:Int)<(w.length:Int))=true:=decide_eq_true (by omega)
    have e1:=Ae (cap:=c9) (i:=i) (o:=o) Tryz.underlying22 Cx hlt
    have e2:AC Tryz.prog s' 76 (.ptr (some (i,o+d.length * 1)))=some (Aw y):=Bd Gq (by rw[xj,B6 (ho.get i hne (by simp))];exact hload)
    have e0:=Az Tryz.prog 3 (off:Int) (d.length:Int) ⟨by omega,by omega⟩
    have e0':((off:Int)+(d.length:Int))=((off+d.length:Nat):Int):=by omega
    have e5:=Ae (cap:=some cu.length) (i:=ui) (o:=0) Tryz.underlying22 Cx hlu
    have hcell:(us (GE cu off d))[0+(off+d.length) * 1]? = some (Aw u):=by rw[xj,xu];exact DE ((PZ hlu).trans hu)
    have e6:=HH (P:=Tryz.prog) (t:=76) Gq hg hcell
    have hxy:x * y≤4294967295 * 4294967295:=yh (by omega) (by omega)
    have e3:=Sx Tryz.prog 69 (a:=x) (b:=y) (by omega)
    have e3':=IE Tryz.prog 69 (a:=x * y) (b:=u) (by omega)
    have e4:=IE Tryz.prog 69 (a:=c) (b:=x * y+u) (by omega)
    have hLB:LB=4294967296:=rfl
    rw[hLB]at hT
    generalize hc1:c+(x * y+u)=c1 at hT e4
    have hc1b:c1<18446744073709551616:=by omega
    have e7:=Kn Tryz.prog 69 hc1b
    have e11:c1 % 4294967296 % 4294967296=c1 % 4294967296:=zZ _ _
    have e15:AL Tryz.prog .shr 69 (Aj c1) (.int .u64 32)=some (Aj (c1 / 4294967296)):=JZ Tryz.prog 69 (k:=.u64) (n:=32) (by decide)
    have hcq:c1 / 4294967296<4294967296:=by omega
    generalize hx:c1 % 4294967296=z at hT e7 e11
    have hlm:0+(off+d.length) * 1<(us (GE cu off d)).length:=by rw[DS,Hj (by omega)];omega
    obtain⟨s2,e16,w1,w2,w3⟩:=EU (P:=Tryz.prog) (t:=76) (v:=Aw z) Cx hg hlm rfl
    rw[xj,xu]at e16
    rw[xj,xu,Im,LJ hlu]at w1
    rw[xj,xu]at e5 e6
    have e17:=Az Tryz.prog 3 (d.length:Int) 1 ⟨by omega,by omega⟩
    have e17':((d.length:Int)+1)=((d.length+1:Nat):Int):=by omega
    refine WC.loop' ?_
    generalize hW:WC E none (Aa.loop Ln) Q=WW
    simp only[Ln,dW,nJ,nK,dP,dQ,dR,Ry,hkk,e0,e0',e1,e2,e5,e6,Bz hus,Bz hys,Bz hxs,e3,e3',e4,e7,CL,e11,e16,e15,e17,e17',Xy,Za,Qa,Qb,Qc,Qd,Qf,Qh,Qi,Qj,Qk,Qm,Qo,true_and,Qp,Qq,Qr,Qs,Qt,Qv,Qz,Rb,Rd,Re,Ry]
    rw[← hW]
    have hlen1:(d++[z]).length=d.length+1:=by rw[xp];rfl
    have key:=ih s2 (c1 / 4294967296) (d++[z])
    rw[hlen1]at key
    exact key _ _ _ hd' hlt (ho.step w2 w3) hcq (by rw[yW];exact hT) w1
end
section
variable{E:CU}{s:AE}
theorem fh       {s1 : AE}  {qi : Nat} {a b : Option (Nat × Nat)} {ca cb : Option Nat} {la lb : List Nat} (hca : AU      qi s1 a (us la)) (hcb : AU      qi s1 b (us lb)) (hla : la.length ≤ 10000000000) (hlb : lb.length ≤ 10000000000) (hsa : Be  la) (hsb : Be  lb) {Q : Ay   → Prop} (y2 : AV)
    (hq:∀ (s':AE) (cu:List Nat) (y4 y5 y6 y7 y8 y11 y12 y13 y14 y15 y16:AV),Eo s1 s' qi none→Cf s' qi (us cu) none→Ws la lb cu la.length →
      Q ⟨.exit 0,[.slice a la.length ca,.slice b lb.length cb,y2,.slice (some (qi,0)) (la.length+lb.length) (some (la.length+lb.length)),y4,y5,y6,y7,y8,.slice a la.length ca,iv (la.length:Int),y11,y12,y13,y14,y15,y16],[],s'⟩):
    ∀ (k i:Nat) (s':AE) (cu:List Nat) (x4 x5 x6 x7 x8 x12 x13 x14 x15 x16:AV),i+k=la.length→Eo s1 s' qi none→Cf s' qi (us cu) none→Ws la lb cu i →
      WC E none (.loop Lo) Q [.slice a la.length ca,.slice b lb.length cb,y2,.slice (some (qi,0)) (la.length+lb.length) (some (la.length+lb.length)),x4,x5,x6,x7,x8,.slice a la.length ca,iv (la.length:Int),iv (i:Int),x12,x13,x14,x15,x16] [] s':=by
  intro k
  induction k with
  | zero =>
    intro i s' cu x4 x5 x6 x7 x8 x12 x13 x14 x15 x16 hik ho hg hm
    have e:i=la.length:=by omega
    subst e
    have dd:decide ((la.length:Int)<(la.length:Int))=false:=decide_eq_false (by omega)
    refine WC.loop' ?_
    simp only[Lo,dV,Ry,dd,Qa,Qb,Qc,Qd,Qf,Qh,Qj,Qm,Qo,true_and,Qp,Qq,Qr,Qs,Qt,Qv,Ra,Rb,Rd,Re,Ry]
    exact hq s' cu _ _ _ _ _ _ _ _ _ _ _ ho hg hm
  | succ k ih =>
    intro i s' cu x4 x5 x6 x7 x8 x12 x13 x14 x15 x16 hik ho hg hm
    have hi:i<la.length:=by omega
    have hx:la[i]? = some la[i]:=xe hi
    generalize la[i]=x at hx
    have hxs:x<4294967296:=hsa x (yG hx)
    have hstep:=hm.step hx hxs hsb
    obtain⟨pi,o,rfl,hpi,hload⟩:=hca i _ (DE hx)
    have dd:decide ((i:Int)<(la.length:Int))=true:=decide_eq_true (by omega)
    have e1:=Ae (cap:=ca) (i:=pi) (o:=o) Tryz.underlying22 Cx hi
    have e2:AC Tryz.prog s' 76 (.ptr (some (pi,o+i * 1)))=some (Aw x):=Bd Gq (by rw[xj,B6 (ho.get pi (by omega) (by simp))];exact hload)
    have hTl:(F3 x (lb.zip (cu.drop i)) 0).1.length=lb.length:=by
      rw[MX,zV,yL,hm.len];omega
    generalize hT:F3 x (lb.zip (cu.drop i)) 0=T at *
    have hlen:=hm.len
    have hil:i+T.1.length<cu.length:=by omega
    refine WC.loop' ?_
    generalize hW:WC E none (Aa.loop Lo) Q=WW
    simp only[Lo,dV,nG,nH,nI,AH Tryz.underlying22,Ry,dd,e1,e2,Qa,Qb,Qc,Qd,Qf,Qh,Qi,Qj,Qk,Qm,Qo,true_and,Qp,Qq,Qr,Qs,Qt,Qv,Qz,Rb,Rd,Re,Ry]
    refine gQ (s1:=s1) (x:=x) hxs (ui:=qi) (off:=i) (N:=la.length+lb.length) (cu:=cu) (w:=lb) (a9:=b) (c9:=cb) (b:=qi) hm.len.symm (by omega) (by omega) hm.sm hsb hcb (xZ _) (T:=T) _ _ _ _ _ _ _ (fun s2 y7 y8 y15 y16 ho2 hg2=>?_) lb s' 0 [] _ _ _ rfl (xg _) ho (by decide) (by rw[← hT];rfl) (by rw[Pa];exact hg)
    have e3:=Az Tryz.prog 3 (i:Int) (lb.length:Int) ⟨by omega,by omega⟩
    have e3':((i:Int)+(lb.length:Int))=((i+lb.length:Nat):Int):=by omega
    have e4:=Ae (cap:=some (la.length+lb.length)) (i:=qi) (o:=0) Tryz.underlying22 Cx (show i+lb.length<la.length+lb.length by omega)
    have hT2:T.2<4294967296:=by
      rw[← hT]
      exact(IU (x:=x) hxs (fun p hp=>by
        have:=List.of_mem_zip (a:=p.1) (b:=p.2) hp
        exact⟨hsb _ this.1,hm.sm.drop i _ this.2⟩) BO).1
    have e5:T.2 % 4294967296=T.2:=yS hT2
    have hlm:0+(i+lb.length) * 1<(us (GE cu i T.1)).length:=by rw[DS,Hj (by omega)];omega
    obtain⟨s3,e16,w1,w2,w3⟩:=EU (P:=Tryz.prog) (t:=76) (v:=Aw T.2) Cx hg2 hlm rfl
    rw[xj,xu]at e16 e4
    rw[xj,xu,Im,← hTl,LJ hil]at w1
    have e17:=Az Tryz.prog 3 (i:Int) 1 ⟨by omega,by omega⟩
    have e17':((i:Int)+1)=((i+1:Nat):Int):=by omega
    simp only[dS,dT,if_true,AH Tryz.underlying22,CL,e3,e3',e4,e5,e16,e17,e17',Xy,Za,Qb,Qc,Qd,Qf,Qh,Qi,Qj,Qk,Qm,Qo,true_and,Qp,Qq,Qr,Qs,Qt,Qv,Rb,Rd,Rg]
    rw[← hW]
    exact ih (i+1) s3 _ _ _ _ _ _ _ _ _ _ _ (by omega) (ho2.step w2 w3) w1 hstep
theorem Pc(hE:GoodN E){va vb:AV}{la lb:List Nat}(ha:Bo s va la)(hb:Bo s vb lb)(hla:la.length≤1000000000)(hlb:lb.length≤1000000000)(hsa:Be la)(hsb:Be lb){K:AV→AE→Prop}
  (hK:∀s' v,Af s.next s s'→NR s.next s' v (AJ (AG la * AG lb))→K v s'):WF E 51 [va,vb] K s:=by
 obtain⟨a,ca,rfl,hcapa,hca⟩:=ha
 obtain⟨b,cb,rfl,hcapb,hcb⟩:=hb
 have e0:=Az Tryz.prog 3 (la.length:Int) (lb.length:Int) ⟨by omega,by omega⟩
 have e0':((la.length:Int)+(lb.length:Int))=((la.length+lb.length:Nat):Int):=by omega
 have e1:=PX (la.length+lb.length) (by omega)
 have ho:=Af.new s (R 76 1 false (us (List.replicate (la.length+lb.length) 0)))
 refine hE.go sK (by decide) rfl ?_
 simp only[wt,nD,nE,nF,AH Tryz.underlying22,e0,e0',e1,Xy,Xe,Qa,Qb,Qc,Qd,Qf,Qh,Qi,Qj,Qk,Ql,Qm,Qo,true_and,Qp,Qq,Qr,Qs,Qt,Qv,Rb,Rh,Rk,Rm,Rn,Yc]
 have hg0:(newObj s (R 76 1 false (us (List.replicate (la.length+lb.length) 0)))).heap.get s.next=some (R 76 1 false (us (List.replicate (la.length+lb.length) 0))):=by
  rw[AW,if_pos rfl]
 have hR0:Ws la lb (List.replicate (la.length+lb.length) 0) 0:=by
  refine⟨by simp,fun x hx=>by rw[List.eq_of_mem_replicate hx];exact BO,?_,?_⟩
  ·rw[Hv,zD]
   show 0=0 * _
   rw[yo]
  ·rw[List.drop_replicate]
   congr 1
   omega
 refine fh (s1:=newObj s (R 76 1 false (us (List.replicate (la.length+lb.length) 0)))) (qi:=s.next) (hca.old ho (xZ _)) (hcb.old ho (xZ _)) (by omega) (by omega) hsa hsb _
  (fun s' cu y4 y5 y6 y7 y8 y11 y12 y13 y14 y15 y16 o' hg' hm=>?_) la.length 0 _ _ _ _ _ _ _ _ _ _ _ _ (by omega) (Eo.refl _ _ _) (Cf.of_R hg0) hR0
 have hsn:s'.next=s.next+1:=o'.next
 have hq:Bo s' (.slice (some (s.next,0)) (la.length+lb.length) (some (la.length+lb.length))) cu:=
  ⟨some (s.next,0),some (la.length+lb.length),by rw[hm.len],.inl ⟨_,rfl,by have:=hm.len;omega,fun e=>by cases e⟩,Hc hg' (by omega)⟩
 simp only[dU,if_true,Qb,Qc,Qd,Qf,Qh,Qj,Qk,Qm,Qo,true_and,Qr,Qs,Qt,Qv,Rb,Rd,Rg,Rj]
 refine C6 hE hq (by have:=hm.len;omega) fun s2 v2 o2 r2=>?_
 rw[B0 hm.sm,hm.val,zP]at r2
 simp only[Qd,Qo,true_and,Qp,Qq,Qr,Qs]
 exact hK s2 v2 (ho.trans (Af.trans ⟨by have:s.next≤(newObj s (R 76 1 false (us (List.replicate (la.length+lb.length) 0)))).next:=yp _;have:=o'.next;omega,fun j hj=>o'.get j (by omega) (by simp)⟩ (o2.mono (by omega)))) (r2.mono (by omega))
end
end
end Go.Proofs.YtjnkfbpadpmakaaGreatDoor.Am
set_option linter.unusedVariables false
set_option linter.unusedSimpArgs false
namespace Go.Proofs.YtjnkfbpadpmakaaGreatDoor.Am
open Go Go.Proofs
noncomputable section
theorem Dy{s s':AE}{l:Nat}(h:s'.heap.get l=s.heap.get l):Bb s' l=Bb s l:=by unfold Bb;rw[h]
theorem DO(s:AE)(l:Nat)(r:Df):Bb (setObj s l (.loop r)) l=some r:=by unfold Bb;rw[MC,if_pos rfl]
def KO(Q:Ay→Prop)(var:List AV)(marks:List Nat)(s:AE)(pd:Option Code):Prop:=match pd with
 | none=>Q ⟨.normal,var,marks,s⟩
 | some .ret=>Q ⟨.ret,var,marks,s⟩
 | some (.exit id)=>Q ⟨.exit id,var,marks,s⟩
 | some _=>False
theorem gC{Q:Ay→Prop}{var:List AV}{marks:List Nat}{s:AE}{pd:Option Code}(h:KO Q var marks s pd):∃r,G0 var marks s pd=some r∧Q r:=by
 unfold KO at h
 unfold G0
 split at h
 ·exact⟨_,rfl,h⟩
 ·exact⟨_,rfl,h⟩
 ·exact⟨_,rfl,h⟩
 ·exact h.elim
def Hi(fn:FuncId)(var:List AV)(ps:Array Tmp)(a b:Code)(dfr:Nat):Df:={ state:=.ready,pending:=none,fn,var,params:=ps,assign:=a,body:=b,dfr }
theorem WC.range{E:CU}{Q:Ay→Prop}{var:List AV}{marks:List Nat}{s:AE}{fn:FuncId}{f:CX}{ps:Array Tmp}{a b:Code}{g:FuncId}{first cap:List AV}(hf:DK [] var f=.func g first cap)
  (h:WF E g (first++([.yield (s.next+1)]++cap)) (fun _ s'=>∃r,Bb s' (s.next+1)=some r∧UM r.state=false∧KO Q var (s.next::marks) (setObj s' (s.next+1) (.loop { r with state:=.exhausted })) r.pending)
   (newObj (newObj s .mark) (.loop (Hi fn var ps a b s.next)))):WC E none (.rangeFunc fn f ps a b) Q var marks s:=by
 obtain⟨n,p,h1,r,h2,h3,h4⟩:=h
 obtain⟨res,h5,h6⟩:=gC h4
 refine⟨n+1,res,?_,h6⟩
 show DG (ER E n) none (.rangeFunc fn f ps a b) var marks s=some res
 simp only[DG,Ls,FT,Ha,hf,G3]
 have e:(newObj s .mark).next=s.next+1:=rfl
 rw[e]
 have h1':=h1
 unfold Hi at h1'
 rw[h1']
 simp only[Option.bind_some,h2,h3,cond_false,h5]
theorem WR.round{E:CU}{K:AV→AE→Prop}{l:Nat}{xs:List AV}{s:AE}{r:Df}{var:List AV}{ca cb:Aa}(h1:Bb s l=some r)(h2:DY (De E.P r.fn) r.var r.params.toList xs=some var)
  (h3:EI E.P r.fn r.assign=some ca) (h4:EI E.P r.fn r.body=some cb)
  (h:WC E (some l) ca (fun q=>q.exit=.normal∧∃r',Bb q.st l=some r'∧LE r'.state=true ∧
   WC E (some l) cb (fun q2=>∃r'',Bb q2.st l=some r''∧K (.bool (Dh q2.exit).isNone) (setObj q2.st l (.loop { r'' with state:=Hr (Dh q2.exit),pending:=Dh q2.exit }))) q.var q.marks (setObj q.st l (.loop { r' with state:=.busy }))) var [] s):WR E l xs K s:=by
 obtain⟨n,q,g1,g2,r',g3,g4,m,q2,g5,r'',g6,g7⟩:=h
 refine⟨max n m+1,(_,_),?_,g7⟩
 show Km E (ER E (max n m)) l xs s=_
 simp only[Km,h1,Option.bind_some,h2,h3,h4,Hn,(Ga E (Nat.le_max_left n m)).code g1,g2,I6,cond_true,g3,g4,JR,(Ga E (Nat.le_max_right n m)).code g5,g6]
 rfl
def Cl:Code→List (Code×Code)
 | .seq x y=>Cl x++Cl y
 | .cond _ x y=>Cl x++Cl y
 | .block _ c=>Cl c
 | .loop c=>Cl c
 | .scope c=>Cl c
 | .rangeFunc _ _ a b=>Cl a++Cl b++[(a,b)]
 | _=>[]
def FX (f k:Nat):Code×Code:=(((Tryz.prog.funcs[f]?).bind fun fn=>fn.body.bind fun c=>(Cl c)[k]?)).getD (.skip,.skip)
end
end Go.Proofs.YtjnkfbpadpmakaaGreatDoor.Am
set_option linter.unusedVariables false
set_option linter.unusedSimpArgs false
set_option maxRecDepth 100000
namespace Go.Proofs.YtjnkfbpadpmakaaGreatDoor.Am
open Go Go.Proofs
noncomputable section
def bk:List AA:=[
 ⟨none,.mk (fun l=>match l with | [v]=>Bf 22 v | _=>none),[.var 0],(.set 2),[]⟩,
 ⟨none,.mk (fun l=>match l with | [v]=>Bf 22 v | _=>none),[.var 1],(.set 3),[]⟩,
 ⟨none,.p1 some,[(.const .nilFunc)],(.set 4),[]⟩]
def bl:List AA:=[
 ⟨none,.mk (fun l=>match l with | []=>Ag Tryz.prog 197 | _=>none),[],(.set 5),[]⟩,
 ⟨none,.e (fun s=>Xy (fun a x=>Za (AS Tryz.prog s 197 a x))),[(.var 5),(.const (.func 187 [] []))],.push,[]⟩]
def bo:List AA:=[
 ⟨none,.p (fun l=>some (.func 188 (l.take 0) (l.drop 0))),[.var 2,.var 3,.var 5],.push,[]⟩,
 ⟨none,.p1 some,[.loc 0],(.set 4),[]⟩]
def ug:Ah:=⟨2,6,(.seq (.ops bk) (.seq (.ops bl) (.seq (.ops bo) .ret))),[((.var 4),none)]⟩
def Tl:List AA:=[
 ⟨none,.p1 some,[(.const (.int .u64 (0)))],(.set 2),[]⟩]
def Tm:List AA:=[
 ⟨none,.r (fun s l=>match l with | [x]=>A6 Tryz.prog s 22 x | _=>none),[.var 0],.push,[]⟩,
 ⟨none,.p2 (AL Tryz.prog .geq 3),[.var 1,.loc 0],(.set 3),[]⟩]
def cH:List AA:=[
 ⟨none,.p1 some,[(.const (.int .u64 (0)))],(.set 2),[]⟩]
def cI:List AA:=[
 ⟨none,.p2 (AM Tryz.prog 22),[.var 0,.var 1],.push,[]⟩,
 ⟨none,.r1 (fun s a=>AC Tryz.prog s 76 a),[.loc 0],.push,[]⟩,
 ⟨none,.r1 (fun s x=>Ax Tryz.prog s 76 69 x),[.loc 0],.push,[]⟩,
 ⟨none,.p1 some,[.loc 0],(.set 2),[]⟩]
def rN:Ah:=⟨2,4,(.seq (.ops Tl) (.seq (.seq (.ops Tm) (.cond (.var 3)
 (.seq (.ops cH) .ret)
 .skip)) (.seq (.ops cI) .ret))),[((.var 2),none)]⟩
def cJ:List AA:=[
 ⟨none,.r1 (fun s a=>AC Tryz.prog s 22 a),[.var 1],.push,[]⟩,
 ⟨none,.r (fun s l=>match l with | [x]=>A6 Tryz.prog s 22 x | _=>none),[.loc 0],.push,[]⟩,
 ⟨none,.r1 (fun s a=>AC Tryz.prog s 22 a),[.var 2],.push,[]⟩,
 ⟨none,.r (fun s l=>match l with | [x]=>A6 Tryz.prog s 22 x | _=>none),[.loc 0],.push,[]⟩,
 ⟨none,.p (fun l=>match l with | v::l=>Ct true v l | []=>none),[.loc 2,.loc 0],(.set 5),[]⟩,
 ⟨none,.p1 some,[(.const (.int .i64 (0)))],(.set 6),[]⟩]
def Tn:List AA:=[
 ⟨none,.p2 (AL Tryz.prog .lss 3),[.var 6,.var 5],(.set 7),[]⟩]
def cK:List AA:=[
 ⟨none,.p1 some,[.var 6],(.set 4),[]⟩]
def cL:List AA:=[
 ⟨none,.r1 (fun s a=>AC Tryz.prog s 197 a),[.var 3],.push,[]⟩,
 ⟨none,.r1 (fun s a=>AC Tryz.prog s 22 a),[.var 1],.push,[]⟩,
 ⟨none,.r1 (fun s a=>AC Tryz.prog s 197 a),[.var 3],.push,[]⟩,
 ⟨none,.r1 (fun s a=>AC Tryz.prog s 22 a),[.var 2],.push,[]⟩,
 ⟨none,.callv,[.loc 3,.loc 2,.var 4],.push,[⟨none,.r1 (fun s a=>AC Tryz.prog s 22 a),[.var 2],(.loc 1)⟩,⟨none,.r1 (fun s a=>AC Tryz.prog s 197 a),[.var 3],(.loc 2)⟩]⟩,
 ⟨none,.callv,[.loc 2,.loc 1,.var 4],.push,[]⟩,
 ⟨none,.callv,[.var 0,.loc 1,.loc 0],.push,[]⟩,
 ⟨none,.p1 (WT Tryz.prog Go.UnOp.not),[.loc 0],(.set 8),[]⟩]
def cM:List AA:=[
 ⟨none,.p2 (AL Tryz.prog .add 3),[(.var 6),(.const (.int .i64 (1)))],.push,[]⟩,
 ⟨none,.p1 some,[.loc 0],(.set 6),[]⟩]
def Lk:Aa:=(.seq (.ops Tn) (.seq (.cond (.var 7)
 .skip
 (.exit 0)) (.seq (.block 1 (.seq (.ops cK) (.seq (.ops cL) (.cond (.var 8)
 .ret
 .skip)))) (.ops cM))))
def uh:Ah:=⟨4,9,(.seq (.ops cJ) (.block 0 (.loop Lk))),[]⟩
def bT:List AA:=[
 ⟨none,.p1 some,[(.const (.slice none 0 (some 0)))],(.set 1),[]⟩]
def bU:List AA:=[
 ⟨none,.p1 some,[.var 0],(.set 7),[]⟩,
 ⟨none,.r (fun s l=>match l with | [x]=>A6 Tryz.prog s 196 x | _=>none),[.var 7],(.set 8),[]⟩,
 ⟨none,.p1 some,[(.const (.int .i64 (0)))],(.set 9),[]⟩]
def Ti:List AA:=[
 ⟨none,.p2 (AL Tryz.prog .lss 3),[.var 9,.var 8],(.set 10),[]⟩]
def bV:List AA:=[
 ⟨none,.p2 (AM Tryz.prog 196),[.var 7,.var 9],.push,[]⟩,
 ⟨none,.r1 (fun s a=>AC Tryz.prog s 22 a),[.loc 0],.push,[]⟩,
 ⟨none,.p1 some,[.loc 0],(.set 2),[]⟩]
def bW:List AA:=[
 ⟨none,.mk (fun l=>match l with | []=>Ag Tryz.prog 22 | _=>none),[],(.set 3),[]⟩]
def bX:List AA:=[
 ⟨none,.mk (fun l=>match l with | []=>Ag Tryz.prog 69 | _=>none),[],(.set 4),[]⟩,
 ⟨none,.e (fun s=>Xy (fun a x=>Za (AS Tryz.prog s 69 a x))),[(.var 4),(.const (.int .u64 (0)))],.push,[]⟩]
def bY:List AA:=[
 ⟨none,.call 174,[.var 1,.var 2],(.set 11),[]⟩]
def bZ:List AA:=[
 ⟨none,.p1 some,[.var 12],(.set 5),[]⟩]
def bh:List AA:=[
 ⟨none,.p1 some,[.var 13],(.set 6),[]⟩]
def bj:List AA:=[
 ⟨none,.r1 (fun s a=>AC Tryz.prog s 69 a),[.var 4],.push,[]⟩,
 ⟨none,.p2 (AL Tryz.prog .add 69),[.var 5,.var 6],.push,[]⟩,
 ⟨none,.p2 (AL Tryz.prog .add 69),[.loc 1,.loc 0],.push,[]⟩,
 ⟨none,.e (fun s=>Xy (fun a x=>Za (AS Tryz.prog s 69 a x))),[.var 4,.loc 0],.push,[]⟩]
def VZ:List AA:=[
 ⟨none,.r1 (fun s a=>AC Tryz.prog s 22 a),[.var 3],.push,[]⟩,
 ⟨none,.r1 (fun s a=>AC Tryz.prog s 69 a),[.var 4],.push,[]⟩,
 ⟨none,.p2 (AL Tryz.prog .and 69),[(.loc 0),(.const (.int .u64 (4294967295)))],.push,[]⟩,
 ⟨none,.r1 (fun s x=>Ax Tryz.prog s 69 76 x),[.loc 0],.push,[]⟩,
 ⟨none,.mk (fun l=>(Ad Tryz.prog 22 1 (zipIdx [0] l)).bind fun r=>some (r,.slice 1)),[.loc 0],.push,[]⟩,
 ⟨none,.e (fun s l=>Ar Tryz.prog s [22,22] l),[.loc 4,.loc 0],.push,[]⟩,
 ⟨none,.e (fun s=>Xy (fun a x=>Za (AS Tryz.prog s 22 a x))),[.var 3,.loc 0],.push,[]⟩]
def Va:List AA:=[
 ⟨none,.r1 (fun s a=>AC Tryz.prog s 69 a),[.var 4],.push,[]⟩,
 ⟨none,.p2 (AL Tryz.prog .shr 69),[(.loc 0),(.const (.int .u64 (32)))],.push,[]⟩,
 ⟨none,.e (fun s=>Xy (fun a x=>Za (AS Tryz.prog s 69 a x))),[.var 4,.loc 0],.push,[]⟩]
def QY:Aa:=(.seq (.ops bZ) (.ops bh))
def QZ:Aa:=(.block 3 (.seq (.ops bj) (.seq (.ops VZ) (.ops Va))))
def Oy:Code:=(FX 173 0).1
def Oz:Code:=(FX 173 0).2
theorem bR:EI Tryz.prog 173 Oy=some QY:=by kernel_rfl
theorem bS:EI Tryz.prog 173 Oz=some QZ:=by kernel_rfl
theorem Tj:De Tryz.prog 173=[0,2,4,5,6,7,8,9,10,11,12,17,18,19]:=by kernel_rfl
def Vb:List AA:=[
 ⟨none,.r1 (fun s a=>AC Tryz.prog s 22 a),[.var 3],.push,[]⟩,
 ⟨none,.r1 (fun s a=>AC Tryz.prog s 69 a),[.var 4],.push,[]⟩,
 ⟨none,.r1 (fun s x=>Ax Tryz.prog s 69 76 x),[.loc 0],.push,[]⟩,
 ⟨none,.mk (fun l=>(Ad Tryz.prog 22 1 (zipIdx [0] l)).bind fun r=>some (r,.slice 1)),[.loc 0],.push,[]⟩,
 ⟨none,.e (fun s l=>Ar Tryz.prog s [22,22] l),[.loc 3,.loc 0],.push,[]⟩,
 ⟨none,.p1 some,[.loc 0],(.set 1),[]⟩]
def Vc:List AA:=[
 ⟨none,.p2 (AL Tryz.prog .add 3),[(.var 9),(.const (.int .i64 (1)))],.push,[]⟩,
 ⟨none,.p1 some,[.loc 0],(.set 9),[]⟩]
def Ix:Aa:=(.seq (.ops Ti) (.seq (.cond (.var 10)
 .skip
 (.exit 0)) (.seq (.block 1 (.seq (.ops bV) (.seq (.ops bW) (.seq (.ops bX) (.seq (.seq (.ops bY) (.block 2 (.rangeFunc 173 (.var 11) #[18,19] Oy Oz))) (.ops Vb)))))) (.ops Vc))))
def Vd:List AA:=[
 ⟨none,.p1 some,[.var 1],.push,[]⟩,
 ⟨none,.call 92,[.loc 0],.push,[]⟩,
 ⟨none,.p1 some,[.loc 0],(.set 1),[]⟩]
def uf:Ah:=⟨1,14,(.seq (.ops bT) (.seq (.seq (.ops bU) (.block 0 (.loop Ix))) (.seq (.ops Vd) .ret))),[((.var 1),none)]⟩
def aj:List AA:=[
 ⟨none,.p1 some,[(.const (.slice none 0 (some 0)))],(.set 2),[]⟩]
def ak:List AA:=[
 ⟨none,.mk (fun l=>(Ad Tryz.prog 196 2 (zipIdx [0,1] l)).bind fun r=>some (r,.slice 2)),[.var 0,.var 1],.push,[]⟩,
 ⟨none,.call 173,[.loc 0],.push,[]⟩,
 ⟨none,.p1 some,[.loc 0],(.set 2),[]⟩]
def ud:Ah:=⟨2,3,(.seq (.ops aj) (.seq (.ops ak) .ret)),[((.var 2),none)]⟩
def az:List AA:=[
 ⟨none,.p1 some,[(.const (.slice none 0 (some 0)))],(.set 2),[]⟩,
 ⟨none,.p1 some,[(.const (.bool false))],(.set 3),[]⟩]
def bA:List AA:=[
 ⟨none,.call 93,[.var 0,.var 1],.push,[]⟩,
 ⟨none,.p2 (AL Tryz.prog .lss 3),[(.loc 0),(.const (.int .i64 (0)))],(.set 9),[]⟩]
def bB:List AA:=[
 ⟨none,.p1 some,[(.const (.slice none 0 (some 0)))],(.set 2),[]⟩,
 ⟨none,.p1 some,[(.const (.bool false))],(.set 3),[]⟩]
def bC:List AA:=[
 ⟨none,.mk (fun l=>match l with | []=>Ag Tryz.prog 22 | _=>none),[],(.set 4),[]⟩]
def bD:List AA:=[
 ⟨none,.mk (fun l=>match l with | []=>Ag Tryz.prog 69 | _=>none),[],(.set 5),[]⟩,
 ⟨none,.e (fun s=>Xy (fun a x=>Za (AS Tryz.prog s 69 a x))),[(.var 5),(.const (.int .u64 (0)))],.push,[]⟩]
def bE:List AA:=[
 ⟨none,.call 174,[.var 0,.var 1],(.set 10),[]⟩]
def bF:List AA:=[
 ⟨none,.p1 some,[.var 11],(.set 6),[]⟩]
def bG:List AA:=[
 ⟨none,.p1 some,[.var 12],(.set 7),[]⟩]
def bH:List AA:=[
 ⟨none,.p2 (AL Tryz.prog .sub 69),[.var 6,.var 7],.push,[]⟩,
 ⟨none,.r1 (fun s a=>AC Tryz.prog s 69 a),[.var 5],.push,[]⟩,
 ⟨none,.p2 (AL Tryz.prog .sub 69),[.loc 1,.loc 0],.push,[]⟩,
 ⟨none,.p1 some,[.loc 0],(.set 8),[]⟩]
def bI:List AA:=[
 ⟨none,.r1 (fun s a=>AC Tryz.prog s 22 a),[.var 4],.push,[]⟩,
 ⟨none,.p2 (AL Tryz.prog .and 69),[(.var 8),(.const (.int .u64 (4294967295)))],.push,[]⟩,
 ⟨none,.r1 (fun s x=>Ax Tryz.prog s 69 76 x),[.loc 0],.push,[]⟩,
 ⟨none,.mk (fun l=>(Ad Tryz.prog 22 1 (zipIdx [0] l)).bind fun r=>some (r,.slice 1)),[.loc 0],.push,[]⟩,
 ⟨none,.e (fun s l=>Ar Tryz.prog s [22,22] l),[.loc 3,.loc 0],.push,[]⟩,
 ⟨none,.e (fun s=>Xy (fun a x=>Za (AS Tryz.prog s 22 a x))),[.var 4,.loc 0],.push,[]⟩]
def VX:List AA:=[
 ⟨none,.p2 (AL Tryz.prog .shr 69),[(.var 8),(.const (.int .u64 (63)))],.push,[]⟩,
 ⟨none,.e (fun s=>Xy (fun a x=>Za (AS Tryz.prog s 69 a x))),[.var 5,.loc 0],.push,[]⟩]
def QV:Aa:=(.seq (.ops bF) (.ops bG))
def QW:Aa:=(.block 1 (.seq (.ops bH) (.seq (.ops bI) (.ops VX))))
def Ow:Code:=(FX 154 0).1
def Ox:Code:=(FX 154 0).2
theorem ao:EI Tryz.prog 154 Ow=some QV:=by kernel_rfl
theorem aq:EI Tryz.prog 154 Ox=some QW:=by kernel_rfl
theorem Th:De Tryz.prog 154=[0,1,4,5,6,7,8,9,10,14,17,18,19]:=by kernel_rfl
def VY:List AA:=[
 ⟨none,.r1 (fun s a=>AC Tryz.prog s 22 a),[.var 4],.push,[]⟩,
 ⟨none,.call 92,[.loc 0],.push,[]⟩,
 ⟨none,.p1 some,[.loc 0],(.set 2),[]⟩,
 ⟨none,.p1 some,[(.const (.bool true))],(.set 3),[]⟩]
def ue:Ah:=⟨2,13,(.seq (.ops az) (.seq (.seq (.ops bA) (.cond (.var 9)
 (.seq (.ops bB) .ret)
 .skip)) (.seq (.ops bC) (.seq (.ops bD) (.seq (.seq (.ops bE) (.block 0 (.rangeFunc 154 (.var 10) #[18,19] Ow Ox))) (.seq (.ops VY) .ret)))))),[((.var 2),none),((.var 3),none)]⟩
theorem jU:AO Tryz.prog 174=some ug:=by kernel_rfl
theorem jV:AO Tryz.prog 187=some rN:=by kernel_rfl
theorem jW:AO Tryz.prog 188=some uh:=by kernel_rfl
theorem jT:AO Tryz.prog 173=some uf:=by kernel_rfl
theorem jR:AO Tryz.prog 153=some ud:=by kernel_rfl
theorem jS:AO Tryz.prog 154=some ue:=by kernel_rfl
end
end Go.Proofs.YtjnkfbpadpmakaaGreatDoor.Am
set_option linter.unusedVariables false
set_option linter.unusedSimpArgs false
set_option maxRecDepth 12000
namespace Go.Proofs.YtjnkfbpadpmakaaGreatDoor.Am
open Go Go.Proofs
noncomputable section
theorem Mx(k:IntKind):B7 k k=true:=by cases k<;>rfl
theorem YS(a:Nat):Nat.beq a a=true:=Fe rfl
theorem BJ(a:Option (Nat×Nat))(n:Nat)(cap:Option Nat):Fl (.slice a n cap) (.slice a n cap)=true:=by
 cases a<;>cases cap<;>simp[Fl]
theorem Vx(f:FuncId):Fl (.func f [] []) (.func f [] [])=true:=by simp[Fl,Fl.eqAs]
theorem As{s:AE}{loc var:List AV}{f:AE→AV→Option AV}{x ans:CX}(h:f s (DK loc var x)=some (DK loc var ans))(he:Fl (DK loc var ans) (DK loc var ans)=true):Fd s loc var ⟨none,.r1 f,[x],ans⟩=true:=by
 unfold Fd
 show(!true || OB (f s (DK loc var x)) (DK loc var ans))=true
 rw[h]
 exact he
section
variable{E:CU}{s:AE}
theorem V9(hE:GoodN E){a:Option (Nat×Nat)}{ca:Option Nat}{b:Nat}{la:List Nat}(hc:AU b s a (us la))(hs:Be la){i:Nat}{K:AV→AE→Prop}(hK:K (Aj (la.getD i 0)) s):
  WF E 187 [.slice a la.length ca,iv (i:Int)] K s:=by
 refine hE.go jV (by decide) rfl ?_
 rcases xf i la.length with h | h
 ·have hx:la[i]? = some la[i]:=xe h
  rw[zG,hx]at hK
  generalize la[i]=x at hx hK
  obtain⟨pi,o,rfl,_,hload⟩:=hc i _ (DE hx)
  have dd:decide ((la.length:Int)≤(i:Int))=false:=decide_eq_false (by omega)
  have e1:=Ae (cap:=ca) (i:=pi) (o:=o) Tryz.underlying22 Cx h
  have e2:AC Tryz.prog s 76 (.ptr (some (pi,o+i * 1)))=some (Aw x):=Bd Gq (by rw[xj];exact hload)
  have e3:=Bz (s:=s) (hs x (yG hx))
  simp only[rN,Tl,Tm,cI,AH Tryz.underlying22,Wb,dd,e1,e2,e3,Qa,Qb,Qc,Qd,Qf,Qh,Qi,Qj,Qk,Ql,Qm,Qo,true_and,Qp,Qq,Qr,Qs,Qt,Qv,Ra,Rb,Rc,Rh,Rj,Rk,Rm,Rn,Yc,Wb]
  exact hK
 ·have dd:decide ((la.length:Int)≤(i:Int))=true:=decide_eq_true (by omega)
  rw[zG,xr h]at hK
  simp only[rN,Tl,Tm,cH,AH Tryz.underlying22,Wb,dd,Qa,Qb,Qc,Qd,Qf,Qh,Qi,Qj,Qk,Ql,Qm,Qo,true_and,Qp,Qq,Qr,Qs,Qt,Qv,Qz,Rb,Rc,Rh,Rj,Rk,Rm,Rn,Yc,Wb]
  exact hK
def VG(v:AV):BD:=R 22 0 false [v]
def t8:BD:=R 197 0 false [.func 187 [] []]
theorem SP(hE:GoodN E){va vb:AV}(hca:va.cells=[va])(hcb:vb.cells=[vb]){K:AV→AE→Prop}
  (hK:∀s',s'.next=s.next+3→(∀j,j<s.next→s'.heap.get j=s.heap.get j)→s'.heap.get s.next=some (VG va)→s'.heap.get (s.next+1)=some (VG vb)→s'.heap.get (s.next+2)=some t8 →
   K (.func 188 [] [.ptr (some (s.next,0)),.ptr (some (s.next+1,0)),.ptr (some (s.next+2,0))]) s'):WF E 174 [va,vb] K s:=by
 refine hE.go jU (by decide) rfl ?_
 have hz:Ag Tryz.prog 197=some (R 197 0 false [.nilFunc],.ptr):=by kernel_rfl
 have hsz:BG Tryz.prog 197=some 1:=by kernel_rfl
 have n1:(newObj s (R 22 0 false [va])).next=s.next+1:=rfl
 have n2:(newObj (newObj s (R 22 0 false [va])) (R 22 0 false [vb])).next=s.next+2:=rfl
 have hg:(newObj (newObj (newObj s (R 22 0 false [va])) (R 22 0 false [vb])) (R 197 0 false [.nilFunc])).heap.get (s.next+2)=some (R 197 0 false [.nilFunc]):=by
  rw[AW,if_pos n2.symm]
 have hst:=Bn (P:=Tryz.prog) (t:=197) (o:=0) (v:=.func 187 [] []) hsz hg (by simp) rfl
 simp only[zF]at hst
 simp only[ug,bk,bl,bo,Xa,hca,hcb,hz,Xc,n1,n2,hst,Xy,Za,zD,yx,Qa,Qb,Qc,Qd,Qf,Qh,Qi,Qj,Qk,Ql,Qm,Qo,true_and,Qp,Qq,Qr,Qs,Qt,Qv,Rb,Rh,Rj,Rk,Rm,Rn,Yc]
 refine hK _ rfl (fun j hj=>?_) ?_ ?_ (Ww _ _ _)
 ·rw[Wx _ (by omega),AW,if_neg (by rw[n2];omega),AW,if_neg (by rw[n1];omega),AW,if_neg (by omega)]
 ·rw[Wx _ (by omega),AW,if_neg (by rw[n2];omega),AW,if_neg (by rw[n1];omega),AW,if_pos rfl];rfl
 ·rw[Wx _ (by omega),AW,if_neg (by rw[n2];omega),AW,if_pos n1.symm];rfl
structure PK(n0 p:Nat)(s0 s:AE):Prop where
 next:s0.next≤s.next
 low:∀j,j<n0→s.heap.get j=s0.heap.get j
 a:s.heap.get p=s0.heap.get p
 b:s.heap.get (p+1)=s0.heap.get (p+1)
 l:s.heap.get (p+2)=s0.heap.get (p+2)
theorem PK.refl(n0 p:Nat)(s:AE):PK n0 p s s:=⟨xZ _,fun _ _=>rfl,rfl,rfl,rfl⟩
theorem PK.trans{n0 p:Nat}{s0 s1 s2:AE}(h:PK n0 p s0 s1)(k:PK n0 p s1 s2):PK n0 p s0 s2:=
 ⟨xh h.next k.next,fun j hj=>(k.low j hj).trans (h.low j hj),k.a.trans h.a,k.b.trans h.b,k.l.trans h.l⟩
theorem N2(hE:GoodN E){s0:AE}{n0 p l:Nat}{a b:Option (Nat×Nat)}{ca cb:Option Nat}{la lb:List Nat}(hla:la.length≤10000000000)(hlb:lb.length≤10000000000)(hsa:Be la)(hsb:Be lb)
  (hca:AU n0 s0 a (us la)) (hcb:AU n0 s0 b (us lb)) (h1:s0.heap.get p=some (VG (.slice a la.length ca))) (h2:s0.heap.get (p+1)=some (VG (.slice b lb.length cb))) (h3:s0.heap.get (p+2)=some t8)
  (LI:Nat→AE→Prop) (hLI:∀k s,LI k s→PK n0 p s0 s)
  (hround:∀ (k:Nat) (s:AE) (K:AV→AE→Prop),k<max la.length lb.length→LI k s→(∀s',LI (k+1) s'→K (.bool true) s')→WR E l [Aj (la.getD k 0),Aj (lb.getD k 0)] K s)
  {K:AV→AE→Prop} (h0:LI 0 s) (hend:∀v s',LI (max la.length lb.length) s'→K v s'):
  WF E 188 [.yield l,.ptr (some (p,0)),.ptr (some (p+1,0)),.ptr (some (p+2,0))] K s:=by
 have hag:EF Tryz.prog 197=some false:=by kernel_rfl
 have lda:∀ {s':AE},PK n0 p s0 s'→AC Tryz.prog s' 22 (.ptr (some (p,0)))=some (.slice a la.length ca):=fun h=>AI CA (h.a.trans h1) rfl
 have ldb:∀ {s':AE},PK n0 p s0 s'→AC Tryz.prog s' 22 (.ptr (some (p+1,0)))=some (.slice b lb.length cb):=fun h=>AI CA (h.b.trans h2) rfl
 have ldl:∀ {s':AE},PK n0 p s0 s'→AC Tryz.prog s' 197 (.ptr (some (p+2,0)))=some (.func 187 [] []):=fun h=>AI hag (h.l.trans h3) rfl
 have hmm:Ct true (iv (la.length:Int)) [iv (lb.length:Int)]=some (iv ((max la.length lb.length:Nat):Int)):=by
  simp only[Ct,Mx,AP,cond_true]
  congr 2
  cases hlt:NE (la.length:Int) (lb.length:Int)with
  | true=>rw[DD]at hlt;have:=of_decide_eq_true hlt;simp only[cond_true];omega
  | false=>rw[DD]at hlt;have:=of_decide_eq_false hlt;simp only[cond_false];omega
 refine hE.go jW (by decide) rfl ?_
 simp only[uh,cJ,lda (hLI 0 s h0),ldb (hLI 0 s h0),AH Tryz.underlying22,hmm,Qa,Qb,Qc,Qd,Qf,Qh,Qi,Qj,Qk,Ql,Qm,Qo,true_and,Qp,Qq,Qr,Qs,Qt,Qv,Rb]
 generalize hM:max la.length lb.length=M at *
 have hMle:M≤10000000000:=by omega
 have key:∀ (m k:Nat) (S:AE) (x4 x7 x8:AV),k+m=M→LI k S→WC E none (.loop Lk) (fun r=>(r.exit=.exit 0∧r.marks=[]∧LI M r.st)) [.yield l,.ptr (some (p,0)),.ptr (some (p+1,0)),.ptr (some (p+2,0)),x4,iv (M:Int),iv (k:Int),x7,x8] [] S:=by
  intro m
  induction m with
  | zero =>
   intro k S x4 x7 x8 hk hS
   have e:k=M:=by omega
   subst e
   have dd:decide ((k:Int)<(k:Int))=false:=decide_eq_false (by omega)
   refine WC.loop' ?_
   simp only[Lk,Tn,Ry,dd,Qa,Qb,Qc,Qd,Qf,Qh,Qj,Qm,Qo,true_and,Qp,Qq,Qr,Qs,Qt,Qv,Ra,Rb,Rc,Rd,Re,Rf,Ry]
   exact hS
  | succ m ih =>
   intro k S x4 x7 x8 hk hS
   have dd:decide ((k:Int)<(M:Int))=true:=decide_eq_true (by omega)
   have pk:=hLI k S hS
   have l1:=lda pk
   have l2:=ldb pk
   have l3:=ldl pk
   have e17:=Az Tryz.prog 3 (k:Int) 1 ⟨by omega,by omega⟩
   have e17':((k:Int)+1)=((k+1:Nat):Int):=by omega
   refine WC.loop' ?_
   generalize hW:WC E none (Aa.loop Lk) _=WW
   simp only[Lk,Tn,cK,cL,Ry,dd,l1,l2,l3,Qa,Qb,Qc,Qd,Qe,Qf,Qh,Qj,Qk,Qm,Qo,true_and,Qp,Qq,Qr,Qs,Qt,Qv,Qz,Rb,Rc,Rd,Re,Rf,Ry]
   have ca':AU n0 S a (us la):=hca.old ⟨pk.next,pk.low⟩ (xZ _)
   have cb':AU n0 S b (us lb):=hcb.old ⟨pk.next,pk.low⟩ (xZ _)
   refine V9 hE ca' hsa ?_
   refine⟨⟨As (by simp only[Qj,Qk,Qr,Qs];exact l2) (BJ _ _ _),As (by simp only[Qj,Qk,Qr,Qs];exact l3) (Vx _),trivial⟩,?_⟩
   simp only[Qr,Qs]
   refine V9 hE cb' hsb ?_
   simp only[Qd,Qo,true_and,Qr,Qs]
   refine hround k S _ (by omega) hS fun s' hs'=>?_
   simp only[cM,We,Bool.not_true,e17,e17',Qb,Qc,Qd,Qf,Qh,Qi,Qj,Qk,Qm,Qo,true_and,Qp,Qq,Qr,Qs,Qt,Qv,Ra,Ya,We]
   rw[← hW]
   exact ih (k+1) s' _ _ _ (by omega) hs'
 refine(key M 0 s _ _ _ (by omega) h0).mono ?_
 rintro⟨e,v,m,s'⟩ ⟨q1,q0,q2⟩
 simp only at q1 q0 q2
 subst q0
 subst q1
 simp only[if_true,Qm,Rg,Ri,Rj,Rk,Ro]
 exact hend _ _ q2
end
end
end Go.Proofs.YtjnkfbpadpmakaaGreatDoor.Am
set_option linter.unusedVariables false
set_option linter.unusedSimpArgs false
set_option maxRecDepth 16000
namespace Go.Proofs.YtjnkfbpadpmakaaGreatDoor.Am
open Go Go.Proofs
noncomputable section
theorem Mi{a b:List Nat}{k:Nat}(h:k<max a.length b.length):(CJ a b)[k]? = some (a.getD k 0,b.getD k 0):=by
 unfold CJ
 rw[yY,A0F h];rfl
theorem Mj(a b:List Nat):(CJ a b).length=max a.length b.length:=by simp[CJ]
theorem Hf{a:List Nat}(h:Be a)(k:Nat):a.getD k 0<4294967296:=by
 rw[zG]
 rcases xf k a.length with h' | h'
 ·rw[xe h'];exact h _ (zQ h')
 ·rw[xr h'];exact(by decide)
theorem Xb{a b:List Nat}(ha:Be a)(hb:Be b):∀p∈CJ a b,p.1<LB∧p.2<LB:=fun p hp=>by
 unfold CJ at hp
 obtain⟨i,_,rfl⟩:=List.mem_map.1 hp
 exact⟨Hf ha i,Hf hb i⟩
def MP (v0 v1 v2 x5 x6 x7 x8 x9 x10:AV) (n0:Nat) (x12 x13:AV):Df:=
 Hi 173 [v0,v1,v2,.ptr (some (n0,0)),.ptr (some (n0+1,0)),x5,x6,x7,x8,x9,x10,.func 188 [] [.ptr (some (n0+2,0)),.ptr (some (n0+2+1,0)),.ptr (some (n0+2+2,0))],x12,x13] #[18,19] Oy Oz (n0+5)
structure rC(n0:Nat)(s0:AE)(lo:Df)(P:List (Nat×Nat))(T:List Nat×Nat)(k:Nat)(s:AE):Prop where
 pk:PK n0 (n0+2) s0 s
 lt:n0+7≤s.next
 lp:Bb s (n0+6)=some lo
 mrk:s.heap.get (n0+5)=some .mark
 ex:∃vo d O c,s.heap.get n0=some (R 22 0 false [vo])∧s.heap.get (n0+1)=some (R 69 0 false [Aj c])∧CM 76 s vo d.length 1 (us d) O∧(∀j∈O,n0+7≤j)∧(∀j,By vo=some j→n0+7≤j)∧d.length=k∧c≤1∧(d++(Ea (P.drop k) c).1,(Ea (P.drop k) c).2)=T
section
variable{E:CU}{s:AE}
theorem X5(hE:GoodN E){n0:Nat}{s0:AE}{v0 v1 v2 x5 x6 x7 x8 x9 x10 x12 x13:AV}{P:List (Nat×Nat)}(hPl:P.length≤10000000000){T:List Nat×Nat}{k x y:Nat}(hP:P[k]? = some (x,y))(hx:x<4294967296)(hy:y<4294967296)
    (hI:rC n0 s0 (MP v0 v1 v2 x5 x6 x7 x8 x9 x10 n0 x12 x13) P T k s) {K:AV→AE→Prop} (hK:∀s',rC n0 s0 (MP v0 v1 v2 x5 x6 x7 x8 x9 x10 n0 x12 x13) P T (k+1) s'→K (.bool true) s'):
    WR E (n0+6) [Aj x,Aj y] K s:=by
  obtain⟨pk,hlt,hlp,hmk,vo,d,O,c,g1,g2,hD,hO,hsl,hdl,hc,hT⟩:=hI
  have hz:DY (De E.P 173) (MP v0 v1 v2 x5 x6 x7 x8 x9 x10 n0 x12 x13).var [18,19] [Aj x,Aj y]=some [v0,v1,v2,.ptr (some (n0,0)),.ptr (some (n0+1,0)),x5,x6,x7,x8,x9,x10,.func 188 [] [.ptr (some (n0+2,0)),.ptr (some (n0+2+1,0)),.ptr (some (n0+2+2,0))],Aj x,Aj y]:=by
    rw[hE.P,Tj];rfl
  refine WR.round hlp hz (by rw[hE.P];exact bR) (by rw[hE.P];exact bS) ?_
  refine EY ?_
  simp only[QY,bZ,bh,Qa,Qb,Qc,Qd,Qf,Qh,Qj,Qm,Qo,true_and,Qp,Qq,Qr,Qs,Qt,Qv,Rb]
  refine⟨_,hlp,rfl,EY ?_⟩
  generalize hs1:setObj s (n0+6) _=s1
  have n1:s1.next=s.next:=by rw[← hs1];rfl
  have f1:∀j,j≠n0+6→s1.heap.get j=s.heap.get j:=fun j hj=>by rw[← hs1,Wx _ hj]
  have l1:Bb s1 (n0+6)=some { MP v0 v1 v2 x5 x6 x7 x8 x9 x10 n0 x12 x13 with state:=.busy }:=by rw[← hs1,DO]
  have g1':=(f1 n0 (by omega)).trans g1
  have g2':=(f1 (n0+1) (by omega)).trans g2
  have hD1:CM 76 s1 vo d.length 1 (us d) O:=hD.frame (ya n1.symm) (fun j hj=>f1 j (by have:=hsl j hj;omega))
  have hdk:P.drop k=(x,y)::P.drop (k+1):=by
    have hk:k<P.length:=(List.getElem?_eq_some_iff.1 hP).1
    rw[yV hk]
    rw[xe hk]at hP
    rw[Option.some.inj hP]
  have hkP:k<P.length:=(List.getElem?_eq_some_iff.1 hP).1
  rw[hdk]at hT
  simp only[Ea]at hT
  have hLB:LB=4294967296:=rfl
  rw[hLB,show x+y+c=c+(x+y) by omega]at hT
  have e1:=IE Tryz.prog 69 (a:=x) (b:=y) (by omega)
  have e2:=IE Tryz.prog 69 (a:=c) (b:=x+y) (by omega)
  generalize hc1:c+(x+y)=c1 at hT e2
  have hc1b:c1<18446744073709551616:=by omega
  have e3:=Kn Tryz.prog 69 hc1b
  have e11:c1 % 4294967296 % 4294967296=c1 % 4294967296:=zZ _ _
  have e15:AL Tryz.prog .shr 69 (Aj c1) (.int .u64 32)=some (Aj (c1 / 4294967296)):=JZ Tryz.prog 69 (k:=.u64) (n:=32) (by decide)
  have hcq:c1 / 4294967296≤1:=by omega
  generalize hz:c1 % 4294967296=z at hT e3 e11
  have ld2:AC Tryz.prog s1 69 (.ptr (some (n0+1,0)))=some (Aj c):=AI YK g2' rfl
  have st2:=Bn (P:=Tryz.prog) (t:=69) (o:=0) (v:=Aj c1) gi g2' (by simp) rfl
  simp only[zF]at st2
  generalize hs2:setObj s1 (n0+1) (R 69 0 false [Aj c1])=s2 at st2
  have n2:s2.next=s1.next:=by rw[← hs2];rfl
  have f2:∀j,j≠n0+1→s2.heap.get j=s1.heap.get j:=fun j hj=>by rw[← hs2,Wx _ hj]
  have g22:s2.heap.get (n0+1)=some (R 69 0 false [Aj c1]):=by rw[← hs2,Ww]
  have ld22:AC Tryz.prog s2 69 (.ptr (some (n0+1,0)))=some (Aj c1):=AI YK g22 rfl
  have g12:=(f2 n0 (by omega)).trans g1'
  have ld12:AC Tryz.prog s2 22 (.ptr (some (n0,0)))=some vo:=AI CA g12 rfl
  have hD2:CM 76 s2 vo d.length 1 (us d) O:=hD1.frame (ya n2.symm) (fun j hj=>f2 j (by have:=hsl j hj;omega))
  obtain⟨v',s3,O',happ,hD3,hn3,f3,hO3,hsl3⟩:=JJ hD2 z (by omega)
  have happ':Ar Tryz.prog (newObj s2 (R 76 1 false [.int .u32 z])) [22,22] [vo,.slice (some (s2.next,0)) 1 (some 1)]=some (v',s3):=happ
  have g13:s3.heap.get n0=some (R 22 0 false [vo]):=(f3 n0 (by omega) (fun h=>by have:=hO n0 h;omega)).trans g12
  have g23:s3.heap.get (n0+1)=some (R 69 0 false [Aj c1]):=(f3 (n0+1) (by omega) (fun h=>by have:=hO _ h;omega)).trans g22
  have hv'c:v'.isCell=true:=by obtain⟨a,cap,rfl,_⟩:=hD3.cells;rfl
  have st3:=Bn (P:=Tryz.prog) (t:=22) (o:=0) (v:=v') P1 g13 (by simp) hv'c
  simp only[zF]at st3
  generalize hs4:setObj s3 n0 (R 22 0 false [v'])=s4 at st3
  have n4:s4.next=s3.next:=by rw[← hs4];rfl
  have f4:∀j,j≠n0→s4.heap.get j=s3.heap.get j:=fun j hj=>by rw[← hs4,Wx _ hj]
  have g24:=(f4 (n0+1) (by omega)).trans g23
  have ld24:AC Tryz.prog s4 69 (.ptr (some (n0+1,0)))=some (Aj c1):=AI YK g24 rfl
  have st4:=Bn (P:=Tryz.prog) (t:=69) (o:=0) (v:=Aj (c1 / 4294967296)) gi g24 (by simp) rfl
  simp only[zF]at st4
  generalize hs5:setObj s4 (n0+1) (R 69 0 false [Aj (c1 / 4294967296)])=s5 at st4
  have n5:s5.next=s4.next:=by rw[← hs5];rfl
  have f5:∀j,j≠n0+1→s5.heap.get j=s4.heap.get j:=fun j hj=>by rw[← hs5,Wx _ hj]
  have fall:∀j,j<s.next→j ∉ O→j≠n0→j≠n0+1→s5.heap.get j=s1.heap.get j:=fun j hj h1 h2 h3=>by
    rw[f5 j h3,f4 j h2,f3 j (by omega) h1,f2 j h3]
  have l5:Bb s5 (n0+6)=some { MP v0 v1 v2 x5 x6 x7 x8 x9 x10 n0 x12 x13 with state:=.busy }:=by
    rw[Dy (fall (n0+6) (by omega) (fun h=>by have:=hO _ h;omega) (by omega) (by omega))];exact l1
  simp only[QZ,bj,VZ,Va,e1,e2,ld2,st2,ld12,ld22,e3,CL,e11,GZ,Xe,happ',st3,ld24,e15,st4,Xy,Za,Qa,Qb,Qc,Qd,Qf,Qh,Qi,Qj,Qk,Qm,Qo,true_and,Qr,Qs,Qt,Qv,Rb,Re,Yc]
  refine⟨_,l5,hK _ ?_⟩
  have fl:∀j,j≠n0+6→∀r,(setObj s5 (n0+6) r).heap.get j=s5.heap.get j:=fun j hj r=>Wx _ hj
  have hlow:∀j,j<n0+6→j≠n0→j≠n0+1→∀r,(setObj s5 (n0+6) r).heap.get j=s.heap.get j:=fun j h1 h2 h3 r=>by
    rw[fl j (by omega),fall j (by omega) (fun h=>by have:=hO _ h;omega) h2 h3,f1 j (by omega)]
  refine⟨pk.trans ⟨?_,fun j hj=>hlow j (by omega) (by omega) (by omega) _,hlow _ (by omega) (by omega) (by omega) _,hlow _ (by omega) (by omega) (by omega) _,hlow _ (by omega) (by omega) (by omega) _⟩,?_,?_,?_,v',d++[z],O',c1 / 4294967296,?_,?_,?_,fun j hj=>?_,fun j hj=>?_,?_,hcq,?_⟩
  · show s.next≤s5.next;omega
  · show n0+7≤s5.next;omega
  · rw[DO];rfl
  · rw[hlow _ (by omega) (by omega) (by omega)];exact hmk
  · rw[fl n0 (by omega),f5 n0 (by omega),← hs4,Ww]
  · rw[fl (n0+1) (by omega),← hs5,Ww]
  · refine hD3.frame (by show s3.next≤s5.next;omega) (fun j hj=>?_)
    have hj7:n0+7≤j:=by
      rcases hsl3 j hj with h | h
      · exact hsl j h
      · omega
    rw[fl j (by omega),f5 j (by omega),f4 j (by omega)]
  · rcases hO3 j hj with h | h
    · exact hO j h
    · omega
  · rcases hsl3 j hj with h | h
    · exact hsl j h
    · omega
  · rw[xp,hdl];rfl
  · rw[yW];exact hT
end
theorem NR.keep{b:Nat}{s s':AE}{v:AV}{l:List Nat}(h:NR b s v l)(hn:s.next≤s'.next)(hf:∀j,By v=some j→s'.heap.get j=s.heap.get j):NR b s' v l:=by
 obtain⟨O,h1,h2,h3,h4⟩:=h
 exact⟨O,h1.frame hn hf,h2,h3,fun hne=>by obtain⟨i,q1,q2,q3⟩:=h4 hne;exact⟨i,q1,xi q2 hn,q3.keep (hf i (by rw[q1];rfl))⟩⟩
theorem FF:∀ (M:List Nat)(s:AE),M.Nodup→(∀m∈M,s.heap.get m=some .mark)→∃s',EV s M=some s'∧s'.next=s.next∧∀j,j ∉ M→s'.heap.get j=s.heap.get j
 | [],s,_,_=>⟨s,rfl,rfl,fun _ _=>rfl⟩
 | m::M,s,hn,hm=>by
  obtain⟨n1,n2⟩:=List.nodup_cons.1 hn
  obtain⟨s',h1,h2,h3⟩:=FF M (Cc s m) n2 (fun x hx=>by
   rw[G8,if_neg (fun(e:x=m)=>n1 (e▸hx))];exact hm x (yK _ hx))
  refine⟨s',?_,h2,fun j hj=>?_⟩
  ·show(match s.heap.get m with | some .mark=>EV (Cc s m) M | _=>none)=_
   rw[hm m yC]
   exact h1
  ·rw[h3 j (fun h=>hj (yK _ h)),G8,if_neg (fun(e:j=m)=>hj (e▸yC))]
structure NT(s:AE)(ri:Nat)(vs:List AV)(L:List (List Nat)):Prop where
 row:s.heap.get ri=some (R 22 1 false vs)
 len:vs.length=L.length
 rd:∀ (j:Nat) (v:AV) (l:List Nat),vs[j]? = some v→L[j]? = some l→Bo s v l
theorem NT.old{s s':AE}{ri:Nat}{vs:List AV}{L:List (List Nat)}(h:NT s ri vs L)(k:Af s.next s s')(hi:ri<s.next):NT s' ri vs L:=
 ⟨(k.2 ri hi).trans h.row,h.len,fun j v l h1 h2=>(h.rd j v l h1 h2).old k⟩
def HS:List (List Nat)→Nat
 | []=>0
 | l::L=>AG l+HS L
section
variable{E:CU}{s:AE}
theorem gh       (hE : GoodN E) {sA : AE}  {ri : Nat} {vs : List AV} {L : List (List Nat)} (hri : ri < sA.next) (hLl : L.length ≤ 1000) (hsm : ∀ l ∈ L, Be  l ∧ l.length ≤ 1000000000) {tot : Nat} {Q : Ay   → Prop} (x0 : AV)
    (hq:∀ (S:AE) (vD:AV) (D M:List Nat) (y2 y3 y4 y5 y6 y9 y10 y11 y12 y13:AV),Af sA.next sA S→Bo S vD D→Be D→D.length≤2000000000→AG D=tot→M.Nodup→(∀m∈M,sA.next≤m∧m<S.next∧S.heap.get m=some .mark) →
      Q ⟨.exit 0,[x0,vD,y2,y3,y4,y5,y6,.slice (some (ri,0)) L.length (some L.length),iv (L.length:Int),y9,y10,y11,y12,y13],M,S⟩):
    ∀ (r:List (List Nat)) (i:Nat) (S:AE) (vD:AV) (D M:List Nat) (x2 x3 x4 x5 x6 x10 x11 x12 x13:AV),L.drop i=r→i≤L.length→Af sA.next sA S→NT S ri vs L→Bo S vD D→Be D→D.length≤1000000000+i→AG D+HS r=tot→M.Nodup→(∀m∈M,sA.next≤m∧m<S.next∧S.heap.get m=some .mark) →
      WC E none (.loop Ix) Q [x0,vD,x2,x3,x4,x5,x6,.slice (some (ri,0)) L.length (some L.length),iv (L.length:Int),iv (i:Int),x10,x11,x12,x13] M S:=by
  intro r
  induction r with
  | nil =>
    intro i S vD D M x2 x3 x4 x5 x6 x10 x11 x12 x13 hd hi ho hR hN hs hl hv hM hm
    have e:i=L.length:=by
      have:=congrArg List.length hd
      simp at this
      omega
    subst e
    have dd:decide ((L.length:Int)<(L.length:Int))=false:=decide_eq_false (by omega)
    refine WC.loop' ?_
    simp only[Ix,Ti,Ry,dd,Qa,Qb,Qc,Qd,Qf,Qh,Qj,Qm,Qo,true_and,Qp,Qq,Qr,Qs,Qt,Qv,Ra,Rb,Rd,Re,Ry]
    exact hq S vD D M _ _ _ _ _ _ _ _ _ _ ho hN hs (by omega) (by simpa[HS]using hv) hM hm
  | cons A r ih =>
    intro i S vD D M x2 x3 x4 x5 x6 x10 x11 x12 x13 hd hi ho hR hN hs hl hv hM hm
    have hlt:i<L.length:=by
      rcases xf i L.length with h' | h'
      · exact h'
      · rw[yQ h']at hd;cases hd
    have hA:L[i]? = some A:=by
      have:=congrArg (fun l=>l[0]?) hd
      simpa using this
    have hd':L.drop (i+1)=r:=by
      have:=congrArg (List.drop 1) hd
      simpa[zC]using this
    obtain⟨hAs,hAl⟩:=hsm A (yG hA)
    have hva:vs[i]? = some (vs[i]'(by rw[hR.len];exact hlt)):=xe _
    generalize vs[i]'(by rw[hR.len];exact hlt)=va at hva
    have hNa:=hR.rd i va A hva hA
    have dd:decide ((i:Int)<(L.length:Int))=true:=decide_eq_true (by omega)
    have e1:=Ae (cap:=some L.length) (i:=ri) (o:=0) Tryz.underlying196 P1 hlt
    rw[xu,xj]at e1
    have e2:AC Tryz.prog S 22 (.ptr (some (ri,i)))=some va:=AI CA hR.row hva
    generalize hn0:S.next=n0 at *
    have za:Ag Tryz.prog 22=some (R 22 0 false [.slice none 0 (some 0)],.ptr):=by kernel_rfl
    have zc:Ag Tryz.prog 69=some (R 69 0 false [.int .u64 0],.ptr):=by kernel_rfl
    generalize hS1:newObj S (R 22 0 false [.slice none 0 (some 0)])=S1
    have n1:S1.next=n0+1:=by rw[← hS1,← hn0];rfl
    have o1:∀j,j<n0→S1.heap.get j=S.heap.get j:=fun j hj=>by rw[← hS1,AW,if_neg (by omega)]
    have g1:S1.heap.get n0=some (R 22 0 false [.slice none 0 (some 0)]):=by rw[← hS1,AW,if_pos hn0.symm]
    generalize hS2:newObj S1 (R 69 0 false [.int .u64 0])=S2
    have n2:S2.next=n0+2:=by rw[← hS2];show S1.next+1=_;omega
    have g2:S2.heap.get (n0+1)=some (R 69 0 false [.int .u64 0]):=by rw[← hS2,AW,if_pos n1.symm]
    have o2:∀j,j<n0+1→S2.heap.get j=S1.heap.get j:=fun j hj=>by rw[← hS2,AW,if_neg (by omega)]
    have st:=Bn (P:=Tryz.prog) (t:=69) (o:=0) (v:=.int .u64 0) gi g2 (by simp) rfl
    simp only[zF]at st
    generalize hS3:setObj S2 (n0+1) (R 69 0 false [.int .u64 0])=S3 at st
    have n3:S3.next=n0+2:=by rw[← hS3];exact n2
    have g3:S3.heap.get (n0+1)=some (R 69 0 false [Aj 0]):=by rw[← hS3,Ww];rfl
    have o3:∀j,j<n0+1→S3.heap.get j=S1.heap.get j:=fun j hj=>by rw[← hS3,Wx _ (by omega),o2 j hj]
    have o03:Af n0 S S3:=⟨by omega,fun j hj=>by rw[o3 j (by omega),o1 j hj]⟩
    obtain⟨aD,cD,eD,hcapD,hcD⟩:=hN
    obtain⟨aA,cA,eA,hcapA,hcA⟩:=hNa
    refine WC.loop' ?_
    generalize hW:WC E none (Aa.loop Ix) Q=WW
    simp only[Ix,Ti,bV,bW,bX,bY,Ry,dd,e1,e2,za,zc,Xc,hn0,hS1,n1,hS2,st,Xy,Za,Qa,Qb,Qc,Qd,Qf,Qh,Qi,Qj,Qk,Qm,Qo,true_and,Qp,Qq,Qr,Qs,Qt,Qv,Qz,Rb,Rd,Re,Ry]
    refine SP hE (by rw[eD];rfl) (by rw[eA];rfl) fun S4 n4 f4 b1 b2 b3=>?_
    rw[n3]at n4 f4 b1 b2 b3 ⊢
    subst eD;subst eA
    simp only[Qd,Qo,true_and,Qp,Qq]
    refine WC.range rfl ?_
    rw[show S4.next=n0+5 by omega]
    show WF E 188 [.yield (n0+6),.ptr (some (n0+2,0)),.ptr (some (n0+2+1,0)),.ptr (some (n0+2+2,0))] _ (newObj (newObj S4 .mark) (.loop (MP _ _ _ _ _ _ _ _ _ n0 _ _)))
    generalize hlo:MP _ _ _ _ _ _ _ _ _ n0 _ _=lo
    have hm1:(newObj S4 .mark).next=n0+6:=by show S4.next+1=_;omega
    generalize hs0:newObj (newObj S4 .mark) (.loop lo)=s0
    have n0':s0.next=n0+7:=by rw[← hs0];show S4.next+1+1=_;omega
    have f0:∀j,j<n0+5→s0.heap.get j=S4.heap.get j:=fun j hj=>by rw[← hs0,AW,if_neg (by omega),AW,if_neg (by omega)]
    have hmk0:s0.heap.get (n0+5)=some .mark:=by rw[← hs0,AW,if_neg (by omega),AW,if_pos (by omega)]
    have hlp0:Bb s0 (n0+6)=some lo:=by
      unfold Bb
      rw[← hs0,AW,if_pos hm1.symm]
    have o0:Af n0 S s0:=⟨by omega,fun j hj=>by rw[f0 j (by omega),f4 j (by omega),o3 j (by omega),o1 j hj]⟩
    have hPl:=Mj D A
    have hPv:=LW (CJ D A) 0
    rw[WX,WZ]at hPv
    have hPs:=GI (CJ D A) 0
    have hPn:=Ip (CJ D A) 0
    refine N2 hE (s0:=s0) (n0:=n0) (p:=n0+2) (l:=n0+6) (la:=D) (lb:=A) (ca:=cD) (cb:=cA) (a:=aD) (b:=aA) (by omega) (by omega) hs hAs ((hcD.old o0 (ya hn0)).mono (ya hn0)) ((hcA.old o0 (ya hn0)).mono (ya hn0)) ((f0 _ (by omega)).trans b1) ((f0 _ (by omega)).trans b2) ((f0 _ (by omega)).trans b3)
      (rC n0 s0 lo (CJ D A) (Ea (CJ D A) 0)) (fun k s h=>h.pk) (fun k s K hk hI hK=>by
        subst hlo
        exact X5 hE (by rw[hPl];omega) (Mi hk) (Hf hs k) (Hf hAs k) hI hK)
      ⟨PK.refl _ _ _,by omega,hlp0,hmk0,_,[],[],0,?_,?_,CM.nil s0 1,fun j hj=>(by cases hj),fun j hj=>(by cases hj),rfl,by omega,rfl⟩ (fun v s' hI=>?_)
    · rw[f0 n0 (by omega),f4 n0 (by omega),o3 n0 (by omega)];exact g1
    · rw[f0 (n0+1) (by omega),f4 (n0+1) (by omega)];exact g3
    obtain⟨pk,hlt',hlp,hmk,vo,d,O,c,k1,k2,hD,hO,hsl,hdl,hc,hT⟩:=hI
    rw[yQ (by rw[hPl];omega)]at hT
    simp only[Ea,zS]at hT
    rw[← hT]at hPv hPs hPn
    simp only at hPv hPs hPn
    refine⟨lo,hlp,by rw[← hlo];rfl,?_⟩
    have hpd:lo.pending=none:=by rw[← hlo];rfl
    rw[hpd]
    generalize hs6:setObj s' (n0+5+1) _=s6
    have n6:s6.next=s'.next:=by rw[← hs6];rfl
    have f6:∀j,j≠n0+6→s6.heap.get j=s'.heap.get j:=fun j hj=>by rw[← hs6,Wx _ (by omega)]
    have hD6:CM 76 s6 vo d.length 1 (us d) O:=hD.frame (ya n6.symm) (fun j hj=>f6 j (by have:=hsl j hj;omega))
    have ld1:AC Tryz.prog s6 22 (.ptr (some (n0,0)))=some vo:=AI CA ((f6 n0 (by omega)).trans k1) rfl
    have ld2:AC Tryz.prog s6 69 (.ptr (some (n0+1,0)))=some (Aj c):=AI YK ((f6 (n0+1) (by omega)).trans k2) rfl
    have ec:c % 4294967296=c:=by omega
    obtain⟨v',s7,O',happ,hD7,hn7,f7,hO7,hsl7⟩:=JJ hD6 c (by rw[hdl];omega)
    have happ':Ar Tryz.prog (newObj s6 (R 76 1 false [.int .u32 c])) [22,22] [vo,.slice (some (s6.next,0)) 1 (some 1)]=some (v',s7):=happ
    have e17:=Az Tryz.prog 3 (i:Int) 1 ⟨by omega,by omega⟩
    have e17':((i:Int)+1)=((i+1:Nat):Int):=by omega
    simp only[KO,Vb,Vc,ld1,ld2,CL,ec,GZ,Xe,happ',e17,e17',Qb,Qc,Qd,Qf,Qh,Qi,Qj,Qk,Qm,Qo,true_and,Qp,Qq,Qr,Qs,Qt,Qv,Rb,Re,Yc]
    rw[← hW]
    have hlow:∀j,j<n0+6→j≠n0→j≠n0+1→(j<n0∨j=n0+5)→s7.heap.get j=s'.heap.get j:=fun j h1 h2 h3 h4=>by
      rw[f7 j (by omega) (fun h=>by have:=hO j h;omega),f6 j (by omega)]
    have oS:Af n0 S s7:=⟨by omega,fun j hj=>by rw[hlow j (by omega) (by omega) (by omega) (.inl hj),pk.low j hj,o0.2 j hj]⟩
    have ho1:=ho.1
    have oS':Af S.next S s7:=by rw[hn0];exact oS
    refine ih (i+1) s7 v' (d++[c]) ((n0+5)::M) _ _ _ _ _ _ _ _ _ hd' hlt (ho.trans (oS.mono (by omega))) (hR.old oS' (by omega)) (CM.n32 hD7) ?_ ?_ ?_ ?_ ?_
    · exact hPs.append (fun x hx=>by rw[A0H.1 hx];exact yM hc (by decide))
    · rw[xp,hdl]
      show _+1≤_
      omega
    · rw[Bk]
      have e3:AG [c]=c:=by simp[AG]
      have hlen:d.length=(CJ D A).length:=by rw[hdl,hPl]
      rw[e3,hlen,hPv,← hv]
      show _=AG D+(AG A+HS r)
      omega
    · exact List.nodup_cons.2 ⟨fun h=>by have:=(hm _ h).2.1;omega,hM⟩
    · intro m hmm
      rcases List.mem_cons.1 hmm with rfl | h
      · exact⟨by omega,by omega,(hlow _ (by omega) (by omega) (by omega) (.inr rfl)).trans hmk⟩
      · obtain⟨q1,q2,q3⟩:=hm m h
        exact⟨q1,by omega,(oS.2 m q2).trans q3⟩
end
section
variable{E:CU}{s:AE}
theorem tg(hE:GoodN E){ri:Nat}{vs:List AV}{L:List (List Nat)}(hri:ri<s.next)(hR:NT s ri vs L)(hLl:L.length≤1000)(hsm:∀l∈L,Be l∧l.length≤1000000000){K:AV→AE→Prop}
  (hK:∀s' v,Af s.next s s'→NR s.next s' v (AJ (HS L))→K v s'):WF E 173 [.slice (some (ri,0)) L.length (some L.length)] K s:=by
 refine hE.go jT (by decide) rfl ?_
 simp only[uf,bT,bU,AH Tryz.underlying196,Qa,Qb,Qc,Qd,Qf,Qh,Qi,Qj,Ql,Qm,Qo,true_and,Qp,Qq,Qr,Qs,Qt,Qv,Rb,Rh,Rk,Rm,Rn,Yc]
 refine gh hE hri hLl hsm _ (tot:=HS L) (fun S vD D M y2 y3 y4 y5 y6 y9 y10 y11 y12 y13 ho hN hs hl hv hM hm=>?_) L 0 s _ [] [] _ _ _ _ _ _ _ _ _ rfl (xg _) (Af.refl _ _) hR (NR.n32 (NR.nil 0 s)) (fun x hx=>by cases hx) (xg _) (by simp[AG]) List.nodup_nil (fun m hm=>by cases hm)
 simp only[Vd,if_true,Qb,Qc,Qd,Qf,Qh,Qj,Qk,Qm,Qo,true_and,Qr,Qs,Qt,Qv,Rb,Rd,Rg]
 refine C6 hE hN (by omega) fun s2 v2 o2 r2=>?_
 rw[B0 hs,hv]at r2
 obtain⟨s3,u1,u2,u3⟩:=FF M s2 hM (fun m h=>by rw[o2.2 m (hm m h).2.1];exact(hm m h).2.2)
 simp only[u1,Qd,Qm,Qo,true_and,Qp,Qq,Qr,Qs]
 have h1:=ho.1
 have h2:=o2.1
 refine hK s3 v2 ⟨by omega,fun j hj=>?_⟩ ((r2.keep (by omega) (fun j hj=>u3 j (fun h=>?_))).mono h1)
 ·rw[u3 j (fun h=>by have:=(hm j h).1;omega),o2.2 j (by omega),ho.2 j hj]
 ·obtain⟨O,_,_,q,_⟩:=r2
  have:=q j hj
  have:=(hm j h).2.1
  omega
theorem gT(a b:Option (Nat×Nat))(ca cb:Option Nat)(n m:Nat):Ad Tryz.prog 196 2 (zipIdx [0,1] [.slice a n ca,.slice b m cb])=some (R 22 1 false [.slice a n ca,.slice b m cb]):=by kernel_rfl
theorem rD(hE:GoodN E){va vb:AV}{la lb:List Nat}(ha:Bo s va la)(hb:Bo s vb lb)(hla:la.length≤1000000000)(hlb:lb.length≤1000000000)(hsa:Be la)(hsb:Be lb){K:AV→AE→Prop}
    (hK:∀s' v,Af s.next s s'→NR s.next s' v (AJ (AG la+AG lb))→K v s'):WF E 153 [va,vb] K s:=by
  refine hE.go jR (by decide) rfl ?_
  have hrow:Ad Tryz.prog 196 2 (zipIdx [0,1] [va,vb])=some (R 22 1 false [va,vb]):=by
    obtain⟨a,ca,rfl,_⟩:=ha
    obtain⟨b,cb,rfl,_⟩:=hb
    exact gT _ _ _ _ _ _
  have ho:=Af.new s (R 22 1 false [va,vb])
  simp only[ud,aj,ak,hrow,Xe,Qa,Qb,Qc,Qd,Qf,Qh,Qi,Qj,Qk,Ql,Qm,Qo,true_and,Qp,Qq,Qr,Qs,Qt,Qv,Rb,Rh,Rj,Rk,Rm,Rn,Yc]
  have hR:NT (newObj s (R 22 1 false [va,vb])) s.next [va,vb] [la,lb]:=by
    refine⟨by rw[AW,if_pos rfl],rfl,fun j v l h1 h2=>?_⟩
    rcases j with _ | _ | j
    · cases h1;cases h2;exact ha.old ho
    · cases h1;cases h2;exact hb.old ho
    · cases h1
  refine tg hE (L:=[la,lb]) (yg _) hR (by simp) (fun l hl=>?_) fun s' v o' r'=>?_
  · rcases List.mem_cons.1 hl with rfl | hl
    · exact⟨hsa,hla⟩
    · rw[A0H.1 hl];exact⟨hsb,hlb⟩
  · have e:HS [la,lb]=AG la+AG lb:=by simp[HS]
    rw[e]at r'
    simp only[Qd,Qo,true_and,Qp,Qq,Qr,Qs]
    exact hK s' v (ho.trans (o'.mono ho.1)) (r'.mono ho.1)
end
def MN (v0 v1 v2 v3 x6 x7 x8 x9:AV) (n0:Nat) (x11 x12:AV):Df:=
 Hi 154 [v0,v1,v2,v3,.ptr (some (n0,0)),.ptr (some (n0+1,0)),x6,x7,x8,x9,.func 188 [] [.ptr (some (n0+2,0)),.ptr (some (n0+2+1,0)),.ptr (some (n0+2+2,0))],x11,x12] #[18,19] Ow Ox (n0+5)
structure rB(n0:Nat)(s0:AE)(lo:Df)(P:List (Nat×Nat))(T:List Nat×Nat)(k:Nat)(s:AE):Prop where
 pk:PK n0 (n0+2) s0 s
 lt:n0+7≤s.next
 lp:Bb s (n0+6)=some lo
 mrk:s.heap.get (n0+5)=some .mark
 ex:∃vo d O c,s.heap.get n0=some (R 22 0 false [vo])∧s.heap.get (n0+1)=some (R 69 0 false [Aj c])∧CM 76 s vo d.length 1 (us d) O∧(∀j∈O,n0+7≤j)∧(∀j,By vo=some j→n0+7≤j)∧d.length=k∧c≤1∧(d++(Fj (P.drop k) c).1,(Fj (P.drop k) c).2)=T
section
variable{E:CU}{s:AE}
theorem X4(hE:GoodN E){n0:Nat}{s0:AE}{v0 v1 v2 v3 x6 x7 x8 x9 x11 x12:AV}{P:List (Nat×Nat)}(hPl:P.length≤10000000000){T:List Nat×Nat}{k x y:Nat}(hP:P[k]? = some (x,y))(hx:x<4294967296)(hy:y<4294967296)
    (hI:rB n0 s0 (MN v0 v1 v2 v3 x6 x7 x8 x9 n0 x11 x12) P T k s) {K:AV→AE→Prop} (hK:∀s',rB n0 s0 (MN v0 v1 v2 v3 x6 x7 x8 x9 n0 x11 x12) P T (k+1) s'→K (.bool true) s'):
    WR E (n0+6) [Aj x,Aj y] K s:=by
  obtain⟨pk,hlt,hlp,hmk,vo,d,O,c,g1,g2,hD,hO,hsl,hdl,hc,hT⟩:=hI
  have hz:DY (De E.P 154) (MN v0 v1 v2 v3 x6 x7 x8 x9 n0 x11 x12).var [18,19] [Aj x,Aj y]=some [v0,v1,v2,v3,.ptr (some (n0,0)),.ptr (some (n0+1,0)),x6,x7,x8,x9,.func 188 [] [.ptr (some (n0+2,0)),.ptr (some (n0+2+1,0)),.ptr (some (n0+2+2,0))],Aj x,Aj y]:=by
    rw[hE.P,Th];rfl
  refine WR.round hlp hz (by rw[hE.P];exact ao) (by rw[hE.P];exact aq) ?_
  refine EY ?_
  simp only[QV,bF,bG,Qa,Qb,Qc,Qd,Qf,Qh,Qj,Qm,Qo,true_and,Qp,Qq,Qr,Qs,Qt,Qv,Rb]
  refine⟨_,hlp,rfl,EY ?_⟩
  generalize hs1:setObj s (n0+6) _=s1
  have n1:s1.next=s.next:=by rw[← hs1];rfl
  have f1:∀j,j≠n0+6→s1.heap.get j=s.heap.get j:=fun j hj=>by rw[← hs1,Wx _ hj]
  have l1:Bb s1 (n0+6)=some { MN v0 v1 v2 v3 x6 x7 x8 x9 n0 x11 x12 with state:=.busy }:=by rw[← hs1,DO]
  have g1':=(f1 n0 (by omega)).trans g1
  have g2':=(f1 (n0+1) (by omega)).trans g2
  have hD1:CM 76 s1 vo d.length 1 (us d) O:=hD.frame (ya n1.symm) (fun j hj=>f1 j (by have:=hsl j hj;omega))
  have hdk:P.drop k=(x,y)::P.drop (k+1):=by
    have hk:k<P.length:=(List.getElem?_eq_some_iff.1 hP).1
    rw[yV hk]
    rw[xe hk]at hP
    rw[Option.some.inj hP]
  have hkP:k<P.length:=(List.getElem?_eq_some_iff.1 hP).1
  rw[hdk]at hT
  simp only[Fj]at hT
  have hLB:LB=4294967296:=rfl
  rw[hLB]at hT
  have e1:=OP Tryz.prog 69 (a:=x) (b:=y) (by omega)
  have e2:=OP Tryz.prog 69 (a:=(x+18446744073709551616 - y) % 18446744073709551616) (b:=c) (by omega)
  generalize hc1:((x+18446744073709551616 - y) % 18446744073709551616+18446744073709551616 - c) % 18446744073709551616=c1 at e2
  have hc1b:c1<18446744073709551616:=by rw[← hc1];exact yP _ (by decide)
  have e3:=Kn Tryz.prog 69 hc1b
  have e11:c1 % 4294967296 % 4294967296=c1 % 4294967296:=zZ _ _
  have e12:c1 % 4294967296=(x+4294967296 - y - c) % 4294967296:=by omega
  have e15:AL Tryz.prog .shr 69 (Aj c1) (.int .u64 63)=some (Aj (c1 / 9223372036854775808)):=JZ Tryz.prog 69 (k:=.u64) (n:=63) (by decide)
  have e14:c1 / 9223372036854775808=if x<y+c then 1 else 0:=by split<;>omega
  rw[← e12,← e14]at hT
  have hcq:c1 / 9223372036854775808≤1:=by omega
  generalize hz:c1 % 4294967296=z at hT e3 e11
  generalize hbq:c1 / 9223372036854775808=bq at hT e15 hcq
  have ld2:AC Tryz.prog s1 69 (.ptr (some (n0+1,0)))=some (Aj c):=AI YK g2' rfl
  have ld12:AC Tryz.prog s1 22 (.ptr (some (n0,0)))=some vo:=AI CA g1' rfl
  obtain⟨v',s3,O',happ,hD3,hn3,f3,hO3,hsl3⟩:=JJ hD1 z (by omega)
  have happ':Ar Tryz.prog (newObj s1 (R 76 1 false [.int .u32 z])) [22,22] [vo,.slice (some (s1.next,0)) 1 (some 1)]=some (v',s3):=happ
  have g13:s3.heap.get n0=some (R 22 0 false [vo]):=(f3 n0 (by omega) (fun h=>by have:=hO n0 h;omega)).trans g1'
  have g23:s3.heap.get (n0+1)=some (R 69 0 false [Aj c]):=(f3 (n0+1) (by omega) (fun h=>by have:=hO _ h;omega)).trans g2'
  have hv'c:v'.isCell=true:=by obtain⟨a,cap,rfl,_⟩:=hD3.cells;rfl
  have st3:=Bn (P:=Tryz.prog) (t:=22) (o:=0) (v:=v') P1 g13 (by simp) hv'c
  simp only[zF]at st3
  generalize hs4:setObj s3 n0 (R 22 0 false [v'])=s4 at st3
  have n4:s4.next=s3.next:=by rw[← hs4];rfl
  have f4:∀j,j≠n0→s4.heap.get j=s3.heap.get j:=fun j hj=>by rw[← hs4,Wx _ hj]
  have g24:=(f4 (n0+1) (by omega)).trans g23
  have st4:=Bn (P:=Tryz.prog) (t:=69) (o:=0) (v:=Aj bq) gi g24 (by simp) rfl
  simp only[zF]at st4
  generalize hs5:setObj s4 (n0+1) (R 69 0 false [Aj bq])=s5 at st4
  have n5:s5.next=s4.next:=by rw[← hs5];rfl
  have f5:∀j,j≠n0+1→s5.heap.get j=s4.heap.get j:=fun j hj=>by rw[← hs5,Wx _ hj]
  have fall:∀j,j<s.next→j ∉ O→j≠n0→j≠n0+1→s5.heap.get j=s1.heap.get j:=fun j hj h1 h2 h3=>by
    rw[f5 j h3,f4 j h2,f3 j (by omega) h1]
  have l5:Bb s5 (n0+6)=some { MN v0 v1 v2 v3 x6 x7 x8 x9 n0 x11 x12 with state:=.busy }:=by
    rw[Dy (fall (n0+6) (by omega) (fun h=>by have:=hO _ h;omega) (by omega) (by omega))];exact l1
  simp only[QW,bH,bI,VX,e1,e2,ld2,ld12,e3,CL,e11,GZ,Xe,happ',st3,e15,st4,Xy,Za,Qa,Qb,Qc,Qd,Qf,Qh,Qi,Qj,Qk,Qm,Qo,true_and,Qp,Qq,Qr,Qs,Qt,Qv,Rb,Re,Yc]
  refine⟨_,l5,hK _ ?_⟩
  have fl:∀j,j≠n0+6→∀r,(setObj s5 (n0+6) r).heap.get j=s5.heap.get j:=fun j hj r=>Wx _ hj
  have hlow:∀j,j<n0+6→j≠n0→j≠n0+1→∀r,(setObj s5 (n0+6) r).heap.get j=s.heap.get j:=fun j h1 h2 h3 r=>by
    rw[fl j (by omega),fall j (by omega) (fun h=>by have:=hO _ h;omega) h2 h3,f1 j (by omega)]
  refine⟨pk.trans ⟨?_,fun j hj=>hlow j (by omega) (by omega) (by omega) _,hlow _ (by omega) (by omega) (by omega) _,hlow _ (by omega) (by omega) (by omega) _,hlow _ (by omega) (by omega) (by omega) _⟩,?_,?_,?_,v',d++[z],O',bq,?_,?_,?_,fun j hj=>?_,fun j hj=>?_,?_,hcq,?_⟩
  · show s.next≤s5.next;omega
  · show n0+7≤s5.next;omega
  · rw[DO];rfl
  · rw[hlow _ (by omega) (by omega) (by omega)];exact hmk
  · rw[fl n0 (by omega),f5 n0 (by omega),← hs4,Ww]
  · rw[fl (n0+1) (by omega),← hs5,Ww]
  · refine hD3.frame (by show s3.next≤s5.next;omega) (fun j hj=>?_)
    have hj7:n0+7≤j:=by
      rcases hsl3 j hj with h | h
      · exact hsl j h
      · omega
    rw[fl j (by omega),f5 j (by omega),f4 j (by omega)]
  · rcases hO3 j hj with h | h
    · exact hO j h
    · omega
  · rcases hsl3 j hj with h | h
    · exact hsl j h
    · omega
  · rw[xp,hdl];rfl
  · rw[yW];exact hT
end
end
end Go.Proofs.YtjnkfbpadpmakaaGreatDoor.Am
