/- Package nat: Cmp, short, walked; conditions: none. -/
import Derived.Test.YtjnkfbpadpmakaaGreatDoorAmM05
import Derived.Test.YtjnkfbpadpmakaaGreatDoorProg
set_option linter.unusedVariables false
set_option linter.unusedSimpArgs false
set_option maxRecDepth 12000
namespace Go.Proofs.YtjnkfbpadpmakaaGreatDoor.Am
open Go Go.Proofs
noncomputable section
def IE(a b:Nat):Int:=if a<b then -1 else if b<a then 1 else 0
theorem MU:∀ (n:Nat),n≠0→LB ^ ((AR n).length - 1)≤n:=by
  intro n
  induction n using Nat.strongRecOn with
  | _ n ih =>
    intro h
    rw[EV h,A0G,A0r]
    by_cases h2:n / LB=0
    · rw[h2,BN]
      show LB ^ 0≤n
      rw[Nat.pow_zero];omega
    · have := ih (n / LB) (A1D             (by omega) (by decide)) h2
      have hne:(AR (n / LB)).length≠0:=fun e=>Cz h2 (A0w e)
      obtain⟨m,hm⟩:∃m,(AR (n / LB)).length=m+1:=⟨(AR (n / LB)).length - 1,by omega⟩
      rw[hm,A0r]at this
      rw[hm,zy]
      exact zY (zq LB this) (Nat.div_mul_le_self n LB)
theorem fj(n:Nat):n<LB ^ (AR n).length:=by
 have:=CQ (AT n)
 rw[AY]at this
 exact this
theorem FA{a b:Nat}(h:(AR a).length<(AR b).length):a<b:=by
 have hb:b≠0:=fun e=>by subst e;rw[BN]at h;simp at h
 have h1:=fj a
 have h2:=MU b hb
 have:LB ^ (AR a).length≤LB ^ ((AR b).length - 1):=A0K BY (by omega)
 omega
theorem SD{la lb:List Nat}{k x y:Nat}(hl:la.length=lb.length)(ha:Bi la)(hb:Bi lb)(hx:la[k]? = some x)(hy:lb[k]? = some y)(hd:la.drop (k+1)=lb.drop (k+1))(h:x<y):AG la<AG lb:=by
 have hka:k<la.length:=by
  rcases zX k la.length with h' | h'
  ·exact h'
  ·rw[zj h']at hx;cases hx
 have e:∀ (l:List Nat) (z:Nat),l[k]? = some z→k<l.length→AG l=AG (l.take k)+LB ^ k * (z+LB * AG (l.drop (k+1))):=by
  intro l z hz hkl
  have h1:=Bp (l.take k) (l.drop k)
  rw[A0g,zo,A0c (by omega),GF hz]at h1
  exact h1
 rw[e la x hx hka,e lb y hy (by omega),hd]
 have h1:=CQ (ha.take k)
 rw[zo,A0c (by omega)]at h1
 generalize LB * AG (lb.drop (k+1))=z
 have h2:LB ^ k * (x+z+1)≤LB ^ k * (y+z):=A0P _ (by omega)
 rw[zp,zf]at h2
 omega
section
variable{E:CR}{s:AE}
theorem eZ       {a b : Option (Nat × Nat)} {ca cb : Option Nat} {la lb : List Nat} (hl : la.length = lb.length) (ha : Bi  la) (hb : Bi  lb) (hca : AS      s.next s a (us la)) (hcb : AS      s.next s b (us lb)) (h63 : la.length ≤ 100000000000) {Q : Az   → Prop} (x2 x4 x5 : AV)
    (hq:la=lb→∀y3 y6 y7 y8,Q ⟨.exit 1,[.slice a la.length ca,.slice b lb.length cb,x2,y3,x4,x5,y6,y7,y8],[],s⟩)
    (hr:∀z y3 y6 y7 y8,z=IE (AG la) (AG lb)→Q ⟨.ret,[.slice a la.length ca,.slice b lb.length cb,iv z,y3,x4,x5,y6,y7,y8],[],s⟩):
    ∀ (k:Nat) (x6 x7 x8:AV),k≤la.length→la.drop k=lb.drop k→WC E none (.loop Ib) Q [.slice a la.length ca,.slice b lb.length cb,x2,iv ((k:Int) - 1),x4,x5,x6,x7,x8] [] s:=by
  intro k
  induction k with
  | zero =>
    intro x6 x7 x8 hk hd
    refine WC.loop' ?_
    have d0:decide ((0:Int)≤((0:Nat):Int) - 1)=false:=rfl
    simp only[Ib,RF,Wb,d0,Qa,Qb,Qc,Qd,Qf,Qh,Qi,Qj,Qm,Qo,true_and,Qp,Qq,Qr,Qs,Qt,Qv,Ra,Rb,Rc,Rd,Re,Rf,Wb]
    exact hq (by simpa using hd) _ _ _ _
  | succ k ih =>
    intro x6 x7 x8 hk hd
    have hx:la[k]? = some la[k]:=zW (by omega)
    generalize la[k]=x at hx
    have hy:lb[k]? = some (lb[k]'(by omega)):=zW (by omega)
    generalize lb[k]'(by omega)=y at hy
    obtain⟨i,o,rfl,_,hload⟩:=hca k _ (DG hx)
    obtain⟨i2,o2,rfl,_,hload2⟩:=hcb k _ (DG hy)
    have e0:((k+1:Nat):Int) - 1=(k:Int):=by omega
    have d0:decide ((0:Int)≤(k:Int))=true:=decide_eq_true (by omega)
    have e1:=AX (cap:=ca) (i:=i) (o:=o) Tryz.underlying22 C5 (show k<la.length by omega)
    have e2:AB Tryz.prog s 76 (.ptr (some (i,o+k * 1)))=some (A6 x):=Bq G5 (by rw[zf];exact hload)
    have e3:=AX (cap:=cb) (i:=i2) (o:=o2) Tryz.underlying22 C5 (show k<lb.length by omega)
    have e4:AB Tryz.prog s 76 (.ptr (some (i2,o2+k * 1)))=some (A6 y):=Bq G5 (by rw[zf];exact hload2)
    have e5:=xL Tryz.prog 76 (a:=x) (b:=y) .u32
    have e6:=OY Tryz.prog 76 (a:=x) (b:=y) .u32
    have e7:=CT Tryz.prog 3 (k:Int) 1 ⟨by omega,by omega⟩
    refine WC.loop' ?_
    generalize hW:WC E none (Ac.loop Ib) Q=WW
    rw[e0]
    by_cases h1:x<y
    · have d1:decide (x<y)=true:=decide_eq_true h1
      simp only[Ib,RF,Vj,qy,Wb,d0,e1,e2,e3,e4,e5,d1,Qa,Qb,Qc,Qd,Qf,Qh,Qi,Qj,Qk,Qm,Qo,true_and,Qp,Qq,Qr,Qs,Qt,Qv,Qz,Rb,Rc,Rd,Re,Rf,Wb,A1v,A1m,A1w,A1p]
      refine hr _ _ _ _ _ ?_
      have:=SD hl ha hb hx hy hd h1
      unfold IE
      rw[if_pos this]
    · have d1:decide (x<y)=false:=decide_eq_false h1
      by_cases h2:y<x
      · have d2:decide (y<x)=true:=decide_eq_true h2
        simp only[Ib,RF,Vj,Ty,eL,Wb,d0,e1,e2,e3,e4,e5,e6,d1,d2,Qa,Qb,Qc,Qd,Qf,Qh,Qi,Qj,Qk,Qm,Qo,true_and,Qp,Qq,Qr,Qs,Qt,Qv,Qz,Ra,Rb,Rc,Rd,Re,Rf,Wb,A1v,A1m,A1w,A1p]
        refine hr _ _ _ _ _ ?_
        have:=SD hl.symm hb ha hy hx hd.symm h2
        unfold IE
        rw[if_neg (by omega),if_pos this]
      · have d2 : decide (y < x) = false := decide_eq_false h2
        have hxy:x=y:=by omega
        simp only[Ib,RF,Vj,Ty,eM,Wb,d0,e1,e2,e3,e4,e5,e6,d1,d2,e7,Qa,Qb,Qc,Qd,Qf,Qh,Qi,Qj,Qk,Qm,Qo,true_and,Qp,Qq,Qr,Qs,Qt,Qv,Qz,Ra,Rb,Rc,Rd,Re,Rf,Wb,A1v,A1m,A1w,A1p,A1t]
        rw[← hW]
        refine ih _ _ _ (by omega) ?_
        rw[A0M (show k<la.length by omega),A0M (show k<lb.length by omega),hd]
        have g1:la[k]=x:=by rw[zW (by omega)]at hx;exact Option.some.inj hx
        have g2:lb[k]'(by omega)=y:=by rw[zW (by omega)]at hy;exact Option.some.inj hy
        rw[g1,g2,hxy]
theorem ef     (hE : GoodN E) {va vb : AV} {la lb : List Nat} (ha : By  s va la) (hb : By  s vb lb) (hla : la.length ≤ 100000000000) (hlb : lb.length ≤ 100000000000) (hsa : Bi  la) (hsb : Bi  lb) {K : AV → AE  → Prop}
    (hK:∀s',Aa s.next s s'→K (iv (IE (AG la) (AG lb))) s'):WF E 93 [va,vb] K s:=by
  refine hE.go uN (by decide) rfl ?_
  simp only[zM,qr,qt,Qa,Qb,Qc,Qd,Qf,Qh,Qi,Qj,Qk,Ql,Qm,Qo,true_and,Qp,Qq,Qr,Qt,Qv,Rb,Rc,Re,Rf,Rh,Rk,Rm,Rn,Yc,A1p,A1t,A1u]
  refine C8 hE ha hla fun s1 v1 o1 r1=>?_
  simp only[Qd,Qo,true_and,Qr,Qs]
  refine C8 hE (hb.old o1) hlb fun s2 v2 o2 r2=>?_
  have n1:=r1.n32.old o2
  have n2:=r2.n32
  have hend:=hK s2 (o1.trans (o2.mono o1.1))
  have t1:=FN la
  have t2:=FN lb
  rw[B8 hsa]at n1 t1
  rw[B8 hsb]at n2 t2
  generalize AG la=A at *
  generalize AG lb=B at *
  obtain⟨a,ca,rfl,_,hca⟩:=n1
  obtain⟨b,cb,rfl,_,hcb⟩:=n2
  by_cases h1:(AR A).length<(AR B).length
  · have d1 : decide (((AR    A).length : Int) < ((AR    B).length : Int)) = true := decide_eq_true (by omega)
    have e:IE A B=-1:=by unfold IE;rw[if_pos (FA h1)]
    rw[e]at hend
    simp only[Vi,qu,AH Tryz.underlying22,Ry,d1,Qb,Qc,Qd,Qf,Qh,Qi,Qj,Qk,Qm,Qo,true_and,Qp,Qq,Qr,Qs,Qt,Qv,Qz,Rj,Ry,A1s,A1w,A1p]
    exact hend
  · have d1:decide (((AR A).length:Int)<((AR B).length:Int))=false:=decide_eq_false (by omega)
    by_cases h2:(AR B).length<(AR A).length
    · have d2 : decide (((AR    B).length : Int) < ((AR    A).length : Int)) = true := decide_eq_true (by omega)
      have hlt:=FA h2
      have e:IE A B=1:=by unfold IE;rw[if_neg (by omega),if_pos hlt]
      rw[e]at hend
      simp only[Vi,eO,qv,AH Tryz.underlying22,Ry,Rz,d1,d2,Qb,Qc,Qd,Qf,Qh,Qi,Qj,Qk,Qm,Qo,true_and,Qp,Qq,Qr,Qs,Qt,Qv,Qz,Ra,Rj,Ry,Rz,A1s,A1w,A1p]
      exact hend
    · have d2 : decide (((AR    B).length : Int) < ((AR    A).length : Int)) = false := decide_eq_false (by omega)
      have hl:(AR A).length=(AR B).length:=by omega
      have e7:=CT Tryz.prog 3 ((AR A).length:Int) 1 ⟨by omega,by omega⟩
      simp only[Vi,eO,qw,AH Tryz.underlying22,Ry,Rz,d1,d2,e7,Qb,Qc,Qd,Qf,Qh,Qi,Qj,Qk,Qm,Qo,true_and,Qp,Qq,Qr,Qs,Qt,Qv,Ra,Ry,Rz,A1s,A1w,A1p]
      refine eZ hl (AT A) (AT B) hca hcb (by omega) _ _ _ (fun heq y3 y6 y7 y8=>?_) (fun z y3 y6 y7 y8 hz=>?_) (AR A).length _ _ _ (zU _) (by rw[A1Z,hl,A1Z])
      · have:A=B:=XN heq
        subst this
        have e:IE A A=0:=by unfold IE;rw[if_neg (Nat.lt_irrefl _),if_neg (Nat.lt_irrefl _)]
        rw[e]at hend
        simp only[eN,if_true,Qb,Qc,Qd,Qf,Qh,Qi,Qm,Qo,true_and,Qp,Qq,Qr,Qs,Qt,Qv,Rb,Rd,Rg,Rj,A1p]
        exact hend
      · rw[AY,AY]at hz
        subst hz
        simp only[Qj,Qm,Qr,Qs,Rc,Rf,Rh,Rj,Rk,Rm,Rn,Yc]
        exact hend
end
theorem ut(n:Nat):Nd [AV.int .u32 0] n=us (List.replicate n 0):=by
 induction n with
 | zero=>rfl
 | succ n ih=>show [AV.int .u32 0]++Nd [AV.int .u32 0] n=_;rw[ih];rfl
theorem Pg(n:Nat)(h:n≤100000000000):Bb Tryz.prog 22 (iv (n:Int)) (iv (n:Int))=some (R 76 1 false (us (List.replicate n 0)),.slice n):=by
 have e:Bb Tryz.prog 22 (.int .i64 (.ofNat n)) (.int .i64 (.ofNat n))=some (GH 76 1 (Nd [AV.int .u32 0] n),.slice n):=by
  simp[Bb,Tryz.underlying22,W7,C5,yG,AQ,CU (show 4 * n≤1099511627776 by omega),CU (show n≤1099511627776 by omega),AV.cells]
 rw[ut]at e
 exact e
structure IY(s s':AE)(i:Nat):Prop where
 next:s'.next=s.next
 get:∀j,j≠i→s'.heap.get j=s.heap.get j
theorem IY.refl(s:AE)(i:Nat):IY s s i:=⟨rfl,fun _ _=>rfl⟩
theorem IY.set{s s':AE}{i:Nat}(h:IY s s' i)(o:BF):IY s (setObj s' i o) i:=⟨h.next,fun j hj=>(Wx o hj).trans (h.get j hj)⟩
theorem IY.old{s s':AE}{i b:Nat}(h:IY s s' i)(hb:b≤i):Aa b s s':=⟨A0L h.next.symm,fun j hj=>h.get j (by omega)⟩
section
variable{E:CR}{s:AE}
theorem Un{s1:AE}{x:Nat}(hx:0<x)(hxB:x≤4294967296){a:Option (Nat×Nat)}{cap:Option Nat}{l:List Nat}{b qi:Nat}(hc:AS b s1 a (us l))(hb:b≤qi)(hl:l.length≤100000000000)(hs:Bi l){Q:Az→Prop}
  (hq:∀ (s':AE) (y4 y5:AV),IY s1 s' qi→s'.heap.get qi=some (R 76 1 false (us (Bg x l).1))→Q ⟨.exit 0,[.slice a l.length cap,An x,.slice (some (qi,0)) l.length (some l.length),An (Bg x l).2,y4,y5],[],s'⟩):
  ∀ (k:Nat) (s':AE) (x5:AV),k≤l.length→IY s1 s' qi→s'.heap.get qi=some (R 76 1 false (us (List.replicate k 0++(Bg x (l.drop k)).1))) →
   WC E none (.loop RG) Q [.slice a l.length cap,An x,.slice (some (qi,0)) l.length (some l.length),An (Bg x (l.drop k)).2,iv ((k:Int) - 1),x5] [] s':=by
 intro k
 induction k with
 | zero =>
  intro s' x5 hk ho hg
  have d0:decide ((0:Int)≤((0:Nat):Int) - 1)=false:=rfl
  refine WC.loop' ?_
  simp only[RG,eP,Wb,d0,Qa,Qb,Qc,Qd,Qf,Qh,Qi,Qj,Qm,Qo,true_and,Qp,Qq,Qr,Qs,Qt,Qv,Ra,Rb,Rd,Re,Wb]
  exact hq s' _ _ ho hg
 | succ k ih =>
  intro s' x5 hk ho hg
  have hy:l[k]? = some l[k]:=zW (by omega)
  have hdk:l.drop k=l[k]::l.drop (k+1):=A0M (by omega)
  generalize l[k]=y at hy hdk
  have hys:y<4294967296:=hs y (zw hy)
  obtain⟨i,o,rfl,hi,hload⟩:=hc k _ (DG hy)
  obtain⟨_,v2,v3⟩:=Eb hx (l.drop (k+1))
  have hsl:Bg x (l.drop k)=(((Bg x (l.drop (k+1))).2 * LB+y) / x::(Bg x (l.drop (k+1))).1,((Bg x (l.drop (k+1))).2 * LB+y) % x):=by rw[hdk];rfl
  have hLB:LB=4294967296:=rfl
  rw[hLB]at hsl
  rw[hsl]at ih
  generalize Bg x (l.drop (k+1))=T at *
  obtain⟨q,r⟩:=T
  simp only at *
  have hqlt:(r * 4294967296+y) / x<4294967296:=by
   rw[A0a hx]
   have:(r+1) * 4294967296≤x * 4294967296:=zq _ v2
   rw[zz]at this
   rw[zt _ x]
   omega
  have e0:((k+1:Nat):Int) - 1=(k:Int):=by omega
  have d0:decide ((0:Int)≤(k:Int))=true:=decide_eq_true (by omega)
  have e1:AN Tryz.prog .shl 69 (An r) (.int .u64 32)=some (An (r * 4294967296)):=OZ Tryz.prog 69 (k:=.u64) (n:=32) (by decide) (by show r * 4294967296<_;omega)
  have e2:=AX (cap:=cap) (i:=i) (o:=o) Tryz.underlying22 C5 (show k<l.length by omega)
  have e3:AB Tryz.prog s' 76 (.ptr (some (i,o+k * 1)))=some (A6 y):=Bq G5 (by rw[zf,CS (ho.get i (by omega))];exact hload)
  have e4:=km Tryz.prog 69 (a:=r) (b:=y) (by omega) hys
  have e5:=sW Tryz.prog 69 (a:=r * 4294967296+y) (b:=x) (by omega) (by omega)
  have e6:(r * 4294967296+y) / x % 4294967296=(r * 4294967296+y) / x:=A0I hqlt
  have e7:=AX (cap:=some l.length) (i:=qi) (o:=0) Tryz.underlying22 C5 (show k<l.length by omega)
  rw[zf,zk]at e7
  have hlen:k<(us (List.replicate (k+1) 0++q)).length:=by rw[DW,zg,List.length_replicate];omega
  have e8:=CN (P:=Tryz.prog) (t:=76) (v:=A6 ((r * 4294967296+y) / x)) C5 hg hlen rfl
  have e9:=sX Tryz.prog 69 (a:=r * 4294967296+y) (b:=x) (by omega)
  have e10:=CT Tryz.prog 3 (k:Int) 1 ⟨by omega,by omega⟩
  have hrow:(us (List.replicate (k+1) 0++q)).set k (A6 ((r * 4294967296+y) / x))=us (List.replicate k 0++((r * 4294967296+y) / x::q)):=by
   rw[Ix]
   congr 1
   rw[List.replicate_succ',A0O,List.set_append_right _ _ (by simp)]
   simp
  rw[hrow]at e8
  refine WC.loop' ?_
  generalize hW:WC E none (Ac.loop RG) Q=WW
  rw[e0]
  simp only[RG,eP,rC,rD,rE,rF,Wb,d0,e1,e2,e3,B7 hys,e4,e5,CP,e6,e7,e8,e9,e10,Xy,Za,Qa,Qb,Qc,Qd,Qf,Qh,Qi,Qj,Qk,Qm,Qo,true_and,Qp,Qq,Qr,Qs,Qt,Qv,Qz,Rb,Rd,Re,Wb,A1t,A1v,A1m,A1w,A1p,A1o]
  rw[← hW]
  exact ih _ _ (by omega) (ho.set _) (Ww _ _ _)
theorem Sm(hE:GoodN E){v:AV}{l:List Nat}(hv:By s v l)(hl:l.length≤10000000000)(hs:Bi l){x:Nat}(hx:0<x)(hxB:x≤4294967296){K:AV→AE→Prop}(hK:∀s' v',Aa s.next s s'→NR s.next s' v' (DL (Bg x l).1)→K (.tuple [v',An (Bg x l).2]) s'):
  WF E 94 [v,An x] K s:=by
 obtain⟨a,cap,rfl,hcap,hc⟩:=hv
 have e1:=Pg l.length (by omega)
 have e2:=CT Tryz.prog 3 (l.length:Int) 1 ⟨by omega,by omega⟩
 have ho:=Aa.new s (R 76 1 false (us (List.replicate l.length 0)))
 refine hE.go uO (by decide) rfl ?_
 simp only[zN,qz,rA,rB,AH Tryz.underlying22,e1,e2,Xy,Xe,Qa,Qb,Qc,Qd,Qf,Qh,Qi,Qj,Qk,Ql,Qm,Qo,true_and,Qp,Qq,Qr,Qt,Qv,Rb,Rh,Rk,Rm,Rp,Yc,A1p,A1s]
 have hg0:(newObj s (R 76 1 false (us (List.replicate l.length 0)))).heap.get s.next=some (R 76 1 false (us (List.replicate l.length 0++(Bg x (l.drop l.length)).1))):=by
  rw[AU,if_pos rfl,A1Z]
  simp[Bg]
 have h0:AV.int .u64 0=An (Bg x (l.drop l.length)).2:=by rw[A1Z];rfl
 rw[h0]
 refine Un (s1:=newObj s (R 76 1 false (us (List.replicate l.length 0)))) hx hxB (hc.old ho (zU _)) (zU s.next) (by omega) hs (fun s' y4 y5 o' hg'=>?_) l.length _ _ (zU _) (IY.refl _ _) hg0
 obtain⟨v1,v2,v3⟩:=Eb hx l
 have hsn:s'.next=s.next+1:=o'.next
 have hq:By s' (.slice (some (s.next,0)) l.length (some l.length)) (Bg x l).1:=
  ⟨some (s.next,0),some l.length,by rw[v3],.inl ⟨l.length,rfl,by omega,fun e=>by cases e⟩,Gc hg' (by omega)⟩
 simp only[rG,if_true,Qb,Qc,Qd,Qf,Qh,Qj,Qk,Qm,Qo,true_and,Qr,Qs,Qt,Qv,Rb,Rd,Rg,Rj,A1t,A1u,A1p]
 refine C8 hE hq (by omega) fun s2 v2 o2 r2=>?_
 simp only[Qd,Qo,true_and,Qp,Qq,Qr,Qs]
 exact hK s2 v2 (ho.trans ((o'.old (zU _)).trans (o2.mono (by omega)))) (r2.mono (by omega))
end
def GR(cu:List Nat)(off:Nat)(d:List Nat):List Nat:=cu.take off++d++cu.drop (off+d.length)
theorem Pj(cu:List Nat)(off:Nat):GR cu off []=cu:=by simp[GR,A0g]
theorem Hv{cu:List Nat}{off:Nat}{d:List Nat}(h:off+d.length≤cu.length):(GR cu off d).length=cu.length:=by
 unfold GR
 simp only[zg,zo,A0C]
 omega
theorem Pi{cu:List Nat}{off:Nat}{d:List Nat}(h:off+d.length<cu.length):(GR cu off d)[off+d.length]? = cu[off+d.length]? := by
 unfold GR
 rw[A0U (by simp;omega)]
 simp only[zg,zo]
 rw[A0Z]
 congr 1
 omega
theorem LV{cu:List Nat}{off:Nat}{d:List Nat}(h:off+d.length<cu.length)(x:Nat):(GR cu off d).set (off+d.length) x=GR cu off (d++[x]):=by
 unfold GR
 have hl:(cu.take off++d).length=off+d.length:=by simp;omega
 rw[List.set_append_right _ _ (by omega),hl,A1M]
 rw[A0M h]
 simp[A0O,A0H]
section
variable{E:CR}{s:AE}
theorem X5{s1:AE}{q:Nat}(hq32:q<4294967296){ui off:Nat}{capu:Option Nat}{pp:Option Nat}{cu w:List Nat}(hcu:off+w.length≤cu.length)(hsu:Bi cu)(hsw:Bi w){a9:Option (Nat×Nat)}{c9:Option Nat}{b:Nat}(hc9:AS b s1 a9 (us w))(h9:∀i o,a9=some (i,o)→i≠ui∧some i≠pp)
    (hwl:w.length≤100000000000) {D:List Nat} {cf bf:Nat} {Q:Az→Prop} (x1 x3:AV)
    (hq:∀ (s':AE) (c br:Nat) (d:List Nat) (y6 y7 y8 y11 y12:AV),Ex s1 s' ui pp→d=D→br=bf→Ck s' ui (us (GR cu off d)) pp →
      Q ⟨.exit 0,[.slice (some (ui,off)) w.length capu,x1,An q,x3,An c,An br,y6,y7,y8,.slice a9 w.length c9,iv (w.length:Int),y11,y12],[],s'⟩):
    ∀ (r : List Nat) (s' : AE)  (c br : Nat) (d : List Nat) (x6 x7 x8 x12 : AV), w.drop d.length = r → d.length ≤ w.length → Ex    s1 s' ui pp → c < 4294967296 → br ≤ 1 →
      (d++(Cc q ((cu.drop (off+d.length)).zip r) c br).1,(Cc q ((cu.drop (off+d.length)).zip r) c br).2)=(D,cf,bf)→Ck s' ui (us (GR cu off d)) pp →
      WC E none (.loop L5) Q [.slice (some (ui,off)) w.length capu,x1,An q,x3,An c,An br,x6,x7,x8,.slice a9 w.length c9,iv (w.length:Int),iv (d.length:Int),x12] [] s':=by
  intro r
  induction r with
  | nil =>
    intro s' c br d x6 x7 x8 x12 hd hk ho hc hb hT hg
    have hkl:d.length=w.length:=by
      have:=congrArg List.length hd
      simp at this
      omega
    rw[List.zip_nil_right]at hT
    simp only[Cc,A1C,Prod.mk.injEq]at hT
    have dd:decide ((d.length:Int)<(w.length:Int))=false:=decide_eq_false (by omega)
    refine WC.loop' ?_
    simp only[L5,eS,Ry,dd,Qa,Qb,Qc,Qd,Qf,Qh,Qj,Qm,Qo,true_and,Qp,Qq,Qr,Qs,Qt,Qv,Ra,Rb,Rd,Re,Ry,A1x]
    exact hq s' c br d _ _ _ _ _ ho hT.1 hT.2.2 hg
  | cons y r ih =>
    intro s' c br d x6 x7 x8 x12 hd hk ho hc hb hT hg
    have hlt:d.length<w.length:=by
      rcases zX d.length w.length with h' | h'
      · exact h'
      · rw[A0D h']at hd;cases hd
    have hy:w[d.length]? = some y:=by
      have:=congrArg (fun l=>l[0]?) hd
      simpa using this
    have hd':w.drop (d.length+1)=r:=by
      have:=congrArg (List.drop 1) hd
      simpa[A0h]using this
    have hys:y<4294967296:=hsw y (zw hy)
    have hlu:off+d.length<cu.length:=by omega
    have hu:cu[off+d.length]? = some cu[off+d.length]:=zW hlu
    have hdu:cu.drop (off+d.length)=cu[off+d.length]::cu.drop (off+(d.length+1)):=A0M hlu
    generalize cu[off+d.length]=u at hu hdu
    have hus:u<4294967296:=hsu u (zw hu)
    rw[hdu,A1I]at hT
    simp only[Cc]at hT
    obtain⟨i,o,rfl,hi,hload⟩:=hc9 d.length _ (DG hy)
    have hne:=h9 i o rfl
    have hkk:decide ((d.length:Int)<(w.length:Int))=true:=decide_eq_true (by omega)
    have e1:=AX (cap:=c9) (i:=i) (o:=o) Tryz.underlying22 C5 hlt
    have e2:AB Tryz.prog s' 76 (.ptr (some (i,o+d.length * 1)))=some (A6 y):=Bq G5 (by rw[zf,CS (ho.get i hne.1 hne.2)];exact hload)
    have hqy:q * y≤4294967295 * 4294967295:=A0W (by omega) (by omega)
    have e3:=Sx Tryz.prog 69 (a:=q) (b:=y) (by omega)
    have e4:=IU Tryz.prog 69 (a:=c) (b:=q * y) (by omega)
    have e5:=AX (cap:=capu) (i:=ui) (o:=off) Tryz.underlying22 C5 hlt
    have hcell:(us (GR cu off d))[off+d.length * 1]? = some (A6 u):=by rw[zf];exact DG ((Pi hlu).trans hu)
    have e6:=HS (P:=Tryz.prog) (t:=76) G5 hg hcell
    have hLB:LB=4294967296:=rfl
    rw[hLB]at hT
    generalize hc1:c+q * y=c1 at hT e4
    have hc1b:c1<18446744073709551616:=by omega
    have e7:=K0 Tryz.prog 69 hc1b
    have hm:c1 % 4294967296<4294967296:=A0E _ (by decide)
    generalize hmm:c1 % 4294967296=m at hT e7 hm
    have e8:=Oa Tryz.prog 69 (a:=u) (b:=m) (by omega)
    have e9:=Oa Tryz.prog 69 (a:=(u+18446744073709551616 - m) % 18446744073709551616) (b:=br) (by omega)
    generalize hdd:((u+18446744073709551616 - m) % 18446744073709551616+18446744073709551616 - br) % 18446744073709551616=dd at e9
    have hddb:dd<18446744073709551616:=by rw[← hdd];exact A0E _ (by decide)
    have e10:=K0 Tryz.prog 69 hddb
    have e11:dd % 4294967296 % 4294967296=dd % 4294967296:=A1K _ _
    have e12:dd % 4294967296=(u+4294967296 - m - br) % 4294967296:=by omega
    have e13:AN Tryz.prog .shr 69 (An dd) (.int .u64 63)=some (An (dd / 9223372036854775808)):=Jh Tryz.prog 69 (k:=.u64) (n:=63) (by decide)
    have e14:dd / 9223372036854775808=if u<m+br then 1 else 0:=by split<;>omega
    have e15:AN Tryz.prog .shr 69 (An c1) (.int .u64 32)=some (An (c1 / 4294967296)):=Jh Tryz.prog 69 (k:=.u64) (n:=32) (by decide)
    rw[e12]at e10 e11
    generalize hx:(u+4294967296 - m - br) % 4294967296=x at hT e10 e11 e12
    have hlm:off+d.length * 1<(us (GR cu off d)).length:=by rw[DW,Hv (by omega)];omega
    obtain⟨s2,e16,w1,w2,w3⟩:=Ec (P:=Tryz.prog) (t:=76) (v:=A6 x) C5 hg hlm rfl
    rw[zf]at e16
    rw[zf,Ix,LV hlu]at w1
    rw[zf]at e5 e6
    have e17:=Ax Tryz.prog 3 (d.length:Int) 1 ⟨by omega,by omega⟩
    have e17':((d.length:Int)+1)=((d.length+1:Nat):Int):=by omega
    refine WC.loop' ?_
    generalize hW:WC E none (Ac.loop L5) Q=WW
    simp only[L5,eS,rR,rS,rT,rU,rV,rW,eQ,Ry,hkk,e1,e2,B7 hys,e3,e4,e5,e6,B7 hus,e7,e8,e9,e10,CP,e11,e16,e15,e13,e14,e17,e17',Xy,Za,Qa,Qb,Qc,Qd,Qf,Qh,Qi,Qj,Qk,Qm,Qo,true_and,Qp,Qq,Qr,Qs,Qt,Qv,Qz,Rb,Rd,Re,Ry,A1x,A1v,A1m,A1p,A1t,A1w,A1o]
    rw[← hW]
    have hlen1:(d++[x]).length=d.length+1:=by rw[zg];rfl
    have key:=ih s2 (c1 / 4294967296) (if u<m+br then 1 else 0) (d++[x])
    rw[hlen1]at key
    exact key _ _ _ _ hd' hlt (ho.step w2 w3) (by omega) (by split<;>omega) (by rw[A0O];exact hT) w1
theorem kg(hE:GoodN E){q:Nat}(hq32:q<4294967296){ui off:Nat}{capu:Option Nat}{pp:Option Nat}{cu vl:List Nat}(hui:ui<s.next)(hpp:∀q,pp=some q→q<s.next)(hg:Ck s ui (us cu) pp)(hcu:off+(vl.length+1)≤cu.length)(hsu:Bi cu)(hsv:Bi vl){vv:AV}(hv:By s vv vl)(hvl:vl.length≤10000000000){K:AV→AE→Prop}
  (hK:∀s',s.next≤s'.next→(∀j,j<s.next→j≠ui→some j≠pp→s'.heap.get j=s.heap.get j)→Ck s' ui (us (GR cu off (Cc q ((cu.drop off).zip (vl++[0])) 0 0).1)) pp →
   K (.bool (decide (0<(Cc q ((cu.drop off).zip (vl++[0])) 0 0).2.2))) s'):WF E 97 [.slice (some (ui,off)) (vl.length+1) capu,vv,An q] K s:=by
 refine hE.go uR (by decide) rfl ?_
 simp only[zQ,rO,rP,rQ,Qa,Qb,Qc,Qd,Qf,Qh,Qi,Qj,Qk,Ql,Qm,Qo,true_and,Qp,Qq,Qr,Qs,Qt,Qv,Rb,Rh,Rk,Rm,Rn,Yc,A1p,A1u]
 refine MC hE hv (by omega) fun s1 v1 o1 r1=>?_
 obtain⟨O,hD,hO,hsl,_⟩:=r1
 obtain⟨v2,s2,O2,happ,hD2,hn2,hf2,hO2,hsl2⟩:=JT hD 0 (by omega)
 have hn12:s.next≤s2.next:=by have:=o1.1;omega
 have hkeep:∀j,j<s.next→s2.heap.get j=s.heap.get j:=fun j hj=>by rw[hf2 j (by have:=o1.1;omega) (fun h=>by have:=hO j h;omega)];exact o1.2 j hj
 obtain⟨a9,c9,rfl,hc9⟩:=hD2.cells
 have hids:∀i o,a9=some (i,o)→i≠ui∧some i≠pp:=fun i o e=>by
  subst e
  have hge:s.next≤i:=by
   rcases hsl2 i rfl with h | h
   ·exact hsl i h
   ·have:=o1.1;omega
  exact⟨by omega,fun e=>by have:=hpp i e.symm;omega⟩
 have hw:(vl++[0]).length=vl.length+1:=by rw[zg];rfl
 have happ':Aj Tryz.prog (newObj s1 (R 76 1 false [.int .u32 0])) [22,22] [v1,.slice (some (s1.next,0)) 1 (some 1)]=some (.slice a9 (vl++[0]).length c9,s2):=happ
 simp only[Gp,Xe,happ',AH Tryz.underlying22,Qd,Qm,Qo,true_and,Qp,Qq,Qr,Qs,Yc]
 have hsw:Bi (vl++[0]):=hsv.append (fun x hx=>by rw[A1d.1 hx];exact BY)
 rw[← hw]
 refine X5 (s1:=s2) hq32 (w:=vl++[0]) (by rw[hw];exact hcu) hsu hsw hc9 hids (by rw[hw];omega) (D:=(Cc q ((cu.drop off).zip (vl++[0])) 0 0).1) (cf:=(Cc q ((cu.drop off).zip (vl++[0])) 0 0).2.1) (bf:=(Cc q ((cu.drop off).zip (vl++[0])) 0 0).2.2) _ _
  (fun s' c br d y6 y7 y8 y11 y12 ho hd hbr hg'=>?_) (vl++[0]) s2 0 0 [] _ _ _ _ rfl (ze _) (Ex.refl _ _ _) (by decide) (by decide) rfl (by rw[Pj];exact hg.keep (hkeep ui hui))
 subst hd;subst hbr
 have e1:AN Tryz.prog .gtr 69 (An (Cc q ((cu.drop off).zip (vl++[0])) 0 0).2.2) (.int .u64 0)=some (.bool (decide (0<(Cc q ((cu.drop off).zip (vl++[0])) 0 0).2.2))):=OY Tryz.prog 69 (b:=0) .u64
 simp only[eR,e1,if_true,Qb,Qc,Qd,Qf,Qh,Qi,Qj,Qk,Qm,Qo,true_and,Qp,Qq,Qr,Qs,Qt,Qv,Rb,Rd,Rg,Rj,A1p]
 exact hK s' (by have:=ho.next;omega) (fun j hj hne hnp=>(ho.get j hne hnp).trans (hkeep j hj)) hg'
theorem W2{s1:AE}{ui off:Nat}{capu:Option Nat}{pp:Option Nat}{cu w:List Nat}(hcu:off+w.length≤cu.length)(hsu:Bi cu)(hsw:Bi w){a9:Option (Nat×Nat)}{c9:Option Nat}{b:Nat}(hc9:AS b s1 a9 (us w))(h9:∀i o,a9=some (i,o)→i≠ui∧some i≠pp)
  (hwl:w.length≤100000000000) {D:List Nat} {Q:Az→Prop} (x1:AV)
  (hq:∀ (s':AE) (d:List Nat) (y2 y3 y4 y7 y8:AV),Ex s1 s' ui pp→d=D→Ck s' ui (us (GR cu off d)) pp →
   Q ⟨.exit 0,[.slice (some (ui,off)) w.length capu,x1,y2,y3,y4,.slice a9 w.length c9,iv (w.length:Int),y7,y8],[],s'⟩):
  ∀ (r:List Nat) (s':AE) (c:Nat) (d:List Nat) (x3 x4 x8:AV),w.drop d.length=r→d.length≤w.length→Ex s1 s' ui pp→c≤1 →
   d++(Ei ((cu.drop (off+d.length)).zip r) c).1=D→Ck s' ui (us (GR cu off d)) pp →
   WC E none (.loop RK) Q [.slice (some (ui,off)) w.length capu,x1,An c,x3,x4,.slice a9 w.length c9,iv (w.length:Int),iv (d.length:Int),x8] [] s':=by
 intro r
 induction r with
 | nil =>
  intro s' c d x3 x4 x8 hd hk ho hc hT hg
  have hkl:d.length=w.length:=by
   have:=congrArg List.length hd
   simp at this
   omega
  rw[List.zip_nil_right]at hT
  simp only[Ei,A1C]at hT
  have dd:decide ((d.length:Int)<(w.length:Int))=false:=decide_eq_false (by omega)
  refine WC.loop' ?_
  simp only[RK,eT,Ry,dd,Qa,Qb,Qc,Qd,Qf,Qh,Qj,Qm,Qo,true_and,Qp,Qq,Qr,Qs,Qt,Qv,Ra,Rb,Rd,Re,Ry,A1x]
  exact hq s' d _ _ _ _ _ ho hT hg
 | cons y r ih =>
  intro s' c d x3 x4 x8 hd hk ho hc hT hg
  have hlt:d.length<w.length:=by
   rcases zX d.length w.length with h' | h'
   ·exact h'
   ·rw[A0D h']at hd;cases hd
  have hy:w[d.length]? = some y:=by
   have:=congrArg (fun l=>l[0]?) hd
   simpa using this
  have hd':w.drop (d.length+1)=r:=by
   have:=congrArg (List.drop 1) hd
   simpa[A0h]using this
  have hys:y<4294967296:=hsw y (zw hy)
  have hlu:off+d.length<cu.length:=by omega
  have hu:cu[off+d.length]? = some cu[off+d.length]:=zW hlu
  have hdu:cu.drop (off+d.length)=cu[off+d.length]::cu.drop (off+(d.length+1)):=A0M hlu
  generalize cu[off+d.length]=u at hu hdu
  have hus:u<4294967296:=hsu u (zw hu)
  rw[hdu,A1I]at hT
  simp only[Ei]at hT
  obtain⟨i,o,rfl,hi,hload⟩:=hc9 d.length _ (DG hy)
  have hne:=h9 i o rfl
  have hkk:decide ((d.length:Int)<(w.length:Int))=true:=decide_eq_true (by omega)
  have e1:=AX (cap:=c9) (i:=i) (o:=o) Tryz.underlying22 C5 hlt
  have e2:AB Tryz.prog s' 76 (.ptr (some (i,o+d.length * 1)))=some (A6 y):=Bq G5 (by rw[zf,CS (ho.get i hne.1 hne.2)];exact hload)
  have e5:=AX (cap:=capu) (i:=ui) (o:=off) Tryz.underlying22 C5 hlt
  have hcell:(us (GR cu off d))[off+d.length * 1]? = some (A6 u):=by rw[zf];exact DG ((Pi hlu).trans hu)
  have e6:=HS (P:=Tryz.prog) (t:=76) G5 hg hcell
  have e3:=IU Tryz.prog 69 (a:=u) (b:=y) (by omega)
  have e4:=IU Tryz.prog 69 (a:=c) (b:=u+y) (by omega)
  have hLB:LB=4294967296:=rfl
  rw[hLB,show u+y+c=c+(u+y) by omega]at hT
  generalize hc1:c+(u+y)=c1 at hT e4
  have hc1b:c1<18446744073709551616:=by omega
  have e7:=K0 Tryz.prog 69 hc1b
  have e11:c1 % 4294967296 % 4294967296=c1 % 4294967296:=A1K _ _
  have e15:AN Tryz.prog .shr 69 (An c1) (.int .u64 32)=some (An (c1 / 4294967296)):=Jh Tryz.prog 69 (k:=.u64) (n:=32) (by decide)
  generalize hx:c1 % 4294967296=x at hT e7 e11
  have hlm:off+d.length * 1<(us (GR cu off d)).length:=by rw[DW,Hv (by omega)];omega
  obtain⟨s2,e16,w1,w2,w3⟩:=Ec (P:=Tryz.prog) (t:=76) (v:=A6 x) C5 hg hlm rfl
  rw[zf]at e16
  rw[zf,Ix,LV hlu]at w1
  rw[zf]at e5 e6
  have e17:=Ax Tryz.prog 3 (d.length:Int) 1 ⟨by omega,by omega⟩
  have e17':((d.length:Int)+1)=((d.length+1:Nat):Int):=by omega
  refine WC.loop' ?_
  generalize hW:WC E none (Ac.loop RK) Q=WW
  simp only[RK,eT,rZ,re,rf,rh,rl,Ry,hkk,e1,e2,e5,e6,B7 hus,B7 hys,e3,e4,e7,CP,e11,e16,e15,e17,e17',Xy,Za,Qa,Qb,Qc,Qd,Qf,Qh,Qi,Qj,Qk,Qm,Qo,true_and,Qp,Qq,Qr,Qs,Qt,Qv,Qz,Rb,Rd,Re,Ry,A1x,A1v,A1m,A1p,A1t,A1w,A1o]
  rw[← hW]
  have hlen1:(d++[x]).length=d.length+1:=by rw[zg];rfl
  have key:=ih s2 (c1 / 4294967296) (d++[x])
  rw[hlen1]at key
  exact key _ _ _ hd' hlt (ho.step w2 w3) (by omega) (by rw[A0O];exact hT) w1
theorem iW(hE:GoodN E){ui off:Nat}{capu:Option Nat}{pp:Option Nat}{cu vl:List Nat}(hui:ui<s.next)(hpp:∀q,pp=some q→q<s.next)(hg:Ck s ui (us cu) pp)(hcu:off+(vl.length+1)≤cu.length)(hsu:Bi cu)(hsv:Bi vl){vv:AV}(hv:By s vv vl)(hvl:vl.length≤10000000000){K:AV→AE→Prop}
  (hK:∀s' r,s.next≤s'.next→(∀j,j<s.next→j≠ui→some j≠pp→s'.heap.get j=s.heap.get j)→Ck s' ui (us (GR cu off (Ei ((cu.drop off).zip (vl++[0])) 0).1)) pp→K r s'):WF E 98 [.slice (some (ui,off)) (vl.length+1) capu,vv] K s:=by
 refine hE.go uS (by decide) rfl ?_
 simp only[zR,rX,rY,Qa,Qb,Qc,Qd,Qf,Qh,Qi,Qj,Qk,Ql,Qm,Qo,true_and,Qp,Qq,Qr,Qs,Qt,Qv,Rb,A1u,A1p]
 refine MC hE hv (by omega) fun s1 v1 o1 r1=>?_
 obtain⟨O,hD,hO,hsl,_⟩:=r1
 obtain⟨v2,s2,O2,happ,hD2,hn2,hf2,hO2,hsl2⟩:=JT hD 0 (by omega)
 have hn12:s.next≤s2.next:=by have:=o1.1;omega
 have hkeep:∀j,j<s.next→s2.heap.get j=s.heap.get j:=fun j hj=>by rw[hf2 j (by have:=o1.1;omega) (fun h=>by have:=hO j h;omega)];exact o1.2 j hj
 obtain⟨a9,c9,rfl,hc9⟩:=hD2.cells
 have hids:∀i o,a9=some (i,o)→i≠ui∧some i≠pp:=fun i o e=>by
  subst e
  have hge:s.next≤i:=by
   rcases hsl2 i rfl with h | h
   ·exact hsl i h
   ·have:=o1.1;omega
  exact⟨by omega,fun e=>by have:=hpp i e.symm;omega⟩
 have hw:(vl++[0]).length=vl.length+1:=by rw[zg];rfl
 have happ':Aj Tryz.prog (newObj s1 (R 76 1 false [.int .u32 0])) [22,22] [v1,.slice (some (s1.next,0)) 1 (some 1)]=some (.slice a9 (vl++[0]).length c9,s2):=happ
 simp only[Gp,Xe,happ',AH Tryz.underlying22,Qd,Qm,Qo,true_and,Qp,Qq,Qr,Qs,Yc]
 have hsw:Bi (vl++[0]):=hsv.append (fun x hx=>by rw[A1d.1 hx];exact BY)
 rw[← hw]
 refine W2 (s1:=s2) (w:=vl++[0]) (by rw[hw];exact hcu) hsu hsw hc9 hids (by rw[hw];omega) (D:=(Ei ((cu.drop off).zip (vl++[0])) 0).1) _
  (fun s' d y2 y3 y4 y7 y8 ho hd hg'=>?_) (vl++[0]) s2 0 [] _ _ _ rfl (ze _) (Ex.refl _ _ _) (by decide) rfl (by rw[Pj];exact hg.keep (hkeep ui hui))
 subst hd
 simp only[if_true,Qm,Rg,Ri,Rj,Rk,Ro]
 exact hK s' _ (by have:=ho.next;omega) (fun j hj hne hnp=>(ho.get j hne hnp).trans (hkeep j hj)) hg'
end
section
variable{E:CR}{s:AE}
theorem Ef{a:Option (Nat×Nat)}{l:List Nat}{b:Nat}(hc:AS b s a (us l)){n k x:Nat}{cap:Option Nat}(hk:k<n)(hx:l[k]? = some x):
  ∃p,AJ Tryz.prog 22 (.slice a n cap) (iv (k:Int))=some p∧AB Tryz.prog s 76 p=some (A6 x):=by
 obtain⟨i,o,rfl,_,hload⟩:=hc k _ (DG hx)
 exact⟨_,AX Tryz.underlying22 C5 hk,Bq G5 (by rw[zf];exact hload)⟩
theorem UH         {plo vlo : List Nat} {u2 u1 u0 v2 v1 : Nat} {ap av : Option (Nat × Nat)} {cp cv : Option Nat} (hp : AS      s.next s ap (us (plo ++ [u2, u1, u0]))) (hv : AS      s.next s av (us (vlo ++ [v2, v1]))) (hlen : plo.length = vlo.length) (hml : vlo.length ≤ 10000000000) {Q : Az   → Prop} (x2 x4 : AV)
    (hq:∀ (g:Nat) (y6 y7 y8:AV),g<4294967296→AG (plo++[u2,u1,u0]) / AG (vlo++[v2,v1])≤g→g≤AG (plo++[u2,u1,u0]) / AG (vlo++[v2,v1])+1 →
      Q ⟨.exit 0,[.slice ap (vlo.length+3) cp,.slice av (vlo.length+2) cv,x2,iv ((vlo.length+2:Nat):Int),x4,An g,y6,y7,y8],[],s⟩):
    ∀ (g left:Nat) (x7 x8:AV),G4 plo vlo u2 u1 u0 v2 v1 g left→left<4294967296→g≤4294967297 →
      WC E none (.loop L4) Q [.slice ap (vlo.length+3) cp,.slice av (vlo.length+2) cv,x2,iv ((vlo.length+2:Nat):Int),x4,An g,An left,x7,x8] [] s:=by
  have hLB:LB=4294967296:=rfl
  intro g
  induction g with
  | zero =>
    intro left x7 x8 hI hl hg
    have hc2:=hI.c2
    have hc1:=hI.c1
    have hb2:=hI.b2
    rw[hLB]at hc2 hc1 hb2
    have s1:=CT Tryz.prog 3 ((vlo.length+2:Nat):Int) 1 ⟨by omega,by omega⟩
    have s1':((vlo.length+2:Nat):Int) - 1=((vlo.length+1:Nat):Int):=by omega
    have s2:=CT Tryz.prog 3 ((vlo.length+2:Nat):Int) 2 ⟨by omega,by omega⟩
    have s2':((vlo.length+2:Nat):Int) - 2=((vlo.length:Nat):Int):=by omega
    obtain⟨p1,i1,l1⟩:=Ef (cap:=cv) (n:=vlo.length+2) hv (show vlo.length<vlo.length+2 by omega) (x:=v2) (by simp)
    obtain⟨p2,i2,l2⟩:=Ef (cap:=cp) (n:=vlo.length+3) hp (k:=vlo.length) (by omega) (x:=u2) (by rw[← hlen];simp)
    have d0:AN Tryz.prog .gtr 69 (An 0) (.int .u64 4294967295)=some (.bool false):=by kernel_rfl
    have m1:=Sx Tryz.prog 69 (a:=0) (b:=v2) (by omega)
    have m2:AN Tryz.prog .shl 69 (An left) (.int .u64 32)=some (An (left * 4294967296)):=OZ Tryz.prog 69 (k:=.u64) (n:=32) (by decide) (by show left * 4294967296<_;omega)
    have m3:=km Tryz.prog 69 (a:=left) (b:=u2) (by omega) hb2
    have m4:=OY Tryz.prog 69 (a:=0 * v2) (b:=left * 4294967296+u2) .u64
    have m5:decide (left * 4294967296+u2<0 * v2)=false:=decide_eq_false (by omega)
    refine WC.loop' ?_
    simp only[L4,Nq,d0,s2,s2',i1,l1,B7 hc2,m1,m2,i2,l2,B7 hb2,m3,m4,m5,Qa,Qb,Qc,Qd,Qf,Qg,Qh,Qi,Qj,Qk,Qm,Qo,true_and,Qp,Qq,Qr,Qs,Qt,Qv,Qw,Qx,Ra,Rb,Rd,Re,Rg,Rt,Yb,Ru,Rw]
    exact hq 0 _ _ _ (by decide) hI.low (hI.done (by decide) (by omega))
  | succ g ih =>
    intro left x7 x8 hI hl hg
    have hc2:=hI.c2
    have hc1:=hI.c1
    have hb2:=hI.b2
    have hb1:=hI.b1
    have htop:=hI.top
    have hsum:=hI.sum
    rw[hLB]at hc2 hc1 hb2 hb1 hsum
    have s1:=CT Tryz.prog 3 ((vlo.length+2:Nat):Int) 1 ⟨by omega,by omega⟩
    have s1':((vlo.length+2:Nat):Int) - 1=((vlo.length+1:Nat):Int):=by omega
    have s2:=CT Tryz.prog 3 ((vlo.length+2:Nat):Int) 2 ⟨by omega,by omega⟩
    have s2':((vlo.length+2:Nat):Int) - 2=((vlo.length:Nat):Int):=by omega
    obtain⟨p1,i1,l1⟩:=Ef (cap:=cv) (n:=vlo.length+2) hv (show vlo.length<vlo.length+2 by omega) (x:=v2) (by simp)
    obtain⟨p2,i2,l2⟩:=Ef (cap:=cp) (n:=vlo.length+3) hp (k:=vlo.length) (by omega) (x:=u2) (by rw[← hlen];simp)
    obtain⟨p3,i3,l3⟩:=Ef (cap:=cv) (n:=vlo.length+2) hv (show vlo.length+1<vlo.length+2 by omega) (x:=v1) (by simp)
    have m6:AN Tryz.prog .sub 69 (An (g+1)) (.int .u64 1)=some (An g):=by
      have:=Oa Tryz.prog 69 (a:=g+1) (b:=1) (by decide)
      rw[show(g+1+18446744073709551616 - 1) % 18446744073709551616=g by omega]at this
      exact this
    have m7:=IU Tryz.prog 69 (a:=left) (b:=v1) (by omega)
    have m8:AN Tryz.prog .gtr 69 (An (left+v1)) (.int .u64 4294967295)=some (.bool (decide (4294967295<left+v1))):=OY Tryz.prog 69 (b:=4294967295) .u64
    have down:(4294967296≤g+1∨left * 4294967296+u2<(g+1) * v2)→Qa E none (.block 1 (.seq (.ops RH) (.seq (.ops RI) (.seq (.ops RJ) (.cond (.var 8) (.exit 0) .skip))))) (IG (WC E none (.loop L4) Q) Q) [.slice ap (vlo.length+3) cp,.slice av (vlo.length+2) cv,x2,iv ((vlo.length+2:Nat):Int),x4,An (g+1),An left,.bool true,x8] [] s:=by
      intro hc
      obtain⟨_,hI'⟩:=hI.dec (by rw[hLB];exact hc)
      rw[A0r]at hI'
      generalize hW:WC E none (Ac.loop L4) Q=WW
      by_cases hbk:4294967295<left+v1
      · have db : decide (4294967295 < left + v1) = true := decide_eq_true hbk
        have hgB:g<4294967296:=by
          rcases zX g 4294967296 with h | h
          · exact h
          · exfalso
            have h1:4294967297 * v1≤(g+1) * v1:=zq v1 (by omega)
            have h2:u0 * 4294967296≤v1 * 4294967296:=zq _ htop
            omega
        have hle:g * v2≤4294967295 * 4294967295:=A0W (by omega) (by omega)
        have hdone:=hI'.done (by rw[hLB];exact hgB) (by rw[hLB];omega)
        simp only[RH,RI,RJ,m6,s1,s1',i3,l3,B7 hc1,m7,m8,db,Qa,Qb,Qc,Qd,Qf,Qh,Qi,Qj,Qk,Qm,Qo,true_and,Qp,Qq,Qr,Qs,Qt,Qv,Qz,Rb,Rd,Re,Rg,A1t,A1p,A1v,A1m,A1w]
        exact hq g _ _ _ hgB hI'.low hdone
      · have db:decide (4294967295<left+v1)=false:=decide_eq_false hbk
        simp only[RH,RI,RJ,m6,s1,s1',i3,l3,B7 hc1,m7,m8,db,Qa,Qb,Qc,Qd,Qf,Qh,Qi,Qj,Qk,Qm,Qo,true_and,Qp,Qq,Qr,Qs,Qt,Qv,Ra,Rb,Rd,Re,Rg,A1t,A1p,A1v,A1m,A1w]
        rw[← hW]
        exact ih (left+v1) _ _ hI' (by omega) (by omega)
    have d0:AN Tryz.prog .gtr 69 (An (g+1)) (.int .u64 4294967295)=some (.bool (decide (4294967295<g+1))):=OY Tryz.prog 69 (b:=4294967295) .u64
    refine WC.loop' ?_
    generalize hW:WC E none (Ac.loop L4) Q=WW
    rw[hW]at down
    generalize hB:Ac.block 1 (.seq (.ops RH) (.seq (.ops RI) (.seq (.ops RJ) (.cond (.var 8) (.exit 0) .skip))))=BB at down
    have hl8:L4=.seq (.seq (.ops Nq) (.cond (.var 7) .skip (.exit 0))) BB:=by rw[← hB];rfl
    by_cases hgB:4294967295<g+1
    · have db:decide (4294967295<g+1)=true:=decide_eq_true hgB
      rw[hl8]
      generalize hBW:Qa E none BB (IG WW Q)=BW at down
      simp only[Nq,d0,db,hBW,Qa,Qb,Qc,Qd,Qf,Qg,Qh,Qi,Qj,Qk,Qm,Qo,true_and,Qp,Qq,Qr,Qs,Qt,Qu,Qv,Qw,Qx,Qz,Rb,Rd,Rt,Ya,Ru,Rw]
      exact down (.inl (by omega))
    · have db : decide (4294967295 < g + 1) = false := decide_eq_false hgB
      have hgv:(g+1) * v2≤4294967295 * 4294967295:=A0W (by omega) (by omega)
      have m1:=Sx Tryz.prog 69 (a:=g+1) (b:=v2) (by omega)
      have m2:AN Tryz.prog .shl 69 (An left) (.int .u64 32)=some (An (left * 4294967296)):=OZ Tryz.prog 69 (k:=.u64) (n:=32) (by decide) (by show left * 4294967296<_;omega)
      have m3:=km Tryz.prog 69 (a:=left) (b:=u2) (by omega) hb2
      have m4:=OY Tryz.prog 69 (a:=(g+1) * v2) (b:=left * 4294967296+u2) .u64
      by_cases hc:left * 4294967296+u2<(g+1) * v2
      · have m5:decide (left * 4294967296+u2<(g+1) * v2)=true:=decide_eq_true hc
        rw[hl8]
        generalize hBW:Qa E none BB (IG WW Q)=BW at down
        simp only[Nq,d0,db,s2,s2',i1,l1,B7 hc2,m1,m2,i2,l2,B7 hb2,m3,m4,m5,hBW,Qa,Qb,Qc,Qd,Qf,Qg,Qh,Qi,Qj,Qk,Qm,Qo,true_and,Qp,Qq,Qr,Qs,Qt,Qv,Qw,Qx,Qz,Rb,Rd,Rt,Yb,Ru,Rw]
        exact down (.inr hc)
      · have m5:decide (left * 4294967296+u2<(g+1) * v2)=false:=decide_eq_false hc
        rw[hl8]
        generalize hBW:Qa E none BB (IG WW Q)=BW at down
        simp only[Nq,d0,db,s2,s2',i1,l1,B7 hc2,m1,m2,i2,l2,B7 hb2,m3,m4,m5,hBW,Qa,Qb,Qc,Qd,Qf,Qg,Qh,Qi,Qj,Qk,Qm,Qo,true_and,Qp,Qq,Qr,Qs,Qt,Qv,Qw,Qx,Ra,Rb,Rd,Rt,Yb,Ru,Rw]
        exact hq (g+1) _ _ _ (by omega) hI.low (hI.done (by rw[hLB];omega) (by rw[hLB];omega))
theorem fa(hE:GoodN E){plo vlo:List Nat}{u2 u1 u0 v2 v1:Nat}{vp vv:AV}(hp:By s vp (plo++[u2,u1,u0]))(hv:By s vv (vlo++[v2,v1]))(hI:G4 plo vlo u2 u1 u0 v2 v1 ((u0 * LB+u1) / v1) ((u0 * LB+u1) % v1))(hml:vlo.length≤10000000000)(hu0:u0<4294967296){K:AV→AE→Prop}
  (hK:∀g,g<4294967296→AG (plo++[u2,u1,u0]) / AG (vlo++[v2,v1])≤g→g≤AG (plo++[u2,u1,u0]) / AG (vlo++[v2,v1])+1→K (An g) s):WF E 96 [vp,vv] K s:=by
 have hLB:LB=4294967296:=rfl
 have hlen:=hI.len
 obtain⟨ap,cp,rfl,_,hcp⟩:=hp
 obtain⟨av,cv,rfl,_,hcv⟩:=hv
 have hc1:=hI.c1
 have hb1:=hI.b1
 have hbig:=hI.big
 have htop:=hI.top
 rw[hLB]at hc1 hb1 hbig
 have hlp:(plo++[u2,u1,u0]).length=vlo.length+3:=by simp[hlen]
 have hlv:(vlo++[v2,v1]).length=vlo.length+2:=by simp
 rw[hlp,hlv]
 have s1:=CT Tryz.prog 3 ((vlo.length+2:Nat):Int) 1 ⟨by omega,by omega⟩
 have s1':((vlo.length+2:Nat):Int) - 1=((vlo.length+1:Nat):Int):=by omega
 obtain⟨p1,i1,l1⟩:=Ef (cap:=cp) (n:=vlo.length+3) hcp (k:=vlo.length+2) (by omega) (x:=u0) (by rw[← hlen];simp)
 obtain⟨p2,i2,l2⟩:=Ef (cap:=cp) (n:=vlo.length+3) hcp (k:=vlo.length+1) (by omega) (x:=u1) (by rw[← hlen];simp)
 obtain⟨p3,i3,l3⟩:=Ef (cap:=cv) (n:=vlo.length+2) hcv (show vlo.length+1<vlo.length+2 by omega) (x:=v1) (by simp)
 have m2:AN Tryz.prog .shl 69 (An u0) (.int .u64 32)=some (An (u0 * 4294967296)):=OZ Tryz.prog 69 (k:=.u64) (n:=32) (by decide) (by show u0 * 4294967296<_;omega)
 have m3:=km Tryz.prog 69 (a:=u0) (b:=u1) (by omega) hb1
 have m4:=sW Tryz.prog 69 (a:=u0 * 4294967296+u1) (b:=v1) (by omega) (by omega)
 have m5:=sX Tryz.prog 69 (a:=u0 * 4294967296+u1) (b:=v1) (by omega)
 rw[hLB]at hI
 have hsum:=hI.sum
 rw[hLB]at hsum
 have hl:(u0 * 4294967296+u1) % v1<v1:=A0E _ (by omega)
 have hgle:(u0 * 4294967296+u1) / v1≤4294967297:=by
  rw[← Nat.lt_succ_iff,A0a (by omega)]
  have:u0 * 4294967296≤v1 * 4294967296:=zq _ htop
  show _<4294967298 * v1
  omega
 refine hE.go uQ (by decide) rfl ?_
 simp only[zP,rJ,rK,rL,rM,AH Tryz.underlying22,s1,s1',i1,l1,i2,l2,i3,l3,B7 hu0,B7 hb1,B7 hc1,m2,m3,m4,m5,Qa,Qb,Qc,Qd,Qf,Qh,Qi,Qj,Qk,Ql,Qm,Qo,true_and,Qp,Qq,Qr,Qs,Qt,Qv,Rb,Rh,Rk,Rm,Rn,Yc,A1s,A1p,A1v,A1m,A1w]
 refine UH hcp hcv hlen hml _ _ (fun g y6 y7 y8 g1 g2 g3=>?_) _ _ _ _ hI (by omega) hgle
 simp only[rN,if_true,Qb,Qc,Qd,Qf,Qh,Qj,Qm,Qo,true_and,Qp,Qq,Qr,Qs,Qt,Qv,Rb,Rd,Rg,Rj,A1p]
 exact hK g g1 g2 g3
end
theorem By.keep{s s':AE}{v:AV}{l:List Nat}(h:By s v l)(hn:s.next≤s'.next)(hf:∀j,B6 v=some j→j<s.next→s'.heap.get j=s.heap.get j):By s' v l:=by
  obtain⟨a,cap,rfl,h2,h3⟩:=h
  refine⟨a,cap,rfl,?_,fun k u hu=>?_⟩
  · rcases h2 with h2 | ⟨g1, i, o, r, rfl, g3, g4, g5⟩
    · exact .inl h2
    · exact .inr ⟨g1,i,o,r,rfl,by omega,by rw[hf i rfl g3];exact g4,g5⟩
  · obtain⟨i,o,rfl,g2,g3⟩:=h3 k u hu
    exact⟨i,o,rfl,by omega,by rw[CS (hf i rfl g2)];exact g3⟩
theorem jp{s:AE}{i lo hi n:Nat}{cs:List AV}{p:Option Nat}(h:Ck s i cs p)(hi':i<s.next)(h1:lo≤hi)(h2:hi≤cs.length):
  At Tryz.prog 22 true true false s [.slice (some (i,0)) n none,iv (lo:Int),iv (hi:Int)]=some (.slice (some (i,lo)) (hi - lo) none):=by
 obtain⟨r,g1,g2,_,g4,_⟩:=h
 have hrow:rowAt s i=some r:=by unfold rowAt;rw[g1]
 have hrn:r.n=cs.length:=g2.1
 show Bo Tryz.prog s 22 (.slice (some (i,0)) n none) (some (iv (lo:Int))) (some (iv (hi:Int))) none=_
 have hb1:Bn (iv (hi:Int)) ((r.n - 0) / 1)=some hi:=by simp[Bn,F8,AQ,CU (show hi≤r.n by omega),D3]
 have hb2:Bn (iv (lo:Int)) hi=some lo:=by simp[Bn,F8,AQ,CU h1,D3]
 have hsz:Nat.beq 1 r.sz=true:=Fq g4.symm
 simp only[Bo,Tryz.underlying22,C5,hrow,hsz,AQ,hb1,hb2,CU (ze r.n),show Nat.beq 1 0=false from rfl,Option.bind_some,Bool.true_and,Bool.and_true,Bool.not_false,cond_true]
 simp
theorem SU{s:AE}{i lo m:Nat}{cu:List Nat}{p:Option Nat}(h:Ck s i (us cu) p)(hi':i<s.next)(h2:lo+m≤cu.length):By s (.slice (some (i,lo)) m none) ((cu.drop lo).take m):=by
 have hc:=Hn h hi'
 obtain⟨r,g1,g2,_,g4,_⟩:=h
 have hrn:r.n=cu.length:=by rw[g2.1,DW]
 have hl:((cu.drop lo).take m).length=m:=by rw[zo,A0C];omega
 refine⟨some (i,lo),none,by rw[hl],.inr ⟨rfl,i,lo,r,rfl,hi',g1,g4,by rw[hl];omega⟩,fun k u hu=>?_⟩
 have hk:k<m:=by
  rcases zX k m with h' | h'
  ·exact h'
  ·rw[zj (by rw[DW,hl];exact h')]at hu;cases hu
 have hu':(us cu)[lo+k]? = some u:=by
  rw[WY,A0m hk]at hu
  unfold us at hu ⊢
  rw[List.map_drop,A0Z]at hu
  exact hu
 obtain⟨i',o',e,q2,q3⟩:=hc (lo+k) u hu'
 injection e with e
 injection e with e1 e2
 subst e1;subst e2
 rw[zk]at q3
 exact⟨i,lo,rfl,q2,q3⟩
section
variable{E:CR}{s:AE}
structure yH(s0:AE)(ui qi:Nat)(pp:Option Nat)(U0 V:List Nat)(S:AE)(cu qs:List Nat)(k:Nat):Prop where
 next:s0.next≤S.next
 keep:∀j,j<s0.next→j≠ui→some j≠pp→j≠qi→S.heap.get j=s0.heap.get j
 u:Ck S ui (us cu) pp
 q:Ck S qi (us qs) none
 inv:TC U0 V cu qs k
 qlen:qs.length+V.length=U0.length
set_option maxHeartbeats 1000000 in
theorem fE       (hE : GoodN E) {s0 : AE}  {ui qi : Nat} {pp : Option Nat} (hui : ui < s0.next) (hqi : qi < s0.next) (hne : ui ≠ qi) (hpp : ∀ q, pp = some q → q < s0.next ∧ q ≠ qi) {U0 vlo : List Nat} {v2 v1 : Nat} (hsV : Bi  (vlo ++ [v2, v1])) (hv1 : 2147483648 ≤ v1) (hul : U0.length ≤ 10000000000)
    {vv:AV} (hvv:By s0 vv (vlo++[v2,v1])) (hvs:∀j,B6 vv=some j→j≠ui∧some j≠pp∧j≠qi) {Q:Az→Prop} (a0 a1 a3 a4 a5 a6 a7 a13 a14 a15 a16:AV)
    (hq:∀ (S:AE) (cu qs:List Nat) (y10 y11 y12 y17 y18:AV),yH s0 ui qi pp U0 (vlo++[v2,v1]) S cu qs 0 →
      Q ⟨.exit 3,[a0,a1,.slice (some (qi,0)) (U0.length - (vlo.length+2)) (some (U0.length - (vlo.length+2))),a3,a4,a5,a6,a7,.slice (some (ui,0)) U0.length none,vv,y10,y11,y12,a13,a14,a15,a16,y17,y18],[],S⟩):
    ∀ (k:Nat) (S:AE) (cu qs:List Nat) (x11 x12 x17 x18:AV),yH s0 ui qi pp U0 (vlo++[v2,v1]) S cu qs k→k+(vlo.length+2)≤U0.length →
      WC E none (.loop Jy) Q [a0,a1,.slice (some (qi,0)) (U0.length - (vlo.length+2)) (some (U0.length - (vlo.length+2))),a3,a4,a5,a6,a7,.slice (some (ui,0)) U0.length none,vv,iv ((k:Int) - 1),x11,x12,a13,a14,a15,a16,x17,x18] [] S:=by
  have hLB:LB=4294967296:=rfl
  have hVl:(vlo++[v2,v1]).length=vlo.length+2:=by simp
  have hv1b:v1<LB:=hsV v1 (by simp)
  have hv2b:v2<LB:=hsV v2 (by simp)
  have hVpos:0<AG (vlo++[v2,v1]):=by
    rw[JN]
    have h2:0<v1 * LB+v2:=by have:=A1B (show 0<v1 by omega) BY;omega
    have:=A1B (A0f BY (n:=vlo.length)) h2
    omega
  intro k
  induction k with
  | zero =>
    intro S cu qs x11 x12 x17 x18 hS hk
    have d0:decide ((0:Int)≤((0:Nat):Int) - 1)=false:=rfl
    refine WC.loop' ?_
    simp only[Jy,Tv,Wb,d0,Qa,Qb,Qc,Qd,Qf,Qh,Qi,Qj,Qm,Qo,true_and,Qp,Qq,Qr,Qs,Qt,Qv,Ra,Rb,Rd,Re,Wb]
    exact hq S cu qs _ _ _ _ _ hS
  | succ k ih =>
    intro S cu qs x11 x12 x17 x18 hS hk
    have hcl:cu.length=U0.length:=hS.inv.len
    have hql:qs.length=U0.length - (vlo.length+2):=by have:=hS.qlen;rw[hVl]at this;omega
    have hkq:k<qs.length:=by omega
    obtain⟨p1,p2,p3⟩:=hS.inv.part hsV hVpos (by rw[hVl];omega)
    have hw1:((vlo++[v2,v1])++[0]).length=(vlo++[v2,v1]).length+1:=by rw[zg];rfl
    have hpl:((cu.drop k).take ((vlo++[v2,v1]).length+1)).length=vlo.length+3:=by rw[zo,A0C,hVl];omega
    have hps:Bi ((cu.drop k).take ((vlo++[v2,v1]).length+1)):=(hS.inv.sm.drop k).take _
    have hplt:AG ((cu.drop k).take ((vlo++[v2,v1]).length+1))<AG (vlo++[v2,v1]) * LB:=by rw[p1];exact p2
    have hpart:=SU hS.u (zZ hui hS.next) (lo:=k) (m:=(vlo++[v2,v1]).length+1) (by rw[hVl];omega)
    have hzip:=Hj (cu.drop k) ((vlo++[v2,v1])++[0])
    rw[hw1]at hzip
    have hdig:=fun g h1 h2 h3=>fD (p:=(cu.drop k).take ((vlo++[v2,v1]).length+1)) (v:=vlo++[v2,v1]) (by rw[hpl,hVl]) hps hsV hVpos (g:=g) h1 h2 h3
    rw[hzip]at hdig
    have hstep:∀D:List Nat,D.length=(vlo++[v2,v1]).length+1→Bi D→AG D=AG ((cu.drop k).take ((vlo++[v2,v1]).length+1)) % AG (vlo++[v2,v1])→∀x:Nat,x=AG ((cu.drop k).take ((vlo++[v2,v1]).length+1)) / AG (vlo++[v2,v1]) →
        TC U0 (vlo++[v2,v1]) (GR cu k D) (qs.set k x) k:=fun D hD hDs hDv x hx=>by
      have:=hS.inv.step hsV hVpos (by rw[hVl];omega) hkq hD hDs hDv hx
      unfold GR
      rw[hD,← A0H]
      exact this
    have hxB:AG ((cu.drop k).take ((vlo++[v2,v1]).length+1)) / AG (vlo++[v2,v1])<4294967296:=by
      rw[← hLB,A0a hVpos,zt]
      exact hplt
    have hDl:=fun g=>KW g ((cu.drop k).zip ((vlo++[v2,v1])++[0])) 0 0
    have hDs:=fun g=>Hi g ((cu.drop k).zip ((vlo++[v2,v1])++[0])) 0 0
    have hzl:((cu.drop k).zip ((vlo++[v2,v1])++[0])).length=(vlo++[v2,v1]).length+1:=by rw[A1F,hw1,A0C,hVl];omega
    obtain⟨plo,u2,u1,u0,hpe,hplo⟩:∃plo u2 u1 u0,(cu.drop k).take ((vlo++[v2,v1]).length+1)=plo++[u2,u1,u0]∧plo.length=vlo.length:=by
      obtain⟨l1,t1,e1,f1⟩:=Fm (n:=vlo.length+2) (by rw[hpl])
      obtain⟨l2,t2,e2,f2⟩:=Fm (n:=vlo.length+1) f1
      obtain⟨l3,t3,e3,f3⟩:=Fm (n:=vlo.length) f2
      exact⟨l3,t3,t2,t1,by rw[e1,e2,e3];simp,f3⟩
    have hu0:u0<LB:=by rw[hpe]at hps;exact hps u0 (by simp)
    have hG:G4 plo vlo u2 u1 u0 v2 v1 ((u0 * LB+u1) / v1) ((u0 * LB+u1) % v1):=by
      rw[hpe]at hps hplt
      exact G4.start (u0:=u0) hplo (fun x hx=>hps x (A1H _ hx)) (fun x hx=>hsV x (A1H _ hx)) (hps u2 (by simp)) (hps u1 (by simp)) hv2b hv1b (by rw[hLB];omega) hplt
    have hvS:By S vv (vlo++[v2,v1]):=hvv.keep hS.next fun j hj hjl=>by
      obtain⟨g1,g2,g3⟩:=hvs j hj
      exact hS.keep j hjl g1 g2 g3
    have hguess:=fun K hK=>fa (s:=S) (K:=K) (vp:=.slice (some (ui,k)) ((vlo++[v2,v1]).length+1) none) hE (by rw[← hpe];exact hpart) hvS hG (by omega) (by rw[← hLB];exact hu0) hK
    rw[← hpe]at hguess
    obtain⟨av,cv,rfl,_,_⟩:=id hvv
    have e0:((k+1:Nat):Int) - 1=(k:Int):=by omega
    have d0:decide ((0:Int)≤(k:Int))=true:=decide_eq_true (by omega)
    have i1:=Ax Tryz.prog 3 (k:Int) (((vlo++[v2,v1]).length:Nat):Int) ⟨by omega,by omega⟩
    have i2:=Ax Tryz.prog 3 ((k:Int)+(((vlo++[v2,v1]).length:Nat):Int)) 1 ⟨by omega,by omega⟩
    have i2':(k:Int)+(((vlo++[v2,v1]).length:Nat):Int)+1=((k+((vlo++[v2,v1]).length+1):Nat):Int):=by omega
    have i3:=jp (n:=U0.length) hS.u (zZ hui hS.next) (lo:=k) (hi:=k+((vlo++[v2,v1]).length+1)) (by omega) (by rw[DW];omega)
    have i3':k+((vlo++[v2,v1]).length+1) - k=(vlo++[v2,v1]).length+1:=by omega
    rw[i3']at i3
    have e10:=CT Tryz.prog 3 (k:Int) 1 ⟨by omega,by omega⟩
    have e11:=AX (cap:=some (U0.length - (vlo.length+2))) (i:=qi) (o:=0) Tryz.underlying22 C5 (show k<U0.length - (vlo.length+2) by omega)
    rw[zf,zk]at e11
    have hpS:∀q,pp=some q→q<S.next:=fun q hq=>zZ (hpp q hq).1 hS.next
    have last:∀ (S2:AE) (D:List Nat) (x:Nat) (y18:AV),S.next≤S2.next→(∀j,j<S.next→j≠ui→some j≠pp→S2.heap.get j=S.heap.get j)→Ck S2 ui (us (GR cu k D)) pp→D.length=(vlo++[v2,v1]).length+1→Bi D →
        AG D=AG ((cu.drop k).take ((vlo++[v2,v1]).length+1)) % AG (vlo++[v2,v1])→x=AG ((cu.drop k).take ((vlo++[v2,v1]).length+1)) / AG (vlo++[v2,v1]) →
        Qb E Tw (fun v s'=>Qb E Tx (fun v s'=>WC E none (.loop Jy) Q v [] s') [] v s') [] [a0,a1,.slice (some (qi,0)) (U0.length - (vlo.length+2)) (some (U0.length - (vlo.length+2))),a3,a4,a5,a6,a7,.slice (some (ui,0)) U0.length none,.slice av (vlo++[v2,v1]).length cv,iv (k:Int),.slice (some (ui,k)) ((vlo++[v2,v1]).length+1) none,An x,a13,a14,a15,a16,.bool true,y18] S2:=by
      intro S2 D x y18 n2 f2 o2 hDl hDs hDv hx
      have hxb:x<4294967296:=by rw[hx];exact hxB
      have hq2:Ck S2 qi (us qs) none:=hS.q.keep (f2 qi (zZ hqi hS.next) (Ne.symm hne) (fun e=>(hpp qi e.symm).2 rfl))
      obtain⟨S3,st,w1,w2,w3⟩:=Ec (P:=Tryz.prog) (t:=76) (v:=A6 x) (o:=k) C5 hq2 (by rw[DW];exact hkq) rfl
      rw[Ix]at w1
      have ex:x % 4294967296=x:=A0I hxb
      simp only[Tw,Tx,CP,ex,e11,st,e10,Xy,Za,Qb,Qc,Qd,Qf,Qh,Qi,Qj,Qk,Qm,Qo,true_and,Qp,Qq,Qr,Qs,Qt,Qv,A1v,A1o,A1t,A1p]
      refine ih S3 (GR cu k D) (qs.set k x) _ _ _ _ ⟨by have:=hS.next;omega,fun j hj j1 j2 j3=>?_,?_,w1,hstep D hDl hDs hDv x hx,by rw[A0j];exact hS.qlen⟩ (by omega)
      · rw[w3 j j3 (fun e=>by cases e),f2 j (zZ hj hS.next) j1 j2]
        exact hS.keep j hj j1 j2 j3
      · exact o2.keep (w3 ui hne (fun e=>by cases e))
    refine WC.loop' ?_
    generalize hW:WC E none (Ac.loop Jy) Q=WW
    rw[hW]at last
    rw[e0]
    simp only[Jy,Tv,dJ,dK,Wb,d0,AH Tryz.underlying22,i1,i2,i2',i3,Qa,Qb,Qc,Qd,Qf,Qh,Qi,Qj,Qk,Qm,Qo,true_and,Qp,Qq,Qr,Qs,Qt,Qv,Qz,Rb,Rd,Re,Wb,A1s,A1w,A1p,A1u]
    refine hguess _ fun g g1 g2 g3=>?_
    obtain⟨dg1,dg2⟩:=hdig g g2 g3 (by rw[hLB];exact g1)
    have hDl:=hDl g
    have hDs:=hDs g
    rw[hzl]at hDl
    simp only[dL,Qb,Qc,Qd,Qf,Qh,Qj,Qo,true_and,Qp,Qq,Qr,Qs,Qt,Qv]
    refine kg hE g1 (zZ hui hS.next) hpS hS.u (off:=k) (vl:=vlo++[v2,v1]) (by rw[hVl];omega) hS.inv.sm hsV hvS (by rw[hVl];omega) fun S2 n2 f2 o2=>?_
    generalize Cc g ((cu.drop k).zip ((vlo++[v2,v1])++[0])) 0 0=T at *
    obtain⟨D,c,br⟩:=T
    simp only at *
    by_cases hbr:br=0
    · obtain⟨r1,r2⟩:=dg1 hbr
      have db:decide (0<br)=false:=decide_eq_false (by omega)
      simp only[db,Qd,Qo,true_and,Qp,Qq,Qr,Qs,Ra]
      exact last S2 D g (.bool false) n2 f2 o2 hDl hDs r2 r1
    · obtain⟨r1,r2⟩:=dg2 hbr
      have db:decide (0<br)=true:=decide_eq_true (by omega)
      have hg1:1≤g:=zY (Nat.succ_le_succ (ze _)) (A0L r1.symm)
      have hvS2:By S2 (.slice av (vlo++[v2,v1]).length cv) (vlo++[v2,v1]):=hvS.keep n2 fun j hj hjl=>by
        obtain⟨q1,q2,q3⟩:=hvs j hj
        exact f2 j hjl q1 q2
      have hml:(GR cu k D).length=cu.length:=Hv (by rw[hDl,hVl];omega)
      have hms:Bi (GR cu k D):=((hS.inv.sm.take k).append hDs).append (hS.inv.sm.drop _)
      have hmd:((GR cu k D).drop k).zip ((vlo++[v2,v1])++[0])=D.zip ((vlo++[v2,v1])++[0]):=by
        unfold GR
        rw[A0O,A1X (by rw[zo];omega)]
        exact iM (by rw[hDl,hw1]) _
      have m6:AN Tryz.prog .sub 69 (An g) (.int .u64 1)=some (An (g - 1)):=by
        have:=Oa Tryz.prog 69 (a:=g) (b:=1) (by decide)
        rw[show(g+18446744073709551616 - 1) % 18446744073709551616=g - 1 by omega]at this
        exact this
      simp only[db,dN,Qb,Qc,Qd,Qf,Qh,Qj,Qo,true_and,Qp,Qq,Qr,Qs,Qt,Qv,Qz,A1u]
      refine iW hE (zZ hui (zY hS.next n2)) (fun q hq=>zZ (hpS q hq) n2) o2 (off:=k) (vl:=vlo++[v2,v1]) (by rw[hVl];omega) hms hsV hvS2 (by rw[hVl];omega) fun S3 y n3 f3 o3=>?_
      rw[hmd]at o3
      have hOl:=I0 (D.zip ((vlo++[v2,v1])++[0])) 0
      have hOs:=GU (D.zip ((vlo++[v2,v1])++[0])) 0
      rw[A1F,hw1,hDl,Nat.min_self]at hOl
      generalize (Ei (D.zip ((vlo++[v2,v1])++[0])) 0).1=O at *
      have hmm:GR (GR cu k D) k O=GR cu k O:=by
        unfold GR
        have htk:(cu.take k).length=k:=by rw[zo];omega
        have e1:(cu.take k++D++cu.drop (k+D.length)).take k=cu.take k:=by rw[A0O,List.take_left' htk]
        have e2:(cu.take k++D++cu.drop (k+D.length)).drop (k+O.length)=cu.drop (k+O.length):=by
          rw[hOl,← hDl]
          rw[A1X (by rw[zg,htk])]
        rw[e1,e2]
      rw[hmm]at o3
      simp only[dO,m6,Qb,Qc,Qd,Qf,Qh,Qi,Qj,Qk,Qm,Qo,true_and,Qp,Qq,Qr,Qs,Qt,Qv,A1t,A1p]
      exact last S3 O (g - 1) (.bool true) (zY n2 n3) (fun j hj j1 j2=>(f3 j (zZ hj n2) j1 j2).trans (f2 j hj j1 j2)) o3 hOl hOs r2 (by rw[r1,A0r])
end
section
variable(P:Program)(t:TypeId){a:Nat}
theorem ki{k:IntKind}{n:Nat}(hn:n≤32):AN P .shl t (A6 a) (.int k (n:Int))=some (A6 (a * 2 ^ n % 4294967296)):=by
 show(DM P (Op.shift .shl .u32 (a:Int) k (n:Int))).bind ofValue=_
 unfold Op.shift
 rw[if_neg (by omega)]
 show some (AV.int .u32 (IntKind.wrap .u32 ((a:Int) * 2 ^ min (n:Int).toNat 32)))=_
 rw[show min (n:Int).toNat 32=n by omega,GA]
 congr 2
theorem kj{k:IntKind}{n:Nat}(hn:n≤32):AN P .shr t (A6 a) (.int k (n:Int))=some (A6 (a / 2 ^ n)):=by
 show(DM P (Op.shift .shr .u32 (a:Int) k (n:Int))).bind ofValue=_
 unfold Op.shift
 rw[if_neg (by omega)]
 show some (AV.int .u32 ((a:Int).fdiv (2 ^ min (n:Int).toNat 32)))=_
 rw[show min (n:Int).toNat 32=n by omega]
 congr 2
 rw[show((2:Int) ^ n)=((2 ^ n:Nat):Int) by push_cast;rfl]
 exact(Int.ofNat_fdiv a (2 ^ n)).symm
end
theorem Ff{s:AE}{loc var:List AV}(f:AE→List AV→Option AV)(xs:List CX)(a:CX):Et s loc var ⟨none,.r f,xs,a⟩=M9 (f s (Qh loc var xs)) (C9 loc var a):=by
 have:∀l:List CX,D8 loc var l=Qh loc var l:=by
  intro l
  induction l with
  | nil=>rfl
  | cons x l ih=>show C9 loc var x::D8 loc var l=C9 loc var x::Qh loc var l;rw[ih]
 show(!Bv loc var none || M9 (E0 (.r f) (D8 loc var xs) s) (C9 loc var a))=_
 rw[this]
 rfl
theorem Ao(u v:AV):M9 (some u) v=Fs u v:=rfl
theorem MF(n:Int):Fs (iv n) (iv n)=true:=by simp[Fs,Ev,CC]
section
variable{E:CR}{s:AE}
theorem XY{b:Option (Nat×Nat)}{cb:Option Nat}{lo:List Nat}{bt:Nat}(hc:AS s.next s b (us (lo++[bt])))(hbt:0<bt)(hb:bt<4294967296)(hl:lo.length≤10000000000){Q:Az→Prop}(a0 a2 a3 a4 a5 a6 a8 a9 a10 a11 a12 a13 a14 a15 a17 a18:AV)
  (hq:∀ (n:Nat) (y16:AV),n≤31→2147483648≤bt * 2 ^ n→bt * 2 ^ n<4294967296→Q ⟨.exit 1,[a0,.slice b (lo.length+1) cb,a2,a3,a4,a5,a6,An n,a8,a9,a10,a11,a12,a13,a14,a15,y16,a17,a18],[],s⟩):
  ∀ (m n:Nat) (x16:AV),n+m=32→bt * 2 ^ n<4294967296→WC E none (.loop Ly) Q [a0,.slice b (lo.length+1) cb,a2,a3,a4,a5,a6,An n,a8,a9,a10,a11,a12,a13,a14,a15,x16,a17,a18] [] s:=by
 intro m
 induction m with
 | zero =>
  intro n x16 hn hlt
  exfalso
  have:n=32:=by omega
  subst this
  have e:(2:Nat) ^ 32=4294967296:=by decide
  rw[e]at hlt
  have:=zq 4294967296 hbt
  omega
 | succ m ih =>
  intro n x16 hn hlt
  have s1:=CT Tryz.prog 3 ((lo.length+1:Nat):Int) 1 ⟨by omega,by omega⟩
  have s1':((lo.length+1:Nat):Int) - 1=(lo.length:Int):=by omega
  obtain⟨p1,i1,l1⟩:=Ef (cap:=cb) (n:=lo.length+1) hc (k:=lo.length) (by omega) (x:=bt) (by simp)
  have m1:=ki Tryz.prog 76 (a:=bt) (k:=.u64) (n:=n) (by omega)
  rw[A0I hlt]at m1
  have m2:AN Tryz.prog .shr 76 (A6 (bt * 2 ^ n)) (.int .u64 31)=some (A6 (bt * 2 ^ n / 2147483648)):=kj Tryz.prog 76 (k:=.u64) (n:=31) (by decide)
  have m3:AN Tryz.prog .eql 76 (A6 (bt * 2 ^ n / 2147483648)) (.int .u32 0)=some (.bool (decide (bt * 2 ^ n / 2147483648=0))):=iG Tryz.prog 76 (b:=0) .u32
  have m4:AN Tryz.prog .add 113 (An n) (.int .u64 1)=some (An (n+1)):=IU Tryz.prog 113 (b:=1) (by omega)
  refine WC.loop' ?_
  generalize hW:WC E none (Ac.loop Ly) Q=WW
  by_cases h:2147483648≤bt * 2 ^ n
  ·have db:decide (bt * 2 ^ n / 2147483648=0)=false:=decide_eq_false (by omega)
   simp only[Ly,Tu,AH Tryz.underlying22,s1,s1',i1,l1,m1,m2,m3,db,Qa,Qb,Qc,Qd,Qf,Qh,Qi,Qj,Qk,Qm,Qo,true_and,Qp,Qq,Qr,Qs,Qt,Qv,Ra,Rb,Rd,Re,A1s,A1v,A1m,A1w]
   exact hq n _ (by omega) h hlt
  ·have db:decide (bt * 2 ^ n / 2147483648=0)=true:=decide_eq_true (by omega)
   simp only[Ly,Tu,dF,AH Tryz.underlying22,s1,s1',i1,l1,m1,m2,m3,db,m4,Qa,Qb,Qc,Qd,Qf,Qh,Qi,Qj,Qk,Qm,Qo,true_and,Qp,Qq,Qr,Qs,Qt,Qv,Qz,Rb,Rd,Re,A1s,A1v,A1m,A1w,A1t,A1p]
   rw[← hW]
   exact ih (n+1) _ (by omega) (by rw[zy,← zu];omega)
theorem Vu      (hE : GoodN E) {va vb : AV} {la lb : List Nat} (ha : By  s va la) (hb : By  s vb lb) (hla : la.length ≤ 1000000000) (hlb : lb.length ≤ 1000000000) (hsa : Bi  la) (hsb : Bi  lb) {K : AV → AE  → Prop}
    (hK0:AG lb=0→∀s',Aa s.next s s'→K (.tuple [.slice none 0 (some 0),.slice none 0 (some 0),iv 3]) s')
    (hK1:AG lb≠0→∀s' vq vr,Aa s.next s s'→NR s.next s' vq (AR (AG la / AG lb))→NR s.next s' vr (AR (AG la % AG lb))→(AG la<AG lb→vq=.slice none 0 (some 0))→K (.tuple [vq,vr,iv 0]) s'):WF E 50 [va,vb] K s:=by
  have hLB:LB=4294967296:=rfl
  refine hE.go tj (by decide) rfl ?_
  simp only[yj,oI,oJ,Qa,Qb,Qc,Qd,Qf,Qh,Qi,Qj,Qk,Ql,Qm,Qo,true_and,Qp,Qq,Qr,Qt,Qv,Rb,Rc,Re,Rf,Rh,Rk,Rm,Rp,Yc,A1p,A1t,A1u]
  refine C8 hE ha (by omega) fun s1 v1 o1 r1=>?_
  simp only[Qd,Qo,true_and,Qr,Qs]
  refine C8 hE (hb.old o1) (by omega) fun s2 v2 o2 r2=>?_
  have t1:=FN la
  have t2:=FN lb
  have R1:NR s.next s2 v1 (AR (AG la)):=by have:=r1.old o2;rw[B8 hsa]at this;exact this
  have R2:NR s.next s2 v2 (AR (AG lb)):=by have:=r2.mono o1.1;rw[B8 hsb]at this;exact this
  rw[B8 hsa]at t1
  rw[B8 hsb]at t2
  have oS:Aa s.next s s2:=o1.trans (o2.mono o1.1)
  have n1:=R1.n32
  have n2:=R2.n32
  clear r1 r2 o1 o2 ha hb hsa hsb
  generalize AG la=A at *
  generalize AG lb=B at *
  have hsA:=AT A
  have hsB:=AT B
  have hvA:=AY A
  have hvB:=AY B
  obtain⟨b,cb,rfl,hcapb,hcb⟩:=id n2
  by_cases hB0:B=0
  · subst hB0
    have hl0:(AR 0).length=0:=by rw[BN];rfl
    have d0:decide (((AR 0).length:Int)=0)=true:=decide_eq_true (by omega)
    simp only[dM,oK,AH Tryz.underlying22,Wc,d0,Qb,Qc,Qd,Qf,Qh,Qi,Qj,Qk,Qm,Qo,true_and,Qp,Qq,Qr,Qs,Qt,Qv,Qz,Rj,Wc,A1s,A1p]
    exact hK0 rfl s2 oS
  · have hBl : (AR    B).length ≠ 0 := fun e => Cz       hB0 (A0w                           e)
    have d0:decide (((AR B).length:Int)=0)=false:=decide_eq_false (by omega)
    simp only[dM,oL,AH Tryz.underlying22,Wc,d0,Qb,Qc,Qd,Qf,Qh,Qi,Qj,Qk,Qm,Qo,true_and,Qp,Qq,Qr,Qs,Qt,Qv,Ra,Wc,A1s,A1p,A1u]
    refine ef hE n1 n2 (by omega) (by omega) hsA hsB fun s3 o3=>?_
    rw[hvA,hvB]
    have oS3:Aa s.next s s3:=oS.trans (o3.mono oS.1)
    have R1':=R1.old o3
    have n1':=n1.old o3
    have n2':=n2.old o3
    by_cases hlt:A<B
    · have ec : IE   A B = -1 := by unfold IE;   rw [if_pos hlt]
      have d1:decide ((-1:Int)<0)=true:=by decide
      simp only[ec,Ry,d1,oM,Qb,Qc,Qd,Qf,Qh,Qi,Qj,Qm,Qo,true_and,Qp,Qq,Qr,Qs,Qt,Qv,Qz,Rj,Ry,A1p]
      refine hK1 hB0 s3 _ _ oS3 ?_ ?_ (fun _=>rfl)
      · rw[A0n hlt,BN];exact NR.nil _ _
      · rw[A0I hlt];exact R1'
    · have d1:decide (IE A B<0)=false:=by
        unfold IE
        rw[if_neg hlt]
        split<;>decide
      by_cases h1:(AR B).length=1
      · have d2:decide (((AR B).length:Int)=1)=true:=decide_eq_true (by omega)
        obtain⟨y,hy⟩:∃y,AR B=[y]:=by
          match hlb:AR B,h1 with
          | [y],_=>exact⟨y,rfl⟩
        have hyB:y=B:=by
          have:=hvB
          rw[hy]at this
          show y=B
          have e:AG [y]=y:=by show y+LB * 0=y;omega
          rw[e]at this;exact this
        subst hyB
        have hy32:y<4294967296:=by have:=hsB y (by rw[hy];simp);exact this
        obtain⟨p1,i1,l1⟩:=Ef (cap:=cb) (n:=(AR y).length) (hcb.old o3 (zU _)) (k:=0) (by omega) (x:=y) (by rw[hy];rfl)
        have i1':AJ Tryz.prog 22 (.slice b (AR y).length cb) (.int .i64 0)=some p1:=i1
        simp only[Ry,d1,dR,oN,AH Tryz.underlying22,Wc,d2,i1',l1,B7 hy32,Qb,Qc,Qd,Qf,Qh,Qi,Qj,Qk,Qm,Qo,true_and,Qp,Qq,Qr,Qs,Qt,Qv,Qz,Ra,Rj,Zb,Ry,Wc,A1s,A1p,A1m,A1u]
        refine Sm hE n1' (by omega) hsA (x:=y) (by omega) (by omega) fun s4 vq o4 r4=>?_
        obtain⟨w1,w2,w3⟩:=Eb (show 0<y by omega) (AR A)
        rw[hvA]at w1
        have hsq:=Gs (show 0<y by omega) hsA
        generalize Bg y (AR A)=T at *
        have hq:AG T.1=A / y:=by
          rw[w1,Nat.mul_add_div (by omega),A0n w2,zv]
        have hr:T.2=A % y:=by
          rw[w1,Nat.mul_add_mod,A0I w2]
        rw[B8 hsq,hq]at r4
        rw[hr]
        simp only[oO,Qb,Qc,Qd,Qf,Qh,Qi,Qj,Qk,Qm,Qo,true_and,Qp,Qq,Qr,Qs,Qt,Qv,Yd,Ye,A1u,A1p]
        refine V3 hE (n:=A % y) (by have:=A0E A (show 0<y by omega);omega) fun s5 vr o5 r5=>?_
        simp only[Qd,Qo,true_and,Qp,Qq,Qr,Qs]
        exact hK1 hB0 s5 vq vr (oS3.trans ((o4.mono oS3.1).trans (o5.mono (zY oS3.1 o4.1)))) ((r4.old o5).mono oS3.1) (r5.mono (zY oS3.1 o4.1)) (fun h=>absurd h hlt)
      · have d2:decide (((AR B).length:Int)=1)=false:=decide_eq_false (by omega)
        obtain⟨lo,bt,hlo,hlol⟩:=Fm (n:=(AR B).length - 1) (l:=AR B) (by omega)
        obtain⟨m,hm⟩:∃m,lo.length=m+1:=⟨lo.length - 1,by omega⟩
        have hbt32:bt<4294967296:=hsB bt (by rw[hlo];simp)
        have hbt0:0<bt:=by
          rcases A0R bt with h | h
          · exfalso
            have e1:=MU B hB0
            have e2:=CQ (fun x hx=>hsB x (by rw[hlo];exact A1H _ hx):Bi lo)
            rw[hlo,Cj,h,A0F,zv]at hvB
            rw[hlol]at e2
            omega
          · exact h
        simp only[Ry,d1,dR,oP,AH Tryz.underlying22,Wc,d2,Qb,Qc,Qd,Qf,Qh,Qi,Qj,Qk,Qm,Qo,true_and,Qp,Qq,Qr,Qs,Qt,Qv,Ra,Ry,Wc,A1s,A1p]
        have hcb3:AS s3.next s3 b (us (lo++[bt])):=by rw[← hlo];exact(hcb.old o3 (zU _)).mono o3.1
        have hbl:(AR B).length=lo.length+1:=by rw[hlo];simp
        rw[hbl]
        refine XY hcb3 hbt0 hbt32 (by omega) _ _ _ _ _ _ _ _ _ _ _ _ _ _ _ _ (fun n y16 hn31 hn1 hn2=>?_) 32 0 _ rfl (by simpa using hbt32)
        have hnv:=uh (lo:=lo) (bt:=bt) (by rw[← hlo];exact hsB) hn31 hn1 hn2
        obtain⟨hV,vlo0,v1',hVe,hvlo0,hv1'⟩:=hnv
        rw[← hlo,hvB]at hV
        rw[← hlo]at hVe
        obtain⟨vlo,v2',hvloe,hvlol⟩:=Fm (n:=m) (by rw[hvlo0,hm])
        have hVe2:(K6 (AR B) (2 ^ n) 0).take (lo.length+1)=vlo++[v2',v1']:=by rw[hVe,hvloe];simp
        have h2n:2 ^ n<LB:=by
          rw[hLB]
          have e32:(2:Nat) ^ 32=4294967296:=by decide
          rw[← e32]
          exact Nat.pow_lt_pow_right (by decide) (by omega)
        have hsU:=F4 h2n hsA BY
        have hsW:=F4 h2n hsB BY
        have hUl:=I3 (2 ^ n) (AR A) 0
        have hWl:=I3 (2 ^ n) (AR B) 0
        have hUv:=LG (AR A) (2 ^ n) 0
        rw[hvA,zv]at hUv
        have hAB:lo.length+1≤(AR A).length:=by
          rcases zX (AR A).length (lo.length+1)with h | h
          · rw[← hbl]at h
            exact absurd (FA h) hlt
          · exact h
        have hnu:=ug (vlo:=vlo0) hsA hn31 hv1' (by omega)
        rw[← hVe,hvlo0]at hnu
        have hsV:Bi (vlo++[v2',v1']):=by rw[← hVe2];exact hsW.take _
        rw[hVe2]at hV hnu
        simp only[if_true,dG,AH Tryz.underlying22,Qb,Qc,Qd,Qf,Qh,Qj,Qk,Qm,Qo,true_and,Qr,Qs,Qt,Qv,Rb,Rd,Rg,A1s,A1p]
        have n2'':By s3 (.slice b (lo.length+1) cb) (AR B):=by rw[← hbl];exact n2'
        refine sY hE n1' (by omega) hsA (n:=n) (by omega) fun s4 vu o4 r4=>?_
        simp only[Ff,AH Tryz.underlying22,Ao,MF,Qd,Qh,Qj,Qk,Qo,true_and,and_true,Qr,Qs]
        refine sY hE (n2''.old o4) (by omega) hsB (n:=n) (by omega) fun s5 vw o5 r5=>?_
        have nw:=r5.n32'
        obtain⟨ui,pu,rfl,hu1,hu2,hu3,hu4⟩:=r4.own (by intro e;rw[e]at hUl;simp at hUl)
        obtain⟨wi,pw,rfl,hw1,hw2,hw3,hw4⟩:=r5.own (by intro e;rw[e]at hWl;simp at hWl)
        obtain⟨aw,cw,ew,hcapw,hcw⟩:=nw
        injection ew with ew1 ew2 ew3
        subst ew1;subst ew3
        have e1:=RR Tryz.underlying22 C5 hcapw (k:=lo.length+1) (by rw[hWl];omega)
        have nV:=By.take hcapw hcw (k:=lo.length+1) (by rw[hWl];omega)
        rw[hVe2]at nV
        have e2:=CT Tryz.prog 3 (((K6 (AR A) (2 ^ n) 0).length:Nat):Int) ((lo.length+1:Nat):Int) ⟨by omega,by omega⟩
        have e2':(((K6 (AR A) (2 ^ n) 0).length:Nat):Int) - ((lo.length+1:Nat):Int)=(((K6 (AR A) (2 ^ n) 0).length - (lo.length+1):Nat):Int):=by omega
        have e3:=Pg ((K6 (AR A) (2 ^ n) 0).length - (lo.length+1)) (by omega)
        have e4:=CT Tryz.prog 3 (((K6 (AR A) (2 ^ n) 0).length - (lo.length+1):Nat):Int) 1 ⟨by omega,by omega⟩
        simp only[Ff,AH Tryz.underlying22,Ao,MF,e1,dH,dI,e2,e2',Xy,e3,Xe,e4,Qb,Qc,Qd,Qf,Qh,Qi,Qj,Qk,Qm,Qo,true_and,and_true,Qp,Qq,Qr,Qs,Qt,Qv,A1s,A1w,A1p]
        generalize hU0:K6 (AR A) (2 ^ n) 0=U0 at *
        have hml:m=vlo.length:=hvlol.symm
        have hll:lo.length+1=vlo.length+2:=by omega
        rw[hll]at nV
        rw[hll]at *
        have hn5:s5.next<(newObj s5 (R 76 1 false (us (List.replicate (U0.length - (vlo.length+2)) 0)))).next:=A0T _
        have o6:=Aa.new s5 (R 76 1 false (us (List.replicate (U0.length - (vlo.length+2)) 0)))
        have hVl:(vlo++[v2',v1']).length=vlo.length+2:=by simp
        generalize hs6:newObj s5 (R 76 1 false (us (List.replicate (U0.length - (vlo.length+2)) 0)))=s6 at *
        have hq6:s6.heap.get s5.next=some (R 76 1 false (us (List.replicate (U0.length - (vlo.length+2)) 0))):=by rw[← hs6,AU,if_pos rfl]
        have o46:Aa s4.next s4 s6:=o5.trans (o6.mono o5.1)
        have hu6:Ck s6 ui (us U0) pu:=hu3.keep (o46.2 ui hu2)
        refine fE hE (s0:=s6) (U0:=U0) (ui:=ui) (qi:=s5.next) (pp:=pu) (zZ hu2 o46.1) hn5 (by have:=o5.1;omega) (fun q hq=>⟨by have:=(hu4 q hq).2.1;have:=o46.1;omega,by have:=(hu4 q hq).2.1;have:=o5.1;omega⟩) hsV hv1' (by omega)
          (nV.old o6) (fun j hj=>?_) _ _ _ _ _ _ _ _ _ _ _ (fun S cu qs y10 y11 y12 y17 y18 hS=>?_) (U0.length - (vlo.length+2)) s6 U0 (List.replicate (U0.length - (vlo.length+2)) 0) _ _ _ _ ⟨zU _,fun j _ _ _ _=>rfl,hu6,Ck.of_R hq6,?_,?_⟩ (by omega)
        · injection hj with hj
          subst hj
          exact⟨by omega,fun e=>by have:=(hu4 wi e.symm).2.1;omega,by omega⟩
        ·
          have hVpos:0<AG (vlo++[v2',v1']):=by
            rw[hV]
            exact A1B (by omega) (A0f (by decide))
          have hrem:=hS.inv.rem
          have hquo:=hS.inv.quo
          rw[A0d,A0d,hUv,hV]at hrem hquo
          rw[Nat.mul_div_mul_right _ _ (A0f (by decide))]at hquo
          rw[Nat.mul_mod_mul_right]at hrem
          have hcl:=hS.inv.len
          have hql:qs.length=U0.length - (vlo.length+2):=by have:=hS.qlen;rw[hVl]at this;omega
          have huiS:ui<S.next:=by have:=hS.next;have:=o46.1;omega
          have nu:=SU hS.u huiS (lo:=0) (m:=cu.length) (by omega)
          rw[A0d,A1J,hcl]at nu
          have p31:2 ^ n≤2147483648:=by
            have e31:(2:Nat) ^ 31=2147483648:=by decide
            rw[← e31]
            exact A0K (by decide) hn31
          have p0:0<2 ^ n:=A0f (by decide)
          have es:AN Tryz.prog .shl 69 (.int .u64 1) (An n)=some (An (2 ^ n)):=by
            have:=OZ Tryz.prog 69 (a:=1) (k:=.u64) (n:=n) (by omega) (by rw[A0S];omega)
            rw[A0S]at this
            exact this
          simp only[if_true,dP,es,Qb,Qc,Qd,Qf,Qh,Qi,Qj,Qk,Qm,Qo,true_and,Qr,Qs,Qt,Qv,Rb,Rd,Rg,Rj,Zb,A1u,A1p]
          refine Sm hE nu (by omega) hS.inv.sm p0 (by omega) fun s8 vr o8 r8=>?_
          obtain⟨w1,w2,w3⟩:=Eb p0 cu
          have hss:=Gs p0 hS.inv.sm
          rw[hrem]at w1
          generalize Bg (2 ^ n) cu=T at *
          have hr:AG T.1=A % B:=by
            have e1:2 ^ n * AG T.1+T.2=2 ^ n * (A % B):=by rw[← w1,zt]
            have e2:(2 ^ n * AG T.1+T.2) / 2 ^ n=2 ^ n * (A % B) / 2 ^ n:=by rw[e1]
            rw[Nat.mul_add_div p0,A0n w2,zv,Nat.mul_div_cancel_left _ p0]at e2
            exact e2
          rw[B8 hss,hr]at r8
          have hqiS:s5.next<S.next:=by have:=hS.next;omega
          have hq8:=hS.q.keep (o8.2 s5.next hqiS)
          have nq:By s8 (.slice (some (s5.next,0)) (U0.length - (vlo.length+2)) (some (U0.length - (vlo.length+2)))) qs:=
            ⟨some (s5.next,0),some (U0.length - (vlo.length+2)),by rw[hql],.inl ⟨_,rfl,by omega,fun e=>by cases e⟩,Hn hq8 (zZ hqiS o8.1)⟩
          simp only[dQ,Qb,Qc,Qd,Qf,Qh,Qi,Qj,Qk,Qm,Qo,true_and,Qp,Qq,Qr,Qs,Qt,Qv,Yd,Ye,A1t,A1u,A1p]
          refine C8 hE nq (by omega) fun s9 vq o9 r9=>?_
          rw[B8 hS.inv.qsm,hquo]at r9
          have hbase:s.next≤S.next:=by have:=oS3.1;have:=o4.1;have:=o46.1;have:=hS.next;omega
          have oSS:Aa s.next s S:=⟨hbase,fun j hj=>by
            have h3:j<s3.next:=zZ hj oS3.1
            have h4:j<s4.next:=zZ h3 o4.1
            rw[hS.keep j (zZ h4 o46.1) (by omega) (fun e=>by have:=(hu4 j e.symm).1;omega) (by have:=o5.1;omega),o46.2 j h4,o4.2 j h3]
            exact oS3.2 j hj⟩
          simp only[Qd,Qo,true_and,Qp,Qq,Qr,Qs]
          exact hK1 hB0 s9 vq vr (oSS.trans ((o8.mono hbase).trans (o9.mono (zY hbase o8.1)))) (r9.mono (zY hbase o8.1)) ((r8.old o9).mono hbase) (fun h=>absurd h hlt)
        · have hd:AG (U0.drop (U0.length - (vlo.length+2)))<AG (vlo++[v2',v1']):=by
            have:U0.length - (vlo.length+2)=(AR A).length - lo.length:=by omega
            rw[this];exact hnu
          refine⟨rfl,rfl,hsU,(A0I hd).symm,fun x hx=>?_,?_⟩
          · rw[List.eq_of_mem_replicate hx];exact BY
          · rw [A0n              hd, A0D                    (by simp)]
            rfl
        · rw[List.length_replicate,hVl];omega
theorem fF(hE:GoodN E){va vb:AV}{la lb:List Nat}(ha:By s va la)(hb:By s vb lb)(hla:la.length≤1000000000)(hlb:lb.length≤1000000000)(hsa:Bi la)(hsb:Bi lb){K:AV→AE→Prop}
  (hK0:AG lb=0→∀s',Aa s.next s s'→K (.tuple [.slice none 0 (some 0),.slice none 0 (some 0),iv 3]) s')
  (hK1:AG lb≠0→∀s' vq vr,Aa s.next s s'→NR s.next s' vq (AR (AG la / AG lb))→NR s.next s' vr (AR (AG la % AG lb))→K (.tuple [vq,vr,iv 0]) s'):WF E 50 [va,vb] K s:=
 Vu hE ha hb hla hlb hsa hsb hK0 fun h s' vq vr o r1 r2 _=>hK1 h s' vq vr o r1 r2
end
theorem E9{a b:Nat}(h:a≤b):(AR a).length≤(AR b).length:=by
 rcases zX (AR b).length (AR a).length with h' | h'
 ·have:=FA h';omega
 ·exact h'
section
variable{E:CR}{s:AE}
theorem fX(hE:GoodN E){b:Nat}{Q:Az→Prop}(x2:AV):
    ∀ (n A B : Nat) (S : AE)  (va vb x3 x4 : AV), B < n → Aa  b s S → b ≤ S.next → NR b S va (AR    A) → NR b S vb (AR    B) → (AR    A).length ≤ 1000000000 → (AR    B).length ≤ 1000000000 →
      (∀ (S:AE) (va vb y3 y4:AV),Aa b s S→NR b S va (AR (Nat.gcd A B))→Q ⟨.exit 0,[va,vb,x2,y3,y4],[],S⟩) →
      WC E none (.loop RD) Q [va,vb,x2,x3,x4] [] S:=by
  intro n
  induction n with
  | zero=>intro A B S va vb x3 x4 hB;omega
  | succ n ih =>
    intro A B S va vb x3 x4 hB ho hbS ha hb hla hlb hq
    have nb:=hb.n32
    have hlen:Ay Tryz.prog S 22 vb=some (iv ((AR B).length:Int)):=by
      obtain⟨a,cap,rfl,_,_⟩:=nb
      exact AH Tryz.underlying22
    refine WC.loop' ?_
    generalize hW:WC E none (Ac.loop RD) Q=WW
    by_cases h0:B=0
    · subst h0
      have dd:decide ((0:Int)<((AR 0).length:Int))=false:=by rw[BN];rfl
      simp only[RD,dE,hlen,Rz,dd,Qa,Qb,Qc,Qd,Qf,Qh,Qi,Qj,Qk,Qm,Qo,true_and,Qp,Qq,Qr,Qs,Qt,Qv,Ra,Rb,Rd,Re,Rz,A1s]
      refine hq S va vb _ _ ho ?_
      rw[Nat.gcd_zero_right]
      exact ha
    · have hpos : 0 < (AR    B).length := List.length_pos_iff.2 (Cz       h0)
      have dd:decide ((0:Int)<((AR B).length:Int))=true:=decide_eq_true (by omega)
      simp only[RD,dE,oF,hlen,Rz,dd,Qa,Qb,Qc,Qd,Qf,Qh,Qi,Qj,Qk,Qm,Qo,true_and,Qp,Qq,Qr,Qs,Qt,Qv,Qz,Rb,Rd,Re,Zb,Rz,A1s,A1u,A1t,A1p]
      refine fF hE ha.n32 nb hla hlb (AT A) (AT B) (fun e=>absurd (by rw[AY]at e;exact e) h0) fun _ s' vq vr o' rq rr=>?_
      rw[AY,AY]at rr
      have hlt:A % B<B:=A0E _ (by omega)
      simp only[oG,Qb,Qc,Qd,Qf,Qh,Qj,Qk,Qm,Qo,true_and,Qp,Qq,Qr,Qs,Qt,Qv,Yd,Ye,A1t,A1p]
      rw[← hW]
      have e:Nat.gcd A B=Nat.gcd B (A % B):=by rw[A1S,Nat.gcd_rec,A1S]
      rw[e]at hq
      refine ih B (A % B) s' vb vr _ _ (by omega) (ho.trans (o'.mono hbS)) (zY hbS o'.1) (hb.old o') (rr.mono hbS) hlb (zY (E9 (Nat.le_of_lt hlt)) hlb) hq
theorem ub(hE:GoodN E){va vb:AV}{la lb:List Nat}(ha:By s va la)(hb:By s vb lb)(hla:la.length≤1000000000)(hlb:lb.length≤1000000000)(hsa:Bi la)(hsb:Bi lb){K:AV→AE→Prop}
  (hK:∀s' v,Aa s.next s s'→NR s.next s' v (AR (Nat.gcd (AG la) (AG lb)))→K v s'):WF E 49 [va,vb] K s:=by
 refine hE.go ti (by decide) rfl ?_
 simp only[yi,oD,oE,Qa,Qb,Qc,Qd,Qf,Qh,Qi,Qj,Qk,Ql,Qm,Qo,true_and,Qp,Qq,Qr,Qt,Qv,Rb,Rh,Rk,Rm,Rn,Yc,A1p,A1t,A1u]
 refine C8 hE ha (by omega) fun s1 v1 o1 r1=>?_
 simp only[Qd,Qo,true_and,Qr,Qs]
 refine C8 hE (hb.old o1) (by omega) fun s2 v2 o2 r2=>?_
 have t1:=FN la
 have t2:=FN lb
 have R1:NR s.next s2 v1 (AR (AG la)):=by have:=r1.old o2;rw[B8 hsa]at this;exact this
 have R2:NR s.next s2 v2 (AR (AG lb)):=by have:=r2.mono o1.1;rw[B8 hsb]at this;exact this
 rw[B8 hsa]at t1
 rw[B8 hsb]at t2
 have o12:=o1.trans (o2.mono o1.1)
 simp only[Qd,Qo,true_and,Qp,Qq,Qr,Qs]
 refine fX (s:=s) hE _ (AG lb+1) _ _ s2 v1 v2 _ _ (A0T _) o12 o12.1 R1 R2 (by omega) (by omega) fun S va vb y3 y4 hS hr=>?_
 simp only[oH,if_true,Qb,Qc,Qd,Qf,Qh,Qj,Qm,Qo,true_and,Qp,Qq,Qr,Qs,Qt,Qv,Rb,Rd,Rg,Rj,A1p]
 exact hK S va hS hr
end
theorem Oe:∀ (l w:List Nat),l.zip (w.take l.length)=l.zip w
 | [],w=>by simp
 | x::l,[]=>by simp
 | x::l,y::w=>by rw[A0G,A1h,A1I,A1I,Oe l w]
structure Wv(la lb cu:List Nat)(i:Nat):Prop where
 len:cu.length=la.length+lb.length
 sm:Bi cu
 val:AG cu=AG (la.take i) * AG lb
 zero:cu.drop (i+lb.length)=List.replicate (la.length - i) 0
theorem Wv.step{la lb cu:List Nat}{i x:Nat}(h:Wv la lb cu i)(hx:la[i]? = some x)(hxs:x<LB)(hb:Bi lb):
  Wv la lb (GR cu i ((GI x (lb.zip (cu.drop i)) 0).1++[(GI x (lb.zip (cu.drop i)) 0).2])) (i+1):=by
 obtain⟨h1,h2,h3,h4⟩:=h
 have hi:i<la.length:=(List.getElem?_eq_some_iff.1 hx).1
 have hz:lb.zip (cu.drop i)=lb.zip ((cu.drop i).take lb.length):=(Oe _ _).symm
 rw[hz]
 have hwl:((cu.drop i).take lb.length).length=lb.length:=by rw[zo,A0C];omega
 have hv:=SI x (lb.zip ((cu.drop i).take lb.length)) 0
 have hl:=Mh x (lb.zip ((cu.drop i).take lb.length)) 0
 have hzl:(lb.zip ((cu.drop i).take lb.length)).length=lb.length:=by rw[A1F,hwl,Nat.min_self]
 obtain⟨c1,c2⟩:=Ig (x:=x) (P:=lb.zip ((cu.drop i).take lb.length)) (c:=0) hxs (fun p hp=>by
  have:=List.of_mem_zip (a:=p.1) (b:=p.2) hp
  exact⟨hb _ this.1,(h2.drop i).take lb.length _ this.2⟩) BY
 rw[QE hwl.symm,QF hwl.symm,hzl]at hv
 rw[hzl]at hl
 generalize GI x (lb.zip ((cu.drop i).take lb.length)) 0=T at *
 obtain⟨T1,T2⟩:=T
 simp only at *
 have hdl:(T1++[T2]).length=lb.length+1:=by rw[zg,hl];rfl
 have hd0:cu.drop (i+(lb.length+1))=List.replicate (la.length - (i+1)) 0:=by
  rw[← A0H,← A0h,h4,List.drop_replicate]
  congr 1
 have hcu:AG cu=AG (cu.take i)+LB ^ i * AG ((cu.drop i).take lb.length):=by
  have e1:cu=cu.take i++((cu.drop i).take lb.length++cu.drop (i+lb.length)):=by
   rw[← A0h,A0g,A0g]
  have e2:=congrArg AG e1
  rw[Bp,h4,Bp,ID,A0F,zv,zo,A0c (by omega)]at e2
  exact e2
 have hta:AG (la.take (i+1))=AG (la.take i)+LB ^ i * x:=by
  rw[List.take_add_one,hx,Bp,zo,A0c (by omega)]
  simp[AG]
 refine⟨?_,?_,?_,?_⟩
 ·rw[Hv (by rw[hdl];omega)];exact h1
 ·unfold GR
  refine((h2.take i).append (c2.append fun y hy=>?_)).append (h2.drop _)
  rw[A1d.1 hy];exact c1
 ·unfold GR
  rw[hdl,hd0,Bp,ID,A0F,zv,Bp,Bp,hl,hta,zo,A0c (by omega)]
  have e3:AG [T2]=T2:=by simp[AG]
  rw[e3,hv,A0A,← h3,hcu,zv,zp,zu]
  omega
 ·unfold GR
  rw[show i+1+lb.length=(cu.take i++(T1++[T2])).length by simp[hl];omega,List.drop_left,hdl]
  exact hd0
section
variable{E:CR}{s:AE}
theorem gt{s1:AE}{x:Nat}(hxs:x<4294967296){ui off N:Nat}{cu w:List Nat}(hN:N=cu.length)(hcu:off+w.length≤cu.length)(hcl:cu.length≤100000000000)(hsu:Bi cu)(hsw:Bi w){a9:Option (Nat×Nat)}{c9:Option Nat}{b:Nat}(hc9:AS b s1 a9 (us w))(h9:b≤ui)
    {T:List Nat×Nat} {Q:Az→Prop} (y0 y1 y2 y9 y10 y11 y12:AV)
    (hq:∀ (s':AE) (y7 y8 y15 y16:AV),Ex s1 s' ui none→Ck s' ui (us (GR cu off T.1)) none →
      Q ⟨.exit 2,[y0,y1,y2,.slice (some (ui,0)) N (some N),iv (off:Int),A6 x,An T.2,y7,y8,y9,y10,y11,y12,.slice a9 w.length c9,iv (w.length:Int),y15,y16],[],s'⟩):
    ∀ (r : List Nat) (s' : AE)  (c : Nat) (d : List Nat) (x7 x8 x16 : AV), w.drop d.length = r → d.length ≤ w.length → Ex    s1 s' ui none → c < 4294967296 →
      (d++(GI x (r.zip (cu.drop (off+d.length))) c).1,(GI x (r.zip (cu.drop (off+d.length))) c).2)=T→Ck s' ui (us (GR cu off d)) none →
      WC E none (.loop Lz) Q [y0,y1,y2,.slice (some (ui,0)) N (some N),iv (off:Int),A6 x,An c,x7,x8,y9,y10,y11,y12,.slice a9 w.length c9,iv (w.length:Int),iv (d.length:Int),x16] [] s':=by
  subst hN
  intro r
  induction r with
  | nil =>
    intro s' c d x7 x8 x16 hd hk ho hc hT hg
    have hkl:d.length=w.length:=by
      have:=congrArg List.length hd
      simp at this
      omega
    rw[List.zip_nil_left]at hT
    simp only[GI,A1C]at hT
    have dd:decide ((d.length:Int)<(w.length:Int))=false:=decide_eq_false (by omega)
    refine WC.loop' ?_
    simp only[Lz,dZ,Ry,dd,Qa,Qb,Qc,Qd,Qf,Qh,Qj,Qm,Qo,true_and,Qp,Qq,Qr,Qs,Qt,Qv,Ra,Rb,Rd,Re,Ry,A1x]
    subst hT
    exact hq s' _ _ _ _ ho hg
  | cons y r ih =>
    intro s' c d x7 x8 x16 hd hk ho hc hT hg
    have hlt:d.length<w.length:=by
      rcases zX d.length w.length with h' | h'
      · exact h'
      · rw[A0D h']at hd;cases hd
    have hy:w[d.length]? = some y:=by
      have:=congrArg (fun l=>l[0]?) hd
      simpa using this
    have hd':w.drop (d.length+1)=r:=by
      have:=congrArg (List.drop 1) hd
      simpa[A0h]using this
    have hys:y<4294967296:=hsw y (zw hy)
    have hlu:off+d.length<cu.length:=by omega
    have hu:cu[off+d.length]? = some cu[off+d.length]:=zW hlu
    have hdu:cu.drop (off+d.length)=cu[off+d.length]::cu.drop (off+(d.length+1)):=A0M hlu
    generalize cu[off+d.length]=u at hu hdu
    have hus:u<4294967296:=hsu u (zw hu)
    rw[hdu,A1I]at hT
    simp only[GI]at hT
    obtain⟨i,o,rfl,hi,hload⟩:=hc9 d.length _ (DG hy)
    have hne:i≠ui:=by omega
    have hkk:decide ((d.length:Int)<(w.length:Int))=true:=decide_eq_true (by omega)
    have e1:=AX (cap:=c9) (i:=i) (o:=o) Tryz.underlying22 C5 hlt
    have e2:AB Tryz.prog s' 76 (.ptr (some (i,o+d.length * 1)))=some (A6 y):=Bq G5 (by rw[zf,CS (ho.get i hne (by simp))];exact hload)
    have e0:=Ax Tryz.prog 3 (off:Int) (d.length:Int) ⟨by omega,by omega⟩
    have e0':((off:Int)+(d.length:Int))=((off+d.length:Nat):Int):=by omega
    have e5:=AX (cap:=some cu.length) (i:=ui) (o:=0) Tryz.underlying22 C5 hlu
    have hcell:(us (GR cu off d))[0+(off+d.length) * 1]? = some (A6 u):=by rw[zf,zk];exact DG ((Pi hlu).trans hu)
    have e6:=HS (P:=Tryz.prog) (t:=76) G5 hg hcell
    have hxy:x * y≤4294967295 * 4294967295:=A0W (by omega) (by omega)
    have e3:=Sx Tryz.prog 69 (a:=x) (b:=y) (by omega)
    have e3':=IU Tryz.prog 69 (a:=x * y) (b:=u) (by omega)
    have e4:=IU Tryz.prog 69 (a:=c) (b:=x * y+u) (by omega)
    have hLB:LB=4294967296:=rfl
    rw[hLB]at hT
    generalize hc1:c+(x * y+u)=c1 at hT e4
    have hc1b:c1<18446744073709551616:=by omega
    have e7:=K0 Tryz.prog 69 hc1b
    have e11:c1 % 4294967296 % 4294967296=c1 % 4294967296:=A1K _ _
    have e15:AN Tryz.prog .shr 69 (An c1) (.int .u64 32)=some (An (c1 / 4294967296)):=Jh Tryz.prog 69 (k:=.u64) (n:=32) (by decide)
    have hcq:c1 / 4294967296<4294967296:=by omega
    generalize hx:c1 % 4294967296=z at hT e7 e11
    have hlm:0+(off+d.length) * 1<(us (GR cu off d)).length:=by rw[DW,Hv (by omega)];omega
    obtain⟨s2,e16,w1,w2,w3⟩:=Ec (P:=Tryz.prog) (t:=76) (v:=A6 z) C5 hg hlm rfl
    rw[zf,zk]at e16
    rw[zf,zk,Ix,LV hlu]at w1
    rw[zf,zk]at e5 e6
    have e17:=Ax Tryz.prog 3 (d.length:Int) 1 ⟨by omega,by omega⟩
    have e17':((d.length:Int)+1)=((d.length+1:Nat):Int):=by omega
    refine WC.loop' ?_
    generalize hW:WC E none (Ac.loop Lz) Q=WW
    simp only[Lz,dZ,oX,oY,dS,dT,dU,Ry,hkk,e0,e0',e1,e2,e5,e6,B7 hus,B7 hys,B7 hxs,e3,e3',e4,e7,CP,e11,e16,e15,e17,e17',Xy,Za,Qa,Qb,Qc,Qd,Qf,Qh,Qi,Qj,Qk,Qm,Qo,true_and,Qp,Qq,Qr,Qs,Qt,Qv,Qz,Rb,Rd,Re,Ry,A1x,A1v,A1m,A1p,A1t,A1w,A1o]
    rw[← hW]
    have hlen1:(d++[z]).length=d.length+1:=by rw[zg];rfl
    have key:=ih s2 (c1 / 4294967296) (d++[z])
    rw[hlen1]at key
    exact key _ _ _ hd' hlt (ho.step w2 w3) hcq (by rw[A0O];exact hT) w1
end
section
variable{E:CR}{s:AE}
theorem gC       {s1 : AE}  {qi : Nat} {a b : Option (Nat × Nat)} {ca cb : Option Nat} {la lb : List Nat} (hca : AS      qi s1 a (us la)) (hcb : AS      qi s1 b (us lb)) (hla : la.length ≤ 10000000000) (hlb : lb.length ≤ 10000000000) (hsa : Bi  la) (hsb : Bi  lb) {Q : Az   → Prop} (y2 : AV)
    (hq:∀ (s':AE) (cu:List Nat) (y4 y5 y6 y7 y8 y11 y12 y13 y14 y15 y16:AV),Ex s1 s' qi none→Ck s' qi (us cu) none→Wv la lb cu la.length →
      Q ⟨.exit 0,[.slice a la.length ca,.slice b lb.length cb,y2,.slice (some (qi,0)) (la.length+lb.length) (some (la.length+lb.length)),y4,y5,y6,y7,y8,.slice a la.length ca,iv (la.length:Int),y11,y12,y13,y14,y15,y16],[],s'⟩):
    ∀ (k i:Nat) (s':AE) (cu:List Nat) (x4 x5 x6 x7 x8 x12 x13 x14 x15 x16:AV),i+k=la.length→Ex s1 s' qi none→Ck s' qi (us cu) none→Wv la lb cu i →
      WC E none (.loop L0) Q [.slice a la.length ca,.slice b lb.length cb,y2,.slice (some (qi,0)) (la.length+lb.length) (some (la.length+lb.length)),x4,x5,x6,x7,x8,.slice a la.length ca,iv (la.length:Int),iv (i:Int),x12,x13,x14,x15,x16] [] s':=by
  intro k
  induction k with
  | zero =>
    intro i s' cu x4 x5 x6 x7 x8 x12 x13 x14 x15 x16 hik ho hg hm
    have e:i=la.length:=by omega
    subst e
    have dd:decide ((la.length:Int)<(la.length:Int))=false:=decide_eq_false (by omega)
    refine WC.loop' ?_
    simp only[L0,dY,Ry,dd,Qa,Qb,Qc,Qd,Qf,Qh,Qj,Qm,Qo,true_and,Qp,Qq,Qr,Qs,Qt,Qv,Ra,Rb,Rd,Re,Ry,A1x]
    exact hq s' cu _ _ _ _ _ _ _ _ _ _ _ ho hg hm
  | succ k ih =>
    intro i s' cu x4 x5 x6 x7 x8 x12 x13 x14 x15 x16 hik ho hg hm
    have hi:i<la.length:=by omega
    have hx:la[i]? = some la[i]:=zW hi
    generalize la[i]=x at hx
    have hxs:x<4294967296:=hsa x (zw hx)
    have hstep:=hm.step hx hxs hsb
    obtain⟨pi,o,rfl,hpi,hload⟩:=hca i _ (DG hx)
    have dd:decide ((i:Int)<(la.length:Int))=true:=decide_eq_true (by omega)
    have e1:=AX (cap:=ca) (i:=pi) (o:=o) Tryz.underlying22 C5 hi
    have e2:AB Tryz.prog s' 76 (.ptr (some (pi,o+i * 1)))=some (A6 x):=Bq G5 (by rw[zf,CS (ho.get pi (by omega) (by simp))];exact hload)
    have hTl:(GI x (lb.zip (cu.drop i)) 0).1.length=lb.length:=by
      rw[Mh,A1F,A0C,hm.len];omega
    generalize hT:GI x (lb.zip (cu.drop i)) 0=T at *
    have hlen:=hm.len
    have hil:i+T.1.length<cu.length:=by omega
    refine WC.loop' ?_
    generalize hW:WC E none (Ac.loop L0) Q=WW
    simp only[L0,dY,oU,oV,oW,AH Tryz.underlying22,Ry,dd,e1,e2,Qa,Qb,Qc,Qd,Qf,Qh,Qi,Qj,Qk,Qm,Qo,true_and,Qp,Qq,Qr,Qs,Qt,Qv,Qz,Rb,Rd,Re,Ry,A1x,A1v,A1m,A1p]
    refine gt (s1:=s1) (x:=x) hxs (ui:=qi) (off:=i) (N:=la.length+lb.length) (cu:=cu) (w:=lb) (a9:=b) (c9:=cb) (b:=qi) hm.len.symm (by omega) (by omega) hm.sm hsb hcb (zU _) (T:=T) _ _ _ _ _ _ _ (fun s2 y7 y8 y15 y16 ho2 hg2=>?_) lb s' 0 [] _ _ _ rfl (ze _) ho (by decide) (by rw[← hT];rfl) (by rw[Pj];exact hg)
    have e3:=Ax Tryz.prog 3 (i:Int) (lb.length:Int) ⟨by omega,by omega⟩
    have e3':((i:Int)+(lb.length:Int))=((i+lb.length:Nat):Int):=by omega
    have e4:=AX (cap:=some (la.length+lb.length)) (i:=qi) (o:=0) Tryz.underlying22 C5 (show i+lb.length<la.length+lb.length by omega)
    have hT2:T.2<4294967296:=by
      rw[← hT]
      exact(Ig (x:=x) hxs (fun p hp=>by
        have:=List.of_mem_zip (a:=p.1) (b:=p.2) hp
        exact⟨hsb _ this.1,hm.sm.drop i _ this.2⟩) BY).1
    have e5:T.2 % 4294967296=T.2:=A0I hT2
    have hlm:0+(i+lb.length) * 1<(us (GR cu i T.1)).length:=by rw[DW,Hv (by omega)];omega
    obtain⟨s3,e16,w1,w2,w3⟩:=Ec (P:=Tryz.prog) (t:=76) (v:=A6 T.2) C5 hg2 hlm rfl
    rw[zf,zk]at e16 e4
    rw[zf,zk,Ix,← hTl,LV hil]at w1
    have e17:=Ax Tryz.prog 3 (i:Int) 1 ⟨by omega,by omega⟩
    have e17':((i:Int)+1)=((i+1:Nat):Int):=by omega
    simp only[dV,dW,if_true,AH Tryz.underlying22,CP,e3,e3',e4,e5,e16,e17,e17',Xy,Za,Qb,Qc,Qd,Qf,Qh,Qi,Qj,Qk,Qm,Qo,true_and,Qp,Qq,Qr,Qs,Qt,Qv,Rb,Rd,Rg,A1s,A1w,A1v,A1o,A1p]
    rw[← hW]
    exact ih (i+1) s3 _ _ _ _ _ _ _ _ _ _ _ (by omega) (ho2.step w2 w3) w1 hstep
theorem UV(hE:GoodN E){va vb:AV}{la lb:List Nat}(ha:By s va la)(hb:By s vb lb)(hla:la.length≤1000000000)(hlb:lb.length≤1000000000)(hsa:Bi la)(hsb:Bi lb){K:AV→AE→Prop}
  (hK:∀s' v,Aa s.next s s'→NR s.next s' v (AR (AG la * AG lb))→K v s'):WF E 51 [va,vb] K s:=by
 obtain⟨a,ca,rfl,hcapa,hca⟩:=ha
 obtain⟨b,cb,rfl,hcapb,hcb⟩:=hb
 have e0:=Ax Tryz.prog 3 (la.length:Int) (lb.length:Int) ⟨by omega,by omega⟩
 have e0':((la.length:Int)+(lb.length:Int))=((la.length+lb.length:Nat):Int):=by omega
 have e1:=Pg (la.length+lb.length) (by omega)
 have ho:=Aa.new s (R 76 1 false (us (List.replicate (la.length+lb.length) 0)))
 refine hE.go tp (by decide) rfl ?_
 simp only[yn,oQ,oR,oT,AH Tryz.underlying22,e0,e0',e1,Xy,Xe,Qa,Qb,Qc,Qd,Qf,Qh,Qi,Qj,Qk,Ql,Qm,Qo,true_and,Qp,Qq,Qr,Qs,Qt,Qv,Rb,Rh,Rk,Rm,Rn,Yc,A1p,A1s,A1w]
 have hg0:(newObj s (R 76 1 false (us (List.replicate (la.length+lb.length) 0)))).heap.get s.next=some (R 76 1 false (us (List.replicate (la.length+lb.length) 0))):=by
  rw[AU,if_pos rfl]
 have hR0:Wv la lb (List.replicate (la.length+lb.length) 0) 0:=by
  refine⟨by simp,fun x hx=>by rw[List.eq_of_mem_replicate hx];exact BY,?_,?_⟩
  ·rw[ID,A0l]
   show 0=0 * _
   rw[A0b]
  ·rw[List.drop_replicate]
   congr 1
   omega
 refine gC (s1:=newObj s (R 76 1 false (us (List.replicate (la.length+lb.length) 0)))) (qi:=s.next) (hca.old ho (zU _)) (hcb.old ho (zU _)) (by omega) (by omega) hsa hsb _
  (fun s' cu y4 y5 y6 y7 y8 y11 y12 y13 y14 y15 y16 o' hg' hm=>?_) la.length 0 _ _ _ _ _ _ _ _ _ _ _ _ (by omega) (Ex.refl _ _ _) (Ck.of_R hg0) hR0
 have hsn:s'.next=s.next+1:=o'.next
 have hq:By s' (.slice (some (s.next,0)) (la.length+lb.length) (some (la.length+lb.length))) cu:=
  ⟨some (s.next,0),some (la.length+lb.length),by rw[hm.len],.inl ⟨_,rfl,by have:=hm.len;omega,fun e=>by cases e⟩,Hn hg' (by omega)⟩
 simp only[dX,if_true,Qb,Qc,Qd,Qf,Qh,Qj,Qk,Qm,Qo,true_and,Qr,Qs,Qt,Qv,Rb,Rd,Rg,Rj,A1u,A1p]
 refine C8 hE hq (by have:=hm.len;omega) fun s2 v2 o2 r2=>?_
 rw[B8 hm.sm,hm.val,A1J]at r2
 simp only[Qd,Qo,true_and,Qp,Qq,Qr,Qs]
 exact hK s2 v2 (ho.trans (Aa.trans ⟨by have:s.next≤(newObj s (R 76 1 false (us (List.replicate (la.length+lb.length) 0)))).next:=A0X _;have:=o'.next;omega,fun j hj=>o'.get j (by omega) (by simp)⟩ (o2.mono (by omega)))) (r2.mono (by omega))
end
end
end Go.Proofs.YtjnkfbpadpmakaaGreatDoor.Am
set_option linter.unusedVariables false
set_option linter.unusedSimpArgs false
namespace Go.Proofs.YtjnkfbpadpmakaaGreatDoor.Am
open Go Go.Proofs
noncomputable section
theorem D2{s s':AE}{l:Nat}(h:s'.heap.get l=s.heap.get l):Ba s' l=Ba s l:=by unfold Ba;rw[h]
theorem C6(s:AE)(l:Nat)(r:Di):Ba (setObj s l (.loop r)) l=some r:=by unfold Ba;rw[MP,if_pos rfl]
def Lf(Q:Az→Prop)(var:List AV)(marks:List Nat)(s:AE)(pd:Option Code):Prop:=match pd with
 | none=>Q ⟨.normal,var,marks,s⟩
 | some .ret=>Q ⟨.ret,var,marks,s⟩
 | some (.exit id)=>Q ⟨.exit id,var,marks,s⟩
 | some _=>False
theorem gT{Q:Az→Prop}{var:List AV}{marks:List Nat}{s:AE}{pd:Option Code}(h:Lf Q var marks s pd):∃r,HE var marks s pd=some r∧Q r:=by
 unfold Lf at h
 unfold HE
 split at h
 ·exact⟨_,rfl,h⟩
 ·exact⟨_,rfl,h⟩
 ·exact⟨_,rfl,h⟩
 ·exact h.elim
def Hu(fn:FuncId)(var:List AV)(ps:Array Tmp)(a b:Code)(dfr:Nat):Di:={ state:=.ready,pending:=none,fn,var,params:=ps,assign:=a,body:=b,dfr }
theorem WC.range{E:CR}{Q:Az→Prop}{var:List AV}{marks:List Nat}{s:AE}{fn:FuncId}{f:CX}{ps:Array Tmp}{a b:Code}{g:FuncId}{first cap:List AV}(hf:C9 [] var f=.func g first cap)
  (h:WF E g (first++([.yield (s.next+1)]++cap)) (fun _ s'=>∃r,Ba s' (s.next+1)=some r∧UK r.state=false∧Lf Q var (s.next::marks) (setObj s' (s.next+1) (.loop { r with state:=.exhausted })) r.pending)
   (newObj (newObj s .mark) (.loop (Hu fn var ps a b s.next)))):WC E none (.rangeFunc fn f ps a b) Q var marks s:=by
 obtain⟨n,p,h1,r,h2,h3,h4⟩:=h
 obtain⟨res,h5,h6⟩:=gT h4
 refine⟨n+1,res,?_,h6⟩
 show DK (Ea E n) none (.rangeFunc fn f ps a b) var marks s=some res
 simp only[DK,L7,Fg,Hm,hf,HH]
 have e:(newObj s .mark).next=s.next+1:=rfl
 rw[e]
 have h1':=h1
 unfold Hu at h1'
 rw[h1']
 simp only[Option.bind_some,h2,h3,cond_false,h5]
theorem WR.round{E:CR}{K:AV→AE→Prop}{l:Nat}{xs:List AV}{s:AE}{r:Di}{var:List AV}{ca cb:Ac}(h1:Ba s l=some r)(h2:Db (Dh E.P r.fn) r.var r.params.toList xs=some var)
  (h3:ER E.P r.fn r.assign=some ca) (h4:ER E.P r.fn r.body=some cb)
  (h:WC E (some l) ca (fun q=>q.exit=.normal∧∃r',Ba q.st l=some r'∧LQ r'.state=true ∧
   WC E (some l) cb (fun q2=>∃r'',Ba q2.st l=some r''∧K (.bool (Dj q2.exit).isNone) (setObj q2.st l (.loop { r'' with state:=H8 (Dj q2.exit),pending:=Dj q2.exit }))) q.var q.marks (setObj q.st l (.loop { r' with state:=.busy }))) var [] s):WR E l xs K s:=by
 obtain⟨n,q,g1,g2,r',g3,g4,m,q2,g5,r'',g6,g7⟩:=h
 refine⟨max n m+1,(_,_),?_,g7⟩
 show Kz E (Ea E (max n m)) l xs s=_
 simp only[Kz,h1,Option.bind_some,h2,h3,h4,H0,(Gq E (Nat.le_max_left n m)).code g1,g2,JI,cond_true,g3,g4,Ja,(Gq E (Nat.le_max_right n m)).code g5,g6]
 rfl
def Cr:Code→List (Code×Code)
 | .seq x y=>Cr x++Cr y
 | .cond _ x y=>Cr x++Cr y
 | .block _ c=>Cr c
 | .loop c=>Cr c
 | .scope c=>Cr c
 | .rangeFunc _ _ a b=>Cr a++Cr b++[(a,b)]
 | _=>[]
def Fl (f k:Nat):Code×Code:=(((Tryz.prog.funcs[f]?).bind fun fn=>fn.body.bind fun c=>(Cr c)[k]?)).getD (.skip,.skip)
end
end Go.Proofs.YtjnkfbpadpmakaaGreatDoor.Am
set_option linter.unusedVariables false
set_option linter.unusedSimpArgs false
set_option maxRecDepth 100000
namespace Go.Proofs.YtjnkfbpadpmakaaGreatDoor.Am
open Go Go.Proofs
noncomputable section
def cE:List AA:=[
 A1q 22 (.var 0) 2,
 A1q 22 (.var 1) 3,
 ⟨none,.p1 some,[(.const .nilFunc)],(.set 4),[]⟩]
def cF:List AA:=[
 A1r 197 5,
 ⟨none,.e (fun s=>Xy (fun a x=>Za (AO Tryz.prog s 197 a x))),[(.var 5),(.const (.func 187 [] []))],.push,[]⟩]
def cG:List AA:=[
 ⟨none,.p (fun l=>some (.func 188 (l.take 0) (l.drop 0))),[.var 2,.var 3,.var 5],.push,[]⟩,
 A1p (.loc 0) 4]
def wK:Ah:=⟨2,6,(.seq (.ops cE) (.seq (.ops cF) (.seq (.ops cG) .ret))),[((.var 4),none)]⟩
def Tk:List AA:=[
 ⟨none,.p1 some,[(.const (.int .u64 (0)))],(.set 2),[]⟩]
def Tl:List AA:=[
 A1s 22 (.var 0),
 A1x .geq 3 (.var 1) (.loc 0) 3]
def cH:List AA:=[
 ⟨none,.p1 some,[(.const (.int .u64 (0)))],(.set 2),[]⟩]
def cI:List AA:=[
 A1v 22 (.var 0) (.var 1),
 A1m 76 (.loc 0),
 ⟨none,.r1 (fun s x=>A7 Tryz.prog s 76 69 x),[.loc 0],.push,[]⟩,
 A1p (.loc 0) 2]
def sw:Ah:=⟨2,4,(.seq (.ops Tk) (.seq (.seq (.ops Tl) (.cond (.var 3)
 (.seq (.ops cH) .ret)
 .skip)) (.seq (.ops cI) .ret))),[((.var 2),none)]⟩
def cJ:List AA:=[
 A1m 22 (.var 1),
 A1s 22 (.loc 0),
 A1m 22 (.var 2),
 A1s 22 (.loc 0),
 ⟨none,.p (fun l=>match l with | v::l=>Ch true v l | []=>none),[.loc 2,.loc 0],(.set 5),[]⟩,
 A1p (.const (.int .i64 (0))) 6]
def Tm:List AA:=[
 A1x .lss 3 (.var 6) (.var 5) 7]
def cK:List AA:=[
 A1p (.var 6) 4]
def cL:List AA:=[
 A1m 197 (.var 3),
 A1m 22 (.var 1),
 A1m 197 (.var 3),
 A1m 22 (.var 2),
 ⟨none,.callv,[.loc 3,.loc 2,.var 4],.push,[⟨none,.r1 (fun s a=>AB Tryz.prog s 22 a),[.var 2],(.loc 1)⟩,⟨none,.r1 (fun s a=>AB Tryz.prog s 197 a),[.var 3],(.loc 2)⟩]⟩,
 ⟨none,.callv,[.loc 2,.loc 1,.var 4],.push,[]⟩,
 ⟨none,.callv,[.var 0,.loc 1,.loc 0],.push,[]⟩,
 ⟨none,.p1 (Sy Tryz.prog Go.UnOp.not),[.loc 0],(.set 8),[]⟩]
def cM:List AA:=[
 ⟨none,.p2 (AN Tryz.prog .add 3),[(.var 6),(.const (.int .i64 (1)))],.push,[]⟩,
 A1p (.loc 0) 6]
def Lw:Ac:=(.seq (.ops Tm) (.seq (.cond (.var 7)
 .skip
 (.exit 0)) (.seq (.block 1 (.seq (.ops cK) (.seq (.ops cL) (.cond (.var 8)
 .ret
 .skip)))) (.ops cM))))
def wL:Ah:=⟨4,9,(.seq (.ops cJ) (.block 0 (.loop Lw))),[]⟩
def bj:List AA:=[
 A1p (.const (.slice none 0 (some 0))) 1]
def bk:List AA:=[
 A1p (.var 0) 7,
 ⟨none,.r (fun s l=>match l with | [x]=>Ay Tryz.prog s 196 x | _=>none),[.var 7],(.set 8),[]⟩,
 A1p (.const (.int .i64 (0))) 9]
def Ti:List AA:=[
 A1x .lss 3 (.var 9) (.var 8) 10]
def bl:List AA:=[
 A1v 196 (.var 7) (.var 9),
 A1m 22 (.loc 0),
 A1p (.loc 0) 2]
def bo:List AA:=[
 A1r 22 3]
def bp:List AA:=[
 A1r 69 4,
 ⟨none,.e (fun s=>Xy (fun a x=>Za (AO Tryz.prog s 69 a x))),[(.var 4),(.const (.int .u64 (0)))],.push,[]⟩]
def bs:List AA:=[
 ⟨none,.call 174,[.var 1,.var 2],(.set 11),[]⟩]
def bu:List AA:=[
 A1p (.var 12) 5]
def bz:List AA:=[
 A1p (.var 13) 6]
def cC:List AA:=[
 A1m 69 (.var 4),
 A1w .add 69 (.var 5) (.var 6),
 A1w .add 69 (.loc 1) (.loc 0),
 A1o 69 (.var 4) (.loc 0)]
def VZ:List AA:=[
 A1m 22 (.var 3),
 A1m 69 (.var 4),
 ⟨none,.p2 (AN Tryz.prog .and 69),[(.loc 0),(.const (.int .u64 (4294967295)))],.push,[]⟩,
 ⟨none,.r1 (fun s x=>A7 Tryz.prog s 69 76 x),[.loc 0],.push,[]⟩,
 ⟨none,.mk (fun l=>(Ad Tryz.prog 22 1 (zipIdx [0] l)).bind fun r=>some (r,.slice 1)),[.loc 0],.push,[]⟩,
 ⟨none,.e (fun s l=>Aj Tryz.prog s [22,22] l),[.loc 4,.loc 0],.push,[]⟩,
 A1o 22 (.var 3) (.loc 0)]
def Va:List AA:=[
 A1m 69 (.var 4),
 ⟨none,.p2 (AN Tryz.prog .shr 69),[(.loc 0),(.const (.int .u64 (32)))],.push,[]⟩,
 A1o 69 (.var 4) (.loc 0)]
def Q7:Ac:=(.seq (.ops bu) (.ops bz))
def Q8:Ac:=(.block 3 (.seq (.ops cC) (.seq (.ops VZ) (.ops Va))))
def PI:Code:=(Fl 173 0).1
def PJ:Code:=(Fl 173 0).2
theorem bZ:ER Tryz.prog 173 PI=some Q7:=by kernel_rfl
theorem bh:ER Tryz.prog 173 PJ=some Q8:=by kernel_rfl
theorem Tj:Dh Tryz.prog 173=[0,2,4,5,6,7,8,9,10,11,12,17,18,19]:=by kernel_rfl
def Vb:List AA:=[
 A1m 22 (.var 3),
 A1m 69 (.var 4),
 ⟨none,.r1 (fun s x=>A7 Tryz.prog s 69 76 x),[.loc 0],.push,[]⟩,
 ⟨none,.mk (fun l=>(Ad Tryz.prog 22 1 (zipIdx [0] l)).bind fun r=>some (r,.slice 1)),[.loc 0],.push,[]⟩,
 ⟨none,.e (fun s l=>Aj Tryz.prog s [22,22] l),[.loc 3,.loc 0],.push,[]⟩,
 A1p (.loc 0) 1]
def Vc:List AA:=[
 ⟨none,.p2 (AN Tryz.prog .add 3),[(.var 9),(.const (.int .i64 (1)))],.push,[]⟩,
 A1p (.loc 0) 9]
def I8:Ac:=(.seq (.ops Ti) (.seq (.cond (.var 10)
 .skip
 (.exit 0)) (.seq (.block 1 (.seq (.ops bl) (.seq (.ops bo) (.seq (.ops bp) (.seq (.seq (.ops bs) (.block 2 (.rangeFunc 173 (.var 11) #[18,19] PI PJ))) (.ops Vb)))))) (.ops Vc))))
def Vd:List AA:=[
 A1t (.var 1),
 A1u 92 [.loc 0],
 A1p (.loc 0) 1]
def wJ:Ah:=⟨1,14,(.seq (.ops bj) (.seq (.seq (.ops bk) (.block 0 (.loop I8))) (.seq (.ops Vd) .ret))),[((.var 1),none)]⟩
def bL:List AA:=[
 A1p (.const (.slice none 0 (some 0))) 2]
def bM:List AA:=[
 ⟨none,.mk (fun l=>(Ad Tryz.prog 196 2 (zipIdx [0,1] l)).bind fun r=>some (r,.slice 2)),[.var 0,.var 1],.push,[]⟩,
 A1u 173 [.loc 0],
 A1p (.loc 0) 2]
def wH:Ah:=⟨2,3,(.seq (.ops bL) (.seq (.ops bM) .ret)),[((.var 2),none)]⟩
def bP:List AA:=[
 A1p (.const (.slice none 0 (some 0))) 2,
 A1p (.const (.bool false)) 3]
def bQ:List AA:=[
 A1u 93 [.var 0,.var 1],
 ⟨none,.p2 (AN Tryz.prog .lss 3),[(.loc 0),(.const (.int .i64 (0)))],(.set 9),[]⟩]
def bR:List AA:=[
 A1p (.const (.slice none 0 (some 0))) 2,
 A1p (.const (.bool false)) 3]
def bS:List AA:=[
 A1r 22 4]
def bT:List AA:=[
 A1r 69 5,
 ⟨none,.e (fun s=>Xy (fun a x=>Za (AO Tryz.prog s 69 a x))),[(.var 5),(.const (.int .u64 (0)))],.push,[]⟩]
def bU:List AA:=[
 ⟨none,.call 174,[.var 0,.var 1],(.set 10),[]⟩]
def bV:List AA:=[
 A1p (.var 11) 6]
def bW:List AA:=[
 A1p (.var 12) 7]
def bX:List AA:=[
 A1w .sub 69 (.var 6) (.var 7),
 A1m 69 (.var 5),
 A1w .sub 69 (.loc 1) (.loc 0),
 A1p (.loc 0) 8]
def bY:List AA:=[
 A1m 22 (.var 4),
 ⟨none,.p2 (AN Tryz.prog .and 69),[(.var 8),(.const (.int .u64 (4294967295)))],.push,[]⟩,
 ⟨none,.r1 (fun s x=>A7 Tryz.prog s 69 76 x),[.loc 0],.push,[]⟩,
 ⟨none,.mk (fun l=>(Ad Tryz.prog 22 1 (zipIdx [0] l)).bind fun r=>some (r,.slice 1)),[.loc 0],.push,[]⟩,
 ⟨none,.e (fun s l=>Aj Tryz.prog s [22,22] l),[.loc 3,.loc 0],.push,[]⟩,
 A1o 22 (.var 4) (.loc 0)]
def VX:List AA:=[
 ⟨none,.p2 (AN Tryz.prog .shr 69),[(.var 8),(.const (.int .u64 (63)))],.push,[]⟩,
 A1o 69 (.var 5) (.loc 0)]
def Q5:Ac:=(.seq (.ops bV) (.ops bW))
def Q6:Ac:=(.block 1 (.seq (.ops bX) (.seq (.ops bY) (.ops VX))))
def PG:Code:=(Fl 154 0).1
def PH:Code:=(Fl 154 0).2
theorem bN:ER Tryz.prog 154 PG=some Q5:=by kernel_rfl
theorem bO:ER Tryz.prog 154 PH=some Q6:=by kernel_rfl
theorem Th:Dh Tryz.prog 154=[0,1,4,5,6,7,8,9,10,14,17,18,19]:=by kernel_rfl
def VY:List AA:=[
 A1m 22 (.var 4),
 A1u 92 [.loc 0],
 A1p (.loc 0) 2,
 A1p (.const (.bool true)) 3]
def wI:Ah:=⟨2,13,(.seq (.ops bP) (.seq (.seq (.ops bQ) (.cond (.var 9)
 (.seq (.ops bR) .ret)
 .skip)) (.seq (.ops bS) (.seq (.ops bT) (.seq (.seq (.ops bU) (.block 0 (.rangeFunc 154 (.var 10) #[18,19] PG PH))) (.seq (.ops VY) .ret)))))),[((.var 2),none),((.var 3),none)]⟩
theorem jm:AL Tryz.prog 174=some wK:=by kernel_rfl
theorem jn:AL Tryz.prog 187=some sw:=by kernel_rfl
theorem jo:AL Tryz.prog 188=some wL:=by kernel_rfl
theorem jl:AL Tryz.prog 173=some wJ:=by kernel_rfl
theorem jh:AL Tryz.prog 153=some wH:=by kernel_rfl
theorem jj:AL Tryz.prog 154=some wI:=by kernel_rfl
end
end Go.Proofs.YtjnkfbpadpmakaaGreatDoor.Am
set_option linter.unusedVariables false
set_option linter.unusedSimpArgs false
set_option maxRecDepth 12000
namespace Go.Proofs.YtjnkfbpadpmakaaGreatDoor.Am
open Go Go.Proofs
noncomputable section
theorem NB(k:IntKind):CC k k=true:=by cases k<;>rfl
theorem YV(a:Nat):Nat.beq a a=true:=Fq rfl
theorem A8(a:Option (Nat×Nat))(n:Nat)(cap:Option Nat):Fs (.slice a n cap) (.slice a n cap)=true:=by
 cases a<;>cases cap<;>simp[Fs]
theorem Vy(f:FuncId):Fs (.func f [] []) (.func f [] [])=true:=by simp[Fs,Fs.eqAs]
theorem Au{s:AE}{loc var:List AV}{f:AE→AV→Option AV}{x ans:CX}(h:f s (C9 loc var x)=some (C9 loc var ans))(he:Fs (C9 loc var ans) (C9 loc var ans)=true):Et s loc var ⟨none,.r1 f,[x],ans⟩=true:=by
 unfold Et
 show(!true || M9 (f s (C9 loc var x)) (C9 loc var ans))=true
 rw[h]
 exact he
section
variable{E:CR}{s:AE}
theorem WE(hE:GoodN E){a:Option (Nat×Nat)}{ca:Option Nat}{b:Nat}{la:List Nat}(hc:AS b s a (us la))(hs:Bi la){i:Nat}{K:AV→AE→Prop}(hK:K (An (la.getD i 0)) s):
  WF E 187 [.slice a la.length ca,iv (i:Int)] K s:=by
 refine hE.go jn (by decide) rfl ?_
 rcases zX i la.length with h | h
 ·have hx:la[i]? = some la[i]:=zW h
  rw[A0k,hx]at hK
  generalize la[i]=x at hx hK
  obtain⟨pi,o,rfl,_,hload⟩:=hc i _ (DG hx)
  have dd:decide ((la.length:Int)≤(i:Int))=false:=decide_eq_false (by omega)
  have e1:=AX (cap:=ca) (i:=pi) (o:=o) Tryz.underlying22 C5 h
  have e2:AB Tryz.prog s 76 (.ptr (some (pi,o+i * 1)))=some (A6 x):=Bq G5 (by rw[zf];exact hload)
  have e3:=B7 (s:=s) (hs x (zw hx))
  simp only[sw,Tk,Tl,cI,AH Tryz.underlying22,Wb,dd,e1,e2,e3,Qa,Qb,Qc,Qd,Qf,Qh,Qi,Qj,Qk,Ql,Qm,Qo,true_and,Qp,Qq,Qr,Qs,Qt,Qv,Ra,Rb,Rc,Rh,Rj,Rk,Rm,Rn,Yc,Wb,A1s,A1x,A1v,A1m,A1p]
  exact hK
 ·have dd:decide ((la.length:Int)≤(i:Int))=true:=decide_eq_true (by omega)
  rw[A0k,zj h]at hK
  simp only[sw,Tk,Tl,cH,AH Tryz.underlying22,Wb,dd,Qa,Qb,Qc,Qd,Qf,Qh,Qi,Qj,Qk,Ql,Qm,Qo,true_and,Qp,Qq,Qr,Qs,Qt,Qv,Qz,Rb,Rc,Rh,Rj,Rk,Rm,Rn,Yc,Wb,A1s,A1x]
  exact hK
def VF(v:AV):BF:=R 22 0 false [v]
def vJ:BF:=R 197 0 false [.func 187 [] []]
theorem SS(hE:GoodN E){va vb:AV}(hca:va.cells=[va])(hcb:vb.cells=[vb]){K:AV→AE→Prop}
  (hK:∀s',s'.next=s.next+3→(∀j,j<s.next→s'.heap.get j=s.heap.get j)→s'.heap.get s.next=some (VF va)→s'.heap.get (s.next+1)=some (VF vb)→s'.heap.get (s.next+2)=some vJ →
   K (.func 188 [] [.ptr (some (s.next,0)),.ptr (some (s.next+1,0)),.ptr (some (s.next+2,0))]) s'):WF E 174 [va,vb] K s:=by
 refine hE.go jm (by decide) rfl ?_
 have hz:Ag Tryz.prog 197=some (R 197 0 false [.nilFunc],.ptr):=by kernel_rfl
 have hsz:BJ Tryz.prog 197=some 1:=by kernel_rfl
 have n1:(newObj s (R 22 0 false [va])).next=s.next+1:=rfl
 have n2:(newObj (newObj s (R 22 0 false [va])) (R 22 0 false [vb])).next=s.next+2:=rfl
 have hg:(newObj (newObj (newObj s (R 22 0 false [va])) (R 22 0 false [vb])) (R 197 0 false [.nilFunc])).heap.get (s.next+2)=some (R 197 0 false [.nilFunc]):=by
  rw[AU,if_pos n2.symm]
 have hst:=CN (P:=Tryz.prog) (t:=197) (o:=0) (v:=.func 187 [] []) hsz hg (by simp) rfl
 simp only[A0p]at hst
 simp only[wK,cE,cF,cG,Xa,hca,hcb,hz,Xc,n1,n2,hst,Xy,Za,A0l,A0d,Qa,Qb,Qc,Qd,Qf,Qh,Qi,Qj,Qk,Ql,Qm,Qo,true_and,Qp,Qq,Qr,Qs,Qt,Qv,Rb,Rh,Rj,Rk,Rm,Rn,Yc,A1q,A1r,A1p]
 refine hK _ rfl (fun j hj=>?_) ?_ ?_ (Ww _ _ _)
 ·rw[Wx _ (by omega),AU,if_neg (by rw[n2];omega),AU,if_neg (by rw[n1];omega),AU,if_neg (by omega)]
 ·rw[Wx _ (by omega),AU,if_neg (by rw[n2];omega),AU,if_neg (by rw[n1];omega),AU,if_pos rfl];rfl
 ·rw[Wx _ (by omega),AU,if_neg (by rw[n2];omega),AU,if_pos n1.symm];rfl
structure PK(n0 p:Nat)(s0 s:AE):Prop where
 next:s0.next≤s.next
 low:∀j,j<n0→s.heap.get j=s0.heap.get j
 a:s.heap.get p=s0.heap.get p
 b:s.heap.get (p+1)=s0.heap.get (p+1)
 l:s.heap.get (p+2)=s0.heap.get (p+2)
theorem PK.refl(n0 p:Nat)(s:AE):PK n0 p s s:=⟨zU _,fun _ _=>rfl,rfl,rfl,rfl⟩
theorem PK.trans{n0 p:Nat}{s0 s1 s2:AE}(h:PK n0 p s0 s1)(k:PK n0 p s1 s2):PK n0 p s0 s2:=
 ⟨zY h.next k.next,fun j hj=>(k.low j hj).trans (h.low j hj),k.a.trans h.a,k.b.trans h.b,k.l.trans h.l⟩
theorem OG(hE:GoodN E){s0:AE}{n0 p l:Nat}{a b:Option (Nat×Nat)}{ca cb:Option Nat}{la lb:List Nat}(hla:la.length≤10000000000)(hlb:lb.length≤10000000000)(hsa:Bi la)(hsb:Bi lb)
  (hca:AS n0 s0 a (us la)) (hcb:AS n0 s0 b (us lb)) (h1:s0.heap.get p=some (VF (.slice a la.length ca))) (h2:s0.heap.get (p+1)=some (VF (.slice b lb.length cb))) (h3:s0.heap.get (p+2)=some vJ)
  (LI:Nat→AE→Prop) (hLI:∀k s,LI k s→PK n0 p s0 s)
  (hround:∀ (k:Nat) (s:AE) (K:AV→AE→Prop),k<max la.length lb.length→LI k s→(∀s',LI (k+1) s'→K (.bool true) s')→WR E l [An (la.getD k 0),An (lb.getD k 0)] K s)
  {K:AV→AE→Prop} (h0:LI 0 s) (hend:∀v s',LI (max la.length lb.length) s'→K v s'):
  WF E 188 [.yield l,.ptr (some (p,0)),.ptr (some (p+1,0)),.ptr (some (p+2,0))] K s:=by
 have hag:EO Tryz.prog 197=some false:=by kernel_rfl
 have lda:∀ {s':AE},PK n0 p s0 s'→AB Tryz.prog s' 22 (.ptr (some (p,0)))=some (.slice a la.length ca):=fun h=>AI Cq (h.a.trans h1) rfl
 have ldb:∀ {s':AE},PK n0 p s0 s'→AB Tryz.prog s' 22 (.ptr (some (p+1,0)))=some (.slice b lb.length cb):=fun h=>AI Cq (h.b.trans h2) rfl
 have ldl:∀ {s':AE},PK n0 p s0 s'→AB Tryz.prog s' 197 (.ptr (some (p+2,0)))=some (.func 187 [] []):=fun h=>AI hag (h.l.trans h3) rfl
 have hmm:Ch true (iv (la.length:Int)) [iv (lb.length:Int)]=some (iv ((max la.length lb.length:Nat):Int)):=by
  simp only[Ch,NB,AQ,cond_true]
  congr 2
  cases hlt:NV (la.length:Int) (lb.length:Int)with
  | true=>rw[DF]at hlt;have:=of_decide_eq_true hlt;simp only[cond_true];omega
  | false=>rw[DF]at hlt;have:=of_decide_eq_false hlt;simp only[cond_false];omega
 refine hE.go jo (by decide) rfl ?_
 simp only[wL,cJ,lda (hLI 0 s h0),ldb (hLI 0 s h0),AH Tryz.underlying22,hmm,Qa,Qb,Qc,Qd,Qf,Qh,Qi,Qj,Qk,Ql,Qm,Qo,true_and,Qp,Qq,Qr,Qs,Qt,Qv,Rb,A1m,A1s,A1p]
 generalize hM:max la.length lb.length=M at *
 have hMle:M≤10000000000:=by omega
 have key:∀ (m k:Nat) (S:AE) (x4 x7 x8:AV),k+m=M→LI k S→WC E none (.loop Lw) (fun r=>(r.exit=.exit 0∧r.marks=[]∧LI M r.st)) [.yield l,.ptr (some (p,0)),.ptr (some (p+1,0)),.ptr (some (p+2,0)),x4,iv (M:Int),iv (k:Int),x7,x8] [] S:=by
  intro m
  induction m with
  | zero =>
   intro k S x4 x7 x8 hk hS
   have e:k=M:=by omega
   subst e
   have dd:decide ((k:Int)<(k:Int))=false:=decide_eq_false (by omega)
   refine WC.loop' ?_
   simp only[Lw,Tm,Ry,dd,Qa,Qb,Qc,Qd,Qf,Qh,Qj,Qm,Qo,true_and,Qp,Qq,Qr,Qs,Qt,Qv,Ra,Rb,Rc,Rd,Re,Rf,Ry,A1x]
   exact hS
  | succ m ih =>
   intro k S x4 x7 x8 hk hS
   have dd:decide ((k:Int)<(M:Int))=true:=decide_eq_true (by omega)
   have pk:=hLI k S hS
   have l1:=lda pk
   have l2:=ldb pk
   have l3:=ldl pk
   have e17:=Ax Tryz.prog 3 (k:Int) 1 ⟨by omega,by omega⟩
   have e17':((k:Int)+1)=((k+1:Nat):Int):=by omega
   refine WC.loop' ?_
   generalize hW:WC E none (Ac.loop Lw) _=WW
   simp only[Lw,Tm,cK,cL,Ry,dd,l1,l2,l3,Qa,Qb,Qc,Qd,Qe,Qf,Qh,Qj,Qk,Qm,Qo,true_and,Qp,Qq,Qr,Qs,Qt,Qv,Qz,Rb,Rc,Rd,Re,Rf,Ry,A1x,A1p,A1m]
   have ca':AS n0 S a (us la):=hca.old ⟨pk.next,pk.low⟩ (zU _)
   have cb':AS n0 S b (us lb):=hcb.old ⟨pk.next,pk.low⟩ (zU _)
   refine WE hE ca' hsa ?_
   refine⟨⟨Au (by simp only[Qj,Qk,Qr,Qs];exact l2) (A8 _ _ _),Au (by simp only[Qj,Qk,Qr,Qs];exact l3) (Vy _),trivial⟩,?_⟩
   simp only[Qr,Qs]
   refine WE hE cb' hsb ?_
   simp only[Qd,Qo,true_and,Qr,Qs]
   refine hround k S _ (by omega) hS fun s' hs'=>?_
   simp only[cM,We,Bool.not_true,e17,e17',Qb,Qc,Qd,Qf,Qh,Qi,Qj,Qk,Qm,Qo,true_and,Qp,Qq,Qr,Qs,Qt,Qv,Ra,Ya,We,A1p]
   rw[← hW]
   exact ih (k+1) s' _ _ _ (by omega) hs'
 refine(key M 0 s _ _ _ (by omega) h0).mono ?_
 rintro⟨e,v,m,s'⟩ ⟨q1,q0,q2⟩
 simp only at q1 q0 q2
 subst q0
 subst q1
 simp only[if_true,Qm,Rg,Ri,Rj,Rk,Ro]
 exact hend _ _ q2
end
end
end Go.Proofs.YtjnkfbpadpmakaaGreatDoor.Am
set_option linter.unusedVariables false
set_option linter.unusedSimpArgs false
set_option maxRecDepth 16000
namespace Go.Proofs.YtjnkfbpadpmakaaGreatDoor.Am
open Go Go.Proofs
noncomputable section
theorem Ms{a b:List Nat}{k:Nat}(h:k<max a.length b.length):(CM a b)[k]? = some (a.getD k 0,b.getD k 0):=by
 unfold CM
 rw[A0N,A1b h];rfl
theorem Mt(a b:List Nat):(CM a b).length=max a.length b.length:=by simp[CM]
theorem Hr{a:List Nat}(h:Bi a)(k:Nat):a.getD k 0<4294967296:=by
 rw[A0k]
 rcases zX k a.length with h' | h'
 ·rw[zW h'];exact h _ (A0x h')
 ·rw[zj h'];exact(by decide)
theorem XZ{a b:List Nat}(ha:Bi a)(hb:Bi b):∀p∈CM a b,p.1<LB∧p.2<LB:=fun p hp=>by
 unfold CM at hp
 obtain⟨i,_,rfl⟩:=List.mem_map.1 hp
 exact⟨Hr ha i,Hr hb i⟩
def Mb (v0 v1 v2 x5 x6 x7 x8 x9 x10:AV) (n0:Nat) (x12 x13:AV):Di:=
 Hu 173 [v0,v1,v2,.ptr (some (n0,0)),.ptr (some (n0+1,0)),x5,x6,x7,x8,x9,x10,.func 188 [] [.ptr (some (n0+2,0)),.ptr (some (n0+2+1,0)),.ptr (some (n0+2+2,0))],x12,x13] #[18,19] PI PJ (n0+5)
structure sa(n0:Nat)(s0:AE)(lo:Di)(P:List (Nat×Nat))(T:List Nat×Nat)(k:Nat)(s:AE):Prop where
 pk:PK n0 (n0+2) s0 s
 lt:n0+7≤s.next
 lp:Ba s (n0+6)=some lo
 mrk:s.heap.get (n0+5)=some .mark
 ex:∃vo d O c,s.heap.get n0=some (R 22 0 false [vo])∧s.heap.get (n0+1)=some (R 69 0 false [An c])∧B9 76 s vo d.length 1 (us d) O∧(∀j∈O,n0+7≤j)∧(∀j,B6 vo=some j→n0+7≤j)∧d.length=k∧c≤1∧(d++(Ei (P.drop k) c).1,(Ei (P.drop k) c).2)=T
section
variable{E:CR}{s:AE}
theorem X4(hE:GoodN E){n0:Nat}{s0:AE}{v0 v1 v2 x5 x6 x7 x8 x9 x10 x12 x13:AV}{P:List (Nat×Nat)}(hPl:P.length≤10000000000){T:List Nat×Nat}{k x y:Nat}(hP:P[k]? = some (x,y))(hx:x<4294967296)(hy:y<4294967296)
    (hI:sa n0 s0 (Mb v0 v1 v2 x5 x6 x7 x8 x9 x10 n0 x12 x13) P T k s) {K:AV→AE→Prop} (hK:∀s',sa n0 s0 (Mb v0 v1 v2 x5 x6 x7 x8 x9 x10 n0 x12 x13) P T (k+1) s'→K (.bool true) s'):
    WR E (n0+6) [An x,An y] K s:=by
  obtain⟨pk,hlt,hlp,hmk,vo,d,O,c,g1,g2,hD,hO,hsl,hdl,hc,hT⟩:=hI
  have hz:Db (Dh E.P 173) (Mb v0 v1 v2 x5 x6 x7 x8 x9 x10 n0 x12 x13).var [18,19] [An x,An y]=some [v0,v1,v2,.ptr (some (n0,0)),.ptr (some (n0+1,0)),x5,x6,x7,x8,x9,x10,.func 188 [] [.ptr (some (n0+2,0)),.ptr (some (n0+2+1,0)),.ptr (some (n0+2+2,0))],An x,An y]:=by
    rw[hE.P,Tj];rfl
  refine WR.round hlp hz (by rw[hE.P];exact bZ) (by rw[hE.P];exact bh) ?_
  refine Eg ?_
  simp only[Q7,bu,bz,Qa,Qb,Qc,Qd,Qf,Qh,Qj,Qm,Qo,true_and,Qp,Qq,Qr,Qs,Qt,Qv,Rb,A1p]
  refine⟨_,hlp,rfl,Eg ?_⟩
  generalize hs1:setObj s (n0+6) _=s1
  have n1:s1.next=s.next:=by rw[← hs1];rfl
  have f1:∀j,j≠n0+6→s1.heap.get j=s.heap.get j:=fun j hj=>by rw[← hs1,Wx _ hj]
  have l1:Ba s1 (n0+6)=some { Mb v0 v1 v2 x5 x6 x7 x8 x9 x10 n0 x12 x13 with state:=.busy }:=by rw[← hs1,C6]
  have g1':=(f1 n0 (by omega)).trans g1
  have g2':=(f1 (n0+1) (by omega)).trans g2
  have hD1:B9 76 s1 vo d.length 1 (us d) O:=hD.frame (A0L n1.symm) (fun j hj=>f1 j (by have:=hsl j hj;omega))
  have hdk:P.drop k=(x,y)::P.drop (k+1):=by
    have hk:k<P.length:=(List.getElem?_eq_some_iff.1 hP).1
    rw[A0M hk]
    rw[zW hk]at hP
    rw[Option.some.inj hP]
  have hkP:k<P.length:=(List.getElem?_eq_some_iff.1 hP).1
  rw[hdk]at hT
  simp only[Ei]at hT
  have hLB:LB=4294967296:=rfl
  rw[hLB,show x+y+c=c+(x+y) by omega]at hT
  have e1:=IU Tryz.prog 69 (a:=x) (b:=y) (by omega)
  have e2:=IU Tryz.prog 69 (a:=c) (b:=x+y) (by omega)
  generalize hc1:c+(x+y)=c1 at hT e2
  have hc1b:c1<18446744073709551616:=by omega
  have e3:=K0 Tryz.prog 69 hc1b
  have e11:c1 % 4294967296 % 4294967296=c1 % 4294967296:=A1K _ _
  have e15:AN Tryz.prog .shr 69 (An c1) (.int .u64 32)=some (An (c1 / 4294967296)):=Jh Tryz.prog 69 (k:=.u64) (n:=32) (by decide)
  have hcq:c1 / 4294967296≤1:=by omega
  generalize hz:c1 % 4294967296=z at hT e3 e11
  have ld2:AB Tryz.prog s1 69 (.ptr (some (n0+1,0)))=some (An c):=AI YH g2' rfl
  have st2:=CN (P:=Tryz.prog) (t:=69) (o:=0) (v:=An c1) iC g2' (by simp) rfl
  simp only[A0p]at st2
  generalize hs2:setObj s1 (n0+1) (R 69 0 false [An c1])=s2 at st2
  have n2:s2.next=s1.next:=by rw[← hs2];rfl
  have f2:∀j,j≠n0+1→s2.heap.get j=s1.heap.get j:=fun j hj=>by rw[← hs2,Wx _ hj]
  have g22:s2.heap.get (n0+1)=some (R 69 0 false [An c1]):=by rw[← hs2,Ww]
  have ld22:AB Tryz.prog s2 69 (.ptr (some (n0+1,0)))=some (An c1):=AI YH g22 rfl
  have g12:=(f2 n0 (by omega)).trans g1'
  have ld12:AB Tryz.prog s2 22 (.ptr (some (n0,0)))=some vo:=AI Cq g12 rfl
  have hD2:B9 76 s2 vo d.length 1 (us d) O:=hD1.frame (A0L n2.symm) (fun j hj=>f2 j (by have:=hsl j hj;omega))
  obtain⟨v',s3,O',happ,hD3,hn3,f3,hO3,hsl3⟩:=JT hD2 z (by omega)
  have happ':Aj Tryz.prog (newObj s2 (R 76 1 false [.int .u32 z])) [22,22] [vo,.slice (some (s2.next,0)) 1 (some 1)]=some (v',s3):=happ
  have g13:s3.heap.get n0=some (R 22 0 false [vo]):=(f3 n0 (by omega) (fun h=>by have:=hO n0 h;omega)).trans g12
  have g23:s3.heap.get (n0+1)=some (R 69 0 false [An c1]):=(f3 (n0+1) (by omega) (fun h=>by have:=hO _ h;omega)).trans g22
  have hv'c:v'.isCell=true:=by obtain⟨a,cap,rfl,_⟩:=hD3.cells;rfl
  have st3:=CN (P:=Tryz.prog) (t:=22) (o:=0) (v:=v') iB g13 (by simp) hv'c
  simp only[A0p]at st3
  generalize hs4:setObj s3 n0 (R 22 0 false [v'])=s4 at st3
  have n4:s4.next=s3.next:=by rw[← hs4];rfl
  have f4:∀j,j≠n0→s4.heap.get j=s3.heap.get j:=fun j hj=>by rw[← hs4,Wx _ hj]
  have g24:=(f4 (n0+1) (by omega)).trans g23
  have ld24:AB Tryz.prog s4 69 (.ptr (some (n0+1,0)))=some (An c1):=AI YH g24 rfl
  have st4:=CN (P:=Tryz.prog) (t:=69) (o:=0) (v:=An (c1 / 4294967296)) iC g24 (by simp) rfl
  simp only[A0p]at st4
  generalize hs5:setObj s4 (n0+1) (R 69 0 false [An (c1 / 4294967296)])=s5 at st4
  have n5:s5.next=s4.next:=by rw[← hs5];rfl
  have f5:∀j,j≠n0+1→s5.heap.get j=s4.heap.get j:=fun j hj=>by rw[← hs5,Wx _ hj]
  have fall:∀j,j<s.next→j ∉ O→j≠n0→j≠n0+1→s5.heap.get j=s1.heap.get j:=fun j hj h1 h2 h3=>by
    rw[f5 j h3,f4 j h2,f3 j (by omega) h1,f2 j h3]
  have l5:Ba s5 (n0+6)=some { Mb v0 v1 v2 x5 x6 x7 x8 x9 x10 n0 x12 x13 with state:=.busy }:=by
    rw[D2 (fall (n0+6) (by omega) (fun h=>by have:=hO _ h;omega) (by omega) (by omega))];exact l1
  simp only[Q8,cC,VZ,Va,e1,e2,ld2,st2,ld12,ld22,e3,CP,e11,Gp,Xe,happ',st3,ld24,e15,st4,Xy,Za,Qa,Qb,Qc,Qd,Qf,Qh,Qi,Qj,Qk,Qm,Qo,true_and,Qr,Qs,Qt,Qv,Rb,Re,Yc,A1m,A1w,A1o]
  refine⟨_,l5,hK _ ?_⟩
  have fl:∀j,j≠n0+6→∀r,(setObj s5 (n0+6) r).heap.get j=s5.heap.get j:=fun j hj r=>Wx _ hj
  have hlow:∀j,j<n0+6→j≠n0→j≠n0+1→∀r,(setObj s5 (n0+6) r).heap.get j=s.heap.get j:=fun j h1 h2 h3 r=>by
    rw[fl j (by omega),fall j (by omega) (fun h=>by have:=hO _ h;omega) h2 h3,f1 j (by omega)]
  refine⟨pk.trans ⟨?_,fun j hj=>hlow j (by omega) (by omega) (by omega) _,hlow _ (by omega) (by omega) (by omega) _,hlow _ (by omega) (by omega) (by omega) _,hlow _ (by omega) (by omega) (by omega) _⟩,?_,?_,?_,v',d++[z],O',c1 / 4294967296,?_,?_,?_,fun j hj=>?_,fun j hj=>?_,?_,hcq,?_⟩
  · show s.next≤s5.next;omega
  · show n0+7≤s5.next;omega
  · rw[C6];rfl
  · rw[hlow _ (by omega) (by omega) (by omega)];exact hmk
  · rw[fl n0 (by omega),f5 n0 (by omega),← hs4,Ww]
  · rw[fl (n0+1) (by omega),← hs5,Ww]
  · refine hD3.frame (by show s3.next≤s5.next;omega) (fun j hj=>?_)
    have hj7:n0+7≤j:=by
      rcases hsl3 j hj with h | h
      · exact hsl j h
      · omega
    rw[fl j (by omega),f5 j (by omega),f4 j (by omega)]
  · rcases hO3 j hj with h | h
    · exact hO j h
    · omega
  · rcases hsl3 j hj with h | h
    · exact hsl j h
    · omega
  · rw[zg,hdl];rfl
  · rw[A0O];exact hT
end
theorem NR.keep{b:Nat}{s s':AE}{v:AV}{l:List Nat}(h:NR b s v l)(hn:s.next≤s'.next)(hf:∀j,B6 v=some j→s'.heap.get j=s.heap.get j):NR b s' v l:=by
 obtain⟨O,h1,h2,h3,h4⟩:=h
 exact⟨O,h1.frame hn hf,h2,h3,fun hne=>by obtain⟨i,q1,q2,q3⟩:=h4 hne;exact⟨i,q1,zZ q2 hn,q3.keep (hf i (by rw[q1];rfl))⟩⟩
theorem GQ:∀ (M:List Nat)(s:AE),M.Nodup→(∀m∈M,s.heap.get m=some .mark)→∃s',EJ s M=some s'∧s'.next=s.next∧∀j,j ∉ M→s'.heap.get j=s.heap.get j
 | [],s,_,_=>⟨s,rfl,rfl,fun _ _=>rfl⟩
 | m::M,s,hn,hm=>by
  obtain⟨n1,n2⟩:=List.nodup_cons.1 hn
  obtain⟨s',h1,h2,h3⟩:=GQ M (Cg s m) n2 (fun x hx=>by
   rw[HL,if_neg (fun(e:x=m)=>n1 (e▸hx))];exact hm x (A0B _ hx))
  refine⟨s',?_,h2,fun j hj=>?_⟩
  ·show(match s.heap.get m with | some .mark=>EJ (Cg s m) M | _=>none)=_
   rw[hm m zs]
   exact h1
  ·rw[h3 j (fun h=>hj (A0B _ h)),HL,if_neg (fun(e:j=m)=>hj (e▸zs))]
structure Nl(s:AE)(ri:Nat)(vs:List AV)(L:List (List Nat)):Prop where
 row:s.heap.get ri=some (R 22 1 false vs)
 len:vs.length=L.length
 rd:∀ (j:Nat) (v:AV) (l:List Nat),vs[j]? = some v→L[j]? = some l→By s v l
theorem Nl.old{s s':AE}{ri:Nat}{vs:List AV}{L:List (List Nat)}(h:Nl s ri vs L)(k:Aa s.next s s')(hi:ri<s.next):Nl s' ri vs L:=
 ⟨(k.2 ri hi).trans h.row,h.len,fun j v l h1 h2=>(h.rd j v l h1 h2).old k⟩
def Hh:List (List Nat)→Nat
 | []=>0
 | l::L=>AG l+Hh L
section
variable{E:CR}{s:AE}
theorem iA       (hE : GoodN E) {sA : AE}  {ri : Nat} {vs : List AV} {L : List (List Nat)} (hri : ri < sA.next) (hLl : L.length ≤ 1000) (hsm : ∀ l ∈ L, Bi  l ∧ l.length ≤ 1000000000) {tot : Nat} {Q : Az   → Prop} (x0 : AV)
    (hq:∀ (S:AE) (vD:AV) (D M:List Nat) (y2 y3 y4 y5 y6 y9 y10 y11 y12 y13:AV),Aa sA.next sA S→By S vD D→Bi D→D.length≤2000000000→AG D=tot→M.Nodup→(∀m∈M,sA.next≤m∧m<S.next∧S.heap.get m=some .mark) →
      Q ⟨.exit 0,[x0,vD,y2,y3,y4,y5,y6,.slice (some (ri,0)) L.length (some L.length),iv (L.length:Int),y9,y10,y11,y12,y13],M,S⟩):
    ∀ (r:List (List Nat)) (i:Nat) (S:AE) (vD:AV) (D M:List Nat) (x2 x3 x4 x5 x6 x10 x11 x12 x13:AV),L.drop i=r→i≤L.length→Aa sA.next sA S→Nl S ri vs L→By S vD D→Bi D→D.length≤1000000000+i→AG D+Hh r=tot→M.Nodup→(∀m∈M,sA.next≤m∧m<S.next∧S.heap.get m=some .mark) →
      WC E none (.loop I8) Q [x0,vD,x2,x3,x4,x5,x6,.slice (some (ri,0)) L.length (some L.length),iv (L.length:Int),iv (i:Int),x10,x11,x12,x13] M S:=by
  intro r
  induction r with
  | nil =>
    intro i S vD D M x2 x3 x4 x5 x6 x10 x11 x12 x13 hd hi ho hR hN hs hl hv hM hm
    have e:i=L.length:=by
      have:=congrArg List.length hd
      simp at this
      omega
    subst e
    have dd:decide ((L.length:Int)<(L.length:Int))=false:=decide_eq_false (by omega)
    refine WC.loop' ?_
    simp only[I8,Ti,Ry,dd,Qa,Qb,Qc,Qd,Qf,Qh,Qj,Qm,Qo,true_and,Qp,Qq,Qr,Qs,Qt,Qv,Ra,Rb,Rd,Re,Ry,A1x]
    exact hq S vD D M _ _ _ _ _ _ _ _ _ _ ho hN hs (by omega) (by simpa[Hh]using hv) hM hm
  | cons A r ih =>
    intro i S vD D M x2 x3 x4 x5 x6 x10 x11 x12 x13 hd hi ho hR hN hs hl hv hM hm
    have hlt:i<L.length:=by
      rcases zX i L.length with h' | h'
      · exact h'
      · rw[A0D h']at hd;cases hd
    have hA:L[i]? = some A:=by
      have:=congrArg (fun l=>l[0]?) hd
      simpa using this
    have hd':L.drop (i+1)=r:=by
      have:=congrArg (List.drop 1) hd
      simpa[A0h]using this
    obtain⟨hAs,hAl⟩:=hsm A (zw hA)
    have hva:vs[i]? = some (vs[i]'(by rw[hR.len];exact hlt)):=zW _
    generalize vs[i]'(by rw[hR.len];exact hlt)=va at hva
    have hNa:=hR.rd i va A hva hA
    have dd:decide ((i:Int)<(L.length:Int))=true:=decide_eq_true (by omega)
    have e1:=AX (cap:=some L.length) (i:=ri) (o:=0) Tryz.underlying196 iB hlt
    rw[zk,zf]at e1
    have e2:AB Tryz.prog S 22 (.ptr (some (ri,i)))=some va:=AI Cq hR.row hva
    generalize hn0:S.next=n0 at *
    have za:Ag Tryz.prog 22=some (R 22 0 false [.slice none 0 (some 0)],.ptr):=by kernel_rfl
    have zc:Ag Tryz.prog 69=some (R 69 0 false [.int .u64 0],.ptr):=by kernel_rfl
    generalize hS1:newObj S (R 22 0 false [.slice none 0 (some 0)])=S1
    have n1:S1.next=n0+1:=by rw[← hS1,← hn0];rfl
    have o1:∀j,j<n0→S1.heap.get j=S.heap.get j:=fun j hj=>by rw[← hS1,AU,if_neg (by omega)]
    have g1:S1.heap.get n0=some (R 22 0 false [.slice none 0 (some 0)]):=by rw[← hS1,AU,if_pos hn0.symm]
    generalize hS2:newObj S1 (R 69 0 false [.int .u64 0])=S2
    have n2:S2.next=n0+2:=by rw[← hS2];show S1.next+1=_;omega
    have g2:S2.heap.get (n0+1)=some (R 69 0 false [.int .u64 0]):=by rw[← hS2,AU,if_pos n1.symm]
    have o2:∀j,j<n0+1→S2.heap.get j=S1.heap.get j:=fun j hj=>by rw[← hS2,AU,if_neg (by omega)]
    have st:=CN (P:=Tryz.prog) (t:=69) (o:=0) (v:=.int .u64 0) iC g2 (by simp) rfl
    simp only[A0p]at st
    generalize hS3:setObj S2 (n0+1) (R 69 0 false [.int .u64 0])=S3 at st
    have n3:S3.next=n0+2:=by rw[← hS3];exact n2
    have g3:S3.heap.get (n0+1)=some (R 69 0 false [An 0]):=by rw[← hS3,Ww];rfl
    have o3:∀j,j<n0+1→S3.heap.get j=S1.heap.get j:=fun j hj=>by rw[← hS3,Wx _ (by omega),o2 j hj]
    have o03:Aa n0 S S3:=⟨by omega,fun j hj=>by rw[o3 j (by omega),o1 j hj]⟩
    obtain⟨aD,cD,eD,hcapD,hcD⟩:=hN
    obtain⟨aA,cA,eA,hcapA,hcA⟩:=hNa
    refine WC.loop' ?_
    generalize hW:WC E none (Ac.loop I8) Q=WW
    simp only[I8,Ti,bl,bo,bp,bs,Ry,dd,e1,e2,za,zc,Xc,hn0,hS1,n1,hS2,st,Xy,Za,Qa,Qb,Qc,Qd,Qf,Qh,Qi,Qj,Qk,Qm,Qo,true_and,Qp,Qq,Qr,Qs,Qt,Qv,Qz,Rb,Rd,Re,Ry,A1x,A1v,A1m,A1p,A1r]
    refine SS hE (by rw[eD];rfl) (by rw[eA];rfl) fun S4 n4 f4 b1 b2 b3=>?_
    rw[n3]at n4 f4 b1 b2 b3 ⊢
    subst eD;subst eA
    simp only[Qd,Qo,true_and,Qp,Qq]
    refine WC.range rfl ?_
    rw[show S4.next=n0+5 by omega]
    show WF E 188 [.yield (n0+6),.ptr (some (n0+2,0)),.ptr (some (n0+2+1,0)),.ptr (some (n0+2+2,0))] _ (newObj (newObj S4 .mark) (.loop (Mb _ _ _ _ _ _ _ _ _ n0 _ _)))
    generalize hlo:Mb _ _ _ _ _ _ _ _ _ n0 _ _=lo
    have hm1:(newObj S4 .mark).next=n0+6:=by show S4.next+1=_;omega
    generalize hs0:newObj (newObj S4 .mark) (.loop lo)=s0
    have n0':s0.next=n0+7:=by rw[← hs0];show S4.next+1+1=_;omega
    have f0:∀j,j<n0+5→s0.heap.get j=S4.heap.get j:=fun j hj=>by rw[← hs0,AU,if_neg (by omega),AU,if_neg (by omega)]
    have hmk0:s0.heap.get (n0+5)=some .mark:=by rw[← hs0,AU,if_neg (by omega),AU,if_pos (by omega)]
    have hlp0:Ba s0 (n0+6)=some lo:=by
      unfold Ba
      rw[← hs0,AU,if_pos hm1.symm]
    have o0:Aa n0 S s0:=⟨by omega,fun j hj=>by rw[f0 j (by omega),f4 j (by omega),o3 j (by omega),o1 j hj]⟩
    have hPl:=Mt D A
    have hPv:=Lj (CM D A) 0
    rw[Wi,Wk]at hPv
    have hPs:=GU (CM D A) 0
    have hPn:=I0 (CM D A) 0
    refine OG hE (s0:=s0) (n0:=n0) (p:=n0+2) (l:=n0+6) (la:=D) (lb:=A) (ca:=cD) (cb:=cA) (a:=aD) (b:=aA) (by omega) (by omega) hs hAs ((hcD.old o0 (A0L hn0)).mono (A0L hn0)) ((hcA.old o0 (A0L hn0)).mono (A0L hn0)) ((f0 _ (by omega)).trans b1) ((f0 _ (by omega)).trans b2) ((f0 _ (by omega)).trans b3)
      (sa n0 s0 lo (CM D A) (Ei (CM D A) 0)) (fun k s h=>h.pk) (fun k s K hk hI hK=>by
        subst hlo
        exact X4 hE (by rw[hPl];omega) (Ms hk) (Hr hs k) (Hr hAs k) hI hK)
      ⟨PK.refl _ _ _,by omega,hlp0,hmk0,_,[],[],0,?_,?_,B9.nil s0 1,fun j hj=>(by cases hj),fun j hj=>(by cases hj),rfl,by omega,rfl⟩ (fun v s' hI=>?_)
    · rw[f0 n0 (by omega),f4 n0 (by omega),o3 n0 (by omega)];exact g1
    · rw[f0 (n0+1) (by omega),f4 (n0+1) (by omega)];exact g3
    obtain⟨pk,hlt',hlp,hmk,vo,d,O,c,k1,k2,hD,hO,hsl,hdl,hc,hT⟩:=hI
    rw[A0D (by rw[hPl];omega)]at hT
    simp only[Ei,A1C]at hT
    rw[← hT]at hPv hPs hPn
    simp only at hPv hPs hPn
    refine⟨lo,hlp,by rw[← hlo];rfl,?_⟩
    have hpd:lo.pending=none:=by rw[← hlo];rfl
    rw[hpd]
    generalize hs6:setObj s' (n0+5+1) _=s6
    have n6:s6.next=s'.next:=by rw[← hs6];rfl
    have f6:∀j,j≠n0+6→s6.heap.get j=s'.heap.get j:=fun j hj=>by rw[← hs6,Wx _ (by omega)]
    have hD6:B9 76 s6 vo d.length 1 (us d) O:=hD.frame (A0L n6.symm) (fun j hj=>f6 j (by have:=hsl j hj;omega))
    have ld1:AB Tryz.prog s6 22 (.ptr (some (n0,0)))=some vo:=AI Cq ((f6 n0 (by omega)).trans k1) rfl
    have ld2:AB Tryz.prog s6 69 (.ptr (some (n0+1,0)))=some (An c):=AI YH ((f6 (n0+1) (by omega)).trans k2) rfl
    have ec:c % 4294967296=c:=by omega
    obtain⟨v',s7,O',happ,hD7,hn7,f7,hO7,hsl7⟩:=JT hD6 c (by rw[hdl];omega)
    have happ':Aj Tryz.prog (newObj s6 (R 76 1 false [.int .u32 c])) [22,22] [vo,.slice (some (s6.next,0)) 1 (some 1)]=some (v',s7):=happ
    have e17:=Ax Tryz.prog 3 (i:Int) 1 ⟨by omega,by omega⟩
    have e17':((i:Int)+1)=((i+1:Nat):Int):=by omega
    simp only[Lf,Vb,Vc,ld1,ld2,CP,ec,Gp,Xe,happ',e17,e17',Qb,Qc,Qd,Qf,Qh,Qi,Qj,Qk,Qm,Qo,true_and,Qp,Qq,Qr,Qs,Qt,Qv,Rb,Re,Yc,A1m,A1p]
    rw[← hW]
    have hlow:∀j,j<n0+6→j≠n0→j≠n0+1→(j<n0∨j=n0+5)→s7.heap.get j=s'.heap.get j:=fun j h1 h2 h3 h4=>by
      rw[f7 j (by omega) (fun h=>by have:=hO j h;omega),f6 j (by omega)]
    have oS:Aa n0 S s7:=⟨by omega,fun j hj=>by rw[hlow j (by omega) (by omega) (by omega) (.inl hj),pk.low j hj,o0.2 j hj]⟩
    have ho1:=ho.1
    have oS':Aa S.next S s7:=by rw[hn0];exact oS
    refine ih (i+1) s7 v' (d++[c]) ((n0+5)::M) _ _ _ _ _ _ _ _ _ hd' hlt (ho.trans (oS.mono (by omega))) (hR.old oS' (by omega)) (B9.n32 hD7) ?_ ?_ ?_ ?_ ?_
    · exact hPs.append (fun x hx=>by rw[A1d.1 hx];exact A0J hc (by decide))
    · rw[zg,hdl]
      show _+1≤_
      omega
    · rw[Bp]
      have e3:AG [c]=c:=by simp[AG]
      have hlen:d.length=(CM D A).length:=by rw[hdl,hPl]
      rw[e3,hlen,hPv,← hv]
      show _=AG D+(AG A+Hh r)
      omega
    · exact List.nodup_cons.2 ⟨fun h=>by have:=(hm _ h).2.1;omega,hM⟩
    · intro m hmm
      rcases List.mem_cons.1 hmm with rfl | h
      · exact⟨by omega,by omega,(hlow _ (by omega) (by omega) (by omega) (.inr rfl)).trans hmk⟩
      · obtain⟨q1,q2,q3⟩:=hm m h
        exact⟨q1,by omega,(oS.2 m q2).trans q3⟩
end
section
variable{E:CR}{s:AE}
theorem uy(hE:GoodN E){ri:Nat}{vs:List AV}{L:List (List Nat)}(hri:ri<s.next)(hR:Nl s ri vs L)(hLl:L.length≤1000)(hsm:∀l∈L,Bi l∧l.length≤1000000000){K:AV→AE→Prop}
  (hK:∀s' v,Aa s.next s s'→NR s.next s' v (AR (Hh L))→K v s'):WF E 173 [.slice (some (ri,0)) L.length (some L.length)] K s:=by
 refine hE.go jl (by decide) rfl ?_
 simp only[wJ,bj,bk,AH Tryz.underlying196,Qa,Qb,Qc,Qd,Qf,Qh,Qi,Qj,Ql,Qm,Qo,true_and,Qp,Qq,Qr,Qs,Qt,Qv,Rb,Rh,Rk,Rm,Rn,Yc,A1p]
 refine iA hE hri hLl hsm _ (tot:=Hh L) (fun S vD D M y2 y3 y4 y5 y6 y9 y10 y11 y12 y13 ho hN hs hl hv hM hm=>?_) L 0 s _ [] [] _ _ _ _ _ _ _ _ _ rfl (ze _) (Aa.refl _ _) hR (NR.n32 (NR.nil 0 s)) (fun x hx=>by cases hx) (ze _) (by simp[AG]) List.nodup_nil (fun m hm=>by cases hm)
 simp only[Vd,if_true,Qb,Qc,Qd,Qf,Qh,Qj,Qk,Qm,Qo,true_and,Qr,Qs,Qt,Qv,Rb,Rd,Rg,A1t,A1u,A1p]
 refine C8 hE hN (by omega) fun s2 v2 o2 r2=>?_
 rw[B8 hs,hv]at r2
 obtain⟨s3,u1,u2,u3⟩:=GQ M s2 hM (fun m h=>by rw[o2.2 m (hm m h).2.1];exact(hm m h).2.2)
 simp only[u1,Qd,Qm,Qo,true_and,Qp,Qq,Qr,Qs]
 have h1:=ho.1
 have h2:=o2.1
 refine hK s3 v2 ⟨by omega,fun j hj=>?_⟩ ((r2.keep (by omega) (fun j hj=>u3 j (fun h=>?_))).mono h1)
 ·rw[u3 j (fun h=>by have:=(hm j h).1;omega),o2.2 j (by omega),ho.2 j hj]
 ·obtain⟨O,_,_,q,_⟩:=r2
  have:=q j hj
  have:=(hm j h).2.1
  omega
theorem gu(a b:Option (Nat×Nat))(ca cb:Option Nat)(n m:Nat):Ad Tryz.prog 196 2 (zipIdx [0,1] [.slice a n ca,.slice b m cb])=some (R 22 1 false [.slice a n ca,.slice b m cb]):=by kernel_rfl
theorem sb(hE:GoodN E){va vb:AV}{la lb:List Nat}(ha:By s va la)(hb:By s vb lb)(hla:la.length≤1000000000)(hlb:lb.length≤1000000000)(hsa:Bi la)(hsb:Bi lb){K:AV→AE→Prop}
    (hK:∀s' v,Aa s.next s s'→NR s.next s' v (AR (AG la+AG lb))→K v s'):WF E 153 [va,vb] K s:=by
  refine hE.go jh (by decide) rfl ?_
  have hrow:Ad Tryz.prog 196 2 (zipIdx [0,1] [va,vb])=some (R 22 1 false [va,vb]):=by
    obtain⟨a,ca,rfl,_⟩:=ha
    obtain⟨b,cb,rfl,_⟩:=hb
    exact gu _ _ _ _ _ _
  have ho:=Aa.new s (R 22 1 false [va,vb])
  simp only[wH,bL,bM,hrow,Xe,Qa,Qb,Qc,Qd,Qf,Qh,Qi,Qj,Qk,Ql,Qm,Qo,true_and,Qp,Qq,Qr,Qs,Qt,Qv,Rb,Rh,Rj,Rk,Rm,Rn,Yc,A1p,A1u]
  have hR:Nl (newObj s (R 22 1 false [va,vb])) s.next [va,vb] [la,lb]:=by
    refine⟨by rw[AU,if_pos rfl],rfl,fun j v l h1 h2=>?_⟩
    rcases j with _ | _ | j
    · cases h1;cases h2;exact ha.old ho
    · cases h1;cases h2;exact hb.old ho
    · cases h1
  refine uy hE (L:=[la,lb]) (A0T _) hR (by simp) (fun l hl=>?_) fun s' v o' r'=>?_
  · rcases List.mem_cons.1 hl with rfl | hl
    · exact⟨hsa,hla⟩
    · rw[A1d.1 hl];exact⟨hsb,hlb⟩
  · have e:Hh [la,lb]=AG la+AG lb:=by simp[Hh]
    rw[e]at r'
    simp only[Qd,Qo,true_and,Qp,Qq,Qr,Qs]
    exact hK s' v (ho.trans (o'.mono ho.1)) (r'.mono ho.1)
end
def Ma (v0 v1 v2 v3 x6 x7 x8 x9:AV) (n0:Nat) (x11 x12:AV):Di:=
 Hu 154 [v0,v1,v2,v3,.ptr (some (n0,0)),.ptr (some (n0+1,0)),x6,x7,x8,x9,.func 188 [] [.ptr (some (n0+2,0)),.ptr (some (n0+2+1,0)),.ptr (some (n0+2+2,0))],x11,x12] #[18,19] PG PH (n0+5)
structure sZ(n0:Nat)(s0:AE)(lo:Di)(P:List (Nat×Nat))(T:List Nat×Nat)(k:Nat)(s:AE):Prop where
 pk:PK n0 (n0+2) s0 s
 lt:n0+7≤s.next
 lp:Ba s (n0+6)=some lo
 mrk:s.heap.get (n0+5)=some .mark
 ex:∃vo d O c,s.heap.get n0=some (R 22 0 false [vo])∧s.heap.get (n0+1)=some (R 69 0 false [An c])∧B9 76 s vo d.length 1 (us d) O∧(∀j∈O,n0+7≤j)∧(∀j,B6 vo=some j→n0+7≤j)∧d.length=k∧c≤1∧(d++(Fy (P.drop k) c).1,(Fy (P.drop k) c).2)=T
section
variable{E:CR}{s:AE}
theorem X3(hE:GoodN E){n0:Nat}{s0:AE}{v0 v1 v2 v3 x6 x7 x8 x9 x11 x12:AV}{P:List (Nat×Nat)}(hPl:P.length≤10000000000){T:List Nat×Nat}{k x y:Nat}(hP:P[k]? = some (x,y))(hx:x<4294967296)(hy:y<4294967296)
    (hI:sZ n0 s0 (Ma v0 v1 v2 v3 x6 x7 x8 x9 n0 x11 x12) P T k s) {K:AV→AE→Prop} (hK:∀s',sZ n0 s0 (Ma v0 v1 v2 v3 x6 x7 x8 x9 n0 x11 x12) P T (k+1) s'→K (.bool true) s'):
    WR E (n0+6) [An x,An y] K s:=by
  obtain⟨pk,hlt,hlp,hmk,vo,d,O,c,g1,g2,hD,hO,hsl,hdl,hc,hT⟩:=hI
  have hz:Db (Dh E.P 154) (Ma v0 v1 v2 v3 x6 x7 x8 x9 n0 x11 x12).var [18,19] [An x,An y]=some [v0,v1,v2,v3,.ptr (some (n0,0)),.ptr (some (n0+1,0)),x6,x7,x8,x9,.func 188 [] [.ptr (some (n0+2,0)),.ptr (some (n0+2+1,0)),.ptr (some (n0+2+2,0))],An x,An y]:=by
    rw[hE.P,Th];rfl
  refine WR.round hlp hz (by rw[hE.P];exact bN) (by rw[hE.P];exact bO) ?_
  refine Eg ?_
  simp only[Q5,bV,bW,Qa,Qb,Qc,Qd,Qf,Qh,Qj,Qm,Qo,true_and,Qp,Qq,Qr,Qs,Qt,Qv,Rb,A1p]
  refine⟨_,hlp,rfl,Eg ?_⟩
  generalize hs1:setObj s (n0+6) _=s1
  have n1:s1.next=s.next:=by rw[← hs1];rfl
  have f1:∀j,j≠n0+6→s1.heap.get j=s.heap.get j:=fun j hj=>by rw[← hs1,Wx _ hj]
  have l1:Ba s1 (n0+6)=some { Ma v0 v1 v2 v3 x6 x7 x8 x9 n0 x11 x12 with state:=.busy }:=by rw[← hs1,C6]
  have g1':=(f1 n0 (by omega)).trans g1
  have g2':=(f1 (n0+1) (by omega)).trans g2
  have hD1:B9 76 s1 vo d.length 1 (us d) O:=hD.frame (A0L n1.symm) (fun j hj=>f1 j (by have:=hsl j hj;omega))
  have hdk:P.drop k=(x,y)::P.drop (k+1):=by
    have hk:k<P.length:=(List.getElem?_eq_some_iff.1 hP).1
    rw[A0M hk]
    rw[zW hk]at hP
    rw[Option.some.inj hP]
  have hkP:k<P.length:=(List.getElem?_eq_some_iff.1 hP).1
  rw[hdk]at hT
  simp only[Fy]at hT
  have hLB:LB=4294967296:=rfl
  rw[hLB]at hT
  have e1:=Oa Tryz.prog 69 (a:=x) (b:=y) (by omega)
  have e2:=Oa Tryz.prog 69 (a:=(x+18446744073709551616 - y) % 18446744073709551616) (b:=c) (by omega)
  generalize hc1:((x+18446744073709551616 - y) % 18446744073709551616+18446744073709551616 - c) % 18446744073709551616=c1 at e2
  have hc1b:c1<18446744073709551616:=by rw[← hc1];exact A0E _ (by decide)
  have e3:=K0 Tryz.prog 69 hc1b
  have e11:c1 % 4294967296 % 4294967296=c1 % 4294967296:=A1K _ _
  have e12:c1 % 4294967296=(x+4294967296 - y - c) % 4294967296:=by omega
  have e15:AN Tryz.prog .shr 69 (An c1) (.int .u64 63)=some (An (c1 / 9223372036854775808)):=Jh Tryz.prog 69 (k:=.u64) (n:=63) (by decide)
  have e14:c1 / 9223372036854775808=if x<y+c then 1 else 0:=by split<;>omega
  rw[← e12,← e14]at hT
  have hcq:c1 / 9223372036854775808≤1:=by omega
  generalize hz:c1 % 4294967296=z at hT e3 e11
  generalize hbq:c1 / 9223372036854775808=bq at hT e15 hcq
  have ld2:AB Tryz.prog s1 69 (.ptr (some (n0+1,0)))=some (An c):=AI YH g2' rfl
  have ld12:AB Tryz.prog s1 22 (.ptr (some (n0,0)))=some vo:=AI Cq g1' rfl
  obtain⟨v',s3,O',happ,hD3,hn3,f3,hO3,hsl3⟩:=JT hD1 z (by omega)
  have happ':Aj Tryz.prog (newObj s1 (R 76 1 false [.int .u32 z])) [22,22] [vo,.slice (some (s1.next,0)) 1 (some 1)]=some (v',s3):=happ
  have g13:s3.heap.get n0=some (R 22 0 false [vo]):=(f3 n0 (by omega) (fun h=>by have:=hO n0 h;omega)).trans g1'
  have g23:s3.heap.get (n0+1)=some (R 69 0 false [An c]):=(f3 (n0+1) (by omega) (fun h=>by have:=hO _ h;omega)).trans g2'
  have hv'c:v'.isCell=true:=by obtain⟨a,cap,rfl,_⟩:=hD3.cells;rfl
  have st3:=CN (P:=Tryz.prog) (t:=22) (o:=0) (v:=v') iB g13 (by simp) hv'c
  simp only[A0p]at st3
  generalize hs4:setObj s3 n0 (R 22 0 false [v'])=s4 at st3
  have n4:s4.next=s3.next:=by rw[← hs4];rfl
  have f4:∀j,j≠n0→s4.heap.get j=s3.heap.get j:=fun j hj=>by rw[← hs4,Wx _ hj]
  have g24:=(f4 (n0+1) (by omega)).trans g23
  have st4:=CN (P:=Tryz.prog) (t:=69) (o:=0) (v:=An bq) iC g24 (by simp) rfl
  simp only[A0p]at st4
  generalize hs5:setObj s4 (n0+1) (R 69 0 false [An bq])=s5 at st4
  have n5:s5.next=s4.next:=by rw[← hs5];rfl
  have f5:∀j,j≠n0+1→s5.heap.get j=s4.heap.get j:=fun j hj=>by rw[← hs5,Wx _ hj]
  have fall:∀j,j<s.next→j ∉ O→j≠n0→j≠n0+1→s5.heap.get j=s1.heap.get j:=fun j hj h1 h2 h3=>by
    rw[f5 j h3,f4 j h2,f3 j (by omega) h1]
  have l5:Ba s5 (n0+6)=some { Ma v0 v1 v2 v3 x6 x7 x8 x9 n0 x11 x12 with state:=.busy }:=by
    rw[D2 (fall (n0+6) (by omega) (fun h=>by have:=hO _ h;omega) (by omega) (by omega))];exact l1
  simp only[Q6,bX,bY,VX,e1,e2,ld2,ld12,e3,CP,e11,Gp,Xe,happ',st3,e15,st4,Xy,Za,Qa,Qb,Qc,Qd,Qf,Qh,Qi,Qj,Qk,Qm,Qo,true_and,Qp,Qq,Qr,Qs,Qt,Qv,Rb,Re,Yc,A1w,A1m,A1p,A1o]
  refine⟨_,l5,hK _ ?_⟩
  have fl:∀j,j≠n0+6→∀r,(setObj s5 (n0+6) r).heap.get j=s5.heap.get j:=fun j hj r=>Wx _ hj
  have hlow:∀j,j<n0+6→j≠n0→j≠n0+1→∀r,(setObj s5 (n0+6) r).heap.get j=s.heap.get j:=fun j h1 h2 h3 r=>by
    rw[fl j (by omega),fall j (by omega) (fun h=>by have:=hO _ h;omega) h2 h3,f1 j (by omega)]
  refine⟨pk.trans ⟨?_,fun j hj=>hlow j (by omega) (by omega) (by omega) _,hlow _ (by omega) (by omega) (by omega) _,hlow _ (by omega) (by omega) (by omega) _,hlow _ (by omega) (by omega) (by omega) _⟩,?_,?_,?_,v',d++[z],O',bq,?_,?_,?_,fun j hj=>?_,fun j hj=>?_,?_,hcq,?_⟩
  · show s.next≤s5.next;omega
  · show n0+7≤s5.next;omega
  · rw[C6];rfl
  · rw[hlow _ (by omega) (by omega) (by omega)];exact hmk
  · rw[fl n0 (by omega),f5 n0 (by omega),← hs4,Ww]
  · rw[fl (n0+1) (by omega),← hs5,Ww]
  · refine hD3.frame (by show s3.next≤s5.next;omega) (fun j hj=>?_)
    have hj7:n0+7≤j:=by
      rcases hsl3 j hj with h | h
      · exact hsl j h
      · omega
    rw[fl j (by omega),f5 j (by omega),f4 j (by omega)]
  · rcases hO3 j hj with h | h
    · exact hO j h
    · omega
  · rcases hsl3 j hj with h | h
    · exact hsl j h
    · omega
  · rw[zg,hdl];rfl
  · rw[A0O];exact hT
end
end
end Go.Proofs.YtjnkfbpadpmakaaGreatDoor.Am
