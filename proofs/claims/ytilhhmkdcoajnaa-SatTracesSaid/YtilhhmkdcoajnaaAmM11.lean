/- The solver's function Solve, which drops clauses, too; conditions: each turn of its loop keeps what is asked of a state. -/
import Derived.Test.YtilhhmkdcoajnaaAmM10
import Derived.Test.YtilhhmkdcoajnaaAmM05
set_option linter.unusedVariables false
set_option linter.unusedSimpArgs false
set_option maxRecDepth 16000
namespace Go.Proofs.Ytilhhmkdcoajnaa.Am
open Go Go.Proofs
noncomputable section
structure HO(n most:Nat)(I:Nat→Sv→Prop)(R:Int→Sv→Prop):Prop where
 ok:∀ {k v},I k v→k≤most∧F0 n 50000000 v
 brk:∀ {k v},I k v→v.broken=true→R 0 v
 mid:∀ {k v c v1},I k v→v.broken=false→B9 v c v1→v1.trace.length≤1000000∧v1.learned.length≤100000000∧(∀c ls b,v1.cl c=some (ls,b)→A9 n ls)∧∀b,1≤b→b≤n→v1.phase.getD b 0=1∨v1.phase.getD b 0=-1
 fail:∀ {k v c v1},I k v→v.broken=false→B9 v (some c) v1→v1.limits=[]→R 0 (C3 v1)
 unk:∀ {k v c v1},I k v→v.broken=false→B9 v (some c) v1→v1.limits≠[]→most≤k→R 2 (Ab v1 0)
 lrn:∀ {k v c v1},I k v→v.broken=false→B9 v (some c) v1→v1.limits≠[]→k<most→∃r,B4 v1 c Gi v1.trail.length 0 r∧A9 n (AT v1 r)∧0≤r.lev∧r.lev<100000000 ∧
  ∀h cn,h.length=v1.heat.length→v1.cl cn=none→I (k+1) (A8 (Ab (BB (Bw v1) h) r.lev.toNat) cn (AT v1 r))
 cool:∀ {k v v1},I k v→v.broken=false→B9 v none v1→∀h,h.length=v1.heat.length→(((Ab (BB v1 h) 0).learned.length:Int)<(Ab (BB v1 h) 0).room→I k (Ab (BB v1 h) 0)) ∧
  ((Ab (BB v1 h) 0).room≤((Ab (BB v1 h) 0).learned.length:Int)→I k (Ia (Ab (BB v1 h) 0))∧(0≤(Ab (BB v1 h) 0).room∧(Ab (BB v1 h) 0).room≤100000000)∧IH n (Ab (BB v1 h) 0).learned 0 (Ab (BB v1 h) 0)∧(Ab (BB v1 h) 0).learned.length≤1000000)
 maybe:∀ {k v v1},I k v→v.broken=false→B9 v none v1→(∀j,1≤j→j<n+1→v1.value.getD j 0≠0)→R 1 (GS v1)
 dec:∀ {k v v1 b},I k v→v.broken=false→B9 v none v1→1≤b→b≤n→v1.value.getD b 0=0→I k (Cu v1 b)
theorem Q8          {E : BN}  (hE : Good E) {n most : Nat} {I : Nat → Sv → Prop} {R : Int → Sv → Prop} (hl : HO        n most I R) (hn : n ≤ 500000) (hmost : most ≤ 1000000) {p k u : Nat} (hu : u ≤ 100000000) {ow0 : Ow} {s0 : AF}  {ow : Ow} {s : AF}  {x : Sf} {v : Sv} (h : Ah  ow s p x v) (hI : I k v) (hst : AH   (Bb   p) ow0 s0 ow s) {Q : A0   → Prop} {x5 x6 x7 x8 x9 x10 x11 x12 x13 : AV}
    (hend:∀s' ow' x' v' y5 y6 y7 y8 y9 y10 y11 y12 y13 k' u',R 0 v'→Ah ow' s' p x' v'→AH (Bb p) ow0 s0 ow' s'→Q ⟨.exit 0,[AV.ptr (some (p,0)),iv (most:Int),iv 0,u',k',y5,y6,y7,y8,y9,y10,y11,y12,y13],[],s'⟩)
    (hret:∀s' ow' x' v' r y3 y4 y5 y6 y7 y8 y9 y10 y11 y12 y13,R r v'→Ah ow' s' p x' v'→AH (Bb p) ow0 s0 ow' s'→Q ⟨.ret,[AV.ptr (some (p,0)),iv (most:Int),iv r,y3,y4,y5,y6,y7,y8,y9,y10,y11,y12,y13],[],s'⟩)
    (hnext:∀s' ow' x' v' k' u' y5 y6 y8 y9 y10 y11 y12 y13,I k' v'→(k<k'∧u'=u∨k'=k∧u≤k∧u'=u+32∨k'=k∧u'=u∧v.trail.length<v'.trail.length)→Ah ow' s' p x' v'→AH (Bb p) ow0 s0 ow' s'→WC E none (.loop DO) Q [AV.ptr (some (p,0)),iv (most:Int),iv 0,iv (u':Int),iv (k':Int),y5,y6,x7,y8,y9,y10,y11,y12,y13] [] s'):
    WC E none (.loop DO) Q [AV.ptr (some (p,0)),iv (most:Int),iv 0,iv (u:Int),iv (k:Int),x5,x6,x7,x8,x9,x10,x11,x12,x13] [] s:=by
  have hbr:∀ {ow:Ow} {s:AF} {x:Sf} {v:Sv} {y5 y6 y8 y9 y10 y11 y12 y13:AV},Ah ow s p x v→v.broken=true→R 0 v→AH (Bb p) ow0 s0 ow s→WC E none (.loop DO) Q [AV.ptr (some (p,0)),iv (most:Int),iv 0,iv (u:Int),iv (k:Int),y5,y6,x7,y8,y9,y10,y11,y12,y13] [] s:=
    fun h hb hR hst=>I3 hE h hb fun y8=>hend _ _ _ _ _ _ _ _ _ _ _ _ _ _ _ hR h hst
  cases hb:v.broken with
  | true=>exact hbr h hb (hl.brk hI hb) hst
  | false =>
    have ld:=h.ld_broken
    rw[hb]at ld
    obtain⟨hk,hi2⟩:=hl.ok hI
    refine WC.loop' ?_
    generalize hW:WC E none (Ac.loop DO) Q=W at hnext hbr
    simp only[DO,US,AG,GQ,ld,YX,Qa,Qb,Qc,Qd,Qf,Qh,Qj,Qk,Qm,Qn,true_and,Qo,Qp,Qq,Qr,Qs,Qu,Qw,Qx,Qy,Qz,Ra,Rb,Yb,Rx]
    refine(It hE h (B:=50000000) (qI _) hi2).mono ?_
    rintro _ s1 ⟨c,v1,ow1,x1,hp,rfl,h1,st1⟩
    obtain⟨m1,m2,m4,m5⟩:=hl.mid hI hb hp
    obtain⟨hi1,hlim⟩:=hp.keep hi2
    have hf1:=hi1.inv.fit
    have hz1:=hf1.siz
    have htr:=hp.trail
    have stA:=hst.trans st1
    have hlimB:∀s,Aq Try.prog s 23 x1.lim=some (iv (v1.limits.length:Int)):=fun s=>by
      have:=h1.limits.len Try.underlying23 s
      rw[qK]at this
      exact this
    cases c with
    | some c =>
      simp only[PV,Jb,Option.isSome,YY,AG,G2,h1.ld_lim,hlimB,Qb,Qc,Qd,Qf,Qh,Qi,Qj,Qk,Qm,Qn,true_and,Qo,Qp,Qq,Qr,Qs,Qu,Rv]
      by_cases hl0:v1.limits=[]
      · have d0:decide ((v1.limits.length:Int)=0)=true:=decide_eq_true (by rw[hl0];rfl)
        simp only[d0,SO,Qb,Qc,Qf,Qh,Qj,Qq,Qs,Qu]
        refine(Kl hE h1 m1).mono ?_
        rintro _ s2 ⟨ow2,x2,g1,g2,_⟩
        simp only[if_true,Qd,Qn,true_and]
        have hfb:(C3 v1).broken=true:=by
          unfold C3
          split
          · assumption
          · rfl
        exact hbr g1 hfb (hl.fail hI hb hp hl0) (stA.trans g2.b)
      · have d0:decide ((v1.limits.length:Int)=0)=false:=decide_eq_false fun q=>hl0 (List.length_eq_zero_iff.1 (by omega))
        by_cases hmk:most≤k
        · have d1 : decide ((most : Int) ≤ (k : Int)) = true := decide_eq_true (by omega)
          have hback:WF E 63 [.ptr (some (p,0)),.int .i64 0] (fun _ s'=>∃x',Ah ow1 s' p x' (Ab v1 0)∧AH (BU p) ow1 s1 ow1 s'∧x'.w=x1.w) s1:=DR hE h1 hf1 (level:=0) (by decide)
          simp only[d0,LC,d1,SP,Qb,Qc,Qd,Qf,Qh,Qi,Qj,Qk,Qm,Qn,true_and,Qo,Qp,Qq,Qr,Qs,Qu,Qv,Ru]
          refine hback.mono ?_
          rintro _ s2 ⟨x2,g1,g2,_⟩
          simp only[SQ,Qb,Qc,Qd,Qf,Qh,Qi,Qm,Qn,true_and,Qo,Qp,Qs]
          exact hret s2 ow1 x2 _ 2 _ _ _ _ _ _ _ _ _ _ _ (hl.unk hI hb hp hl0 hmk) g1 (stA.trans g2.b)
        · have d1 : decide ((most : Int) ≤ (k : Int)) = false := decide_eq_false (by omega)
          have e1:=Ai Try.prog 3 (k:Int) 1 ⟨by omega,by omega⟩
          have e1':((k:Int)+1)=((k+1:Nat):Int):=by omega
          obtain⟨r,r1,r2,r3,r4,r5⟩:=hl.lrn hI hb hp hl0 (by omega)
          simp only[d0,LC,d1,SR,e1,e1',HN,AK,Qb,Qc,Qd,Qf,Qh,Qi,Qj,Qk,Qm,Qn,true_and,Qo,Qp,Qq,Qr,Qs,Qv,Ru]
          refine fK h1 ?_
          intro s2 h2 st2
          try simp only[Qa,Qb,Qc,Qd,Qe,Qf,Qg,Qh,Qi,Qj,Qk,Ql,Qm,Qn,true_and,and_true,Qo,Qp,Qq,Qr,Qs,Qt,Qu,Qv,Qw,Qx,Qy,Qz,Ra,Rb,Rc,Rd,Re,Rf,Rg,Rh,Ri,Rj,Rk,Rl,Rm,Ya,Yb,Yc,Rn,Ro,Rp,Yd,Ye,Rq,Rs,Rt,Ru,Rv,Rw,Rx]
          refine fL hE h2 hn hf1 m4 r1 r2 r3 r4 m1 (by have:=hi1.tot;omega) m2 ?_
          intro s3 ow3 x3 h' cn f1 f2 f3 f4
          simp only[if_true]
          exact hnext s3 ow3 x3 _ (k+1) u _ _ _ _ _ _ _ _ (r5 h' cn f1 f2) (.inl ⟨by omega,rfl⟩) f3 ((stA.trans st2.b).trans f4)
    | none =>
      simp only[PV,Jb,Option.isSome,SU,Qb,Qc,Qd,Qf,Qh,Qi,Qj,Qm,Qn,true_and,Qo,Qp,Qq,Qr,Qs,Qv,Ru]
      by_cases huk:u≤k
      · have d1 : decide ((u : Int) ≤ (k : Int)) = true := decide_eq_true (by omega)
        have e1:=Ai Try.prog 3 (u:Int) 32 ⟨by omega,by omega⟩
        have e1':((u:Int)+32)=((u+32:Nat):Int):=by omega
        simp only[d1,SV,e1,e1',SW,Qb,Qc,Qd,Qf,Qh,Qi,Qj,Qk,Qm,Qn,true_and,Qo,Qp,Qq,Qr,Qs,Qu]
        refine(Uj hE h1 (by have:=hz1.heat;have:=hz1.small;omega)).mono ?_
        rintro _ s2 ⟨h',h2,hl2,st2⟩
        have hf2:Mt n (BB v1 h'):=⟨⟨hz1.small,hz1.w,hz1.value,hz1.level,hz1.why,hl2.trans hz1.heat,hz1.phase,hz1.trail,hz1.limits⟩,hf1.val,hf1.lits,hf1.lims⟩
        have hback:WF E 63 [.ptr (some (p,0)),.int .i64 0] (fun _ s'=>∃x',Ah ow1 s' p x' (Ab (BB v1 h') 0)∧AH (BU p) ow1 s2 ow1 s'∧x'.w=x1.w) s2:=DR hE h2 hf2 (level:=0) (by decide)
        simp only[SX,Qb,Qc,Qd,Qf,Qh,Qi,Qj,Qn,true_and,Qq,Qs]
        refine hback.mono ?_
        rintro _ s3 ⟨x3,h3,st3,_⟩
        obtain⟨q1,q2⟩:=hl.cool hI hb hp h' hl2
        simp only[SY,Qb,Qc,Qd,Qf,Qh,Qj,Qn,true_and,Qq,Qs]
        by_cases hroom:((Ab (BB v1 h') 0).learned.length:Int)<(Ab (BB v1 h') 0).room
        · refine (NN        hE h3 hroom).mono ?_
          rintro _ s4 ⟨ow4,h4,st4⟩
          simp only[if_true,Qd,Qn,true_and]
          exact hnext s4 ow4 x3 _ k (u+32) _ _ _ _ _ _ _ _ (q1 hroom) (.inr (.inl ⟨rfl,huk,rfl⟩)) h4 (((stA.trans st2.b).trans st3.b).trans st4.b)
        · obtain⟨r1,r2,r3,r4⟩:=q2 (by omega)
          refine(TP hE h3 (n:=n) (by omega) (by omega) r2 r3 r4).mono ?_
          rintro _ s4 ⟨ow4,x4,h4,st4⟩
          simp only[if_true,Qd,Qn,true_and]
          exact hnext s4 ow4 x4 _ k (u+32) _ _ _ _ _ _ _ _ r1 (.inr (.inl ⟨rfl,huk,rfl⟩)) h4 (((stA.trans st2.b).trans st3.b).trans (st4.mono fun t ht=>by
            rcases ht with q | q
            · exact q.1
            · rw[q];exact rfl))
      · have d1:decide ((u:Int)≤(k:Int))=false:=decide_eq_false (by omega)
        simp only[d1,SZ,Qb,Qc,Qd,Qf,Qh,Qj,Qk,Qm,Qn,true_and,Qq,Qs,Qv]
        refine(Uy hE h1 hz1.small hz1.value hz1.heat).mono ?_
        rintro _ s2 ⟨b,ow2,rfl,hnx,h2,st2⟩
        have stB:=stA.trans st2.b
        rcases hnx with⟨hb0,hall⟩ | ⟨hb1,hb2,hb3⟩
        · have d2:decide ((b:Int)=0)=true:=decide_eq_true (by omega)
          simp only[LD,d2,Qb,Qc,Qd,Qf,Qh,Qi,Qj,Qm,Qn,true_and,Qo,Qp,Qq,Qr,Qs,Qu,Rv]
          refine fM hE h2 hn hz1.value ?_
          intro s3 ow3 x3 h3 st3
          have hf3:Mt n { v1 with model:=v1.value }:=⟨⟨hz1.small,hz1.w,hz1.value,hz1.level,hz1.why,hz1.heat,hz1.phase,hz1.trail,hz1.limits⟩,hf1.val,hf1.lits,hf1.lims⟩
          have hback:WF E 63 [.ptr (some (p,0)),.int .i64 0] (fun _ s'=>∃x',Ah ow3 s' p x' (GS v1)∧AH (BU p) ow3 s3 ow3 s'∧x'.w=x3.w) s3:=DR hE h3 hf3 (level:=0) (by decide)
          simp only[Sb,Qb,Qc,Qf,Qh,Qi,Qj,Qq,Qs]
          refine hback.mono ?_
          rintro _ s4 ⟨x4,h4,st4,_⟩
          simp only[Sc,Qb,Qc,Qd,Qf,Qh,Qi,Qm,Qn,true_and,Qo,Qp,Qs]
          exact hret s4 ow3 x4 _ 1 _ _ _ _ _ _ _ _ _ _ _ (hl.maybe hI hb hp hall) h4 ((stB.trans st3).trans st4.b)
        · have d2 : decide ((b : Int) = 0) = false := decide_eq_false (by omega)
          have hvl:=hz1.value
          have hIn:=hl.dec hI hb hp hb1 (by omega) hb3
          have hlt:v1.trail.length<(Cu v1 b).trail.length:=by
            show _<(v1.trail++[_]).length
            rw[qM];simp
          have hll:v1.limits.length+1≤n:=by
            have:=(hl.ok hIn).2.inv.fit.siz.limits
            have e:(Cu v1 b).limits.length=v1.limits.length+1:=by
              show(v1.limits++[_]).length=_
              rw[qM];rfl
            omega
          simp only[LD,d2,Qb,Qc,Qd,Qf,Qh,Qi,Qj,Qm,Qn,true_and,Qo,Qp,Qq,Qr,Qs,Qv,Rv]
          refine fN h2 (by omega) ?_
          intro s3 ow3 x3 h3 st3
          try simp only[Qa,Qb,Qc,Qd,Qe,Qf,Qg,Qh,Qi,Qj,Qk,Ql,Qm,Qn,true_and,and_true,Qo,Qp,Qq,Qr,Qs,Qt,Qu,Qv,Qw,Qx,Qy,Qz,Ra,Rb,Rc,Rd,Re,Rf,Rg,Rh,Ri,Rj,Rk,Rl,Rm,Ya,Yb,Yc,Rn,Ro,Rp,Yd,Ye,Rq,Rs,Rt,Ru,Rv,Rw,Rx]
          refine fO hE h3 (n:=n) ⟨hz1.small,hz1.w,hz1.value,hz1.level,hz1.why,hz1.heat,hz1.phase,hz1.trail,by show(v1.limits++[_]).length≤n;rw[qM];exact hll⟩ hb1 (by omega) (m5 b hb1 (by omega)) ?_
          intro s4 ow4 x4 h4 st4
          try simp only[Qa,Qb,Qc,Qd,Qe,Qf,Qg,Qh,Qi,Qj,Qk,Ql,Qm,Qn,true_and,and_true,Qo,Qp,Qq,Qr,Qs,Qt,Qu,Qv,Qw,Qx,Qy,Qz,Ra,Rb,Rc,Rd,Re,Rf,Rg,Rh,Ri,Rj,Rk,Rl,Rm,Ya,Yb,Yc,Rn,Ro,Rp,Yd,Ye,Rq,Rs,Rt,Ru,Rv,Rw,Rx]
          exact hnext s4 ow4 x4 _ k u _ _ _ _ _ _ _ _ hIn (.inr (.inr ⟨rfl,rfl,by omega⟩)) h4 ((stB.trans st3).trans st4)
theorem Q7{E:BN}(hE:Good E){n most:Nat}{I:Nat→Sv→Prop}{R:Int→Sv→Prop}(hl:HO n most I R)(hn:n≤500000)(hmost:most≤1000000){p:Nat}{ow0:Ow}{s0:AF}{Q:A0→Prop}{x7:AV}
  (hend:∀s' ow' x' v' y5 y6 y7 y8 y9 y10 y11 y12 y13 k' u',R 0 v'→Ah ow' s' p x' v'→AH (Bb p) ow0 s0 ow' s'→Q ⟨.exit 0,[AV.ptr (some (p,0)),iv (most:Int),iv 0,u',k',y5,y6,y7,y8,y9,y10,y11,y12,y13],[],s'⟩)
  (hret:∀s' ow' x' v' r y3 y4 y5 y6 y7 y8 y9 y10 y11 y12 y13,R r v'→Ah ow' s' p x' v'→AH (Bb p) ow0 s0 ow' s'→Q ⟨.ret,[AV.ptr (some (p,0)),iv (most:Int),iv r,y3,y4,y5,y6,y7,y8,y9,y10,y11,y12,y13],[],s'⟩):
  ∀ (m1 m2 m3:Nat) (k u:Nat) (s:AF) (ow:Ow) (x:Sf) (v:Sv) (x5 x6 x8 x9 x10 x11 x12 x13:AV),most - k=m1→k+1 - u=m2→n - v.trail.length=m3→u≤50+k+32→I k v→Ah ow s p x v→AH (Bb p) ow0 s0 ow s →
   WC E none (.loop DO) Q [AV.ptr (some (p,0)),iv (most:Int),iv 0,iv (u:Int),iv (k:Int),x5,x6,x7,x8,x9,x10,x11,x12,x13] [] s:=by
 intro m1
 induction m1 using Nat.strongRecOn with
 | _ m1 ih1 =>
 intro m2
 induction m2 using Nat.strongRecOn with
 | _ m2 ih2 =>
 intro m3
 induction m3 using Nat.strongRecOn with
 | _ m3 ih3 =>
 intro k u s ow x v x5 x6 x8 x9 x10 x11 x12 x13 e1 e2 e3 hu hI h hst
 have hk:=(hl.ok hI).1
 refine Q8 hE hl hn hmost (u:=u) (by omega) h hI hst hend hret ?_
 intro s' ow' x' v' k' u' y5 y6 y8 y9 y10 y11 y12 y13 hI' hc h' st'
 have hk':=(hl.ok hI').1
 have ht':=(hl.ok hI').2.inv.fit.siz.trail
 rcases hc with⟨c1,c2⟩ | ⟨c1,c2,c3⟩ | ⟨c1,c2,c3⟩
 ·exact ih1 (most - k') (by omega) (k'+1 - u') (n - v'.trail.length) k' u' s' ow' x' v' _ _ _ _ _ _ _ _ rfl rfl rfl (by omega) hI' h' st'
 ·exact ih2 (k'+1 - u') (by omega) (n - v'.trail.length) k' u' s' ow' x' v' _ _ _ _ _ _ _ _ (by omega) rfl rfl (by omega) hI' h' st'
 ·exact ih3 (n - v'.trail.length) (by omega) k' u' s' ow' x' v' _ _ _ _ _ _ _ _ (by omega) (by omega) rfl (by omega) hI' h' st'
theorem WK{E:BN}(hE:Good E){n most:Nat}{I:Nat→Sv→Prop}{R:Int→Sv→Prop}(hl:HO n most I R)(hn:n≤500000)(hmost:most≤1000000){ow:Ow}{s:AF}{p:Nat}{x:Sf}{v:Sv}(h:Ah ow s p x v)(hf:Mt n v)(hI:I 0 (Ab v 0)):
  WF E 34 [AK p,iv (most:Int)] (fun r s'=>∃c v' ow' x',r=iv c∧R c v'∧Ah ow' s' p x' v'∧AH (Bb p) ow s ow' s') s:=by
 have he:=Ea p
 simp only[AK]at he
 have hback:WF E 63 [.ptr (some (p,0)),.int .i64 0] (fun _ s'=>∃x',Ah ow s' p x' (Ab v 0)∧AH (BU p) ow s ow s'∧x'.w=x.w) s:=DR hE h hf (level:=0) (by decide)
 refine hE.go aM (by decide) rfl ?_
 simp only[ov,YS,YT,AK,he,YU,Qa,Qb,Qc,Qd,Qf,Qh,Qi,Qj,Ql,Qm,Qn,true_and,Qo,Qp,Qq,Qr,Qs,Qv,Qw,Qx,Rc,Rf,Rg,Rh,Yc]
 refine hback.mono ?_
 rintro _ s1 ⟨x1,h1,st1,_⟩
 simp only[YV,YW,Qb,Qc,Qd,Qf,Qh,Qi,Qm,Qn,true_and,Qo,Qp,Qs]
 refine Q7 hE hl hn hmost (ow0:=ow) (s0:=s) ?_ ?_ _ _ _ 0 32 s1 ow x1 (Ab v 0) _ _ _ _ _ _ _ _ rfl rfl rfl (by omega) hI h1 st1.b
 ·intro s' ow' x' v' y5 y6 y7 y8 y9 y10 y11 y12 y13 k' u' hR hS hst
  simp only[if_true,Sg,Qb,Qc,Qd,Qf,Qh,Qi,Qm,Qn,true_and,Qo,Qp,Qq,Qr,Qs,Qw,Qy,Rb,Re]
  exact⟨0,v',ow',x',rfl,hR,hS,hst⟩
 ·intro s' ow' x' v' r y3 y4 y5 y6 y7 y8 y9 y10 y11 y12 y13 hR hS hst
  simp only[Qj,Qm,Qq,Qr,Qx,Ra,Rc,Re,Rf,Rg,Rh,Yc]
  exact⟨r,v',ow',x',rfl,hR,hS,hst⟩
structure N3(A K:Nat)(v:Sv):Prop where
 tot:CV v.watches≤2 * (A+K)
 many:v.many=(K:Int)
 trc:v.trace.length+v.learned.length≤2 * K
 r0:0≤v.room
 r1:v.room≤2000+4 * (K:Int)
structure FD(n A:Nat)(F:List (List Int))(K:Nat)(J:Sv→Prop)(v:Sv):Prop where
 brk:v.broken=false
 ci:CI n F v.head.toNat (hide v)
 h0:0≤v.head
 h1:v.head≤(v.trail.length:Int)
 all:GH n F v.learned v
 cnt:N3 A K v
 j:J v
structure Wi(n:Nat)(F:List (List Int))(M:Nat)(J:Sv→Prop)(v:Sv):Prop where
 brk:v.broken=true
 inv:F0 n 50000000 v
 lim:v.limits=[]
 trc:v.trace.length≤450000
 many:v.many≤(M:Int)
 no:∀σ,¬ By σ F
 j:J v
theorem N3.of{A K:Nat}{v v':Sv}(h:N3 A K v)(h2:v'.many=v.many)(h3:v'.learned=v.learned)(h4:v'.trace=v.trace)(h5:v'.watches=v.watches)(h6:v'.room=v.room):N3 A K v':=
 ⟨by rw[h5];exact h.tot,by rw[h2];exact h.many,by rw[h3,h4];exact h.trc,by rw[h6];exact h.r0,by rw[h6];exact h.r1⟩
theorem N3.back{A K:Nat}{v:Sv}(h:N3 A K v)(j:Nat):N3 A K (Ab v j):=by
 obtain⟨ph,va,wh,tr,li,hd,e,_⟩:=B5 v j
 rw[e]
 exact h.of rfl rfl rfl rfl rfl
theorem GH.back{n:Nat}{F:List (List Int)}{Ls:List Nat}{v:Sv}(h:GH n F Ls v)(j:Nat)(hi:A7 n (Ab v j)):GH n F Ls (Ab v j):=by
 have e:=(IR v j).1
 exact⟨hi,by rw[e];exact h.all,fun d hd=>by rw[e];exact h.why d (PR hd),by rw[e];exact h.lrn,h.lnd,by rw[e];exact h.cov⟩
theorem GH.of{n:Nat}{F:List (List Int)}{Ls:List Nat}{v v':Sv}(h:GH n F Ls v)(hi:A7 n v')(h1:v'.cl=v.cl)(h2:v'.why=v.why):GH n F Ls v':=
 ⟨hi,by rw[h1];exact h.all,by rw[h1,h2];exact h.why,by rw[h1];exact h.lrn,h.lnd,by rw[h1];exact h.cov⟩
theorem F0.hide{n B:Nat}{v:Sv}(h:F0 n B v):F0 n B (Go.Proofs.Ytilhhmkdcoajnaa.Am.hide v):=⟨h.inv.hide,qV (cN v) h.tot,h.h0,h.h1⟩
theorem Wu{n:Nat}{v:Sv}(h:A7 n v){j:Nat}(hb:A7 n (Ab (hide v) j)):A7 n (Ab v j):=by
 rw[Ji]at hb
 obtain⟨⟨hz,hv,hli,hlm⟩,g2,g3,g4,g5⟩:=hb
 obtain⟨ph,va,wh,tr,li,hd,e,_⟩:=B5 v j
 have ew:(Ab v j).watches=v.watches:=by rw[e]
 have ec:=(IR v j).1
 refine⟨⟨⟨hz.small,by rw[ew];exact h.fit.siz.w,hz.value,hz.level,hz.why,hz.heat,hz.phase,hz.trail,hz.limits⟩,hv,hli,hlm⟩,g2,g3,g4,?_⟩
 rw[ew,ec]
 exact h.wc
theorem Dm{n A K:Nat}{F:List (List Int)}{J:Sv→Prop}(S:Hs n F J){v v1:Sv}{c:Option Nat}(hL:FD n A F K J v)(hA:2 * (A+K)≤50000000)(hp:B9 v c v1):
    FE (hide v) (hide v1)∧CT n (hide v1)∧F0 n 50000000 v1∧N3 A K v1∧GH n F v1.learned v1∧J v1∧(c=none→CI n F v1.trail.length (hide v1)∧v1.head=(v1.trail.length:Int))∧∀d,c=some d→∃h,CI n F h (hide v1)∧∃l,Fy (hide v1) d l∧lv v1 l=(v1.limits.length:Int):=by
  have hI2:F0 n (2 * (A+K)) v:=⟨hL.all.inv,hL.cnt.tot,hL.h0,hL.h1⟩
  have hlh:∀x∈(hide v).limits,x≤(hide v).head:=fun x hx=>by
    have q1:=hL.ci.lh x hx
    have q2:=hL.h0
    show x≤v.head
    omega
  obtain⟨p1,p2,p3,p4,p5⟩:=(Ve hp).cw hL.ci.ct hL.ci.cw hI2.hide hlh
  obtain⟨k1,k2⟩:=hp.keep hI2
  have hrp:=hp.rp
  have htl:∃T,v1.trail=v.trail++T:=p1.tr
  have hlm:v1.limits=v.limits:=p1.limits
  have elrn:v1.learned=v.learned:=p1.learned
  refine⟨p1,p2,⟨k1.inv,by have:=k1.tot;omega,k1.h0,k1.h1⟩,⟨k1.tot,p1.many.trans hL.cnt.many,?_,?_,?_⟩,⟨k1.inv,fun d ms t q=>?_,fun d hd=>?_,?_,?_,fun f hf=>?_⟩,S.same hL.j p1.cl p1.trace p1.broken,fun hc=>?_,fun d hd=>?_⟩
  · have e1:v1.trace=v.trace:=p1.trace
    rw[elrn,e1]
    exact hL.cnt.trc
  · have e:v1.room=v.room:=p1.room
    rw[e];exact hL.cnt.r0
  · have e:v1.room=v.room:=p1.room
    rw[e];exact hL.cnt.r1
  · cases hb:t.2 with
    | true=>exact hL.all.all d ms t (hrp.gone d ms t q hb)
    | false=>exact(p2.cls d ms t (Cq q hb)).1
  · rcases hrp.why d hd with z | z
    · exact hrp.nn d (hL.all.why d z)
    · exact z
  · rw[elrn]
    intro d hd
    obtain⟨ls,q⟩:=hL.all.lrn d hd
    obtain⟨ls',q1,_⟩:=(p1.cl d).2 ls _ (Cq q rfl)
    exact⟨ls',(E7 q1).1⟩
  · rw[elrn];exact hL.all.lnd
  · rcases hL.all.cov f hf with q | ⟨d, ls, q1, q2⟩
    · exact .inl q
    · obtain⟨ls',r1,r2⟩:=(p1.cl d).2 ls _ (Cq q1 rfl)
      exact .inr ⟨d,ls',(E7 r1).1,fun y hy=>q2 y (r2.mem_iff.1 hy)⟩
  · obtain⟨q1,q2⟩:=p4 hc
    have q2:v1.head=(v1.trail.length:Int):=q2
    have e:(hide v1).head.toNat=v1.trail.length:=by show v1.head.toNat=_;omega
    rw[e]at q1
    refine⟨hL.ci.prog p1 p2 q1 (qI _) fun x hx=>?_,q2⟩
    have:=hL.ci.ct.below x hx
    have this:x<(v.trail.length:Int):=this
    obtain⟨T,eT⟩:=htl
    rw[eT,qM]
    omega
  · obtain⟨h,q1,q2,l,q3,q4⟩:=p5 d hd
    have hlen:v.trail.length≤v1.trail.length:=by
      obtain⟨T,eT⟩:=htl
      rw[eT,qM];omega
    have hcw:CW (hide v1) (min h v1.trail.length) []:=q1.less (Nat.min_le_left _ _)
    refine⟨min h v1.trail.length,hL.ci.prog p1 p2 hcw (Nat.min_le_right _ _) fun x hx=>?_,l,q3,?_⟩
    · have z1 := q2 x hx
      have z2:=hL.ci.ct.below x hx
      have z2:x<(v.trail.length:Int):=z2
      omega
    · rw[hlm];exact q4
def RQ(n A:Nat)(F:List (List Int))(c0 most:Nat)(J:Sv→Prop)(k:Nat)(v:Sv):Prop:=k≤most∧(FD n A F (c0+k) J v∨Wi n F (c0+most) J v)
def kS(n A:Nat)(F:List (List Int))(c0 most:Nat)(J:Sv→Prop)(r:Int)(v:Sv):Prop:=
 (r=0∧Wi n F (c0+most) J v)∨(∃K,K≤c0+most∧FD n A F K J v∧v.limits=[]∧(r=1∧v.model.length=n+1∧By (Fn v.model) F∨r=2))
theorem FD.back{n A K h:Nat}{F:List (List Int)}{J:Sv→Prop}(S:Hs n F J){v:Sv}(k:CI n F h (hide v))(hz:v.limits=[]→h=v.head.toNat∧0≤v.head∧v.head≤(v.trail.length:Int))(hb:v.broken=false)(ha:GH n F v.learned v)(hc:N3 A K v)(hj:J v):FD n A F K J (Ab v 0)∧(Ab v 0).limits=[]:=by
 obtain⟨z1,z2,z3,z4⟩:=k.zero hz
 have hi:=Wu ha.inv z1.ct.inv
 rw[Ji]at z1 z2 z3 z4
 have elr:(Ab v 0).learned=v.learned:=by
  obtain⟨ph,va,wh,tr,li,hd,e,_⟩:=B5 v 0
  rw[e]
 obtain⟨c1,c2,c3⟩:=IR v 0
 exact⟨⟨c3.trans hb,z1,z3,z4,by rw[elr];exact ha.back 0 hi,hc.back 0,S.same hj (by rw[c1];exact Bx.refl _) c2 c3⟩,z2⟩
theorem OY{n A K:Nat}{F:List (List Int)}{J:Sv→Prop}(S:Hs n F J){v:Sv}(h:FD n A F K J v)(hr:v.room≤(v.learned.length:Int)):FD n A F K J (Ia v)∧(Ia v).limits=v.limits:=by
 have ha:GH n F v.learned { v with room:=v.room+v.room / 8 }:=h.all.of (v':={ v with room:=v.room+v.room / 8 }) (by
  obtain⟨⟨hz,hv,hli,hlm⟩,g2,g3,g4,g5⟩:=h.all.inv
  exact⟨⟨⟨hz.small,hz.w,hz.value,hz.level,hz.why,hz.heat,hz.phase,hz.trail,hz.limits⟩,hv,hli,hlm⟩,g2,g3,g4,g5⟩) rfl rfl
 have hci:CI n F v.head.toNat (hide { v with room:=v.room+v.room / 8 }):=h.ci.of ha.inv.hide rfl rfl rfl rfl rfl rfl rfl
 obtain⟨i1,i2,i3,i4,i5,i6,i7⟩:=Ja S v.learned 0 _ hci ha (S.same h.j (Bx.refl _) rfl rfl) h.brk
 have hroom:=i4.room
 have hr0:=h.cnt.r0
 have hr1:=h.cnt.r1
 have htrc:=h.cnt.trc
 have hbrk:(Bk v.learned 0 { v with room:=v.room+v.room / 8 }).1.broken=v.broken:=i4.broken
 have hhd:(Bk v.learned 0 { v with room:=v.room+v.room / 8 }).1.head=v.head:=i4.head
 have htr:(Bk v.learned 0 { v with room:=v.room+v.room / 8 }).1.trail=v.trail:=i4.trail
 have hlm:(Bk v.learned 0 { v with room:=v.room+v.room / 8 }).1.limits=v.limits:=i4.limits
 have hw:(Bk v.learned 0 { v with room:=v.room+v.room / 8 }).1.watches=v.watches:=i4.watches
 have hmy:(Bk v.learned 0 { v with room:=v.room+v.room / 8 }).1.many=v.many:=i4.many
 unfold Ia
 generalize Bk v.learned 0 { v with room:=v.room+v.room / 8 }=r at *
 obtain⟨w,Ks⟩:=r
 dsimp only at *
 have hinv:A7 n { w with learned:=Ks }:=by
  obtain⟨⟨hz,hv,hli,hlm⟩,g2,g3,g4,g5⟩:=i2.inv
  exact⟨⟨⟨hz.small,hz.w,hz.value,hz.level,hz.why,hz.heat,hz.phase,hz.trail,hz.limits⟩,hv,hli,hlm⟩,g2,g3,g4,g5⟩
 refine⟨⟨hbrk.trans h.brk,?_,by show 0≤w.head;rw[hhd];exact h.h0,by show w.head≤(w.trail.length:Int);rw[hhd,htr];exact h.h1,i2.of hinv rfl rfl,⟨by show CV w.watches≤_;rw[hw];exact h.cnt.tot,hmy.trans h.cnt.many,?_,?_,?_⟩,S.same i3 (Bx.refl _) rfl rfl⟩,hlm⟩
 ·have g:CI n F v.head.toNat (hide { w with learned:=Ks }):=i1.of hinv.hide rfl rfl rfl rfl rfl rfl rfl
  rw[← hhd]at g
  exact g
 ·show w.trace.length+Ks.length≤_
  omega
 ·show 0≤w.room
  rw[hroom]
  show 0≤v.room+v.room / 8
  omega
 ·show w.room≤_
  rw[hroom]
  show v.room+v.room / 8≤_
  omega
theorem FD.dinv{n A K:Nat}{F:List (List Int)}{J:Sv→Prop}{v:Sv}(h:FD n A F K J v)(hK:K≤200000)(hn:n≤1000):IH n v.learned 0 v:=by
  refine⟨h.all.inv.fit.siz.why,fun d hd=>?_,fun c hc=>?_,?_⟩
  · have:=h.all.why d hd
    cases hcl:v.cl d with
    | none=>exact absurd hcl this
    | some l=>exact⟨l,rfl⟩
  · obtain ⟨ls, q⟩ := h.all.lrn c hc
    obtain⟨q1,q2,q3,_⟩:=h.ci.ct.cls c ls _ (Cq q rfl)
    have:=OW q1 q3
    exact⟨ls,_,q,q1,by omega⟩
  · have:=h.cnt.trc
    omega
theorem Ty         {n A : Nat} {F : List (List Int)} {c0 most : Nat} {J : Sv → Prop} (S : Hs     n F J) (hn : n ≤ 1000) (hF : ∀ f ∈ F, ∀ y ∈ f, VL n y) (hA : A ≤ 1000000) (hb : c0 + most ≤ 200000) : HO        n most (RQ     n A F c0 most J) (kS     n A F c0 most J) := by
  have live:∀ {k v},RQ n A F c0 most J k v→v.broken=false→k≤most∧FD n A F (c0+k) J v:=fun hI hbr=>by
    obtain⟨hk,hL | hD⟩:=hI
    · exact⟨hk,hL⟩
    · rw[hD.brk]at hbr;cases hbr
  refine⟨fun hI=>?_,fun hI hbr=>?_,fun hI hbr hp=>?_,fun hI hbr hp hl=>?_,fun hI hbr hp hl hk=>?_,fun hI hbr hp hl hk=>?_,fun hI hbr hp h hh=>?_,fun hI hbr hp hall=>?_,fun hI hbr hp h1 h2 h3=>?_⟩
  · obtain ⟨hk, hL | hD⟩ := hI
    · exact⟨hk,hL.all.inv,by have:=hL.cnt.tot;omega,hL.h0,hL.h1⟩
    · exact⟨hk,hD.inv⟩
  · obtain ⟨hk, hL | hD⟩ := hI
    · rw[hL.brk]at hbr;cases hbr
    · exact .inl ⟨rfl,hD⟩
  · obtain ⟨hk, hL⟩ := live hI hbr
    obtain⟨p1,p2,p3,p4,p5,p6,p7,p8⟩:=Dm S hL (by omega) hp
    refine⟨by have:=p4.trc;omega,by have:=p4.trc;omega,p5.all,?_⟩
    have h1:=hL.ci.phase
    have h2:(hide _).phase=(hide _).phase:=p1.phase
    have h1:DX n (hide _):=h1
    unfold DX at h1
    rw[← h2]at h1
    exact h1
  · rename_i k v c v1
    obtain⟨hk,hL⟩:=live hI hbr
    obtain⟨p1,p2,p3,p4,p5,p6,p7,p8⟩:=Dm S hL (by omega) hp
    obtain⟨h,k1,l,k2,k3⟩:=p8 _ rfl
    have hbr1:v1.broken=false:=p1.broken.trans hbr
    refine .inl ⟨rfl,?_⟩
    have hj:=S.fail p6 p2 k1 hl k2 k3
    rw[FN hbr1]at hj ⊢
    obtain⟨⟨⟨hz,hv,hli,hlm⟩,g2,g3,g4,g5⟩,t1,t2,t3⟩:=p3
    refine⟨rfl,⟨⟨⟨⟨hz.small,hz.w,hz.value,hz.level,hz.why,hz.heat,hz.phase,hz.trail,hz.limits⟩,hv,hli,hlm⟩,g2,g3,g4,g5⟩,t1,t2,t3⟩,hl,?_,?_,fun σ hσ=>?_,hj⟩
    · show(List.length (_++[_]))≤_
      rw[qM]
      have:=p4.trc
      simp;omega
    · show Sv.many _≤_
      have:=p4.many
      dsimp only
      omega
    · obtain ⟨ls, b, q1, q2, q3, q4⟩ := k2
      obtain⟨y,hy,hs⟩:=k1.imp σ hσ _ ls b q1
      obtain⟨i,e⟩:=CS.1 (q3 y hy)
      refine hs.neg (p2.zero (k1.imp σ hσ) i (-y) e ?_)
      have:=p2.lev i _ e
      unfold lv
      rw[this]
      have hl':(hide _).limits=[]:=hl
      rw[hl'];rfl
  · rename_i k v c v1
    obtain⟨hkm,hL⟩:=live hI hbr
    obtain⟨p1,p2,p3,p4,p5,p6,p7,p8⟩:=Dm S hL (by omega) hp
    obtain⟨h,k1,l,k2,k3⟩:=p8 _ rfl
    have hbr1:v1.broken=false:=p1.broken.trans hbr
    obtain⟨z1,z2⟩:=FD.back S k1 (fun q=>absurd q hl) hbr1 p5 p4 p6
    exact .inr ⟨_,by omega,z1,z2,.inr rfl⟩
  · rename_i k v c v1
    obtain⟨hkm,hL⟩:=live hI hbr
    obtain⟨p1,p2,p3,p4,p5,p6,p7,p8⟩:=Dm S hL (by omega) hp
    obtain⟨h,k1,l,k2,k3⟩:=p8 _ rfl
    have hbr1:v1.broken=false:=p1.broken.trans hbr
    obtain⟨r,r1,r2⟩:=G9 p2 hl k2 k3
    have hlist:=r2.list p2
    have eL0:AT (hide v1) r=AT v1 r:=rfl
    rw[eL0]at hlist
    have hsm:=p2.inv.fit.siz
    have hlevb:0≤r.lev∧r.lev<(v1.limits.length:Int):=by
      have hpos:0<v1.limits.length:=List.length_pos_iff.2 hl
      rcases r2.lev.2 with⟨_,e⟩ | ⟨q,hq,e⟩
      · omega
      · have := r2.lits q hq
        have this2:lv (hide v1) q<(v1.limits.length:Int):=this.2.2
        omega
    refine⟨r,TV r1,hlist.ok,hlevb.1,by have q1:=hsm.limits;have q1:v1.limits.length≤n:=q1;omega,fun hh cn hhl hcn=>?_⟩
    have hiw:A7 n (BB (Bw v1) hh):=p5.inv.many.heat (v:=Bw v1) hhl
    have kw:CI n F h (hide (BB (Bw v1) hh)):=k1.of hiw.hide rfl rfl rfl rfl rfl rfl rfl
    have hLw:EU (hide (BB (Bw v1) hh)) r:=⟨r2.uip,r2.lits,r2.nd,r2.lev,r2.imp⟩
    have eL:AT (hide (BB (Bw v1) hh)) r=AT v1 r:=rfl
    obtain⟨g1,g2,g3,g4,g5⟩:=Ut kw hl hLw (c:=cn) (Dl hcn)
    rw[eL]at g1 g2 g3
    have hcnb:(Ab (BB (Bw v1) hh) r.lev.toNat).cl cn=none:=by rw[(IR _ _).1];exact hcn
    rw[Ji,← Vc hcnb]at g1 g2 g3
    have g2:0≤(A8 (Ab (BB (Bw v1) hh) r.lev.toNat) cn (AT v1 r)).head:=g2
    have g3:(A8 (Ab (BB (Bw v1) hh) r.lev.toNat) cn (AT v1 r)).head≤((A8 (Ab (BB (Bw v1) hh) r.lev.toNat) cn (AT v1 r)).trail.length:Int):=g3
    have g1:CI n F (A8 (Ab (BB (Bw v1) hh) r.lev.toNat) cn (AT v1 r)).head.toNat (hide (A8 (Ab (BB (Bw v1) hh) r.lev.toNat) cn (AT v1 r))):=g1
    obtain⟨ph,va,wh,tr,li,hd,e,_⟩:=B5 (BB (Bw v1) hh) r.lev.toNat
    have hwb:∀d,some d∈(Ab (BB (Bw v1) hh) r.lev.toNat).why→some d∈v1.why:=fun d hd=>(PR hd:some d∈(BB (Bw v1) hh).why)
    have hm:r.hd∈AT v1 r:=(hlist.mem _).2 (.inl rfl)
    have hj1:=S.lrn (cn:=cn) p6 hbr1 p2 k1 hl k2 k3 r1 r2 hcn
    generalize hvb:Ab (BB (Bw v1) hh) r.lev.toNat=vb at *
    have ecl:vb.cl=v1.cl:=by rw[e];rfl
    have emany:vb.many=Dt .i64 (v1.many+1):=by rw[e];rfl
    have elrn:vb.learned=v1.learned:=by rw[e];rfl
    have etrc:vb.trace=v1.trace:=by rw[e];rfl
    have ewat:vb.watches=v1.watches:=by rw[e];rfl
    have eroom:vb.room=v1.room:=by rw[e];rfl
    have ebrk:vb.broken=v1.broken:=by rw[e];rfl
    have kcl:(A8 vb cn (AT v1 r)).cl=AP vb.cl cn (AT v1 r,(true,false)):=by unfold A8;split<;>rfl
    have kmany:(A8 vb cn (AT v1 r)).many=vb.many:=by unfold A8;split<;>rfl
    have klrn:(A8 vb cn (AT v1 r)).learned=vb.learned∨(A8 vb cn (AT v1 r)).learned=vb.learned++[cn]:=by
      unfold A8
      split
      · exact .inr rfl
      · exact .inl rfl
    have kwhy:(A8 vb cn (AT v1 r)).why=vb.why.set ((AT v1 r).getD 0 0).natAbs (some cn):=by unfold A8;split<;>rfl
    have ktrc:(A8 vb cn (AT v1 r)).trace=vb.trace++[(false,AT v1 r)]:=by
      unfold A8
      split<;>rfl
    have kwat:(A8 vb cn (AT v1 r)).watches=Er vb.watches cn (AT v1 r):=by unfold A8 Er;split<;>rfl
    have kroom:(A8 vb cn (AT v1 r)).room=vb.room:=by unfold A8;split<;>rfl
    have kbrk:(A8 vb cn (AT v1 r)).broken=vb.broken:=by unfold A8;split<;>rfl
    generalize hkk:A8 vb cn (AT v1 r)=vk at *
    have hput:vk.cl cn=some (AT v1 r,true,false):=by rw[kcl];exact Ao _ _ _
    have hold:∀ {d:Nat},d≠cn→vk.cl d=v1.cl d:=fun {d} ne=>by
      rw[kcl,ecl]
      unfold AP
      rw[if_neg ne]
    have holds:∀ {d:Nat} {l:A6},v1.cl d=some l→vk.cl d=some l:=fun {d l} q=>by
      rw[hold fun ne=>by rw[ne,hcn]at q;cases q]
      exact q
    have hcnl:cn ∉ v1.learned:=fun q=>by
      obtain⟨ls,z⟩:=p5.lrn cn q
      rw[hcn]at z;cases z
    refine⟨by omega,.inl ⟨by rw[kbrk,ebrk];exact hbr1,g1,g2,g3,⟨?_,fun d ms t q=>?_,fun d q=>?_,fun d q=>?_,?_,fun f hf=>?_⟩,⟨?_,?_,?_,by rw[kroom,eroom];exact p4.r0,by rw[kroom,eroom];have:=p4.r1;omega⟩,S.same hj1 ?_ ?_ ?_⟩⟩
    · have hi:=g1.ct.inv
      obtain⟨⟨hz,hv,hli,hlm⟩,q2,q3,q4,q5⟩:=hi
      refine⟨⟨⟨hz.small,?_,hz.value,hz.level,hz.why,hz.heat,hz.phase,hz.trail,hz.limits⟩,hv,hli,hlm⟩,q2,q3,q4,?_⟩
      · rw[kwat,QQ,ewat];exact p5.inv.fit.siz.w
      · rw[kwat,ewat]
        obtain⟨i1,i2⟩:=p5.inv.withC hcn hlist.ok (true,false)
        intro L hL d hd
        obtain⟨ls,b,w1,w2,w3⟩:=i1.wc L hL d hd
        exact⟨ls,b,by rw[kcl,ecl];exact w1,w2,w3⟩
    · by_cases ne : d = cn
      · rw[ne,hput]at q
        injection q with q
        injection q with q _
        rw[← q];exact hlist.ok
      · rw[hold ne]at q
        exact p5.all d ms t q
    · rw [kwhy] at q
      rcases D5 q with z | z
      · have z:=hwb d z
        cases hz:v1.cl d with
        | none=>exact absurd hz (p5.why d z)
        | some l=>rw[holds hz];exact fun y=>by cases y
      · injection z with z
        rw[← z,hput];exact fun y=>by cases y
    · have:d∈v1.learned∨d=cn:=by
        rcases klrn with z | z
        · rw[z,elrn]at q;exact .inl q
        · rw [z, elrn] at q
          rcases List.mem_append.1 q with y | y
          · exact .inl y
          · exact .inr (List.mem_singleton.1 y)
      rcases this with z | z
      · obtain⟨ls,y⟩:=p5.lrn d z
        exact⟨ls,holds y⟩
      · rw[z];exact⟨_,hput⟩
    · rcases klrn with z | z
      · rw[z,elrn];exact p5.lnd
      · rw[z,elrn,rH]
        exact⟨p5.lnd,rf.2 ⟨by simp,List.nodup_nil⟩,fun a ha b hb ab=>hcnl (by rw[← List.mem_singleton.1 hb,← ab];exact ha)⟩
    · rcases p5.cov f hf with q | ⟨d, ls, q1, q2⟩
      · exact .inl q
      · exact .inr ⟨d,ls,holds q1,q2⟩
    · rw[kwat,ewat]
      have:=Iu v1.watches cn (AT v1 r)
      have:=p4.tot
      omega
    · rw[kmany,emany,p4.many,EA ⟨by omega,by omega⟩]
      omega
    · rw[ktrc,qM,etrc]
      have h2:=p4.trc
      have h3:vk.learned.length≤v1.learned.length+1:=by
        rcases klrn with z | z
        · rw[z,elrn];omega
        · rw[z,elrn,qM];simp
      simp only[qh,rC]
      omega
    · rw[kcl,ecl];exact Bx.refl _
    · rw[ktrc,etrc];rfl
    · rw[kbrk,ebrk];rfl
  · rename_i k v v1
    obtain⟨hkm,hL⟩:=live hI hbr
    obtain⟨p1,p2,p3,p4,p5,p6,p7,p8⟩:=Dm S hL (by omega) hp
    obtain⟨k1,k2⟩:=p7 rfl
    have hbr1:v1.broken=false:=p1.broken.trans hbr
    have hi:=p5.inv.heat hh
    have kw:CI n F v1.trail.length (hide (BB v1 h)):=k1.of hi.hide rfl rfl rfl rfl rfl rfl rfl
    obtain⟨z1,z2⟩:=FD.back (v:=BB v1 h) S kw (fun _=>⟨by show v1.trail.length=v1.head.toNat;omega,by show 0≤v1.head;omega,by show v1.head≤(v1.trail.length:Int);omega⟩) hbr1 (p5.of hi rfl rfl) (p4.of rfl rfl rfl rfl rfl) (S.same p6 (Bx.refl _) rfl rfl)
    refine⟨fun _=>⟨hkm,.inl z1⟩,fun hr=>⟨⟨hkm,.inl (OY S z1 hr).1⟩,⟨z1.cnt.r0,by have:=z1.cnt.r1;omega⟩,z1.dinv (by omega) hn,by have:=z1.cnt.trc;omega⟩⟩
  · rename_i k v v1
    obtain⟨hkm,hL⟩:=live hI hbr
    obtain⟨p1,p2,p3,p4,p5,p6,p7,p8⟩:=Dm S hL (by omega) hp
    obtain⟨k1,k2⟩:=p7 rfl
    have hbr1:v1.broken=false:=p1.broken.trans hbr
    have hi:A7 n { v1 with model:=v1.value }:=p5.inv.model _
    have kw:CI n F v1.trail.length (hide { v1 with model:=v1.value }):=k1.of hi.hide rfl rfl rfl rfl rfl rfl rfl
    obtain⟨z1,z2⟩:=FD.back (v:={ v1 with model:=v1.value }) S kw (fun _=>⟨by show v1.trail.length=v1.head.toNat;omega,by show 0≤v1.head;omega,by show v1.head≤(v1.trail.length:Int);omega⟩) hbr1 (p5.of hi rfl rfl) (p4.of rfl rfl rfl rfl rfl) (S.same p6 (Bx.refl _) rfl rfl)
    have em:(GS v1).model=v1.value:=by
      unfold GS
      obtain⟨ph,va,wh,tr,li,hd,e,_⟩:=B5 { v1 with model:=v1.value } 0
      rw[e]
    refine .inr ⟨c0+k,by omega,z1,z2,.inl ⟨rfl,?_,?_⟩⟩
    · rw[em];exact p5.inv.fit.siz.value
    · rw[em];exact CI.models (v:=hide v1) k1 hF hall
  · rename_i k v v1 b
    obtain⟨hkm,hL⟩:=live hI hbr
    obtain⟨p1,p2,p3,p4,p5,p6,p7,p8⟩:=Dm S hL (by omega) hp
    obtain⟨k1,k2⟩:=p7 rfl
    have hbr1:v1.broken=false:=p1.broken.trans hbr
    obtain⟨g1,g2⟩:=CI.guess (v:=hide v1) k1 h1 h2 h3
    have g2:(Cu v1 b).trail.length=v1.trail.length+1:=g2
    have ehd:(Cu v1 b).head=v1.head:=rfl
    have hg:Cu (hide v1) b=hide (Cu v1 b):=rfl
    rw[hg]at g1
    have g1:CI n F v1.trail.length (hide (Cu v1 b)):=g1
    refine⟨hkm,.inl ⟨hbr1,?_,by rw[ehd];omega,by rw[ehd,g2];omega,?_,p4.of rfl rfl rfl rfl rfl,S.same p6 (Bx.refl _) rfl rfl⟩⟩
    · rw[ehd,show v1.head.toNat=v1.trail.length by omega]
      exact g1
    · have hi:=g1.ct.inv
      obtain⟨⟨hz,hv,hli,hlm⟩,q2,q3,q4,q5⟩:=hi
      refine⟨⟨⟨⟨hz.small,p5.inv.fit.siz.w,hz.value,hz.level,hz.why,hz.heat,hz.phase,hz.trail,hz.limits⟩,hv,hli,hlm⟩,q2,q3,q4,p5.inv.wc⟩,p5.all,fun d hd=>?_,p5.lrn,p5.lnd,p5.cov⟩
      rcases D5 hd with z | z
      · exact p5.why d z
      · cases z
def NA(n A:Nat)(F:List (List Int))(M:Nat)(J:Sv→Prop)(v:Sv):Prop:=(∃K,K≤M∧FD n A F K J v∧v.limits=[])∨Wi n F M J v
def fH(n A M:Nat):Prop:=n≤1000∧A≤10000∧M≤200000
theorem NA.inv{n A:Nat}{F:List (List Int)}{M:Nat}{J:Sv→Prop}{v:Sv}(h:NA n A F M J v)(hb:fH n A M):A7 n v∧v.limits=[]∧v.trace.length≤1000000∧CV v.watches≤50000000∧J v:=by
  obtain⟨b1,b2,b3⟩:=hb
  rcases h with⟨K,h1,h2,h3⟩ | h
  · have := h2.cnt.trc
    have:=h2.cnt.tot
    exact⟨h2.all.inv,h3,by omega,by omega,h2.j⟩
  · exact⟨h.inv.inv,h.lim,by have:=h.trc;omega,h.inv.tot,h.j⟩
theorem NA.trc{n A:Nat}{F:List (List Int)}{M:Nat}{J:Sv→Prop}{v:Sv}(h:NA n A F M J v)(hb:fH n A M):v.trace.length≤450000:=by
 obtain⟨b1,b2,b3⟩:=hb
 rcases h with⟨K,h1,h2,h3⟩ | h
 ·have:=h2.cnt.trc
  omega
 ·exact h.trc
theorem NA.mono{n A:Nat}{F:List (List Int)}{M M':Nat}{J:Sv→Prop}{v:Sv}(h:NA n A F M J v)(hM:M≤M'):NA n A F M' J v:=by
 rcases h with⟨K,h1,h2,h3⟩ | h
 ·exact .inl ⟨K,by omega,h2,h3⟩
 ·exact .inr ⟨h.brk,h.inv,h.lim,h.trc,by have:=h.many;omega,h.no,h.j⟩
theorem Vd{v:Sv}(h:v.cl=fun _=>none):hide v=v:=by
 have e1:BF v.cl=fun _=>true:=by
  funext c
  unfold BF
  rw[h]
 have e2:BE v.cl=v.cl:=by
  funext c
  unfold BE
  rw[h]
 have e3:DK v.cl v.watches=v.watches:=by
  unfold DK
  rw[e1]
  have:(fun L:List Nat=>L.filter fun _=>true)=id:=by
   funext L
   exact List.filter_eq_self.2 fun _ _=>rfl
  rw[this,List.map_id]
 unfold hide
 rw[e2,e3]
theorem Fz.liveD{n:Nat}(hn:n<100000000){v:Sv}(h:Fz (n+1) v){J:Sv→Prop}(hj:J v):FD n 0 [] 0 J v∧v.limits=[]:=by
 obtain⟨h1,h2⟩:=h.live hn
 obtain⟨r1,r2,r3,r4,r5,r6,r7,r8,r9,r10⟩:=h.rest
 have hcl:∀c l,v.cl c=some l→False:=fun c l hc=>by rw[r10]at hc;cases hc
 refine⟨⟨r5,by rw[Vd r10];exact h1.ci,h1.h0,h1.h1,⟨h1.ci.ct.inv,fun c ls b q=>(hcl _ _ q).elim,fun d q=>?_,by rw[r1];exact fun _ q=>(by cases q),by rw[r1];exact List.nodup_nil,fun _ q=>by cases q⟩,⟨h1.cod.tot,by rw[r8];rfl,by rw[r7,r1];exact qI _,by rw[r9];decide,by rw[r9];decide⟩,hj⟩,h2⟩
 rw[h.why]at q
 have:=sE q
 cases this
theorem NA.add  {n A : Nat} {F : List (List Int)} {M : Nat} {J J' : Sv → Prop} {v : Sv} (h : NA  n A F M J v) (hb : fH  n A M) {f : List Int} (hf : ∀ q ∈ f, VL n q) (hlen : f.length ≤ 12) {v' : Sv} (hr : JC   v f v') (hj : J' v') : NA  n (A + 1) (F ++ [f]) M J' v' ∧ v'.many = v.many := by
  obtain⟨b1,b2,b3⟩:=hb
  rcases h with⟨K,hK,h1,h2⟩ | h
  · have hcl : GH   n F v.learned v := h1.all
    have old:(∀c l,v.cl c=some l→v'.cl c=some l)∧(∀c ls b,v'.cl c=some (ls,b)→v.cl c=some (ls,b)∨((∃y∈f,-y∈f)∨∀y∈ls,y∈f)∧b=(false,false)∧A9 n ls)∧(∀d,some d∈v'.why→some d∈v.why∨v'.cl d≠none)∧v'.learned=v.learned∧v'.many=v.many∧v'.room=v.room∧CV v'.watches≤CV v.watches+2∧(v'.broken=false→(∃y∈f,-y∈f)∨∃c ls,v'.cl c=some (ls,false,false)∧∀y∈ls,y∈f)∧(∀L∈v'.watches,∀c∈L,∃ls b,v'.cl c=some (ls,b)∧A9 n ls∧2≤ls.length)∧v'.watches.length=v.watches.length:=by
      obtain⟨ho1,ho2⟩:=Jt f
      cases hr with
      | none ht =>
        refine⟨fun _ _ q=>q,fun _ _ _ q=>.inl q,fun _ q=>.inl q,rfl,rfl,rfl,by omega,fun hbr=>?_,h1.all.inv.wc,rfl⟩
        rcases ht with ht | ht
        · obtain⟨y,q1,q2⟩:=J8.1 ht
          exact .inl ⟨y,(ho2 y).1 q1,(ho2 _).1 q2⟩
        · rw[hbr]at ht;cases ht
      | nil ht hb' he =>
        rw[FN h1.brk]
        exact⟨fun _ _ q=>q,fun _ _ _ q=>.inl q,fun _ q=>.inl q,rfl,rfl,rfl,by show CV v.watches≤_;omega,fun hbr=>(by cases hbr),h1.all.inv.wc,rfl⟩
      | @put c ht hb' he hc =>
        have hp:(Bs v f).Perm (Ef f):=H7 _ _
        have hm:∀z,z∈Bs v f↔z∈f:=fun z=>by rw[hp.mem_iff];exact ho2 z
        have hOl:(Bs v f).length≤12:=by rw[hp.length_eq];have:=Is f;omega
        have hOk:A9 n (Bs v f):=⟨fun q hq=>hf q ((hm q).1 hq),by omega⟩
        generalize Bs v f=O at *
        have hput:∀w:Sv,w.cl=AP v.cl c (O,false,false)→(∀c l,v.cl c=some l→w.cl c=some l)∧(∀c ls b,w.cl c=some (ls,b)→v.cl c=some (ls,b)∨((∃y∈f,-y∈f)∨∀y∈ls,y∈f)∧b=(false,false)∧A9 n ls)∧w.cl c=some (O,false,false):=fun w hw=>by
          rw[hw]
          refine⟨fun d l q=>?_,fun d ls b q=>?_,Ao _ _ _⟩
          · unfold AP
            rw[if_neg fun e=>by rw[e,hc]at q;cases q]
            exact q
          · rcases Bj        q with ⟨_, q2, q3⟩ | ⟨_, q2⟩
            · exact .inr ⟨.inr fun y hy=>(hm y).1 (by rw[← q2];exact hy),q3,by rw[q2];exact hOk⟩
            · exact .inl q2
        have hwc:=(h1.all.inv.withC hc hOk (false,false)).1
        have htot:CV (withC v c O (false,false)).watches≤CV v.watches+2:=Iu _ _ _
        have hln:(withC v c O (false,false)).watches.length=v.watches.length:=QQ _ _ _
        have hb2:(withC v c O (false,false)).broken=false:=h1.brk
        unfold JI
        rw[Nm]
        split
        · rw[FN hb2]
          obtain⟨a1,a2,a3⟩:=hput ({ withC v c O (false,false)with broken:=true,trace:=(withC v c O (false,false)).trace++[(false,[])] }) rfl
          exact⟨a1,a2,fun d q=>.inl q,rfl,rfl,rfl,htot,fun hbr=>(by cases hbr),hwc.wc,hln⟩
        · split
          · obtain⟨a1,a2,a3⟩:=hput (BR (withC v c O (false,false)) (O.getD 0 0) (some c)) rfl
            refine⟨a1,a2,fun d q=>?_,rfl,rfl,rfl,htot,fun _=>.inr ⟨c,O,a3,fun y hy=>(hm y).1 hy⟩,hwc.wc,hln⟩
            rcases D5 q with z | z
            · exact .inl z
            · injection z with z
              right
              rw[← z,a3]
              exact fun y=>by cases y
          · obtain⟨a1,a2,a3⟩:=hput (withC v c O (false,false)) rfl
            exact⟨a1,a2,fun d q=>.inl q,rfl,rfl,rfl,htot,fun _=>.inr ⟨c,O,a3,fun y hy=>(hm y).1 hy⟩,hwc.wc,hln⟩
    obtain⟨o1,o2,o3,o4,o5,o6,o7,o8,o9,o10⟩:=old
    have real:A7 n (hide v')→A7 n v':=fun hi=>by
      obtain⟨⟨hz,hv,hli,hlm⟩,q2,q3,q4,q5⟩:=hi
      exact⟨⟨⟨hz.small,by rw[o10];exact h1.all.inv.fit.siz.w,hz.value,hz.level,hz.why,hz.heat,hz.phase,hz.trail,hz.limits⟩,hv,hli,hlm⟩,q2,q3,q4,o9⟩
    have htotv:=h1.cnt.tot
    rcases Wn h1.ci h2 h1.brk hf hlen (ar hr)with⟨g1,g2,g3,g4,g5⟩ | ⟨g1,g2,g3,g4,g5,g6⟩
    · have g1 : v'.broken = false := g1
      have g4:v'.trace=v.trace:=g4
      have g5:v.trail.length≤v'.trail.length:=g5
      have ghd:v'.head=v.head:=g3.head
      have glm:v'.limits=v.limits:=g3.limits
      refine⟨.inl ⟨K,hK,⟨g1,?_,by rw[ghd];exact h1.h0,by rw[ghd];have:=h1.h1;omega,⟨real g2.ct.inv,fun c ls b q=>?_,fun d q=>?_,?_,by rw[o4];exact hcl.lnd,fun g hg=>?_⟩,⟨by omega,by rw[o5];exact h1.cnt.many,by rw[o4,g4];exact h1.cnt.trc,by rw[o6];exact h1.cnt.r0,by rw[o6];exact h1.cnt.r1⟩,hj⟩,by rw[glm];exact h2⟩,o5⟩
      · rw[ghd];exact g2
      · rcases o2 c ls b q with z | ⟨_, _, z⟩
        · exact hcl.all c ls b z
        · exact z
      · rcases o3 d q with z | z
        · cases hz:v.cl d with
          | none=>exact absurd hz (hcl.why d z)
          | some l=>rw[o1 d l hz];exact fun y=>by cases y
        · exact z
      · rw[o4]
        intro c hc
        obtain⟨ls,z⟩:=hcl.lrn c hc
        exact⟨ls,o1 c _ z⟩
      · rcases List.mem_append.1 hg with z | z
        · rcases hcl.cov g z with y | ⟨c, ls, y1, y2⟩
          · exact .inl y
          · exact .inr ⟨c,ls,o1 c _ y1,y2⟩
        · rw[List.mem_singleton.1 z];exact o8 g1
    · have g4 : v'.trace.length = v.trace.length + 1 := g4
      have g5:v'.trail=v.trail:=g5
      have ghd:v'.head=v.head:=g3.head
      have glm:v'.limits=v.limits:=g3.limits
      have htr:=h1.cnt.trc
      exact⟨.inr ⟨g1,⟨real g2,by omega,by rw[ghd];exact h1.h0,by rw[ghd,g5];exact h1.h1⟩,by rw[glm];exact h2,by omega,by rw[o5,h1.cnt.many];omega,g6,hj⟩,o5⟩
  · have e:v'=v:=by
      cases hr with
      | none _=>rfl
      | nil _ hb' _=>rw[h.brk]at hb';cases hb'
      | put _ hb' _ _=>rw[h.brk]at hb';cases hb'
    rw[e]at hj ⊢
    exact⟨.inr ⟨h.brk,h.inv,h.lim,h.trc,h.many,fun σ hσ=>h.no σ fun g hg=>hσ g (qW _ hg),hj⟩,rfl⟩
theorem WG{E:BN}(hE:Good E){B:Nat→Prop}{s:AF}{V:Nat→Option Sv}(h:Cj B s V){p:Nat}{v:Sv}(hp:V p=some v){n A:Nat}{F:List (List Int)}{M:Nat}{J J':Sv→Prop}(hI:NA n A F M J v)(hbd:fH n A M){f:List Int}(hf:∀q∈f,VL n q)(hlen:f.length≤12)(hJ:∀v',JC v f v'→J' v'){b:Nat}{u:AV}(hb:b≤s.next)(hu:AX b s u (Ax f))(hus:mz B u):
  WF E 36 [AK p,u] (fun r s'=>r=iv 0∧∃v',NA n (A+1) (F++[f]) M J' v'∧Cj B s' (Fb V p v')∧Dv B s s') s:=by
 obtain⟨ow,h1,h2⟩:=h
 obtain⟨x,hx⟩:=h1 p v hp
 obtain⟨i1,i2,i3,i4,i5⟩:=hI.inv hbd
 have hbk:=IS i2
 have hn:=hbd.1
 refine(Wo hE hx i1.fit (by rw[hbk];exact i1.fit.val) i3 (by omega) hlen hf hb hu fun j hj=>?_).mono ?_
 ·obtain⟨r1,r2⟩:=h2 j (hus j hj)
  exact⟨fun q=>(by rw[q,hp]at r2;cases r2),r1⟩
 rintro _ s' ⟨rfl,v',ow',x',g1,g2,g3⟩
 rw[hbk]at g1
 obtain⟨k1,k2⟩:=hI.add hbd hf hlen g1 (hJ v' g1)
 obtain⟨k3,k4⟩:=Cj.used h1 h2 hp g2 g3
 exact⟨rfl,v',k1,k3,k4⟩
theorem KR{E:BN}(hE:Good E){B:Nat→Prop}{s:AF}{V:Nat→Option Sv}(h:Cj B s V){p:Nat}{v:Sv}(hp:V p=some v){n A:Nat}{F:List (List Int)}{M most:Nat}{J:Sv→Prop}(S:Hs n F J)(hI:NA n A F M J v)(hbd:fH n A (M+most))(hF:∀f∈F,∀y∈f,VL n y):
    WF E 34 [AK p,iv (most:Int)] (fun r s'=>∃ (c:Int) (v':Sv),r=iv c∧NA n A F (M+most) J v'∧(c=0∧(∀σ,¬ By σ F)∧v'.broken=true∨c=1∧By (Fn v'.model) F∨c=2)∧Cj B s' (Fb V p v')∧Dv B s s') s:=by
  obtain⟨ow,h1,h2⟩:=h
  obtain⟨x,hx⟩:=h1 p v hp
  obtain⟨b1,b2,b3⟩:=hbd
  have start:∃c0,c0≤M∧RQ n A F c0 most J 0 v:=by
    rcases hI with⟨K,g1,g2,g3⟩ | g
    · exact⟨K,g1,qO _,.inl g2⟩
    · exact⟨M,qI _,qO _,.inr ⟨g.brk,g.inv,g.lim,g.trc,by have:=g.many;omega,g.no,g.j⟩⟩
  obtain⟨c0,s1,s2⟩:=start
  obtain⟨i1,i2,_,_⟩:=hI.inv ⟨b1,b2,by omega⟩
  have hbk:=IS i2
  refine(WK hE (Ty (A:=A) (c0:=c0) (most:=most) S b1 hF (by omega) (by omega)) (by omega) (by omega) hx i1.fit (by rw[hbk];exact s2)).mono ?_
  rintro _ s' ⟨c,v',ow',x',rfl,g1,g2,g3⟩
  obtain⟨k3,k4⟩:=Cj.used h1 h2 hp g2 g3
  rcases g1 with⟨rfl,k⟩ | ⟨K,e1,e2,e3,e4⟩
  · exact⟨0,v',rfl,NA.mono (.inr k) (by omega),.inl ⟨rfl,k.no,k.brk⟩,k3,k4⟩
  · refine ⟨c, v', rfl, .inl ⟨K, by omega, e2, e3⟩, .inr ?_, k3, k4⟩
    rcases e4 with⟨q1,_,q2⟩ | q
    · exact .inl ⟨q1,q2⟩
    · exact .inr q
theorem WH{E:BN}(hE:Good E){B:Nat→Prop}{s:AF}{V:Nat→Option Sv}(h:Cj B s V){n:Nat}(hn:n≤1000){J:Sv→Prop}(hJ:∀v,v.trace=[]→v.cl=(fun _=>none)→v.broken=false→J v):
    WF E 40 [iv (n:Int)] (fun r s'=>∃v,r=AK s.next∧V s.next=none∧Cj B s' (Fb V s.next v)∧Dv B s s'∧NA n 0 [] 0 J v) s:=by
  obtain⟨ow,h1,h2⟩:=h
  have hV:∀q,s.next≤q→V q=none:=fun q hq=>by
    cases hv:V q with
    | none=>rfl
    | some v =>
      obtain⟨x,hx⟩:=h1 _ v hv
      have:=hx.lt
      omega
  have st1:AH (fun t=>V t.1=none) ow s (fun j=>match V (ow j).1 with | none=>(s.next+1,0,0) | some _=>ow j) s:=⟨qI _,fun x hx hm=>by
    cases hv:V (ow x).1 with
    | none=>exact absurd hv hm
    | some v=>simp only[hv],fun _ _ _=>rfl⟩
  have h1':∀p v,V p=some v→∃x,Ah (fun j=>match V (ow j).1 with | none=>(s.next+1,0,0) | some _=>ow j) s p x v:=fun p v hp=>by
    obtain⟨x,hx⟩:=h1 p v hp
    exact⟨x,hx.keep st1 fun t ht e=>by rw[e,hp]at ht;cases ht⟩
  have h2':∀j,B j→j<s.next∧((fun j=>match V (ow j).1 with | none=>(s.next+1,0,0) | some _=>ow j:Ow) j)=(s.next+1,0,0):=fun j hj=>by
    obtain⟨r1,r2⟩:=h2 j hj
    exact⟨r1,by simp only[r2]⟩
  generalize (fun j=>match V (ow j).1 with | none=>(s.next+1,0,0) | some _=>ow j:Ow)=ow1 at *
  refine(bQ hE ow1 (n:=n) (by omega)).mono ?_
  rintro _ s' ⟨ow',x',rfl,g1,g4⟩
  have hfr:=Jf n
  obtain⟨l1,l2⟩:=hfr.liveD (by omega) (hJ _ hfr.rest.2.2.2.2.2.2.1 hfr.rest.2.2.2.2.2.2.2.2.2 hfr.rest.2.2.2.2.1)
  have hB:∀j,B j→¬ Bb s.next (ow1 j):=fun j hj q=>by
    have q:(ow1 j).1=s.next:=q
    rw[(h2' j hj).2]at q
    exact absurd q (by show s.next+1≠s.next;omega)
  have hnx:=g4.next
  refine⟨_,rfl,hV _ (qI _),⟨ow',fun q w hq=>?_,fun j hj=>?_⟩,⟨hnx,fun j hj=>g4.heap j (h2' j hj).1 (hB j hj)⟩,.inl ⟨0,qI _,l1,l2⟩⟩
  · by_cases e : q = s.next
    · rw[e,BO]at hq
      injection hq with hq
      rw[← hq,e]
      exact⟨x',g1⟩
    · rw[Fm e]at hq
      obtain⟨x,hx⟩:=h1' q w hq
      exact⟨x,hx.keep g4 fun t ht e'=>by rw[show t.1=s.next from ht]at e';exact e e'.symm⟩
  · obtain⟨r1,r2⟩:=h2' j hj
    refine⟨by omega,?_⟩
    rw[g4.tags j r1 (hB j hj),r2,Fm (by show s.next+1≠s.next;omega)]
    exact hV _ (by omega)
def Gj:List (List Int)→List Int→List (List Int)
 | [],_=>[]
 | M::T,L=>if M.isPerm L=true then T else M::Gj T L
def Gf(T:List (List Int))(x:Bool×List Int):List (List Int):=if x.1=true then Gj T x.2 else T++[x.2]
def Bf(T:Ba):List (List Int):=T.foldl Gf []
theorem Fh(T:Ba)(x:Bool×List Int):Bf (T++[x])=Gf (Bf T) x:=by
 unfold Bf
 rw[List.foldl_append]
 rfl
theorem Om{A B:List Int}(h:A.Perm B)(L:List Int):A.isPerm L=B.isPerm L:=by
 cases hb:B.isPerm L with
 | true =>
  rw[List.isPerm_iff]at hb ⊢
  exact h.trans hb
 | false =>
  cases ha:A.isPerm L with
  | false=>rfl
  | true =>
   rw[List.isPerm_iff]at ha
   have:B.isPerm L=true:=List.isPerm_iff.2 (h.symm.trans ha)
   rw[this]at hb;cases hb
theorem MW{K L:List Int}(h:¬ K.Perm L):∀T:List (List Int),(Gj T K).countP (fun M=>M.isPerm L)=T.countP fun M=>M.isPerm L
 | []=>rfl
 | M::T=>by
  unfold Gj
  split
  ·rename_i hm
   have hM:¬ M.isPerm L=true:=fun q=>h ((List.isPerm_iff.1 hm).symm.trans (List.isPerm_iff.1 q))
   rw[qy,if_neg hM];rfl
  ·rw[qy,qy,MW h T]
theorem QV(K L:List Int):∀T:List (List Int),T.countP (fun M=>M.isPerm L)≤(Gj T K).countP (fun M=>M.isPerm L)+1
 | []=>qO _
 | M::T=>by
  unfold Gj
  split
  ·rw[qy]
   split<;>omega
  ·rw[qy,qy]
   have:=QV K L T
   omega
theorem QW{K:List Int}:∀ {T:List (List Int)}{M:List Int},M∈Gj T K→M∈T
  | [],M,h=>by cases h
  | N::T,M,h=>by
    unfold Gj at h
    split at h
    · exact qS _ h
    · rcases qp.1            h with e | e
      · rw[e];exact qR
      · exact qS _ (QW e)
def Cz(cl:Nat→Option A6)(L:List Int)(c:Nat):Bool:=match cl c with
 | some l=>l.1.isPerm L
 | none=>false
theorem Tb{a b:Nat→Option A6}(h:Bx a b)(L:List Int):Cz b L=Cz a L:=by
 funext c
 unfold Cz
 cases hc:a c with
 | none=>rw[(h c).1 hc]
 | some l =>
  obtain⟨ls,t⟩:=l
  obtain⟨ls',q1,q2⟩:=(h c).2 ls t hc
  rw[q1]
  exact Om q2 L
structure JD(n:Nat)(F:List (List Int))(v:Sv):Prop where
 tr:∀x∈v.trace,(∀y∈x.2,VL n y)∧x.2.length≤n
 own:∀c ls,BE v.cl c=some (ls,false,false)→∃M∈F,∀x,x∈ls↔x∈M
 lns:∃Ls:List Nat,Ls.Nodup∧(∀c,c∈Ls↔∃ls,BE v.cl c=some (ls,true,false))∧∀L,Ls.countP (Cz (BE v.cl) L)≤(Bf v.trace).countP fun M=>M.isPerm L
 rup:∀k L,v.trace[k]? = some (false,L)→Ht (F++Bf (v.trace.take k)) L
 fin:v.broken=true→∃T,v.trace=T++[(false,[])]
theorem JD.sets{n:Nat}{F:List (List Int)}{v:Sv}(h:JD n F v):∀c ls b,(hide v).cl c=some (ls,b)→∃M∈F++Bf v.trace,∀x,x∈ls↔x∈M:=fun c ls b hc=>by
 have hc:BE v.cl c=some (ls,b):=hc
 obtain⟨_,hb⟩:=E7 hc
 obtain⟨b1,b2⟩:=b
 have hb:b2=false:=hb
 subst hb
 cases b1 with
 | false =>
  obtain⟨M,m1,m2⟩:=h.own c ls hc
  exact⟨M,qW _ m1,m2⟩
 | true =>
  obtain⟨Ls,l1,l2,l3⟩:=h.lns
  have hin:=(l2 c).2 ⟨ls,hc⟩
  have hp:0<Ls.countP (Cz (BE v.cl) ls):=List.countP_pos_iff.2 ⟨c,hin,by
   unfold Cz
   rw[hc]
   exact List.isPerm_iff.2 (List.Perm.refl _)⟩
  have:=l3 ls
  obtain⟨M,m1,m2⟩:=List.countP_pos_iff.1 (show 0<(Bf v.trace).countP fun M=>M.isPerm ls by omega)
  have m2:=List.isPerm_iff.1 m2
  exact⟨M,ql _ m1,fun x=>m2.mem_iff.symm⟩
theorem JD.same{n:Nat}{F:List (List Int)}{v v':Sv}(h:JD n F v)(hc:Bx (BE v.cl) (BE v'.cl))(ht:v'.trace=v.trace)(hb:v'.broken=v.broken):JD n F v':=by
  obtain⟨Ls,l1,l2,l3⟩:=h.lns
  refine⟨by rw[ht];exact h.tr,fun c ls q=>?_,⟨Ls,l1,fun c=>?_,fun L=>by rw[ht,Tb hc];exact l3 L⟩,by rw[ht];exact h.rup,by rw[ht,hb];exact h.fin⟩
  · obtain ⟨ls', q1, q2⟩ := hc.back q
    obtain⟨M,m1,m2⟩:=h.own c ls' q1
    exact⟨M,m1,fun x=>(q2.mem_iff).trans (m2 x)⟩
  · rw[l2 c]
    constructor
    · rintro⟨ls,q⟩
      obtain⟨ls',q1,_⟩:=(hc c).2 ls _ q
      exact⟨ls',q1⟩
    · rintro⟨ls,q⟩
      obtain⟨ls',q1,_⟩:=hc.back q
      exact⟨ls',q1⟩
theorem J1{F:List (List Int)}{T:Ba}{x:Bool×List Int}(h:∀k M,T[k]? = some (false,M)→Ht (F++Bf (T.take k)) M)(hL:x.1=false→Ht (F++Bf T) x.2):
    ∀k M,(T++[x])[k]? = some (false,M)→Ht (F++Bf ((T++[x]).take k)) M:=fun k M hk=>by
  rcases qN k T.length with q | q
  · rw [qX                        q] at hk
    rw[qm (by omega)]
    exact h k M hk
  · rw[qY q]at hk
    have hk0:k - T.length=0:=by
      have:=Ag hk
      simp at this
      omega
    rw[hk0]at hk
    simp only[List.getElem?_cons_zero]at hk
    injection hk with hk
    subst hk
    rw[show k=T.length by omega,qm (qI _),qr]
    exact hL rfl
theorem Mm{n:Nat}{T:Ba}(h:∀x∈T,(∀y∈x.2,VL n y)∧x.2.length≤n){z:Bool×List Int}(hz:(∀y∈z.2,VL n y)∧z.2.length≤n):∀x∈T++[z],(∀y∈x.2,VL n y)∧x.2.length≤n:=fun x hx=>by
 rcases List.mem_append.1 hx with q | q
 ·exact h x q
 ·rw[List.mem_singleton.1 q];exact hz
theorem TL(T:List (List Int))(K L:List Int):T.countP (fun M=>M.isPerm L)≤(T++[K]).countP fun M=>M.isPerm L:=by
 rw[sB]
 omega
theorem JD.failed{n:Nat}{F:List (List Int)}{v:Sv}(h:JD n F v)(hL:v.broken=false→Ht (F++Bf v.trace) []):JD n F (C3 v):=by
 cases hb:v.broken with
 | true =>
  have hf:C3 v=v:=by unfold C3;rw[if_pos hb]
  rw[hf];exact h
 | false =>
  rw[FN hb]
  obtain⟨Ls,l1,l2,l3⟩:=h.lns
  refine⟨Mm h.tr ⟨fun y hy=>(by cases hy),qO _⟩,h.own,⟨Ls,l1,l2,fun L=>?_⟩,J1 h.rup fun _=>hL hb,fun _=>⟨v.trace,rfl⟩⟩
  show _≤(Bf (v.trace++[(false,[])])).countP _
  rw[Fh]
  exact qV (l3 L) (TL _ [] L)
theorem RC       (n : Nat) (F : List (List Int)) : Hs     n F (JD n F) := by
  refine⟨fun h=>h.same,fun {v hh d l} h hct hci hlim hf hl=>?_,fun {v hh d l r cn} h hbr hct hci hlim hf hl hr hL hcn=>?_,fun {v c ls} h hb hc hok hlen=>?_⟩
  · refine h.failed fun _=>?_
    apply Classical.byContradiction
    intro hno
    have hP:=JZ h.sets hno
    obtain⟨ls,b,hc,h2,hfalse,hmem⟩:=hf
    obtain⟨y,hy,hyP⟩:=(hP d ls b hc).1
    obtain⟨j,hj⟩:=CS.1 (hfalse y hy)
    refine hyP (hct.zeroP hP j (-y) hj ?_)
    have:=hct.lev j _ hj
    unfold lv
    rw[this]
    have hl':(hide v).limits=[]:=hlim
    rw[hl'];rfl
  · have hlist := hL.list hct
    have eL:AT (hide v) r=AT v r:=rfl
    rw[eL]at hlist
    have hup:Ht (F++Bf v.trace) (AT v r):=by
      apply Classical.byContradiction
      intro hno
      have hP:=JZ h.sets hno
      rcases Oo hct hlim hf hl hP hr with q | ⟨q,q1,q2⟩
      · exact q (.ass ((hlist.mem _).2 (.inl rfl)))
      · exact q2 (.ass ((hlist.mem _).2 (.inr q1)))
    obtain⟨Ls,l1,l2,l3⟩:=h.lns
    have hcl:BE (AP v.cl cn (AT v r,true,false))=AP (BE v.cl) cn (AT v r,true,false):=Jh cn _ rfl
    have hcnL:cn ∉ Ls:=fun q=>by
      obtain⟨ls,z⟩:=(l2 cn).1 q
      rw[Dl hcn]at z;cases z
    refine⟨Mm h.tr ⟨hlist.ok.1,OW hlist.ok hlist.nd⟩,fun c ls q=>?_,⟨cn::Ls,rf.2 ⟨hcnL,l1⟩,fun c=>?_,fun L=>?_⟩,J1 h.rup fun _=>hup,fun q=>?_⟩
    · have q:BE (AP v.cl cn (AT v r,true,false)) c=some (ls,false,false):=q
      rw[hcl]at q
      rcases Bj q with⟨_,_,q3⟩ | ⟨_,q2⟩
      · injection q3 with q3;cases q3
      · exact h.own c ls q2
    · show c∈cn::Ls↔∃ls,BE (AP v.cl cn (AT v r,true,false)) c=some (ls,true,false)
      rw[hcl,qp,l2 c]
      unfold AP
      by_cases e:c=cn
      · rw[if_pos e]
        exact⟨fun _=>⟨_,rfl⟩,fun _=>.inl e⟩
      · rw[if_neg e]
        exact⟨fun q=>q.resolve_left e,fun q=>.inr q⟩
    · show(cn::Ls).countP (Cz (BE (AP v.cl cn (AT v r,true,false))) L)≤(Bf (v.trace++[(false,AT v r)])).countP _
      rw[Fh]
      show _≤(Bf v.trace++[AT v r]).countP _
      rw[hcl,sB,qy]
      have e1:Ls.countP (Cz (AP (BE v.cl) cn (AT v r,true,false)) L)=Ls.countP (Cz (BE v.cl) L):=by
        refine List.countP_congr fun c hc=>?_
        have e:c≠cn:=fun e=>hcnL (e▸hc)
        unfold Cz AP
        rw[if_neg e]
      have e2:Cz (AP (BE v.cl) cn (AT v r,true,false)) L cn=(AT v r).isPerm L:=by
        unfold Cz
        rw[Ao]
      have:=l3 L
      rw[e1,e2,qy,List.countP_nil]
      omega
    · have q:v.broken=true:=q
      rw[hbr]at q;cases q
  · obtain⟨Ls,l1,l2,l3⟩:=h.lns
    have hcL:c∈Ls:=(l2 c).2 ⟨ls,Cq hc rfl⟩
    refine⟨Mm h.tr ⟨hok.1,hlen⟩,fun d ms q=>?_,⟨Ls.erase c,l1.erase c,fun d=>?_,fun L=>?_⟩,J1 h.rup fun q=>(by cases q),fun q=>by rw[hb]at q;cases q⟩
    · have q:BE (AP v.cl c (ls,true,true)) d=some (ms,false,false):=q
      rw[HV]at q
      split at q
      · cases q
      · exact h.own d ms q
    · show d∈Ls.erase c↔∃ms,BE (AP v.cl c (ls,true,true)) d=some (ms,true,false)
      rw[HV,l1.mem_erase_iff,l2 d]
      by_cases e:d=c
      · rw[if_pos e]
        exact⟨fun q=>absurd e q.1,fun⟨_,q⟩=>by cases q⟩
      · rw[if_neg e]
        exact⟨fun q=>q.2,fun q=>⟨e,q⟩⟩
    · show(Ls.erase c).countP (Cz (BE (AP v.cl c (ls,true,true))) L)≤(Bf (v.trace++[(true,ls)])).countP _
      rw[Fh]
      show _≤(Gj (Bf v.trace) ls).countP _
      have e1:(Ls.erase c).countP (Cz (BE (AP v.cl c (ls,true,true))) L)=(Ls.erase c).countP (Cz (BE v.cl) L):=by
        refine List.countP_congr fun d hd=>?_
        have e:d≠c:=(l1.mem_erase_iff.1 hd).1
        unfold Cz
        rw[HV,if_neg e]
      have e2:Ls.countP (Cz (BE v.cl) L)=(c::Ls.erase c).countP (Cz (BE v.cl) L):=(List.perm_cons_erase hcL).countP_eq _
      have e3:Cz (BE v.cl) L c=ls.isPerm L:=by
        unfold Cz
        rw[Cq hc rfl]
      rw[qy,e3]at e2
      have:=l3 L
      rw[e1]
      by_cases hp:ls.Perm L
      · have hp':ls.isPerm L=true:=List.isPerm_iff.2 hp
        rw[if_pos hp']at e2
        have:=QV ls L (Bf v.trace)
        omega
      · have hp':¬ ls.isPerm L=true:=fun q=>hp (List.isPerm_iff.1 q)
        rw[if_neg hp']at e2
        rw[MW hp]
        omega
theorem JD.more{n:Nat}{F:List (List Int)}{v:Sv}(h:JD n F v)(f:List Int):JD n (F++[f]) v:=by
 have sub:∀T:List (List Int),FI (F++T) (F++[f]++T):=fun T=>FI.app (fun L hL=>⟨L,qW _ hL,fun _=>Iff.rfl⟩) (FI.refl T)
 refine⟨h.tr,fun c ls q=>?_,h.lns,fun k L hk=>(h.rup k L hk).mono (sub _) (fun _ q=>q),h.fin⟩
 obtain⟨M,m1,m2⟩:=h.own c ls q
 exact⟨M,qW _ m1,m2⟩
theorem JC.jd   {n A M : Nat} {F : List (List Int)} {v v' : Sv} {f : List Int} (hr : JC   v f v') (hI : NA  n A F M (JD n F) v) (hbd : fH  n A M) (hf : ∀ q ∈ f, VL n q) : JD n (F ++ [f]) v' := by
  have h:JD n F v:=(hI.inv hbd).2.2.2.2
  obtain⟨ho1,ho2⟩:=Jt f
  cases hr with
  | none _=>exact h.more f
  | nil ht hb he =>
    have hfe:f=[]:=by
      cases f with
      | nil=>rfl
      | cons x l=>have:=(ho2 x).2 (qR ..);rw[he]at this;cases this
    subst hfe
    refine(h.more []).failed fun _=>.inr ⟨[],qW _ (ql _ (List.mem_singleton.2 rfl)),fun y hy=>by cases hy⟩
  | @put c ht hb he hc =>
    have hp:(Bs v f).Perm (Ef f):=H7 _ _
    have hm:∀z,z∈Bs v f↔z∈f:=fun z=>by rw[hp.mem_iff];exact ho2 z
    have hdesc:(Bs v f).Pairwise fun a b=>isV v.value b≤isV v.value a:=Mc (isV v.value) (Ef f)
    generalize hO:Bs v f=O at *
    have hcl:BE (AP v.cl c (O,false,false))=AP (BE v.cl) c (O,false,false):=Jh c O rfl
    have hput:JD n (F++[f]) (Fa v c O):=by
      have h0:=h.more f
      obtain⟨ws,e,_⟩:=O3 v c O
      rw[e]
      obtain⟨Ls,l1,l2,l3⟩:=h0.lns
      have hcL:c ∉ Ls:=fun q=>by
        obtain⟨ls,z⟩:=(l2 c).1 q
        rw[Dl hc]at z;cases z
      refine⟨h0.tr,fun d ls q=>?_,⟨Ls,l1,fun d=>?_,fun L=>?_⟩,h0.rup,h0.fin⟩
      · have q:BE (AP v.cl c (O,false,false)) d=some (ls,false,false):=q
        rw[hcl]at q
        rcases Bj q with⟨_,q2,_⟩ | ⟨_,q2⟩
        · exact⟨f,ql _ (List.mem_singleton.2 rfl),fun x=>by rw[q2];exact hm x⟩
        · exact h0.own d ls q2
      · show d∈Ls↔∃ls,BE (AP v.cl c (O,false,false)) d=some (ls,true,false)
        rw[hcl,l2 d]
        unfold AP
        by_cases e:d=c
        · rw[if_pos e,e,Dl hc]
          exact⟨fun⟨_,q⟩=>(by cases q),fun⟨_,q⟩=>by cases q⟩
        · rw[if_neg e]
      · show Ls.countP (Cz (BE (AP v.cl c (O,false,false))) L)≤_
        rw[hcl]
        have e1:Ls.countP (Cz (AP (BE v.cl) c (O,false,false)) L)=Ls.countP (Cz (BE v.cl) L):=by
          refine List.countP_congr fun d hd=>?_
          have e:d≠c:=fun e=>hcL (e▸hd)
          unfold Cz AP
          rw[if_neg e]
        rw[e1]
        exact l3 L
    unfold JI
    split
    · rename_i hneg
      refine hput.failed fun _=>?_
      rcases hI with⟨K,_,g1,g2⟩ | g
      · have k := g1.ci
        have hi:=k.ct.inv
        have hl0:∀ {x:Int},x∈v.trail→lv (hide v) x=0:=fun {x} hx=>by
          obtain⟨i,e⟩:=CS.1 hx
          have e:(hide v).trail[i]? = some x:=e
          have:=k.ct.lev i x e
          have e2:(hide v).limits=[]:=g2
          unfold lv
          rw[this,e2];rfl
        apply Classical.byContradiction
        intro hno
        have hP:=JZ hput.sets hno
        have ecl:(hide (Fa v c O)).cl=AP (BE v.cl) c (O,false,false):=by
          obtain⟨ws,e,_⟩:=O3 v c O
          rw[e]
          exact hcl
        rw[ecl]at hP
        have hP0:IG (hide v).cl (UP (F++[f]++Bf (Fa v c O).trace) []):=fun d ls b hd=>hP d ls b (by
          have hd:BE v.cl d=some (ls,b):=hd
          unfold AP
          rw[if_neg fun e=>by rw[e,Dl hc]at hd;cases hd]
          exact hd)
        obtain⟨y,hy,hyP⟩:=(hP c O (false,false) (Ao _ _ _)).1
        have hfirst:isV v.value y≤isV v.value (O.getD 0 0):=by
          cases hOc:O with
          | nil=>rw[hOc]at hy;cases hy
          | cons x l =>
            rw[hOc]at hdesc hy
            rcases qp.1 hy with e | e
            · rw[e];exact rE _
            · exact(sD.1 hdesc).1 y e
        have hy0:=(hf y ((hm y).1 hy)).1
        have hny:-y∈(hide v).trail:=(hi.neg hy0).1 (by show isV v.value y<0;omega)
        obtain⟨i,e⟩:=CS.1 hny
        exact hyP (k.ct.zeroP hP0 i (-y) e (hl0 hny))
      · rw[g.brk]at hb;cases hb
    · split
      · exact hput.same (Bx.refl _) rfl rfl
      · exact hput
end
end Go.Proofs.Ytilhhmkdcoajnaa.Am
set_option linter.unusedVariables false
set_option linter.unusedSimpArgs false
namespace Go.Proofs.Ytilhhmkdcoajnaa.Am
open Go Go.Proofs
noncomputable section
def fQ:List AA:=[
 ⟨none,.p1 some,[(.const (.bool false))],(.set 3),[]⟩]
def fR:List AA:=[
 ⟨none,.call 37,[],.push,[]⟩,
 ⟨none,.p1 (GZ Try.prog Go.UnOp.not),[.loc 0],(.set 11),[]⟩]
def nZ:List AA:=[
 ⟨none,.p1 some,[(.const (.bool false))],(.set 3),[]⟩]
def fS:List AA:=[
 ⟨none,.p2 (AL Try.prog .rem 5),[(.var 0),(.const (.int .u8 (10)))],.push,[]⟩,
 ⟨none,.r1 (fun s x=>CN Try.prog s 5 3 x),[.loc 0],.push,[]⟩,
 ⟨none,.p2 (AL Try.prog .add 3),[(.const (.int .i64 (1))),(.loc 0)],.push,[]⟩,
 ⟨none,.p1 some,[.loc 0],(.set 4),[]⟩]
def fT:List AA:=[
 ⟨none,.call 31,[(.var 4),(.var 1),(.const (.int .i64 (100)))],.push,[]⟩,
 ⟨none,.p1 some,[.loc 0],(.set 5),[]⟩]
def fU:List AA:=[
 ⟨none,.call 32,[(.var 4),(.const (.slice none 0 (some 0)))],.push,[]⟩,
 ⟨none,.p1 some,[.loc 0],(.set 6),[]⟩]
def fV:List AA:=[
 ⟨none,.p2 (AL Try.prog .eql 44),[(.var 6),(.const (.ptr none))],(.set 12),[]⟩]
def nf:List AA:=[
 ⟨none,.p1 some,[(.const (.bool false))],(.set 3),[]⟩]
def fW:List AA:=[
 ⟨none,.p1 some,[(.const (.int .i64 (2)))],(.set 7),[]⟩]
def fX:List AA:=[
 ⟨none,.p1 some,[(.const (.int .i64 (0)))],(.set 8),[]⟩]
def SC:List AA:=[
 ⟨none,.r (fun s l=>match l with | [x]=>Aq Try.prog s 22 x | _=>none),[.var 5],.push,[]⟩,
 ⟨none,.p2 (AL Try.prog .lss 3),[.var 8,.loc 0],(.set 13),[]⟩]
def Xp:List AA:=[
 ⟨none,.p2 (AC Try.prog 22),[.var 5,.var 8],.push,[]⟩,
 ⟨none,.r1 (fun s a=>AD Try.prog s 23 a),[.loc 0],.push,[]⟩,
 ⟨none,.call 36,[.var 6,.loc 0],.push,[]⟩,
 ⟨none,.p2 (AL Try.prog .neq 49),[(.loc 0),(.const (.int .i64 (0)))],(.set 14),[]⟩]
def kp:List AA:=[
 ⟨none,.p1 some,[(.const (.bool false))],(.set 3),[]⟩]
def OH:List AA:=[
 ⟨none,.r (fun s l=>match l with | [x]=>Aq Try.prog s 42 x | _=>none),[.var 2],.push,[]⟩,
 ⟨none,.p2 (AL Try.prog .gtr 3),[(.loc 0),(.const (.int .i64 (0)))],.push,[]⟩,
 ⟨(some ((.loc 0),true)),.p1 some,[.var 2],.push,[]⟩,
 ⟨(some ((.loc 1),true)),.p1 some,[.var 8],.push,[]⟩,
 ⟨(some ((.loc 2),true)),.p1 some,[.var 2],.push,[]⟩,
 ⟨(some ((.loc 3),true)),.r (fun s l=>match l with | [x]=>Aq Try.prog s 42 x | _=>none),[.loc 0],.push,[]⟩,
 ⟨(some ((.loc 4),true)),.p2 (AL Try.prog .rem 3),[.loc 2,.loc 0],.push,[]⟩,
 ⟨(some ((.loc 5),true)),.p2 (AC Try.prog 42),[.loc 4,.loc 0],.push,[]⟩,
 ⟨(some ((.loc 6),true)),.r1 (fun s a=>AD Try.prog s 5 a),[.loc 0],.push,[]⟩,
 ⟨(some ((.loc 7),true)),.p2 (AL Try.prog .rem 5),[(.loc 0),(.const (.int .u8 (4)))],.push,[]⟩,
 ⟨(some ((.loc 8),true)),.p2 (AL Try.prog .eql 5),[(.loc 0),(.const (.int .u8 (0)))],.push,[]⟩,
 ⟨none,.p Rn,[(.loc 9),(.loc 0),(.const (.bool false))],(.set 15),[]⟩]
def Xq:List AA:=[
 ⟨none,.r (fun s l=>match l with | [x]=>Aq Try.prog s 42 x | _=>none),[.var 2],.push,[]⟩,
 ⟨none,.p2 (AL Try.prog .rem 3),[.var 8,.loc 0],.push,[]⟩,
 ⟨none,.p2 (AC Try.prog 42),[.var 2,.loc 0],.push,[]⟩,
 ⟨none,.r1 (fun s a=>AD Try.prog s 5 a),[.loc 0],.push,[]⟩,
 ⟨none,.r1 (fun s x=>CN Try.prog s 5 3 x),[.loc 0],.push,[]⟩,
 ⟨none,.p2 (AL Try.prog .quo 3),[(.loc 0),(.const (.int .i64 (4)))],.push,[]⟩,
 ⟨none,.call 34,[.var 6,.loc 0],.push,[]⟩,
 ⟨none,.p1 some,[.loc 0],(.set 7),[]⟩]
def OI:List AA:=[
 ⟨none,.p1 some,[.var 8],.push,[]⟩,
 ⟨none,.p2 (AL Try.prog .add 3),[(.loc 0),(.const (.int .i64 (1)))],.push,[]⟩,
 ⟨none,.p1 some,[.loc 0],(.set 8),[]⟩]
def LA:Ac:=(.seq (.seq (.ops SC) (.cond (.var 13)
 .skip
 (.exit 0))) (.seq (.block 1 (.seq (.seq (.ops Xp) (.cond (.var 14)
 (.seq (.ops kp) .ret)
 .skip)) (.seq (.ops OH) (.cond (.var 15)
 (.ops Xq)
 .skip)))) (.ops OI)))
def Xr:List AA:=[
 ⟨none,.call 34,[(.var 6),(.const (.int .i64 (300)))],.push,[]⟩,
 ⟨none,.p1 some,[.loc 0],(.set 7),[]⟩]
def Xs:List AA:=[
 ⟨none,.call 43,[.var 6],.push,[]⟩,
 ⟨none,.p1 some,[.loc 0],(.set 9),[]⟩]
def Xt:List AA:=[
 ⟨none,.call 44,[.var 4,.var 5,.var 9],.push,[]⟩,
 ⟨none,.p1 (GZ Try.prog Go.UnOp.not),[.loc 0],(.set 16),[]⟩]
def kq:List AA:=[
 ⟨none,.p1 some,[(.const (.bool false))],(.set 3),[]⟩]
def Xu:List AA:=[
 ⟨none,.p2 (AL Try.prog .neq 3),[(.var 7),(.const (.int .i64 (0)))],(.set 17),[]⟩]
def Xv:List AA:=[
 ⟨none,.p1 some,[(.const (.bool true))],(.set 3),[]⟩]
def Xw:List AA:=[
 ⟨none,.r (fun s l=>match l with | [x]=>Aq Try.prog s 33 x | _=>none),[.var 9],.push,[]⟩,
 ⟨none,.p2 (AL Try.prog .sub 3),[(.loc 0),(.const (.int .i64 (1)))],.push,[]⟩,
 ⟨none,.p1 some,[.loc 0],(.set 10),[]⟩]
def Xx:List AA:=[
 ⟨none,.p2 (AL Try.prog .geq 3),[(.var 10),(.const (.int .i64 (0)))],(.set 18),[]⟩]
def Xy:List AA:=[
 ⟨none,.p2 (AC Try.prog 33),[.var 9,.var 10],.push,[]⟩,
 ⟨none,.p1 (fun x=>AB Try.prog 27 x 0),[.loc 0],.push,[]⟩,
 ⟨none,.r1 (fun s a=>AD Try.prog s 4 a),[.loc 0],.push,[]⟩,
 ⟨none,.p1 (GZ Try.prog Go.UnOp.not),[.loc 0],(.set 19),[]⟩]
def Xz:List AA:=[
 ⟨none,.p2 (AC Try.prog 33),[.var 9,.var 10],.push,[]⟩,
 ⟨none,.p1 (fun x=>AB Try.prog 27 x 1),[.loc 0],.push,[]⟩,
 ⟨none,.r1 (fun s a=>AD Try.prog s 23 a),[.loc 0],.push,[]⟩,
 ⟨none,.r (fun s l=>match l with | [x]=>Aq Try.prog s 23 x | _=>none),[.loc 0],.push,[]⟩,
 ⟨none,.p2 (AL Try.prog .eql 3),[(.loc 0),(.const (.int .i64 (0)))],.push,[]⟩,
 ⟨none,.p1 some,[.loc 0],(.set 3),[]⟩]
def kr:List AA:=[
 ⟨none,.p1 some,[.var 10],.push,[]⟩,
 ⟨none,.p2 (AL Try.prog .sub 3),[(.loc 0),(.const (.int .i64 (1)))],.push,[]⟩,
 ⟨none,.p1 some,[.loc 0],(.set 10),[]⟩]
def Xo:Ac:=(.seq (.seq (.ops Xx) (.cond (.var 18)
 .skip
 (.exit 2))) (.seq (.block 3 (.seq (.ops Xy) (.cond (.var 19)
 (.seq (.ops Xz) .ret)
 .skip))) (.ops kr)))
def ks:List AA:=[
 ⟨none,.p1 some,[(.const (.bool false))],(.set 3),[]⟩]
def pU:Aw:=⟨3,20,(.seq (.ops fQ) (.seq (.seq (.ops fR) (.cond (.var 11)
 (.seq (.ops nZ) .ret)
 .skip)) (.seq (.ops fS) (.seq (.ops fT) (.seq (.ops fU) (.seq (.seq (.ops fV) (.cond (.var 12)
 (.seq (.ops nf) .ret)
 .skip)) (.seq (.ops fW) (.seq (.seq (.ops fX) (.block 0 (.loop LA))) (.seq (.ops Xr) (.seq (.ops Xs) (.seq (.seq (.ops Xt) (.cond (.var 16)
 (.seq (.ops kq) .ret)
 .skip)) (.seq (.seq (.ops Xu) (.cond (.var 17)
 (.seq (.ops Xv) .ret)
 .skip)) (.seq (.seq (.ops Xw) (.block 2 (.loop Xo))) (.seq (.ops ks) .ret)))))))))))))),[((.var 3),none)]⟩
def gU:List AA:=[
 ⟨none,.p1 some,[(.const (.bool false))],(.set 3),[]⟩]
def gV:List AA:=[
 ⟨none,.mk (fun l=>(Ae Try.prog 22 0 (zipIdx [] l)).bind fun r=>some (r,.slice 0)),[],.push,[]⟩,
 ⟨none,.e (fun s l=>Af Try.prog s [22,22] l),[.loc 0,.var 1],.push,[]⟩,
 ⟨none,.p1 some,[.loc 0],(.set 4),[]⟩]
def gW:List AA:=[
 ⟨none,.r (fun s l=>match l with | [x]=>Aq Try.prog s 22 x | _=>none),[.var 1],.push,[]⟩,
 ⟨none,.p1 some,[.loc 0],(.set 5),[]⟩]
def gX:List AA:=[
 ⟨none,.p1 some,[(.const (.int .i64 (0)))],(.set 6),[]⟩]
def UU:List AA:=[
 ⟨none,.r (fun s l=>match l with | [x]=>Aq Try.prog s 33 x | _=>none),[.var 2],.push,[]⟩,
 ⟨none,.p2 (AL Try.prog .lss 3),[.var 6,.loc 0],(.set 9),[]⟩]
def Yp:List AA:=[
 ⟨none,.p2 (AC Try.prog 33),[.var 2,.var 6],.push,[]⟩,
 ⟨none,.r1 (fun s a=>AD Try.prog s 27 a),[.loc 0],.push,[]⟩,
 ⟨none,.mk (fun l=>match l with | []=>Bi Try.prog 27 | _=>none),[],(.set 7),[]⟩,
 ⟨none,.e (fun s=>BV (fun a x=>AU (AM Try.prog s 27 a x))),[.var 7,.loc 0],.push,[]⟩]
def Yq:List AA:=[
 ⟨none,.p1 (fun x=>AB Try.prog 27 x 0),[.var 7],.push,[]⟩,
 ⟨none,.r1 (fun s a=>AD Try.prog s 4 a),[.loc 0],(.set 10),[]⟩]
def gY:List AA:=[
 ⟨none,.p1 some,[.var 5],(.set 8),[]⟩]
def Yr:List AA:=[
 ⟨none,.r (fun s l=>match l with | [x]=>Aq Try.prog s 22 x | _=>none),[.var 4],.push,[]⟩,
 ⟨none,.p2 (AL Try.prog .lss 3),[.var 8,.loc 0],(.set 11),[]⟩]
def gZ:List AA:=[
 ⟨none,.p2 (AC Try.prog 22),[.var 4,.var 8],.push,[]⟩,
 ⟨none,.r1 (fun s a=>AD Try.prog s 23 a),[.loc 0],.push,[]⟩,
 ⟨none,.p1 (fun x=>AB Try.prog 27 x 1),[.var 7],.push,[]⟩,
 ⟨none,.r1 (fun s a=>AD Try.prog s 23 a),[.loc 0],.push,[]⟩,
 ⟨none,.call 80,[.loc 2,.loc 0],(.set 12),[]⟩]
def Sk:List AA:=[
 ⟨none,.mk (fun l=>(Ae Try.prog 22 0 (zipIdx [] l)).bind fun r=>some (r,.slice 0)),[],.push,[]⟩,
 ⟨none,.p1 some,[.var 4],.push,[]⟩,
 ⟨none,.r (Ad Try.prog 22 false true false),[.loc 0,.var 8],.push,[]⟩,
 ⟨none,.p1 some,[.var 4],.push,[]⟩,
 ⟨none,.p2 (AL Try.prog .add 3),[(.var 8),(.const (.int .i64 (1)))],.push,[]⟩,
 ⟨none,.r (Ad Try.prog 22 true false false),[.loc 1,.loc 0],.push,[]⟩,
 ⟨none,.e (fun s l=>Af Try.prog s [22,22] l),[.loc 5,.loc 3],.push,[⟨none,.r (Ad Try.prog 22 true false false),[.loc 3,.loc 2],(.loc 1)⟩]⟩,
 ⟨none,.e (fun s l=>Af Try.prog s [22,22] l),[.loc 0,.loc 1],.push,[]⟩,
 ⟨none,.p1 some,[.loc 0],(.set 4),[]⟩]
def Yl:List AA:=[
 ⟨none,.p1 some,[.var 8],.push,[]⟩,
 ⟨none,.p2 (AL Try.prog .add 3),[(.loc 0),(.const (.int .i64 (1)))],.push,[]⟩,
 ⟨none,.p1 some,[.loc 0],(.set 8),[]⟩]
def LJ:Ac:=(.seq (.seq (.ops Yr) (.cond (.var 11)
 .skip
 (.exit 2))) (.seq (.block 3 (.seq (.ops gZ) (.cond (.var 12)
 (.seq (.ops Sk) (.exit 2))
 .skip))) (.ops Yl)))
def Ym:List AA:=[
 ⟨none,.p1 (fun x=>AB Try.prog 27 x 1),[.var 7],.push,[]⟩,
 ⟨none,.r1 (fun s a=>AD Try.prog s 23 a),[.loc 0],.push,[]⟩,
 ⟨none,.call 81,[.var 0,.var 4,.loc 0],.push,[]⟩,
 ⟨none,.p1 (GZ Try.prog Go.UnOp.not),[.loc 0],(.set 13),[]⟩]
def lD:List AA:=[
 ⟨none,.p1 some,[(.const (.bool false))],(.set 3),[]⟩]
def Yn:List AA:=[
 ⟨none,.p1 some,[.var 4],.push,[]⟩,
 ⟨none,.p1 (fun x=>AB Try.prog 27 x 1),[.var 7],.push,[]⟩,
 ⟨none,.r1 (fun s a=>AD Try.prog s 23 a),[.loc 0],.push,[]⟩,
 ⟨none,.mk (fun l=>(Ae Try.prog 22 1 (zipIdx [0] l)).bind fun r=>some (r,.slice 1)),[.loc 0],.push,[]⟩,
 ⟨none,.e (fun s l=>Af Try.prog s [22,22] l),[.loc 3,.loc 0],.push,[]⟩,
 ⟨none,.p1 some,[.loc 0],(.set 4),[]⟩]
def Sl:List AA:=[
 ⟨none,.p1 some,[.var 6],.push,[]⟩,
 ⟨none,.p2 (AL Try.prog .add 3),[(.loc 0),(.const (.int .i64 (1)))],.push,[]⟩,
 ⟨none,.p1 some,[.loc 0],(.set 6),[]⟩]
def JO:Ac:=(.seq (.seq (.ops UU) (.cond (.var 9)
 .skip
 (.exit 0))) (.seq (.block 1 (.seq (.ops Yp) (.seq (.seq (.ops Yq) (.cond (.var 10)
 (.seq (.seq (.ops gY) (.block 2 (.loop LJ))) (.exit 1))
 .skip)) (.seq (.seq (.ops Ym) (.cond (.var 13)
 (.seq (.ops lD) .ret)
 .skip)) (.ops Yn))))) (.ops Sl)))
def Yo:List AA:=[
 ⟨none,.p1 some,[(.const (.bool true))],(.set 3),[]⟩]
def pc:Aw:=⟨3,14,(.seq (.ops gU) (.seq (.ops gV) (.seq (.ops gW) (.seq (.seq (.ops gX) (.block 0 (.loop JO))) (.seq (.ops Yo) .ret))))),[((.var 3),none)]⟩
def ZZ:List AA:=[
 ⟨none,.p1 some,[(.const (.bool false))],(.set 2),[]⟩]
def Za:List AA:=[
 ⟨none,.r (fun s l=>match l with | [x]=>Aq Try.prog s 23 x | _=>none),[.var 0],.push,[]⟩,
 ⟨none,.r (fun s l=>match l with | [x]=>Aq Try.prog s 23 x | _=>none),[.var 1],.push,[]⟩,
 ⟨none,.p2 (AL Try.prog .neq 3),[.loc 1,.loc 0],(.set 7),[]⟩]
def jK:List AA:=[
 ⟨none,.p1 some,[(.const (.bool false))],(.set 2),[]⟩]
def jL:List AA:=[
 ⟨none,.r (fun s l=>match l with | [x]=>Aq Try.prog s 23 x | _=>none),[.var 1],.push,[]⟩,
 ⟨none,.mk (BV (EN Try.prog 23)),[.loc 0,.loc 0],.push,[]⟩,
 ⟨none,.p1 some,[.loc 0],(.set 3),[]⟩]
def jM:List AA:=[
 ⟨none,.p1 some,[(.const (.int .i64 (0)))],(.set 4),[]⟩]
def Zg:List AA:=[
 ⟨none,.r (fun s l=>match l with | [x]=>Aq Try.prog s 23 x | _=>none),[.var 0],.push,[]⟩,
 ⟨none,.p2 (AL Try.prog .lss 3),[.var 4,.loc 0],(.set 8),[]⟩]
def jN:List AA:=[
 ⟨none,.p1 some,[(.const (.bool false))],(.set 5),[]⟩]
def jO:List AA:=[
 ⟨none,.p1 some,[(.const (.int .i64 (0)))],(.set 6),[]⟩]
def LQ:List AA:=[
 ⟨none,.r (fun s l=>match l with | [x]=>Aq Try.prog s 23 x | _=>none),[.var 1],.push,[]⟩,
 ⟨none,.p2 (AL Try.prog .lss 3),[.var 6,.loc 0],.push,[]⟩,
 ⟨(some ((.loc 0),true)),.p1 some,[.var 5],.push,[]⟩,
 ⟨(some ((.loc 1),true)),.p1 (GZ Try.prog Go.UnOp.not),[.loc 0],.push,[]⟩,
 ⟨none,.p Rn,[(.loc 2),(.loc 0),(.const (.bool false))],(.set 9),[]⟩]
def Ub:List AA:=[
 ⟨none,.p2 (AC Try.prog 23),[.var 3,.var 6],.push,[]⟩,
 ⟨none,.r1 (fun s a=>AD Try.prog s 3 a),[.loc 0],.push,[]⟩,
 ⟨none,.p2 (AL Try.prog .eql 3),[(.loc 0),(.const (.int .i64 (0)))],.push,[]⟩,
 ⟨(some ((.loc 0),true)),.p1 some,[.var 0],.push,[]⟩,
 ⟨(some ((.loc 1),true)),.p1 some,[.var 4],.push,[]⟩,
 ⟨(some ((.loc 2),true)),.p2 (AC Try.prog 23),[.loc 1,.loc 0],.push,[]⟩,
 ⟨(some ((.loc 3),true)),.r1 (fun s a=>AD Try.prog s 3 a),[.loc 0],.push,[]⟩,
 ⟨(some ((.loc 4),true)),.p1 some,[.var 1],.push,[]⟩,
 ⟨(some ((.loc 5),true)),.p1 some,[.var 6],.push,[]⟩,
 ⟨(some ((.loc 6),true)),.p2 (AC Try.prog 23),[.loc 1,.loc 0],.push,[]⟩,
 ⟨(some ((.loc 7),true)),.r1 (fun s a=>AD Try.prog s 3 a),[.loc 0],.push,[]⟩,
 ⟨(some ((.loc 8),true)),.p2 (AL Try.prog .eql 3),[.loc 4,.loc 0],.push,[]⟩,
 ⟨none,.p Rn,[(.loc 9),(.loc 0),(.const (.bool false))],(.set 10),[]⟩]
def Zb:List AA:=[
 ⟨none,.p2 (AC Try.prog 23),[.var 3,.var 6],.push,[]⟩,
 ⟨none,.e (fun s=>BV (fun a x=>AU (AM Try.prog s 3 a x))),[(.loc 0),(.const (.int .i64 (1)))],.push,[]⟩]
def Zc:List AA:=[
 ⟨none,.p1 some,[(.const (.bool true))],(.set 5),[]⟩]
def OP:List AA:=[
 ⟨none,.p1 some,[.var 6],.push,[]⟩,
 ⟨none,.p2 (AL Try.prog .add 3),[(.loc 0),(.const (.int .i64 (1)))],.push,[]⟩,
 ⟨none,.p1 some,[.loc 0],(.set 6),[]⟩]
def Fq:Ac:=(.seq (.seq (.ops LQ) (.cond (.var 9)
 .skip
 (.exit 2))) (.seq (.block 3 (.seq (.ops Ub) (.cond (.var 10)
 (.seq (.ops Zb) (.ops Zc))
 .skip))) (.ops OP)))
def S5:List AA:=[
 ⟨none,.p1 (GZ Try.prog Go.UnOp.not),[.var 5],(.set 11),[]⟩]
def Zd:List AA:=[
 ⟨none,.p1 some,[(.const (.bool false))],(.set 2),[]⟩]
def Ze:List AA:=[
 ⟨none,.p1 some,[.var 4],.push,[]⟩,
 ⟨none,.p2 (AL Try.prog .add 3),[(.loc 0),(.const (.int .i64 (1)))],.push,[]⟩,
 ⟨none,.p1 some,[.loc 0],(.set 4),[]⟩]
def LP:Ac:=(.seq (.seq (.ops Zg) (.cond (.var 8)
 .skip
 (.exit 0))) (.seq (.block 1 (.seq (.ops jN) (.seq (.seq (.ops jO) (.block 2 (.loop Fq))) (.seq (.ops S5) (.cond (.var 11)
 (.seq (.ops Zd) .ret)
 .skip))))) (.ops Ze)))
def Zf:List AA:=[
 ⟨none,.p1 some,[(.const (.bool true))],(.set 2),[]⟩]
def pF:Aw:=⟨2,12,(.seq (.ops ZZ) (.seq (.seq (.ops Za) (.cond (.var 7)
 (.seq (.ops jK) .ret)
 .skip)) (.seq (.ops jL) (.seq (.seq (.ops jM) (.block 0 (.loop LP))) (.seq (.ops Zf) .ret))))),[((.var 2),none)]⟩
def jP:List AA:=[
 ⟨none,.p1 some,[(.const (.bool false))],(.set 3),[]⟩]
def jQ:List AA:=[
 ⟨none,.p2 (AL Try.prog .add 3),[(.var 0),(.const (.int .i64 (1)))],.push,[]⟩,
 ⟨none,.mk (BV (EN Try.prog 23)),[.loc 0,.loc 0],.push,[]⟩,
 ⟨none,.p1 some,[.loc 0],(.set 4),[]⟩]
def jR:List AA:=[
 ⟨none,.p1 some,[(.const (.int .i64 (0)))],(.set 5),[]⟩]
def Zp:List AA:=[
 ⟨none,.r (fun s l=>match l with | [x]=>Aq Try.prog s 23 x | _=>none),[.var 2],.push,[]⟩,
 ⟨none,.p2 (AL Try.prog .lss 3),[.var 5,.loc 0],(.set 12),[]⟩]
def jS:List AA:=[
 ⟨none,.p2 (AC Try.prog 23),[.var 2,.var 5],.push,[]⟩,
 ⟨none,.r1 (fun s a=>AD Try.prog s 3 a),[.loc 0],.push,[]⟩,
 ⟨none,.call 103,[.var 4,.loc 0],.push,[]⟩,
 ⟨none,.p2 (AL Try.prog .gtr 3),[(.loc 0),(.const (.int .i64 (0)))],(.set 13),[]⟩]
def jT:List AA:=[
 ⟨none,.p1 some,[(.const (.bool true))],(.set 3),[]⟩]
def Zt:List AA:=[
 ⟨none,.p2 (AC Try.prog 23),[.var 2,.var 5],.push,[]⟩,
 ⟨none,.r1 (fun s a=>AD Try.prog s 3 a),[.loc 0],.push,[]⟩,
 ⟨none,.p2 (AL Try.prog .gtr 3),[(.loc 0),(.const (.int .i64 (0)))],(.set 14),[]⟩]
def jU:List AA:=[
 ⟨none,.p2 (AC Try.prog 23),[.var 2,.var 5],.push,[]⟩,
 ⟨none,.r1 (fun s a=>AD Try.prog s 3 a),[.loc 0],.push,[]⟩,
 ⟨none,.p2 (AC Try.prog 23),[.var 4,.loc 0],.push,[]⟩,
 ⟨none,.e (fun s=>BV (fun a x=>AU (AM Try.prog s 3 a x))),[(.loc 0),(.const (.int .i64 (-1)))],.push,[]⟩]
def jV:List AA:=[
 ⟨none,.p2 (AC Try.prog 23),[.var 2,.var 5],.push,[]⟩,
 ⟨none,.r1 (fun s a=>AD Try.prog s 3 a),[.loc 0],.push,[]⟩,
 ⟨none,.p1 (GZ Try.prog Go.UnOp.neg),[.loc 0],.push,[]⟩,
 ⟨none,.p2 (AC Try.prog 23),[.var 4,.loc 0],.push,[]⟩,
 ⟨none,.e (fun s=>BV (fun a x=>AU (AM Try.prog s 3 a x))),[(.loc 0),(.const (.int .i64 (1)))],.push,[]⟩]
def Zu:List AA:=[
 ⟨none,.p1 some,[.var 5],.push,[]⟩,
 ⟨none,.p2 (AL Try.prog .add 3),[(.loc 0),(.const (.int .i64 (1)))],.push,[]⟩,
 ⟨none,.p1 some,[.loc 0],(.set 5),[]⟩]
def LR:Ac:=(.seq (.seq (.ops Zp) (.cond (.var 12)
 .skip
 (.exit 0))) (.seq (.block 1 (.seq (.seq (.ops jS) (.cond (.var 13)
 (.seq (.ops jT) .ret)
 .skip)) (.seq (.ops Zt) (.cond (.var 14)
 (.ops jU)
 (.ops jV))))) (.ops Zu)))
def Zh:List AA:=[
 ⟨none,.p1 some,[(.const (.bool true))],(.set 6),[]⟩]
def Zi:List AA:=[
 ⟨none,.p1 some,[.var 6],(.set 15),[]⟩]
def Zj:List AA:=[
 ⟨none,.p1 some,[(.const (.bool false))],(.set 6),[]⟩]
def Zk:List AA:=[
 ⟨none,.p1 some,[(.const (.int .i64 (0)))],(.set 7),[]⟩]
def S6:List AA:=[
 ⟨none,.r (fun s l=>match l with | [x]=>Aq Try.prog s 22 x | _=>none),[.var 1],.push,[]⟩,
 ⟨none,.p2 (AL Try.prog .lss 3),[.var 7,.loc 0],(.set 16),[]⟩]
def Zl:List AA:=[
 ⟨none,.p1 some,[(.const (.int .i64 (0)))],(.set 8),[]⟩,
 ⟨none,.p1 some,[(.const (.int .i64 (0)))],(.set 9),[]⟩,
 ⟨none,.p1 some,[(.const (.bool false))],(.set 10),[]⟩]
def Zm:List AA:=[
 ⟨none,.p1 some,[(.const (.int .i64 (0)))],(.set 11),[]⟩]
def S7:List AA:=[
 ⟨none,.p2 (AC Try.prog 22),[.var 1,.var 7],.push,[]⟩,
 ⟨none,.r1 (fun s a=>AD Try.prog s 23 a),[.loc 0],.push,[]⟩,
 ⟨none,.r (fun s l=>match l with | [x]=>Aq Try.prog s 23 x | _=>none),[.loc 0],.push,[]⟩,
 ⟨none,.p2 (AL Try.prog .lss 3),[.var 11,.loc 0],(.set 17),[]⟩]
def Zn:List AA:=[
 ⟨none,.p2 (AC Try.prog 22),[.var 1,.var 7],.push,[]⟩,
 ⟨none,.r1 (fun s a=>AD Try.prog s 23 a),[.loc 0],.push,[]⟩,
 ⟨none,.p2 (AC Try.prog 23),[.loc 0,.var 11],.push,[]⟩,
 ⟨none,.r1 (fun s a=>AD Try.prog s 3 a),[.loc 0],.push,[]⟩,
 ⟨none,.call 103,[.var 4,.loc 0],(.set 18),[]⟩]
def JR:List AA:=[
 ⟨none,.p2 (AL Try.prog .eql 3),[(.var 18),(.const (.int .i64 (1)))],.push,[]⟩,
 ⟨none,.p1 some,[.loc 0],(.set 19),[]⟩]
def Zo:List AA:=[
 ⟨none,.p1 some,[(.const (.bool true))],(.set 10),[]⟩]
def LU:List AA:=[
 ⟨none,.p2 (AL Try.prog .eql 3),[(.var 18),(.const (.int .i64 (0)))],.push,[]⟩,
 ⟨none,.p1 some,[.loc 0],(.set 20),[]⟩]
def OR:List AA:=[
 ⟨none,.p2 (AL Try.prog .eql 3),[(.var 8),(.const (.int .i64 (0)))],.push,[]⟩,
 ⟨(some ((.loc 0),false)),.p1 some,[.var 1],.push,[]⟩,
 ⟨(some ((.loc 1),false)),.p1 some,[.var 7],.push,[]⟩,
 ⟨(some ((.loc 2),false)),.p2 (AC Try.prog 22),[.loc 1,.loc 0],.push,[]⟩,
 ⟨(some ((.loc 3),false)),.r1 (fun s a=>AD Try.prog s 23 a),[.loc 0],.push,[]⟩,
 ⟨(some ((.loc 4),false)),.p1 some,[.var 11],.push,[]⟩,
 ⟨(some ((.loc 5),false)),.p2 (AC Try.prog 23),[.loc 1,.loc 0],.push,[]⟩,
 ⟨(some ((.loc 6),false)),.r1 (fun s a=>AD Try.prog s 3 a),[.loc 0],.push,[]⟩,
 ⟨(some ((.loc 7),false)),.p1 some,[.var 9],.push,[]⟩,
 ⟨(some ((.loc 8),false)),.p2 (AL Try.prog .neq 3),[.loc 1,.loc 0],.push,[]⟩,
 ⟨none,.p Rn,[(.loc 9),(.const (.bool true)),(.loc 0)],(.set 21),[]⟩]
def S8:List AA:=[
 ⟨none,.p1 some,[.var 8],.push,[]⟩,
 ⟨none,.p2 (AL Try.prog .add 3),[(.loc 0),(.const (.int .i64 (1)))],.push,[]⟩,
 ⟨none,.p1 some,[.loc 0],(.set 8),[]⟩]
def OS:List AA:=[
 ⟨none,.p2 (AC Try.prog 22),[.var 1,.var 7],.push,[]⟩,
 ⟨none,.r1 (fun s a=>AD Try.prog s 23 a),[.loc 0],.push,[]⟩,
 ⟨none,.p2 (AC Try.prog 23),[.loc 0,.var 11],.push,[]⟩,
 ⟨none,.r1 (fun s a=>AD Try.prog s 3 a),[.loc 0],.push,[]⟩,
 ⟨none,.p1 some,[.loc 0],(.set 9),[]⟩]
def JS:List AA:=[
 ⟨none,.p1 some,[.var 11],.push,[]⟩,
 ⟨none,.p2 (AL Try.prog .add 3),[(.loc 0),(.const (.int .i64 (1)))],.push,[]⟩,
 ⟨none,.p1 some,[.loc 0],(.set 11),[]⟩]
def LS:Ac:=(.seq (.seq (.ops S7) (.cond (.var 17)
 .skip
 (.exit 6))) (.seq (.block 7 (.seq (.ops Zn) (.block 8 (.seq (.ops JR) (.cond (.var 19)
 (.ops Zo)
 (.seq (.ops LU) (.cond (.var 20)
 (.seq (.seq (.ops OR) (.cond (.var 21)
 (.ops S8)
 .skip)) (.ops OS))
 .skip))))))) (.ops JS)))
def JT:List AA:=[
 ⟨none,.p1 some,[.var 10],(.set 22),[]⟩]
def LV:List AA:=[
 ⟨none,.p2 (AL Try.prog .eql 3),[(.var 8),(.const (.int .i64 (0)))],(.set 23),[]⟩]
def Zq:List AA:=[
 ⟨none,.p1 some,[(.const (.bool true))],(.set 3),[]⟩]
def OT:List AA:=[
 ⟨none,.p2 (AL Try.prog .eql 3),[(.var 8),(.const (.int .i64 (1)))],(.set 24),[]⟩]
def S9:List AA:=[
 ⟨none,.p2 (AL Try.prog .gtr 3),[(.var 9),(.const (.int .i64 (0)))],(.set 25),[]⟩]
def Zr:List AA:=[
 ⟨none,.p2 (AC Try.prog 23),[.var 4,.var 9],.push,[]⟩,
 ⟨none,.e (fun s=>BV (fun a x=>AU (AM Try.prog s 3 a x))),[(.loc 0),(.const (.int .i64 (1)))],.push,[]⟩]
def Zs:List AA:=[
 ⟨none,.p1 (GZ Try.prog Go.UnOp.neg),[.var 9],.push,[]⟩,
 ⟨none,.p2 (AC Try.prog 23),[.var 4,.loc 0],.push,[]⟩,
 ⟨none,.e (fun s=>BV (fun a x=>AU (AM Try.prog s 3 a x))),[(.loc 0),(.const (.int .i64 (-1)))],.push,[]⟩]
def TA:List AA:=[
 ⟨none,.p1 some,[(.const (.bool true))],(.set 6),[]⟩]
def LW:List AA:=[
 ⟨none,.p1 some,[.var 7],.push,[]⟩,
 ⟨none,.p2 (AL Try.prog .add 3),[(.loc 0),(.const (.int .i64 (1)))],.push,[]⟩,
 ⟨none,.p1 some,[.loc 0],(.set 7),[]⟩]
def LT:Ac:=(.seq (.seq (.ops S6) (.cond (.var 16)
 .skip
 (.exit 4))) (.seq (.block 5 (.seq (.ops Zl) (.seq (.seq (.ops Zm) (.block 6 (.loop LS))) (.seq (.seq (.ops JT) (.cond (.var 22)
 (.exit 5)
 .skip)) (.seq (.seq (.ops LV) (.cond (.var 23)
 (.seq (.ops Zq) .ret)
 .skip)) (.seq (.ops OT) (.cond (.var 24)
 (.seq (.seq (.ops S9) (.cond (.var 25)
 (.ops Zr)
 (.ops Zs))) (.ops TA))
 .skip))))))) (.ops LW)))
def OQ:Ac:=(.seq (.seq (.ops Zi) (.cond (.var 15)
 .skip
 (.exit 2))) (.block 3 (.seq (.ops Zj) (.seq (.ops Zk) (.block 4 (.loop LT))))))
def lE:List AA:=[
 ⟨none,.p1 some,[(.const (.bool false))],(.set 3),[]⟩]
def pz:Aw:=⟨3,26,(.seq (.ops jP) (.seq (.ops jQ) (.seq (.seq (.ops jR) (.block 0 (.loop LR))) (.seq (.seq (.ops Zh) (.block 2 (.loop OQ))) (.seq (.ops lE) .ret))))),[((.var 3),none)]⟩
def RZ:List AA:=[
 ⟨none,.p1 some,[(.const (.int .i64 (0)))],(.set 2),[]⟩]
def Ry:List AA:=[
 ⟨none,.p2 (AL Try.prog .gtr 3),[(.var 1),(.const (.int .i64 (0)))],(.set 3),[]⟩]
def XC:List AA:=[
 ⟨none,.p2 (AC Try.prog 23),[.var 0,.var 1],.push,[]⟩,
 ⟨none,.r1 (fun s a=>AD Try.prog s 3 a),[.loc 0],.push,[]⟩,
 ⟨none,.p1 some,[.loc 0],(.set 2),[]⟩]
def XD:List AA:=[
 ⟨none,.p1 (GZ Try.prog Go.UnOp.neg),[.var 1],.push,[]⟩,
 ⟨none,.p2 (AC Try.prog 23),[.var 0,.loc 0],.push,[]⟩,
 ⟨none,.r1 (fun s a=>AD Try.prog s 3 a),[.loc 0],.push,[]⟩,
 ⟨none,.p1 (GZ Try.prog Go.UnOp.neg),[.loc 0],.push,[]⟩,
 ⟨none,.p1 some,[.loc 0],(.set 2),[]⟩]
def ke:Aw:=⟨2,4,(.seq (.ops RZ) (.seq (.seq (.ops Ry) (.cond (.var 3)
 (.seq (.ops XC) .ret)
 .skip)) (.seq (.ops XD) .ret))),[((.var 2),none)]⟩
theorem lG:AS Try.prog 11=some pU:=by kernel_rfl
theorem lQ:AS Try.prog 44=some pc:=by kernel_rfl
theorem l7:AS Try.prog 80=some pF:=by kernel_rfl
theorem mA:AS Try.prog 81=some pz:=by kernel_rfl
theorem dm:AS Try.prog 103=some ke:=by kernel_rfl
end
end Go.Proofs.Ytilhhmkdcoajnaa.Am
set_option linter.unusedVariables false
set_option linter.unusedSimpArgs false
set_option maxRecDepth 16000
namespace Go.Proofs.Ytilhhmkdcoajnaa.Am
open Go Go.Proofs
noncomputable section
def mn(K L:List Int):Prop:=(∃y∈L,isV K y=1)∨∃y∈L,∃z∈L,y≠z∧isV K y=0∧isV K z=0
def GF(K:List Int):Nat:=K.countP fun x=>decide (x=0)
theorem N1:∀ {K:List Int}{k:Nat}{x:Int},K[k]? = some 0→x≠0→GF (K.set k x)+1=GF K
 | [],k,x,h,_=>by simp at h
 | y::K,0,x,h,hx=>by
  injection h with h
  subst h
  unfold GF
  rw[List.set_cons_zero,qy,qy,if_neg (by simpa using hx),if_pos (by rfl)]
 | y::K,k+1,x,h,hx=>by
  have ih:=N1 (K:=K) (k:=k) h hx
  unfold GF at ih ⊢
  rw[List.set_cons_succ,qy,qy]
  omega
theorem F8{K:List Int}{x:Int}(h0:x≠0):isV K (-x)=-isV K x:=by
 unfold isV
 rw[qf]
 by_cases h:x<0
 ·rw[if_pos h,if_neg (by omega),qw]
 ·rw[if_neg h,if_pos (by omega)]
theorem Lv         {K c : List Int} {cs : List (List Int)} (hc : ∀ y ∈ c, y ≠ 0 ∧ isV K y = -1) (hcs : ∀ L ∈ cs, (∀ y ∈ L, y ≠ 0) ∧ mn  K L) : ¬ Ht   cs c := by
  have hup:∀x,UP cs c x→isV K x=1:=fun x hx=>by
    induction hx with
    | ass h=>obtain⟨h0,h1⟩:=hc _ h;rw[F8 h0,h1];rfl
    | @unit L x h hx hy ih =>
      obtain⟨h0,hok⟩:=hcs L h
      have hot:∀y∈L,y≠x→isV K y=-1:=fun y hyl hne=>by
        have:=ih y hyl hne
        rw[F8 (h0 y hyl)]at this
        omega
      rcases hok with⟨y,h1,h2⟩ | ⟨y,h1,z,h2,h3,h4,h5⟩
      · by_cases e : y = x
        · rw[← e];exact h2
        · have:=hot y h1 e;omega
      · by_cases e : y = x
        · have:=hot z h2 fun q=>h3 (by rw[e,q]);omega
        · have:=hot y h1 e;omega
  rintro(⟨x,h1,h2⟩ | ⟨L,h1,h2⟩)
  · obtain⟨h0,e1⟩:=hc x h1
    have:=(hc _ h2).2
    rw[F8 h0,e1]at this
    omega
  · obtain⟨h0,hok⟩:=hcs L h1
    have hn:∀y∈L,isV K y=-1:=fun y hy=>by
      have:=hup _ (h2 y hy)
      rw[F8 (h0 y hy)]at this
      omega
    rcases hok with⟨y,a,b⟩ | ⟨y,a,z,b,d,e,f⟩
    · have:=hn y a;omega
    · have:=hn y a;omega
theorem Hf.put{K:List Int}(h:Hf K)(k:Nat){x:Int}(hx:x=-1∨x=0∨x=1):Hf (K.set k x):=fun y hy=>by
 rcases rT hy with q | q
 ·exact h y q
 ·rw[q];exact hx
theorem Vi{K:List Int}(h:Hf K)(x:Int):isV K x=-1∨isV K x=0∨isV K x=1:=by
 have:=h.get x.natAbs
 unfold isV
 split<;>omega
theorem eH{K:List Int}{x:Int}(hx:x≠0)(hk:x.natAbs<K.length)(w:Int):isV (K.set x.natAbs (GG x * w)) x=w:=by
 unfold isV GG
 rw[Bq hk]
 split<;>omega
theorem Na{K:List Int}{x y:Int}(h:y.natAbs≠x.natAbs)(w:Int):isV (K.set x.natAbs w) y=isV K y:=by
 unfold isV
 rw[getD_set_ne h]
abbrev PK(i m:Nat):AV:=.slice (some (i,0)) m (some m)
theorem bH{E:BN}(hE:Good E){s:AF}{i:Nat}{K:List Int}(h:BP s i (Ax K))(h3:Hf K){l:Int}(h0:l≠0)(hl:l.natAbs<K.length)(hs:K.length<1000000000):WF E 103 [PK i K.length,iv l] (fun r s'=>r=iv (isV K l)∧s=s') s:=by
  refine hE.go dm (by decide) rfl ?_
  have hg:=AR (d:=(0:Int)) hl
  have g1:=Al (P:=Try.prog) (cap:=some K.length) (i:=i) (o:=0) Try.underlying23 Bt hl
  have g2:=h.load (Au hg)
  have hv:=h3.get l.natAbs
  unfold isV
  by_cases hn:l<0
  · have e : -l = (l.natAbs : Int) := by omega
    have eN:=D8 Try.prog l ⟨by omega,by omega⟩
    rw[e]at eN
    have e2:=D8 Try.prog (K.getD l.natAbs 0) ⟨by omega,by omega⟩
    rw[if_pos hn]
    have d0:decide ((0:Int)<l)=false:=decide_eq_false (by omega)
    simp only[ke,RZ,Ry,XD,d0,eN,g1,g2,e2,Qa,Qb,Qc,Qd,Qf,Qh,Qi,Qj,Qk,Ql,Qm,Qn,true_and,and_true,Qo,Qp,Qq,Qr,Qs,Qv,Qw,Qx,Rc,Re,Rf,Rg,Rh,Yc,Rs]
  · have e:l=(l.natAbs:Int):=by omega
    rw[if_neg hn]
    have d0:decide ((0:Int)<l)=true:=decide_eq_true (by omega)
    have g1':AC Try.prog 23 (PK i K.length) (iv l)=some (.ptr (some (i,0+l.natAbs * 1))):=by rw[← g1];congr 2
    simp only[ke,RZ,Ry,XC,d0,g1',g2,Qa,Qb,Qc,Qd,Qf,Qh,Qi,Qj,Qk,Ql,Qm,Qn,true_and,and_true,Qo,Qp,Qq,Qr,Qs,Qu,Qw,Qx,Rc,Re,Rf,Rg,Rh,Yc,Rs]
theorem bm:∀m:Nat,Jx [iv 0] m=Ax (List.replicate m 0)
 | 0=>rfl
 | m+1=>by
  show [iv 0]++Jx [iv 0] m=_
  rw[bm m,rt]
  rfl
theorem MJ{m:Nat}(hm:m≤1000000):EN Try.prog 23 (iv (m:Int)) (iv (m:Int))=some (AO 3 1 (Ax (List.replicate m 0)),.slice m):=by
 have hz:(AV.int .i64 0).cells=[iv 0]:=rfl
 have b1:Nat.beq m m=true:=Nat.beq_refl m
 have b2:Nat.ble (8 * m) 1099511627776=true:=by rw[qT];omega
 have b3:Nat.ble m 1099511627776=true:=by rw[qT];omega
 show(match Try.prog.underlying 23,AV.int .i64 (.ofNat m),AV.int .i64 (.ofNat m)with
  | some (.slice e),.int .i64 (.ofNat l),.int .i64 (.ofNat c)=>(CQ Try.prog e).bind fun by_=>(BC Try.prog e).bind fun n =>
   AI (Nat.beq l c && Nat.ble (by_ * c) 1099511627776 && Nat.ble c 1099511627776) <|
   (CY Try.prog e).bind fun z=>AI (Nat.beq z.cells.length n) (some (AO e n (Jx z.cells c),Made.slice c))
  | _,_,_=>none)=_
 rw[Try.underlying23]
 simp only[W0,Bt,RN,Option.bind_some,b1,b2,b3,Bool.and_self,AI,hz,bm]
 rfl
theorem Nc{s:AF}{m:Nat}:BP (newObj s (AO 3 1 (Ax (List.replicate m 0)))) s.next (Ax (List.replicate m 0)):=by
 obtain⟨r,h1,h2,h3,h4,h5,h6⟩:=Br 3 1 (Ax (List.replicate m 0))
 exact⟨r,by rw[AQ,if_pos rfl,h1],h2,h5,h6,h3⟩
theorem Jm{s:AF}{i k:Nat}{K:List Int}(h:BP s i (Ax K))(hk:k<K.length)(x:Int):
  ∃s',AM Try.prog s 3 (.ptr (some (i,0+k * 1))) (iv x)=some s'∧BP s' i (Ax (K.set k x))∧s'.next=s.next∧∀j,j≠i→s'.heap.get j=s.heap.get j:=by
 obtain⟨s',g1,g2,g3,g4⟩:=h.put (t:=3) (u:=iv x) (by rw[qK];exact hk) Bt rfl rfl
 refine⟨s',g1,?_,g3,g4⟩
 show BP s' i (List.map _ (List.set K k x))
 rw[rD]
 exact g2
theorem fB{b:Nat}{s:AF}{v:AV}{cs:List AV}(h:AX b s v cs)(e:TypeId):∃a cap,v=.slice a cs.length cap∧BZ Try.prog s e 1 v=some (cs.length,cs):=by
 obtain⟨a,cap,rfl,hc⟩:=h
 refine⟨a,cap,rfl,?_⟩
 cases cs with
 | nil =>
  cases a with
  | none=>rfl
  | some io=>obtain⟨i,o⟩:=io;rfl
 | cons x cs=>exact AX.src hc rfl (by simp)
structure IK(K M:List Int)(o:Nat)(a:Int)(g:Bool):Prop where
 good:g=true→∃y∈M,isV K y=1
 one:1≤o→a∈M∧isV K a=0
 two:2≤o→∃y∈M,∃z∈M,y≠z∧isV K y=0∧isV K z=0
 len:o≤M.length
theorem IK.more{K M:List Int}{o:Nat}{a:Int}{g:Bool}(h:IK K M o a g)(x:Int):IK K (M++[x]) o a g:=
 ⟨fun q=>let ⟨y,q1,q2⟩:=h.good q;⟨y,qW _ q1,q2⟩,fun q=>⟨qW _ (h.one q).1,(h.one q).2⟩,fun q=>let ⟨y,q1,z,q2,q3⟩:=h.two q;⟨y,qW _ q1,z,qW _ q2,q3⟩,by rw[qM];have:=h.len;omega⟩
theorem IK.true_{K M:List Int}{o:Nat}{a:Int}{g:Bool}(h:IK K M o a g){x:Int}(hx:isV K x=1):IK K (M++[x]) o a true:=
 ⟨fun _=>⟨x,ql _ (List.mem_singleton.2 rfl),hx⟩,(h.more x).one,(h.more x).two,(h.more x).len⟩
theorem IK.open_{K M:List Int}{o:Nat}{a:Int}{g:Bool}(h:IK K M o a g){x:Int}(hx:isV K x=0)(hd:o=0∨x≠a):IK K (M++[x]) (o+1) x g:=by
  have hm:x∈M++[x]:=ql _ (List.mem_singleton.2 rfl)
  refine⟨(h.more x).good,fun _=>⟨hm,hx⟩,fun q=>?_,by rw[qM];have:=h.len;simp only[qh,rC];omega⟩
  rcases hd with e | e
  · omega
  · by_cases ho : o = 0
    · omega
    · obtain⟨q1,q2⟩:=h.one (by omega)
      exact⟨x,hm,a,qW _ q1,e,hx,q2⟩
theorem IK.same_{K M:List Int}{o:Nat}{a:Int}{g:Bool}(h:IK K M o a g){x:Int}(hx:isV K x=0):IK K (M++[x]) o x g:=
 ⟨(h.more x).good,fun _=>⟨ql _ (List.mem_singleton.2 rfl),hx⟩,(h.more x).two,(h.more x).len⟩
section
variable{E:BN}
theorem P6          (hE : Good E) {s : AF}  {b i m j : Nat} {K : List Int} (hr : BP    s i (Ax  K)) (h3 : Hf   K) (hK : K.length = m) (hm : m ≤ 1000000) {v1 p : AV} {a2 : Option (Nat × Nat)} {cap2 : Option Nat} {L : List Int} (g1 : AC         Try.prog 22 v1 (iv (j : Int)) = some p) (g2 : AD    Try.prog s 23 p = some (.slice a2 L.length cap2)) (hc : Ay      b s a2 (Ax  L)) (hL : ∀ y ∈ L, y ≠ 0 ∧ y.natAbs < m) (hLl : L.length ≤ 1000000)
    (v0 v2 v3 v5 v6 v12 v13 v14 v15 v16 v22 v23 v24 v25:AV) {Q:A0→Prop}
    (hq:∀ (o:Nat) (a:Int) (g:Bool) (y11 y17 y18 y19 y20 y21:AV),IK K L o a g→Q ⟨.exit 6,[v0,v1,v2,v3,PK i m,v5,v6,iv (j:Int),iv (o:Int),iv a,.bool g,y11,v12,v13,v14,v15,v16,y17,y18,y19,y20,y21,v22,v23,v24,v25],[],s⟩):
    ∀ (l:List Int) (k o:Nat) (a:Int) (g:Bool) (x17 x18 x19 x20 x21:AV),L.drop k=l→k≤L.length→IK K (L.take k) o a g →
      WC E none (.loop LS) Q [v0,v1,v2,v3,PK i m,v5,v6,iv (j:Int),iv (o:Int),iv a,.bool g,iv (k:Int),v12,v13,v14,v15,v16,x17,x18,x19,x20,x21,v22,v23,v24,v25] [] s:=by
  intro l
  induction l with
  | nil =>
    intro k o a g x17 x18 x19 x20 x21 hd hk hI
    have:=CH hd hk
    subst this
    rw[qr]at hI
    refine WC.loop' ?_
    simp only[LS,S7,g1,g2,AW Try.underlying23,qd,decide_false,Qa,Qb,Qc,Qd,Qf,Qh,Qj,Qk,Qm,Qn,true_and,Qo,Qp,Qq,Qr,Qs,Qv,Qw,Qy,Qz,Rq]
    exact hq o a g _ _ _ _ _ _ hI
  | cons x l ih =>
    intro k o a g x17 x18 x19 x20 x21 hd hk hI
    obtain⟨hlt,hx,hd'⟩:=Be hd
    obtain⟨i2,o2,rfl,hi2,hload⟩:=hc k _ (Au hx)
    have e1:=Al (P:=Try.prog) (cap:=cap2) (i:=i2) (o:=o2) Try.underlying23 Bt hlt
    have e2:AD Try.prog s 3 (.ptr (some (i2,o2+k * 1)))=some (iv x):=A4 Dg (by rw[qa];exact hload)
    obtain⟨hx0,hxm⟩:=hL x (qL hx)
    have hkk:decide ((k:Int)<(L.length:Int))=true:=decide_eq_true (by omega)
    have e3:=Ai Try.prog 3 (k:Int) 1 ⟨by omega,by omega⟩
    have hcast:((k:Int)+1)=((k+1:Nat):Int):=by omega
    have hlit:=bH hE hr h3 (l:=x) hx0 (by omega) (by omega)
    rw[hK]at hlit
    have htk:L.take (k+1)=L.take k++[x]:=FB hx
    have hol:=hI.len
    have hlk:(L.take k).length≤k:=List.length_take_le k L
    refine WC.loop' ?_
    generalize hW:WC E none (Ac.loop LS) Q=W at ih ⊢
    simp only[LS,S7,g1,g2,AW Try.underlying23,hkk,Zn,e1,e2,Qa,Qb,Qc,Qd,Qf,Qh,Qj,Qk,Qm,Qn,true_and,Qo,Qp,Qq,Qr,Qs,Qu,Qw,Qy,Qz,Rq]
    refine hlit.mono ?_
    rintro _ _ ⟨rfl,rfl⟩
    rcases Vi h3 x with hv | hv | hv
    · have d1 : decide ((-1 : Int) = 1) = false := by decide
      have d2:decide ((-1:Int)=0)=false:=by decide
      simp only[JR,hv,d1,d2,LU,JS,e3,hcast,Qb,Qc,Qd,Qf,Qh,Qi,Qj,Qk,Qm,Qn,true_and,Qo,Qp,Qq,Qr,Qs,Qv,Rv]
      subst hW
      exact ih (k+1) o a g _ _ _ _ _ hd' hlt (by rw[htk];exact hI.more x)
    · have d1 : decide ((0 : Int) = 1) = false := by decide
      have d2:decide ((0:Int)=0)=true:=by decide
      by_cases ho:o=0
      · subst ho
        have ez:iv ((0:Nat):Int)=iv 0:=rfl
        have e4:AL Try.prog .add 3 (iv 0) (iv 1)=some (iv (((0+1:Nat)):Int)):=rfl
        rw[ez]
        simp only[JR,hv,d1,decide_true,LU,OR,Rn,S8,e4,OS,g1,g2,e1,e2,JS,e3,hcast,Qb,Qc,Qd,Qf,Qg,Qh,Qi,Qj,Qk,Qm,Qn,true_and,Qo,Qp,Qq,Qr,Qs,Qt,Qu,Qv,Rm,Ya,Rn,Ro,Rv]
        subst hW
        exact ih (k+1) (0+1) x g _ _ _ _ _ hd' hlt (by rw[htk];exact hI.open_ hv (.inl rfl))
      · have d3:decide ((o:Int)=0)=false:=decide_eq_false (by omega)
        by_cases hxa:x=a
        · have d4:decide (x≠a)=false:=decide_eq_false fun q=>q hxa
          simp only[JR,hv,d1,decide_true,LU,OR,d3,d4,Rn,g1,g2,e1,e2,OS,JS,e3,hcast,Qb,Qc,Qd,Qf,Qg,Qh,Qi,Qj,Qk,Qm,Qn,true_and,Qo,Qp,Qq,Qr,Qs,Qu,Qv,Rm,Yb,Rn,Ro,Rv,Rw]
          subst hW
          exact ih (k+1) o x g _ _ _ _ _ hd' hlt (by rw[htk];exact hI.same_ hv)
        · have d4 : decide (x ≠ a) = true := decide_eq_true hxa
          have e4:=Ai Try.prog 3 (o:Int) 1 ⟨by omega,by omega⟩
          have hcast2:((o:Int)+1)=((o+1:Nat):Int):=by omega
          simp only[JR,hv,d1,decide_true,LU,OR,d3,d4,Rn,g1,g2,e1,e2,S8,e4,hcast2,OS,JS,e3,hcast,Qb,Qc,Qd,Qf,Qg,Qh,Qi,Qj,Qk,Qm,Qn,true_and,Qo,Qp,Qq,Qr,Qs,Qu,Qv,Rm,Yb,Rn,Ro,Rv,Rw]
          subst hW
          exact ih (k+1) (o+1) x g _ _ _ _ _ hd' hlt (by rw[htk];exact hI.open_ hv (.inr hxa))
    · have d1:decide ((1:Int)=1)=true:=by decide
      simp only[JR,hv,decide_true,Zo,JS,e3,hcast,Qb,Qc,Qd,Qf,Qh,Qi,Qj,Qk,Qm,Qn,true_and,Qo,Qp,Qq,Qr,Qs,Qu,Rv]
      subst hW
      exact ih (k+1) o a true _ _ _ _ _ hd' hlt (by rw[htk];exact hI.true_ hv)
end
structure Kn(c:List Int)(m i:Nat)(s:AF)(K:List Int):Prop where
 row:BP s i (Ax K)
 v3:Hf K
 len:K.length=m
 neg:∀y∈c,isV K y=-1
theorem Kn.put{c:List Int}{m i:Nat}{s s':AF}{K:List Int}(h:Kn c m i s K){x:Int}(hx:isV K x=0)(hm:x.natAbs<m)(hr:BP s' i (Ax (K.set x.natAbs (GG x)))):Kn c m i s' (K.set x.natAbs (GG x)):=by
 refine⟨hr,h.v3.put _ (by unfold GG;split<;>omega),by rw[qQ];exact h.len,fun y hy=>?_⟩
 have hy1:=h.neg y hy
 have hne:y.natAbs≠x.natAbs:=fun e=>by
  have h0:=F9 hx
  unfold isV at hy1
  rw[e,h0]at hy1
  split at hy1<;>omega
 rw[Na hne]
 exact hy1
theorem Wc{K:List Int}{x:Int}(hx:isV K x=0)(hm:x.natAbs<K.length):GF (K.set x.natAbs (GG x))+1=GF K:=by
 have h0:=F9 hx
 have hg:=AR (d:=(0:Int)) hm
 rw[h0]at hg
 exact N1 hg (by unfold GG;split<;>omega)
section
variable{E:BN}
theorem TI         (hE : Good E) {b i m z0 : Nat} (hbi : b ≤ i) (hm : m ≤ 1000000) {c : List Int} {cs : List (List Int)} {s0 : AF}  {a1 : Option (Nat × Nat)} {cap1 : Option Nat} (hrows : EG     b s0 a1 cs) (hcs : ∀ L ∈ cs, (∀ y ∈ L, y ≠ 0 ∧ y.natAbs < m) ∧ L.length ≤ 1000000) (hcl : cs.length ≤ 1000000)
    (v0 v2 v3 v5 v12 v13 v14 v15:AV) {Q:A0→Prop}
    (hret:∀s' y4 y6 y7 y8 y9 y10 y11 y16 y17 y18 y19 y20 y21 y22 y23 y24 y25,BG b s0 s'→Q ⟨.ret,[v0,.slice a1 cs.length cap1,v2,.bool true,y4,v5,y6,y7,y8,y9,y10,y11,v12,v13,v14,v15,y16,y17,y18,y19,y20,y21,y22,y23,y24,y25],[],s'⟩)
    (hq:∀s' K ag y7 y8 y9 y10 y11 y16 y17 y18 y19 y20 y21 y22 y23 y24 y25,Kn c m i s' K→BG b s0 s'→(ag=false→∀L∈cs,mn K L)→(ag=true→GF K<z0)→GF K≤z0→Q ⟨.exit 4,[v0,.slice a1 cs.length cap1,v2,v3,PK i m,v5,.bool ag,y7,y8,y9,y10,y11,v12,v13,v14,v15,y16,y17,y18,y19,y20,y21,y22,y23,y24,y25],[],s'⟩):
    ∀ (l:List (List Int)) (j:Nat) (s:AF) (K:List Int) (ag:Bool) (x8 x9 x10 x11 x16 x17 x18 x19 x20 x21 x22 x23 x24 x25:AV),cs.drop j=l→j≤cs.length→Kn c m i s K→BG b s0 s→(ag=false→∀L∈cs.take j,mn K L)→(ag=true→GF K<z0)→GF K≤z0 →
      WC E none (.loop LT) Q [v0,.slice a1 cs.length cap1,v2,v3,PK i m,v5,.bool ag,iv (j:Int),x8,x9,x10,x11,v12,v13,v14,v15,x16,x17,x18,x19,x20,x21,x22,x23,x24,x25] [] s:=by
  intro l
  induction l with
  | nil =>
    intro j s K ag x8 x9 x10 x11 x16 x17 x18 x19 x20 x21 x22 x23 x24 x25 hd hj hK hold hok h1 h2
    have:=CH hd hj
    subst this
    rw[qr]at hok
    refine WC.loop' ?_
    simp only[LT,S6,AW Try.underlying22,qd,decide_false,Qa,Qb,Qc,Qd,Qf,Qh,Qj,Qk,Qm,Qn,true_and,Qo,Qp,Qq,Qr,Qs,Qv,Qw,Qx,Qy,Qz,Ra,Rb,Rq]
    exact hq s K ag _ _ _ _ _ _ _ _ _ _ _ _ _ _ _ hK hold hok h1 h2
  | cons L l ih =>
    intro j s K ag x8 x9 x10 x11 x16 x17 x18 x19 x20 x21 x22 x23 x24 x25 hd hj hK hold hok h1 h2
    obtain⟨hlt,hx,hd'⟩:=Be hd
    obtain⟨hL,hLl⟩:=hcs L (qL hx)
    obtain⟨i1,o1,u,rfl,hi1,hload,a2,cap2,rfl,hcells⟩:=hrows.old hold (qI _) j L hx
    rw[qK]at hload
    have e1:=Al (P:=Try.prog) (cap:=cap1) (i:=i1) (o:=o1) Try.underlying22 CL hlt
    have e2:=A4 (P:=Try.prog) (t:=23) (s:=s) (i:=i1) (o:=o1+j * 1) DN (by rw[qa];exact hload)
    have hjj:decide ((j:Int)<(cs.length:Int))=true:=decide_eq_true (by omega)
    have e3:=Ai Try.prog 3 (j:Int) 1 ⟨by omega,by omega⟩
    have hcast:((j:Int)+1)=((j+1:Nat):Int):=by omega
    have htk:cs.take (j+1)=cs.take j++[L]:=FB hx
    have ez:iv 0=iv ((0:Nat):Int):=rfl
    have hokL:mn K L→ag=false→∀M∈cs.take (j+1),mn K M:=fun hL hag M hM=>by
      rw[htk]at hM
      rcases List.mem_append.1 hM with q | q
      · exact hok hag M q
      · rw[List.mem_singleton.1 q];exact hL
    refine WC.loop' ?_
    generalize hW:WC E none (Ac.loop LT) Q=W at ih ⊢
    simp only[LT,S6,AW Try.underlying22,hjj,Zl,Zm,Qa,Qb,Qc,Qd,Qf,Qh,Qi,Qj,Qk,Qm,Qn,true_and,Qo,Qp,Qq,Qr,Qs,Qu,Qw,Qx,Qy,Qz,Ra,Rb,Rq]
    refine P6 hE (b:=b) (i:=i) (m:=m) (j:=j) hK.row hK.v3 hK.len hm e1 e2 hcells hL hLl _ _ _ _ _ _ _ _ _ _ _ _ _ _ ?_ L 0 0 0 false _ _ _ _ _ rfl (qO _) ⟨fun q=>(by cases q),fun q=>(by omega),fun q=>(by omega),qO _⟩
    intro o a g y11 y17 y18 y19 y20 y21 hI
    have hol:=hI.len
    cases g with
    | true =>
      simp only[if_true,JT,LW,e3,hcast,Qb,Qc,Qd,Qf,Qh,Qi,Qj,Qk,Qm,Qn,true_and,Qo,Qp,Qq,Qr,Qs,Qu,Qw,Qy,Rb]
      subst hW
      exact ih (j+1) s K ag _ _ _ _ _ _ _ _ _ _ _ _ _ _ hd' hlt hK hold (hokL (.inl (hI.good rfl))) h1 h2
    | false =>
      by_cases ho0:o=0
      · have d0:decide ((o:Int)=0)=true:=decide_eq_true (by omega)
        simp only[if_true,JT,LV,d0,Zq,Qb,Qc,Qd,Qf,Qh,Qi,Qj,Qm,Qn,true_and,Qo,Qp,Qq,Qr,Qs,Qu,Qv,Qw,Qy,Rb,Rv]
        exact hret s _ _ _ _ _ _ _ _ _ _ _ _ _ _ _ _ _ hold
      · have d0:decide ((o:Int)=0)=false:=decide_eq_false (by omega)
        by_cases ho1:o=1
        · have d1:decide ((o:Int)=1)=true:=decide_eq_true (by omega)
          obtain⟨ha1,ha2⟩:=hI.one (by omega)
          obtain⟨ha0,ham⟩:=hL a ha1
          have hlenK:=hK.len
          obtain⟨s',p1,p2,p3,p4⟩:=Jm hK.row (k:=a.natAbs) (by omega) (GG a)
          have hK':=hK.put ha2 ham p2
          have hz:=Wc ha2 (by omega)
          have hold':BG b s0 s':=hold.trans ⟨by omega,fun x hx=>p4 x (by omega)⟩
          have hfin:=ih (j+1) s' (K.set a.natAbs (GG a)) true
          by_cases hap:0<a
          · have d2 : decide ((0 : Int) < a) = true := decide_eq_true hap
            have ea:iv a=iv (a.natAbs:Int):=by rw[show(a.natAbs:Int)=a by omega]
            have i1':AC Try.prog 23 (PK i m) (iv (a.natAbs:Int))=some (.ptr (some (i,0+a.natAbs * 1))):=Al (P:=Try.prog) Try.underlying23 Bt ham
            rw[← ea]at i1'
            have hs1:GG a=1:=by unfold GG;rw[if_neg (by omega)]
            rw[hs1]at p1
            have p1':AM Try.prog s 3 (.ptr (some (i,0+a.natAbs * 1))) (.int .i64 1)=some s':=p1
            simp only[if_true,JT,LV,d0,OT,d1,S9,d2,Zr,i1',p1',BV,AU,TA,LW,e3,hcast,Qb,Qc,Qd,Qf,Qh,Qi,Qj,Qk,Qm,Qn,true_and,Qo,Qp,Qq,Qr,Qs,Qu,Qv,Qw,Qy,Rb,Rs,Rv]
            subst hW
            exact hfin _ _ _ _ _ _ _ _ _ _ _ _ _ _ hd' hlt hK' hold' (fun q=>(by cases q)) (fun _=>by omega) (by omega)
          · have d2 : decide ((0 : Int) < a) = false := decide_eq_false hap
            have eN:=D8 Try.prog a ⟨by omega,by omega⟩
            rw[show -a=(a.natAbs:Int) by omega]at eN
            have i1':AC Try.prog 23 (PK i m) (iv (a.natAbs:Int))=some (.ptr (some (i,0+a.natAbs * 1))):=Al (P:=Try.prog) Try.underlying23 Bt ham
            have hs1:GG a=-1:=by unfold GG;rw[if_pos (by omega)]
            rw[hs1]at p1
            have p1':AM Try.prog s 3 (.ptr (some (i,0+a.natAbs * 1))) (.int .i64 (-1))=some s':=p1
            simp only[if_true,JT,LV,d0,OT,d1,S9,d2,Zs,eN,i1',p1',BV,AU,TA,LW,e3,hcast,Qb,Qc,Qd,Qf,Qh,Qi,Qj,Qk,Qm,Qn,true_and,Qo,Qp,Qq,Qr,Qs,Qu,Qv,Qw,Qy,Rb,Rs,Rv]
            subst hW
            exact hfin _ _ _ _ _ _ _ _ _ _ _ _ _ _ hd' hlt hK' hold' (fun q=>(by cases q)) (fun _=>by omega) (by omega)
        · have d1:decide ((o:Int)=1)=false:=decide_eq_false (by omega)
          simp only[if_true,JT,LV,d0,OT,d1,LW,e3,hcast,Qb,Qc,Qd,Qf,Qh,Qi,Qj,Qk,Qm,Qn,true_and,Qo,Qp,Qq,Qr,Qs,Qv,Qw,Qy,Rb,Rv]
          subst hW
          exact ih (j+1) s K ag _ _ _ _ _ _ _ _ _ _ _ _ _ _ hd' hlt hK hold (hokL (.inr (hI.two (by omega)))) h1 h2
end
theorem Kn.ass {c : List Int} {m i : Nat} {s s' : AF}  {K : List Int} (h : Kn c m i s K) {x : Int} (h0 : x ≠ 0) (hx : ¬ 0 < isV K x) (hc0 : ∀ y ∈ c, y ≠ 0) (hm : x.natAbs < m) (hr : BP    s' i (Ax  (K.set x.natAbs (-GG  x)))) : Kn (c ++ [x]) m i s' (K.set x.natAbs (-GG  x)) := by
  have hlen:=h.len
  have e:-GG x=GG x * (-1):=by omega
  refine⟨hr,h.v3.put _ (by unfold GG;split<;>omega),by rw[qQ];exact h.len,fun y hy=>?_⟩
  have hself:isV (K.set x.natAbs (-GG x)) x=-1:=by rw[e];exact eH h0 (by omega) (-1)
  rcases List.mem_append.1 hy with q | q
  · by_cases hn : y.natAbs = x.natAbs
    · have hy0:=hc0 y q
      rcases Oy hn with z | z
      · rw[z];exact hself
      · exfalso
        have:=h.neg y q
        rw[z,F8 h0]at this
        omega
    · rw[Na hn];exact h.neg y q
  · rw[List.mem_singleton.1 q];exact hself
section
variable{E:BN}
theorem RV         (hE : Good E) {b i m : Nat} (hbi : b ≤ i) (hm : m ≤ 1000000) {c : List Int} (hc : ∀ y ∈ c, y ≠ 0 ∧ y.natAbs < m) (hcl : c.length ≤ 1000000) {s0 : AF}  {a2 : Option (Nat × Nat)} {cap2 : Option Nat} (hcells : Ay      b s0 a2 (Ax  c))
    (v0 v1 v3 v6 v7 v8 v9 v10 v11 v15 v16 v17 v18 v19 v20 v21 v22 v23 v24 v25:AV) {Q:A0→Prop}
    (hret:∀s' y4 y5 y12 y13 y14,BG b s0 s'→Q ⟨.ret,[v0,v1,.slice a2 c.length cap2,.bool true,y4,y5,v6,v7,v8,v9,v10,v11,y12,y13,y14,v15,v16,v17,v18,v19,v20,v21,v22,v23,v24,v25],[],s'⟩)
    (hq:∀s' K y5 y12 y13 y14,Kn c m i s' K→BG b s0 s'→Q ⟨.exit 0,[v0,v1,.slice a2 c.length cap2,v3,PK i m,y5,v6,v7,v8,v9,v10,v11,y12,y13,y14,v15,v16,v17,v18,v19,v20,v21,v22,v23,v24,v25],[],s'⟩):
    ∀ (l:List Int) (k:Nat) (s:AF) (K:List Int) (x12 x13 x14:AV),c.drop k=l→k≤c.length→Kn (c.take k) m i s K→BG b s0 s →
      WC E none (.loop LR) Q [v0,v1,.slice a2 c.length cap2,v3,PK i m,iv (k:Int),v6,v7,v8,v9,v10,v11,x12,x13,x14,v15,v16,v17,v18,v19,v20,v21,v22,v23,v24,v25] [] s:=by
  intro l
  induction l with
  | nil =>
    intro k s K x12 x13 x14 hd hk hK hold
    have:=CH hd hk
    subst this
    rw[qr]at hK
    refine WC.loop' ?_
    simp only[LR,Zp,AW Try.underlying23,qd,decide_false,Qa,Qb,Qc,Qd,Qf,Qh,Qj,Qk,Qm,Qn,true_and,Qo,Qp,Qq,Qr,Qs,Qv,Qw,Qx,Qy,Qz,Ra,Rq]
    exact hq s K _ _ _ _ hK hold
  | cons x l ih =>
    intro k s K x12 x13 x14 hd hk hK hold
    obtain⟨hlt,hx,hd'⟩:=Be hd
    obtain⟨hx0,hxm⟩:=hc x (qL hx)
    obtain⟨i2,o2,rfl,hi2,hload⟩:=hcells.old hold (qI _) k _ (Au hx)
    have e1:=Al (P:=Try.prog) (cap:=cap2) (i:=i2) (o:=o2) Try.underlying23 Bt hlt
    have e2:AD Try.prog s 3 (.ptr (some (i2,o2+k * 1)))=some (iv x):=A4 Dg (by rw[qa];exact hload)
    have hkk:decide ((k:Int)<(c.length:Int))=true:=decide_eq_true (by omega)
    have e3:=Ai Try.prog 3 (k:Int) 1 ⟨by omega,by omega⟩
    have hcast:((k:Int)+1)=((k+1:Nat):Int):=by omega
    have hlenK:=hK.len
    have hlit:=bH hE hK.row hK.v3 (l:=x) hx0 (by omega) (by omega)
    rw[hlenK]at hlit
    have htk:c.take (k+1)=c.take k++[x]:=FB hx
    refine WC.loop' ?_
    generalize hW:WC E none (Ac.loop LR) Q=W at ih ⊢
    simp only[LR,Zp,AW Try.underlying23,hkk,jS,e1,e2,Qa,Qb,Qc,Qd,Qf,Qh,Qi,Qj,Qk,Qm,Qn,true_and,Qo,Qp,Qq,Qr,Qs,Qu,Qw,Qx,Qy,Qz,Ra,Rq]
    refine hlit.mono ?_
    rintro _ _ ⟨rfl,rfl⟩
    by_cases hp:0<isV K x
    · have d1:decide (0<isV K x)=true:=decide_eq_true hp
      simp only[d1,jT,Qb,Qc,Qd,Qf,Qh,Qi,Qm,Qn,true_and,Qo,Qp,Qq,Qr,Qs,Qu,Rs]
      exact hret _ _ _ _ _ _ hold
    · have d1:decide (0<isV K x)=false:=decide_eq_false hp
      obtain⟨s',p1,p2,p3,p4⟩:=Jm hK.row (k:=x.natAbs) (by omega) (-GG x)
      have hK':=hK.ass hx0 hp (fun y hy=>(hc y (qg hy)).1) hxm p2
      rw[← htk]at hK'
      have hold':BG b s0 s':=hold.trans ⟨by omega,fun x hx=>p4 x (by omega)⟩
      have hfin:=ih (k+1) s' (K.set x.natAbs (-GG x))
      by_cases hap:0<x
      · have d2 : decide ((0 : Int) < x) = true := decide_eq_true hap
        have ea:iv x=iv (x.natAbs:Int):=by rw[show(x.natAbs:Int)=x by omega]
        have i1':AC Try.prog 23 (PK i m) (iv (x.natAbs:Int))=some (.ptr (some (i,0+x.natAbs * 1))):=Al (P:=Try.prog) Try.underlying23 Bt hxm
        rw[← ea]at i1'
        have hs1:-GG x=-1:=by unfold GG;rw[if_neg (by omega)]
        rw[hs1]at p1
        have p1':AM Try.prog _ 3 (.ptr (some (i,0+x.natAbs * 1))) (.int .i64 (-1))=some s':=p1
        simp only[d1,Zt,e1,e2,d2,jU,i1',p1',BV,AU,Zu,e3,hcast,Qb,Qc,Qd,Qf,Qh,Qi,Qj,Qk,Qm,Qn,true_and,Qo,Qp,Qq,Qr,Qs,Qu,Qv,Rs]
        subst hW
        exact hfin _ _ _ hd' hlt hK' hold'
      · have d2 : decide ((0 : Int) < x) = false := decide_eq_false hap
        have eN:=D8 Try.prog x ⟨by omega,by omega⟩
        rw[show -x=(x.natAbs:Int) by omega]at eN
        have i1':AC Try.prog 23 (PK i m) (iv (x.natAbs:Int))=some (.ptr (some (i,0+x.natAbs * 1))):=Al (P:=Try.prog) Try.underlying23 Bt hxm
        have hs1:-GG x=1:=by unfold GG;rw[if_pos (by omega)];rfl
        rw[hs1]at p1
        have p1':AM Try.prog _ 3 (.ptr (some (i,0+x.natAbs * 1))) (.int .i64 1)=some s':=p1
        simp only[d1,Zt,e1,e2,d2,jV,eN,i1',p1',BV,AU,Zu,e3,hcast,Qb,Qc,Qd,Qf,Qh,Qi,Qj,Qk,Qm,Qn,true_and,Qo,Qp,Qq,Qr,Qs,Qv,Rs]
        subst hW
        exact hfin _ _ _ hd' hlt hK' hold'
theorem Tn(hE:Good E){b i m:Nat}(hbi:b≤i)(hm:m≤1000000){c:List Int}{cs:List (List Int)}{s0:AF}{a1:Option (Nat×Nat)}{cap1:Option Nat}(hrows:EG b s0 a1 cs)(hcs:∀L∈cs,(∀y∈L,y≠0∧y.natAbs<m)∧L.length≤1000000)(hcl:cs.length≤1000000)(hc:∀y∈c,y≠0)(hup:Ht cs c)
  (v0 v2 v3 v5 v12 v13 v14:AV) {Q:A0→Prop}
  (hret:∀s' y4 y6 y7 y8 y9 y10 y11 y15 y16 y17 y18 y19 y20 y21 y22 y23 y24 y25,BG b s0 s'→Q ⟨.ret,[v0,.slice a1 cs.length cap1,v2,.bool true,y4,v5,y6,y7,y8,y9,y10,y11,v12,v13,v14,y15,y16,y17,y18,y19,y20,y21,y22,y23,y24,y25],[],s'⟩):
  ∀ (z:Nat) (s:AF) (K:List Int) (ag:Bool) (x7 x8 x9 x10 x11 x15 x16 x17 x18 x19 x20 x21 x22 x23 x24 x25:AV),GF K=z→Kn c m i s K→BG b s0 s→(ag=false→∀L∈cs,mn K L) →
   WC E none (.loop OQ) Q [v0,.slice a1 cs.length cap1,v2,v3,PK i m,v5,.bool ag,x7,x8,x9,x10,x11,v12,v13,v14,x15,x16,x17,x18,x19,x20,x21,x22,x23,x24,x25] [] s:=by
 intro z
 induction z using Nat.strongRecOn with
 | _ z ih =>
 intro s K ag x7 x8 x9 x10 x11 x15 x16 x17 x18 x19 x20 x21 x22 x23 x24 x25 hz hK hold hok
 cases ag with
 | false=>exact absurd hup (Lv (fun y hy=>⟨hc y hy,hK.neg y hy⟩) fun L hL=>⟨fun y hy=>((hcs L hL).1 y hy).1,hok rfl L hL⟩)
 | true =>
  refine WC.loop' ?_
  generalize hW:WC E none (Ac.loop OQ) Q=W at ih ⊢
  simp only[OQ,Zi,Zj,Zk,Qa,Qb,Qc,Qd,Qf,Qh,Qi,Qj,Qm,Qn,true_and,Qo,Qp,Qq,Qr,Qs,Qu,Qw,Qy]
  refine TI hE hbi hm (z0:=z) hrows hcs hcl _ _ _ _ _ _ _ _ ?_ ?_ cs 0 s K false _ _ _ _ _ _ _ _ _ _ _ _ _ _ rfl (qO _) hK hold (fun _ L hL=>(by simp at hL)) (fun q=>by cases q) (by omega)
  ·intro s' y4 y6 y7 y8 y9 y10 y11 y16 y17 y18 y19 y20 y21 y22 y23 y24 y25 ho
   simp only[Qx,Ra]
   exact hret _ _ _ _ _ _ _ _ _ _ _ _ _ _ _ _ _ _ _ ho
  ·intro s' K' ag' y7 y8 y9 y10 y11 y16 y17 y18 y19 y20 y21 y22 y23 y24 y25 g1 g2 g3 g4 g5
   simp only[if_true,Qw,Qy,Qz,Rb]
   subst hW
   cases ag' with
   | true=>exact ih (GF K') (g4 rfl) s' K' true _ _ _ _ _ _ _ _ _ _ _ _ _ _ _ _ rfl g1 g2 fun q=>by cases q
   | false=>exact absurd hup (Lv (fun y hy=>⟨hc y hy,g1.neg y hy⟩) fun L hL=>⟨fun y hy=>((hcs L hL).1 y hy).1,g3 rfl L hL⟩)
theorem aj(hE:Good E){s:AF}{b n:Nat}(hb:b≤s.next)(hn:n≤1000){cs:List (List Int)}{c:List Int}(hcs:∀L∈cs,(∀y∈L,VL n y)∧L.length≤1000000)(hcl:cs.length≤1000000)(hc:∀y∈c,VL n y)(hcc:c.length≤1000000)(hup:Ht cs c){v u:AV}(hv:N6 b s v cs)(hu:AX b s u (Ax c)):
  WF E 81 [iv (n:Int),v,u] (fun r s'=>r=.bool true∧BG s.next s s') s:=by
 obtain⟨a1,cap1,rfl,hrows⟩:=hv
 obtain⟨a2,cap2,rfl,hcells⟩:=hu
 have hln:(Ax c).length=c.length:=qK _
 rw[hln]
 have e1:=Ai Try.prog 3 (n:Int) 1 ⟨by omega,by omega⟩
 have hcast:((n:Int)+1)=((n+1:Nat):Int):=by omega
 have hmk:=MJ (m:=n+1) (by omega)
 have hmv:∀ (m:Nat) (i:Nat),Made.val i (.slice m)=.slice (some (i,0)) m (some m):=fun _ _=>rfl
 have vl:∀ {y:Int},VL n y→y≠0∧y.natAbs<n+1:=fun h=>⟨h.1,by have:=h.2;omega⟩
 have hrow:=Nc (s:=s) (m:=n+1)
 have ho:=BG.new s (AO 3 1 (Ax (List.replicate (n+1) 0)))
 have hrows0:EG s.next s a1 cs:=hrows.mono hb
 have hcells0:Ay s.next s a2 (Ax c):=hcells.mono hb
 refine hE.go mA (by decide) rfl ?_
 simp only[pz,jP,jQ,e1,hcast,hmk,hmv,BV,jR,Qa,Qb,Qc,Qd,Qf,Qh,Qi,Qj,Qk,Ql,Qm,Qn,true_and,Qo,Qp,Qq,Qs,Qw,Rc,Rf,Rg,Rh,Yc]
 refine RV hE (b:=s.next) (i:=s.next) (m:=n+1) (s0:=s) (qI _) (by omega) (fun y hy=>vl (hc y hy)) hcc (cap2:=cap2) hcells0 _ _ _ _ _ _ _ _ _ _ _ _ _ _ _ _ _ _ _ _ ?_ ?_ c 0 _ (List.replicate (n+1) 0) _ _ _ rfl (qO _) ⟨hrow,fun y hy=>.inr (.inl (sE hy)),rQ,fun y hy=>(by simp at hy)⟩ ho
 ·intro s' y4 y5 y12 y13 y14 hold
  simp only[Qj,Qm,true_and,Qq,Qr,Qx,Ra,Rc,Re,Rf,Rg,Rh,Yc]
  exact hold
 ·intro s' K y5 y12 y13 y14 hK hold
  simp only[if_true,Zh,Qb,Qc,Qd,Qf,Qh,Qi,Qm,Qn,true_and,Qo,Qp,Qs,Qw,Qy,Rb]
  refine Tn hE (b:=s.next) (i:=s.next) (m:=n+1) (s0:=s) (qI _) (by omega) (cap1:=cap1) hrows0 (fun L hL=>⟨fun y hy=>vl ((hcs L hL).1 y hy),(hcs L hL).2⟩) hcl (fun y hy=>(hc y hy).1) hup _ _ _ _ _ _ _ ?_ (GF K) s' K true _ _ _ _ _ _ _ _ _ _ _ _ _ _ _ _ rfl hK hold (fun q=>by cases q)
  intro s2 y4 y6 y7 y8 y9 y10 y11 y15 y16 y17 y18 y19 y20 y21 y22 y23 y24 y25 hold2
  simp only[Qj,Qm,true_and,Qq,Qr,Qx,Ra,Rc,Re,Rf,Rg,Rh,Yc]
  exact hold2
end
def Eg:List Int→List Int→List Int
 | u::U,y::b=>if u=0 then y::Eg U b else Eg U b
 | _,_=>[]
theorem Jy:∀b:List Int,Eg (List.replicate b.length 0) b=b
 | []=>rfl
 | y::b=>by
  show(if (0:Int)=0 then y::Eg (List.replicate b.length 0) b else _)=_
  rw[if_pos rfl,Jy b]
theorem Jz        : ∀ {U b : List Int} {x : Int}, x ∈ Eg    U b → ∃ k : Nat, U[k]? = some 0 ∧ b[k]? = some x
  | [],b,x,h=>by cases b<;>cases h
  | u::U,[],x,h=>by cases h
  | u :: U, y :: b, x, h => by
    unfold Eg at h
    split at h
    · rename_i hu
      rcases qp.1 h with e | e
      · exact⟨0,by rw[hu];rfl,by rw[e];rfl⟩
      · obtain⟨k,q1,q2⟩:=Jz e
        exact⟨k+1,q1,q2⟩
    · obtain⟨k,q1,q2⟩:=Jz h
      exact⟨k+1,q1,q2⟩
theorem Np:∀ {U b:List Int}{k:Nat}{x:Int},U[k]? = some 0→b[k]? = some x→(Eg U b).Perm (x::Eg (U.set k 1) b)
 | [],b,k,x,h,_=>by simp at h
 | u::U,[],k,x,_,h=>by simp at h
 | u::U,y::b,0,x,h,hx=>by
  injection h with h
  injection hx with hx
  subst h;subst hx
  show(if (0:Int)=0 then y::Eg U b else _).Perm (y::if (1:Int)=0 then _ else Eg U b)
  rw[if_pos rfl,if_neg (by decide)]
 | u::U,y::b,k+1,x,h,hx=>by
  have ih:=Np (U:=U) (b:=b) (k:=k) h hx
  show(if u=0 then y::Eg U b else Eg U b).Perm (x::if u=0 then y::Eg (U.set k 1) b else Eg (U.set k 1) b)
  split
  ·exact(ih.cons y).trans (List.Perm.swap x y _)
  ·exact ih
section
variable{E:BN}
theorem WB(hE:Good E){s:AF}{B:List Int}{a2:Option (Nat×Nat)}{cap2:Option Nat}{k:Nat}(v0 v2 v3 v4 v7 v8 x9 x10 v11:AV){Q:A0→Prop}
  (hq:∀y9,Q ⟨.exit 2,[v0,.slice a2 B.length cap2,v2,v3,v4,.bool true,iv (k:Int),v7,v8,y9,x10,v11],[],s⟩):
  WC E none (.loop Fq) Q [v0,.slice a2 B.length cap2,v2,v3,v4,.bool true,iv (k:Int),v7,v8,x9,x10,v11] [] s:=by
 refine WC.loop' ?_
 by_cases hk:k<B.length
 ·have d1:decide ((k:Int)<(B.length:Int))=true:=decide_eq_true (by omega)
  simp only[Fq,LQ,AW Try.underlying23,d1,Rx,Rn,Qa,Qb,Qc,Qd,Qf,Qg,Qh,Qi,Qj,Qk,Qm,Qn,true_and,Qo,Qp,Qq,Qr,Qs,Qv,Qw,Qy,Qz,Rl,Ya,Rn,Ro,Rq,Rx]
  exact hq _
 ·have d1:decide ((k:Int)<(B.length:Int))=false:=decide_eq_false (by omega)
  simp only[Fq,LQ,AW Try.underlying23,d1,Rn,Qa,Qb,Qc,Qd,Qf,Qg,Qh,Qi,Qj,Qk,Qm,Qn,true_and,Qo,Qp,Qq,Qr,Qs,Qt,Qv,Qw,Qy,Qz,Rl,Rn,Ro,Rq]
  exact hq _
theorem eo      (hE : Good E) {b0 j : Nat} (hbj : b0 ≤ j) {s : AF}  {A B U : List Int} (hB : B.length ≤ 1000000) {a1 a2 : Option (Nat × Nat)} {cap1 cap2 : Option Nat} (hc1 : Ay      b0 s a1 (Ax  A)) (hc2 : Ay      b0 s a2 (Ax  B)) (hU : BP    s j (Ax  U)) (hUl : U.length = B.length) {i : Nat} {x : Int} (hx : A[i]? = some x)
    (v2 v7 v8 v11:AV) {Q:A0→Prop}
    (hq:∀s' U' found y6 y9 y10,(found=true→∃k:Nat,U[k]? = some 0∧B[k]? = some x∧U'=U.set k 1)→(found=false→∀k:Nat,U[k]? = some 0→B[k]? = some x→False)→BP s' j (Ax U')→U'.length=B.length→BG b0 s s'→Q ⟨.exit 2,[.slice a1 A.length cap1,.slice a2 B.length cap2,v2,PK j B.length,iv (i:Int),.bool found,y6,v7,v8,y9,y10,v11],[],s'⟩):
    ∀ (l:List Int) (k:Nat) (x9 x10:AV),B.drop k=l→k≤B.length→(∀k':Nat,k'<k→U[k']? = some 0→B[k']? = some x→False) →
      WC E none (.loop Fq) Q [.slice a1 A.length cap1,.slice a2 B.length cap2,v2,PK j B.length,iv (i:Int),.bool false,iv (k:Int),v7,v8,x9,x10,v11] [] s:=by
  intro l
  induction l with
  | nil =>
    intro k x9 x10 hd hk hno
    have:=CH hd hk
    subst this
    refine WC.loop' ?_
    simp only[Fq,LQ,AW Try.underlying23,qd,decide_false,Rn,Qa,Qb,Qc,Qd,Qf,Qg,Qh,Qi,Qj,Qk,Qm,Qn,true_and,Qo,Qp,Qq,Qr,Qs,Qt,Qv,Qw,Qy,Qz,Rl,Rn,Ro,Rq]
    refine hq s U false _ _ _ (fun q=>by cases q) (fun _ k q1 q2=>hno k ?_ q1 q2) hU hUl (BG.refl _ _)
    exact Ag q2
  | cons y l ih =>
    intro k x9 x10 hd hk hno
    obtain⟨hlt,hy,hd'⟩:=Be hd
    have hkk:decide ((k:Int)<(B.length:Int))=true:=decide_eq_true (by omega)
    have e3:=Ai Try.prog 3 (k:Int) 1 ⟨by omega,by omega⟩
    have hcast:((k:Int)+1)=((k+1:Nat):Int):=by omega
    have hku:k<U.length:=by omega
    have hgu:=AR (d:=(0:Int)) hku
    generalize U.getD k 0=u at hgu
    have i3:AC Try.prog 23 (PK j B.length) (iv (k:Int))=some (.ptr (some (j,0+k * 1))):=Al (P:=Try.prog) Try.underlying23 Bt hlt
    have l3:=hU.load (Au hgu)
    obtain⟨i1,o1,rfl,_,hl1⟩:=hc1 i _ (Au hx)
    have i1':=Al (P:=Try.prog) (cap:=cap1) (i:=i1) (o:=o1) Try.underlying23 Bt (Ag hx)
    have l1:AD Try.prog s 3 (.ptr (some (i1,o1+i * 1)))=some (iv x):=A4 Dg (by rw[qa];exact hl1)
    obtain⟨i2,o2,rfl,_,hl2⟩:=hc2 k _ (Au hy)
    have i2':=Al (P:=Try.prog) (cap:=cap2) (i:=i2) (o:=o2) Try.underlying23 Bt hlt
    have l2:AD Try.prog s 3 (.ptr (some (i2,o2+k * 1)))=some (iv y):=A4 Dg (by rw[qa];exact hl2)
    refine WC.loop' ?_
    generalize hW:WC E none (Ac.loop Fq) Q=W at ih ⊢
    by_cases hu:u=0
    · subst hu
      by_cases hxy:x=y
      · subst hxy
        obtain⟨s',p1,p2,p3,p4⟩:=Jm hU hku 1
        have p1':AM Try.prog s 3 (.ptr (some (j,0+k * 1))) (.int .i64 1)=some s':=p1
        simp only[Fq,LQ,AW Try.underlying23,hkk,Rx,Rn,Ub,i3,l3,i1',l1,i2',l2,decide_true,Zb,p1',BV,AU,Zc,OP,e3,hcast,Qa,Qb,Qc,Qd,Qf,Qg,Qh,Qi,Qj,Qk,Qm,Qn,true_and,Qo,Qp,Qq,Qr,Qs,Qu,Qw,Qy,Qz,Rl,Yb,Rn,Ro,Rq,Rv,Rx]
        subst hW
        refine WB hE (k:=k+1) _ _ _ _ _ _ _ _ _ fun y9=>?_
        exact hq s' (U.set k 1) true _ _ _ (fun _=>⟨k,hgu,hy,rfl⟩) (fun q=>by cases q) p2 (by rw[qQ];exact hUl) ⟨by omega,fun z hz=>p4 z (by omega)⟩
      · have d2:decide (x=y)=false:=decide_eq_false hxy
        simp only[Fq,LQ,AW Try.underlying23,hkk,Rx,Rn,Ub,i3,l3,i1',l1,i2',l2,decide_true,d2,OP,e3,hcast,Qa,Qb,Qc,Qd,Qf,Qg,Qh,Qi,Qj,Qk,Qm,Qn,true_and,Qo,Qp,Qq,Qr,Qs,Qu,Qv,Qw,Qy,Qz,Rl,Yb,Rn,Ro,Rq,Rv,Rx]
        subst hW
        refine ih (k+1) _ _ hd' hlt fun k' hk' q1 q2=>?_
        rcases qN k' k with z | z
        · exact hno k' z q1 q2
        · have:k'=k:=by omega
          subst this
          rw[hy]at q2
          injection q2 with q2
          exact hxy q2.symm
    · have d1:decide (u=0)=false:=decide_eq_false hu
      simp only[Fq,LQ,AW Try.underlying23,hkk,Rx,Rn,Ub,i3,l3,d1,OP,e3,hcast,Qa,Qb,Qc,Qd,Qf,Qg,Qh,Qi,Qj,Qk,Qm,Qn,true_and,Qo,Qp,Qq,Qr,Qs,Qt,Qu,Qv,Qw,Qy,Qz,Rl,Yb,Rn,Ro,Rq,Rv,Rx]
      subst hW
      refine ih (k+1) _ _ hd' hlt fun k' hk' q1 q2=>?_
      rcases qN k' k with z | z
      · exact hno k' z q1 q2
      · have:k'=k:=by omega
        subst this
        rw[hgu]at q1
        injection q1 with q1
        exact hu q1
theorem cA       (hE : Good E) {b0 j : Nat} (hbj : b0 ≤ j) {s0 : AF}  {A B : List Int} (hl : A.length = B.length) (hB : B.length ≤ 1000000) {a1 a2 : Option (Nat × Nat)} {cap1 cap2 : Option Nat} (hc1 : Ay      b0 s0 a1 (Ax  A)) (hc2 : Ay      b0 s0 a2 (Ax  B))
    (v2 v7:AV) {Q:A0→Prop}
    (hq:∀s' e y2 y4 y5 y6 y8 y9 y10 y11,(e=.ret∧¬ A.Perm B∧y2=.bool false∨e=.exit 0∧A.Perm B)→BG b0 s0 s'→Q ⟨e,[.slice a1 A.length cap1,.slice a2 B.length cap2,y2,PK j B.length,y4,y5,y6,v7,y8,y9,y10,y11],[],s'⟩):
    ∀ (l:List Int) (i:Nat) (s:AF) (U:List Int) (x5 x6 x8 x9 x10 x11:AV),A.drop i=l→i≤A.length→BP s j (Ax U)→U.length=B.length→BG b0 s0 s→(A.Perm B↔l.Perm (Eg U B))→(Eg U B).length+i=B.length →
      WC E none (.loop LP) Q [.slice a1 A.length cap1,.slice a2 B.length cap2,v2,PK j B.length,iv (i:Int),x5,x6,v7,x8,x9,x10,x11] [] s:=by
  intro l
  induction l with
  | nil =>
    intro i s U x5 x6 x8 x9 x10 x11 hd hi hU hUl hold hiff hlen
    have:=CH hd hi
    subst this
    refine WC.loop' ?_
    simp only[LP,Zg,AW Try.underlying23,qd,decide_false,Qa,Qb,Qc,Qd,Qf,Qh,Qj,Qk,Qm,Qn,true_and,Qo,Qp,Qq,Qr,Qs,Qv,Qw,Qx,Qy,Qz,Ra,Rq]
    refine hq s _ _ _ _ _ _ _ _ _ (.inr ⟨rfl,hiff.2 ?_⟩) hold
    rw[List.length_eq_zero_iff.1 (show(Eg U B).length=0 by omega)]
  | cons x l ih =>
    intro i s U x5 x6 x8 x9 x10 x11 hd hi hU hUl hold hiff hlen
    obtain⟨hlt,hx,hd'⟩:=Be hd
    have hii:decide ((i:Int)<(A.length:Int))=true:=decide_eq_true (by omega)
    have e3:=Ai Try.prog 3 (i:Int) 1 ⟨by omega,by omega⟩
    have hcast:((i:Int)+1)=((i+1:Nat):Int):=by omega
    have c1:=hc1.old hold (qI _)
    have c2:=hc2.old hold (qI _)
    refine WC.loop' ?_
    generalize hW:WC E none (Ac.loop LP) Q=W at ih ⊢
    simp only[LP,Zg,AW Try.underlying23,hii,jN,jO,Qa,Qb,Qc,Qd,Qf,Qh,Qi,Qj,Qk,Qm,Qn,true_and,Qo,Qp,Qq,Qr,Qs,Qu,Qw,Qx,Qy,Qz,Ra,Rq]
    refine eo hE hbj hB (cap1:=cap1) (cap2:=cap2) c1 c2 hU hUl hx _ _ _ _ ?_ B 0 _ _ rfl (qO _) (fun k' q=>(by omega))
    intro s' U' found y6 y9 y10 h1 h2 h3 h4 h5
    cases found with
    | true =>
      obtain⟨k,q1,q2,rfl⟩:=h1 rfl
      have hp:=Np q1 q2
      simp only[if_true,S5,Rx,Bool.not_true,Ze,e3,hcast,Qb,Qc,Qd,Qf,Qh,Qi,Qj,Qk,Qm,Qn,true_and,Qo,Qp,Qq,Qr,Qs,Qv,Qw,Qy,Rb,Ya,Rx]
      subst hW
      refine ih (i+1) s' (U.set k 1) _ _ _ _ _ _ hd' hlt h3 h4 (hold.trans h5) (hiff.trans ⟨fun q=>?_,fun q=>?_⟩) ?_
      · exact(q.trans hp).cons_inv
      · exact(q.cons x).trans hp.symm
      · have:=hp.length_eq
        rw[qh]at this
        omega
    | false =>
      simp only[if_true,S5,Rx,Bool.not_false,Zd,Qb,Qc,Qd,Qf,Qh,Qi,Qj,Qm,Qn,true_and,Qo,Qp,Qq,Qr,Qs,Qu,Qw,Qy,Rb,Yb,Rx]
      refine hq s' _ _ _ _ _ _ _ _ _ (.inl ⟨rfl,fun q=>?_,rfl⟩) (hold.trans h5)
      have:=(hiff.1 q).mem_iff.1 (qR (a:=x))
      obtain⟨k,q1,q2⟩:=Jz this
      exact h2 rfl k q1 q2
theorem WA        (hE : Good E) {s : AF}  {b : Nat} (hb : b ≤ s.next) {A B : List Int} (hA : A.length ≤ 1000000) (hB : B.length ≤ 1000000) {v u : AV} (hv : AX      b s v (Ax  A)) (hu : AX      b s u (Ax  B)) :
    WF E 80 [v,u] (fun r s'=>r=.bool (A.isPerm B)∧BG s.next s s') s:=by
  obtain⟨a1,cap1,rfl,hc1⟩:=hv
  obtain⟨a2,cap2,rfl,hc2⟩:=hu
  have hl1:(Ax A).length=A.length:=qK _
  have hl2:(Ax B).length=B.length:=qK _
  rw[hl1,hl2]
  have hmk:=MJ (m:=B.length) hB
  have hmv:∀ (m:Nat) (i:Nat),Made.val i (.slice m)=.slice (some (i,0)) m (some m):=fun _ _=>rfl
  refine hE.go l7 (by decide) rfl ?_
  by_cases hl:A.length=B.length
  · have hne : decide ((A.length : Int) ≠ (B.length : Int)) = false := decide_eq_false fun q => q (by omega)
    have ho:=BG.new s (AO 3 1 (Ax (List.replicate B.length 0)))
    simp only[pF,ZZ,Za,AW Try.underlying23,hne,jL,hmk,hmv,BV,jM,Qa,Qb,Qc,Qd,Qf,Qh,Qi,Qj,Qk,Ql,Qm,Qn,true_and,Qo,Qp,Qq,Qr,Qs,Qv,Qw,Qx,Rc,Rf,Rg,Rh,Yc,Rw]
    refine cA hE (b0:=s.next) (j:=s.next) (qI _) hl hB (cap1:=cap1) (cap2:=cap2) (s0:=s) (hc1.mono hb) (hc2.mono hb) _ _ ?_ A 0 _ (List.replicate B.length 0) _ _ _ _ _ _ rfl (qO _) Nc rQ ho (by rw[Jy]) (by rw[Jy];rfl)
    intro s' e y2 y4 y5 y6 y8 y9 y10 y11 hc hold
    rcases hc with⟨rfl,q1,rfl⟩ | ⟨rfl,q1⟩
    · simp only[Qj,Qm,Qq,Qr,Qx,Ra,Rc,Re,Rf,Rg,Rh,Yc]
      have:A.isPerm B=false:=by
        cases hp:A.isPerm B with
        | false=>rfl
        | true=>exact absurd (List.isPerm_iff.1 hp) q1
      exact⟨by rw[this],hold⟩
    · simp only[if_true,Zf,Qb,Qc,Qd,Qf,Qh,Qi,Qm,Qn,true_and,Qo,Qp,Qq,Qr,Qs,Qw,Qy,Rb,Re]
      exact⟨by rw[List.isPerm_iff.2 q1],hold⟩
  · have hne:decide ((A.length:Int)≠(B.length:Int))=true:=decide_eq_true (by omega)
    simp only[pF,ZZ,Za,AW Try.underlying23,hne,jK,Qa,Qb,Qc,Qd,Qf,Qh,Qi,Qj,Qk,Ql,Qm,Qn,true_and,Qo,Qp,Qq,Qr,Qs,Qu,Qw,Qx,Rc,Re,Rf,Rg,Rh,Yc,Rw]
    have:A.isPerm B=false:=by
      cases hp:A.isPerm B with
      | false=>rfl
      | true=>exact absurd (List.isPerm_iff.1 hp).length_eq hl
    exact⟨by rw[this],BG.refl _ _⟩
end
set_option maxRecDepth 8000 in
theorem Wa{E:BN}{s:AF}{n:Nat}{us:List AV}{O:List Nat}{v:AV}(hd:B8 s v n 1 us O)(hus:us.length≤1000000)(hcell:Ak us=true){k:Nat}(hk:k<n)(v0 v1 v2 v3 v5 v6 v7 v9 v10 v11 v12 v13:AV){K:List AV→AF→Prop}
  (hK:∀v' s' O',B8 s' v' (us.take k++us.drop (k+1)).length 1 (us.take k++us.drop (k+1)) O'→(∀j∈O',s.next≤j)→BG s.next s s'→K [v0,v1,v2,v3,v',v5,v6,v7,iv (k:Int),v9,v10,v11,v12,v13] s'):
  Qb E Sk K [] [v0,v1,v2,v3,v,v5,v6,v7,iv (k:Int),v9,v10,v11,v12,v13] s:=by
 have hn:us.length=n:=by have:=hd.len;omega
 obtain⟨ax,cx,q1,q2,q3⟩:=cE (P:=Try.prog) (t:=22) Try.underlying22 CL hd (Nat.le_of_lt hk)
 obtain⟨ay,cy,p1,p2,p3⟩:=cF (P:=Try.prog) (t:=22) (k:=k+1) Try.underlying22 CL hd hk
 have hslot:=hd.slot_lt
 have b0:=K2 (P:=Try.prog) (t:=22) Try.underlying22 CL Wd rfl
 have d0:=Lf (s:=s) (ty:=23)
 generalize hs1:newObj s (AO 23 1 [])=s1 at d0
 have n1:s1.next=s.next+1:=by rw[← hs1];rfl
 have o1:∀j,j<s.next→s1.heap.get j=s.heap.get j:=fun j hj=>by rw[← hs1,AQ,if_neg (by omega)]
 have q4:=q3 s1 fun j hj=>o1 j (hslot j hj)
 have p4:=(p3 s1 fun j hj=>o1 j (hslot j hj)).1
 have hct:Ak (us.take k)=true:=by
  have:us.take k++us.drop k=us:=rg k us
  rw[← this]at hcell
  have:∀ {a b:List AV},Ak (a++b)=true→Ak a=true:=by
   intro a b
   induction a with
   | nil=>intro _;rfl
   | cons x a ih=>intro h;simp only[rK,Ak,Bool.and_eq_true]at h ⊢;exact⟨h.1,ih h.2⟩
  exact this hcell
 have hcd:Ak (us.drop (k+1))=true:=by
  have:us.take (k+1)++us.drop (k+1)=us:=rg (k+1) us
  rw[← this]at hcell
  have:∀ {a b:List AV},Ak (a++b)=true→Ak b=true:=by
   intro a b
   induction a with
   | nil=>intro h;exact h
   | cons x a ih=>intro h;simp only[rK,Ak,Bool.and_eq_true]at h;exact ih h.2
  exact this hcell
 obtain⟨va,s3,Oa,a1,a2,a3,a4,a5,a6,a7⟩:=d0.append (P:=Try.prog) (st:=22) (xt:=22) Try.underlying22 CL Wz (by decide) (Ke 22 23 Try.underlying22) Ms q4.2 (by simp;omega) hct (by omega) (by omega)
 have Oa_new:∀j∈Oa,s1.next≤j:=fun j hj=>(a6 j hj).elim (fun h=>by cases h) id
 have o3:∀j,j<s.next→s3.heap.get j=s.heap.get j:=fun j hj=>(a5 j (by omega) (by simp)).trans (o1 j hj)
 have p5:=p3 s3 fun j hj=>o3 j (hslot j hj)
 obtain⟨vc,s5,Oc,e1,e2,e3,e4,e5,e6,e7⟩:=a2.append (P:=Try.prog) (st:=22) (xt:=22) Try.underlying22 CL Wz (by decide) (Ke 22 23 Try.underlying22) Ms p5.2 (by simp;omega) hcd (by omega) (by omega)
 have o5:∀j,j<s.next→s5.heap.get j=s.heap.get j:=fun j hj=>(e5 j (by omega) (fun h=>by have:=Oa_new j h;omega)).trans (o3 j hj)
 have hlast:(0+k+(n - (k+1)))=(us.take k++us.drop (k+1)).length:=by simp;omega
 rw[hlast,qo]at e2
 have hmv:∀ (m:Nat) (i:Nat),Made.val i (.slice m)=.slice (some (i,0)) m (some m):=fun _ _=>rfl
 have hadd:=Ai Try.prog 3 (k:Int) 1 ⟨by omega,by omega⟩
 have hcast:((k:Int)+1)=((k+1:Nat):Int):=by omega
 simp only[Sk,b0,hs1,hmv,q4.1,hadd,hcast,p4,a1,p5.1,e1,Kg,At,p1,Qb,Qc,Qd,Qf,Qh,Qi,Qj,Qk,Qm,Qn,true_and,and_true,Qo,Qp,Qq,Qr,Qs,Yc]
 exact hK vc s5 Oc e2 (fun j hj=>(e6 j hj).elim (fun h=>by have:=Oa_new j h;omega) (fun h=>by omega)) ⟨by omega,o5⟩
theorem No{L:List Int}:∀ {M:List (List Int)},(∀N∈M,N.isPerm L=false)→Gj M L=M
 | [],_=>rfl
 | N::M,h=>by
  unfold Gj
  rw[if_neg (by rw[h N qR];decide),No fun x hx=>h x (qS _ hx)]
theorem U3{L:List Int}:∀ {M:List (List Int)}{q:Nat}{N:List Int},(∀x∈M.take q,x.isPerm L=false)→M[q]? = some N→N.isPerm L=true→Gj M L=M.take q++M.drop (q+1)
 | [],q,N,_,h,_=>by simp at h
 | P::M,0,N,_,h,hp=>by
  injection h with h
  subst h
  unfold Gj
  rw[if_pos hp]
  rfl
 | P::M,q+1,N,hn,h,hp=>by
  unfold Gj
  rw[if_neg (by rw[hn P (by simp)];decide),U3 (q:=q) (fun x hx=>hn x (by rw[List.take_succ_cons];exact qS _ hx)) h hp]
  rfl
section
variable{E:BN}
theorem Tr         (hE : Good E) {s0 : AF}  {b : Nat} (hb : b ≤ s0.next) {us : List AV} {cs M : List (List Int)} {L : List Int} {v u : AV} {O : List Nat} (hd : B8   s0 v us.length 1 us O) (hr : An       b s0 us (cs ++ M)) (hu : AX      b s0 u (Ax  L)) (hlen : (cs ++ M).length ≤ 1000000) (hel : ∀ N ∈ cs ++ M, N.length ≤ 1000000) (hL : L.length ≤ 1000000) {bx : Nat} (hld : ∀ s', BG  s0.next s0 s' → AD    Try.prog s' 23 (.ptr (some (bx, 0 + 1))) = some u)
    (v0 v1 v2 v3 v5 v6 v9 v10 v13:AV) {Q:A0→Prop}
    (hq:∀s' v' us' O' y8 y11 y12,B8 s' v' us'.length 1 us' O'→An b s' us' (cs++Gj M L)→(∀j∈O',j∈O∨s0.next≤j)→BG s0.next s0 s'→Q ⟨.exit 2,[v0,v1,v2,v3,v',v5,v6,.ptr (some (bx,0)),y8,v9,v10,y11,y12,v13],[],s'⟩):
    ∀ (l:List (List Int)) (q:Nat) (s:AF) (x11 x12:AV),M.drop q=l→q≤M.length→BG s0.next s0 s→(∀x∈M.take q,x.isPerm L=false) →
      WC E none (.loop LJ) Q [v0,v1,v2,v3,v,v5,v6,.ptr (some (bx,0)),iv ((cs.length+q:Nat):Int),v9,v10,x11,x12,v13] [] s:=by
  have husl:us.length=cs.length+M.length:=by rw[hr.1,qM]
  have hlen':cs.length+M.length≤1000000:=by rw[← qM];exact hlen
  intro l
  induction l with
  | nil =>
    intro q s x11 x12 hdr hqq hold hno
    have:=CH hdr hqq
    subst this
    rw[qr]at hno
    have hds:B8 s v us.length 1 us O:=hd.frame hold.1 fun j hj=>hold.2 j (hd.slot_lt j hj)
    obtain⟨a,cap,hve,hcells⟩:=hds.cells
    have hln:Aq Try.prog s 22 v=some (iv ((cs.length+M.length:Nat):Int)):=by rw[hve,← husl];exact AW Try.underlying22
    refine WC.loop' ?_
    simp only[LJ,Yr,hln,qd,decide_false,Qa,Qb,Qc,Qd,Qf,Qh,Qj,Qk,Qm,Qn,true_and,Qo,Qp,Qq,Qr,Qs,Qv,Qw,Qy,Qz,Rb,Rq]
    exact hq s v us O _ _ _ hds (by rw[No hno];exact hr.old (hold.mono hb)) (fun j hj=>.inl hj) hold
  | cons N l ih =>
    intro q s x11 x12 hdr hqq hold hno
    obtain⟨hlt,hx,hdr'⟩:=Be hdr
    have hds:B8 s v us.length 1 us O:=hd.frame hold.1 fun j hj=>hold.2 j (hd.slot_lt j hj)
    have hrs:An b s us (cs++M):=hr.old (hold.mono hb)
    have hNx:(cs++M)[cs.length+q]? = some N:=by rw[qY (by omega),show cs.length+q - cs.length=q by omega];exact hx
    obtain⟨w,hw1,hw2⟩:=hrs.2 _ N hNx
    obtain⟨a,cap,hve,hcells⟩:=hds.cells
    obtain⟨i,o,hae,hi,hload⟩:=hcells _ w hw1
    have hltu:cs.length+q<us.length:=by omega
    have hln:Aq Try.prog s 22 v=some (iv ((cs.length+M.length:Nat):Int)):=by rw[hve,← husl];exact AW Try.underlying22
    have e1:AC Try.prog 22 v (iv ((cs.length+q:Nat):Int))=some (.ptr (some (i,o+(cs.length+q) * 1))):=by rw[hve,hae];exact Al Try.underlying22 CL hltu
    have e2:AD Try.prog s 23 (.ptr (some (i,o+(cs.length+q) * 1)))=some w:=A4 DN (by rw[qa];exact hload)
    have hkk:decide (((cs.length+q:Nat):Int)<((cs.length+M.length:Nat):Int))=true:=decide_eq_true (by omega)
    have e3:=Ai Try.prog 3 ((cs.length+q:Nat):Int) 1 ⟨by omega,by omega⟩
    have hcast:(((cs.length+q:Nat):Int)+1)=((cs.length+(q+1):Nat):Int):=by omega
    have hsame:=WA hE (qV hb hold.1) (A:=N) (B:=L) (hel N (qL hNx)) hL hw2 (hu.old (hold.mono hb) (qI _))
    refine WC.loop' ?_
    generalize hW:WC E none (Ac.loop LJ) Q=W at ih ⊢
    simp only[LJ,Yr,hln,hkk,gZ,e1,e2,Ll,hld s hold,Qa,Qb,Qc,Qd,Qf,Qh,Qj,Qk,Qm,Qn,true_and,Qo,Qp,Qq,Qr,Qs,Qu,Qw,Qy,Qz,Rb,Rq]
    refine hsame.mono ?_
    rintro _ s1 ⟨rfl,h1⟩
    have hold1:BG s0.next s0 s1:=hold.trans (h1.mono hold.1)
    cases hp:N.isPerm L with
    | true =>
      have My:B8 s1 v us.length 1 us O:=hd.frame hold1.1 fun j hj=>hold1.2 j (hd.slot_lt j hj)
      simp only[Qd,Qn,true_and,Qo,Qp,Qq,Qr,Qu]
      refine Wa My (by omega) hr.cells hltu _ _ _ _ _ _ _ _ _ _ _ _ ?_
      intro v' s2 O' k1 k2 k3
      have hold2:BG s0.next s0 s2:=hold1.trans (k3.mono hold1.1)
      simp only[show(2:Nat)≠3 by decide,if_false]
      refine hq s2 v' _ O' _ _ _ k1 ?_ (fun j hj=>.inr (by have:=k2 j hj;have:=hold1.1;omega)) hold2
      have hrr:=hr.old (hold2.mono hb)
      have e:cs++Gj M L=(cs++M).take (cs.length+q)++(cs++M).drop (cs.length+q+1):=by
        rw[U3 hno hx hp,List.take_append,rq]
        have t1:cs.take (cs.length+q)=cs:=ry (by omega)
        have t2:cs.drop (cs.length+q+1)=[]:=ru (by omega)
        rw[t1,t2,show cs.length+q - cs.length=q by omega,show cs.length+q+1 - cs.length=q+1 by omega,qo,qz]
      rw[e]
      exact(hrr.take _).append (hrr.drop _)
    | false =>
      simp only[Yl,e3,hcast,Qb,Qc,Qd,Qf,Qh,Qi,Qj,Qk,Qm,Qn,true_and,Qo,Qp,Qq,Qr,Qs,Qv]
      subst hW
      refine ih (q+1) s1 _ _ hdr' hlt hold1 fun x hxm=>?_
      rw[FB hx]at hxm
      rcases List.mem_append.1 hxm with z | z
      · exact hno x z
      · rw[List.mem_singleton.1 z];exact hp
end
end
end Go.Proofs.Ytilhhmkdcoajnaa.Am
