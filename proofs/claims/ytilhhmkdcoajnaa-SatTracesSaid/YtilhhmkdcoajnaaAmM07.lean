/- The solver's propagate; conditions: its state fits. -/
import Derived.Test.YtilhhmkdcoajnaaAmM06
import Derived.Test.YtilhhmkdcoajnaaAmM05
set_option linter.unusedVariables false
set_option linter.unusedSimpArgs false
set_option maxRecDepth 16000
namespace Go.Proofs.Ytilhhmkdcoajnaa.Am
open Go Go.Proofs
noncomputable section
def B3(v:Sv)(w:Nat):Sv:={ v with head:=v.head+1,watches:=v.watches.set w [] }
def MR(w:Nat)(r:List Nat×Option Nat×Sv):Option Nat×Sv:=
 (r.2.1,match r.2.1 with
 | none=>setW r.2.2 (r.2.2.watches.set w r.1)
 | some _=>{ setW r.2.2 (r.2.2.watches.set w r.1)with head:=(r.2.2.trail.length:Int) })
def A5(v:Sv):Option Nat×Sv:=MR (place (-(v.trail.getD v.head.toNat 0))) (A1 (-(v.trail.getD v.head.toNat 0)) (v.watches.getD (place (-(v.trail.getD v.head.toNat 0))) []) [] (B3 v (place (-(v.trail.getD v.head.toNat 0)))))
inductive B9:Sv→Option Nat→Sv→Prop
 | done {v:Sv}:¬ v.head<(v.trail.length:Int)→B9 v none v
 | more {v v1 v':Sv} {r:Option Nat}:v.head<(v.trail.length:Int)→A5 v=(none,v1)→B9 v1 r v'→B9 v r v'
 | bad {v v1:Sv} {c:Nat}:v.head<(v.trail.length:Int)→A5 v=(some c,v1)→B9 v (some c) v1
structure F0(n B:Nat)(v:Sv):Prop where
 inv:A7 n v
 tot:CV v.watches≤B
 h0:0≤v.head
 h1:v.head≤v.trail.length
theorem Kp(val:List Int){l:Int}(hl:l≠0):isV val (-l)=-(isV val l):=by
 unfold isV
 rw[show(-l).natAbs=l.natAbs by omega]
 split<;>split<;>omega
theorem A7.isV{n:Nat}{v:Sv}(h:A7 n v){y:Int}(hy:y∈v.trail):Go.Proofs.Ytilhhmkdcoajnaa.Am.isV v.value y=1:=by
 have h1:=h.holds y hy
 have h0:=(h.fit.lits y hy).1
 unfold Go.Proofs.Ytilhhmkdcoajnaa.Am.isV
 rw[h1]
 unfold GG
 split<;>omega
theorem J7        {n : Nat} {l : Int} : ∀ (rest K : List Nat) (v : Sv), v.trail.length ≤ (A1     l rest K v).2.2.trail.length
  | [],K,v=>qI _
  | c::rest,K,v=>by
    unfold A1
    cases hc:v.cl c with
    | none=>exact qI _
    | some lb =>
      obtain⟨ls,b⟩:=lb
      have ht : v.trail.length ≤ (AZ     v c l ls b).2.2.trail.length := by
        unfold AZ
        split
        · exact qI _
        · dsimp only
          generalize (if ls.getD 0 0=l then Ap ls 0 1 else ls)=ls1
          split
          · exact qI _
          · split
            · exact qI _
            · split
              · exact qI _
              · show _≤(v.trail++[_]).length
                rw[qM];omega
      dsimp only
      split
      · exact ht
      · exact qV ht (J7 (n:=n) rest _ _)
theorem Cr{n B:Nat}{v:Sv}(h:F0 n B v)(hh:v.head<(v.trail.length:Int)):F0 n B (A5 v).2∧(A5 v).2.limits=v.limits∧v.head+1≤(A5 v).2.head:=by
 obtain⟨hi,ht,h0,h1⟩:=h
 have hy:v.trail.getD v.head.toNat 0∈v.trail:=qL (AR (by omega))
 generalize hyy:v.trail.getD v.head.toNat 0=y at hy
 have hVL:=hi.fit.lits y hy
 have hy1:=hi.isV hy
 have hl0:-y≠0:=by have:=hVL.1;omega
 have hwl:place (-y)<v.watches.length:=by
  rw[hi.fit.siz.w]
  exact VL.place ⟨hl0,by have:=hVL.2;omega⟩
 have hf:isV v.value (-y)<0:=by rw[Kp _ hVL.1,hy1];omega
 have hg:=AR (d:=([]:List Nat)) hwl
 have hLw:WL n v (v.watches.getD (place (-y)) []):=hi.wc _ (qL hg)
 have hiA:A7 n (B3 v (place (-y))):=by
  obtain⟨⟨hz,hv,hli,hlm⟩,g2,g3,g4,g5⟩:=hi.setW (k:=place (-y)) (M:=[]) (fun d hd=>by cases hd)
  exact⟨⟨⟨hz.small,hz.w,hz.value,hz.level,hz.why,hz.heat,hz.phase,hz.trail,hz.limits⟩,hv,hli,hlm⟩,g2,g3,g4,g5⟩
 obtain⟨k1,k2⟩:=Fk hl0 (v.watches.getD (place (-y)) []) [] (B3 v (place (-y))) hiA (fun d hd=>by cases hd) hLw hf
 have htA:CV (B3 v (place (-y))).watches+(v.watches.getD (place (-y)) []).length=CV v.watches:=by
  have:=CV.set [] hg
  exact this
 have htr:=J7 (n:=n) (l:=-y) (v.watches.getD (place (-y)) []) [] (B3 v (place (-y)))
 unfold A5 MR
 rw[hyy]
 generalize A1 (-y) (v.watches.getD (place (-y)) []) [] (B3 v (place (-y)))=r at k1 k2 htr
 obtain⟨K,bad,v1⟩:=r
 dsimp only at k1 k2 htr ⊢
 have hi2:=k1.inv.setW (k:=place (-y)) k1.wl
 have hw0:v1.watches[place (-y)]? = some []:=by
  rw[k1.w]
  show(v.watches.set _ _)[_]? = _
  rw[qc,if_pos rfl,if_pos hwl]
 have htt:CV (v1.watches.set (place (-y)) K)≤B:=by
  have:=CV.set K hw0
  have e:([]:List Nat).length=0:=rfl
  omega
 have hhd:v1.head=v.head+1:=k1.head
 have hlim:v1.limits=v.limits:=k1.limits
 have htr:v.trail.length≤v1.trail.length:=htr
 cases bad with
 | none=>exact⟨⟨hi2,htt,by show 0≤v1.head;omega,by show v1.head≤(v1.trail.length:Int);omega⟩,hlim,by show _≤v1.head;omega⟩
 | some c =>
  obtain⟨⟨hz,hv,hli,hlm⟩,g2,g3,g4,g5⟩:=hi2
  exact⟨⟨⟨⟨⟨hz.small,hz.w,hz.value,hz.level,hz.why,hz.heat,hz.phase,hz.trail,hz.limits⟩,hv,hli,hlm⟩,g2,g3,g4,g5⟩,htt,by show(0:Int)≤(v1.trail.length:Int);omega,rE _⟩,hlim,by show _≤(v1.trail.length:Int);omega⟩
theorem B9.keep{n B:Nat}{v v':Sv}{r:Option Nat}(k:B9 v r v'):F0 n B v→F0 n B v'∧v'.limits=v.limits:=by
 induction k with
 | done _=>exact fun h=>⟨h,rfl⟩
 | more h1 h2 _ ih =>
  intro h
  have:=Cr h h1
  rw[h2]at this
  obtain⟨q1,q2,_⟩:=this
  obtain⟨q3,q4⟩:=ih q1
  exact⟨q3,q4.trans q2⟩
 | bad h1 h2 =>
  intro h
  have:=Cr h h1
  rw[h2]at this
  exact⟨this.1,this.2.1⟩
theorem Jb(c:Option Nat):AL Try.prog .neq 92 (HN c) (.ptr none)=some (.bool c.isSome):=by
 cases c<;>rfl
theorem eg{E:BN}{K:List AV→AF→Prop}{ow:Ow}{s:AF}{p:Nat}{x:Sf}{v:Sv}(h:Ah ow s p x v){y:Int}(h0:0≤v.head)(hgy:v.trail[v.head.toNat]? = some y)(hy:y.natAbs<1000000000)(hl:v.trail.length<1000000000)(r2 r3 r4 r5 r6 r7 r8 r9 r10 r11 r12 r13 r14 r15 r16 r17:AV)
  (hK:∀s1,Ah ow s1 p x { v with head:=v.head+1 }→AH (BU p) ow s ow s1→K [AV.ptr (some (p,0)),AV.ptr none,iv (-y),r3,r4,r5,r6,r7,r8,r9,r10,r11,r12,r13,r14,r15,r16,r17] s1):
  Qb E ZC (fun u s'=>Qb E ZF K [] u s') [] [AV.ptr (some (p,0)),AV.ptr none,r2,r3,r4,r5,r6,r7,r8,r9,r10,r11,r12,r13,r14,r15,r16,r17] s:=by
 have hlt:=Ag hgy
 have hht:((v.head.toNat:Nat):Int)=v.head:=by omega
 have i1:=h.trail.addr Try.underlying23 Bt (k:=v.head.toNat) (by rw[qK];omega)
 have i2:=h.trail.get (t:=3) Dg (k:=v.head.toNat) (Au hgy)
 rw[hht]at i1
 have en:=D8 Try.prog y ⟨by omega,by omega⟩
 have e3:=Ai Try.prog 3 v.head 1 ⟨by omega,by omega⟩
 obtain⟨s1,a1,a2,a3,a4⟩:=h.set_head (v.head+1)
 simp only[ZC,ZF,AG,Lp,FM,h.ld_head,h.ld_tr,i1,i2,en,e3,BV,a1,AU,Qb,Qc,Qd,Qf,Qh,Qi,Qj,Qk,Qm,Qn,true_and,Qo,Qp,Qq,Qr,Qs]
 exact hK s1 a2 a3
theorem V3        {E : BN}  (hE : Good E) {p n : Nat} {B : Nat} (hB : B ≤ 50000000) {ow0 : Ow} {s0 : AF}  {Q : A0   → Prop} :
    ∀ (m : Nat) (s : AF)  (ow : Ow) (x : Sf) (v : Sv) (r2 r3 r4 r5 r6 r7 r8 r9 r10 r11 r12 r13 r14 r15 r16 r17 : AV), n - v.head.toNat = m → F0   n B v → Ah  ow s p x v → AH   (Bb   p) ow0 s0 ow s →
      (∀s' ow' x' v' y2 y3 y4 y5 y6 y7 y8 y9 y10 y11 y12 y13 y14 y15 y16 y17,B9 v none v'→Ah ow' s' p x' v'→AH (Bb p) ow0 s0 ow' s'→Q ⟨.exit 0,[AK p,.ptr none,y2,y3,y4,y5,y6,y7,y8,y9,y10,y11,y12,y13,y14,y15,y16,y17],[],s'⟩) →
      (∀s' ow' x' v' c y2 y3 y4 y5 y6 y7 y8 y9 y10 y11 y12 y13 y14 y15 y16 y17,B9 v (some c) v'→Ah ow' s' p x' v'→AH (Bb p) ow0 s0 ow' s'→Q ⟨.ret,[AK p,AK c,y2,y3,y4,y5,y6,y7,y8,y9,y10,y11,y12,y13,y14,y15,y16,y17],[],s'⟩) →
      WC E none (.loop LN) Q [AK p,.ptr none,r2,r3,r4,r5,r6,r7,r8,r9,r10,r11,r12,r13,r14,r15,r16,r17] [] s:=by
  intro m
  induction m using Nat.strongRecOn with
  | ind m ih =>
    intro s ow x v r2 r3 r4 r5 r6 r7 r8 r9 r10 r11 r12 r13 r14 r15 r16 r17 hm h2 h hst hq1 hq2
    obtain⟨hi,ht,h0,h1⟩:=h2
    have hz:=hi.fit.siz
    have hn:=hz.small
    have htl:=hz.trail
    have ln:∀s,Aq Try.prog s 23 x.tr=some (iv (v.trail.length:Int)):=fun s=>by
      have:=h.trail.len Try.underlying23 s
      rw[qK]at this
      exact this
    refine WC.loop' ?_
    generalize hW:WC E none (Ac.loop LN) Q=W
    by_cases hh:v.head<(v.trail.length:Int)
    · have hd : decide (v.head < (v.trail.length : Int)) = true := decide_eq_true hh
      have hgy:=AR (d:=(0:Int)) (show v.head.toNat<v.trail.length by omega)
      have hy:v.trail.getD v.head.toNat 0∈v.trail:=qL hgy
      generalize hyy:v.trail.getD v.head.toNat 0=y at hy hgy
      have hVL:=hi.fit.lits y hy
      have hy1:=hi.isV hy
      have hl0:-y≠0:=by have:=hVL.1;omega
      have hVLn:(-y).natAbs≤n:=by have:=hVL.2;omega
      have hwl:place (-y)<v.watches.length:=by
        rw[hi.fit.siz.w]
        exact VL.place ⟨hl0,hVLn⟩
      have hf:isV v.value (-y)<0:=by rw[Kp _ hVL.1,hy1];omega
      have hg:=AR (d:=([]:List Nat)) hwl
      have hLw:WL n v (v.watches.getD (place (-y)) []):=hi.wc _ (qL hg)
      have hiA:A7 n (B3 v (place (-y))):=by
        obtain⟨⟨hz,hv,hli,hlm⟩,g2,g3,g4,g5⟩:=hi.setW (k:=place (-y)) (M:=[]) (fun d hd=>by cases hd)
        exact⟨⟨⟨hz.small,hz.w,hz.value,hz.level,hz.why,hz.heat,hz.phase,hz.trail,hz.limits⟩,hv,hli,hlm⟩,g2,g3,g4,g5⟩
      have hps:A5 v=MR (place (-y)) (A1 (-y) (v.watches.getD (place (-y)) []) [] (B3 v (place (-y)))):=by
        unfold A5
        rw[hyy]
      have hkeep:=Cr ⟨hi,ht,h0,h1⟩ hh
      generalize hL:v.watches.getD (place (-y)) []=L at hg hLw hps
      have hLB:L.length≤B:=qV (CV.le (qL hg)) ht
      simp only[LN,Y7,AK,AG,Lp,FM,h.ld_head,h.ld_tr,ln,hd,Qa,Qb,Qc,Qd,Qf,Qh,Qj,Qk,Qm,Qn,true_and,Qo,Qp,Qq,Qr,Qs,Qu,Qw,Qx,Qy,Qz,Ra,Rq]
      refine eg h h0 hgy (by omega) (by omega) _ _ _ _ _ _ _ _ _ _ _ _ _ _ _ _ ?_
      intro s1 a2 a3
      obtain⟨u,w1,w2,w3⟩:=a2.watch_buf (k:=place (-y)) (L:=L) hg
      have ko:=w3.kept_op Try.underlying89 E5
      have lu:∀s,Aq Try.prog s 89 u=some (iv (L.length:Int)):=fun s=>by
        have:=w3.len Try.underlying89 s
        rw[qK]at this
        exact this
      rw[qK]at ko
      have hself:FY x.w x.w=true:=by obtain⟨us,_,w2,_⟩:=h.w;exact w2.self
      simp only[iE,AG,Lm,a2.ld_w,Qb,Qc,Qd,Qf,Qh,Qj,Qk,Qm,Qn,true_and,Qq,Qr,Qs]
      refine(GB hE (l:=-y) (by omega)).mono ?_
      rintro _ _ ⟨rfl,rfl⟩
      simp only[BX,At,a2.ld_w,hself,w1,w2,iF,lu,ko,iG,iH,Qb,Qc,Qd,Qf,Qh,Qi,Qj,Qk,Qm,Qn,true_and,and_true,Qo,Qp,Qq,Qr,Qs]
      have hset:(v.watches.set (place (-y)) []).set (place (-y)) ([]++L.drop 0)=v.watches:=by
        rw[List.set_set]
        show v.watches.set _ L=_
        obtain⟨hgl,hge⟩:=List.getElem?_eq_some_iff.1 hg
        rw[← hge,List.set_getElem_self]
      have a2':Ah ow s1 p x (setW (B3 v (place (-y))) ((B3 v (place (-y))).watches.set (place (-y)) ([]++L.drop ([]:List Nat).length))):=by
        have e:setW (B3 v (place (-y))) ((B3 v (place (-y))).watches.set (place (-y)) ([]++L.drop ([]:List Nat).length))={ v with head:=v.head+1 }:=by
          show({ v with head:=v.head+1,watches:=(v.watches.set (place (-y)) []).set (place (-y)) ([]++L.drop 0) }:Sv)=_
          rw[hset]
        rw[e];exact a2
      have hlA:place (-y)<(B3 v (place (-y))).watches.length:=by show _<(v.watches.set _ _).length;rw[qQ];exact hwl
      have htA:CV (B3 v (place (-y))).watches+L.length=CV v.watches:=CV.set [] hg
      have hstA:AH (Bb p) ow0 s0 ow s1:=hst.trans a3.b
      refine ee hE hl0 (n:=n) (rfl:place (-y)=place (-y)) hB hLB (u:=u) (xw:=x.w) (.ptr none) (.bool true) r17 (ow0:=ow0) (s0:=s0) L 0 [] s1 ow x (B3 v (place (-y))) _ _ _ _ _ _ _ rfl (qI _) (qO _) hstA a2' rfl w2 hlA hiA (fun d hd=>by cases hd) hLw hf (by show CV _+0+_≤_;omega) ?_
      intro s2 ow2 x2 M y6 y7 y8 y9 y13 y14 y15 y16 k1 k2 k3 k4
      have hpk:=(Fk hl0 L [] (B3 v (place (-y))) hiA (fun d hd=>by cases hd) hLw hf).1
      generalize A1 (-y) L [] (B3 v (place (-y)))=r at *
      obtain⟨K,bad,V⟩:=r
      dsimp only at k1 k2 k3 k4 hps hpk ⊢
      have hlV:place (-y)<(setW V (V.watches.set (place (-y)) M)).watches.length:=by show _<(V.watches.set _ _).length;rw[qQ,hpk.wlen];exact hlA
      obtain⟨us,z1,z2,z3⟩:=k1.w
      have iw:=z2.addr Try.underlying88 I6 (k:=place (-y)) (by omega)
      rw[k2]at iw
      obtain⟨s3,b1,b2,b3,b4⟩:=k1.watch_set hlV k3
      rw[k2]at b1
      have hself2:FY x.w x.w=true:=by have:=z2.self;rw[k2]at this;exact this
      have ldw2:=k1.ld_w
      rw[k2]at ldw2
      have b2':Ah ow2 s3 p x2 (setW V (V.watches.set (place (-y)) K)):=by
        have e:(V.watches.set (place (-y)) M).set (place (-y)) K=V.watches.set (place (-y)) K:=List.set_set ..
        have:Ah ow2 s3 p x2 (setW V ((V.watches.set (place (-y)) M).set (place (-y)) K)):=b2
        rw[e]at this
        exact this
      simp only[if_true,ZA,AK,AG,Lm,ldw2,Qb,Qc,Qd,Qf,Qh,Qj,Qk,Qm,Qn,true_and,Qq,Qr,Qs,Qw,Qy,Rb]
      refine(GB hE (l:=-y) (by omega)).mono ?_
      rintro _ _ ⟨rfl,rfl⟩
      cases bad with
      | none =>
        have hps:A5 v=(none,setW V (V.watches.set (place (-y)) K)):=hps
        rw[hps]at hkeep
        simp only[BX,At,ldw2,hself2,iw,BV,b1,AU,So,Jb,Option.isSome,Qb,Qc,Qd,Qf,Qh,Qi,Qj,Qk,Qm,Qn,true_and,and_true,Qo,Qp,Qq,Qr,Qs,Qv]
        rw[← hW]
        refine ih (n - (setW V (V.watches.set (place (-y)) K)).head.toNat) ?_ s3 ow2 x2 _ _ _ _ _ _ _ _ _ _ _ _ _ _ _ _ _ rfl hkeep.1 b2' (k4.trans b3.w) (fun s' ow' x' v' y2 y3 y4 y5 y6 y7 y8 y9 y10 y11 y12 y13 y14 y15 y16 y17 e=>hq1 s' ow' x' v' y2 y3 y4 y5 y6 y7 y8 y9 y10 y11 y12 y13 y14 y15 y16 y17 (.more hh hps e)) (fun s' ow' x' v' c y2 y3 y4 y5 y6 y7 y8 y9 y10 y11 y12 y13 y14 y15 y16 y17 e=>hq2 s' ow' x' v' c y2 y3 y4 y5 y6 y7 y8 y9 y10 y11 y12 y13 y14 y15 y16 y17 (.more hh hps e))
        have:=hkeep.2.2
        have:=hkeep.1.h1
        have:=hkeep.1.inv.fit.siz.trail
        dsimp only at *
        omega
      | some c =>
        have hps:A5 v=(some c,{ setW V (V.watches.set (place (-y)) K)with head:=(V.trail.length:Int) }):=hps
        have ln2:∀s,Aq Try.prog s 23 x2.tr=some (iv ((setW V (V.watches.set (place (-y)) K)).trail.length:Int)):=fun s=>by
          have:=b2'.trail.len Try.underlying23 s
          rw[qK]at this
          exact this
        obtain⟨s4,d1,d2,d3,d4⟩:=b2'.set_head ((setW V (V.watches.set (place (-y)) K)).trail.length:Int)
        simp only[BX,At,ldw2,hself2,iw,BV,b1,AU,So,Jb,Option.isSome,ZB,AG,FM,Lp,b2'.ld_tr,ln2,d1,ZD,Qb,Qc,Qd,Qf,Qh,Qi,Qj,Qk,Qm,Qn,true_and,and_true,Qo,Qp,Qq,Qr,Qs,Qu]
        exact hq2 s4 ow2 x2 _ c _ _ _ _ _ _ _ _ _ _ _ _ _ _ _ _ (.bad hh hps) d2 (k4.trans (b3.w.trans d3.b))
    · have hd:decide (v.head<(v.trail.length:Int))=false:=decide_eq_false hh
      simp only[LN,Y7,AK,AG,Lp,FM,h.ld_head,h.ld_tr,ln,hd,Qa,Qb,Qc,Qd,Qf,Qh,Qj,Qk,Qm,Qn,true_and,Qo,Qp,Qq,Qr,Qs,Qv,Qw,Qx,Qy,Qz,Ra,Rq]
      exact hq1 s ow x v _ _ _ _ _ _ _ _ _ _ _ _ _ _ _ _ (B9.done hh) h hst
theorem It{E:BN}(hE:Good E){ow:Ow}{s:AF}{p:Nat}{x:Sf}{v:Sv}(h:Ah ow s p x v){n B:Nat}(hB:B≤50000000)(h2:F0 n B v):
  WF E 64 [AK p] (fun r s'=>∃c v' ow' x',B9 v c v'∧r=HN c∧Ah ow' s' p x' v'∧AH (Bb p) ow s ow' s') s:=by
 refine hE.go la (by decide) rfl ?_
 simp only[pl,iD,Qa,Qb,Qc,Qd,Qf,Qh,Qi,Qj,Ql,Qm,Qn,true_and,Qo,Qp,Qs,Qw,Rc,Rf,Rg,Rh,Yc]
 refine V3 hE hB (ow0:=ow) (s0:=s) _ s ow x v _ _ _ _ _ _ _ _ _ _ _ _ _ _ _ _ rfl h2 h (AH.refl _ _ _) ?_ ?_
 ·intro s' ow' x' v' y2 y3 y4 y5 y6 y7 y8 y9 y10 y11 y12 y13 y14 y15 y16 y17 e1 e2 e3
  simp only[if_true,ZE,Qb,Qc,Qd,Qf,Qh,Qi,Qm,Qn,true_and,Qo,Qp,Qq,Qr,Qs,Qw,Qy,Rb,Re]
  exact⟨none,v',ow',x',e1,rfl,e2,e3⟩
 ·intro s' ow' x' v' c y2 y3 y4 y5 y6 y7 y8 y9 y10 y11 y12 y13 y14 y15 y16 y17 e1 e2 e3
  simp only[Qj,Qm,Qq,Qr,Qx,Ra,Rc,Re,Rf,Rg,Rh,Yc]
  exact⟨some c,v',ow',x',e1,rfl,e2,e3⟩
theorem E3{α:Type}{l:List α}{k:Nat}{d y:α}(h:l[k]? = some y):l.getD k d=y:=by
 rw[qe,h];rfl
theorem Ea(p:Nat):AL Try.prog .eql 44 (AK p) (.ptr none)=some (.bool false):=rfl
def IE(v:Sv)(c:Nat)(a b:Int):Sv:=setW v (Cx (Cx v.watches (place a) c) (place b) c)
theorem RK{E:BN}(hE:Good E){K:List AV→AF→Prop}{ow:Ow}{s:AF}{p:Nat}{x:Sf}{v:Sv}(h:Ah ow s p x v){y:Int}(hp:place y<v.watches.length)(hy:y.natAbs<1000000000)(hs:Ky v.watches)(c:Nat)(x3 x4 x5 x6:AV)
  (hK:∀s1 ow1,Ah ow1 s1 p x (setW v (Cx v.watches (place y) c))→AH (KK p) ow s ow1 s1→K [AV.ptr (some (p,0)),AV.ptr (some (c,0)),iv y,x3,x4,x5,x6] s1):
  Qb E ZX K [] [AV.ptr (some (p,0)),AV.ptr (some (c,0)),iv y,x3,x4,x5,x6] s:=by
 have hst:AH (fun _=>False) ow s (ext ow s.next (0,0,0)) (newObj s (AO 92 1 [AK c])):=AH.new _ ow s _ _
 have d2:=h.keep hst (fun _ q=>q.elim)
 have hwk:v.watches[place y]? = some (v.watches.getD (place y) []):=AR hp
 obtain⟨w1,w1',s3,s4,ow',f1,f2,f3,ldw3,f4,f5,f6,f7⟩:=d2.watch_in (k:=place y) hwk (by have:=hs _ (qL hwk);omega) c (q:=s.next) (ty:=92) (sz':=1) (by rw[AQ,if_pos rfl])
 have bl:=Ck (P:=Try.prog) (t:=89) (v:=AK c) Try.underlying89 E5 UE rfl rfl
 have hms:∀ (m:Nat) (i:Nat),Made.val i (.slice m)=.slice (some (i,0)) m (some m):=fun _ _=>rfl
 have hself:FY x.w x.w=true:=by obtain⟨us,_,w2,_⟩:=h.w;exact w2.self
 have ldw:=h.ld_w
 have ldw':=d2.ld_w
 simp only[AK]at bl f1 f2 f3 f4 ldw'
 simp only[ZX,AG,Lm,ldw,bl,hms,Qb,Qc,Qd,Qf,Qh,Qj,Qk,Qm,Qn,true_and,and_true,Qq,Qr,Qs,Yc]
 refine(GB hE (l:=y) hy).mono ?_
 rintro _ _ ⟨rfl,rfl⟩
 simp only[BX,At,ldw',hself,Qd,Qk,Qn,true_and,and_true,Qq,Qr]
 refine(GB hE (l:=y) hy).mono ?_
 rintro _ _ ⟨rfl,rfl⟩
 simp only[BX,At,ldw',hself,f1,f2,f3,ldw3,BV,f4,AU,Qd,Qk,Qm,Qn,true_and,and_true,Qq,Qr]
 exact hK s4 ow' f5 ((hst.mono fun _ q=>q.elim).trans f6)
theorem RL{E:BN}(hE:Good E){ow:Ow}{s:AF}{p:Nat}{x:Sf}{v:Sv}(h:Ah ow s p x v){n:Nat}(hn:n<100000000)(hw:v.watches.length=2 * n+2)(hs:CV v.watches≤90000000){c:Nat}{ls:List Int}{b:Bool×Bool}(hc:v.cl c=some (ls,b))(hl:A9 n ls)(h2:2≤ls.length):
  WF E 78 [AK p,AK c] (fun _ s'=>∃ow',Ah ow' s' p x (IE v c (ls.getD 0 0) (ls.getD 1 0))∧AH (KK p) ow s ow' s') s:=by
 obtain⟨u,u1,u2,u3,u4,u5⟩:=h.lits hc
 have u4:Bc ow (p,15,c) s u (Ax ls):=u4
 have ct:=u4.cut_op Try.underlying23 Bt (k:=2) (by rw[qK];exact h2)
 have ct:Ad Try.prog 23 false true false s [u,iv 2]=some (FZ u 2):=ct
 have cb:=u4.cut (k:=2) (by rw[qK];exact h2)
 have hg0:=AR (d:=(0:Int)) (show 0<ls.length by omega)
 have hg1:=AR (d:=(0:Int)) (show 1<ls.length by omega)
 have V0:=hl.get (k:=0) (by omega)
 have V1:=hl.get (k:=1) (by omega)
 generalize hy0:ls.getD 0 0=y0 at *
 generalize hy1:ls.getD 1 0=y1 at *
 have hcs:(Ax ls).take 2=[iv y0,iv y1]:=by
  match ls,hg0,hg1 with
  | a::b::l,e0,e1 =>
   have:a=y0:=by simpa using e0
   have:b=y1:=by simpa using e1
   subst y0;subst y1;rfl
 rw[hcs]at cb
 have ln:∀s,Aq Try.prog s 23 (FZ u 2)=some (iv 2):=fun s=>cb.len Try.underlying23 s
 have ht:∀ (s:AF),True:=fun _=>trivial
 have hx0:∀j,j≠15→¬ KK p ((p,15,c):Bh):=fun j hj q=>by rcases q.2 with q | q<;>cases q
 have hx:¬ KK p ((p,15,c):Bh):=fun q=>by rcases q.2 with q | q<;>cases q
 refine hE.go lz (by decide) rfl ?_
 have i0:AC Try.prog 23 (FZ u 2) (iv 0)=some (BA (FZ u 2) 0):=cb.addr Try.underlying23 Bt (k:=0) (by show 0<2;omega)
 have i1:AC Try.prog 23 (FZ u 2) (iv 1)=some (BA (FZ u 2) 1):=cb.addr Try.underlying23 Bt (k:=1) (by show 1<2;omega)
 have g0:=cb.get (t:=3) Dg (k:=0) (u:=iv y0) rfl
 have e1:=Ai Try.prog 3 0 1 ⟨by decide,by decide⟩
 have e2:=Ai Try.prog 3 1 1 ⟨by decide,by decide⟩
 have hd0:decide ((0:Int)<2)=true:=rfl
 have My:decide ((1:Int)<2)=true:=rfl
 have JB:decide ((2:Int)<2)=false:=rfl
 have z1:(0:Int)+1=1:=rfl
 have z2:(1:Int)+1=2:=rfl
 rw[z1]at e1
 rw[z2]at e2
 simp only[px,jJ,AK,AG,DD,u1,ct,ln,Qa,Qb,Qc,Qd,Qf,Qh,Qi,Qj,Qk,Ql,Qm,Qn,true_and,Qo,Qp,Qq,Qr,Qs,Qw]
 refine WC.loop' ?_
 generalize hW:WC E none (Ac.loop NF) _=W
 simp only[NF,Ua,hd0,ZW,i0,g0,Qa,Qb,Qc,Qd,Qf,Qh,Qj,Qk,Qm,Qn,true_and,Qo,Qp,Qq,Qr,Qs,Qu,Qw,Qy,Qz,Rb,Rd,Rf,Rq]
 refine RK hE h (by rw[hw];exact VL.place V0) (by have:=V0.2;omega) (CV.short (by omega)) c _ _ _ _ ?_
 intro s1 ow1 k1 k2
 have g1:=(cb.step k2 hx).get (t:=3) Dg (k:=1) (u:=iv y1) rfl
 simp only[ZY,e1,Qb,Qc,Qd,Qf,Qh,Qi,Qj,Qk,Qm,Qn,true_and,Qo,Qp,Qq,Qr,Qs]
 rw[← hW]
 refine WC.loop' ?_
 generalize hW:WC E none (Ac.loop NF) _=W
 simp only[NF,Ua,My,ZW,i1,g1,Qa,Qb,Qc,Qd,Qf,Qh,Qj,Qk,Qm,Qn,true_and,Qo,Qp,Qq,Qr,Qs,Qu,Qw,Qy,Qz,Rb,Rd,Rf,Rq]
 have hT:=CV.put v.watches (place y0) c
 refine RK hE k1 (by show _<(Cx _ _ _).length;rw[C9,hw];exact VL.place V1) (by have:=V1.2;omega) (CV.short (by show CV (Cx _ _ _)≤_;omega)) c _ _ _ _ ?_
 intro s2 ow2 k3 k4
 simp only[ZY,e2,Qb,Qc,Qd,Qf,Qh,Qi,Qj,Qk,Qm,Qn,true_and,Qo,Qp,Qq,Qr,Qs]
 rw[← hW]
 refine WC.loop' ?_
 simp only[NF,Ua,JB,Qa,Qb,Qc,Qd,Qf,Qh,Qj,Qm,Qn,true_and,Qo,Qp,Qq,Qr,Qs,Qv,Qw,Qy,Qz,Rb,Rd,Re,Rf,Rq]
 exact⟨ow2,k3,k2.trans k4⟩
theorem PI{E:BN}(hE:Good E){ow:Ow}{s:AF}{p:Nat}{x:Sf}{v:Sv}(h:Ah ow s p x v){n:Nat}(hn:n<100000000)(hv:v.value.length=n+1):WF E 47 [AK p] (fun r s'=>r=iv (n:Int)∧s=s') s:=by
 have ln:∀s,Aq Try.prog s 23 x.val=some (iv ((n+1:Nat):Int)):=fun s=>by
  have:=h.value.len Try.underlying23 s
  rw[qK,hv]at this
  exact this
 have e:=DZ Try.prog 3 ((n+1:Nat):Int) 1 ⟨by omega,by omega⟩
 have hc:(((n+1:Nat):Int) - 1)=(n:Int):=by omega
 have q:=Ea p
 simp only[AK]at q
 refine hE.go lS (by decide) rfl ?_
 simp only[pf,ge,gf,gg,AK,q,AG,En,h.ld_val,ln,e,hc,Qa,Qb,Qc,Qd,Qf,Qh,Qi,Qj,Qk,Ql,Qm,Qn,true_and,and_true,Qo,Qp,Qq,Qr,Qs,Qv,Qw,Qx,Rc,Re,Rf,Rg,Rh,Yc]
theorem Ww(a:Int):∃c,AL Try.prog .quo 3 (iv a) (iv 2)=some (iv c):=by
 refine⟨IntKind.i64.wrap (a.tdiv 2),?_⟩
 show AI (BY .i64 .i64) ((ES Try.prog (Op.intDiv .quo .i64 a 2)).bind ofValue)=_
 have hk:BY .i64 .i64=true:=rfl
 rw[hk]
 unfold Op.intDiv
 rw[if_neg (by decide)]
 rfl
theorem PU(a b:Int):AL Try.prog .add 3 (iv a) (iv b)=some (iv (Dt .i64 (a+b))):=rfl
def BB(v:Sv)(h:List Int):Sv:={ v with heat:=h }
theorem VP{E:BN}(hE:Good E){p N:Nat}(hN:N<1000000000){ow:Ow}{s0:AF}{x:Sf}{v0:Sv}{Q:A0→Prop}(hq:∀s' h' y1 y3 y4,Ah ow s' p x (BB v0 h')→h'.length=N→AH (BU p) ow s0 ow s'→Q ⟨.exit 0,[AV.ptr (some (p,0)),y1,iv (N:Int),y3,y4],[],s'⟩):
  ∀ (m k:Nat) (s:AF) (h:List Int) (x1 x4:AV),N - k=m→k≤N→Ah ow s p x (BB v0 h)→h.length=N→AH (BU p) ow s0 ow s→WC E none (.loop Pg) Q [AV.ptr (some (p,0)),x1,iv (N:Int),iv (k:Int),x4] [] s:=by
 intro m
 induction m with
 | zero =>
  intro k s h x1 x4 hm hk hs hl hst
  have hk:k=N:=by omega
  subst hk
  refine WC.loop' ?_
  simp only[Pg,ZO,qd,decide_false,Qa,Qb,Qc,Qd,Qf,Qh,Qj,Qm,Qn,true_and,Qo,Qp,Qq,Qr,Qs,Qv,Qw,Qy,Qz,Rq]
  exact hq s h _ _ _ hs hl hst
 | succ m ih =>
  intro k s h x1 x4 hm hk hs hl hst
  have hlt:k<N:=by omega
  have hd:decide ((k:Int)<(N:Int))=true:=decide_eq_true (by omega)
  have e3:=Ai Try.prog 3 (k:Int) 1 ⟨by omega,by omega⟩
  have hcast:((k:Int)+1)=((k+1:Nat):Int):=by omega
  have hg:=AR (d:=(0:Int)) (show k<h.length by omega)
  have i1:=hs.heat.addr Try.underlying23 Bt (k:=k) (by rw[qK];show k<h.length;omega)
  have i2:=hs.heat.get (t:=3) Dg (k:=k) (Au hg)
  obtain⟨c,hc⟩:=Ww (h.getD k 0)
  obtain⟨s1,a1,a2,a3,a4⟩:=hs.put_heat (k:=k) (by show k<h.length;omega) c
  refine WC.loop' ?_
  generalize hW:WC E none (Ac.loop Pg) Q=W
  simp only[Pg,ZO,hd,iY,iZ,AG,Lo,hs.ld_heat,i1,i2,hc,BV,a1,AU,ia,e3,hcast,Qa,Qb,Qc,Qd,Qf,Qh,Qi,Qj,Qk,Qm,Qn,true_and,Qo,Qp,Qq,Qr,Qs,Qu,Qw,Qy,Qz,Rq]
  rw[← hW]
  exact ih (k+1) s1 (h.set k c) _ _ (by omega) (by omega) a2 (by rw[qQ];exact hl) (hst.trans a3)
theorem Uj{E:BN}(hE:Good E){ow:Ow}{s:AF}{p:Nat}{x:Sf}{v:Sv}(h:Ah ow s p x v)(hl:v.heat.length<1000000000):
  WF E 68 [AK p] (fun _ s'=>∃h',Ah ow s' p x (BB v h')∧h'.length=v.heat.length∧AH (BU p) ow s ow s') s:=by
 have ln:∀s,Aq Try.prog s 23 x.heat=some (iv (v.heat.length:Int)):=fun s=>by
  have:=h.heat.len Try.underlying23 s
  rw[qK]at this
  exact this
 refine hE.go lk (by decide) rfl ?_
 simp only[po,iX,AK,AG,Lo,h.ld_heat,ln,Qa,Qb,Qc,Qd,Qf,Qh,Qi,Qj,Qk,Ql,Qm,Qn,true_and,Qo,Qp,Qq,Qs,Qw]
 refine VP hE hl (s0:=s) (v0:=v) ?_ _ 0 s v.heat _ _ rfl (qO _) h rfl (AH.refl _ _ _)
 intro s' h' y1 y3 y4 k1 k2 k3
 simp only[if_true,Qm,Rb,Rd,Re,Rf]
 exact⟨h',k1,k2,k3⟩
theorem Vf{E:BN}(hE:Good E){ow:Ow}{s:AF}{p:Nat}{x:Sf}{v:Sv}(h:Ah ow s p x v){bb sb:Nat}{best k:Nat}(h1:As s sb (AK p))(h2:As s bb (iv (best:Int)))(hb:best<v.heat.length)(hk:k<v.heat.length):
  WF E 99 [iv (k:Int),.ptr (some (bb,0)),.ptr (some (sb,0))] (fun r s'=>(∃t:Bool,r=.bool t∧(best=0→t=true))∧s=s') s:=by
 have hg:=AR (d:=(0:Int)) hk
 have hgb:=AR (d:=(0:Int)) hb
 have i1:=h.heat.addr Try.underlying23 Bt (k:=k) (by rw[qK];exact hk)
 have i2:=h.heat.get (t:=3) Dg (k:=k) (Au hg)
 have j1:=h.heat.addr Try.underlying23 Bt (k:=best) (by rw[qK];exact hb)
 have j2:=h.heat.get (t:=3) Dg (k:=best) (Au hgb)
 have l1:=h1.load Dy
 simp only[AK]at l1
 refine hE.go mM (by decide) rfl ?_
 by_cases he:best=0
 ·have hd:decide ((best:Int)=0)=true:=decide_eq_true (by omega)
  simp only[pI,aI,aJ,h2.load Dg,hd,Qa,Qb,Qc,Qd,Qf,Qg,Qh,Qi,Qj,Qk,Ql,Qm,Qn,true_and,and_true,Qo,Qp,Qq,Qr,Qs,Qt,Qw,Rc,Re,Rf,Rg,Rh,Rm,Ya,Yc,Rn,Ro,Rv]
  exact⟨true,rfl,fun _=>rfl⟩
 ·have hd:decide ((best:Int)=0)=false:=decide_eq_false (by omega)
  simp only[pI,aI,aJ,h2.load Dg,hd,l1,AG,Lo,h.ld_heat,i1,i2,j1,j2,Qa,Qb,Qc,Qd,Qf,Qg,Qh,Qi,Qj,Qk,Ql,Qm,Qn,true_and,and_true,Qo,Qp,Qq,Qr,Qs,Qw,Rc,Re,Rf,Rg,Rh,Rm,Yb,Yc,Rn,Ro,Rs,Rv]
  exact⟨_,rfl,fun q=>absurd q he⟩
theorem UM:Bi Try.prog 3=some (AO 3 0 [.int .i64 0],.ptr):=by simp[Bi,RN,AV.cells]
def Wl(val:List Int)(k:Nat)(b:Nat):Prop:=(b=0∧∀j,1≤j→j<k→val.getD j 0≠0)∨(1≤b∧b<val.length∧val.getD b 0=0)
theorem Vv        {E : BN}  (hE : Good E) {p n : Nat} (hn : n < 100000000) {ow : Ow} {s0 : AF}  {x : Sf} {v : Sv} (h : Ah  ow s0 p x v) (hval : v.value.length = n + 1) (hheat : v.heat.length = n + 1) {sb bb : Nat} (hsb : s0.next ≤ sb) (hbb : s0.next ≤ bb) (hne : bb ≠ sb) {Q : A0   → Prop}
    (hq:∀s' (b:Nat) y2 y5 y6 y7,BG s0.next s0 s'→As s' bb (iv (b:Int))→Wl v.value (n+1) b→Q ⟨.exit 0,[AV.ptr (some (p,0)),.ptr (some (sb,0)),y2,.ptr (some (bb,0)),.func 99 [] [.ptr (some (bb,0)),.ptr (some (sb,0))],y5,y6,y7],[],s'⟩):
    ∀ (m k:Nat) (s:AF) (b:Nat) (x2 x6 x7:AV),n+1 - k=m→1≤k→k≤n+1→BG s0.next s0 s→As s sb (AK p)→As s bb (iv (b:Int))→Wl v.value k b →
      WC E none (.loop NE) Q [AV.ptr (some (p,0)),.ptr (some (sb,0)),x2,.ptr (some (bb,0)),.func 99 [] [.ptr (some (bb,0)),.ptr (some (sb,0))],iv (k:Int),x6,x7] [] s:=by
  intro m
  induction m with
  | zero =>
    intro k s b x2 x6 x7 hm hk1 hk ho b1 b2 hr
    have hk:k=n+1:=by omega
    subst hk
    have h':=h.keep (AH.old (m:=fun _=>False) ho (0,0,0)) (fun _ q=>q.elim)
    have l1:=b1.load Dy
    simp only[AK]at l1
    have ln:∀s,Aq Try.prog s 23 x.val=some (iv ((n+1:Nat):Int)):=fun s=>by
      have:=h.value.len Try.underlying23 s
      rw[qK,hval]at this
      exact this
    refine WC.loop' ?_
    simp only[NE,UY,l1,AG,En,h'.ld_val,ln,qd,decide_false,Qa,Qb,Qc,Qd,Qf,Qh,Qj,Qk,Qm,Qn,true_and,Qo,Qp,Qq,Qr,Qs,Qv,Qw,Qy,Qz,Rq]
    exact hq s b _ _ _ _ ho b2 hr
  | succ m ih =>
    intro k s b x2 x6 x7 hm hk1 hk ho b1 b2 hr
    have hlt:k<n+1:=by omega
    have h':=h.keep (AH.old (m:=fun _=>False) ho (0,0,0)) (fun _ q=>q.elim)
    have l1:=b1.load Dy
    simp only[AK]at l1
    have ln:∀s,Aq Try.prog s 23 x.val=some (iv ((n+1:Nat):Int)):=fun s=>by
      have:=h.value.len Try.underlying23 s
      rw[qK,hval]at this
      exact this
    have hd:decide ((k:Int)<((n+1:Nat):Int))=true:=decide_eq_true (by omega)
    have e3:=Ai Try.prog 3 (k:Int) 1 ⟨by omega,by omega⟩
    have hcast:((k:Int)+1)=((k+1:Nat):Int):=by omega
    have hg:=AR (d:=(0:Int)) (show k<v.value.length by omega)
    have i1:=h'.value.addr Try.underlying23 Bt (k:=k) (by rw[qK];omega)
    have i2:=h'.value.get (t:=3) Dg (k:=k) (Au hg)
    have hbl:b<v.heat.length:=by rcases hr with⟨q,_⟩ | ⟨_,q,_⟩<;>omega
    refine WC.loop' ?_
    generalize hW:WC E none (Ac.loop NE) Q=W
    by_cases h0:v.value.getD k 0=0
    · have hd0:decide (v.value.getD k 0=0)=true:=decide_eq_true h0
      simp only[NE,UY,l1,AG,En,h'.ld_val,ln,hd,ZR,i1,i2,hd0,Qa,Qb,Qc,Qd,Qe,Qf,Qg,Qh,Qi,Qj,Qk,Qm,Qn,true_and,Qo,Qp,Qq,Qr,Qs,Qu,Qw,Qy,Qz,Rl,Rn,Ro,Rq,Rv]
      refine(Vf hE h' b1 b2 hbl (k:=k) (by omega)).mono ?_
      rintro _ _ ⟨⟨t,rfl,ht⟩,rfl⟩
      cases t with
      | true =>
        obtain⟨s1,a1,a2,a3,a4⟩:=b2.store (d:=iv (k:Int)) Bt rfl rfl
        simp only[il,BV,a1,AU,UZ,e3,hcast,Qb,Qc,Qd,Qf,Qh,Qi,Qj,Qk,Qm,Qn,true_and,Qo,Qp,Qq,Qr,Qs,Qu]
        rw[← hW]
        refine ih (k+1) s1 k _ _ _ (by omega) (by omega) (by omega) ⟨by have:=ho.1;omega,fun y hy=>?_⟩ (b1.keep (a4 sb (fun e=>hne e.symm))) a2 (.inr ⟨hk1,by omega,h0⟩)
        rw[a4 y (by omega)]
        exact ho.2 y hy
      | false =>
        simp only[UZ,e3,hcast,Qb,Qc,Qd,Qf,Qh,Qi,Qj,Qk,Qm,Qn,true_and,Qo,Qp,Qq,Qr,Qs,Qv]
        rw[← hW]
        have hb0:b≠0:=fun e=>by have:=ht e;cases this
        refine ih (k+1) s b _ _ _ (by omega) (by omega) (by omega) ho b1 b2 ?_
        rcases hr with⟨q,_⟩ | q
        · exact absurd q hb0
        · exact .inr q
    · have hd0:decide (v.value.getD k 0=0)=false:=decide_eq_false h0
      simp only[NE,UY,l1,AG,En,h'.ld_val,ln,hd,ZR,i1,i2,hd0,UZ,e3,hcast,Qa,Qb,Qc,Qd,Qf,Qg,Qh,Qi,Qj,Qk,Qm,Qn,true_and,Qo,Qp,Qq,Qr,Qs,Qt,Qu,Qv,Qw,Qy,Qz,Rl,Rn,Ro,Rq,Rv]
      rw[← hW]
      refine ih (k+1) s b _ _ _ (by omega) (by omega) (by omega) ho b1 b2 ?_
      rcases hr with⟨q,q'⟩ | q
      · refine .inl ⟨q,fun j hj1 hj2=>?_⟩
        by_cases e:j=k
        · rw[e];exact h0
        · exact q' j hj1 (by omega)
      · exact .inr q
theorem Uy{E:BN}(hE:Good E){ow:Ow}{s:AF}{p:Nat}{x:Sf}{v:Sv}(h:Ah ow s p x v){n:Nat}(hn:n<100000000)(hval:v.value.length=n+1)(hheat:v.heat.length=n+1):
  WF E 70 [AK p] (fun r s'=>∃ (b:Nat) (ow':Ow),r=iv (b:Int)∧Wl v.value (n+1) b∧Ah ow' s' p x v∧AH (BU p) ow s ow' s') s:=by
 have hptr:∀i,Made.val i .ptr=.ptr (some (i,0)):=fun _=>rfl
 have hbox:DS 44 (AV.ptr (some (p,0)))=some (AO 44 0 [AK p],.ptr):=by simp[DS,AK,AV.cells]
 refine hE.go ll (by decide) rfl ?_
 generalize hs1:newObj s (AO 44 0 [AK p])=s1
 have n1:s1.next=s.next+1:=by rw[← hs1];rfl
 have o1:BG s.next s s1:=by rw[← hs1];exact BG.new s _
 have b1:As s1 s.next (AK p):=by rw[← hs1];exact As.new
 generalize hs2:newObj s1 (AO 3 0 [.int .i64 0])=s2
 have n2:s2.next=s.next+2:=by rw[← hs2];show s1.next+1=_;omega
 have o2:BG (s.next+1) s1 s2:=by rw[← hs2,← n1];exact BG.new s1 _
 have b2:As s2 (s.next+1) (.int .i64 0):=by rw[← hs2,← n1];exact As.new
 obtain⟨s3,a1,a2,a3,a4⟩:=b2.store (d:=iv 0) Bt rfl rfl
 have b1':As s3 s.next (AK p):=(b1.keep (o2.2 _ (by omega))).keep (a4 _ (by omega))
 have o3:BG s.next s s3:=(o1.trans (o2.mono (by omega))).trans ⟨by omega,fun y hy=>a4 y (by omega)⟩
 simp only[AK]at hs1 hbox
 simp only[pp,ig,ii,ij,ik,AK,hbox,hs1,hptr,UM,hs2,n1,BV,a1,AU,rM,rF,Qa,Qb,Qc,Qd,Qf,Qh,Qi,Qj,Qk,Ql,Qm,Qn,true_and,Qo,Qp,Qq,Qr,Qs,Qw,Rc,Rf,Rg,Rh,Yc]
 refine Vv hE hn h hval hheat (sb:=s.next) (bb:=s.next+1) (by omega) (by omega) (by omega) ?_ n 1 s3 0 _ _ _ (by omega) (by omega) (by omega) o3 b1' a2 (.inl ⟨rfl,fun j h1 h2=>absurd h1 (by omega)⟩)
 intro s' b y2 y5 y6 y7 k1 k2 k3
 simp only[if_true,im,k2.load Dg,Qb,Qc,Qd,Qf,Qh,Qj,Qk,Qm,Qn,true_and,Qo,Qp,Qq,Qr,Qs,Qw,Qy,Rb,Re]
 exact⟨b,_,rfl,k3,h.keep (AH.old (m:=fun _=>False) k1 (0,0,0)) (fun _ q=>q.elim),AH.old k1 _⟩
theorem Ah.keep16{m:Bh→Prop}{ow ow':Ow}{s s':AF}{p:Nat}{x:Sf}{v:Sv}(h:Ah ow s p x v)(k:AH m ow s ow' s')(hm:∀a i,a<16→¬ m (p,a,i)):Ah ow' s' p x v:=by
 have hn:=k.next
 have hl:=h.lt
 exact { box:=h.box.step k h.tag h.lt (hm 0 0 (by decide)),tag:=by rw[k.tags p h.lt (by rw[h.tag];exact hm 0 0 (by decide))];exact h.tag,lt:=by omega,w:=h.w.step k (hm 1 0 (by decide)) (fun j=>hm 2 j (by decide)),learned:=h.learned.step k (hm 3 0 (by decide)),value:=h.value.step k (hm 4 0 (by decide)),level:=h.level.step k (hm 5 0 (by decide)),why:=h.why.step k (hm 6 0 (by decide)),heat:=h.heat.step k (hm 7 0 (by decide)),phase:=h.phase.step k (hm 8 0 (by decide)),trail:=h.trail.step k (hm 9 0 (by decide)),limits:=h.limits.step k (hm 10 0 (by decide)),model:=h.model.step k (hm 11 0 (by decide)),trace:=h.trace.step k (hm 12 0 (by decide)) (hm 13 0 (by decide)),cls:=fun c l hc=>(h.cls c l hc).step k (hm 14 c (by decide)) (hm 15 c (by decide)) }
theorem Ah.push_trace  {ow : Ow} {s : AF}  {p : Nat} {x : Sf} {v : Sv} (h : Ah  ow s p x v) (hT : v.trace.length ≤ 1000000) (d : Bool) {u : AV} {L : List Int} (hu : AX      s.next s u (Ax  L)) (hslot : ∀ j, Cn   u = some j → ow j = (p, 13, 0) ∧ j < s.next) :
    ∃t' s' ow',Af Try.prog (newObj s (AO 27 2 [.bool d,u])) [33,33] [x.trc,.slice (some (s.next,0)) 1 (some 1)]=some (t',s')∧DM s' p (Dd x v)∧t'.isCell=true∧t'.cells=[t'] ∧
      ∀s'' y,DM s'' p (Dd { x with trc:=t' } { v with broken:=y,trace:=v.trace++[(d,L)] })→s''.next=s'.next→(∀j,j≠p→s''.heap.get j=s'.heap.get j) →
        Ah ow' s'' p { x with trc:=t' } { v with broken:=y,trace:=v.trace++[(d,L)] }∧AH (BU p) ow s ow' s'':=by
  have c1:=GY (P:=Try.prog) (e:=27) (s:=newObj s (AO 27 2 [.bool d,u])) (n:=1) (cap:=some 1) (sz:=2) 27 2 (by rw[AQ,if_pos rfl]) rfl
  have hst0:AH (fun _=>False) ow s (ext ow s.next (0,0,0)) (newObj s (AO 27 2 [.bool d,u])):=AH.new _ ow s _ _
  have h1:=h.keep hst0 (fun _ q=>q.elim)
  obtain⟨us,O,t1,t2,t3,t4,t5⟩:=h1.trace
  obtain⟨v',s',O',g1,g2,g3,g4,g5,g6,g7⟩:=t1.append (P:=Try.prog) (st:=33) (xt:=33) Try.underlying33 PE nP (by decide) (Ke 33 27 Try.underlying33) cV c1 rfl (by have:=hu.isCell.1;simp only[Ak,this];rfl) (by omega) (by omega)
  generalize hs1:newObj s (AO 27 2 [.bool d,u])=s1 at *
  have n1:s1.next=s.next+1:=by rw[← hs1];rfl
  generalize ho1:ext ow s.next (0,0,0)=ow1 at *
  have hstA:AH (· = (p,12,0)) ow1 s1 (ext ow1 s1.next (p,12,0)) s':=⟨g3,fun j hj _=>D1 hj,fun j hj hm=>g5 j hj fun e=>hm (t2 j e)⟩
  have hm:∀a i,a≠12→¬ ((p,a,i):Bh)=(p,12,0):=fun a i ha=>CM ha
  have hlt:=h1.lt
  have hbox:=h1.box.step hstA h1.tag h1.lt (hm 0 0 (by decide))
  have hcell:v'.isCell=true∧v'.cells=[v']:=by
    obtain⟨a,cap,e,_⟩:=g2.cells
    rw[e];exact⟨rfl,rfl⟩
  refine⟨v',s',ext ow1 s1.next (p,12,0),g1,hbox,hcell.1,hcell.2,fun s'' y hb hn hf=>?_⟩
  have htag:(ext ow1 s1.next (p,12,0)) p=(p,0,0):=by rw[D1 h1.lt];exact h1.tag
  have hstB:AH (· = (p,0,0)) (ext ow1 s1.next (p,12,0)) s' (ext ow1 s1.next (p,12,0)) s'':=⟨by omega,fun _ _ _=>rfl,fun j _ hm=>hf j fun e=>hm (by rw[e];exact htag)⟩
  have hm0:∀a i,a≠0→¬ ((p,a,i):Bh)=(p,0,0):=fun a i ha=>CM ha
  have hu1:AX s1.next s1 u (Ax L):=(hu.keep fun j hj=>hst0.heap j (hslot j hj).2 (fun q=>q)).mono (by omega)
  have hslot1:∀j,Cn u=some j→ow1 j=(p,13,0)∧j<s1.next:=fun j hj=>⟨by rw[hst0.tags j (hslot j hj).2 (fun q=>q)];exact(hslot j hj).1,by have:=(hslot j hj).2;omega⟩
  have htr:N8 (ext ow1 s1.next (p,12,0)) s' p v' (v.trace++[(d,L)]):=by
    refine⟨us++[.bool d,u],O',by rw[qM];exact g2,fun j hj=>?_,fun j hj=>?_,?_,fun w hw j hj=>?_⟩
    · rcases g6 j hj with q | q
      · rw[D1 (t1.lt j q)];exact t2 j q
      · exact C2 q
    · rcases g7 j hj with q | q
      · obtain⟨q1,q2⟩:=t3 j q
        exact⟨by rw[D1 q2];exact q1,by omega⟩
      · exact⟨C2 q,g2.slot_lt j hj⟩
    · refine ((t4.mono g3).keep fun w hw j hj => ?_).snoc ?_
      · obtain⟨q1,q2⟩:=t5 w hw j hj
        exact hstA.heap j q2 (by rw[q1];exact hm 13 0 (by decide))
      · refine(hu1.keep fun j hj=>?_).mono g3
        obtain⟨q1,q2⟩:=hslot1 j hj
        exact hstA.heap j q2 (by rw[q1];exact hm 13 0 (by decide))
    · rcases List.mem_append.1 hw with hw | hw
      · obtain⟨q1,q2⟩:=t5 w hw j hj
        exact⟨by rw[D1 q2];exact q1,by omega⟩
      · rcases qp.1            hw with rfl | hw
        · cases hj
        · have:w=u:=by simpa using hw
          subst this
          obtain⟨q1,q2⟩:=hslot1 j hj
          exact⟨by rw[D1 q2];exact q1,by omega⟩
  have hstepA:AH (BU p) ow s (ext ow1 s1.next (p,12,0)) s':=(hst0.mono fun _ q=>q.elim).trans (hstA.mono fun t ht=>by rw[ht];exact⟨rfl,by simp,by simp,by simp⟩)
  refine⟨?_,hstepA.trans (hstB.mono fun t ht=>by rw[ht];exact⟨rfl,by simp,by simp,by simp⟩)⟩
  have h:=h1
  have k:True:=trivial
  exact { box:=hb,tag:=htag,lt:=by omega,w:=(h.w.step hstA (hm 1 0 (by decide)) (fun j=>hm 2 j (by decide))).step hstB (hm0 1 0 (by decide)) (fun j=>hm0 2 j (by decide)),learned:=(h.learned.step hstA (hm 3 0 (by decide))).step hstB (hm0 3 0 (by decide)),value:=(h.value.step hstA (hm 4 0 (by decide))).step hstB (hm0 4 0 (by decide)),level:=(h.level.step hstA (hm 5 0 (by decide))).step hstB (hm0 5 0 (by decide)),why:=(h.why.step hstA (hm 6 0 (by decide))).step hstB (hm0 6 0 (by decide)),heat:=(h.heat.step hstA (hm 7 0 (by decide))).step hstB (hm0 7 0 (by decide)),phase:=(h.phase.step hstA (hm 8 0 (by decide))).step hstB (hm0 8 0 (by decide)),trail:=(h.trail.step hstA (hm 9 0 (by decide))).step hstB (hm0 9 0 (by decide)),limits:=(h.limits.step hstA (hm 10 0 (by decide))).step hstB (hm0 10 0 (by decide)),model:=(h.model.step hstA (hm 11 0 (by decide))).step hstB (hm0 11 0 (by decide)),trace:=htr.step hstB (hm0 12 0 (by decide)) (hm0 13 0 (by decide)),cls:=fun c l hc=>((h.cls c l hc).step hstA (hm 14 c (by decide)) (hm 15 c (by decide))).step hstB (hm0 14 c (by decide)) (hm0 15 c (by decide)) }
theorem DC(l:List AV):(AV.agg l).cells=l:=rfl
def C3(v:Sv):Sv:=if v.broken=true then v else { v with broken:=true,trace:=v.trace++[(false,[])] }
theorem RY:Bz Try.prog 27 (zipIdx [] [])=some (.agg [.bool false,.slice none 0 (some 0)]):=by
 simp[Bz,RM,Try.underlying27,B0,We,CL,zipIdx,Dp,DC]
theorem RX{u:AV}(hu:u.cells=[u]):Bz Try.prog 27 (zipIdx [1] [u])=some (.agg [.bool false,u]):=by
 simp[Bz,RM,Try.underlying27,B0,We,CL,zipIdx,Dp,DC,AI,hu]
 rfl
theorem kV{u:AV}(hu:u.cells=[u]):Bz Try.prog 104 (zipIdx [0,1] [u,.bool true])=some (.agg [u,.bool true,.bool false]):=by
 simp[Bz,kP,Try.underlying104,B0,We,CL,zipIdx,Dp,DC,AI,hu]
 rfl
theorem RW{u:AV}(hu:u.cells=[u]):Bz Try.prog 104 (zipIdx [0] [u])=some (.agg [u,.bool false,.bool false]):=by
 simp[Bz,kP,Try.underlying104,B0,We,CL,zipIdx,Dp,DC,AI,hu]
 rfl
theorem Wy{u:AV}(hu:u.cells=[u])(b c:Bool):DS 104 (.agg [u,.bool b,.bool c])=some (AO 104 0 [u,.bool b,.bool c],.ptr):=by
 simp[DS,AV.cells]
theorem Kl{E:BN}(hE:Good E){ow:Ow}{s:AF}{p:Nat}{x:Sf}{v:Sv}(h:Ah ow s p x v)(hT:v.trace.length≤1000000):
  WF E 65 [AK p] (fun _ s'=>∃ow' x',Ah ow' s' p x' (C3 v)∧AH (BU p) ow s ow' s'∧x'.w=x.w) s:=by
 refine hE.go lf (by decide) rfl ?_
 cases hb:v.broken with
 | true =>
  have hf:C3 v=v:=by unfold C3;rw[if_pos hb]
  have ld:=h.ld_broken
  rw[hb]at ld
  simp only[pB,ZH,AK,AG,GQ,ld,Qa,Qb,Qc,Qd,Qf,Qh,Qj,Qk,Ql,Qm,Qn,true_and,Qo,Qp,Qq,Qr,Qs,Qv,Qw,Rd,Re,Rf,Ya,Rx]
  rw[hf]
  exact⟨ow,x,h,AH.refl _ _ _,rfl⟩
 | false =>
  have hf:C3 v={ v with broken:=true,trace:=v.trace++[(false,[])] }:=by unfold C3;rw[if_neg (by rw[hb];decide)]
  have ld:=h.ld_broken
  rw[hb]at ld
  have hms:∀ (m:Nat) (i:Nat),Made.val i (.slice m)=.slice (some (i,0)) m (some m):=fun _ _=>rfl
  obtain⟨t',s1,ow',a1,a2,a3,a4,a5⟩:=h.push_trace hT false (u:=.slice none 0 (some 0)) (L:=[]) ⟨none,some 0,rfl,Ay.nil⟩ (fun j hj=>by cases hj)
  obtain⟨s2,b1,b2,b3,b4⟩:=a2.store (k:=10) (d:=.bool true) (by simp) (t:=4) We rfl rfl
  obtain⟨s3,d1,d2,d3,d4⟩:=b2.store (k:=12) (d:=t') (by simp) (t:=33) cM a3 a4
  obtain⟨k1,k2⟩:=a5 s3 true d2 (by omega) (fun j hj=>(d4 j hj).trans (b4 j hj))
  simp only[pB,ZH,iJ,AK,AG,GQ,HU,ld,h.ld_trc,RY,IT,hms,a1,BV,b1,d1,AU,Qa,Qb,Qc,Qd,Qf,Qh,Qi,Qj,Qk,Ql,Qm,Qn,true_and,Qo,Qp,Qq,Qr,Qs,Qu,Qw,Rd,Re,Rf,Yb,Yc,Rx]
  rw[hf]
  exact⟨ow',_,k1,k2,rfl⟩
theorem NN{E:BN}(hE:Good E){ow:Ow}{s:AF}{p:Nat}{x:Sf}{v:Sv}(h:Ah ow s p x v)(hr:(v.learned.length:Int)<v.room):
  WF E 69 [AK p] (fun _ s'=>∃ow',Ah ow' s' p x v∧AH (BU p) ow s ow' s') s:=by
 have hptr:∀i,Made.val i .ptr=.ptr (some (i,0)):=fun _=>rfl
 have hbox:DS 44 (AV.ptr (some (p,0)))=some (AO 44 0 [AK p],.ptr):=by simp[DS,AK,AV.cells]
 have hst:AH (fun _=>False) ow s (ext ow s.next (0,0,0)) (newObj s (AO 44 0 [AK p])):=AH.new _ ow s _ _
 have h':=h.keep hst (fun _ q=>q.elim)
 have b1:As (newObj s (AO 44 0 [AK p])) s.next (AK p):=As.new
 have l1:=b1.load Dy
 have ln:∀s,Aq Try.prog s 89 x.l=some (iv (v.learned.length:Int)):=fun s=>by
  have:=h.learned.len Try.underlying89 s
  rw[qK]at this
  exact this
 have hd:=decide_eq_true hr
 have ld1:=h'.ld_l
 have ld2:=h'.ld_room
 refine hE.go aN (by decide) rfl ?_
 simp only[AK]at hbox l1 ld1 ld2
 simp only[pC,ZP,ZQ,AK,hbox,hptr,l1,AG,Oe,Um,ld1,ld2,ln,hd,Qa,Qb,Qc,Qd,Qf,Qh,Qj,Qk,Ql,Qm,Qn,true_and,Qo,Qp,Qq,Qr,Qs,Qu,Qw,Qx,Rc,Rd,Re,Rf,Rq]
 exact⟨_,h',hst.mono fun _ q=>q.elim⟩
def Vz(ow:Ow)(T T':Bh):Ow:=fun x=>if ow x=T then T' else ow x
theorem AH.aS{m:Bh→Prop}(ow:Ow)(s:AF)(T T':Bh)(h:m T):AH m ow s (Vz ow T T') s:=
 ⟨qI _,fun x hx hm=>if_neg fun e=>hm (by rw[e];exact h),fun _ _ _=>rfl⟩
theorem Bc.aS{ow:Ow}{T T':Bh}{s:AF}{v:AV}{cs:List AV}(h:Bc ow T s v cs):Bc (Vz ow T T') T' s v cs:=by
 rcases h with h | ⟨i,o,cap,r,h1,h2,h3⟩
 ·exact .inl h
 ·exact .inr ⟨i,o,cap,r,h1,⟨h2.get,if_pos h2.whose,h2.lt,h2.own,h2.sz,fun q hq=>let ⟨k1,k2,k3⟩:=h2.par q hq;⟨if_pos k1,k2,k3⟩⟩,h3⟩
def Es(v:Sv)(c:Nat)(l:A6):Sv:={ v with cl:=AP v.cl c l }
def A8(v:Sv)(c:Nat)(L:List Int):Sv:=
 let v1:=Es { v with trace:=v.trace++[(false,L)] } c (L,true,false)
 let v2:Sv:=if 1<L.length then { IE v1 c (L.getD 0 0) (L.getD 1 0)with learned:=v.learned++[c] }else v1
 BR v2 (L.getD 0 0) (some c)
theorem G3:∀ (l:List Int)(v:Sv),∃ph va wh,l.foldl C7 v={ v with phase:=ph,value:=va,why:=wh }∧ph.length=v.phase.length∧va.length=v.value.length∧wh.length=v.why.length
 | [],v=>⟨_,_,_,rfl,rfl,rfl,rfl⟩
 | x::l,v=>by
  obtain⟨ph,va,wh,h1,h2,h3,h4⟩:=G3 l (C7 v x)
  exact⟨ph,va,wh,h1,h2.trans qQ,h3.trans qQ,h4.trans qQ⟩
theorem B5(v:Sv)(level:Nat):∃ph va wh tr li hd,Ab v level={ v with phase:=ph,value:=va,why:=wh,trail:=tr,limits:=li,head:=hd }∧ph.length=v.phase.length∧va.length=v.value.length∧wh.length=v.why.length∧tr.length≤v.trail.length∧li.length≤v.limits.length:=by
 unfold Ab
 split
 ·exact⟨_,_,_,_,_,_,rfl,rfl,rfl,rfl,qI _,qI _⟩
 ·unfold Gu
  obtain⟨ph,va,wh,h1,h2,h3,h4⟩:=G3 (v.trail.drop (v.limits.getD level 0).toNat) v
  rw[h1]
  exact⟨ph,va,wh,_,_,_,rfl,h2,h3,h4,by rw[qb];omega,by rw[qb];omega⟩
theorem fP.back{n:Nat}{v:Sv}(h:fP n v)(level:Nat):fP n (Ab v level):=by
 obtain⟨ph,va,wh,tr,li,hd,e,h1,h2,h3,h4,h5⟩:=B5 v level
 rw[e]
 exact⟨h.small,h.w,h2.trans h.value,h.level,h3.trans h.why,h.heat,h1.trans h.phase,qV h4 h.trail,qV h5 h.limits⟩
theorem N8.self{ow:Ow}{s:AF}{p:Nat}{v:AV}{T:Ba}(h:N8 ow s p v T):FY v v=true:=by
 obtain⟨us,O,h1,_⟩:=h
 obtain⟨a,cap,rfl,_⟩:=h1.cells
 exact FK
theorem De.slot_ge{lo:Nat}{s:AF}{v:AV}{L:List Int}(h:De lo s v L)(hL:L≠[]):∀j,Cn v=some j→lo≤j∧j<s.next:=by
 rcases h with⟨a,rfl,e⟩ | ⟨i,rfl,h1,h2,_⟩
 ·exact absurd e hL
 ·intro j hj
  simp[Cn]at hj
  subst hj
  exact⟨h1,h2⟩
theorem eI{E:BN}(hE:Good E){K:List AV→AF→Prop}{ow:Ow}{s:AF}{p:Nat}{x:Sf}{v:Sv}(h:Ah ow s p x v){lv:AV}{L:List Int}(hlv:Bc ow (p,20,0) s lv (Ax L))(hL:L≠[])(hl:L.length≤1000000)(hT:v.trace.length≤1000000)(x2 x3 x4:AV)
  (hK:∀s1 ow1 x',Ah ow1 s1 p x' { v with trace:=v.trace++[(false,L)] }→x'.w=x.w→AH (BU p) ow s ow1 s1→K [AV.ptr (some (p,0)),lv,x2,x3,x4] s1):
  Qb E ZI K [] [AV.ptr (some (p,0)),lv,x2,x3,x4] s:=by
 have hms:∀ (m:Nat) (i:Nat),Made.val i (.slice m)=.slice (some (i,0)) m (some m):=fun _ _=>rfl
 simp only[ZI,AG,HU,h.ld_trc,Qb,Qc,Qd,Qf,Qh,Qj,Qk,Qm,Qn,true_and,Qq,Qr,Qs]
 refine(Gz hE (qI _) hlv.slice hl).mono ?_
 rintro u s1 ⟨hu,ho⟩
 have hst:AH (fun _=>False) ow s (ext ow s.next (p,13,0)) s1:=AH.old ho _
 have h1:=h.keep hst (fun _ q=>q.elim)
 obtain⟨t',s2,ow2,a1,a2,a3,a4,a5⟩:=h1.push_trace hT false hu.slice (fun j hj=>by
  obtain⟨q1,q2⟩:=hu.slot_ge hL j hj
  exact⟨C2 q1,q2⟩)
 obtain⟨s3,d1,d2,d3,d4⟩:=a2.store (k:=12) (d:=t') (by simp) (t:=33) cM a3 a4
 obtain⟨k1,k2⟩:=a5 s3 v.broken d2 (by omega) (fun j hj=>d4 j hj)
 simp only[BX,At,h1.ld_trc,h1.trace.self,RX hu.slice.isCell.2,IT,hms,a1,BV,d1,AU,AG,HU,Qd,Qk,Qm,Qn,true_and,and_true,Qq,Qr,Yc]
 exact hK s3 ow2 _ k1 rfl ((hst.mono fun _ q=>q.elim).trans k2)
theorem eJ{E:BN}(hE:Good E){ow:Ow}{s:AF}{p:Nat}{x:Sf}{v:Sv}(h:Ah ow s p x v){n:Nat}(hf:Mt n v){level:Nat}(hlev:level<100000000){lv:AV}{L:List Int}(hlv:Bc ow (p,20,0) s lv (Ax L))(hL:A9 n L)(h1:1≤L.length)(hl:L.length≤1000000)(hT:v.trace.length≤1000000)(hW:CV v.watches≤90000000)(hle:v.learned.length≤100000000):
    WF E 66 [AK p,lv,iv (level:Int)] (fun _ s'=>∃c ow' x',v.cl c=none∧Ah ow' s' p x' (A8 (Ab v level) c L)∧AH (Bb p) ow s ow' s') s:=by
  have hne:L≠[]:=fun e=>by rw[e]at h1;cases h1
  have hz0:=hf.siz.back level
  obtain⟨ph,va,wh,tr,li,hd,e,z1,z2,z3,z4,z5⟩:=B5 v level
  have hptr:∀i,Made.val i .ptr=.ptr (some (i,0)):=fun _=>rfl
  refine hE.go lg (by decide) rfl ?_
  simp only[pm,iK,AK,Qa,Qb,Qc,Qf,Qh,Qj,Ql,Qm,Qq,Qr,Qs,Qw,Rd,Rf]
  refine(DR hE h hf hlev).mono ?_
  rintro _ s1 ⟨x1,a1,a2,_⟩
  have b1:Bc ow (p,20,0) s1 lv (Ax L):=hlv.step a2 (fun q=>absurd q.2.2.2 (by show ¬ 20<16;omega))
  have hcl1:(Ab v level).cl=v.cl:=by rw[e]
  have hT1:(Ab v level).trace=v.trace:=by rw[e]
  have hw1:(Ab v level).watches=v.watches:=by rw[e]
  have hle1:(Ab v level).learned=v.learned:=by rw[e]
  generalize hvb:Ab v level=vb at *
  simp only[Qd,Qn,true_and]
  refine eI hE a1 b1 hne hl (by rw[hT1];exact hT) _ _ _ ?_
  intro s2 ow2 x2 d1 d2 d3
  have b2:Bc ow2 (p,20,0) s2 lv (Ax L):=b1.step d3 (fun q=>absurd q.2.2.2 (by show ¬ 20<16;omega))
  have hbx:=Wy b2.isCell.2 true false
  have hbl:=kV b2.isCell.2
  have hstN:AH (fun _=>False) ow2 s2 (ext ow2 s2.next (p,14,s2.next)) (newObj s2 (AO 104 0 [lv,.bool true,.bool false])):=AH.new _ ow2 s2 _ _
  have d1N:=d1.keep hstN (fun _ q=>q.elim)
  have b2N:=b2.step hstN (fun q=>q)
  have hbox:DM (newObj s2 (AO 104 0 [lv,.bool true,.bool false])) s2.next [lv,.bool true,.bool false]:=DM.new
  generalize hc:s2.next=c at *
  generalize hs3:newObj s2 (AO 104 0 [lv,.bool true,.bool false])=s3 at *
  have n3:s3.next=c+1:=by rw[← hs3,← hc];rfl
  have hfresh:vb.cl c=none:=by
    cases hcc:vb.cl c with
    | none=>rfl
    | some l =>
      obtain⟨_,_,_,q,_⟩:=d1.cls c l hcc
      omega
  have hasm:AH (· = (p,20,0)) (ext ow2 c (p,14,c)) s3 (Vz (ext ow2 c (p,14,c)) (p,20,0) (p,15,c)) s3:=AH.aS _ _ _ _ rfl
  have d3A:=d1N.keep16 hasm (fun a i ha q=>by injection q with _ q;injection q with q;omega)
  have b3:Bc _ (p,15,c) s3 lv (Ax L):=b2N.aS (T':=(p,15,c))
  have htag:(Vz (ext ow2 c (p,14,c)) (p,20,0) (p,15,c)) c=(p,14,c):=by
    unfold Vz
    rw[C2 (qI c),if_neg (CM (by decide))]
  generalize how3:Vz (ext ow2 c (p,14,c)) (p,20,0) (p,15,c)=ow3 at *
  have d4:Ah ow3 s3 p x2 (Es { vb with trace:=vb.trace++[(false,L)] } c (L,true,false)):=d3A.clause hfresh ⟨lv,hbox,htag,by omega,b3⟩
  have hstep:AH (Bb p) ow s ow3 s3:=((a2.trans d3).b.trans (hstN.mono fun _ q=>q.elim)).trans (hasm.mono fun t ht=>by rw[ht];rfl)
  have hcl4:(Es { vb with trace:=vb.trace++[(false,L)] } c (L,true,false)).cl c=some (L,true,false):=Ao _ _ _
  have hV0:=hL.get (k:=0) (by omega)
  have hg0:=AR (d:=(0:Int)) (show 0<L.length by omega)
  have i0:AC Try.prog 23 lv (iv 0)=some (BA lv 0):=b3.addr Try.underlying23 Bt (k:=0) (by rw[qK];omega)
  have ln:∀s,Aq Try.prog s 23 lv=some (iv (L.length:Int)):=fun s=>by
    have:=b3.len Try.underlying23 s
    rw[qK]at this
    exact this
  have hms:∀ (m:Nat) (i:Nat),Made.val i (.slice m)=.slice (some (i,0)) m (some m):=fun _ _=>rfl
  have bl:=Ck (P:=Try.prog) (t:=89) (v:=AK c) Try.underlying89 E5 UE rfl rfl
  simp only[AK]at bl
  simp only[iL,hbl,hbx,hc,hs3,hptr,iM,ln,Qb,Qc,Qd,Qf,Qh,Qi,Qj,Qk,Qm,Qn,true_and,Qo,Qp,Qq,Qr,Qs,Rs]
  by_cases h2:1<L.length
  · have hdd:decide ((1:Int)<(L.length:Int))=true:=decide_eq_true (by omega)
    simp only[hdd,iN,Qb,Qc,Qf,Qh,Qj,Qm,Qq,Qr,Qs,Qu,Re]
    refine(RL hE d4 (n:=n) hz0.small hz0.w (by show CV vb.watches≤_;rw[hw1];exact hW) hcl4 hL h2).mono ?_
    rintro _ s4 ⟨ow4,e1,e2⟩
    have b4:Bc ow4 (p,15,c) s4 lv (Ax L):=b3.step e2 (fun q=>by rcases q.2 with q | q<;>cases q)
    have hst5:AH (fun _=>False) ow4 s4 (ext ow4 s4.next (0,0,0)) (newObj s4 (AO 92 1 [AK c])):=AH.new _ ow4 s4 _ _
    have e1':=e1.keep hst5 (fun _ q=>q.elim)
    have b4':=b4.step hst5 (fun q=>q)
    obtain⟨u,s5,s6,ow5,f1,f2,f3,f4⟩:=e1'.push_learned (by show vb.learned.length≤_;rw[hle1];omega) c (q:=s4.next) (ty:=92) (sz':=1) (by rw[AQ,if_pos rfl])
    have b6:Bc ow5 (p,15,c) s6 lv (Ax L):=b4'.step f4 (fun q=>by rcases q with q | q<;>injection q with _ q<;>injection q with q<;>cases q)
    have l0:=b6.get (t:=3) Dg (k:=0) (Au hg0)
    have ldl:=e1.ld_l
    simp only[AK]at f1
    simp only[iO,AG,Oe,ldl,bl,hms,f1,BV,f2,AU,ZJ,i0,l0,Qb,Qc,Qd,Qf,Qh,Qi,Qj,Qk,Qm,Qn,true_and,Qq,Qr,Qs,Yc]
    refine(F2 hE f3 (n:=n) ?_ hV0 (some c)).mono ?_
    · exact⟨hz0.small,by show(Cx (Cx _ _ _) _ _).length=_;rw[C9,C9];exact hz0.w,hz0.value,hz0.level,hz0.why,hz0.heat,hz0.phase,hz0.trail,hz0.limits⟩
    rintro _ s7 ⟨ow7,x7,g1,g2,_⟩
    simp only[Qd,Qn,true_and]
    refine⟨c,ow7,x7,by rw[← hcl1];exact hfresh,?_,hstep.trans ((e2.w.trans (hst5.mono fun _ q=>q.elim)).trans ((f4.n (by decide) (by decide) (by decide)).b.trans g2.b))⟩
    unfold A8
    simp only[if_pos h2]
    exact g1
  · have hdd : decide ((1 : Int) < (L.length : Int)) = false := decide_eq_false (by omega)
    have l0:=b3.get (t:=3) Dg (k:=0) (Au hg0)
    simp only[hdd,ZJ,i0,l0,Qb,Qc,Qd,Qf,Qh,Qi,Qj,Qk,Qm,Qn,true_and,Qq,Qr,Qs,Qv,Re]
    refine(F2 hE d4 (n:=n) ⟨hz0.small,hz0.w,hz0.value,hz0.level,hz0.why,hz0.heat,hz0.phase,hz0.trail,hz0.limits⟩ hV0 (some c)).mono ?_
    rintro _ s7 ⟨ow7,x7,g1,g2,_⟩
    simp only[Qd,Qn,true_and]
    refine⟨c,ow7,x7,by rw[← hcl1];exact hfresh,?_,hstep.trans g2.b⟩
    unfold A8
    simp only[if_neg h2]
    exact g1
def JH:List Nat→List (AV×AV×Nat)→Prop
 | [],es=>es=[]
 | k::l,es=>∃b t,es=(iv (k:Int),AV.agg [],b)::t∧JH l t
def Hr(s:AF)(i:Nat)(L:List Nat):Prop:=∃es c,s.heap.get i=some (.map es c)∧JH L es
theorem Hr.keep{s s':AF}{i:Nat}{L:List Nat}(h:Hr s i L)(k:s'.heap.get i=s.heap.get i):Hr s' i L:=by
 obtain⟨es,c,h1,h2⟩:=h
 exact⟨es,c,k.trans h1,h2⟩
theorem JH.snoc:∀ {L:List Nat}{es:List (AV×AV×Nat)},JH L es→∀ (k b:Nat),JH (L++[k]) (es++[(iv (k:Int),AV.agg [],b)])
 | [],es,h,k,b=>by
  have h:es=[]:=h
  subst h
  exact⟨b,[],rfl,rfl⟩
 | j::L,es,h,k,b=>by
  obtain⟨c,t,rfl,h⟩:=h
  exact⟨c,t++[(iv (k:Int),AV.agg [],b)],rfl,h.snoc k b⟩
theorem Je        : ∀ {L : List Nat} {es : List (AV × AV × Nat)}, JH     L es → ∀ (k n : Nat), (k ∈ L ∧ ∃ j b, D2    (iv (k : Int)) es n = some (some (j, AV.agg [], b))) ∨ (k ∉ L ∧ D2    (iv (k : Int)) es n = some none)
  | [],es,h,k,n=>by
    have h:es=[]:=h
    subst h
    exact .inr ⟨by simp,rfl⟩
  | j::L,es,h,k,n=>by
    obtain⟨c,t,rfl,h⟩:=h
    by_cases e:k=j
    · subst e
      refine .inl ⟨by simp,n,c,?_⟩
      simp only[D2,Im,decide_true,Option.bind_some]
    · have hd : decide ((k : Int) = (j : Int)) = false := decide_eq_false (by omega)
      have he:D2 (iv (k:Int)) ((iv (j:Int),AV.agg [],c)::t) n=D2 (iv (k:Int)) t (n+1):=by
        simp only[D2,Im,Option.bind_some,hd]
      rw[he]
      rcases Je h k (n+1)with⟨h1,h2⟩ | ⟨h1,h2⟩
      · exact .inl ⟨qS _ h1,h2⟩
      · exact .inr ⟨by simp[e,h1],h2⟩
theorem HA{s:AF}{i:Nat}{L:List Nat}(h:Hr s i L)(k:Nat):DF Try.prog s 115 (.map (some i)) (iv (k:Int)) true=some (.tuple [.agg [],.bool (decide (k∈L))]):=by
 obtain⟨es,c,h1,h2⟩:=h
 simp only[DF,Try.underlying115,E4,AI,cond_true,h1,Option.bind_some]
 rcases Je h2 k 0 with⟨h3,j,b,h4⟩ | ⟨h3,h4⟩
 ·rw[h4,decide_eq_true h3];rfl
 ·rw[h4,decide_eq_false h3];simp only[Option.bind_some,cW]
theorem RI{s:AF}{i:Nat}{L:List Nat}(h:Hr s i L){k:Nat}(hk:k ∉ L):∃s',EX Try.prog s 115 (.map (some i)) (iv (k:Int)) (.agg [])=some s'∧Hr s' i (L++[k])∧s'.next=s.next∧∀j,j≠i→s'.heap.get j=s.heap.get j:=by
 obtain⟨es,c,h1,h2⟩:=h
 simp only[EX,Try.underlying115,E4,AI,cond_true,h1]
 rcases Je h2 k 0 with⟨h3,_⟩ | ⟨h3,h4⟩
 ·exact absurd h3 hk
 ·rw[h4]
  exact⟨_,rfl,⟨_,_,by rw[BL,if_pos rfl],h2.snoc k c⟩,rfl,fun x hx=>by rw[BL,if_neg hx]⟩
theorem Wr:Bi Try.prog 119=some (AO 119 0 [],.ptr):=by simp[Bi,cW,AV.cells]
theorem Wq:Bi Try.prog 115=some (AO 115 0 [.map none],.ptr):=by simp[Bi,oN,AV.cells]
theorem kW:Bz Try.prog 119 (zipIdx [] [])=some (.agg []):=by
 simp[Bz,cW,Try.underlying119,B0,zipIdx,Dp,DC]
theorem cK(s:AF)(i:Nat):AM Try.prog s 119 (.ptr (some (i,0))) (.agg [])=some s:=by
 simp[AM,oM,DC,AI,CK]
theorem bL(a b:Int):EO true (iv a) [iv b]=some (iv (max a b)):=by
 have hk:BY .i64 .i64=true:=rfl
 simp only[EO,hk,AI,cond_true,EM]
 by_cases h:a<b
 ·rw[decide_eq_true h,show max a b=b by omega];rfl
 ·rw[decide_eq_false h,show max a b=a by omega];rfl
structure EC where
 seen:List Nat
 hd:Int
 lits:List Int
 opn:Int
 lev:Int
def BQ(v:Sv)(a:EC)(q:Int):EC:=
 if q.natAbs∈a.seen∨v.level.getD q.natAbs 0=0 then a
 else if v.level.getD q.natAbs 0=(v.limits.length:Int)then { a with seen:=a.seen++[q.natAbs],opn:=a.opn+1 }
 else { a with seen:=a.seen++[q.natAbs],lits:=a.lits++[q],lev:=max a.lev (v.level.getD q.natAbs 0) }
structure Gh(n:Nat)(a:EC):Prop where
 nodup:a.seen.Nodup
 mem:∀k∈a.seen,1≤k∧k≤n
 len:a.lits.length≤a.seen.length
 lits:∀q∈a.lits,VL n q
 opn:0≤a.opn∧a.opn≤a.seen.length
theorem Gh.small{n:Nat}{a:EC}(h:Gh n a):a.seen.length≤n:=DG h.nodup h.mem
theorem Gh.step   {n : Nat} {a : EC}  (h : Gh   n a) (v : Sv) {q : Int} (hq : VL n q) : Gh   n (BQ     v a q) := by
  unfold BQ
  have hq1:1≤q.natAbs∧q.natAbs≤n:=⟨by have:=hq.1;omega,hq.2⟩
  split
  · exact h
  · rename_i h1
    have hns:q.natAbs ∉ a.seen:=fun e=>h1 (.inl e)
    have hnd:(a.seen++[q.natAbs]).Nodup:=by
      rw[rH]
      exact⟨h.nodup,by simp,fun x hx y hy e=>by
        have:y=q.natAbs:=by simpa using hy
        exact hns (by rw[← this,← e];exact hx)⟩
    have hmem:∀k∈a.seen++[q.natAbs],1≤k∧k≤n:=fun k hk=>by
      rcases List.mem_append.1 hk with hk | hk
      · exact h.mem k hk
      · have:k=q.natAbs:=by simpa using hk
        rw[this];exact hq1
    have h2:=h.len
    have h3:=h.opn
    split
    · exact⟨hnd,hmem,by show a.lits.length≤(a.seen++[q.natAbs]).length;simp;omega,h.lits,by show 0≤a.opn+1∧a.opn+1≤((a.seen++[q.natAbs]).length:Int);simp;omega⟩
    · exact⟨hnd,hmem,by show(a.lits++[q]).length≤(a.seen++[q.natAbs]).length;simp;omega,fun y hy=>by
        rcases List.mem_append.1 hy with hy | hy
        · exact h.lits y hy
        · have:y=q:=by simpa using hy
          rw[this];exact hq,by show 0≤a.opn∧a.opn≤((a.seen++[q.natAbs]).length:Int);simp;omega⟩
structure EB(ow:Ow)(s:AF)(p:Nat)(x:Sf)(v:Sv)(N:Nat)(h:List Int)(a:EC):Prop where
 sat:Ah ow s p x (BB v h)
 hl:h.length=v.heat.length
 sb:As s N (AK p)
 lb:∃lv,As s (N+1) lv∧Bc ow (p,20,0) s lv (Ax (a.hd::a.lits))
 vb:As s (N+2) (iv a.lev)
 mo:Hr s (N+3) a.seen
 mb:As s (N+4) (.map (some (N+3)))
 ob:As s (N+6) (iv a.opn)
 tg:∀j,N≤j→j≤N+6→j≠N+5→ow j=(p,21,0)
 lt:N+6<s.next
def Eu(p:Nat)(t:Bh):Prop:=t=(p,7,0)∨t=(p,20,0)∨t=(p,21,0)
def Gc(p:Nat)(t:Bh):Prop:=Eu p t∨t=(p,23,0)
theorem EB.keep{m:Bh→Prop}{ow ow':Ow}{s s':AF}{p:Nat}{x:Sf}{v:Sv}{N:Nat}{h:List Int}{a:EC}(H:EB ow s p x v N h a)(k:AH m ow s ow' s')(hm:∀y i,y<16→¬ m (p,y,i))(h1:¬ m (p,20,0))(h2:¬ m (p,21,0)):EB ow' s' p x v N h a:=by
 have hn:=k.next
 have hlt:=H.lt
 have g:∀j,N≤j→j≤N+6→j≠N+5→s'.heap.get j=s.heap.get j:=fun j q1 q2 q3=>k.heap j (by omega) (by rw[H.tg j q1 q2 q3];exact h2)
 obtain⟨lv,l1,l2⟩:=H.lb
 exact { sat:=H.sat.keep16 k hm,hl:=H.hl,sb:=H.sb.keep (g _ (by omega) (by omega) (by omega)),lb:=⟨lv,l1.keep (g _ (by omega) (by omega) (by omega)),l2.step k h1⟩,vb:=H.vb.keep (g _ (by omega) (by omega) (by omega)),mo:=H.mo.keep (g _ (by omega) (by omega) (by omega)),mb:=H.mb.keep (g _ (by omega) (by omega) (by omega)),ob:=H.ob.keep (g _ (by omega) (by omega) (by omega)),tg:=fun j q1 q2 q3=>by rw[k.tags j (by omega) (by rw[H.tg j q1 q2 q3];exact h2)];exact H.tg j q1 q2 q3,lt:=by omega }
theorem EB.box{ow:Ow}{s s':AF}{p:Nat}{x:Sf}{v:Sv}{N:Nat}{h:List Int}{a:EC}(H:EB ow s p x v N h a){i:Nat}(h1:N≤i)(h2:i≤N+6)(h3:i≠N+5)(hn:s'.next=s.next)(hf:∀j,j≠i→s'.heap.get j=s.heap.get j):
  AH (· = (p,21,0)) ow s ow s'∧Ah ow s' p x (BB v h)∧∀ (T:Bh) (u:AV) (cs:List AV),T≠(p,21,0)→Bc ow T s u cs→Bc ow T s' u cs:=by
 have st:AH (· = (p,21,0)) ow s ow s':=⟨by omega,fun _ _ _=>rfl,fun y _ hm=>hf y fun e=>hm (by rw[e];exact H.tg i h1 h2 h3)⟩
 exact⟨st,H.sat.keep16 st (fun y i hy e=>by injection e with _ e;injection e with e _;omega),fun T u cs hT hb=>hb.step st hT⟩
theorem EB.setLev{ow:Ow}{s:AF}{p:Nat}{x:Sf}{v:Sv}{N:Nat}{h:List Int}{a:EC}(H:EB ow s p x v N h a)(y:Int):
  ∃s',AM Try.prog s 3 (.ptr (some (N+2,0))) (iv y)=some s'∧EB ow s' p x v N h { a with lev:=y }∧AH (Eu p) ow s ow s'∧s'.next=s.next:=by
 obtain⟨s',g1,g2,g3,g4⟩:=H.vb.store (d:=iv y) Bt rfl rfl
 obtain⟨k1,k2,k3⟩:=H.box (i:=N+2) (by omega) (by omega) (by omega) g3 g4
 obtain⟨lv,l1,l2⟩:=H.lb
 exact⟨s',g1,{ sat:=k2,hl:=H.hl,sb:=H.sb.keep (g4 _ (by omega)),lb:=⟨lv,l1.keep (g4 _ (by omega)),k3 _ _ _ (CM (by decide)) l2⟩,vb:=g2,mo:=H.mo.keep (g4 _ (by omega)),mb:=H.mb.keep (g4 _ (by omega)),ob:=H.ob.keep (g4 _ (by omega)),tg:=H.tg,lt:=by have:=H.lt;omega },k1.mono fun t ht=>.inr (.inr ht),g3⟩
theorem EB.setOpn{ow:Ow}{s:AF}{p:Nat}{x:Sf}{v:Sv}{N:Nat}{h:List Int}{a:EC}(H:EB ow s p x v N h a)(y:Int):
  ∃s',AM Try.prog s 3 (.ptr (some (N+6,0))) (iv y)=some s'∧EB ow s' p x v N h { a with opn:=y }∧AH (Eu p) ow s ow s'∧s'.next=s.next:=by
 obtain⟨s',g1,g2,g3,g4⟩:=H.ob.store (d:=iv y) Bt rfl rfl
 obtain⟨k1,k2,k3⟩:=H.box (i:=N+6) (by omega) (by omega) (by omega) g3 g4
 obtain⟨lv,l1,l2⟩:=H.lb
 exact⟨s',g1,{ sat:=k2,hl:=H.hl,sb:=H.sb.keep (g4 _ (by omega)),lb:=⟨lv,l1.keep (g4 _ (by omega)),k3 _ _ _ (CM (by decide)) l2⟩,vb:=H.vb.keep (g4 _ (by omega)),mo:=H.mo.keep (g4 _ (by omega)),mb:=H.mb.keep (g4 _ (by omega)),ob:=g2,tg:=H.tg,lt:=by have:=H.lt;omega },k1.mono fun t ht=>.inr (.inr ht),g3⟩
theorem EB.addSeen{ow:Ow}{s:AF}{p:Nat}{x:Sf}{v:Sv}{N:Nat}{h:List Int}{a:EC}(H:EB ow s p x v N h a){k:Nat}(hk:k ∉ a.seen):
  ∃s',EX Try.prog s 115 (.map (some (N+3))) (iv (k:Int)) (.agg [])=some s'∧EB ow s' p x v N h { a with seen:=a.seen++[k] }∧AH (Eu p) ow s ow s'∧s'.next=s.next:=by
 obtain⟨s',g1,g2,g3,g4⟩:=RI H.mo hk
 obtain⟨k1,k2,k3⟩:=H.box (i:=N+3) (by omega) (by omega) (by omega) g3 g4
 obtain⟨lv,l1,l2⟩:=H.lb
 exact⟨s',g1,{ sat:=k2,hl:=H.hl,sb:=H.sb.keep (g4 _ (by omega)),lb:=⟨lv,l1.keep (g4 _ (by omega)),k3 _ _ _ (CM (by decide)) l2⟩,vb:=H.vb.keep (g4 _ (by omega)),mo:=g2,mb:=H.mb.keep (g4 _ (by omega)),ob:=H.ob.keep (g4 _ (by omega)),tg:=H.tg,lt:=by have:=H.lt;omega },k1.mono fun t ht=>.inr (.inr ht),g3⟩
theorem EB.heat{ow:Ow}{s:AF}{p:Nat}{x:Sf}{v:Sv}{N:Nat}{h:List Int}{a:EC}(H:EB ow s p x v N h a){k:Nat}(hk:k<h.length)(y:Int):
  ∃s',AM Try.prog s 3 (BA x.heat k) (iv y)=some s'∧EB ow s' p x v N (h.set k y) a∧AH (Eu p) ow s ow s'∧s'.next=s.next:=by
 obtain⟨s',g1,g2,g3,g4⟩:=H.sat.put_heat (k:=k) hk y
 obtain⟨s'',q1,q2,q3,q4⟩:=H.sat.heat.set (t:=3) Bt (k:=k) (x:=iv y) (by rw[qK];exact hk) rfl rfl
 rw[g1]at q1
 injection q1 with q1
 subst q1
 have hlt:=H.lt
 have g:∀j,N≤j→j≤N+6→j≠N+5→s'.heap.get j=s.heap.get j:=fun j r1 r2 r3=>q3.heap j (by omega) (by rw[H.tg j r1 r2 r3];exact CM (by decide))
 obtain⟨lv,l1,l2⟩:=H.lb
 exact⟨s',g1,{ sat:=g2,hl:=by rw[qQ];exact H.hl,sb:=H.sb.keep (g _ (by omega) (by omega) (by omega)),lb:=⟨lv,l1.keep (g _ (by omega) (by omega) (by omega)),l2.step q3 (CM (by decide))⟩,vb:=H.vb.keep (g _ (by omega) (by omega) (by omega)),mo:=H.mo.keep (g _ (by omega) (by omega) (by omega)),mb:=H.mb.keep (g _ (by omega) (by omega) (by omega)),ob:=H.ob.keep (g _ (by omega) (by omega) (by omega)),tg:=H.tg,lt:=by omega },q3.mono fun t ht=>.inl ht,g4⟩
theorem EB.push{ow:Ow}{s:AF}{p:Nat}{x:Sf}{v:Sv}{N:Nat}{h:List Int}{a:EC}(H:EB ow s p x v N h a)(hle:a.lits.length≤1000000){lv:AV}(hlv:As s (N+1) lv){q:Int}{i:Nat}{ty sz':Nat}(hq:s.heap.get i=some (AO ty sz' [iv q])):
  ∃u s' s'' ow',Af Try.prog s [23,23] [lv,.slice (some (i,0)) 1 (some 1)]=some (u,s')∧AM Try.prog s' 23 (.ptr (some (N+1,0))) u=some s''∧EB ow' s'' p x v N h { a with lits:=a.lits++[q] }∧AH (Eu p) ow s ow' s'':=by
 obtain⟨lv',l1,l2⟩:=H.lb
 have e:lv'=lv:=by
  have q1:=l1.load DN
  rw[hlv.load DN]at q1
  injection q1 with q1
  exact q1.symm
 subst e
 obtain⟨u,s',ow',g1,g2,g3⟩:=l2.push (st:=23) (e:=3) Try.underlying23 Bt W0 (by decide) Mf JA (by simp;omega) (x:=iv q) rfl hq
 have hlt:=H.lt
 have hn:=g3.next
 have g:∀j,N≤j→j≤N+6→j≠N+5→s'.heap.get j=s.heap.get j:=fun j r1 r2 r3=>g3.heap j (by omega) (by rw[H.tg j r1 r2 r3];exact CM (by decide))
 have ht:∀j,N≤j→j≤N+6→j≠N+5→ow' j=(p,21,0):=fun j r1 r2 r3=>by rw[g3.tags j (by omega) (by rw[H.tg j r1 r2 r3];exact CM (by decide))];exact H.tg j r1 r2 r3
 have b1:As s' (N+1) lv':=l1.keep (g _ (by omega) (by omega) (by omega))
 obtain⟨s'',k1,k2,k3,k4⟩:=b1.store (d:=u) CL g2.isCell.1 g2.isCell.2
 have st:AH (· = (p,21,0)) ow' s' ow' s'':=⟨by omega,fun _ _ _=>rfl,fun y _ hm=>k4 y fun e=>hm (by rw[e];exact ht (N+1) (by omega) (by omega) (by omega))⟩
 have kk:∀j,N≤j→j≤N+6→j≠N+5→j≠N+1→s''.heap.get j=s.heap.get j:=fun j r1 r2 r3 r4=>(k4 j r4).trans (g j r1 r2 r3)
 refine⟨u,s',s'',ow',g1,k1,{ sat:=(H.sat.keep16 g3 (fun y i hy e=>by injection e with _ e;injection e with e _;omega)).keep16 st (fun y i hy e=>by injection e with _ e;injection e with e _;omega),hl:=H.hl,sb:=H.sb.keep (kk _ (by omega) (by omega) (by omega) (by omega)),lb:=⟨u,k2,?_⟩,vb:=H.vb.keep (kk _ (by omega) (by omega) (by omega) (by omega)),mo:=H.mo.keep (kk _ (by omega) (by omega) (by omega) (by omega)),mb:=H.mb.keep (kk _ (by omega) (by omega) (by omega) (by omega)),ob:=H.ob.keep (kk _ (by omega) (by omega) (by omega) (by omega)),tg:=ht,lt:=by omega },(g3.mono fun t ht=>.inr (.inl ht)).trans (st.mono fun t ht=>.inr (.inr ht))⟩
 have e:Ax (a.hd::(a.lits++[q]))=Ax (a.hd::a.lits)++[iv q]:=by simp
 show Bc ow' (p,20,0) s'' u (Ax (a.hd::(a.lits++[q])))
 rw[e]
 exact g2.step st (CM (by decide))
abbrev Da (p N:Nat) (x1 x7 x8 x9 x10 x11 x12 x13 x14 x15 x16 x17 x18 x19 x20:AV):List AV:=[.ptr (some (p,0)),x1,.ptr (some (N,0)),.ptr (some (N+1,0)),.ptr (some (N+2,0)),.ptr (some (N+4,0)),.ptr (some (N+6,0)),x7,x8,x9,x10,x11,x12,x13,x14,x15,x16,x17,x18,x19,x20]
def Ep (p N:Nat) (x1 x7 x8 x9 x10 x11 x12 x13 x14 x15 x16 x17 x18 x19 x20:AV) (d:Nat):Gm:=Kr 67 (Da p N x1 x7 x8 x9 x10 x11 x12 x13 x14 x15 x16 x17 x18 x19 x20) #[26] ol oq d
section
variable{E:BN}{K:List AV→AF→Prop}{ow:Ow}{s:AF}{p:Nat}{x:Sf}{v:Sv}{N:Nat}{h:List Int}{a:EC}
theorem oY(H:EB ow s p x v N h a)(k:Nat){x1 x7 x8 x9 x11 x12 x13 x14 x15 x16 x17 x18 x19 x20:AV}(hK:K (Da p N x1 x7 x8 x9 (iv (k:Int)) (.bool (decide (k∈a.seen))) x12 x13 x14 x15 x16 x17 x18 x19 x20) (newObj s (AO 119 0 []))):
  Qb E ZN K [] (Da p N x1 x7 x8 x9 (iv (k:Int)) x11 x12 x13 x14 x15 x16 x17 x18 x19 x20) s:=by
 have hptr:∀i,Made.val i .ptr=.ptr (some (i,0)):=fun _=>rfl
 simp only[ZN,Da,H.mb.load PP,HA H.mo k,Wr,hptr,BV,cK,AU,Qb,Qc,Qd,Qf,Qh,Qj,Qk,Qm,Qn,true_and,Qo,Qp,Qq,Qr,Qs,Rp,Yd,Ye]
 exact hK
theorem oZ(H:EB ow s p x v N h a){k:Nat}(hk:k<v.level.length)(b:Bool){x1 x7 x8 x9 x12 x13 x14 x15 x16 x17 x18 x19 x20:AV}(hK:K (Da p N x1 x7 x8 x9 (iv (k:Int)) (.bool b) x12 x13 x14 x15 (.bool (b || decide (v.level.getD k 0=0))) x17 x18 x19 x20) s):
  Qb E UX K [] (Da p N x1 x7 x8 x9 (iv (k:Int)) (.bool b) x12 x13 x14 x15 x16 x17 x18 x19 x20) s:=by
 have hl:Bc ow (p,5,0) s x.lev (Ax v.level):=H.sat.level
 have hg:=AR (d:=(0:Int)) hk
 have i1:=hl.addr Try.underlying23 Bt (k:=k) (by rw[qK];exact hk)
 have i2:=hl.get (t:=3) Dg (k:=k) (Au hg)
 have l1:=H.sb.load Dy
 simp only[AK]at l1
 cases b with
 | true =>
  simp only[UX,Da,Qb,Qc,Qd,Qf,Qg,Qh,Qi,Qj,Qk,Qm,Qn,true_and,Qo,Qp,Qq,Qr,Qs,Qt,Rm,Ya,Rn,Ro]
  exact hK
 | false =>
  simp only[UX,Da,l1,AG,Jc,H.sat.ld_lev,i1,i2,Qb,Qc,Qd,Qf,Qg,Qh,Qi,Qj,Qk,Qm,Qn,true_and,Qo,Qp,Qq,Qr,Qs,Rm,Yb,Rn,Ro,Rv]
  simpa using hK
theorem m6(H:EB ow s p x v N h a){k:Nat}(hk:k ∉ a.seen){x1 x7 x8 x9 x11 x12 x13 x14 x15 x16 x17 x18 x19 x20:AV}(hK:∀s',EB ow s' p x v N h { a with seen:=a.seen++[k] }→AH (Eu p) ow s ow s'→s'.next=s.next→K (Da p N x1 x7 x8 x9 (iv (k:Int)) x11 x12 x13 x14 x15 x16 x17 x18 x19 x20) s'):
  Qb E Sp K [] (Da p N x1 x7 x8 x9 (iv (k:Int)) x11 x12 x13 x14 x15 x16 x17 x18 x19 x20) s:=by
 obtain⟨s',g1,g2,g3,g4⟩:=H.addSeen hk
 simp only[Sp,Da,H.mb.load PP,kW,oI,g1,AU,Qb,Qc,Qd,Qf,Qh,Qj,Qk,Qm,Qn,true_and,Qq,Qr,Qs]
 exact hK s' g2 g3 g4
theorem m7(H:EB ow s p x v N h a){k:Nat}(hk:k<h.length){x1 x7 x8 x9 x11 x12 x13 x14 x15 x16 x17 x18 x19 x20:AV}(hK:∀s' h',EB ow s' p x v N h' a→AH (Eu p) ow s ow s'→s'.next=s.next→K (Da p N x1 x7 x8 x9 (iv (k:Int)) x11 x12 x13 x14 x15 x16 x17 x18 x19 x20) s'):
  Qb E Sq K [] (Da p N x1 x7 x8 x9 (iv (k:Int)) x11 x12 x13 x14 x15 x16 x17 x18 x19 x20) s:=by
 have hl:Bc ow (p,7,0) s x.heat (Ax h):=H.sat.heat
 have hg:=AR (d:=(0:Int)) hk
 have i1:=hl.addr Try.underlying23 Bt (k:=k) (by rw[qK];exact hk)
 have i2:=hl.get (t:=3) Dg (k:=k) (Au hg)
 have l1:=H.sb.load Dy
 simp only[AK]at l1
 obtain⟨s',g1,g2,g3,g4⟩:=H.heat hk (Dt .i64 (h.getD k 0+1))
 simp only[Sq,Da,l1,AG,Lo,H.sat.ld_heat,i1,i2,PU,BV,g1,AU,Qb,Qc,Qd,Qf,Qh,Qi,Qj,Qk,Qm,Qn,true_and,Qq,Qr,Qs]
 exact hK s' _ g2 g3 g4
theorem m8(H:EB ow s p x v N h a){k:Nat}(hk:k<v.level.length){x1 x7 x8 x9 x11 x12 x13 x14 x15 x16 x17 x18 x19 x20:AV}(hK:K (Da p N x1 x7 x8 x9 (iv (k:Int)) x11 x12 x13 x14 x15 x16 (.bool (decide (v.level.getD k 0=(v.limits.length:Int)))) x18 x19 x20) s):
  Qb E Sr K [] (Da p N x1 x7 x8 x9 (iv (k:Int)) x11 x12 x13 x14 x15 x16 x17 x18 x19 x20) s:=by
 have hl:Bc ow (p,5,0) s x.lev (Ax v.level):=H.sat.level
 have hm:Bc ow (p,10,0) s x.lim (Ax v.limits):=H.sat.limits
 have ln:∀s,Aq Try.prog s 23 x.lim=some (iv (v.limits.length:Int)):=fun s=>by
  have:=hm.len Try.underlying23 s
  rw[qK]at this
  exact this
 have hg:=AR (d:=(0:Int)) hk
 have i1:=hl.addr Try.underlying23 Bt (k:=k) (by rw[qK];exact hk)
 have i2:=hl.get (t:=3) Dg (k:=k) (Au hg)
 have l1:=H.sb.load Dy
 simp only[AK]at l1
 simp only[Sr,Da,l1,AG,Jc,G2,H.sat.ld_lev,H.sat.ld_lim,ln,i1,i2,Qb,Qc,Qd,Qf,Qh,Qj,Qk,Qm,Qn,true_and,Qo,Qp,Qq,Qr,Qs,Rv]
 exact hK
theorem m9(H:EB ow s p x v N h a)(ho:0≤a.opn∧a.opn<1000000000){x1 x7 x8 x9 x10 x11 x12 x13 x14 x15 x16 x17 x18 x19 x20:AV}(hK:∀s',EB ow s' p x v N h { a with opn:=a.opn+1 }→AH (Eu p) ow s ow s'→s'.next=s.next→K (Da p N x1 x7 x8 x9 x10 x11 x12 x13 x14 x15 x16 x17 x18 x19 x20) s'):
  Qb E Ss K [] (Da p N x1 x7 x8 x9 x10 x11 x12 x13 x14 x15 x16 x17 x18 x19 x20) s:=by
 obtain⟨s',g1,g2,g3,g4⟩:=H.setOpn (a.opn+1)
 have e3:=Ai Try.prog 3 a.opn 1 ⟨by omega,by omega⟩
 simp only[Ss,Da,H.ob.load Dg,e3,BV,g1,AU,Qb,Qc,Qd,Qf,Qh,Qi,Qj,Qk,Qm,Qn,true_and,Qq,Qr,Qs]
 exact hK s' g2 g3 g4
theorem nA(H:EB ow s p x v N h a)(hle:a.lits.length≤1000000){q:Int}{x1 x7 x8 x10 x11 x12 x13 x14 x15 x16 x17 x18 x19 x20:AV}(hK:∀s' ow',EB ow' s' p x v N h { a with lits:=a.lits++[q] }→AH (Eu p) ow s ow' s'→K (Da p N x1 x7 x8 (iv q) x10 x11 x12 x13 x14 x15 x16 x17 x18 x19 x20) s'):
  Qb E St K [] (Da p N x1 x7 x8 (iv q) x10 x11 x12 x13 x14 x15 x16 x17 x18 x19 x20) s:=by
 obtain⟨lv,l1,l2⟩:=H.lb
 have hms:∀ (m:Nat) (i:Nat),Made.val i (.slice m)=.slice (some (i,0)) m (some m):=fun _ _=>rfl
 have bl:=Ck (P:=Try.prog) (t:=23) (v:=iv q) Try.underlying23 Bt RN rfl rfl
 have hst:AH (fun _=>False) ow s (ext ow s.next (0,0,0)) (newObj s (AO 3 1 [iv q])):=AH.new _ ow s _ _
 have H1:=H.keep hst (fun _ _ _ q=>q) (fun q=>q) (fun q=>q)
 have l1':As (newObj s (AO 3 1 [iv q])) (N+1) lv:=l1.keep (hst.heap _ (by have:=H.lt;omega) (fun q=>q))
 obtain⟨u,s1,s2,ow',f1,f2,f3,f4⟩:=H1.push hle l1' (q:=q) (i:=s.next) (ty:=3) (sz':=1) (by rw[AQ,if_pos rfl])
 simp only[St,Da,l1.load DN,bl,hms,f1,BV,f2,AU,Qb,Qc,Qd,Qf,Qh,Qj,Qk,Qm,Qn,true_and,Qq,Qr,Qs,Yc]
 exact hK s2 ow' f3 ((hst.mono fun _ q=>q.elim).trans f4)
theorem nB(H:EB ow s p x v N h a){k:Nat}(hk:k<v.level.length){x1 x7 x8 x9 x11 x12 x13 x14 x15 x16 x17 x18 x19 x20:AV}(hK:∀s',EB ow s' p x v N h { a with lev:=max a.lev (v.level.getD k 0) }→AH (Eu p) ow s ow s'→s'.next=s.next→K (Da p N x1 x7 x8 x9 (iv (k:Int)) x11 x12 x13 x14 x15 x16 x17 x18 x19 x20) s'):
  Qb E Su K [] (Da p N x1 x7 x8 x9 (iv (k:Int)) x11 x12 x13 x14 x15 x16 x17 x18 x19 x20) s:=by
 have hl:Bc ow (p,5,0) s x.lev (Ax v.level):=H.sat.level
 have hg:=AR (d:=(0:Int)) hk
 have i1:=hl.addr Try.underlying23 Bt (k:=k) (by rw[qK];exact hk)
 have i2:=hl.get (t:=3) Dg (k:=k) (Au hg)
 have l1:=H.sb.load Dy
 simp only[AK]at l1
 obtain⟨s',g1,g2,g3,g4⟩:=H.setLev (max a.lev (v.level.getD k 0))
 simp only[Su,Da,H.vb.load Dg,l1,AG,Jc,H.sat.ld_lev,i1,i2,bL,BV,g1,AU,Qb,Qc,Qd,Qf,Qh,Qj,Qk,Qm,Qn,true_and,Qq,Qr,Qs]
 exact hK s' g2 g3 g4
end
theorem P4          {E : BN}  (hE : Good E) {ow : Ow} {s : AF}  {p : Nat} {x : Sf} {v : Sv} {N : Nat} {h : List Int} {a : EC}  (H : EB  ow s p x v N h a) {n : Nat} (hn : n ≤ 1000000) (hlev : v.level.length = n + 1) (hheat : v.heat.length = n + 1) (hI : Gh   n a) {q : Int} (hq : VL n q) {l d : Nat} {x1 x7 x8 x9 x10 x11 x12 x13 x14 x15 x16 x17 x18 x19 x20 : AV}
    (hlp:B2 s l=some (Ep p N x1 x7 x8 x9 x10 x11 x12 x13 x14 x15 x16 x17 x18 x19 x20 d)) (htl:ow l=(p,23,0)) (hll:l<s.next) {K:AV→AF→Prop}
    (hK:∀s' ow' h',EB ow' s' p x v N h' (BQ v a q)→B2 s' l=some (Ep p N x1 x7 x8 x9 x10 x11 x12 x13 x14 x15 x16 x17 x18 x19 x20 d)→AH (Gc p) ow s ow' s'→ow' l=(p,23,0)→K (.bool true) s'):
    WR E l [iv q] K s:=by
  have hz:FC (Fx E.P 67) (Da p N x1 x7 x8 x9 x10 x11 x12 x13 x14 x15 x16 x17 x18 x19 x20) [26] [iv q]=some (Da p N x1 x7 x8 x9 x10 x11 x12 x13 x14 (iv q) x16 x17 x18 x19 x20):=by
    rw[hE.P,ml];rfl
  refine WR.round hlp hz (by rw[hE.P];exact pJ) (by rw[hE.P];exact pK) ?_
  refine Kv ?_
  simp only[oA,iV,Da,Qa,Qb,Qc,Qd,Qf,Qh,Qj,Qm,Qn,true_and,Qo,Qp,Qq,Qr,Qs]
  refine⟨_,hlp,rfl,Kv ?_⟩
  generalize hs1:setObj s l _=s1
  have n1:s1.next=s.next:=by rw[← hs1];rfl
  have l1:B2 s1 l=some { Ep p N x1 x7 x8 x9 x10 x11 x12 x13 x14 x15 x16 x17 x18 x19 x20 d with state:=.busy }:=by rw[← hs1,MF]
  have st1:AH (· = (p,23,0)) ow s ow s1:=⟨by omega,fun _ _ _=>rfl,fun y _ hm=>by rw[← hs1,BL,if_neg (fun e=>hm (by rw[e];exact htl))]⟩
  have H1:EB ow s1 p x v N h a:=H.keep st1 (fun y i hy e=>by injection e with _ e;injection e with e _;omega) (CM (by decide)) (CM (by decide))
  have fin:∀ (s2:AF) (ow2:Ow) (h2:List Int),EB ow2 s2 p x v N h2 (BQ v a q)→AH (Eu p) ow s1 ow2 s2→∃r'',B2 s2 l=some r''∧K (.bool true) (setObj s2 l (.loop { r'' with state:=.ready,pending:=none })):=by
    intro s2 ow2 h2 H2 st2
    have hnm:¬ Eu p (p,23,0):=fun e=>by rcases e with e | e | e<;>exact absurd e (CM (by decide))
    have l2:B2 s2 l=some { Ep p N x1 x7 x8 x9 x10 x11 x12 x13 x14 x15 x16 x17 x18 x19 x20 d with state:=.busy }:=by
      rw[Vn (st2.heap l (by omega) (by rw[htl];exact hnm))];exact l1
    have t2:ow2 l=(p,23,0):=by rw[st2.tags l (by omega) (by rw[htl];exact hnm)];exact htl
    have hn2:=st2.next
    refine⟨_,l2,?_⟩
    have st3:AH (· = (p,23,0)) ow2 s2 ow2 (setObj s2 l (.loop (Ep p N x1 x7 x8 x9 x10 x11 x12 x13 x14 x15 x16 x17 x18 x19 x20 d))):=⟨qI _,fun _ _ _=>rfl,fun y _ hm=>by rw[BL,if_neg (fun e=>hm (by rw[e];exact t2))]⟩
    refine hK _ ow2 h2 (H2.keep st3 (fun y i hy e=>by injection e with _ e;injection e with e _;omega) (CM (by decide)) (CM (by decide))) (MF _ _ _) ?_ t2
    exact((st1.mono fun t ht=>.inr ht).trans (st2.mono fun t ht=>.inl ht)).trans (st3.mono fun t ht=>.inr ht)
  have hq2:=hq.2
  have hsm:=hI.small
  simp only[oB,iW,Qa,Qb,Qc,Qd,Qf,Qh,Qj,Qk,Qm,Qn,true_and,Qq,Qr,Qs,Qw,Qy,Qz,Rb]
  refine(C8 hE (l:=q) ⟨by omega,by omega⟩).mono ?_
  rintro _ _ ⟨rfl,rfl⟩
  simp only[Qd,Qn,true_and,Qo,Qp,Qq]
  refine oY H1 q.natAbs ?_
  have st8:AH (fun _=>False) ow s1 (ext ow s1.next (0,0,0)) (newObj s1 (AO 119 0 [])):=AH.new _ ow s1 _ _
  have H8:=H1.keep st8 (fun _ _ _ q=>q) (fun q=>q) (fun q=>q)
  generalize newObj s1 (AO 119 0 [])=s8 at *
  generalize ext ow s1.next (0,0,0)=ow8 at *
  have hst8:AH (Eu p) ow s1 ow8 s8:=st8.mono fun _ q=>q.elim
  try simp only[Qa,Qb,Qc,Qd,Qe,Qf,Qg,Qh,Qi,Qj,Qk,Ql,Qm,Qn,true_and,and_true,Qo,Qp,Qq,Qr,Qs,Qt,Qu,Qv,Qw,Qx,Qy,Qz,Ra,Rb,Rc,Rd,Re,Rf,Rg,Rh,Ri,Rj,Rk,Rl,Rm,Ya,Yb,Yc,Rn,Ro,Rp,Yd,Ye,Rq,Rs,Rt,Ru,Rv,Rw,Rx]
  refine oZ H8 (k:=q.natAbs) (by omega) _ ?_
  by_cases hin:q.natAbs∈a.seen
  · have e:BQ v a q=a:=by unfold BQ;rw[if_pos (.inl hin)]
    rw[e]at fin
    simp only[hin,decide_true,Bool.true_or,if_true,Qq,Qr,Qu]
    exact fin s8 ow8 h H8 hst8
  · by_cases h0 : v.level.getD q.natAbs 0 = 0
    · have e:BQ v a q=a:=by unfold BQ;rw[if_pos (.inr h0)]
      rw[e]at fin
      simp only[hin,h0,decide_false,decide_true,Bool.or_true,if_true,Qq,Qr,Qu]
      exact fin s8 ow8 h H8 hst8
    · simp only[hin,h0,decide_false,Bool.or_self,Qq,Qr,Qv]
      refine m6 H8 hin ?_
      intro s10 H10 st10 n10
      try simp only[Qa,Qb,Qc,Qd,Qe,Qf,Qg,Qh,Qi,Qj,Qk,Ql,Qm,Qn,true_and,and_true,Qo,Qp,Qq,Qr,Qs,Qt,Qu,Qv,Qw,Qx,Qy,Qz,Ra,Rb,Rc,Rd,Re,Rf,Rg,Rh,Ri,Rj,Rk,Rl,Rm,Ya,Yb,Yc,Rn,Ro,Rp,Yd,Ye,Rq,Rs,Rt,Ru,Rv,Rw,Rx]
      refine m7 H10 (k:=q.natAbs) (by have:=H10.hl;omega) ?_
      intro s11 h11 H11 st11 n11
      try simp only[Qa,Qb,Qc,Qd,Qe,Qf,Qg,Qh,Qi,Qj,Qk,Ql,Qm,Qn,true_and,and_true,Qo,Qp,Qq,Qr,Qs,Qt,Qu,Qv,Qw,Qx,Qy,Qz,Ra,Rb,Rc,Rd,Re,Rf,Rg,Rh,Ri,Rj,Rk,Rl,Rm,Ya,Yb,Yc,Rn,Ro,Rp,Yd,Ye,Rq,Rs,Rt,Ru,Rv,Rw,Rx]
      refine m8 H11 (k:=q.natAbs) (by omega) ?_
      have hst11:=(hst8.trans st10).trans st11
      by_cases hL:v.level.getD q.natAbs 0=(v.limits.length:Int)
      · have e:BQ v a q={ a with seen:=a.seen++[q.natAbs],opn:=a.opn+1 }:=by unfold BQ;rw[if_neg (by rintro(e | e);exact hin e;exact h0 e),if_pos hL]
        simp only[hL,decide_true,Qq,Qr,Qu]
        refine m9 H11 (by have:=hI.opn;show 0≤a.opn∧a.opn<_;omega) ?_
        intro s13 H13 st13 n13
        try simp only[Qa,Qb,Qc,Qd,Qe,Qf,Qg,Qh,Qi,Qj,Qk,Ql,Qm,Qn,true_and,and_true,Qo,Qp,Qq,Qr,Qs,Qt,Qu,Qv,Qw,Qx,Qy,Qz,Ra,Rb,Rc,Rd,Re,Rf,Rg,Rh,Ri,Rj,Rk,Rl,Rm,Ya,Yb,Yc,Rn,Ro,Rp,Yd,Ye,Rq,Rs,Rt,Ru,Rv,Rw,Rx]
        rw[e]at fin
        exact fin s13 ow8 h11 H13 (hst11.trans st13)
      · have e:BQ v a q={ a with seen:=a.seen++[q.natAbs],lits:=a.lits++[q],lev:=max a.lev (v.level.getD q.natAbs 0) }:=by unfold BQ;rw[if_neg (by rintro(e | e);exact hin e;exact h0 e),if_neg hL]
        simp only[hL,decide_false,Qq,Qr,Qv]
        refine nA H11 (by have:=hI.len;show a.lits.length≤_;omega) ?_
        intro s14 ow14 H14 st14
        try simp only[Qa,Qb,Qc,Qd,Qe,Qf,Qg,Qh,Qi,Qj,Qk,Ql,Qm,Qn,true_and,and_true,Qo,Qp,Qq,Qr,Qs,Qt,Qu,Qv,Qw,Qx,Qy,Qz,Ra,Rb,Rc,Rd,Re,Rf,Rg,Rh,Ri,Rj,Rk,Rl,Rm,Ya,Yb,Yc,Rn,Ro,Rp,Yd,Ye,Rq,Rs,Rt,Ru,Rv,Rw,Rx]
        refine nB H14 (k:=q.natAbs) (by omega) ?_
        intro s15 H15 st15 n15
        try simp only[Qa,Qb,Qc,Qd,Qe,Qf,Qg,Qh,Qi,Qj,Qk,Ql,Qm,Qn,true_and,and_true,Qo,Qp,Qq,Qr,Qs,Qt,Qu,Qv,Qw,Qx,Qy,Qz,Ra,Rb,Rc,Rd,Re,Rf,Rg,Rh,Ri,Rj,Rk,Rl,Rm,Ya,Yb,Yc,Rn,Ro,Rp,Yd,Ye,Rq,Rs,Rt,Ru,Rv,Rw,Rx]
        rw[e]at fin
        exact fin s15 ow14 h11 H15 ((hst11.trans st14).trans st15)
def BH(f:Int→Bool):List Int→Nat→Option Nat
 | [],_=>none
 | x::l,k=>if f x=true then some k else BH f l (k+1)
def Jl:Option Nat→AV
 | none=>iv (-1)
 | some k=>iv (k:Int)
theorem Pt{E:BN}(hE:Good E){s:AF}{b:Nat}{L:List Int}{f:Int→Bool}{g:FuncId}{cp:List AV}(hg:∀q∈L,WF E g (iv q::cp) (fun r s'=>r=.bool (f q)∧s=s') s)(hlen:L.length<9223372036854775808){a:Option (Nat×Nat)}{cap:Option Nat}(hc:Ay b s a (Ax L)){Q:A0→Prop}(x2:AV):
    ∀ (l : List Int) (k : Nat) (x3 x6 x7 : AV), L.drop k = l → k ≤ L.length →
      (BH f l k=none→∀ (y3 y5 y6 y7:AV),Q ⟨.exit 0,[.slice a L.length cap,.func g [] cp,x2,y3,iv (L.length:Int),y5,y6,y7],[],s⟩) →
      (∀i,BH f l k=some i→∀ (y3 y5 y6 y7:AV),Q ⟨.ret,[.slice a L.length cap,.func g [] cp,iv (i:Int),y3,iv (L.length:Int),y5,y6,y7],[],s⟩) →
      WC E none (.loop Ph) Q [.slice a L.length cap,.func g [] cp,x2,x3,iv (L.length:Int),iv (k:Int),x6,x7] [] s:=by
  intro l
  induction l with
  | nil =>
    intro k x3 x6 x7 hd hk hq _
    have:=CH hd hk
    subst this
    refine WC.loop' ?_
    simp only[Ph,aA,qd,decide_false,Qa,Qb,Qc,Qd,Qf,Qh,Qj,Qm,Qn,true_and,Qo,Qp,Qq,Qr,Qs,Qv,Qw,Qx,Qy,Qz,Ra,Rq]
    exact hq rfl _ _ _ _
  | cons x l ih =>
    intro k x3 x6 x7 hd hk hq hr
    obtain⟨hlt,hx,hd'⟩:=Be hd
    obtain⟨i,o,rfl,hi,hload⟩:=hc k _ (Au hx)
    have hxm:x∈L:=qL hx
    have e1:=Al (cap:=cap) (i:=i) (o:=o) Try.underlying23 Bt hlt
    have e2:AD Try.prog s 3 (.ptr (some (i,o+k * 1)))=some (iv x):=A4 Dg (by rw[qa];exact hload)
    have hkk:decide ((k:Int)<(L.length:Int))=true:=decide_eq_true (by omega)
    have e3:=Ai Try.prog 3 (k:Int) 1 ⟨by omega,by omega⟩
    have e3':((k:Int)+1)=((k+1:Nat):Int):=by omega
    refine WC.loop' ?_
    generalize hW:WC E none (Ac.loop Ph) Q=WW
    simp only[Ph,aA,jo,jp,hkk,e1,e2,qo,rK,Qa,Qb,Qc,Qd,Qe,Qf,Qh,Qj,Qk,Qm,Qn,true_and,Qo,Qp,Qq,Qr,Qs,Qu,Qw,Qx,Qy,Qz,Ra,Rq]
    refine(hg x hxm).mono ?_
    rintro _ _ ⟨rfl,rfl⟩
    cases hf:f x with
    | true =>
      have ef:BH f (x::l) k=some k:=by unfold BH;rw[if_pos hf]
      simp only[jq,Qb,Qc,Qd,Qf,Qh,Qj,Qm,Qn,true_and,Qo,Qp,Qq,Qr,Qs,Qu]
      exact hr k ef _ _ _ _
    | false =>
      have ef:BH f (x::l) k=BH f l (k+1):=by rw[BH,if_neg (by rw[hf];decide)]
      simp only[jr,e3,e3',Qb,Qc,Qd,Qf,Qh,Qi,Qj,Qk,Qm,Qn,true_and,Qo,Qp,Qq,Qr,Qs,Qv]
      rw[← hW]
      rw[ef]at hq hr
      exact ih (k+1) _ _ _ hd' hlt hq hr
theorem NR{E:BN}(hE:Good E){s:AF}{b:Nat}{L:List Int}{f:Int→Bool}{g:FuncId}{cp:List AV}(hg:∀q∈L,WF E g (iv q::cp) (fun r s'=>r=.bool (f q)∧s=s') s)(hlen:L.length<9223372036854775808){v:AV}(hv:AX b s v (Ax L)):
  WF E 94 [v,.func g [] cp] (fun r s'=>r=Jl (BH f L 0)∧s=s') s:=by
 obtain⟨a,cap,rfl,hc⟩:=hv
 rw[EW]
 refine hE.go mH (by decide) rfl ?_
 simp only[qC,jm,jn,AW Try.underlying23,Qa,Qb,Qc,Qd,Qf,Qh,Qi,Qj,Ql,Qm,Qn,true_and,Qo,Qp,Qq,Qs,Qw,Rc,Rf,Rg,Rh,Yc]
 refine Pt hE hg hlen hc _ L 0 _ _ _ rfl (qO _) ?_ ?_
 ·intro hn y3 y5 y6 y7
  rw[hn]
  simp only[js,if_true,Jl,Qb,Qc,Qd,Qf,Qh,Qi,Qm,Qn,true_and,Qo,Qp,Qq,Qr,Qs,Qw,Qy,Rb,Re]
 ·intro i hi y3 y5 y6 y7
  rw[hi]
  simp only[Jl,Qj,Qm,true_and,Qq,Qr,Qx,Ra,Rc,Re,Rf,Rg,Rh,Yc]
theorem Wt{E:BN}(hE:Good E){ow:Ow}{s:AF}{p:Nat}{x:Sf}{v:Sv}{N:Nat}{h:List Int}{a:EC}(H:EB ow s p x v N h a){q:Int}(hq:q.natAbs<v.level.length)(hs:v.level.length<1000000000):
  WF E 95 [iv q,.ptr (some (N,0)),.ptr (some (N+2,0))] (fun r s'=>r=.bool (decide (v.level.getD q.natAbs 0=a.lev))∧s=s') s:=by
 have hl:Bc ow (p,5,0) s x.lev (Ax v.level):=H.sat.level
 have hg:=AR (d:=(0:Int)) hq
 have i1:=hl.addr Try.underlying23 Bt (k:=q.natAbs) (by rw[qK];exact hq)
 have i2:=hl.get (t:=3) Dg (k:=q.natAbs) (Au hg)
 have l1:=H.sb.load Dy
 simp only[AK]at l1
 have eqp:FY (.ptr (some (p,0))) (.ptr (some (p,0)))=true:=by simp[FY]
 refine hE.go mI (by decide) rfl ?_
 simp only[qD,ju,jv,l1,AG,Jc,H.sat.ld_lev,H.vb.load Dg,Qa,Qb,Qc,Qd,Qf,Qh,Qi,Qj,Qk,Ql,Qm,Qn,true_and,Qo,Qp,Qq,Qr,Qs,Qw,Rc,Re,Rf,Rg,Rh,Yc]
 refine(C8 hE (l:=q) ⟨by omega,by omega⟩).mono ?_
 rintro _ _ ⟨rfl,rfl⟩
 simp only[BX,At,l1,H.sat.ld_lev,H.vb.load Dg,hl.self,Ob,eqp,i1,i2,Qd,Qj,Qk,Qm,Qn,and_true,Qo,Qp,Qq,Qr,Rv]
theorem Vy{E:BN}(hE:Good E){s:AF}(c:Nat)(l:Int):WF E 93 [AK c,iv l] (fun r s'=>r=.func 111 [] [.ptr (some (s.next,0)),.ptr (some (s.next+1,0))]∧s'=newObj (newObj s (AO 92 0 [AK c])) (AO 3 0 [iv l])) s:=by
 have hptr:∀i,Made.val i .ptr=.ptr (some (i,0)):=fun _=>rfl
 have hb1:DS 92 (AK c)=some (AO 92 0 [AK c],.ptr):=by simp[DS,AK,AV.cells]
 have hb2:DS 3 (iv l)=some (AO 3 0 [iv l],.ptr):=by simp[DS,AV.cells]
 refine hE.go mG (by decide) rfl ?_
 simp only[qB,jk,jl,hb1,hb2,hptr,rM,rF,Qa,Qb,Qc,Qd,Qf,Qh,Qi,Qj,Qk,Ql,Qm,Qn,true_and,and_true,Qo,Qp,Qq,Qr,Qs,Qw,Rc,Re,Rf,Rg,Rh,Yc]
 rfl
def rest(but:Int)(L:List Int):List Int:=L.filter fun q=>decide (q≠but)
theorem QN          {E : BN}  (hE : Good E) {ow0 : Ow} {s0 : AF}  {p : Nat} {x : Sf} {v : Sv} {N : Nat} {n : Nat} (hn : n ≤ 1000000) (hlev : v.level.length = n + 1) (hheat : v.heat.length = n + 1) {ls : List Int} (hls : A9    n ls) {c cb kb l d : Nat} {but : Int} {u : AV} {R : EC}
    {x1 x7 x8 x9 x10 x11 x12 x13 x14 x15 x16 x17 x18 x19 x20:AV} {Q:A0→Prop}
    (hq:∀s' ow' h' y3 y7 y8,EB ow' s' p x v N h' R→Gh n R→B2 s' l=some (Ep p N x1 x7 x8 x9 x10 x11 x12 x13 x14 x15 x16 x17 x18 x19 x20 d)→AH (Gc p) ow0 s0 ow' s'→ow' l=(p,23,0)→Q ⟨.exit 0,[.yield l,.ptr (some (cb,0)),.ptr (some (kb,0)),y3,u,iv (ls.length:Int),iv (ls.length:Int),y7,y8],[],s'⟩):
    ∀ (m k:Nat) (s:AF) (ow:Ow) (h:List Int) (a:EC) (x3 x7' x8':AV),ls.length - k=m→k≤ls.length→EB ow s p x v N h a→Gh n a→Bc ow (p,15,c) s u (Ax ls)→As s kb (iv but)→ow kb=(p,22,0)→kb<s.next→B2 s l=some (Ep p N x1 x7 x8 x9 x10 x11 x12 x13 x14 x15 x16 x17 x18 x19 x20 d)→ow l=(p,23,0)→l<s.next→AH (Gc p) ow0 s0 ow s→(rest but (ls.drop k)).foldl (BQ v) a=R →
      WC E none (.loop JK) Q [.yield l,.ptr (some (cb,0)),.ptr (some (kb,0)),x3,u,iv (ls.length:Int),iv (k:Int),x7',x8'] [] s:=by
  intro m
  induction m with
  | zero =>
    intro k s ow h a x3 x7' x8' hm hk H hI hu hkb htk hlk hlp htl hll hst hR
    have hk:k=ls.length:=by omega
    subst hk
    rw[List.drop_length]at hR
    have hR:a=R:=hR
    subst hR
    refine WC.loop' ?_
    simp only[JK,OF,qd,decide_false,Qa,Qb,Qc,Qd,Qf,Qh,Qj,Qm,Qn,true_and,Qo,Qp,Qq,Qr,Qs,Qv,Qw,Qx,Qy,Qz,Ra,Rq]
    exact hq s ow h _ _ _ H hI hlp hst htl
  | succ m ih =>
    intro k s ow h a x3 x7' x8' hm hk H hI hu hkb htk hlk hlp htl hll hst hR
    have hlt:k<ls.length:=by omega
    have hls2:=hls.2
    have hV:=hls.get hlt
    have hg:=AR (d:=(0:Int)) hlt
    have i1:=hu.addr Try.underlying23 Bt (k:=k) (by rw[qK];exact hlt)
    have i2:=hu.get (t:=3) Dg (k:=k) (Au hg)
    have hd:decide ((k:Int)<(ls.length:Int))=true:=decide_eq_true (by omega)
    have e3:=Ai Try.prog 3 (k:Int) 1 ⟨by omega,by omega⟩
    have e3':((k:Int)+1)=((k+1:Nat):Int):=by omega
    have hdr:ls.drop k=ls.getD k 0::ls.drop (k+1):=by
      rw[List.drop_eq_getElem_cons hlt]
      congr 1
      rw[qP hlt]at hg
      injection hg
    refine WC.loop' ?_
    generalize hW:WC E none (Ac.loop JK) Q=WW
    by_cases he:ls.getD k 0=but
    · have hne:decide (ls.getD k 0≠but)=false:=decide_eq_false (fun q=>q he)
      simp only[JK,OF,hd,R0,i1,i2,R3,hkb.load Dg,hne,R4,e3,e3',Qa,Qb,Qc,Qd,Qf,Qg,Qh,Qi,Qj,Qk,Qm,Qn,true_and,Qo,Qp,Qq,Qr,Qs,Qt,Qu,Qv,Qw,Qx,Qy,Qz,Ra,Rl,Rn,Ro,Rq,Rw]
      rw[← hW]
      refine ih (k+1) s ow h a _ _ _ (by omega) (by omega) H hI hu hkb htk hlk hlp htl hll hst ?_
      rw[hdr]at hR
      unfold rest at hR
      rw[List.filter_cons_of_neg (p:=fun q=>decide (q≠but)) (by rw[hne];decide)]at hR
      exact hR
    · have hne:decide (ls.getD k 0≠but)=true:=decide_eq_true he
      simp only[JK,OF,hd,R0,i1,i2,R3,hkb.load Dg,hne,Qa,Qb,Qc,Qd,Qe,Qf,Qg,Qh,Qi,Qj,Qk,Qm,Qn,true_and,Qo,Qp,Qq,Qr,Qs,Qu,Qw,Qx,Qy,Qz,Ra,Rl,Rn,Ro,Rq,Rw]
      refine P4 hE H hn hlev hheat hI hV hlp htl hll ?_
      intro s' ow' h' H' hlp' st' hlo
      have hn':=st'.next
      have nm:∀y i,y≠7→y≠20→y≠21→y≠23→¬ Gc p (p,y,i):=by
        rintro y i g1 g2 g3 g4 ((e | e | e) | e)
        · exact CM g1 e
        · exact CM g2 e
        · exact CM g3 e
        · exact CM g4 e
      simp only[R4,e3,e3',Qb,Qc,Qd,Qf,Qh,Qi,Qj,Qk,Qm,Qn,true_and,Qo,Qp,Qq,Qr,Qs,Qv,Rl,Ya,Rx]
      rw[← hW]
      refine ih (k+1) s' ow' h' (BQ v a (ls.getD k 0)) _ _ _ (by omega) (by omega) H' (hI.step v hV) (hu.step st' (nm _ _ (by decide) (by decide) (by decide) (by decide))) (hkb.keep (st'.heap kb hlk (by rw[htk];exact nm _ _ (by decide) (by decide) (by decide) (by decide)))) (by rw[st'.tags kb hlk (by rw[htk];exact nm _ _ (by decide) (by decide) (by decide) (by decide))];exact htk) (by omega) hlp' hlo (by omega) (hst.trans st') ?_
      rw[hdr]at hR
      unfold rest at hR
      rw[List.filter_cons_of_pos (p:=fun q=>decide (q≠but)) hne]at hR
      exact hR
theorem Js{p y i:Nat}(g1:y≠7)(g2:y≠20)(g3:y≠21)(g4:y≠23):¬ Gc p (p,y,i):=by
 rintro((e | e | e) | e)
 ·exact CM g1 e
 ·exact CM g2 e
 ·exact CM g3 e
 ·exact CM g4 e
theorem Tm{E:BN}(hE:Good E){ow:Ow}{s:AF}{p:Nat}{x:Sf}{v:Sv}{N:Nat}{h:List Int}{a:EC}(H:EB ow s p x v N h a){n:Nat}(hn:n≤1000000)(hlev:v.level.length=n+1)(hheat:v.heat.length=n+1)(hI:Gh n a){c:Nat}{ls:List Int}{b:Bool×Bool}(hc:v.cl c=some (ls,b))(hls:A9 n ls){cb kb l d:Nat}{but:Int}
  {x1 x7 x8 x9 x10 x11 x12 x13 x14 x15 x16 x17 x18 x19 x20:AV} (hcb:As s cb (AK c)) (hkb:As s kb (iv but)) (htk:ow kb=(p,22,0)) (hlk:kb<s.next) (hlp:B2 s l=some (Ep p N x1 x7 x8 x9 x10 x11 x12 x13 x14 x15 x16 x17 x18 x19 x20 d)) (htl:ow l=(p,23,0)) (hll:l<s.next):
  WF E 111 [.yield l,.ptr (some (cb,0)),.ptr (some (kb,0))] (fun _ s'=>∃ow' h',EB ow' s' p x v N h' ((rest but ls).foldl (BQ v) a)∧Gh n ((rest but ls).foldl (BQ v) a)∧B2 s' l=some (Ep p N x1 x7 x8 x9 x10 x11 x12 x13 x14 x15 x16 x17 x18 x19 x20 d)∧AH (Gc p) ow s ow' s'∧ow' l=(p,23,0)) s:=by
 obtain⟨u,hbox,ht1,hlc,hu⟩:=H.sat.cls c (ls,b) hc
 have lu:AD Try.prog s 23 (.ptr (some (c,0)))=some u:=hbox.load rfl DN
 have ln:∀s,Aq Try.prog s 23 u=some (iv (ls.length:Int)):=fun s=>by
  have:=hu.len Try.underlying23 s
  rw[qK]at this
  exact this
 have lc:=hcb.load K0
 simp only[AK]at lc
 refine hE.go dv (by decide) rfl ?_
 simp only[nW,XT,lc,AG,DD,lu,ln,Qa,Qb,Qc,Qd,Qf,Qh,Qi,Qj,Qk,Ql,Qm,Qn,true_and,Qo,Qp,Qq,Qr,Qs,Qw]
 refine QN hE hn hlev hheat hls (c:=c) (l:=l) (d:=d) (R:=(rest but ls).foldl (BQ v) a) ?_ _ 0 s ow h a _ _ _ rfl (qO _) H hI hu hkb htk hlk hlp htl hll (AH.refl _ _ _) (by rw[rF])
 intro s' ow' h' y3 y7 y8 g1 g2 g3 g4 g5
 simp only[if_true,Qm,Rb,Rd,Re,Rf]
 exact⟨ow',h',g1,g2,g3,g4,g5⟩
def M1(tr:List Int)(seen:List Nat):Nat→Option Nat
 | 0=>none
 | k+1=>if (tr.getD k 0).natAbs∈seen then some k else M1 tr seen k
theorem O9{tr:List Int}{seen:List Nat}:∀ {k i:Nat},M1 tr seen k=some i→i<k∧(tr.getD i 0).natAbs∈seen
 | 0,i,h=>by cases h
 | k+1,i,h=>by
  unfold M1 at h
  split at h
  ·injection h with h
   subst h
   exact⟨qn _,by assumption⟩
  ·obtain⟨h1,h2⟩:=O9 h
   exact⟨by omega,h2⟩
theorem QZ{E:BN}(hE:Good E){ow:Ow}{s:AF}{p:Nat}{x:Sf}{v:Sv}{N:Nat}{h:List Int}{a:EC}(H:EB ow s p x v N h a){n:Nat}(hf:Mt n v){i:Nat}{M:List Nat}{Q:A0→Prop}{x1 x8 x9 x10 x11 x13 x14 x15 x16 x17 x19 x20:AV}
  (hq:∀y18,Q ⟨.exit 4,Da p N x1 (iv (i:Int)) x8 x9 x10 x11 (.bool true) x13 x14 x15 x16 x17 y18 x19 x20,M,s⟩):
  ∀ (k:Nat) (x18:AV),k≤v.trail.length→M1 v.trail a.seen k=some i→WC E none (.loop JP) Q (Da p N x1 (iv (k:Int)) x8 x9 x10 x11 (.bool false) x13 x14 x15 x16 x17 x18 x19 x20) M s:=by
 have htr:Bc ow (p,9,0) s x.tr (Ax v.trail):=H.sat.trail
 have l1:=H.sb.load Dy
 simp only[AK]at l1
 intro k
 induction k with
 | zero=>intro x18 hk hs;cases hs
 | succ k ih =>
  intro x18 hk hs
  have hlt:k<v.trail.length:=hk
  have hg:=AR (d:=(0:Int)) hlt
  have hV:=hf.lits _ (qL hg)
  have hsz:=hf.siz.small
  have htl:=hf.siz.trail
  have i1:=htr.addr Try.underlying23 Bt (k:=k) (by rw[qK];exact hlt)
  have i2:=htr.get (t:=3) Dg (k:=k) (Au hg)
  have e3:=DZ Try.prog 3 ((k+1:Nat):Int) 1 ⟨by omega,by omega⟩
  have e3':((k+1:Nat):Int) - 1=(k:Int):=by omega
  have eqm:FY (.map (some (N+3))) (.map (some (N+3)))=true:=by simp[FY]
  refine WC.loop' ?_
  generalize hW:WC E none (Ac.loop JP) Q=WW
  simp only[JP,Sw,ZL,ZM,Da,e3,e3',H.mb.load PP,l1,AG,FM,H.sat.ld_tr,i1,i2,Qa,Qb,Qc,Qd,Qf,Qh,Qi,Qj,Qk,Qm,Qn,true_and,Qo,Qp,Qq,Qr,Qs,Qu,Qw,Qy,Qz,Yb,Rp,Rx]
  refine(C8 hE (l:=v.trail.getD k 0) ⟨by have:=hV.2;omega,by have:=hV.2;omega⟩).mono ?_
  rintro _ _ ⟨rfl,rfl⟩
  unfold M1 at hs
  by_cases hin:(v.trail.getD k 0).natAbs∈a.seen
  ·rw[if_pos hin]at hs
   injection hs with hs
   subst hs
   simp only[BX,At,H.mb.load PP,eqm,BV,HA H.mo,hin,decide_true,Qd,Qj,Qk,Qm,Qn,true_and,and_true,Qo,Qp,Qq,Qr,Yd,Ye]
   rw[← hW]
   refine WC.loop' ?_
   generalize hW2:WC E none (Ac.loop JP) Q=WW2
   simp only[JP,Sw,Qa,Qb,Qc,Qd,Qf,Qh,Qj,Qm,Qn,true_and,Qo,Qp,Qq,Qr,Qs,Qv,Qw,Qy,Qz,Ya,Rx]
   exact hq _
  ·rw[if_neg hin]at hs
   simp only[BX,At,H.mb.load PP,eqm,BV,HA H.mo,hin,decide_false,Qd,Qj,Qk,Qm,Qn,true_and,and_true,Qo,Qp,Qq,Qr,Yd,Ye]
   rw[← hW]
   exact ih _ (by omega) hs
section
variable{E:BN}{K:List AV→AF→Prop}{ow:Ow}{s:AF}{p:Nat}{x:Sf}{v:Sv}{N:Nat}{h:List Int}{a:EC}
theorem nC(H:EB ow s p x v N h a){k:Nat}(hk:k<v.trail.length){x1 x8 x9 x10 x11 x12 x13 x14 x15 x16 x17 x18 x19 x20:AV}(hK:K (Da p N x1 (iv (k:Int)) (iv (v.trail.getD k 0)) x9 x10 x11 x12 x13 x14 x15 x16 x17 x18 x19 x20) s):
  Qb E Sx K [] (Da p N x1 (iv (k:Int)) x8 x9 x10 x11 x12 x13 x14 x15 x16 x17 x18 x19 x20) s:=by
 have htr:Bc ow (p,9,0) s x.tr (Ax v.trail):=H.sat.trail
 have l1:=H.sb.load Dy
 simp only[AK]at l1
 have hg:=AR (d:=(0:Int)) hk
 have i1:=htr.addr Try.underlying23 Bt (k:=k) (by rw[qK];exact hk)
 have i2:=htr.get (t:=3) Dg (k:=k) (Au hg)
 simp only[Sx,Da,l1,AG,FM,H.sat.ld_tr,i1,i2,Qb,Qc,Qd,Qf,Qh,Qj,Qk,Qm,Qn,true_and,Qo,Qp,Qq,Qr,Qs]
 exact hK
theorem nD(hE:Good E)(H:EB ow s p x v N h a){q:Int}(hq:q.natAbs<v.why.length)(hs:v.why.length<1000000000){x1 x7 x9 x10 x11 x12 x13 x14 x15 x16 x17 x18 x19 x20:AV}(hK:K (Da p N (HN (v.why.getD q.natAbs none)) x7 (iv q) x9 x10 x11 x12 x13 x14 x15 x16 x17 x18 x19 x20) s):
  Qb E Sy K [] (Da p N x1 x7 (iv q) x9 x10 x11 x12 x13 x14 x15 x16 x17 x18 x19 x20) s:=by
 have hw:Bc ow (p,6,0) s x.why (v.why.map HN):=H.sat.why
 have l1:=H.sb.load Dy
 simp only[AK]at l1
 have hg:=AR (d:=(none:Option Nat)) hq
 have i1:=hw.addr Try.underlying89 E5 (k:=q.natAbs) (by rw[qK];exact hq)
 have i2:=hw.get (t:=92) K0 (k:=q.natAbs) (by rw[qs,hg];rfl)
 have eqp:FY (.ptr (some (p,0))) (.ptr (some (p,0)))=true:=by simp[FY]
 simp only[Sy,Da,l1,AG,Ln,H.sat.ld_why,Qb,Qc,Qd,Qf,Qh,Qj,Qk,Qm,Qn,true_and,Qq,Qr,Qs]
 refine(C8 hE (l:=q) ⟨by omega,by omega⟩).mono ?_
 rintro _ _ ⟨rfl,rfl⟩
 simp only[BX,At,l1,eqp,H.sat.ld_why,hw.self,i1,i2,Qd,Qj,Qk,Qm,Qn,true_and,and_true,Qo,Qp,Qq,Qr]
 exact hK
theorem nE(H:EB ow s p x v N h a)(ho:0≤a.opn∧a.opn<1000000000){x1 x7 x8 x9 x10 x11 x12 x13 x14 x15 x16 x17 x18 x19 x20:AV}(hK:∀s',EB ow s' p x v N h { a with opn:=a.opn - 1 }→AH (Eu p) ow s ow s'→s'.next=s.next→K (Da p N x1 x7 x8 x9 x10 x11 x12 x13 x14 x15 x16 x17 x18 x19 x20) s'):
  Qb E Sz K [] (Da p N x1 x7 x8 x9 x10 x11 x12 x13 x14 x15 x16 x17 x18 x19 x20) s:=by
 obtain⟨s',g1,g2,g3,g4⟩:=H.setOpn (a.opn - 1)
 have e3:=DZ Try.prog 3 a.opn 1 ⟨by omega,by omega⟩
 simp only[Sz,Da,H.ob.load Dg,e3,BV,g1,AU,Qb,Qc,Qd,Qf,Qh,Qi,Qj,Qk,Qm,Qn,true_and,Qq,Qr,Qs]
 exact hK s' g2 g3 g4
theorem nF(H:EB ow s p x v N h a){x1 x7 x8 x9 x10 x11 x12 x13 x14 x15 x16 x17 x18 x19 x20:AV}(hK:K (Da p N x1 x7 x8 x9 x10 x11 x12 x13 x14 x15 x16 x17 x18 (.bool (decide (a.opn=0))) x20) s):
  Qb E S0 K [] (Da p N x1 x7 x8 x9 x10 x11 x12 x13 x14 x15 x16 x17 x18 x19 x20) s:=by
 simp only[S0,Da,H.ob.load Dg,Qb,Qc,Qd,Qf,Qh,Qi,Qj,Qk,Qm,Qn,true_and,Qo,Qp,Qq,Qr,Qs,Rv]
 exact hK
theorem nG(H:EB ow s p x v N h a){q:Int}(hq:i64 (-q)){x1 x7 x9 x10 x11 x12 x13 x14 x15 x16 x17 x18 x19 x20:AV}(hK:∀s',EB ow s' p x v N h { a with hd:=-q }→AH (Eu p) ow s ow s'→s'.next=s.next→K (Da p N x1 x7 (iv q) x9 x10 x11 x12 x13 x14 x15 x16 x17 x18 x19 x20) s'):
  Qb E S1 K [] (Da p N x1 x7 (iv q) x9 x10 x11 x12 x13 x14 x15 x16 x17 x18 x19 x20) s:=by
 obtain⟨lv,b1,b2⟩:=H.lb
 have e1:=D8 Try.prog q hq
 have i0:AC Try.prog 23 lv (iv 0)=some (BA lv 0):=b2.addr Try.underlying23 Bt (k:=0) (by simp)
 obtain⟨s',g1,g2,g3,g4⟩:=b2.set (t:=3) Bt (k:=0) (x:=iv (-q)) (by simp) rfl rfl
 have hlt:=H.lt
 have g:∀j,N≤j→j≤N+6→j≠N+5→s'.heap.get j=s.heap.get j:=fun j q1 q2 q3=>g3.heap j (by omega) (by rw[H.tg j q1 q2 q3];exact CM (by decide))
 simp only[S1,Da,b1.load DN,e1,i0,BV,g1,AU,Qb,Qc,Qd,Qf,Qh,Qi,Qj,Qk,Qm,Qn,true_and,Qq,Qr,Qs]
 refine hK s' { sat:=H.sat.keep16 g3 (fun y i hy e=>by injection e with _ e;injection e with e _;omega),hl:=H.hl,sb:=H.sb.keep (g _ (by omega) (by omega) (by omega)),lb:=⟨lv,b1.keep (g _ (by omega) (by omega) (by omega)),g2⟩,vb:=H.vb.keep (g _ (by omega) (by omega) (by omega)),mo:=H.mo.keep (g _ (by omega) (by omega) (by omega)),mb:=H.mb.keep (g _ (by omega) (by omega) (by omega)),ob:=H.ob.keep (g _ (by omega) (by omega) (by omega)),tg:=H.tg,lt:=by omega } (g3.mono fun t ht=>.inr (.inl ht)) g4
end
def Ci(ow:Ow)(s:AF)(p:Nat)(M:List Nat):Prop:=M.Nodup∧∀i∈M,s.heap.get i=some .mark∧ow i=(p,22,0)∧i<s.next
theorem Ci.step{ow ow':Ow}{s s':AF}{p:Nat}{M:List Nat}{m:Bh→Prop}(h:Ci ow s p M)(k:AH m ow s ow' s')(hm:¬ m (p,22,0)):Ci ow' s' p M:=by
 have hn:=k.next
 refine⟨h.1,fun i hi=>?_⟩
 obtain⟨h1,h2,h3⟩:=h.2 i hi
 exact⟨(k.heap i h3 (by rw[h2];exact hm)).trans h1,(k.tags i h3 (by rw[h2];exact hm)).trans h2,by omega⟩
theorem Mo:∀ (M:List Nat)(s:AF),M.Nodup→(∀i∈M,s.heap.get i=some .mark)→∃s',unmark s M=some s'∧s'.next=s.next∧∀j,j ∉ M→s'.heap.get j=s.heap.get j
 | [],s,_,_=>⟨s,rfl,rfl,fun _ _=>rfl⟩
 | i::M,s,h1,h2=>by
  rw[rf]at h1
  obtain⟨s',g1,g2,g3⟩:=Mo M (Cl s i) h1.2 (fun j hj=>by
   rw[FP,if_neg (fun e=>h1.1 (by rw[← e];exact hj))]
   exact h2 j (qS _ hj))
  refine⟨s',?_,g2,fun j hj=>?_⟩
  ·have:=h2 i (qR ..)
   simp only[unmark,this]
   exact g1
  ·rw[g3 j (fun q=>hj (qS _ q)),FP,if_neg (fun e=>hj (by rw[e];exact qR ..))]
theorem Ci.unmark{ow:Ow}{s:AF}{p:Nat}{M:List Nat}(h:Ci ow s p M):∃s',Go.Proofs.Ytilhhmkdcoajnaa.Am.unmark s M=some s'∧s'.next=s.next∧AH (· = (p,22,0)) ow s ow s':=by
 obtain⟨s',g1,g2,g3⟩:=Mo M s h.1 (fun i hi=>(h.2 i hi).1)
 exact⟨s',g1,g2,by omega,fun _ _ _=>rfl,fun y hy hm=>g3 y fun q=>hm (h.2 y q).2.1⟩
inductive B4 (v:Sv):Nat→EC→Nat→Int→EC→Prop
 | last {c:Nat} {a a':EC} {at_ i:Nat} {l:Int} {ls:List Int} {b:Bool×Bool} (hc:v.cl c=some (ls,b)) (ha:(rest l ls).foldl (BQ v) a=a') (hs:M1 v.trail a'.seen at_=some i) (ho:a'.opn=1):B4 v c a at_ l { a' with opn:=0,hd:=-(v.trail.getD i 0) }
 | more {c c':Nat} {a a' r:EC} {at_ i:Nat} {l:Int} {ls:List Int} {b:Bool×Bool} (hc:v.cl c=some (ls,b)) (ha:(rest l ls).foldl (BQ v) a=a') (hs:M1 v.trail a'.seen at_=some i) (ho:2≤a'.opn) (hw:v.why.getD (v.trail.getD i 0).natAbs none=some c') (hr:B4 v c' { a' with opn:=a'.opn - 1 } i (v.trail.getD i 0) r):B4 v c a at_ l r
theorem MB         {E : BN}  (hE : Good E) {ow : Ow} {s : AF}  {p : Nat} {x : Sf} {v : Sv} {N : Nat} {h : List Int} {a : EC}  (H : EB  ow s p x v N h a) {n : Nat} (hn : n ≤ 1000000) (hf : Mt  n v) (hI : Gh   n a) {c : Nat} {ls : List Int} {b : Bool × Bool} (hc : v.cl c = some (ls, b)) (hls : A9    n ls) {at_ i : Nat} {l : Int} {a' : EC}  (ha : (rest l ls).foldl (BQ     v) a = a') (hat : at_ ≤ v.trail.length) (hs : M1   v.trail a'.seen at_ = some i) (ho : 1 ≤ a'.opn) {M : List Nat} (hM : Ci      ow s p M)
    {x9 x10 x11 x12 x13 x14 x15 x16 x17 x18 x19 x20:AV} {Q:A0→Prop}
    (hlast:a'.opn=1→∀s' ow' h' M' y1 y7 y8 y9 y10 y11 y12 y13 y14 y15 y16 y17 y18 y19 y20,EB ow' s' p x v N h' { a' with opn:=0,hd:=-(v.trail.getD i 0) }→Gh n { a' with opn:=0,hd:=-(v.trail.getD i 0) }→Ci ow' s' p M'→AH (Gc p) ow s ow' s'→Q ⟨.exit 0,Da p N y1 y7 y8 y9 y10 y11 y12 y13 y14 y15 y16 y17 y18 y19 y20,M',s'⟩)
    (hmore:a'.opn≠1→∀s' ow' h' M' y9 y10 y11 y12 y13 y14 y15 y16 y17 y18 y19 y20,EB ow' s' p x v N h' { a' with opn:=a'.opn - 1 }→Gh n { a' with opn:=a'.opn - 1 }→Ci ow' s' p M'→AH (Gc p) ow s ow' s'→WC E none (.loop JQ) Q (Da p N (HN (v.why.getD (v.trail.getD i 0).natAbs none)) (iv (i:Int)) (iv (v.trail.getD i 0)) y9 y10 y11 y12 y13 y14 y15 y16 y17 y18 y19 y20) M' s'):
    WC E none (.loop JQ) Q (Da p N (AK c) (iv (at_:Int)) (iv l) x9 x10 x11 x12 x13 x14 x15 x16 x17 x18 x19 x20) M s:=by
  refine WC.loop' ?_
  generalize hW:WC E none (Ac.loop JQ) Q=WW at hmore ⊢
  simp only[JQ,iU,Da,Qa,Qb,Qc,Qf,Qh,Qj,Qq,Qr,Qs,Qw,Qy,Qz,Rb]
  refine(Vy hE c l).mono ?_
  rintro _ s1 ⟨rfl,rfl⟩
  simp only[Qd,Qn,true_and,Qo,Qp]
  generalize hsa:newObj s (AO 92 0 [AK c])=sa
  have na:sa.next=s.next+1:=by rw[← hsa];rfl
  have oa:BG s.next s sa:=by rw[← hsa];exact BG.new s _
  have ba:As sa s.next (AK c):=by rw[← hsa];exact As.new
  generalize hsb:newObj sa (AO 3 0 [iv l])=sb
  have nb:sb.next=s.next+2:=by rw[← hsb];show sa.next+1=_;omega
  have ob:BG (s.next+1) sa sb:=by rw[← hsb,← na];exact BG.new sa _
  have bb:As sb (s.next+1) (iv l):=by rw[← hsb,← na];exact As.new
  refine WC.range (g:=111) (first:=[]) (cap:=[.ptr (some (s.next,0)),.ptr (some (s.next+1,0))]) rfl ?_
  rw[nb]
  generalize hsc:newObj sb .mark=sc
  have nc:sc.next=s.next+3:=by rw[← hsc];show sb.next+1=_;omega
  have oc:BG (s.next+2) sb sc:=by rw[← hsc,← nb];exact BG.new sb _
  have mc:sc.heap.get (s.next+2)=some .mark:=by rw[← hsc,AQ,if_pos nb.symm]
  generalize hsd:newObj sc (.loop (Kr 67 _ _ _ _ _))=sd
  have nd:sd.next=s.next+4:=by rw[← hsd];show sc.next+1=_;omega
  have od:BG (s.next+3) sc sd:=by rw[← hsd,← nc];exact BG.new sc _
  have ld:B2 sd (s.next+2+1)=some (Ep p N (AK c) (iv (at_:Int)) (iv l) x9 x10 x11 x12 x13 (.func 111 [] [.ptr (some (s.next,0)),.ptr (some (s.next+1,0))]) x15 x16 x17 x18 x19 x20 (s.next+2)):=by
    rw[← hsd]
    unfold B2
    rw[AQ,if_pos (by omega)]
    rfl
  have osd:BG s.next s sd:=((oa.trans (ob.mono (by omega))).trans (oc.mono (by omega))).trans (od.mono (by omega))
  have RA:AH (fun _=>False) ow s (fun j=>if j<s.next then ow j else if j=s.next+3 then (p,23,0)else (p,22,0)) sd:=⟨by omega,fun j hj _=>if_pos hj,fun j hj _=>osd.2 j hj⟩
  generalize how:(fun j=>if j<s.next then ow j else if j=s.next+3 then (p,23,0)else (p,22,0):Ow)=owd at RA
  have tk:owd (s.next+1)=(p,22,0):=by rw[← how];show(if _ then _ else if _ then _ else _:Bh)=_;rw[if_neg (by omega),if_neg (by omega)]
  have tm:owd (s.next+2)=(p,22,0):=by rw[← how];show(if _ then _ else if _ then _ else _:Bh)=_;rw[if_neg (by omega),if_neg (by omega)]
  have tl:owd (s.next+2+1)=(p,23,0):=by rw[← how];show(if _ then _ else if _ then _ else _:Bh)=_;rw[if_neg (by omega),if_pos (by omega)]
  have Hd:EB owd sd p x v N h a:=H.keep RA (fun _ _ _ q=>q) (fun q=>q) (fun q=>q)
  have Md:Ci owd sd p M:=hM.step RA (fun q=>q)
  have M2:Ci owd sd p ((s.next+2)::M):=by
    refine⟨?_,fun i hi=>?_⟩
    · rw[rf]
      exact⟨fun q=>by have:=(hM.2 _ q).2.2;omega,hM.1⟩
    · rcases qp.1            hi with e | e
      · rw[e]
        exact⟨by rw[od.2 _ (by omega)];exact mc,tm,by omega⟩
      · exact Md.2 i e
  have bad:As sd s.next (AK c):=ba.keep (by rw[od.2 _ (by omega),oc.2 _ (by omega),ob.2 _ (by omega)])
  have bbd:As sd (s.next+1) (iv l):=bb.keep (by rw[od.2 _ (by omega),oc.2 _ (by omega)])
  have hz:=hf.siz
  refine(Tm hE Hd hn hz.level hz.heat hI hc hls bad bbd tk (by omega) ld tl (by omega)).mono ?_
  rintro _ s2 ⟨ow2,h2,H2,I2,l2,st2,t2⟩
  rw[ha]at H2 I2
  have n2:=st2.next
  refine⟨_,l2,rfl,?_⟩
  have st3:AH (· = (p,23,0)) ow2 s2 ow2 (setObj s2 (s.next+2+1) (.loop { Ep p N (AK c) (iv (at_:Int)) (iv l) x9 x10 x11 x12 x13 (.func 111 [] [.ptr (some (s.next,0)),.ptr (some (s.next+1,0))]) x15 x16 x17 x18 x19 x20 (s.next+2)with state:=.exhausted })):=⟨qI _,fun _ _ _=>rfl,fun y _ hm=>by rw[BL,if_neg (fun e=>hm (by rw[e];exact t2))]⟩
  have H3:=H2.keep st3 (fun y i hy e=>by injection e with _ e;injection e with e _;omega) (CM (by decide)) (CM (by decide))
  have M3:Ci ow2 _ p ((s.next+2)::M):=(M2.step st2 (Js (by decide) (by decide) (by decide) (by decide))).step st3 (CM (by decide))
  have stT:AH (Gc p) ow s ow2 (setObj s2 (s.next+2+1) (.loop { Ep p N (AK c) (iv (at_:Int)) (iv l) x9 x10 x11 x12 x13 (.func 111 [] [.ptr (some (s.next,0)),.ptr (some (s.next+1,0))]) x15 x16 x17 x18 x19 x20 (s.next+2)with state:=.exhausted })):=((RA.mono fun _ q=>q.elim).trans st2).trans (st3.mono fun t ht=>.inr ht)
  show PN _ _ _ _ none
  unfold PN
  generalize setObj s2 (s.next+2+1) _=s3 at *
  obtain⟨hi,hin⟩:=O9 hs
  have hil:i<v.trail.length:=by omega
  have hg:=AR (d:=(0:Int)) hil
  have hV:=hf.lits _ (qL hg)
  have hsz:=hz.small
  have hV2:=hV.2
  have hwl:=hz.why
  simp only[ZK,Qb,Qc,Qd,Qf,Qh,Qi,Qm,Qn,true_and,Qo,Qp,Qs,Qw,Qz]
  refine QZ hE H3 hf (i:=i) ?_ at_ _ hat hs
  intro y18
  simp only[if_true,Qw,Qy,Rb]
  refine nC H3 hil ?_
  try simp only[Qa,Qb,Qc,Qd,Qe,Qf,Qg,Qh,Qi,Qj,Qk,Ql,Qm,Qn,true_and,and_true,Qo,Qp,Qq,Qr,Qs,Qt,Qu,Qv,Qw,Qx,Qy,Qz,Ra,Rb,Rc,Rd,Re,Rf,Rg,Rh,Ri,Rj,Rk,Rl,Rm,Ya,Yb,Yc,Rn,Ro,Rp,Yd,Ye,Rq,Rs,Rt,Ru,Rv,Rw,Rx]
  refine nD hE H3 (q:=v.trail.getD i 0) (by omega) (by omega) ?_
  try simp only[Qa,Qb,Qc,Qd,Qe,Qf,Qg,Qh,Qi,Qj,Qk,Ql,Qm,Qn,true_and,and_true,Qo,Qp,Qq,Qr,Qs,Qt,Qu,Qv,Qw,Qx,Qy,Qz,Ra,Rb,Rc,Rd,Re,Rf,Rg,Rh,Ri,Rj,Rk,Rl,Rm,Ya,Yb,Yc,Rn,Ro,Rp,Yd,Ye,Rq,Rs,Rt,Ru,Rv,Rw,Rx]
  have hop:=I2.opn
  have hsm:=I2.small
  refine nE H3 (by omega) ?_
  intro s4 H4 st4 n4
  try simp only[Qa,Qb,Qc,Qd,Qe,Qf,Qg,Qh,Qi,Qj,Qk,Ql,Qm,Qn,true_and,and_true,Qo,Qp,Qq,Qr,Qs,Qt,Qu,Qv,Qw,Qx,Qy,Qz,Ra,Rb,Rc,Rd,Re,Rf,Rg,Rh,Ri,Rj,Rk,Rl,Rm,Ya,Yb,Yc,Rn,Ro,Rp,Yd,Ye,Rq,Rs,Rt,Ru,Rv,Rw,Rx]
  refine nF H4 ?_
  have I4:Gh n { a' with opn:=a'.opn - 1 }:=⟨I2.nodup,I2.mem,I2.len,I2.lits,by show 0≤a'.opn - 1∧a'.opn - 1≤(a'.seen.length:Int);omega⟩
  have M4:Ci ow2 s4 p ((s.next+2)::M):=M3.step st4 (fun q=>Js (by decide) (by decide) (by decide) (by decide) (.inl q))
  have stT4:=stT.trans (st4.mono fun t ht=>.inl ht)
  by_cases h1:a'.opn=1
  · have hd0:decide (a'.opn - 1=0)=true:=decide_eq_true (by omega)
    simp only[hd0,Qq,Qr,Qu]
    refine nG H4 (q:=v.trail.getD i 0) ⟨by omega,by omega⟩ ?_
    intro s5 H5 st5 n5
    simp only[show(0:Nat)≠1 by decide,if_false]
    have e:({ ({ a' with opn:=a'.opn - 1 }:EC)with hd:=-(v.trail.getD i 0) }:EC)={ a' with opn:=0,hd:=-(v.trail.getD i 0) }:=by
      show EC.mk _ _ _ _ _=EC.mk _ _ _ _ _
      rw[h1];rfl
    rw[e]at H5
    exact hlast h1 s5 ow2 h2 _ _ _ _ _ _ _ _ _ _ _ _ _ _ _ _ H5 ⟨I2.nodup,I2.mem,I2.len,I2.lits,by show(0:Int)≤0∧(0:Int)≤(a'.seen.length:Int);omega⟩ (M4.step st5 (fun q=>Js (by decide) (by decide) (by decide) (by decide) (.inl q))) (stT4.trans (st5.mono fun t ht=>.inl ht))
  · have hd0:decide (a'.opn - 1=0)=false:=decide_eq_false (by omega)
    simp only[hd0,Qq,Qr,Qv]
    exact hmore h1 s4 ow2 h2 _ _ _ _ _ _ _ _ _ _ _ _ _ H4 I4 M4 stT4
theorem Ta{E:BN}(hE:Good E){ow0:Ow}{s0:AF}{p:Nat}{x:Sf}{v:Sv}{N:Nat}{n:Nat}(hn:n≤1000000)(hf:Mt n v)(hcl:∀c ls b,v.cl c=some (ls,b)→A9 n ls){r:EC}{Q:A0→Prop}
  (hq:∀s' ow' h' M' y1 y7 y8 y9 y10 y11 y12 y13 y14 y15 y16 y17 y18 y19 y20,EB ow' s' p x v N h' r→Gh n r→Ci ow' s' p M'→AH (Gc p) ow0 s0 ow' s'→Q ⟨.exit 0,Da p N y1 y7 y8 y9 y10 y11 y12 y13 y14 y15 y16 y17 y18 y19 y20,M',s'⟩) {c at_:Nat} {a:EC} {l:Int} (hr:B4 v c a at_ l r):
  ∀ (s:AF) (ow:Ow) (h:List Int) (M:List Nat) (x9 x10 x11 x12 x13 x14 x15 x16 x17 x18 x19 x20:AV),at_≤v.trail.length→EB ow s p x v N h a→Gh n a→Ci ow s p M→AH (Gc p) ow0 s0 ow s →
   WC E none (.loop JQ) Q (Da p N (AK c) (iv (at_:Int)) (iv l) x9 x10 x11 x12 x13 x14 x15 x16 x17 x18 x19 x20) M s:=by
 induction hr with
 | last hc ha hs ho =>
  intro s ow h M x9 x10 x11 x12 x13 x14 x15 x16 x17 x18 x19 x20 hat H hI hM hst
  refine MB hE H hn hf hI hc (hcl _ _ _ hc) ha hat hs (by omega) hM ?_ ?_
  ·intro _ s' ow' h' M' y1 y7 y8 y9 y10 y11 y12 y13 y14 y15 y16 y17 y18 y19 y20 g1 g2 g3 g4
   exact hq s' ow' h' M' _ _ _ _ _ _ _ _ _ _ _ _ _ _ _ g1 g2 g3 (hst.trans g4)
  ·intro q
   exact absurd ho q
 | more hc ha hs ho hw hr ih =>
  intro s ow h M x9 x10 x11 x12 x13 x14 x15 x16 x17 x18 x19 x20 hat H hI hM hst
  refine MB hE H hn hf hI hc (hcl _ _ _ hc) ha hat hs (by omega) hM ?_ ?_
  ·intro q
   omega
  ·intro _ s' ow' h' M' y9 y10 y11 y12 y13 y14 y15 y16 y17 y18 y19 y20 g1 g2 g3 g4
   rw[hw]
   exact ih hq s' ow' h' M' _ _ _ _ _ _ _ _ _ _ _ _ (by have:=(O9 hs).1;omega) g1 g2 g3 (hst.trans g4)
theorem Bc.make{ow:Ow}{T:Bh}{s:AF}{i:Nat}{e:TypeId}{cs:List AV}(h:s.heap.get i=some (AO e 1 cs))(hc:cs≠[])(ht:ow i=T)(hi:i<s.next):Bc ow T s (.slice (some (i,0)) cs.length (some cs.length)) cs:=by
 obtain⟨r,h1,h2,h3,h4,h5,h6⟩:=Br e 1 cs
 refine .inr ⟨i,0,some cs.length,r,rfl,⟨by rw[h,h1],ht,hi,h5,h3,fun p hp=>?_⟩,fun k u hk=>?_,by rw[h2.1];omega,⟨qI _,by rw[h2.1];omega⟩⟩
 ·rw[h6]at hp;cases hp
 ·rw[qU]
  exact h2.2 k u hk
def KB(v:Sv)(y:Int)(q:Int):Bool:=decide (v.level.getD q.natAbs 0=y)
def AT(v:Sv)(r:EC):List Int:=match BH (KB v r.lev) r.lits 0 with
 | none=>r.hd::r.lits
 | some i=>Ap (r.hd::r.lits) 1 (i+1)
theorem F4{f:Int→Bool}:∀ {L:List Int}{k i:Nat},BH f L k=some i→k≤i∧i<k+L.length
 | [],k,i,h=>by cases h
 | x::L,k,i,h=>by
  unfold BH at h
  split at h
  ·injection h with h
   subst h
   simp
  ·obtain⟨h1,h2⟩:=F4 h
   simp
   omega
theorem P5{ow:Ow}{s s1 s2 s3 s4 s5 s6 s7 s8 s9 s10:AF}{p:Nat}{x:Sf}{v:Sv}(h:Ah ow s p x v)
  (e1:newObj s (AO 44 0 [AK p])=s1) (e2:newObj s1 (AO 23 0 [.slice none 0 (some 0)])=s2) (e3:newObj s2 (AO 3 0 [iv 0])=s3) (e4:newObj s3 (.map [] 0)=s4) (e5:newObj s4 (AO 115 0 [.map none])=s5)
  (f6:As s6 (s.next+4) (.map (some (s.next+3)))) (n6:s6.next=s5.next) (o6:∀j,j≠s.next+4→s6.heap.get j=s5.heap.get j)
  (e7:newObj s6 (AO 3 1 [iv 0])=s7)
  (f8:As s8 (s.next+1) (.slice (some (s.next+5,0)) 1 (some 1))) (n8:s8.next=s7.next) (o8:∀j,j≠s.next+1→s8.heap.get j=s7.heap.get j)
  (e9:newObj s8 (AO 3 0 [iv 0])=s9)
  (f10:As s10 (s.next+6) (iv 0)) (n10:s10.next=s9.next) (o10:∀j,j≠s.next+6→s10.heap.get j=s9.heap.get j):
  ∃ow',EB ow' s10 p x v s.next v.heat ⟨[],0,[],0,0⟩∧AH (fun _=>False) ow s ow' s10:=by
 have n1:s1.next=s.next+1:=by rw[← e1];rfl
 have n2:s2.next=s.next+2:=by rw[← e2];show s1.next+1=_;omega
 have n3:s3.next=s.next+3:=by rw[← e3];show s2.next+1=_;omega
 have n4:s4.next=s.next+4:=by rw[← e4];show s3.next+1=_;omega
 have n5:s5.next=s.next+5:=by rw[← e5];show s4.next+1=_;omega
 have n7:s7.next=s.next+6:=by rw[← e7];show s6.next+1=_;omega
 have n9:s9.next=s.next+7:=by rw[← e9];show s8.next+1=_;omega
 have o1:BG s.next s s1:=by rw[← e1];exact BG.new s _
 have o2:BG (s.next+1) s1 s2:=by rw[← e2,← n1];exact BG.new s1 _
 have o3:BG (s.next+2) s2 s3:=by rw[← e3,← n2];exact BG.new s2 _
 have o4:BG (s.next+3) s3 s4:=by rw[← e4,← n3];exact BG.new s3 _
 have o5:BG (s.next+4) s4 s5:=by rw[← e5,← n4];exact BG.new s4 _
 have o7:BG (s.next+5) s6 s7:=by rw[← e7,show s.next+5=s6.next by omega];exact BG.new s6 _
 have o9:BG (s.next+6) s8 s9:=by rw[← e9,show s.next+6=s8.next by omega];exact BG.new s8 _
 have b10:∀j,j<s.next+5→j≠s.next+4→j≠s.next+1→s10.heap.get j=s5.heap.get j:=fun j h1 h2 h3=>by
  rw[o10 j (by omega),o9.2 j (by omega),o8 j h3,o7.2 j (by omega),o6 j h2]
 have old:BG s.next s s10:=⟨by omega,fun j hj=>by
  rw[b10 j (by omega) (by omega) (by omega),o5.2 j (by omega),o4.2 j (by omega),o3.2 j (by omega),o2.2 j (by omega),o1.2 j hj]⟩
 refine⟨fun j=>if j<s.next then ow j else if j=s.next+5 then (p,20,0)else (p,21,0),?_,⟨old.1,fun j hj _=>if_pos hj,fun j hj _=>old.2 j hj⟩⟩
 have st:AH (fun _=>False) ow s (fun j=>if j<s.next then ow j else if j=s.next+5 then (p,20,0)else (p,21,0)) s10:=⟨old.1,fun j hj _=>if_pos hj,fun j hj _=>old.2 j hj⟩
 have t5:(fun j=>if j<s.next then ow j else if j=s.next+5 then (p,20,0)else (p,21,0):Ow) (s.next+5)=(p,20,0):=by show(if _ then _ else if _ then _ else _:Bh)=_;rw[if_neg (by omega),if_pos rfl]
 have r5:s10.heap.get (s.next+5)=some (AO 3 1 [iv 0]):=by
  rw[o10 _ (by omega),o9.2 _ (by omega),o8 _ (by omega),← e7,AQ,if_pos (by omega)]
 refine { sat:=h.keep st (fun _ q=>q.elim),hl:=rfl,sb:=?_,lb:=⟨_,f8.keep (by rw[o10 _ (by omega),o9.2 _ (by omega)]),Bc.make r5 (by simp) t5 (by omega)⟩,vb:=?_,mo:=⟨[],0,?_,rfl⟩,mb:=f6.keep (by rw[o10 _ (by omega),o9.2 _ (by omega),o8 _ (by omega),o7.2 _ (by omega)]),ob:=f10,tg:=fun j h1 h2 h3=>?_,lt:=by omega }
 ·have b:As s1 s.next (AK p):=by rw[← e1];exact As.new
  exact b.keep (by rw[b10 _ (by omega) (by omega) (by omega),o5.2 _ (by omega),o4.2 _ (by omega),o3.2 _ (by omega),o2.2 _ (by omega)])
 ·have b:As s3 s2.next (iv 0):=by rw[← e3];exact As.new
  rw[n2]at b
  exact b.keep (by rw[b10 _ (by omega) (by omega) (by omega),o5.2 _ (by omega),o4.2 _ (by omega)])
 ·rw[b10 _ (by omega) (by omega) (by omega),o5.2 _ (by omega),← e4,AQ,if_pos (by omega)]
 ·show(if _ then _ else if _ then _ else _:Bh)=_
  rw[if_neg (by omega),if_neg h3]
theorem Vj{E:BN}(hE:Good E){ow:Ow}{s:AF}{p:Nat}{x:Sf}{v:Sv}{N:Nat}{h:List Int}{r:EC}(H:EB ow s p x v N h r){n:Nat}(hn:n≤1000000)(hlev:v.level.length=n+1)(hI:Gh n r){K:List AV→AF→Prop}{x1 x7 x8 x9 x10 x11 x12 x13 x14 x15 x16 x17 x18 x19 x20:AV}
  (hK:Qb E LO K [] (Da p N x1 x7 x8 x9 x10 x11 x12 (Jl (BH (KB v r.lev) r.lits 0)) x14 x15 x16 x17 x18 x19 x20) s):
  Qb E S2 (fun V s'=>Qb E LO K [] V s') [] (Da p N x1 x7 x8 x9 x10 x11 x12 x13 x14 x15 x16 x17 x18 x19 x20) s:=by
 obtain⟨lv,b1,b2⟩:=H.lb
 obtain⟨g1,g2⟩:=b2.rest Try.underlying23 Bt (k:=1) (by simp)
 have e1:(Ax (r.hd::r.lits)).drop 1=Ax r.lits:=rfl
 rw[e1]at g2
 have g1':Ad Try.prog 23 true false false s [lv,iv 1]=some (ED lv 1):=g1
 have hsm:=hI.small
 have hle:=hI.len
 simp only[S2,Da,b1.load DN,g1',rM,rF,Qb,Qc,Qd,Qf,Qh,Qi,Qj,Qk,Qm,Qn,true_and,Qq,Qr,Qs]
 refine(NR hE (f:=KB v r.lev) (g:=95) (cp:=[.ptr (some (N,0)),.ptr (some (N+2,0))]) (fun q hq=>?_) (by omega) g2).mono ?_
 ·exact Wt hE H (by have:=(hI.lits q hq).2;omega) (by omega)
 rintro _ _ ⟨rfl,rfl⟩
 simp only[Qd,Qn,true_and,Qo,Qp,Qq]
 exact hK
theorem nH{E:BN}{K:List AV→AF→Prop}{ow:Ow}{s:AF}{p:Nat}{lv:AV}{F:List Int}{N i:Nat}(b1:As s (N+1) lv)(b2:Bc ow (p,20,0) s lv (Ax F))(hi:i+1<F.length)(hl:F.length<1000000000)(ht:ow (N+1)=(p,21,0))(hlt:N+1<s.next){x1 x7 x8 x9 x10 x11 x12 x14 x15 x16 x17 x18 x19 x20:AV}
  (hK:∀s',As s' (N+1) lv→Bc ow (p,20,0) s' lv (Ax (Ap F 1 (i+1)))→AH (· = (p,20,0)) ow s ow s'→s'.next=s.next→K (Da p N x1 x7 x8 x9 x10 x11 x12 (iv (i:Int)) x14 x15 x16 x17 x18 x19 x20) s'):
  Qb E S3 K [] (Da p N x1 x7 x8 x9 x10 x11 x12 (iv (i:Int)) x14 x15 x16 x17 x18 x19 x20) s:=by
 have e3:=Ai Try.prog 3 (i:Int) 1 ⟨by omega,by omega⟩
 have e3':((i:Int)+1)=((i+1:Nat):Int):=by omega
 have ga:=AR (d:=(0:Int)) hi
 have gb:=AR (d:=(0:Int)) (show 1<F.length by omega)
 have i1:=b2.addr Try.underlying23 Bt (k:=i+1) (by rw[qK];exact hi)
 have i2:=b2.get (t:=3) Dg (k:=i+1) (Au ga)
 have j1:AC Try.prog 23 lv (iv 1)=some (BA lv 1):=b2.addr Try.underlying23 Bt (k:=1) (by rw[qK];omega)
 have j2:=b2.get (t:=3) Dg (k:=1) (Au gb)
 obtain⟨s1,g1,g2,g3,g4⟩:=b2.set (t:=3) Bt (k:=1) (x:=iv (F.getD (i+1) 0)) (by rw[qK];omega) rfl rfl
 obtain⟨s2,k1,k2,k3,k4⟩:=g2.set (t:=3) Bt (k:=i+1) (x:=iv (F.getD 1 0)) (by rw[qQ,qK];exact hi) rfl rfl
 have b1':As s1 (N+1) lv:=b1.keep (g3.heap _ hlt (by rw[ht];exact CM (by decide)))
 have b1'':As s2 (N+1) lv:=b1'.keep (k3.heap _ (by omega) (by rw[ht];exact CM (by decide)))
 have e:((Ax F).set 1 (iv (F.getD (i+1) 0))).set (i+1) (iv (F.getD 1 0))=Ax (Ap F 1 (i+1)):=by
  unfold Ap Ax
  rw[rD,rD]
 rw[e]at k2
 simp only[S3,Da,b1.load DN,e3,e3',i1,i2,j1,j2,BV,g1,AU,BX,At,b1'.load DN,b2.self,k1,Qb,Qc,Qd,Qf,Qh,Qi,Qj,Qk,Qm,Qn,true_and,and_true,Qq,Qr,Qs]
 exact hK s2 b1'' k2 (g3.trans k3) (by omega)
theorem fI{E:BN}{K:List AV→AF→Prop}{ow:Ow}{s:AF}{p:Nat}{lv:AV}{y:Int}{F:List Int}{N:Nat}(b1:As s (N+1) lv)(b2:Bc ow (p,20,0) s lv (Ax F))(b3:As s (N+2) (iv y))(ht:∀j,j=N+1∨j=N+2→ow j=(p,21,0)){x1 x7 x8 x9 x10 x11 x12 x13 x14 x15 x16 x17 x18 x19 x20:AV}
  (hK:∀s',As s' (N+1) lv→As s' (N+2) (iv y)→AH (· = (p,21,0)) ow s ow s'→s'.next=s.next→K (Da p N x1 x7 x8 x9 x10 x11 x12 x13 x14 x15 x16 x17 x18 x19 x20) s'):
  Qb E S4 K [] (Da p N x1 x7 x8 x9 x10 x11 x12 x13 x14 x15 x16 x17 x18 x19 x20) s:=by
 obtain⟨s1,g1,g2,g3,g4⟩:=b1.store (d:=lv) CL b2.isCell.1 b2.isCell.2
 have b3':As s1 (N+2) (iv y):=b3.keep (g4 _ (by omega))
 obtain⟨s2,k1,k2,k3,k4⟩:=b3'.store (d:=iv y) Bt rfl rfl
 simp only[S4,Da,b1.load DN,b3.load Dg,BV,g1,AU,BX,At,b3'.load Dg,Ob,k1,Qb,Qc,Qd,Qf,Qh,Qj,Qk,Qm,Qn,true_and,and_true,Qq,Qr,Qs]
 refine hK s2 (g2.keep (k4 _ (by omega))) k2 ⟨by omega,fun _ _ _=>rfl,fun j hj hm=>?_⟩ (by omega)
 rw[k4 j (fun e=>hm (ht j (.inr e))),g4 j (fun e=>hm (ht j (.inl e)))]
theorem bF{E:BN}(hE:Good E){ow:Ow}{s:AF}{p:Nat}{x:Sf}{v:Sv}(h:Ah ow s p x v){n:Nat}(hn:n≤1000000)(hf:Mt n v)(hcl:∀c ls b,v.cl c=some (ls,b)→A9 n ls){c:Nat}{r:EC}(hr:B4 v c ⟨[],0,[],0,0⟩ v.trail.length 0 r):
  WF E 67 [AK p,AK c] (fun res s'=>∃lv ow' h',res=.tuple [lv,iv r.lev]∧Gh n r∧Ah ow' s' p x (BB v h')∧h'.length=v.heat.length∧Bc ow' (p,20,0) s' lv (Ax (AT v r))∧AH (Bb p) ow s ow' s') s:=by
 have hptr:∀i,Made.val i .ptr=.ptr (some (i,0)):=fun _=>rfl
 have hmap:∀i,Made.val i .map=.map (some i):=fun _=>rfl
 have hms:∀ (m:Nat) (i:Nat),Made.val i (.slice m)=.slice (some (i,0)) m (some m):=fun _ _=>rfl
 have bl:=Ck (P:=Try.prog) (t:=23) (v:=iv 0) Try.underlying23 Bt RN rfl rfl
 have hbox:DS 44 (AV.ptr (some (p,0)))=some (AO 44 0 [AK p],.ptr):=by simp[DS,AK,AV.cells]
 have eqp:FY (.ptr (some (p,0))) (.ptr (some (p,0)))=true:=by simp[FY]
 have hz:=hf.siz
 refine hE.go lj (by decide) rfl ?_
 generalize e1:newObj s (AO 44 0 [AK p])=s1
 have n1:s1.next=s.next+1:=by rw[← e1];rfl
 generalize e2:newObj s1 (AO 23 0 [.slice none 0 (some 0)])=s2
 have n2:s2.next=s.next+2:=by rw[← e2];show s1.next+1=_;omega
 generalize e3:newObj s2 (AO 3 0 [iv 0])=s3
 have n3:s3.next=s.next+3:=by rw[← e3];show s2.next+1=_;omega
 generalize e4:newObj s3 (.map [] 0)=s4
 have n4:s4.next=s.next+4:=by rw[← e4];show s3.next+1=_;omega
 generalize e5:newObj s4 (AO 115 0 [.map none])=s5
 have n5:s5.next=s.next+5:=by rw[← e5];show s4.next+1=_;omega
 have b5:As s5 (s.next+4) (.map none):=by rw[← e5,← n4];exact As.new
 obtain⟨s6,g6,f6,n6,o6⟩:=b5.store (d:=.map (some (s.next+3))) (t:=115) oL rfl rfl
 generalize e7:newObj s6 (AO 3 1 [iv 0])=s7
 have n7:s7.next=s.next+6:=by rw[← e7];show s6.next+1=_;omega
 have o2:As s2 (s.next+1) (.slice none 0 (some 0)):=by rw[← e2,← n1];exact As.new
 have b7:As s7 (s.next+1) (.slice none 0 (some 0)):=o2.keep (by
  rw[← e7,AQ,if_neg (by omega),o6 _ (by omega),← e5,AQ,if_neg (by omega),← e4,AQ,if_neg (by omega),← e3,AQ,if_neg (by omega)])
 obtain⟨s8,g8,f8,n8,o8⟩:=b7.store (d:=.slice (some (s.next+5,0)) 1 (some 1)) (t:=23) CL rfl rfl
 generalize e9:newObj s8 (AO 3 0 [iv 0])=s9
 have n9:s9.next=s.next+7:=by rw[← e9];show s8.next+1=_;omega
 have b9:As s9 (s.next+6) (iv 0):=by rw[← e9,show s.next+6=s8.next by omega];exact As.new
 obtain⟨s10,g10,f10,n10,o10⟩:=b9.store (d:=iv 0) (t:=3) Bt rfl rfl
 obtain⟨ow1,H,st⟩:=P5 h e1 e2 e3 e4 e5 f6 n6 o6 e7 f8 n8 o8 e9 f10 n10 o10
 have hlt:=h.lt
 have l8:AD Try.prog s8 44 (.ptr (some (s.next,0)))=some (AK p):=by
  have b:As s1 s.next (AK p):=by rw[← e1];exact As.new
  refine(b.keep ?_).load Dy
  rw[o8 _ (by omega),← e7,AQ,if_neg (by omega),o6 _ (by omega),← e5,AQ,if_neg (by omega),← e4,AQ,if_neg (by omega),← e3,AQ,if_neg (by omega),← e2,AQ,if_neg (by omega)]
 have t8:AD Try.prog s8 23 (.ptr (some (p,7)))=some x.tr:=by
  refine(h.box.keep (s':=s8) ?_).load (k:=7) rfl DN
  rw[o8 _ (by omega),← e7,AQ,if_neg (by omega),o6 _ (by omega),← e5,AQ,if_neg (by omega),← e4,AQ,if_neg (by omega),← e3,AQ,if_neg (by omega),← e2,AQ,if_neg (by omega),← e1,AQ,if_neg (by omega)]
 have l9:AD Try.prog s9 44 (.ptr (some (s.next,0)))=some (AK p):=by rw[← l8];exact D4 (by rw[← e9,AQ,if_neg (by omega)])
 have t9:AD Try.prog s9 23 (.ptr (some (p,7)))=some x.tr:=by rw[← t8];exact D4 (by rw[← e9,AQ,if_neg (by omega)])
 have l10:AD Try.prog s10 44 (.ptr (some (s.next,0)))=some (AK p):=by rw[← l9];exact D4 (o10 _ (by omega))
 have t10:AD Try.prog s10 23 (.ptr (some (p,7)))=some x.tr:=by rw[← t9];exact D4 (o10 _ (by omega))
 have ln:∀s,Aq Try.prog s 23 x.tr=some (iv (v.trail.length:Int)):=fun s=>by
  have:=h.trail.len Try.underlying23 s
  rw[qK]at this
  exact this
 simp only[AK]at e1 hbox l8 l9 l10
 have q6:s6.next=s.next+5:=by omega
 have q8:s8.next=s.next+6:=by omega
 simp only[pn,iP,iQ,iR,iS,iT,AK,hbox,e1,hptr,n1,UL,e2,n2,UM,e3,n3,e4,hmap,n4,Wq,e5,BV,g6,AU,bl,e7,hms,q6,g8,l8,t8,AG,FM,ln,e9,q8,g10,BX,Kg,At,l10,t10,eqp,h.trail.self,Ob,Qa,Qb,Qc,Qd,Qf,Qh,Qi,Qj,Qk,Ql,Qm,Qn,true_and,and_true,Qo,Qp,Qq,Qr,Qs,Qw,Rc,Yc]
 refine Ta hE hn hf hcl ?_ hr s10 ow1 v.heat [] _ _ _ _ _ _ _ _ _ _ _ _ (qI _) H ⟨by simp,by simp,qO _,by simp,by simp⟩ ⟨by simp,by simp⟩ (AH.refl _ _ _)
 intro s11 ow11 h11 M y1 y7 y8 y9 y10 y11 y12 y13 y14 y15 y16 y17 y18 y19 y20 H11 I11 M11 st11
 simp only[if_true,Qw,Qy,Rb]
 refine Vj hE H11 hn hz.level I11 ?_
 have hmL:∀ {t:Bh},Gc p t→Bb p t:=by
  rintro t ((e | e | e) | e)<;>rw[e]<;>rfl
 have stA:AH (Bb p) ow s ow11 s11:=(st.mono fun _ q=>q.elim).trans (st11.mono fun t ht=>hmL ht)
 obtain⟨lv,b1,b2⟩:=H11.lb
 have hsm:=I11.small
 have hle:=I11.len
 have hlt11:=H11.lt
 have hm20:∀y i,y≠20→¬ ((p,y,i):Bh)=(p,20,0):=fun y i hy=>CM hy
 have fin:∀ (s12 s13:AF),As s12 (s.next+1) lv→Bc ow11 (p,20,0) s12 lv (Ax (AT v r))→AH (· = (p,20,0)) ow11 s11 ow11 s12→s12.next=s11.next →
   As s13 (s.next+1) lv→As s13 (s.next+2) (iv r.lev)→AH (· = (p,21,0)) ow11 s12 ow11 s13→s13.next=s12.next →
   ∃s14,unmark s13 M=some s14∧AD Try.prog s14 23 (.ptr (some (s.next+1,0)))=some lv∧AD Try.prog s14 3 (.ptr (some (s.next+2,0)))=some (iv r.lev)∧Ah ow11 s14 p x (BB v h11)∧Bc ow11 (p,20,0) s14 lv (Ax (AT v r))∧AH (Bb p) ow s ow11 s14:=by
  intro s12 s13 d1 d2 d3 d4 k1 k2 k3 k4
  have M13:Ci ow11 s13 p M:=(M11.step d3 (hm20 _ _ (by decide))).step k3 (CM (by decide))
  obtain⟨s14,u1,u2,u3⟩:=M13.unmark
  have w1:As s14 (s.next+1) lv:=k1.keep (u3.heap _ (by omega) (by rw[H11.tg (s.next+1) (by omega) (by omega) (by omega)];exact CM (by decide)))
  have w2:As s14 (s.next+2) (iv r.lev):=k2.keep (u3.heap _ (by omega) (by rw[H11.tg (s.next+2) (by omega) (by omega) (by omega)];exact CM (by decide)))
  have hno:∀ (z:Nat),16≤z→∀y i,y<16→¬ ((p,y,i):Bh)=(p,z,0):=fun z hz y i hy=>CM (by omega)
  exact⟨s14,u1,w1.load DN,w2.load Dg,((H11.sat.keep16 d3 (hno 20 (by decide))).keep16 k3 (hno 21 (by decide))).keep16 u3 (hno 22 (by decide)),(d2.step k3 (CM (by decide))).step u3 (CM (by decide)),
   ((stA.trans (d3.mono fun t ht=>by rw[ht];rfl)).trans (k3.mono fun t ht=>by rw[ht];rfl)).trans (u3.mono fun t ht=>by rw[ht];rfl)⟩
 have tg12:∀j,j=s.next+1∨j=s.next+2→ow11 j=(p,21,0):=by
  rintro j (e | e)<;>subst e<;>exact H11.tg _ (by omega) (by omega) (by omega)
 cases hfi:BH (KB v r.lev) r.lits 0 with
 | none =>
  have el:AT v r=r.hd::r.lits:=by unfold AT;rw[hfi]
  have hd0:decide ((0:Int)≤-1)=false:=rfl
  simp only[LO,Jl,hd0,Da,Qb,Qc,Qd,Qf,Qh,Qi,Qj,Qm,Qn,true_and,Qo,Qp,Qq,Qr,Qs,Qv,Ru]
  refine fI b1 b2 H11.vb tg12 ?_
  intro s13 k1 k2 k3 k4
  rw[← el]at b2
  obtain⟨s14,u1,u2,u3,u4,u5,u6⟩:=fin s11 s13 b1 b2 (AH.refl _ _ _) rfl k1 k2 k3 k4
  simp only[u1,Ix,u2,u3,Qj,Qm,Qq,Qr,Rf,Rj,Yc]
  exact⟨lv,ow11,h11,rfl,I11,u4,H11.hl,u5,u6⟩
 | some i =>
  have el:AT v r=Ap (r.hd::r.lits) 1 (i+1):=by unfold AT;rw[hfi]
  have hd0:decide ((0:Int)≤(i:Int))=true:=decide_eq_true (by omega)
  have hfl:=(F4 hfi).2
  simp only[LO,Jl,hd0,Da,Qb,Qc,Qd,Qf,Qh,Qi,Qj,Qm,Qn,true_and,Qo,Qp,Qq,Qr,Qs,Qu,Ru]
  refine nH b1 b2 (i:=i) (by simp;omega) (by simp;omega) (H11.tg _ (by omega) (by omega) (by omega)) (by omega) ?_
  intro s12 d1 d2 d3 d4
  rw[← el]at d2
  have d5:As s12 (s.next+2) (iv r.lev):=H11.vb.keep (d3.heap _ (by omega) (by rw[H11.tg (s.next+2) (by omega) (by omega) (by omega)];exact hm20 _ _ (by decide)))
  try simp only[Qa,Qb,Qc,Qd,Qe,Qf,Qg,Qh,Qi,Qj,Qk,Ql,Qm,Qn,true_and,and_true,Qo,Qp,Qq,Qr,Qs,Qt,Qu,Qv,Qw,Qx,Qy,Qz,Ra,Rb,Rc,Rd,Re,Rf,Rg,Rh,Ri,Rj,Rk,Rl,Rm,Ya,Yb,Yc,Rn,Ro,Rp,Yd,Ye,Rq,Rs,Rt,Ru,Rv,Rw,Rx]
  refine fI d1 d2 d5 tg12 ?_
  intro s13 k1 k2 k3 k4
  obtain⟨s14,u1,u2,u3,u4,u5,u6⟩:=fin s12 s13 d1 d2 d3 d4 k1 k2 k3 k4
  simp only[u1,Ix,u2,u3,Qj,Qm,Qq,Qr,Rf,Rj,Yc]
  exact⟨lv,ow11,h11,rfl,I11,u4,H11.hl,u5,u6⟩
theorem If{α:Type}{cs add:List α}{u:α}{k:Nat}(h:(cs++add)[k]? = some u):(k<cs.length∧cs[k]? = some u)∨(cs.length≤k∧add[k - cs.length]? = some u):=by
 rcases qN k cs.length with hlt | hge
 ·rw[qX hlt]at h;exact .inl ⟨hlt,h⟩
 ·rw[qY hge]at h
  exact .inr ⟨hge,h⟩
theorem Bc.pushN  {ow : Ow} {T : Bh}  {s : AF}  {v : AV} {cs : List AV} (h : Bc  ow T s v cs) {st e : TypeId} {by_ : Nat} (ht : Try.prog.underlying st = some (.slice e)) (hs : BC    Try.prog e = some 1) (hb : CQ     Try.prog e = some by_) (hby : by_ ≤ 100) (hx : BI           Try.prog st = true) (hz : CC     Try.prog e 1 = true)
    (hl:cs.length≤1000000000) {add:List AV} (hne:0<add.length) (hal:add.length≤1000) (hac:Ak add=true) {w:AV} (hsrc:BZ Try.prog s e 1 w=some (add.length,add)) (hw:∃aw cw,w=.slice aw add.length cw):
    ∃v' s' ow',Af Try.prog s [st,st] [v,w]=some (v',s')∧Bc ow' T s' v' (cs++add)∧AH (· = T) ow s ow' s':=by
  obtain⟨aw,cw,rfl⟩:=hw
  have hnn:add≠[]:=fun e=>by rw[e]at hne;cases hne
  have hmul:(cs.length+add.length) * by_≤(cs.length+add.length) * 100:=rn _ hby
  have fresh:∀ (s1:AF),AH (· = T) ow s ow s1→s1.next=s.next→(∀ (c:Aj AV) (par:Option Nat),(∀k u,(cs++add)[k]? = some u→c.get k=some u)→(∀p,par=some p→ow p=T∧p<s.next) →
      ∃ow',Bc ow' T (newObj s1 (Cp e 1 c (cs++add).length par)) (.slice (some (s.next,0)) (cs.length+add.length) none) (cs++add)∧AH (· = T) ow s ow' (newObj s1 (Cp e 1 c (cs++add).length par))):=by
    intro s1 hst hn c par hcg hpar
    refine⟨ext ow s1.next T,.inr ⟨s.next,0,none,{ elem:=e,sz:=1,n:=(cs++add).length,c,spare:=true,mode:=.own,par,bytes:=false },by rw[qM],⟨by rw[AQ,if_pos hn.symm];rfl,C2 (by omega),by show s.next<s1.next+1;omega,rfl,rfl,fun p hp=>?_⟩,fun k u hk=>by rw[qU];exact hcg k u hk,by rw[qU];exact qI _,⟨rfl,by show 0<(cs++add).length;rw[qM];omega⟩⟩,hst.trans (AH.new _ ow s1 _ T)⟩
    obtain⟨h1,h2⟩:=hpar p hp
    exact⟨by rw[D1 (by omega)];exact h1,by show p<s1.next+1;omega,by omega⟩
  rcases h with⟨rfl,rfl⟩ | ⟨i,o,cap,r,rfl,h2,h3,h4,h5⟩
  · obtain⟨ow',g1,g2⟩:=fresh s (AH.refl _ _ _) rfl (Aj.fill .leaf 0 add) none (fun k u hk=>by
      have:=C4 (t:=Aj.leaf) (n:=0) hk
      rw[qU]at this
      exact this) (fun p hp=>by cases hp)
    refine⟨_,_,ow',?_,g1,g2⟩
    have hmul':(0+add.length) * by_≤(0+add.length) * 100:=rn _ hby
    rw[CB ht hs hb (by decide) hx hsrc hac (by omega) (by omega)]
    simp only[appTo,D0 (show add.length≠0 by omega),cond_false,Bv,AI,hz,cond_true,qo,rC,qU]
  · have happ := CB         (st := st) (xt := st) (a := some (i, o)) (n := cs.length) (cap := cap) ht hs hb (by decide) hx hsrc hac (by omega) (by omega)
    have hcells:loadN s i o (cs.length * 1)=some cs:=by
      have hrow:rowAt s i=some r:=by simp[rowAt,h2.get]
      simp only[loadN,hrow,Option.bind_some,qa,BS h4,AI,cond_true]
      exact He _ _ fun j u hj=>h3 j u hj
    have freshC:∀k u,(cs++add)[k]? = some u→(Aj.fill .leaf 0 (cs++add)).get k=some u:=fun k u hk=>by
      have:=C4 (t:=Aj.leaf) (n:=0) hk
      rw[qU]at this
      exact this
    cases cap with
    | some c =>
      obtain⟨h6,h7⟩:=h5
      by_cases hfit:cs.length+add.length≤c
      · obtain⟨s',g1,g2,g3,g4⟩:=h2.store (o:=o+cs.length * 1) (vs:=add) hnn (by omega) hac
        refine⟨.slice (some (i,o)) (cs.length+add.length) (some c),s',ow,?_,.inr ⟨i,o,some c,_,by rw[qM],g2,fun k u hk=>?_,by rw[qM];show o+(cs.length+add.length)≤r.n;omega,by rw[qM];exact⟨hfit,h7⟩⟩,g3⟩
        · rw[happ]
          simp only[appTo,DP,BS hfit,cond_true,g1,Option.bind_some]
        · show(Aj.fill r.c (o+cs.length * 1) add).get (o+k)=some u
          rcases If hk with⟨k1,k2⟩ | ⟨k1,k2⟩
          · rw[FO (by omega)];exact h3 k u k2
          · have:=C4 (t:=r.c) (n:=o+cs.length * 1) k2
            rw[show o+k=o+cs.length * 1+(k - cs.length) by omega];exact this
      · obtain⟨ow',g1,g2⟩:=fresh s (AH.refl _ _ _) rfl (Aj.fill .leaf 0 (cs++add)) none freshC (fun p hp=>by cases hp)
        refine⟨_,_,ow',?_,g1,g2⟩
        rw[happ]
        simp only[appTo,DP,GL (show c<cs.length+add.length by omega),cond_false,hcells,Option.bind_some,Bv,AI,hz,cond_true]
    | none =>
      have h5:o=0:=h5.1
      subst h5
      have hrow:rowAt s i=some r:=by simp[rowAt,h2.get]
      by_cases hfit:cs.length+add.length≤r.n
      · obtain⟨s',g1,g2,g3,g4⟩:=h2.store (o:=0+cs.length * 1) (vs:=add) hnn (by omega) hac
        refine⟨.slice (some (i,0)) (cs.length+add.length) none,s',ow,?_,.inr ⟨i,0,none,_,by rw[qM],g2,fun k u hk=>?_,by rw[qM];show 0+(cs.length+add.length)≤r.n;omega,⟨rfl,by show 0<r.n;omega⟩⟩,g3⟩
        · rw[happ]
          simp only[appTo,hrow,Option.bind_some,Dz,h2.sz,Di rfl,AI,cond_true,BS (show 0+(cs.length+add.length) * 1≤r.n by omega),g1]
        · show(Aj.fill r.c (0+cs.length * 1) add).get (0+k)=some u
          rcases If hk with⟨k1,k2⟩ | ⟨k1,k2⟩
          · rw[FO (by omega)];exact h3 k u k2
          · have:=C4 (t:=r.c) (n:=0+cs.length * 1) k2
            rw[show 0+k=0+cs.length * 1+(k - cs.length) by omega];exact this
      · have hnf:Nat.ble (0+(cs.length+add.length) * 1) r.n=false:=GL (by omega)
        cases hsp:r.spare with
        | false =>
          obtain⟨ow',g1,g2⟩:=fresh s (AH.refl _ _ _) rfl (Aj.fill .leaf 0 (cs++add)) none freshC (fun p hp=>by cases hp)
          refine⟨_,_,ow',?_,g1,g2⟩
          rw[happ]
          simp only[appTo,hrow,Option.bind_some,Dz,h2.sz,Di rfl,AI,cond_true,hnf,cond_false,hcells,hsp,Bv,hz]
        | true =>
          have hun:(Av s i r).next=s.next:=by
            unfold Av
            split
            · rfl
            · rename_i p _
              cases Nat.beq p i<;>rfl
          have hunh:∀y,y<s.next→¬ ow y=T→(Av s i r).heap.get y=s.heap.get y:=fun y hy hm=>by
            unfold Av
            cases hp:r.par with
            | none=>rfl
            | some p =>
              obtain⟨k1,k2,k3⟩:=h2.par p hp
              simp only[D0 k3,cond_false]
              rw[FP,if_neg (fun e=>hm (by rw[e];exact k1))]
          have hcc:∀k u,(cs++add)[k]? = some u→(r.c.fill (cs.length * 1) add).get k=some u:=fun k u hk=>by
            rcases If hk with⟨k1,k2⟩ | ⟨k1,k2⟩
            · rw[FO (by omega)]
              have:=h3 k u k2
              rw[qU]at this
              exact this
            · have:=C4 (t:=r.c) (n:=cs.length * 1) k2
              rw[show k=cs.length * 1+(k - cs.length) by omega]
              exact this
          cases hends:Nat.beq (0+cs.length * 1) r.n with
          | true =>
            have hst:AH (· = T) ow s ow (setObj (Av s i r) i (.row { r with mode:=.sealed,par:=none })):=by
              refine⟨by show s.next≤(Av s i r).next;omega,fun _ _ _=>rfl,fun y hy hm=>?_⟩
              have hyi:y≠i:=fun e=>hm (by rw[e];exact h2.whose)
              rw[BL,if_neg hyi]
              exact hunh y hy hm
            obtain⟨ow',g1,g2⟩:=fresh _ hst hun (r.c.fill (cs.length * 1) add) (some i) hcc (fun p hp=>by injection hp with hp;subst hp;exact⟨h2.whose,h2.lt⟩)
            refine⟨_,_,ow',?_,g1,g2⟩
            rw[happ]
            simp only[appTo,hrow,Option.bind_some,Dz,h2.sz,Di rfl,AI,cond_true,hnf,cond_false,hcells,hsp,DQ,h2.own,Ec,hz,Bool.and_self,hends,Cm]
          | false =>
            have hst:AH (· = T) ow s ow (Cl (Av s i r) i):=by
              refine⟨by show s.next≤(Av s i r).next;omega,fun _ _ _=>rfl,fun y hy hm=>?_⟩
              have hyi:y≠i:=fun e=>hm (by rw[e];exact h2.whose)
              rw[FP,if_neg hyi]
              exact hunh y hy hm
            obtain⟨ow',g1,g2⟩:=fresh _ hst hun (r.c.fill (cs.length * 1) add) none hcc (fun p hp=>by cases hp)
            refine⟨_,_,ow',?_,g1,g2⟩
            rw[happ]
            simp only[appTo,hrow,Option.bind_some,Dz,h2.sz,Di rfl,AI,cond_true,hnf,cond_false,hcells,hsp,DQ,h2.own,Ec,hz,Bool.and_self,hends,Cm]
end
end Go.Proofs.Ytilhhmkdcoajnaa.Am
