/- The statement LinPuts, walked: its rounds; conditions: none. -/
import Derived.Test.YtjnkfbpadpmakaaGreatDoorAmM13
import Derived.Test.YtjnkfbpadpmakaaGreatDoorAmM11
set_option linter.unusedVariables false
set_option linter.unusedSimpArgs false
set_option maxRecDepth 16000
namespace Go.Proofs.YtjnkfbpadpmakaaGreatDoor.Am
open Go Go.Proofs
noncomputable section
theorem Vz{n:Int}:∀ {T:List CW},n ∉ BD T→J5 (dl n) T=0
 | [],_=>rfl
 | t::T,h=>by
  have h1:t.1≠n∧n ∉ BD T:=⟨fun e=>h (by rw[← e];exact zs ..),fun h'=>h (A0B _ h')⟩
  show t.2.1 * dl n t.1+J5 (dl n) T=0
  rw[MD h1.1,Vz h1.2,Rat.mul_zero,Rat.add_zero]
theorem gX{n:Int}{C1 C2 C':Rat}{vs1 vs2:List Int}{cs1 cs2:List Rat}{T0 T:List CW}{L:List (Int×Rat)}(h0:G3 1 vs1 cs1 [] T0)(hn0:(BD T0).Nodup)(h:iS n C2 vs2 cs2 C1 T0 C' T)(hn:(BD T).Nodup)(hL:Can L)
  (hev:∀a,Ds a L=Bf a vs1 cs1+1 * a n * Bf (dl n) vs1 cs1 * -1+Bf a vs2 cs2 * Bf (dl n) vs1 cs1):C'=C1+0 * Bf (dl n) vs1 cs1 * -1+C2 * Bf (dl n) vs1 cs1∧FS T=L:=by
 have e0:∀a,J5 a T0=Bf a vs1 cs1:=fun a=>by
  rw[h0.ev a]
  show 0+_ * 1=_
  rw[Rat.mul_one,Rat.zero_add]
 have hv:Cd n T0=Bf (dl n) vs1 cs1:=by
  have h1:=UB (dl n) n T0
  rw[Vz (WL hn0),LK,e0,Rat.mul_one,Rat.zero_add]at h1
  exact h1
 rcases h with⟨h1,rfl,rfl⟩ | ⟨h1,rfl,h2⟩
 ·have hz:Bf (dl n) vs1 cs1=0:=by
   rw[← hv]
   unfold Cd
   rw[h1]
  rw[hz]at hev ⊢
  refine⟨by grind,RN (MA hn) hL fun a=>?_⟩
  rw[JE a hn,e0,hev]
  grind
 ·rw[hv]at h2 ⊢
  generalize Bf (dl n) vs1 cs1=c at *
  refine⟨by grind,RN (MA hn) hL fun a=>?_⟩
  have h3:=UB a n T0
  rw[e0,hv]at h3
  rw[JE a hn,h2.ev,hev,← h3]
  grind
theorem QM{s:AE}{loc var:List AV}{g:Option (CX×Bool)}{f:AE→AV→Option AV}{x ans:CX}(h:f s (C9 loc var x)=some (C9 loc var ans))(he:Fs (C9 loc var ans) (C9 loc var ans)=true):Et s loc var ⟨g,.r1 f,[x],ans⟩=true:=by
 unfold Et
 show(!_ || M9 (f s (C9 loc var x)) (C9 loc var ans))=true
 rw[h,Ao,he,Bool.or_true]
structure Pu(s:AE)(pA pB:Nat)(ca cb:List AV)(C1:Rat)(vs1:List Int)(cs1:List Rat)(C2:Rat)(vs2:List Int)(cs2:List Rat)(vars:List Int)(wals:List Rat)(av ac:Option (Nat×Nat))(cells:List AV):Prop where
 gA:s.heap.get pA=some (R 30 0 false ca)
 gB:s.heap.get pB=some (R 30 0 false cb)
 lA:pA<s.next
 lB:pB<s.next
 hA:LI s (.agg ca) C1 vs1 cs1 3
 hB:LI s (.agg cb) C2 vs2 cs2 3
 mA:cs1.length≤8
 nA:vs1.length≤8
 mB:cs2.length≤8
 nB:vs2.length≤8
 hv:AS s.next s av (vars.map iv)
 iv':∀n∈vars,i64 n
 vl:vars.length≤8
 hr:Cp s ac wals 3 cells
 wl:wals.length≤8
theorem Pu.old{s s':AE}{pA pB:Nat}{ca cb:List AV}{C1:Rat}{vs1:List Int}{cs1:List Rat}{C2:Rat}{vs2:List Int}{cs2:List Rat}{vars:List Int}{wals:List Rat}{av ac:Option (Nat×Nat)}{cells:List AV}
  (h:Pu s pA pB ca cb C1 vs1 cs1 C2 vs2 cs2 vars wals av ac cells) (o:Aa s.next s s'):Pu s' pA pB ca cb C1 vs1 cs1 C2 vs2 cs2 vars wals av ac cells:=
 ⟨(o.2 _ h.lA).trans h.gA,(o.2 _ h.lB).trans h.gB,zZ h.lA o.1,zZ h.lB o.1,h.hA.old o,h.hB.old o,h.mA,h.nA,h.mB,h.nB,(h.hv.old o (zU _)).mono o.1,h.iv',h.vl,h.hr.old o,h.wl⟩
section
variable{E:CR}{s:AE}
theorem kH(hE:G7 E){va vb:AV}{C C2:Rat}{vs vs2:List Int}{cs cs2:List Rat}{n:Int}(hn:i64 n)(ha:LI s va C vs cs 3)(hb:LI s vb C2 vs2 cs2 3)(hMa:min cs.length vs.length≤8)(hMb:min cs2.length vs2.length≤8){K:AV→AE→Prop}
  (hK:∀s' w T0 C' T,Aa s.next s s'→LR s.next s' w C' (FS T)→G3 1 vs cs [] T0→iS n C2 vs2 cs2 C T0 C' T→QH C' 1000→(∀p∈FS T,QH p.2 1000)→(BD T).Nodup→(BD T0).Nodup→K w s'):WF E 10 [va,iv n,vb] K s:=by
 have b1:(min cs.length vs.length+1) * (3+2)≤9 * (3+2):=zq _ (by omega)
 have b2:(min cs2.length vs2.length+1) * (3+(1+(min cs.length vs.length+1) * (3+2))+1)≤9 * (3+(1+9 * (3+2))+1):=A0W (by omega) (by omega)
 exact uo hE hn ha hb (by decide) (by decide) rfl rfl rfl rfl (by omega) fun s' w T0 C' T o r t0 hput hc hT hnd hnd0=>hK s' w T0 C' T o r t0 hput (hc.le (by omega)) (iz (by decide) fun t ht=>(hT t ht).le (by omega)) hnd hnd0
theorem Xk(hE:G7 E){s0:AE}{pA pB:Nat}{ca cb:List AV}{C1:Rat}{vs1:List Int}{cs1:List Rat}{C2:Rat}{vs2:List Int}{cs2:List Rat}{vars:List Int}{wals:List Rat}{av ac:Option (Nat×Nat)}{cells:List AV}
  (h:Pu s0 pA pB ca cb C1 vs1 cs1 C2 vs2 cs2 vars wals av ac cells) {all:List Int} {aa:Option (Nat×Nat)} {capa:Option Nat} (hall:AS s0.next s0 aa (all.map iv)) (hi64:∀n∈all,i64 n) (hal:all.length≤16)
  {y0 y1 y2 y3 y4:AV} {Q:Az→Prop}
  (hq:∀S' y8 y9 y10,Aa s0.next s0 S'→Q ⟨.exit 0,[y0,y1,y2,y3,y4,.ptr (some (pA,0)),.ptr (some (pB,0)),.slice aa all.length capa,y8,y9,y10],[],S'⟩):
  ∀ (r i:Nat) (S:AE) (y9 y10:AV),all.length - i=r→i≤all.length→Aa s0.next s0 S→WC E none (.loop cW) Q [y0,y1,y2,y3,y4,.ptr (some (pA,0)),.ptr (some (pB,0)),.slice aa all.length capa,iv (i:Int),y9,y10] [] S:=by
 intro r
 induction r with
 | zero =>
  intro i S y9 y10 hi hl o
  have dd:decide ((i:Int)<(all.length:Int))=false:=decide_eq_false (by omega)
  refine WC.loop' ?_
  simp only[cW,tD,AH Tryz.underlying27,Ry,dd,Qa,Qb,Qc,Qd,Qf,Qh,Qj,Qk,Qm,Qo,true_and,Qp,Qq,Qr,Qs,Qt,Qv,Ra,Rb,Rc,Rd,Re,Rf,Ry,A1s,A1x]
  exact hq S _ _ _ o
 | succ r ih =>
  intro i S y9 y10 hi hl o
  have dd:decide ((i:Int)<(all.length:Int))=true:=decide_eq_true (by omega)
  have e17:=Ax Tryz.prog 3 (i:Int) 1 ⟨by omega,by omega⟩
  have e17':((i:Int)+1)=((i+1:Nat):Int):=by omega
  have hlt:i<all.length:=by omega
  have hget:all[i]? = some all[i]:=zW hlt
  have hn:=hi64 all[i] (A0x hlt)
  have hS:=h.old o
  have hA:=hS.hA
  have hB:=hS.hB
  obtain⟨xa,aa',na,ka,ba,ma,da,va,nva,kva,wa,nwa,kwa,ea⟩:=hA.shape
  injection ea with ea
  obtain⟨xb,ab,nb,kb,bb,mb,db,vb,nvb,kvb,wb,nwb,kwb,eb⟩:=hB.shape
  injection eb with eb
  subst ea;subst eb
  have hc:=(hall.old o (zU _)).mono o.1
  obtain⟨i0,q,rfl,hi0,ld⟩:=Cm hc hget
  have ix:=AX (cap:=capa) (i:=i0) (o:=q) (n:=1) (len:=all.length) Tryz.underlying27 Jm hlt
  have lA:=AK (P:=Tryz.prog) (t:=30) D7 Do hS.gA rfl
  have lB:=AK (P:=Tryz.prog) (t:=30) D7 Do hS.gB rfl
  have hmA:=h.mA
  have hnA:=h.nA
  have hmB:=h.mB
  have hnB:=h.nB
  refine WC.loop' ?_
  generalize hW:WC E none (Ac.loop cW) Q=WW
  simp only[cW,tD,wQ,AH Tryz.underlying27,Ry,dd,lA,lB,ix,ld,Qa,Qb,Qc,Qd,Qf,Qh,Qj,Qk,Qm,Qo,true_and,Qp,Qq,Qr,Qs,Qt,Qv,Qz,Rb,Rc,Rd,Re,Rf,Ry,A1s,A1x,A1m,A1v,A1u]
  refine kH hE hn hA hB (by omega) (by omega) fun S1 w1 T0 C' T o1 hw1 t0 hput hC hT hnd hnd0=>?_
  have hS1:=hS.old o1
  have lA1:=AK (P:=Tryz.prog) (t:=30) D7 Do hS1.gA rfl
  have lB1:=AK (P:=Tryz.prog) (t:=30) D7 Do hS1.gB rfl
  have ld1:=Ci lH o1 hi0 ld
  refine⟨by simp only[Bl,lA1,lB1,ld1,Ao,DR,MF,Qj,Qk,Qo,and_true,Qr,Qs],?_⟩
  simp only[Qr,Qs]
  refine jr hE.toGoodN hn hS1.hA hS1.hB (by omega) (by omega) (by omega) (by omega) fun S2 w2 L o2 hw2 hcan hev hLl hC2 hL2=>?_
  obtain⟨e1,e2⟩:=gX t0 hnd0 hput hnd hcan hev
  subst e1;subst e2
  have hX1:=(hw1.lc.lx hC hT (by decide)).old o2
  have hX2:=hw2.lx hC2 hL2 (by decide)
  simp only[Qd,Qo,true_and,Qr,Qs]
  refine YL hE.toGoodN hX1 hX2 (by rw[zi];omega) (by rw[zi];omega) fun S3 o3=>?_
  simp only[We,Bool.not_true,wR,e17,e17',Qb,Qc,Qd,Qf,Qh,Qi,Qj,Qk,Qm,Qo,true_and,Qp,Qq,Qr,Qs,Qt,Qv,Ra,Ya,We,A1t,A1p]
  rw[← hW]
  have o12:=o1.trans (o2.mono o1.1)
  have o13:=o12.trans (o3.mono o12.1)
  exact ih (i+1) S3 _ _ (by omega) (by omega) (o.trans (o13.mono o.1))
theorem gY(hE:G7 E){S:AE}{pA pB:Nat}{ca cb:List AV}{C1:Rat}{vs1:List Int}{cs1:List Rat}{C2:Rat}{vs2:List Int}{cs2:List Rat}{vars:List Int}{wals:List Rat}{av ac:Option (Nat×Nat)}{cells:List AV}
    (h:Pu S pA pB ca cb C1 vs1 cs1 C2 vs2 cs2 vars wals av ac cells) {cv:Option Nat} {y0 y2 y3 y4 y6 y7 y8 y9 y10:AV} {K:List AV→AE→Prop}
    (hK:∀S' a cap,Aa S.next S S'→AS S'.next S' a ((vars++vs1).map iv)→(∀n∈vars++vs1,i64 n)→(vars++vs1).length≤16→K [y0,.slice av vars.length cv,y2,y3,y4,.ptr (some (pA,0)),y6,.slice a (vars++vs1).length cap,y8,y9,y10] S'):
    Qb E tC K [] [y0,.slice av vars.length cv,y2,y3,y4,.ptr (some (pA,0)),y6,y7,y8,y9,y10] S:=by
  have hvl:=h.vl
  have hnA:=h.nA
  have hA:=h.hA
  obtain⟨xa,aa,na,ka,ba,ma,da,va,kva,wa,kwa,cellsA,ea,_,hcA,hiA,_⟩:=hA
  injection ea with ea
  subst ea
  obtain⟨n1,o1,g1⟩:=Bs S (R 3 1 false [])
  have lv:=AI (P:=Tryz.prog) (t:=27) (o:=0+3) D6 ((o1.2 pA h.lA).trans h.gA) rfl
  have hd:=B9.row (n:=0) (s:=newObj S (R 3 1 false [])) (by omega:S.next<_) g1 rfl
  have hv1:=(h.hv.old o1 (zU _)).mono o1.1
  obtain⟨v2,s2,O2,happ2,Kh,hn2,hf2,hO2⟩:=QO (cap:=cv) hd hv1 (by omega) (by omega)
  have o02:Aa S.next S s2:=⟨by omega,fun j hj=>by rw[hf2 j (by omega) (by simp),o1.2 j hj]⟩
  have lv2:=AI (P:=Tryz.prog) (t:=27) (o:=0+3) D6 ((o02.2 pA h.lA).trans h.gA) rfl
  simp only[tC,M7,Xe,CE,lv,happ2,Qb,Qc,Qd,Qf,Qh,Qj,Qk,Qm,Qo,true_and,and_true,Qp,Qq,Qr,Qs,Qt,Qv,Yc,A1n,A1m,A1p]
  refine⟨Au (by simp only[Qk,Qr,Qs];exact lv2) (by simp only[Qk,Qr,Qs];exact A8 _ _ _),?_⟩
  obtain⟨v3,s3,O3,happ3,hd3,hn3,hf3,hO3⟩:=QO (cap:=kva) Kh ((hcA.old o02 (zU _)).mono o02.1) (by omega) (by omega)
  simp only[happ3,Qm]
  obtain⟨a',cap',rfl,hc'⟩:=hd3.cells
  have e:0+vars.length+vs1.length=(vars++vs1).length:=by rw[zg];omega
  rw[e]
  refine hK s3 a' cap' ⟨by omega,fun j hj=>?_⟩ ?_ (fun n hn=>?_) (by rw[zg];omega)
  · rw [hf3 j (by omega) (fun h' => ?_), o02.2 j hj]
    rcases hO2 j h' with h' | h'
    · simp at h'
    · omega
  · rw[A0o];simpa using hc'
  · rcases A1V.1             hn with hn | hn
    · exact h.iv' n hn
    · exact hiA n hn
theorem VB(hE:G7 E){va:AV}{C:Rat}{vs:List Int}{cs:List Rat}(ha:LI s va C vs cs 3)(hm:cs.length≤8)(hn:vs.length≤8){vars:List Int}{wals:List Rat}{av ac:Option (Nat×Nat)}{cv cc:Option Nat}{cells:List AV}(hv:AS s.next s av (vars.map iv))(hr:Cp s ac wals 3 cells)(hvl:vars.length≤1000000){K:AV→AE→Prop}
  (hK:∀S1 w1,Aa s.next s S1→(∀K2:AV→AE→Prop,(∀S2 w2,Aa S1.next S1 S2→(∀K3:AV→AE→Prop,(∀S3,Aa S2.next S2 S3→K3 (.bool true) S3)→WF E 12 [w1,w2] K3 S2)→K2 w2 S2)→WF E 14 [va,.slice av vars.length cv,.slice ac wals.length cc] K2 S1)→K w1 S1):
  WF E 13 [va,.slice av vars.length cv,.slice ac wals.length cc] K s:=by
 refine sc hE ha (by omega) hv hr (by omega) fun S1 w1 o1 h1 q1=>hK S1 w1 o1 fun K2 hK2=>?_
 refine uW hE.toGoodN (ha.old o1) (by omega) (by omega) ((hv.old o1 (zU _)).mono o1.1) (hr.old o1) hvl fun S2 w2 o2 h2 q2=>hK2 S2 w2 o2 fun K3 hK3=>?_
 exact KR hE.toGoodN ((h1.qc.qx q1 (by decide)).old o2) (h2.qx q2 (by decide)) hK3
end
theorem LA.shape2{s:AE}{v:AV}(h:LA s v):∃x a n c b m d av nv capv ac nc capc,v=.agg [.bool x,.slice a n c,.slice b m d,.slice av nv capv,.slice ac nc capc]:=by
 obtain⟨x,a,n,c,b,m,d,av,vs,capv,ac,nc,capc,cells,h1,h2⟩:=h
 exact⟨_,_,_,_,_,_,_,_,_,_,_,_,_,h1⟩
section
variable{E:CR}{s:AE}
theorem kJ(hE:G7 E){ca cb:List AV}(hA:LA s (.agg ca))(hB:LA s (.agg cb)){av:Option (Nat×Nat)}{cv:Option Nat}{vars0:List Int}(hv:AS s.next s av (vars0.map iv))(hvi:∀n∈vars0,i64 n)(hvz:EB 1 s av cv vars0.length){ac:Option (Nat×Nat)}{nc:Nat}{cc:Option Nat}{cells:List AV}(hr:Gy s ac nc cells)
  {K:AV→AE→Prop} (hK:∀s',Aa s.next s s'→K (.bool true) s'):WF E 3 [.agg (ca++cb),.slice av vars0.length cv,.slice ac nc cc] K s:=by
 obtain⟨xa,aa,na,ka,ba,ma,da,va,nva,kva,wa,nwa,kwa,ea⟩:=hA.shape2
 injection ea with ea
 obtain⟨xb,ab,nb,kb,bb,mb,db,vb,nvb,kvb,wb,nwb,kwb,eb⟩:=hB.shape2
 injection eb with eb
 subst ea;subst eb
 refine hE.go xA (by decide) rfl ?_
 obtain⟨n1,o1,g1⟩:=Bs s (R 31 0 false ([.bool xa,.slice aa na ka,.slice ba ma da,.slice va nva kva,.slice wa nwa kwa]++[.bool xb,.slice ab nb kb,.slice bb mb db,.slice vb nvb kvb,.slice wb nwb kwb]))
 simp only[c3,wM,wN,Xa,Xh,Xc,Qa,Qb,Qc,Qd,Qf,Qh,Qi,Qj,Qk,Ql,Qm,Qo,true_and,Qp,Qq,Qr,Qs,Qt,Qv,Rb,Rh,Rk,Rm,Rn,Yc,A1q,A1p,A1m,A1r,A1u,A1o]
 generalize newObj s _=s1 at *
 have l1:AB Tryz.prog s1 30 (.ptr (some (s.next,0+0)))=some (.agg [.bool xa,.slice aa na ka,.slice ba ma da,.slice va nva kva,.slice wa nwa kwa]):=Al (o:=0) (n:=5) D7 Do g1 (by simp)
 have l2:AB Tryz.prog s1 30 (.ptr (some (s.next,0+5)))=some (.agg [.bool xb,.slice ab nb kb,.slice bb mb db,.slice vb nvb kvb,.slice wb nwb kwb]):=Al (o:=5) (n:=5) D7 Do g1 (by simp)
 obtain⟨n3,o3,g3,g4⟩:=EK s1 ZL ZL
 simp only[fh,fi,l1,l2,ED,Xc,Ak,Qm]
 generalize newObj (newObj s1 ZL) ZL=s3 at *
 have o13:Aa s.next s s3:=o1.trans (o3.mono o1.1)
 refine fT hE.toGoodN o13 hA fun s4 w4 C1 vs1 cs1 o4 hw4 nA mA=>?_
 have o14:Aa s.next s s4:=o13.trans (o4.mono o13.1)
 have l2':AB Tryz.prog s4 30 (.ptr (some (s.next,0+5)))=some (.agg [.bool xb,.slice ab nb kb,.slice bb mb db,.slice vb nvb kvb,.slice wb nwb kwb]):=Al (o:=5) (n:=5) D7 Do ((o4.2 s.next (by omega)).trans ((o3.2 s.next (by omega)).trans g1)) (by simp)
 refine⟨⟨Au (by simp only[Qk,Qr,Qs];exact l2') (DR ..),trivial⟩,?_⟩
 simp only[Qr,Qs]
 refine fT hE.toGoodN o14 hB fun s5 w5 C2 vs2 cs2 o5 hw5 nB mB=>?_
 have hw4':=hw4 s4 (zU _) fun _ _ _=>rfl
 have hw5':=hw5 s5 (zU _) fun _ _ _=>rfl
 obtain⟨x4,a4,m4,c4,b4,l4,d4,av4,nv4,cv4,ac4,nc4,cc4,rfl⟩:=hw4'.shape
 obtain⟨x5,a5,m5,c5,b5,l5,d5,av5,nv5,cv5,ac5,nc5,cc5,rfl⟩:=hw5'.shape
 have hs4:=o4.1
 have hs5:=o5.1
 have o35:Aa s3.next s3 s5:=o4.trans (o5.mono o4.1)
 obtain⟨st6,_⟩:=Bz (cs0:=[.bool false,.slice none 0 (some 0),.slice none 0 (some 0),.slice none 0 (some 0),.slice none 0 (some 0)]) rfl (x:=x4) (a:=a4) (n:=m4) (c:=c4) (b:=b4) (m:=l4) (d:=d4) (av:=av4) (nv:=nv4) (cv:=cv4) (ac:=ac4) (nc:=nc4) (cc:=cc4) ((o35.2 s1.next (by omega)).trans g3)
 generalize hs6:setObj s5 s1.next (BL x4 (.slice a4 m4 c4) (.slice b4 l4 d4) (.slice av4 nv4 cv4) (.slice ac4 nc4 cc4))=s6 at st6
 have g6:s6.heap.get s1.next=some (BL x4 (.slice a4 m4 c4) (.slice b4 l4 d4) (.slice av4 nv4 cv4) (.slice ac4 nc4 cc4)):=by rw[← hs6,Ww]
 have f6:∀j,j≠s1.next→s6.heap.get j=s5.heap.get j:=fun j hj=>by rw[← hs6,Wx _ hj]
 have n6:s6.next=s5.next:=by rw[← hs6];rfl
 obtain⟨st7,_⟩:=Bz (cs0:=[.bool false,.slice none 0 (some 0),.slice none 0 (some 0),.slice none 0 (some 0),.slice none 0 (some 0)]) rfl (x:=x5) (a:=a5) (n:=m5) (c:=c5) (b:=b5) (m:=l5) (d:=d5) (av:=av5) (nv:=nv5) (cv:=cv5) (ac:=ac5) (nc:=nc5) (cc:=cc5) ((f6 (s1.next+1) (by omega)).trans ((o35.2 (s1.next+1) (by omega)).trans g4))
 generalize hs7:setObj s6 (s1.next+1) (BL x5 (.slice a5 m5 c5) (.slice b5 l5 d5) (.slice av5 nv5 cv5) (.slice ac5 nc5 cc5))=s7 at st7
 have g7B:s7.heap.get (s1.next+1)=some (BL x5 (.slice a5 m5 c5) (.slice b5 l5 d5) (.slice av5 nv5 cv5) (.slice ac5 nc5 cc5)):=by rw[← hs7,Ww]
 have f7:∀j,j≠s1.next+1→s7.heap.get j=s6.heap.get j:=fun j hj=>by rw[← hs7,Wx _ hj]
 have g7A:=(f7 s1.next (by omega)).trans g6
 have n7:s7.next=s6.next:=by rw[← hs7];rfl
 have hs3:=o3.1
 have f57:∀j,j≠s1.next→j≠s1.next+1→s7.heap.get j=s5.heap.get j:=fun j h1 h2=>by rw[f7 j h2,f6 j h1]
 have hw4s:=hw4 s7 (by omega) fun j hj h=>by rw[f57 j (by omega) (by omega),o5.2 j hj]
 have hw5s:=hw5 s7 (by omega) fun j hj h=>f57 j (by omega) (by omega)
 simp only[st6,st7,Xy,Za,Qd,Qm,Qo,true_and,Qr,Qs]
 have o07:Aa s.next s s7:=⟨by omega,fun j hj=>by rw[f7 j (by omega),f6 j (by omega),o5.2 j (by omega),o14.2 j hj]⟩
 have cut:=Kf Tryz.underlying27 Jm (by decide) (hvz.old o07) (show min vars0.length 8≤vars0.length by omega)
 have mm:Ch false (iv (vars0.length:Int)) [.int .i64 8]=some (iv ((min vars0.length 8:Nat):Int)):=KH vars0.length 8
 simp only[wO,AH Tryz.underlying27,mm,cut,Qb,Qc,Qd,Qf,Qh,Qi,Qj,Qk,Qm,Qo,true_and,Qr,Qs,Qt,Qv,A1t,A1s,A1p]
 refine kq hE.toGoodN o07 hr fun s8 a8 cap8 wals cells8 o8 hr8 hz8 hwl=>?_
 have cut8:=Kf Tryz.underlying27 Jm (by decide) (hvz.old (o07.trans (o8.mono o07.1))) (show min vars0.length 8≤vars0.length by omega)
 refine⟨⟨?_,?_,trivial⟩,?_⟩
 ·simp only[Ff,cut8,Ao,A8,Qh,Qk,Qr,Qs]
 ·simp only[Ff,AH Tryz.underlying27,Ao,MF,Qh,Qk,Qr,Qs]
 have hlen:(vars0.take 8).length=min vars0.length 8:=by rw[zo];omega
 rw[← hlen]
 have o08:Aa s.next s s8:=o07.trans (o8.mono o07.1)
 have hv8:AS s8.next s8 av ((vars0.take 8).map iv):=by
  rw[A0z]
  exact Gd ((hv.old o08 (zU _)).mono o08.1) 8
 have hv8i:∀n∈vars0.take 8,i64 n:=fun n hn=>hvi n (List.take_subset _ _ hn)
 have hvl:(vars0.take 8).length≤8:=by omega
 generalize vars0.take 8=vars at hv8 hv8i hvl
 have h8:=o8.1
 have hPu:Pu s8 s1.next (s1.next+1) _ _ C1 vs1 cs1 C2 vs2 cs2 vars wals av a8 cells8:=
  ⟨(o8.2 s1.next (by omega)).trans g7A,(o8.2 (s1.next+1) (by omega)).trans g7B,by omega,by omega,hw4s.old o8,hw5s.old o8,mA,nA,mB,nB,hv8,hv8i,hvl,hr8,hwl⟩
 simp only[Qp,Qq,Qr,Qs]
 refine gY hE hPu fun s9 a9 cap9 o9 hall hall64 hall16=>?_
 have hPu9:=hPu.old o9
 simp only[wP,Qb,Qc,Qd,Qf,Qh,Qi,Qm,Qo,true_and,Qp,Qq,Qt,Qv,A1p]
 refine Xk hE hPu9 hall hall64 hall16 (fun s10 y8 y9 y10 o10=>?_) (vars++vs1).length 0 s9 _ _ rfl (ze _) (Aa.refl _ _)
 have hP10:=hPu9.old o10
 have hL10:=hP10.hA
 obtain⟨x4',a4',m4',c4',b4',l4',d4',av4',cv4',ac4',cc4',cells4,e4,_,hvc,_,_,_,_⟩:=hL10
 injection e4 with e4
 injection e4 with _ e4
 injection e4 with _ e4
 injection e4 with _ e4
 injection e4 with e4 _
 injection e4 with e41 e42 e43
 subst e41;subst e42;subst e43
 have A:∀S,Aa s10.next s10 S→AB Tryz.prog S 30 (.ptr (some (s1.next,0)))=some (.agg [.bool x4,.slice a4 m4 c4,.slice b4 l4 d4,.slice av4 vs1.length cv4,.slice ac4 nc4 cc4]):=fun S o=>AK (P:=Tryz.prog) (t:=30) D7 Do ((o.2 s1.next hP10.lA).trans hP10.gA) rfl
 have V:∀S,Aa s10.next s10 S→AB Tryz.prog S 27 (.ptr (some (s1.next,0+3)))=some (.slice av4 vs1.length cv4):=fun S o=>AI (o:=0+3) D6 ((o.2 s1.next hP10.lA).trans hP10.gA) rfl
 have hvl2:=hP10.vl
 simp only[if_true,nO,A s10 (Aa.refl _ _),Qb,Qc,Qd,Qf,Qg,Qh,Qi,Qj,Qk,Qm,Qo,true_and,Qr,Qs,Qt,Qv,Qw,Rb,Rd,Rg,Rj,Ru,Rw,A1m,A1u,A1p]
 refine VB hE hP10.hA hP10.mA hP10.nA hP10.hv hP10.hr (by omega) fun s11 w11 o11 h11=>?_
 refine⟨⟨Au (by simp only[Qj,Qk,Qr,Qs];exact A s11 o11) (DR ..),trivial⟩,?_⟩
 simp only[Qr,Qs]
 refine h11 _ fun s12 w12 o12 h12=>?_
 simp only[Qd,Qo,true_and,Qr,Qs]
 refine h12 _ fun s13 o13'=>?_
 have o1013:Aa s10.next s10 s13:=(o11.trans (o12.mono o11.1)).trans (o13'.mono (zY o11.1 o12.1))
 have hP13:=hP10.old o1013
 have hnA2:=hP13.nA
 simp only[A s13 o1013,V s13 o1013,CE,Qc,Qd,Qm,Qo,true_and,Qr,Qs,Qt,Qx,Rs]
 refine VB hE hP13.hA hP13.mA hP13.nA ((hvc.old o1013 (zU _)).mono o1013.1) hP13.hr (by omega) fun s14 w14 o14' h14=>?_
 have o1014:=o1013.trans (o14'.mono o1013.1)
 refine⟨⟨QM (by simp only[Qk,Qr,Qs];exact V s14 o1014) (by simp only[Qk,Qr,Qs];exact A8 _ _ _),QM (by simp only[Qj,Qk,Qr,Qs];exact A s14 o1014) (DR ..),trivial⟩,?_⟩
 simp only[Qc,Qr,Qs,Qt,Qx,Rs]
 refine h14 _ fun s15 w15 o15 h15=>?_
 simp only[Qc,Qd,Qo,true_and,Qr,Qs,Qt,Qx,Rs]
 refine h15 _ fun s16 o16=>?_
 simp only[Qc,Qd,Qm,Qo,true_and,Qr,Qs,Qt,Qx,Rs]
 refine WF.nat (hE.wk s16) ?_
 simp only[Qd,Qm,Qo,true_and,Qp,Qq,Qr,Qs]
 have o1016:=(o1014.trans (o15.mono o1014.1)).trans (o16.mono (zY o1014.1 o15.1))
 have o010:=(o08.trans (o9.mono o08.1)).trans (o10.mono (zY o08.1 o9.1))
 exact hK s16 (o010.trans (o1016.mono o010.1))
end
section
variable{H:Type}{enc:TypeId×Value→H}{W:World}{base:Nat}
theorem puts4_true{v0 v1 v2:Value}(h0:Value.okWide Tryz.prog W .any base 31 v0)(h1:Value.okWide Tryz.prog W .any base 27 v1)(h2:Value.okWide Tryz.prog W .any base 28 v2)
  {d0 d1 d2:DataW H} {p0 p1 p2:List MemPlace} (t0:DataW.Trod enc Tryz.prog W 0 (fun _=>true) true 31 v0 d0 p0) (t1:DataW.Trod enc Tryz.prog W 0 (fun _=>true) true 27 v1 d1 p1) (t2:DataW.Trod enc Tryz.prog W 0 (fun _=>true) true 28 v2 d2 p2):
  Calls Tryz.prog 3 #[v0,v1,v2] W fun e W'=>e=.returned (.bool true)∧Oh W W':=by
 obtain⟨n0,t0⟩:=t0
 obtain⟨n1,t1⟩:=t1
 obtain⟨n2,t2⟩:=t2
 obtain⟨ρ1,s1,ca,cb,g1,g2,g3,g4,gA,gB⟩:=RT t0 (fun a ha=>iU Tryz.underlying31 h0 a ha) (xF Tryz.prog W)
 obtain⟨ρ2,s2,us1,l1,k1,k2,k3,k4,k5⟩:=Ek gO Tryz.underlying27 zT (by decide) (fun _ n cs y h _=>Nv n cs y h) t1 (fun a ha=>Sn Tryz.underlying27 h1 a ha) g1
 obtain⟨ρ3,s3,us2,l2,m1,m2,m3,m4,m5⟩:=Ek gP Tryz.underlying28 xR (by decide) (fun hpos n cs y h _ ρ s hd=>J4 h (fun _ _=>hpos) hd) t2 (fun a ha=>Sn Tryz.underlying28 h2 a ha) k1
 obtain⟨av,capv,rfl,z1,z2,z3⟩:=ints_at k5
 obtain⟨ac,capc,cells,rfl,hra⟩:=WP m5
 have o13:Aa s1.next s1 s3:=k3.trans (m3.mono k3.1)
 have h13:=BU.le_trans k2 m2
 exact W8 m1 (.cons (iV Tryz.underlying31 h0 (g4.mono h13)) (.cons (U9 Tryz.underlying27 h1 (k4.mono m2)) (.cons (U9 Tryz.underlying28 h2 m4) .nil)))
  (kJ xG (gA.old o13) (gB.old o13) ((z2.old m3 (zU _)).mono m3.1) z3 (z1.old m3) hra fun _ _=>rfl)
end
end
end Go.Proofs.YtjnkfbpadpmakaaGreatDoor.Am
