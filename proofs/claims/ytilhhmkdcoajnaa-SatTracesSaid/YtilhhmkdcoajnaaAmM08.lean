/- The solver's functions Grow and New; printed by a program of ours (dev/sat8.py); conditions: sizes fit. -/
import Derived.Test.YtilhhmkdcoajnaaAmM07
import Derived.Test.YtilhhmkdcoajnaaAmM05
set_option linter.unusedVariables false
set_option linter.unusedSimpArgs false
set_option maxRecDepth 16000
namespace Go.Proofs.Ytilhhmkdcoajnaa.Am
open Go Go.Proofs
noncomputable section
def Px(v:Sv):Sv:={ v with watches:=v.watches++[[],[]],value:=v.value++[0],level:=v.level++[0],why:=v.why++[none],heat:=v.heat++[0],phase:=v.phase++[-1] }
def Uo:Nat→Sv→Sv
 | 0,v=>v
 | k+1,v=>Uo k (Px v)
def Up(v:Sv)(n:Nat):Sv:=Uo (n+1 - v.value.length) v
theorem nN:Ae Try.prog 88 2 (zipIdx [0,1] [.slice none 0 (some 0),.slice none 0 (some 0)])=some (AO 89 1 [.slice none 0 (some 0),.slice none 0 (some 0)]):=by
 simp[Ae,Try.underlying88,I6,AI,oO,zipIdx,Dp,AV.cells,Jx]
 rfl
theorem DM.put{ow:Ow}{s:AF}{p k:Nat}{cs:List AV}(h:DM s p cs)(ht:ow p=(p,0,0))(hk:k<cs.length){t:TypeId}(hs:BC Try.prog t=some 1){d:AV}(h1:d.isCell=true)(h2:d.cells=[d]):
  ∃s',AM Try.prog s t (.ptr (some (p,k))) d=some s'∧DM s' p (cs.set k d)∧AH (· = (p,0,0)) ow s ow s'∧s'.next=s.next:=by
 obtain⟨s',g1,g2,g3,g4⟩:=h.store (k:=k) (d:=d) hk hs h1 h2
 exact⟨s',g1,g2,⟨by omega,fun _ _ _=>rfl,fun y _ hm=>g4 y fun e=>hm (by rw[e];exact ht)⟩,g3⟩
theorem Ah.push_w{ow:Ow}{s:AF}{p:Nat}{x:Sf}{v:Sv}(h:Ah ow s p x v)(hl:v.watches.length≤1000000000){q:Nat}{ty sz':Nat}(hq:s.heap.get q=some (AO ty sz' [.slice none 0 (some 0),.slice none 0 (some 0)])):
  ∃u s' s'' ow',Af Try.prog s [88,88] [x.w,.slice (some (q,0)) 2 (some 2)]=some (u,s')∧AM Try.prog s' 88 (.ptr (some (p,0))) u=some s''∧Ah ow' s'' p { x with w:=u } { v with watches:=v.watches++[[],[]] }∧AH (Bb p) ow s ow' s'':=by
 obtain⟨us,w1,w2,w3⟩:=h.w
 have src:=GY (P:=Try.prog) (e:=89) (s:=s) (n:=2) (cap:=some 2) (sz:=1) ty sz' hq rfl
 obtain⟨u,s',ow',g1,g2,g3⟩:=w2.pushN (st:=88) (e:=89) Try.underlying88 I6 ou (by decide) oK mm (by omega) (add:=[.slice none 0 (some 0),.slice none 0 (some 0)]) (by decide) (by decide) rfl src ⟨_,_,rfl⟩
 have hm1:∀a i,a≠1→¬ ((p,a,i):Bh)=(p,1,0):=fun a i ha=>CM ha
 have hl:=h.lt
 have hn:=g3.next
 have hb:DM s' p (Dd x v):=h.box.step g3 h.tag h.lt (hm1 0 0 (by decide))
 have ht:ow' p=(p,0,0):=by rw[g3.tags p h.lt (by rw[h.tag];exact hm1 0 0 (by decide))];exact h.tag
 obtain⟨s'',k1,k2,k3,k4⟩:=hb.put ht (k:=0) (d:=u) (by simp) (t:=88) mg g2.isCell.1 g2.isCell.2
 have hm0:∀a i,a≠0→¬ ((p,a,i):Bh)=(p,0,0):=fun a i ha=>CM ha
 have st:AH (fun t=>t=(p,1,0)∨t=(p,0,0)) ow s ow' s'':=(g3.mono fun t ht=>.inl ht).trans (k3.mono fun t ht=>.inr ht)
 have hm:∀a i,a ∉ [0,1]→¬ (((p,a,i):Bh)=(p,1,0)∨((p,a,i):Bh)=(p,0,0)):=fun a i ha=>by
  rintro(e | e)
  ·exact CM (fun q=>ha (by rw[q];decide)) e
  ·exact CM (fun q=>ha (by rw[q];decide)) e
 refine⟨u,s',s'',ow',g1,k1,{ box:=k2,tag:=ht,lt:=by omega,w:=?_,learned:=h.learned.step st (hm 3 0 (by decide)),value:=h.value.step st (hm 4 0 (by decide)),level:=h.level.step st (hm 5 0 (by decide)),why:=h.why.step st (hm 6 0 (by decide)),heat:=h.heat.step st (hm 7 0 (by decide)),phase:=h.phase.step st (hm 8 0 (by decide)),trail:=h.trail.step st (hm 9 0 (by decide)),limits:=h.limits.step st (hm 10 0 (by decide)),model:=h.model.step st (hm 11 0 (by decide)),trace:=h.trace.step st (hm 12 0 (by decide)) (hm 13 0 (by decide)),cls:=fun c l hc=>(h.cls c l hc).step st (hm 14 c (by decide)) (hm 15 c (by decide)) },st.mono fun t ht=>by rcases ht with e | e<;>rw[e]<;>rfl⟩
 refine⟨us++[.slice none 0 (some 0),.slice none 0 (some 0)],by rw[qM,qM,w1];rfl,g2.step k3 (hm0 1 0 (by decide)),fun j L hj=>?_⟩
 rcases If hj with⟨j1,j2⟩ | ⟨j1,j2⟩
 ·obtain⟨u',r1,r2⟩:=w3 j L j2
  exact⟨u',by rw[qX (by omega)];exact r1,(r2.step st (hm 2 j (by decide)))⟩
 ·have e:L=[]:=by
   have:=qL j2
   simpa using this
  subst e
  refine⟨.slice none 0 (some 0),?_,Bc.nil _ _ _⟩
  rw[qY (by omega),w1]
  have:=Ag j2
  generalize hz:j - v.watches.length=z at *
  match z,this with
  | 0,_=>rfl
  | 1,_=>rfl
theorem Ah.push_vlw{ow:Ow}{s:AF}{p:Nat}{x:Sf}{v:Sv}(h:Ah ow s p x v)(hl1:v.value.length≤1000000000)(hl2:v.level.length≤1000000000)(hl3:v.why.length≤1000000000){q1 q2 q3:Nat}(hq1:s.heap.get q1=some (AO 3 1 [iv 0]))(hq2:s.heap.get q2=some (AO 3 1 [iv 0]))(hq3:s.heap.get q3=some (AO 92 1 [.ptr none]))(t2:ow q2=(0,0,0)∧q2<s.next)(t3:ow q3=(0,0,0)∧q3<s.next):
  ∃u1 u2 u3 s1 s2 s3 s4 s5 s6 ow',Af Try.prog s [23,23] [x.val,.slice (some (q1,0)) 1 (some 1)]=some (u1,s1)∧Af Try.prog s1 [23,23] [x.lev,.slice (some (q2,0)) 1 (some 1)]=some (u2,s2)∧Af Try.prog s2 [89,89] [x.why,.slice (some (q3,0)) 1 (some 1)]=some (u3,s3) ∧
   AM Try.prog s3 23 (.ptr (some (p,2))) u1=some s4∧AM Try.prog s4 23 (.ptr (some (p,3))) u2=some s5∧AM Try.prog s5 89 (.ptr (some (p,4))) u3=some s6 ∧
   Ah ow' s6 p { x with val:=u1,lev:=u2,why:=u3 } { v with value:=v.value++[0],level:=v.level++[0],why:=v.why++[none] }∧AH (Bb p) ow s ow' s6 ∧
   (∀t a,AD Try.prog s t (.ptr (some (p,a)))=AD Try.prog s1 t (.ptr (some (p,a)))∧AD Try.prog s t (.ptr (some (p,a)))=AD Try.prog s2 t (.ptr (some (p,a)))):=by
 have hlt:=h.lt
 have z0:∀a,a≠0→¬ ((0,0,0):Bh)=(p,a,0):=fun a ha e=>by
  injection e with _ e
  injection e with e _
  exact ha e.symm
 obtain⟨u1,s1,ow1,a1,a2,a3⟩:=h.value.push (st:=23) (e:=3) Try.underlying23 Bt W0 (by decide) Mf JA (by rw[qK];exact hl1) (x:=iv 0) rfl hq1
 have n1:=a3.next
 have r2:s1.heap.get q2=some (AO 3 1 [iv 0]):=(a3.heap q2 t2.2 (by rw[t2.1];exact z0 4 (by decide))).trans hq2
 obtain⟨u2,s2,ow2,b1,b2,b3⟩:=(h.level.step a3 (CM (by decide))).push (st:=23) (e:=3) Try.underlying23 Bt W0 (by decide) Mf JA (by rw[qK];exact hl2) (x:=iv 0) rfl r2
 have n2:=b3.next
 have r3:s2.heap.get q3=some (AO 92 1 [.ptr none]):=by
  have e:=a3.heap q3 t3.2 (by rw[t3.1];exact z0 4 (by decide))
  have o:=a3.tags q3 t3.2 (by rw[t3.1];exact z0 4 (by decide))
  exact((b3.heap q3 (by omega) (by rw[o,t3.1];exact z0 5 (by decide))).trans e).trans hq3
 obtain⟨u3,s3,ow3,c1,c2,c3⟩:=((h.why.step a3 (CM (by decide))).step b3 (CM (by decide))).push (st:=89) (e:=92) Try.underlying89 E5 W1 (by decide) RE UD (by rw[qK];exact hl3) (x:=.ptr none) rfl r3
 have n3:=c3.next
 have stA:AH (fun t=>t=(p,4,0)∨t=(p,5,0)∨t=(p,6,0)) ow s ow3 s3:=((a3.mono fun t ht=>.inl ht).trans (b3.mono fun t ht=>.inr (.inl ht))).trans (c3.mono fun t ht=>.inr (.inr ht))
 have hm3:∀a i,a ∉ [4,5,6]→¬ (((p,a,i):Bh)=(p,4,0)∨((p,a,i):Bh)=(p,5,0)∨((p,a,i):Bh)=(p,6,0)):=fun a i ha=>by
  rintro(e | e | e)
  ·exact CM (fun q=>ha (by rw[q];decide)) e
  ·exact CM (fun q=>ha (by rw[q];decide)) e
  ·exact CM (fun q=>ha (by rw[q];decide)) e
 have hb:DM s3 p (Dd x v):=h.box.step stA h.tag h.lt (hm3 0 0 (by decide))
 have ht:ow3 p=(p,0,0):=by rw[stA.tags p h.lt (by rw[h.tag];exact hm3 0 0 (by decide))];exact h.tag
 obtain⟨s4,d1,d2,d3,d4⟩:=hb.put ht (k:=2) (d:=u1) (by simp) (t:=23) CL a2.isCell.1 a2.isCell.2
 obtain⟨s5,e1,e2,e3,e4⟩:=d2.put ht (k:=3) (d:=u2) (by simp) (t:=23) CL b2.isCell.1 b2.isCell.2
 obtain⟨s6,f1,f2,f3,f4⟩:=e2.put ht (k:=4) (d:=u3) (by simp) (t:=89) I6 c2.isCell.1 c2.isCell.2
 have stB:AH (· = (p,0,0)) ow3 s3 ow3 s6:=(d3.trans e3).trans f3
 have hm0:∀a i,a≠0→¬ ((p,a,i):Bh)=(p,0,0):=fun a i ha=>CM ha
 have st:AH (fun t=>(t=(p,4,0)∨t=(p,5,0)∨t=(p,6,0))∨t=(p,0,0)) ow s ow3 s6:=(stA.mono fun t ht=>.inl ht).trans (stB.mono fun t ht=>.inr ht)
 have hm:∀a i,a ∉ [0,4,5,6]→¬ ((((p,a,i):Bh)=(p,4,0)∨((p,a,i):Bh)=(p,5,0)∨((p,a,i):Bh)=(p,6,0))∨((p,a,i):Bh)=(p,0,0)):=fun a i ha=>by
  rintro(e | e)
  ·exact hm3 a i (fun q=>ha (qS _ q)) e
  ·exact CM (fun q=>ha (by rw[q];decide)) e
 refine⟨u1,u2,u3,s1,s2,s3,s4,s5,s6,ow3,a1,b1,c1,d1,e1,f1,{ box:=f2,tag:=ht,lt:=by omega,w:=h.w.step st (hm 1 0 (by decide)) (fun j=>hm 2 j (by decide)),learned:=h.learned.step st (hm 3 0 (by decide)),value:=by show Bc ow3 (p,4,0) s6 u1 (List.map iv (v.value++[0]));rw[qx];exact((a2.step b3 (CM (by decide))).step c3 (CM (by decide))).step stB (hm0 4 0 (by decide)),level:=by show Bc ow3 (p,5,0) s6 u2 (List.map iv (v.level++[0]));rw[qx];exact(b2.step c3 (CM (by decide))).step stB (hm0 5 0 (by decide)),why:=by show Bc ow3 (p,6,0) s6 u3 (List.map HN (v.why++[none]));rw[qx];exact c2.step stB (hm0 6 0 (by decide)),heat:=h.heat.step st (hm 7 0 (by decide)),phase:=h.phase.step st (hm 8 0 (by decide)),trail:=h.trail.step st (hm 9 0 (by decide)),limits:=h.limits.step st (hm 10 0 (by decide)),model:=h.model.step st (hm 11 0 (by decide)),trace:=h.trace.step st (hm 12 0 (by decide)) (hm 13 0 (by decide)),cls:=fun c l hc=>(h.cls c l hc).step st (hm 14 c (by decide)) (hm 15 c (by decide)) },st.mono fun t ht=>by rcases ht with(e | e | e) | e<;>rw[e]<;>rfl,fun t a=>⟨(D4 (a3.heap p hlt (by rw[h.tag];exact CM (by decide)))).symm,?_⟩⟩
 ·have o:=a3.tags p hlt (by rw[h.tag];exact CM (by decide))
  rw[D4 (b3.heap p (by omega) (by rw[o,h.tag];exact CM (by decide)))]
  exact(D4 (a3.heap p hlt (by rw[h.tag];exact CM (by decide)))).symm
theorem Ah.push_hp{ow:Ow}{s:AF}{p:Nat}{x:Sf}{v:Sv}(h:Ah ow s p x v)(hl1:v.heat.length≤1000000000)(hl2:v.phase.length≤1000000000){q1 q2:Nat}(hq1:s.heap.get q1=some (AO 3 1 [iv 0]))(hq2:s.heap.get q2=some (AO 3 1 [iv (-1)]))(t2:ow q2=(0,0,0)∧q2<s.next):
  ∃u1 u2 s1 s2 s3 s4 ow',Af Try.prog s [23,23] [x.heat,.slice (some (q1,0)) 1 (some 1)]=some (u1,s1)∧Af Try.prog s1 [23,23] [x.ph,.slice (some (q2,0)) 1 (some 1)]=some (u2,s2) ∧
   AM Try.prog s2 23 (.ptr (some (p,5))) u1=some s3∧AM Try.prog s3 23 (.ptr (some (p,6))) u2=some s4 ∧
   Ah ow' s4 p { x with heat:=u1,ph:=u2 } { v with heat:=v.heat++[0],phase:=v.phase++[-1] }∧AH (Bb p) ow s ow' s4 ∧
   (∀t a,AD Try.prog s t (.ptr (some (p,a)))=AD Try.prog s1 t (.ptr (some (p,a)))):=by
 have hlt:=h.lt
 have z0:∀a,a≠0→¬ ((0,0,0):Bh)=(p,a,0):=fun a ha e=>by
  injection e with _ e
  injection e with e _
  exact ha e.symm
 obtain⟨u1,s1,ow1,a1,a2,a3⟩:=h.heat.push (st:=23) (e:=3) Try.underlying23 Bt W0 (by decide) Mf JA (by rw[qK];exact hl1) (x:=iv 0) rfl hq1
 have n1:=a3.next
 have r2:s1.heap.get q2=some (AO 3 1 [iv (-1)]):=(a3.heap q2 t2.2 (by rw[t2.1];exact z0 7 (by decide))).trans hq2
 obtain⟨u2,s2,ow2,b1,b2,b3⟩:=(h.phase.step a3 (CM (by decide))).push (st:=23) (e:=3) Try.underlying23 Bt W0 (by decide) Mf JA (by rw[qK];exact hl2) (x:=iv (-1)) rfl r2
 have n2:=b3.next
 have stA:AH (fun t=>t=(p,7,0)∨t=(p,8,0)) ow s ow2 s2:=(a3.mono fun t ht=>.inl ht).trans (b3.mono fun t ht=>.inr ht)
 have hm3:∀a i,a ∉ [7,8]→¬ (((p,a,i):Bh)=(p,7,0)∨((p,a,i):Bh)=(p,8,0)):=fun a i ha=>by
  rintro(e | e)
  ·exact CM (fun q=>ha (by rw[q];decide)) e
  ·exact CM (fun q=>ha (by rw[q];decide)) e
 have hb:DM s2 p (Dd x v):=h.box.step stA h.tag h.lt (hm3 0 0 (by decide))
 have ht:ow2 p=(p,0,0):=by rw[stA.tags p h.lt (by rw[h.tag];exact hm3 0 0 (by decide))];exact h.tag
 obtain⟨s3,d1,d2,d3,d4⟩:=hb.put ht (k:=5) (d:=u1) (by simp) (t:=23) CL a2.isCell.1 a2.isCell.2
 obtain⟨s4,e1,e2,e3,e4⟩:=d2.put ht (k:=6) (d:=u2) (by simp) (t:=23) CL b2.isCell.1 b2.isCell.2
 have stB:AH (· = (p,0,0)) ow2 s2 ow2 s4:=d3.trans e3
 have hm0:∀a i,a≠0→¬ ((p,a,i):Bh)=(p,0,0):=fun a i ha=>CM ha
 have st:AH (fun t=>(t=(p,7,0)∨t=(p,8,0))∨t=(p,0,0)) ow s ow2 s4:=(stA.mono fun t ht=>.inl ht).trans (stB.mono fun t ht=>.inr ht)
 have hm:∀a i,a ∉ [0,7,8]→¬ ((((p,a,i):Bh)=(p,7,0)∨((p,a,i):Bh)=(p,8,0))∨((p,a,i):Bh)=(p,0,0)):=fun a i ha=>by
  rintro(e | e)
  ·exact hm3 a i (fun q=>ha (qS _ q)) e
  ·exact CM (fun q=>ha (by rw[q];decide)) e
 exact⟨u1,u2,s1,s2,s3,s4,ow2,a1,b1,d1,e1,{ box:=e2,tag:=ht,lt:=by omega,w:=h.w.step st (hm 1 0 (by decide)) (fun j=>hm 2 j (by decide)),learned:=h.learned.step st (hm 3 0 (by decide)),value:=h.value.step st (hm 4 0 (by decide)),level:=h.level.step st (hm 5 0 (by decide)),why:=h.why.step st (hm 6 0 (by decide)),heat:=by show Bc ow2 (p,7,0) s4 u1 (List.map iv (v.heat++[0]));rw[qx];exact(a2.step b3 (CM (by decide))).step stB (hm0 7 0 (by decide)),phase:=by show Bc ow2 (p,8,0) s4 u2 (List.map iv (v.phase++[-1]));rw[qx];exact b2.step stB (hm0 8 0 (by decide)),trail:=h.trail.step st (hm 9 0 (by decide)),limits:=h.limits.step st (hm 10 0 (by decide)),model:=h.model.step st (hm 11 0 (by decide)),trace:=h.trace.step st (hm 12 0 (by decide)) (hm 13 0 (by decide)),cls:=fun c l hc=>(h.cls c l hc).step st (hm 14 c (by decide)) (hm 15 c (by decide)) },st.mono fun t ht=>by rcases ht with(e | e) | e<;>rw[e]<;>rfl,fun t a=>(D4 (a3.heap p hlt (by rw[h.tag];exact CM (by decide)))).symm⟩
def mp(B:Nat)(v:Sv):Prop:=v.watches.length≤2 * B∧v.value.length≤B∧v.level.length≤B∧v.why.length≤B∧v.heat.length≤B∧v.phase.length≤B
theorem mp.one{B:Nat}{v:Sv}(h:mp B v):mp (B+1) (Px v):=by
 obtain⟨h1,h2,h3,h4,h5,h6⟩:=h
 refine⟨?_,?_,?_,?_,?_,?_⟩<;>simp[Px]<;>omega
theorem eD{E:BN}{K:List AV→AF→Prop}{ow:Ow}{s:AF}{p:Nat}{x:Sf}{v:Sv}(h:Ah ow s p x v)(hl:v.watches.length≤1000000000)(x1 x2 x3:AV)
  (hK:∀s' ow' u,Ah ow' s' p { x with w:=u } { v with watches:=v.watches++[[],[]] }→AH (Bb p) ow s ow' s'→K [AV.ptr (some (p,0)),x1,x2,x3] s'):Qb E Yt K [] [AV.ptr (some (p,0)),x1,x2,x3] s:=by
 have hms:∀ (m:Nat) (i:Nat),Made.val i (.slice m)=.slice (some (i,0)) m (some m):=fun _ _=>rfl
 have st:AH (fun _=>False) ow s (ext ow s.next (0,0,0)) (newObj s (AO 89 1 [.slice none 0 (some 0),.slice none 0 (some 0)])):=AH.new _ ow s _ _
 have h1:=h.keep st (fun _ q=>q.elim)
 obtain⟨u,s1,s2,ow',g1,g2,g3,g4⟩:=h1.push_w hl (q:=s.next) (ty:=89) (sz':=1) (by rw[AQ,if_pos rfl])
 simp only[Yt,AG,Lm,h.ld_w,nN,hms,g1,BV,g2,AU,Qb,Qc,Qd,Qf,Qh,Qi,Qj,Qk,Qm,Qn,true_and,Qq,Qr,Qs,Yc]
 exact hK s2 ow' u g3 ((st.mono fun _ q=>q.elim).trans g4)
theorem eE{E:BN}{K:List AV→AF→Prop}{ow:Ow}{s:AF}{p:Nat}{x:Sf}{v:Sv}(h:Ah ow s p x v)(hl1:v.value.length≤1000000000)(hl2:v.level.length≤1000000000)(hl3:v.why.length≤1000000000)(x1 x2 x3:AV)
  (hK:∀s' ow' u1 u2 u3,Ah ow' s' p { x with val:=u1,lev:=u2,why:=u3 } { v with value:=v.value++[0],level:=v.level++[0],why:=v.why++[none] }→AH (Bb p) ow s ow' s'→K [AV.ptr (some (p,0)),x1,x2,x3] s'):Qb E Yu K [] [AV.ptr (some (p,0)),x1,x2,x3] s:=by
 have hms:∀ (m:Nat) (i:Nat),Made.val i (.slice m)=.slice (some (i,0)) m (some m):=fun _ _=>rfl
 have b3:=Ck (P:=Try.prog) (t:=23) (v:=iv 0) Try.underlying23 Bt RN rfl rfl
 have b92:=Ck (P:=Try.prog) (t:=89) (v:=.ptr none) Try.underlying89 E5 UE rfl rfl
 generalize e1:newObj s (AO 3 1 [iv 0])=s1
 have n1:s1.next=s.next+1:=by rw[← e1];rfl
 have o1:BG s.next s s1:=by rw[← e1];exact BG.new s _
 generalize e2:newObj s1 (AO 3 1 [iv 0])=s2
 have n2:s2.next=s.next+2:=by rw[← e2];show s1.next+1=_;omega
 have o2:BG (s.next+1) s1 s2:=by rw[← e2,← n1];exact BG.new s1 _
 generalize e3:newObj s2 (AO 92 1 [.ptr none])=s3
 have n3:s3.next=s.next+3:=by rw[← e3];show s2.next+1=_;omega
 have o3:BG (s.next+2) s2 s3:=by rw[← e3,← n2];exact BG.new s2 _
 have h1:=h.keep (AH.old (m:=fun _=>False) o1 (0,0,0)) (fun _ q=>q.elim)
 have oo:BG s.next s s2:=o1.trans (o2.mono (by omega))
 have h2:=h.keep (AH.old (m:=fun _=>False) oo (0,0,0)) (fun _ q=>q.elim)
 have o:BG s.next s s3:=oo.trans (o3.mono (by omega))
 have st:AH (fun _=>False) ow s (ext ow s.next (0,0,0)) s3:=AH.old o _
 have h3:=h.keep st (fun _ q=>q.elim)
 obtain⟨u1,u2,u3,t1,t2,t3,t4,t5,t6,ow',g1,g2,g3,g4,g5,g6,g7,g8,g9⟩:=h3.push_vlw hl1 hl2 hl3 (q1:=s.next) (q2:=s.next+1) (q3:=s.next+2)
  (by rw[o3.2 _ (by omega),o2.2 _ (by omega),← e1,AQ,if_pos rfl]) (by rw[o3.2 _ (by omega),← e2,AQ,if_pos (by omega)]) (by rw[← e3,AQ,if_pos (by omega)]) ⟨C2 (by omega),by omega⟩ ⟨C2 (by omega),by omega⟩
 have q1:AD Try.prog t1 23 (.ptr (some (p,3)))=some x.lev:=by rw[← (g9 23 3).1];exact h3.ld_lev
 have q2:AD Try.prog t1 89 (.ptr (some (p,4)))=some x.why:=by rw[← (g9 89 4).1];exact h3.ld_why
 have q3:AD Try.prog t2 89 (.ptr (some (p,4)))=some x.why:=by rw[← (g9 89 4).2];exact h3.ld_why
 simp only[Yu,AG,En,Jc,Ln,h.ld_val,b3,e1,hms,h1.ld_lev,n1,e2,h2.ld_why,b92,n2,e3,g1,BX,At,q1,q2,h3.level.self,h3.why.self,g2,q3,g3,BV,g4,g5,g6,AU,Qb,Qc,Qd,Qf,Qh,Qi,Qj,Qk,Qm,Qn,true_and,and_true,Qq,Qr,Qs,Yc]
 exact hK t6 ow' u1 u2 u3 g7 ((st.mono fun _ q=>q.elim).trans g8)
theorem eF{E:BN}{K:List AV→AF→Prop}{ow:Ow}{s:AF}{p:Nat}{x:Sf}{v:Sv}(h:Ah ow s p x v)(hl1:v.heat.length≤1000000000)(hl2:v.phase.length≤1000000000)(x1 x2 x3:AV)
  (hK:∀s' ow' u1 u2,Ah ow' s' p { x with heat:=u1,ph:=u2 } { v with heat:=v.heat++[0],phase:=v.phase++[-1] }→AH (Bb p) ow s ow' s'→K [AV.ptr (some (p,0)),x1,x2,x3] s'):Qb E Yv K [] [AV.ptr (some (p,0)),x1,x2,x3] s:=by
 have hms:∀ (m:Nat) (i:Nat),Made.val i (.slice m)=.slice (some (i,0)) m (some m):=fun _ _=>rfl
 have b3:=Ck (P:=Try.prog) (t:=23) (v:=iv 0) Try.underlying23 Bt RN rfl rfl
 have b3':=Ck (P:=Try.prog) (t:=23) (v:=iv (-1)) Try.underlying23 Bt RN rfl rfl
 generalize e1:newObj s (AO 3 1 [iv 0])=s1
 have n1:s1.next=s.next+1:=by rw[← e1];rfl
 have o1:BG s.next s s1:=by rw[← e1];exact BG.new s _
 generalize e2:newObj s1 (AO 3 1 [iv (-1)])=s2
 have n2:s2.next=s.next+2:=by rw[← e2];show s1.next+1=_;omega
 have o2:BG (s.next+1) s1 s2:=by rw[← e2,← n1];exact BG.new s1 _
 have h1:=h.keep (AH.old (m:=fun _=>False) o1 (0,0,0)) (fun _ q=>q.elim)
 have oo:BG s.next s s2:=o1.trans (o2.mono (by omega))
 have st:AH (fun _=>False) ow s (ext ow s.next (0,0,0)) s2:=AH.old oo _
 have h2:=h.keep st (fun _ q=>q.elim)
 obtain⟨u1,u2,t1,t2,t3,t4,ow',g1,g2,g3,g4,g5,g6,g7⟩:=h2.push_hp hl1 hl2 (q1:=s.next) (q2:=s.next+1)
  (by rw[o2.2 _ (by omega),← e1,AQ,if_pos rfl]) (by rw[← e2,AQ,if_pos (by omega)]) ⟨C2 (by omega),by omega⟩
 have q1:AD Try.prog t1 23 (.ptr (some (p,6)))=some x.ph:=by rw[← g7 23 6];exact h2.ld_ph
 simp only[Yv,AG,Lo,TR,h.ld_heat,b3,e1,hms,h1.ld_ph,b3',n1,e2,g1,BX,At,q1,h2.phase.self,g2,BV,g3,g4,AU,Qb,Qc,Qd,Qf,Qh,Qi,Qj,Qk,Qm,Qn,true_and,and_true,Qq,Qr,Qs,Yc]
 exact hK t4 ow' u1 u2 g5 ((st.mono fun _ q=>q.elim).trans g6)
theorem VZ{E:BN}(hE:Good E){n p:Nat}(hn:n<100000000){ow0:Ow}{s0:AF}{v0:Sv}{Q:A0→Prop}(hq:∀s' ow' x' y3,Ah ow' s' p x' v0→AH (Bb p) ow0 s0 ow' s'→Q ⟨.exit 0,[AV.ptr (some (p,0)),iv (n:Int),.bool false,y3],[],s'⟩):
  ∀ (m:Nat) (s:AF) (ow:Ow) (x:Sf) (v:Sv) (x3:AV),n+1 - v.value.length=m→mp (n+1000 - m) v→m≤1000+n→Ah ow s p x v→Uo m v=v0→AH (Bb p) ow0 s0 ow s →
   WC E none (.loop PX) Q [AV.ptr (some (p,0)),iv (n:Int),.bool false,x3] [] s:=by
 intro m
 induction m with
 | zero =>
  intro s ow x v x3 hm hz hle h hv hst
  have ln:∀s,Aq Try.prog s 23 x.val=some (iv (v.value.length:Int)):=fun s=>by
   have:=h.value.len Try.underlying23 s
   rw[qK]at this
   exact this
  have hd:decide ((v.value.length:Int)≤(n:Int))=false:=decide_eq_false (by omega)
  have hv:v=v0:=hv
  subst hv
  refine WC.loop' ?_
  simp only[PX,Ys,AG,En,h.ld_val,ln,hd,Qa,Qb,Qc,Qd,Qf,Qh,Qj,Qk,Qm,Qn,true_and,Qo,Qp,Qq,Qr,Qs,Qv,Qw,Qy,Qz,Rt]
  exact hq s ow x _ h hst
 | succ m ih =>
  intro s ow x v x3 hm hz hle h hv hst
  have ln:∀s,Aq Try.prog s 23 x.val=some (iv (v.value.length:Int)):=fun s=>by
   have:=h.value.len Try.underlying23 s
   rw[qK]at this
   exact this
  have hd:decide ((v.value.length:Int)≤(n:Int))=true:=decide_eq_true (by omega)
  obtain⟨z1,z2,z3,z4,z5,z6⟩:=hz
  refine WC.loop' ?_
  generalize hW:WC E none (Ac.loop PX) Q=W
  simp only[PX,Ys,AG,En,h.ld_val,ln,hd,Qa,Qb,Qc,Qd,Qf,Qh,Qj,Qk,Qm,Qn,true_and,Qo,Qp,Qq,Qr,Qs,Qu,Qw,Qy,Qz,Rt]
  refine eD h (by omega) _ _ _ ?_
  intro s1 ow1 u1 h1 st1
  try simp only[Qa,Qb,Qc,Qd,Qe,Qf,Qg,Qh,Qi,Qj,Qk,Ql,Qm,Qn,true_and,and_true,Qo,Qp,Qq,Qr,Qs,Qt,Qu,Qv,Qw,Qx,Qy,Qz,Ra,Rb,Rc,Rd,Re,Rf,Rg,Rh,Ri,Rj,Rk,Rl,Rm,Ya,Yb,Yc,Rn,Ro,Rp,Yd,Ye,Rq,Rs,Rt,Ru,Rv,Rw,Rx]
  refine eE h1 (by show v.value.length≤_;omega) (by show v.level.length≤_;omega) (by show v.why.length≤_;omega) _ _ _ ?_
  intro s2 ow2 u2 u3 u4 h2 st2
  try simp only[Qa,Qb,Qc,Qd,Qe,Qf,Qg,Qh,Qi,Qj,Qk,Ql,Qm,Qn,true_and,and_true,Qo,Qp,Qq,Qr,Qs,Qt,Qu,Qv,Qw,Qx,Qy,Qz,Ra,Rb,Rc,Rd,Re,Rf,Rg,Rh,Ri,Rj,Rk,Rl,Rm,Ya,Yb,Yc,Rn,Ro,Rp,Yd,Ye,Rq,Rs,Rt,Ru,Rv,Rw,Rx]
  refine eF h2 (by show v.heat.length≤_;omega) (by show v.phase.length≤_;omega) _ _ _ ?_
  intro s3 ow3 u5 u6 h3 st3
  try simp only[Qa,Qb,Qc,Qd,Qe,Qf,Qg,Qh,Qi,Qj,Qk,Ql,Qm,Qn,true_and,and_true,Qo,Qp,Qq,Qr,Qs,Qt,Qu,Qv,Qw,Qx,Qy,Qz,Ra,Rb,Rc,Rd,Re,Rf,Rg,Rh,Ri,Rj,Rk,Rl,Rm,Ya,Yb,Yc,Rn,Ro,Rp,Yd,Ye,Rq,Rs,Rt,Ru,Rv,Rw,Rx]
  rw[← hW]
  refine ih s3 ow3 _ (Px v) _ (by show n+1 - (v.value++[0]).length=m;rw[qM];simp;omega) ?_ (by omega) h3 hv (((hst.trans st1).trans st2).trans st3)
  have:=mp.one (B:=n+1000 - (m+1)) (v:=v) ⟨z1,z2,z3,z4,z5,z6⟩
  rw[show n+1000 - m=n+1000 - (m+1)+1 by omega]
  exact this
theorem VY{E:BN}(hE:Good E){ow:Ow}{s:AF}{p:Nat}{x:Sf}{v:Sv}(h:Ah ow s p x v){n:Nat}(hn:n<100000000)(hz:mp 900 v):
  WF E 46 [AK p,iv (n:Int)] (fun _ s'=>∃ow' x',Ah ow' s' p x' (Up v n)∧AH (Bb p) ow s ow' s') s:=by
 have he:=Ea p
 simp only[AK]at he
 refine hE.go lR (by decide) rfl ?_
 simp only[pe,gc,AK,he,Qa,Qb,Qc,Qd,Qf,Qh,Qi,Qj,Ql,Qm,Qn,true_and,Qo,Qp,Qq,Qr,Qs,Qv,Qw,Qx,Rc,Rf]
 obtain⟨z1,z2,z3,z4,z5,z6⟩:=hz
 refine VZ hE hn (v0:=Up v n) ?_ _ s ow x v _ rfl ⟨by omega,by omega,by omega,by omega,by omega,by omega⟩ (by omega) h rfl (AH.refl _ _ _)
 intro s' ow' x' y3 k1 k2
 simp only[if_true,Qm,Rb,Rd,Re,Rf]
 exact⟨ow',x',k1,k2⟩
def Tk:Sv:={ watches:=[],learned:=[],value:=[],level:=[],why:=[],heat:=[],phase:=[],trail:=[],limits:=[],head:=0,broken:=false,model:=[],trace:=[],many:=0,room:=2000,cl:=fun _=>none }
theorem nO:Bz Try.prog 91 (zipIdx [14] [iv 2000])=some (.agg (Dd ⟨.slice none 0 (some 0),.slice none 0 (some 0),.slice none 0 (some 0),.slice none 0 (some 0),.slice none 0 (some 0),.slice none 0 (some 0),.slice none 0 (some 0),.slice none 0 (some 0),.slice none 0 (some 0),.slice none 0 (some 0),.slice none 0 (some 0)⟩ Tk)):=by
 simp[Bz,pT,Try.underlying91,B0,Bt,We,CL,mg,I6,cM,zipIdx,Dp,DC,AI]
 rfl
theorem pL(ow:Ow)(s:AF):Ah (ext ow s.next (s.next,0,0)) (newObj s (AO 91 0 (Dd ⟨.slice none 0 (some 0),.slice none 0 (some 0),.slice none 0 (some 0),.slice none 0 (some 0),.slice none 0 (some 0),.slice none 0 (some 0),.slice none 0 (some 0),.slice none 0 (some 0),.slice none 0 (some 0),.slice none 0 (some 0),.slice none 0 (some 0)⟩ Tk))) s.next ⟨.slice none 0 (some 0),.slice none 0 (some 0),.slice none 0 (some 0),.slice none 0 (some 0),.slice none 0 (some 0),.slice none 0 (some 0),.slice none 0 (some 0),.slice none 0 (some 0),.slice none 0 (some 0),.slice none 0 (some 0),.slice none 0 (some 0)⟩ Tk:=
 { box:=DM.new,tag:=C2 (qI _),lt:=qn _,w:=⟨[],rfl,Bc.nil _ _ _,fun k L hk=>by cases hk⟩,learned:=Bc.nil _ _ _,value:=Bc.nil _ _ _,level:=Bc.nil _ _ _,why:=Bc.nil _ _ _,heat:=Bc.nil _ _ _,phase:=Bc.nil _ _ _,trail:=Bc.nil _ _ _,limits:=Bc.nil _ _ _,model:=Bc.nil _ _ _,trace:=⟨[],[],B8.nil _ _,fun j hj=>(by cases hj),fun j hj=>(by cases hj),Bg.nil _ _,fun u hu=>by cases hu⟩,cls:=fun c l hc=>by cases hc }
theorem bQ{E:BN}(hE:Good E)(ow:Ow){s:AF}{n:Nat}(hn:n<100000000):
  WF E 40 [iv (n:Int)] (fun r s'=>∃ow' x',r=AK s.next∧Ah ow' s' s.next x' (Up Tk n)∧AH (Bb s.next) ow s ow' s') s:=by
 have hptr:∀i,Made.val i .ptr=.ptr (some (i,0)):=fun _=>rfl
 have hmax:EO true (iv (n:Int)) [iv 0]=some (iv (n:Int)):=by rw[bL];congr 2;omega
 refine hE.go lM (by decide) rfl ?_
 have hN:=pL ow s
 have hst:AH (Bb s.next) ow s (ext ow s.next (s.next,0,0)) (newObj s (AO 91 0 (Dd ⟨.slice none 0 (some 0),.slice none 0 (some 0),.slice none 0 (some 0),.slice none 0 (some 0),.slice none 0 (some 0),.slice none 0 (some 0),.slice none 0 (some 0),.slice none 0 (some 0),.slice none 0 (some 0),.slice none 0 (some 0),.slice none 0 (some 0)⟩ Tk))):=AH.new _ ow s _ _
 have hbox:∀l,DS 91 (.agg l)=some (AO 91 0 l,.ptr):=fun l=>rfl
 simp only[pZ,gK,gL,gM,nO,hbox,hptr,hmax,Qa,Qb,Qc,Qd,Qf,Qh,Qi,Qj,Qk,Ql,Qm,Qn,true_and,Qo,Qp,Qq,Qr,Qs,Qw,Rc,Re,Rf,Rg,Rh,Yc]
 refine(VY hE hN hn ⟨by decide,by decide,by decide,by decide,by decide,by decide⟩).mono ?_
 rintro _ s' ⟨ow',x',g1,g2⟩
 simp only[gN,Qb,Qc,Qd,Qf,Qh,Qj,Qm,Qn,true_and,Qo,Qp,Qq,Qr,Qs]
 exact⟨ow',x',rfl,g1,hst.trans g2⟩
def Ct(lo:Nat)(s:AF)(v:AV)(L:List Int):Prop:=(∃a,v=.slice a 0 (some 0)∧L=[])∨∃i G,v=.slice (some (i,0)) L.length none∧lo≤i∧i<s.next∧BP s i (Ax L++G)
theorem Ct.slice{lo:Nat}{s:AF}{v:AV}{L:List Int}(h:Ct lo s v L):AX s.next s v (Ax L):=by
  rcases h with⟨a,rfl,rfl⟩ | ⟨i,G,rfl,h1,h2,h3⟩
  · exact⟨a,some 0,rfl,Ay.nil⟩
  · refine ⟨some (i, 0), none, by simp, fun k u hk => ⟨i, 0, rfl, h2, ?_⟩⟩
    rw[qU]
    exact h3.load1 (by rw[qX (Ag hk)];exact hk)
theorem Ct.self{lo:Nat}{s:AF}{v:AV}{L:List Int}(h:Ct lo s v L):FY v v=true:=by
 rcases h with⟨a,rfl,rfl⟩ | ⟨i,G,rfl,_⟩<;>exact FK
theorem Ct.keep{lo:Nat}{s s':AF}{v:AV}{L:List Int}(h:Ct lo s v L)(hn:s.next≤s'.next)(hf:∀j,lo≤j→j<s.next→s'.heap.get j=s.heap.get j):Ct lo s' v L:=by
 rcases h with h | ⟨i,G,e,h1,h2,h3⟩
 ·exact .inl h
 ·exact .inr ⟨i,G,e,h1,by omega,h3.keep (hf i h1 h2)⟩
def JJ:AV→Option Nat
 | .slice (some (i,_)) _ none=>some i
 | _=>none
theorem Ct.buf{lo:Nat}{s:AF}{v:AV}{L:List Int}(h:Ct lo s v L)(hL:L≠[]){ow:Ow}{T:Bh}(ht:∀i,lo≤i→i<s.next→JJ v=some i→ow i=T):Bc ow T s v (Ax L):=by
  rcases h with⟨a,rfl,e⟩ | ⟨i,G,rfl,h1,h2,r,g1,g2,g3,g4,g5⟩
  · exact absurd e hL
  · have hp : 0 < L.length := List.length_pos_iff.2 hL
    have hr:r.n=L.length+G.length:=by rw[g2.1];simp
    exact .inr ⟨i,0,none,r,by rw[EW],⟨g1,ht i h1 h2 rfl,h2,g3,g5,fun p hp=>by rw[g4]at hp;cases hp⟩,fun k u hk=>by rw[qU];exact g2.2 k u (by rw[qX (Ag hk)];exact hk),by rw[EW];omega,⟨rfl,by omega⟩⟩
theorem aO       {E : BN}  (hE : Good E) {lo : Nat} {s : AF}  {v : AV} {L : List Int} (h : De     lo s v L) (hL : L.length ≤ 1000) :
    WF E 88 [v] (fun r s'=>Ct lo s' r (KE L)∧(∀i,JJ r=some i→JJ v=some i)∧s'.next=s.next∧∀z,JJ v≠some z→s'.heap.get z=s.heap.get z) s:=by
  refine hE.go mC (by decide) rfl ?_
  by_cases hlt:L.length<2
  · have hd : decide ((L.length : Int) < 2) = true := decide_eq_true (by omega)
    have hc:KE L=L:=by
      cases L with
      | nil=>rfl
      | cons x r=>cases r with
        | nil=>rfl
        | cons y r=>simp at hlt;omega
    simp only[pG,Zv,Zw,jY,h.len,hd,Qa,Qb,Qc,Qd,Qf,Qh,Qi,Qj,Qk,Ql,Qm,Qn,true_and,Qo,Qp,Qq,Qr,Qs,Qu,Qw,Qx,Rc,Re,Rf,Rg,Rh,Yc,Rq]
    rw[hc]
    refine⟨?_,fun _ q=>q,fun _ _=>trivial⟩
    rcases h with⟨a,rfl,rfl⟩ | ⟨i,rfl,h1,h2,h3⟩
    · exact .inl ⟨a,rfl,rfl⟩
    · exact .inr ⟨i,[],rfl,h1,h2,by simpa using h3⟩
  · have hd:decide ((L.length:Int)<2)=false:=decide_eq_false (by omega)
    rcases h with⟨a,rfl,rfl⟩ | ⟨i,rfl,h1,h2,h3⟩
    · simp at hlt
    cases L with
    | nil=>simp at hlt
    | cons y R =>
      simp only[pG,Zv,Zw,jZ,AW Try.underlying23,hd,Qa,Qb,Qc,Qd,Qf,Qh,Qi,Qj,Qk,Ql,Qm,Qn,true_and,Qo,Qp,Qq,Qr,Qs,Qv,Qw,Qx,Rc,Rf,Rg,Rh,Yc,Rq]
      refine aP hE (n:=(y::R).length) h1 hL (.slice none 0 (some 0)) _ R [] y s _ _ _ _ _ _ (by simp;omega) h3 ?_
      rintro e s' W' G' y1 y2 y3 y4 y6 y7 y8 y9 (⟨rfl,rfl⟩ | ⟨rfl,rfl,hl⟩) f2 f3 f4 f5
      · simp only[Qj,Qm,Qq,Qr,Qx,Ra,Rc,Re,Rf,Rg,Rh,Yc]
        rw[show KE (y::R)=W' from f2.symm]
        exact⟨.inr ⟨i,G',rfl,h1,by omega,f3⟩,fun _ q=>q,f4,fun z hz=>f5 z fun e=>hz (by rw[e];rfl)⟩
      · simp only[Zz,if_true,Qb,Qc,Qd,Qf,Qh,Qj,Qm,Qn,true_and,Qo,Qp,Qq,Qr,Qs,Qw,Qy,Rb,Re]
        rw[show KE (y::R)=W' from f2.symm]
        exact⟨.inr ⟨i,G',by rw[hl],h1,by omega,f3⟩,fun _ q=>q,f4,fun z hz=>f5 z fun e=>hz (by rw[e];rfl)⟩
theorem eu      {E : BN}  (hE : Good E) {lo : Nat} {s : AF}  {v : AV} {L : List Int} (h : De     lo s v L) (hL : L.length ≤ 12) :
    WF E 87 [v] (fun r s'=>De lo s' v (Ge L)∧s'.next=s.next∧∀z,JJ v≠some z→s'.heap.get z=s.heap.get z) s:=by
  have h117:WF E 117 [v,iv 0,iv (L.length:Int)] (fun r s'=>De lo s' v (Ge L)∧s'.next=s.next∧∀z,JJ v≠some z→s'.heap.get z=s.heap.get z) s:=by
    refine hE.go d6 (by decide) rfl ?_
    have e3:=Ai Try.prog 3 0 1 ⟨by omega,by omega⟩
    have e4:(0:Int)+1=1:=rfl
    rcases h with⟨a,rfl,rfl⟩ | ⟨i,rfl,h1,h2,h3⟩
    · simp only[kn,SA,e3,e4,rC,show((0:Nat):Int)=0 from rfl,Qa,Qb,Qc,Qd,Qf,Qh,Qi,Qj,Qk,Ql,Qm,Qn,true_and,Qo,Qp,Qq,Qr,Qs,Qw]
      refine WC.loop' ?_
      simp only[Hv,K9,show decide ((1:Int)<0)=false from rfl,if_true,Qa,Qb,Qc,Qd,Qf,Qh,Qj,Qm,Qn,true_and,Qo,Qp,Qq,Qr,Qs,Qv,Qw,Qy,Rb,Rd,Re,Rf,Rq]
      exact⟨.inl ⟨a,rfl,rfl⟩,fun _ _=>trivial⟩
    · simp only[kn,SA,e3,e4,Qa,Qb,Qc,Qd,Qf,Qh,Qi,Qj,Qk,Ql,Qm,Qn,true_and,Qo,Qp,Qq,Qr,Qs,Qw]
      cases L with
      | nil =>
        refine WC.loop' ?_
        simp only[Hv,K9,rC,show((0:Nat):Int)=0 from rfl,show decide ((1:Int)<0)=false from rfl,if_true,Qa,Qb,Qc,Qd,Qf,Qh,Qj,Qm,Qn,true_and,Qo,Qp,Qq,Qr,Qs,Qv,Qw,Qy,Rb,Rd,Re,Rf,Rq]
        exact⟨.inr ⟨i,rfl,h1,h2,h3⟩,fun _ _=>trivial⟩
      | cons x T =>
        refine cH hE h1 (n:=(x::T).length) (by omega) T [x] s 1 _ _ _ rfl (by simp;omega) h3 ?_
        intro s' y3 y4 y5 y6 g1 g2 g3
        simp only[if_true,Qm,Rb,Rd,Re,Rf]
        exact⟨.inr ⟨i,by rw[J5],h1,by omega,g1⟩,g2,fun z hz=>g3 z fun e=>hz (by rw[e];rfl)⟩
  have h108:∀m:Int,WF E 108 [v,iv 0,iv (L.length:Int),iv m] (fun r s'=>De lo s' v (Ge L)∧s'.next=s.next∧∀z,JJ v≠some z→s'.heap.get z=s.heap.get z) s:=by
    intro m
    refine hE.go dp (by decide) rfl ?_
    have e3:=DZ Try.prog 3 (L.length:Int) 0 ⟨by omega,by omega⟩
    have e4:(L.length:Int) - 0=(L.length:Int):=by omega
    have e5:decide ((L.length:Int)≤12)=true:=decide_eq_true (by omega)
    simp only[nT,XE,XF,Qa,Qb,Qc,Qd,Qf,Qh,Qi,Ql,Qm,Qn,true_and,Qo,Qp,Qs,Qw]
    refine WC.loop' ?_
    generalize WC E none (Ac.loop OE) _=W
    simp only[OE,XG,XH,XI,e3,e4,e5,Qa,Qb,Qc,Qd,Qf,Qh,Qi,Qj,Qk,Qm,Qn,true_and,Qo,Qp,Qq,Qr,Qs,Qu,Qw,Qx,Qy,Qz,Ra,Rb,Rc,Rd,Re,Rf,Rt]
    refine h117.mono ?_
    rintro r s' h'
    simp only[Qd,Qn,true_and]
    exact h'
  refine hE.go mB (by decide) rfl ?_
  simp only[p9,jW,jX,h.len,aR hL,Qa,Qb,Qc,Qd,Qf,Qh,Qi,Qj,Qk,Ql,Qm,Qn,true_and,Qo,Qp,Qq,Qr,Qs,Qw,Rd,Re,Rf]
  refine(mV hE L.length hL).mono ?_
  rintro _ _ ⟨⟨m,rfl⟩,rfl⟩
  simp only[Qd,Qn,true_and,Qq,Qr]
  refine(h108 m).mono ?_
  rintro r s' h'
  simp only[Qd,Qn,true_and]
  exact h'
theorem GO{E:BN}(hE:Good E){s:AF}{b:Nat}{L:List Int}{f:Int→Bool}{g:FuncId}{cp:List AV}(hg:∀q∈L,WF E g (iv q::cp) (fun r s'=>r=.bool (f q)∧s=s') s)(hlen:L.length<9223372036854775808){v:AV}(hv:AX b s v (Ax L)):
  WF E 72 [v,.func g [] cp] (fun r s'=>r=.bool (BH f L 0).isSome∧s=s') s:=by
 refine hE.go lp (by decide) rfl ?_
 simp only[pr,iu,iy,Qa,Qb,Qc,Qd,Qf,Qh,Qi,Qj,Qk,Ql,Qm,Qn,true_and,Qo,Qp,Qq,Qr,Qs,Qw,Rc,Re,Rf,Rg,Rh,Yc]
 refine(NR hE hg hlen hv).mono ?_
 rintro _ _ ⟨rfl,rfl⟩
 cases hf:BH f L 0 with
 | none=>simp only[Jl,show decide ((0:Int)≤-1)=false from rfl,Option.isSome,Qd,Qm,Qn,and_true,Qo,Qp,Qq,Qr,Ru]
 | some i=>simp only[Jl,show decide ((0:Int)≤(i:Int))=true from decide_eq_true (by omega),Option.isSome,Qd,Qm,Qn,and_true,Qo,Qp,Qq,Qr,Ru]
theorem C5{f:Int→Bool}:∀ {L:List Int}{k:Nat},(BH f L k).isSome=true↔∃q∈L,f q=true
 | [],k=>by simp[BH]
 | x::L,k=>by
  unfold BH
  by_cases h:f x=true
  ·simp[h]
  ·rw[if_neg h,C5]
   simp[h]
theorem bA{E:BN}(hE:Good E){s:AF}{b:Nat}{L:List Int}{y:Int}(hlen:L.length<9223372036854775808){a:Option (Nat×Nat)}{cap:Option Nat}(hc:Ay b s a (Ax L)){Q:A0→Prop}(x2:AV):
    ∀ (l : List Int) (k : Nat) (x3 x6 x7 : AV), L.drop k = l → k ≤ L.length →
      (BH (fun q=>decide (y=q)) l k=none→∀ (y3 y5 y6 y7:AV),Q ⟨.exit 0,[.slice a L.length cap,iv y,x2,y3,iv (L.length:Int),y5,y6,y7],[],s⟩) →
      (∀i,BH (fun q=>decide (y=q)) l k=some i→∀ (y3 y5 y6 y7:AV),Q ⟨.ret,[.slice a L.length cap,iv y,iv (i:Int),y3,iv (L.length:Int),y5,y6,y7],[],s⟩) →
      WC E none (.loop JL) Q [.slice a L.length cap,iv y,x2,x3,iv (L.length:Int),iv (k:Int),x6,x7] [] s:=by
  intro l
  induction l with
  | nil =>
    intro k x3 x6 x7 hd hk hq _
    have:=CH hd hk
    subst this
    refine WC.loop' ?_
    simp only[JL,OG,qd,decide_false,Qa,Qb,Qc,Qd,Qf,Qh,Qj,Qm,Qn,true_and,Qo,Qp,Qq,Qr,Qs,Qv,Qw,Qx,Qy,Qz,Ra,Rq]
    exact hq rfl _ _ _ _
  | cons x l ih =>
    intro k x3 x6 x7 hd hk hq hr
    obtain⟨hlt,hx,hd'⟩:=Be hd
    obtain⟨i,o,rfl,hi,hload⟩:=hc k _ (Au hx)
    have e1:=Al (cap:=cap) (i:=i) (o:=o) Try.underlying23 Bt hlt
    have e2:AD Try.prog s 3 (.ptr (some (i,o+k * 1)))=some (iv x):=A4 Dg (by rw[qa];exact hload)
    have hkk:decide ((k:Int)<(L.length:Int))=true:=decide_eq_true (by omega)
    have e3:=Ai Try.prog 3 (k:Int) 1 ⟨by omega,by omega⟩
    have e3':((k:Int)+1)=((k+1:Nat):Int):=by omega
    refine WC.loop' ?_
    generalize hW:WC E none (Ac.loop JL) Q=WW
    by_cases hf:y=x
    · have ef : BH     (fun q => decide (y = q)) (x :: l) k = some k := by unfold BH;     rw [if_pos (decide_eq_true hf)]
      have My:decide (y=x)=true:=decide_eq_true hf
      simp only[JL,OG,R6,R7,hkk,e1,e2,My,Xd,Qa,Qb,Qc,Qd,Qf,Qh,Qj,Qk,Qm,Qn,true_and,Qo,Qp,Qq,Qr,Qs,Qu,Qw,Qx,Qy,Qz,Ra,Rq,Rv]
      exact hr k ef _ _ _ _
    · have My  : decide (y = x) = false := decide_eq_false hf
      have ef:BH (fun q=>decide (y=q)) (x::l) k=BH (fun q=>decide (y=q)) l (k+1):=by rw[BH,if_neg (by rw[My];decide)]
      simp only[JL,OG,R6,R7,hkk,e1,e2,My,Xe,e3,e3',Qa,Qb,Qc,Qd,Qf,Qh,Qi,Qj,Qk,Qm,Qn,true_and,Qo,Qp,Qq,Qr,Qs,Qu,Qv,Qw,Qx,Qy,Qz,Ra,Rq,Rv]
      rw[← hW]
      rw[ef]at hq hr
      exact ih (k+1) _ _ _ hd' hlt hq hr
theorem Pn{E:BN}(hE:Good E){s:AF}{b:Nat}{L:List Int}{y:Int}(hlen:L.length<9223372036854775808){v:AV}(hv:AX b s v (Ax L)):
  WF E 101 [v,iv y] (fun r s'=>r=.bool (decide (y∈L))∧s=s') s:=by
 obtain⟨a,cap,rfl,hc⟩:=hv
 rw[EW]
 have hmem:(BH (fun q=>decide (y=q)) L 0).isSome=decide (y∈L):=by
  rw[Bool.eq_iff_iff,C5]
  simp
 have ix:WF E 113 [.slice a L.length cap,iv y] (fun r s'=>r=Jl (BH (fun q=>decide (y=q)) L 0)∧s=s') s:=by
  refine hE.go dx (by decide) rfl ?_
  simp only[nY,Xb,Xc,AW Try.underlying23,Qa,Qb,Qc,Qd,Qf,Qh,Qi,Qj,Ql,Qm,Qn,true_and,Qo,Qp,Qq,Qs,Qw,Rc,Rf,Rg,Rh,Yc]
  refine bA hE hlen hc _ L 0 _ _ _ rfl (qO _) ?_ ?_
  ·intro hn y3 y5 y6 y7
   rw[hn]
   simp only[Xf,if_true,Jl,Qb,Qc,Qd,Qf,Qh,Qi,Qm,Qn,true_and,Qo,Qp,Qq,Qr,Qs,Qw,Qy,Rb,Re]
  ·intro i hi y3 y5 y6 y7
   rw[hi]
   simp only[Jl,Qj,Qm,true_and,Qq,Qr,Qx,Ra,Rc,Re,Rf,Rg,Rh,Yc]
 refine hE.go dj (by decide) rfl ?_
 simp only[nR,W4,W5,Qa,Qb,Qc,Qd,Qf,Qh,Qi,Qj,Qk,Ql,Qm,Qn,true_and,Qo,Qp,Qq,Qr,Qs,Qw,Rc,Re,Rf,Rg,Rh,Yc]
 refine ix.mono ?_
 rintro _ _ ⟨rfl,rfl⟩
 rw[← hmem]
 cases hf:BH (fun q=>decide (y=q)) L 0 with
 | none=>simp only[Jl,show decide ((0:Int)≤-1)=false from rfl,Option.isSome,Qd,Qm,Qn,and_true,Qo,Qp,Qq,Qr,Ru]
 | some i=>simp only[Jl,show decide ((0:Int)≤(i:Int))=true from decide_eq_true (by omega),Option.isSome,Qd,Qm,Qn,and_true,Qo,Qp,Qq,Qr,Ru]
def Ef(L:List Int):List Int:=KE (Ge L)
def KU(L:List Int):Bool:=(BH (fun q=>decide (-q∈L)) L 0).isSome
theorem J8{L:List Int}:KU L=true↔∃q∈L,-q∈L:=by
 unfold KU
 rw[C5]
 simp
theorem VO        : ∀ {L : List Int} {z : Int}, z ∈ KE    L → z ∈ L := by
  have h:∀ (l:List Int) (p z:Int),z∈dd p l→z∈l:=by
    intro l
    induction l with
    | nil=>intro p z h;simp[dd]at h
    | cons x l ih =>
      intro p z h
      unfold dd at h
      split at h
      · exact qS _ (ih _ _ h)
      · rcases qp.1            h with e | e
        · rw[e];exact qR ..
        · exact qS _ (ih _ _ e)
  intro L z hz
  cases L with
  | nil=>exact hz
  | cons x r =>
    rcases qp.1 hz with e | e
    · rw[e];exact qR ..
    · exact qS _ (h _ _ _ e)
theorem VN:∀ (L:List Int),(KE L).length≤L.length:=by
 have h:∀ (l:List Int) (p:Int),(dd p l).length≤l.length:=by
  intro l
  induction l with
  | nil=>intro p;simp[dd]
  | cons x l ih =>
   intro p
   unfold dd
   split
   ·have:=ih p;simp;omega
   ·have:=ih x;simp;omega
 intro L
 cases L with
 | nil=>exact qI _
 | cons x r=>have:=h r x;simp[KE];omega
theorem J6(L:List Int)(z:Int):z∈Ge L↔z∈L:=by
 unfold Ge
 rw[List.mem_reverse,(Lx L (q:=[]) List.Pairwise.nil).2]
 simp
theorem Nj{L:List Int}{z:Int}(h:z∈Ef L):z∈L:=(J6 L z).1 (VO h)
theorem Is(L:List Int):(Ef L).length≤L.length:=by
 have:=VN (Ge L)
 rw[J5]at this
 exact this
theorem Wv{E:BN}(hE:Good E){s:AF}{b j:Nat}{L:List Int}{v:AV}(hv:AX b s v (Ax L))(hb:As s j v)(hlen:L.length<9223372036854775808){q:Int}(hq:i64 (-q)):
  WF E 100 [iv q,.ptr (some (j,0))] (fun r s'=>r=.bool (decide (-q∈L))∧s=s') s:=by
 have e1:=D8 Try.prog q hq
 refine hE.go di (by decide) rfl ?_
 simp only[nQ,W2,W3,hb.load DN,e1,Qa,Qb,Qc,Qd,Qf,Qh,Qi,Qj,Qk,Ql,Qm,Qn,true_and,Qo,Qp,Qq,Qr,Qs,Qw,Rc,Re,Rf,Rg,Rh,Yc]
 refine(Pn hE hlen hv).mono ?_
 rintro _ _ ⟨rfl,rfl⟩
 simp only[Qd,Qn,and_true,Qo,Qp,Qq,Qr]
theorem c7{E:BN}(hE:Good E){s:AF}{b:Nat}{L:List Int}(hlen:L.length≤12)(hi:∀q∈L,i64 (-q))(hb:b≤s.next){v:AV}(hv:AX b s v (Ax L)):
  WF E 74 [v] (fun r s'=>∃w,r=.tuple [w,.bool (!KU (Ef L))]∧Ct s.next s' w (Ef L)∧BG s.next s s') s:=by
 have hptr:∀i,Made.val i .ptr=.ptr (some (i,0)):=fun _=>rfl
 refine hE.go lr (by decide) rfl ?_
 simp only[pt,iz,jA,Qa,Qb,Qc,Qd,Qf,Qh,Qi,Qj,Qk,Ql,Qm,Qn,true_and,Qo,Qp,Qq,Qs,Qw,Rc,Re,Rf,Rg,Rj,Yc]
 refine(Gz hE hb hv (by omega)).mono ?_
 rintro v1 s1 ⟨h1,o1⟩
 generalize e2:newObj s1 (AO 23 0 [.slice none 0 (some 0)])=s2
 have n2:s2.next=s1.next+1:=by rw[← e2];rfl
 have o2:BG s1.next s1 s2:=by rw[← e2];exact BG.new s1 _
 have b2:As s2 s1.next (.slice none 0 (some 0)):=by rw[← e2];exact As.new
 obtain⟨s3,g1,g2,g3,g4⟩:=b2.store (d:=v1) CL h1.slice.isCell.1 h1.slice.isCell.2
 have hn1:=o1.1
 have h3:De s.next s3 v1 L:=by
  rcases h1 with h1 | ⟨i,r1,r2,r3,r4⟩
  ·exact .inl h1
  ·exact .inr ⟨i,r1,r2,by omega,(r4.keep (o2.2 i r3)).keep (g4 i (by omega))⟩
 have o3:BG s.next s s3:=(o1.trans (o2.mono (by omega))).trans ⟨by omega,fun y hy=>g4 y (by omega)⟩
 simp only[UL,hptr,e2,BV,g1,AU,jB,g2.load DN,Qb,Qc,Qd,Qf,Qh,Qj,Qk,Qm,Qn,true_and,Qo,Qp,Qq,Qr,Qs]
 refine(eu hE h3 hlen).mono ?_
 rintro r4 s4 ⟨h4,n4,f4⟩
 have hne:JJ v1≠some s1.next:=fun e=>by
  rcases h1 with⟨a,r1,r2⟩ | ⟨i,r1,r2,r3,r4⟩
  ·rw[r1]at e
   cases a<;>cases e
  ·rw[r1]at e
   injection e with e
   omega
 have hlo:∀z,z<s.next→JJ v1≠some z:=fun z hz e=>by
  rcases h1 with⟨a,r1,r2⟩ | ⟨i,r1,r2,r3,r4⟩
  ·rw[r1]at e
   cases a<;>cases e
  ·rw[r1]at e
   injection e with e
   omega
 have b4:As s4 s1.next v1:=g2.keep (f4 _ hne)
 have o4:BG s.next s s4:=o3.trans ⟨by omega,fun y hy=>f4 y (hlo y hy)⟩
 simp only[jC,b4.load DN,Qb,Qc,Qd,Qf,Qh,Qj,Qk,Qm,Qn,true_and,Qq,Qr,Qs]
 refine(aO hE h4 (by rw[J5];omega)).mono ?_
 rintro w s5 ⟨h5,hi5,n5,f5⟩
 have b5:As s5 s1.next v1:=b4.keep (f5 _ hne)
 have o5:BG s.next s s5:=o4.trans ⟨by omega,fun y hy=>f5 y (hlo y hy)⟩
 obtain⟨s6,k1,k2,k3,k4⟩:=b5.store (d:=w) CL h5.slice.isCell.1 h5.slice.isCell.2
 have h6:Ct s.next s6 w (Ef L):=by
  rcases h5 with h5 | ⟨i,G,r1,r2,r3,r4⟩
  ·exact .inl h5
  ·refine .inr ⟨i,G,r1,r2,by omega,r4.keep (k4 i fun e=>?_)⟩
   exact hne (by rw[← e];exact hi5 i (by rw[r1];rfl))
 have o6:BG s.next s s6:=o5.trans ⟨by omega,fun y hy=>k4 y (by omega)⟩
 have hlen6:=Is L
 simp only[BV,k1,AU,jD,k2.load DN,rM,rF,Qb,Qc,Qd,Qf,Qh,Qj,Qk,Qm,Qn,true_and,Qq,Qr,Qs]
 refine(GO hE (f:=fun q=>decide (-q∈Ef L)) (g:=100) (cp:=[.ptr (some (s1.next,0))]) (fun q hq=>?_) (by omega) h6.slice).mono ?_
 ·exact Wv hE h6.slice k2 (by omega) (hi q (Nj hq))
 rintro _ _ ⟨rfl,rfl⟩
 simp only[BX,At,k2.load DN,h6.self,Qd,Qj,Qk,Qm,Qn,true_and,and_true,Qo,Qp,Qq,Qr,Rx]
 exact⟨w,rfl,h6,o6⟩
def CZ(c:Int→Int→Int)(x:Int):List Int→List Int
 | []=>[x]
 | y::q=>if c x y<0 then y::CZ c x q else x::y::q
def GE(c:Int→Int→Int)(L:List Int):List Int:=(L.foldl (fun q x=>CZ c x q) []).reverse
theorem HS(c:Int→Int→Int)(x:Int):∀q,(CZ c x q).length=q.length+1
 | []=>rfl
 | y::q=>by
  unfold CZ
  split
  ·simp[HS c x q]
  ·simp
theorem HT        (c : Int → Int → Int) (x z : Int) : ∀ q, z ∈ CZ    c x q ↔ z = x ∨ z ∈ q
  | []=>by simp[CZ]
  | y::q=>by
    unfold CZ
    split
    · rw[qp,HT c x z q,qp]
      constructor
      · rintro (h | h | h)
        · exact .inr (.inl h)
        · exact .inl h
        · exact .inr (.inr h)
      · rintro (h | h | h)
        · exact .inr (.inl h)
        · exact .inl h
        · exact .inr (.inr h)
    · simp
theorem Pu(c:Int→Int→Int):∀ (R q:List Int),(R.foldl (fun q x=>CZ c x q) q).length=q.length+R.length
 | [],q=>rfl
 | y::R,q=>by simp only[q0,Pu c R,HS,qh];omega
theorem Pv(c:Int→Int→Int)(z:Int):∀ (R q:List Int),z∈R.foldl (fun q x=>CZ c x q) q↔z∈q∨z∈R
  | [],q=>by simp
  | y::R,q=>by
    rw[q0,Pv c z R,HT,qp]
    constructor
    · rintro ((h | h) | h)
      · exact .inr (.inl h)
      · exact .inl h
      · exact .inr (.inr h)
    · rintro (h | h | h)
      · exact .inl (.inr h)
      · exact .inl (.inl h)
      · exact .inr h
theorem Nw(c:Int→Int→Int)(L:List Int):(GE c L).length=L.length:=by
 unfold GE
 rw[List.length_reverse,Pu];simp
theorem WO(c:Int→Int→Int)(L:List Int)(z:Int):z∈GE c L↔z∈L:=by
 unfold GE
 rw[List.mem_reverse,Pv];simp
theorem cI       {E : BN}  (hE : Good E) {i n m : Nat} (hn : n ≤ 1000) {s0 : AF}  {P : Int → Prop} {c : Int → Int → Int} {g : FuncId} {cp : List AV} (hg : ∀ s a b, (∀ z, z ≠ i → s.heap.get z = s0.heap.get z) → s.next = s0.next → P a → P b → WF E g (iv a :: iv b :: cp) (fun r s' => r = iv (c a b) ∧ s = s') s) (x : Int) (hx : P x) {Q : A0   → Prop} :
    ∀ (p : List Int) (T : List AV) (s : AF)  (x5 x7 : AV), p.length < n → (∀ y ∈ p, P y) → (∀ z, z ≠ i → s.heap.get z = s0.heap.get z) → s.next = s0.next → BP    s i (Ax  (p.reverse ++ [x]) ++ T) →
      (∀s' y5 y7,BP s' i (Ax (CZ c x p).reverse++T)→s'.next=s0.next→(∀z,z≠i→s'.heap.get z=s0.heap.get z)→Q ⟨.exit 2,[.slice (some (i,0)) n none,iv 0,iv (n:Int),.func g [] cp,iv (m:Int),y5,x5,y7],[],s'⟩) →
      WC E none (.loop K6) Q [.slice (some (i,0)) n none,iv 0,iv (n:Int),.func g [] cp,iv (m:Int),iv (p.length:Int),x5,x7] [] s:=by
  intro p
  induction p with
  | nil =>
    intro T s x5 x7 h1 hp hf hnx hr hq
    refine WC.loop' ?_
    simp only[K6,R9,rC,show((0:Nat):Int)=0 from rfl,qd,decide_false,Qa,Qb,Qc,Qd,Qf,Qg,Qh,Qi,Qj,Qk,Qm,Qn,true_and,Qo,Qp,Qq,Qr,Qs,Qt,Qv,Qw,Qy,Qz,Rl,Rn,Ro,Rs]
    exact hq s _ _ hr hnx hf
  | cons y q ih =>
    intro T s x5 x7 h1 hp hf hnx hr hq
    have hj:(y::q).length=q.length+1:=rfl
    rw[hj]at h1 ⊢
    have hcells:Ax ((y::q).reverse++[x])++T=Ax q.reverse++iv y::(iv x::T):=by simp
    have hcells2:Ax ((y::q).reverse++[x])++T=(Ax q.reverse++[iv y])++iv x::T:=by simp
    have hql:(Ax q.reverse).length=q.length:=by simp
    have hql2:(Ax q.reverse++[iv y]).length=q.length+1:=by simp
    have hgt:decide ((0:Int)<((q.length+1:Nat):Int))=true:=decide_eq_true (by omega)
    have a1:AC Try.prog 23 (.slice (some (i,0)) n none) (iv ((q.length+1:Nat):Int))=some (.ptr (some (i,0+(q.length+1) * 1))):=Al Try.underlying23 Bt (by omega)
    have a0:AC Try.prog 23 (.slice (some (i,0)) n none) (iv ((q.length:Nat):Int))=some (.ptr (some (i,0+q.length * 1))):=Al Try.underlying23 Bt (by omega)
    have l1:AD Try.prog s 3 (.ptr (some (i,0+(q.length+1) * 1)))=some (iv x):=hr.load (by rw[hcells2];exact Ff hql2)
    have l0:AD Try.prog s 3 (.ptr (some (i,0+q.length * 1)))=some (iv y):=hr.load (by rw[hcells];exact Ff hql)
    have hs:=DZ Try.prog 3 ((q.length+1:Nat):Int) 1 ⟨by omega,by omega⟩
    have hs1:(((q.length+1:Nat):Int) - 1)=((q.length:Nat):Int):=by omega
    rw[hs1]at hs
    refine WC.loop' ?_
    generalize hW:WC E none (Ac.loop K6) Q=W
    simp only[K6,R9,hgt,a1,l1,hs,a0,l0,qo,rK,Qa,Qb,Qc,Qd,Qe,Qf,Qg,Qh,Qi,Qj,Qk,Qm,Qn,true_and,Qq,Qr,Qs,Qw,Qy,Qz,Rl,Rn,Ro,Rs]
    refine(hg s x y hf hnx hx (hp y (qR ..))).mono ?_
    rintro _ _ ⟨rfl,rfl⟩
    by_cases h:c x y<0
    · rw[hcells2]at hr
      obtain⟨s1,g1,g2,g3,g4⟩:=hr.store (k:=q.length+1) (u:=iv y) hql2 rfl rfl
      have e1:(Ax q.reverse++[iv y])++iv y::T=Ax q.reverse++iv y::(iv y::T):=by simp
      rw[e1]at g2
      obtain⟨s2,k1,k2,k3,k4⟩:=g2.store (k:=q.length) (u:=iv x) hql rfl rfl
      simp only[h,decide_true,Xh,Xi,a1,l1,hs,a0,l0,BV,g1,k1,AU,Qb,Qc,Qd,Qf,Qh,Qi,Qj,Qk,Qm,Qn,true_and,Qo,Qp,Qq,Qr,Qs,Qu,Rl,Rq]
      rw[← hW]
      have e2:CZ c x (y::q)=y::CZ c x q:=by simp[CZ,h]
      refine ih (iv y::T) s2 x5 _ (by omega) (fun z hz=>hp z (qS _ hz)) (fun z hz=>(k4 z hz).trans ((g4 z hz).trans (hf z hz))) (by omega) ?_ ?_
      · have e3:Ax (q.reverse++[x])++iv y::T=Ax q.reverse++iv x::(iv y::T):=by simp
        rw[e3];exact k2
      · intro s' y5 y7 f1 f2 f3
        refine hq s' y5 y7 ?_ (by omega) f3
        rw[e2]
        have e4:Ax (y::CZ c x q).reverse++T=Ax (CZ c x q).reverse++(iv y::T):=by simp
        rw[e4];exact f1
    · have e2:CZ c x (y::q)=x::y::q:=by simp[CZ,h]
      simp only[h,decide_false,Qc,Qd,Qm,Qn,true_and,Qo,Qp,Qq,Qr,Qs,Qv,Rl,Rq]
      refine hq s _ _ ?_ hnx hf
      rw[e2]
      have e4:Ax (x::y::q).reverse++T=Ax ((y::q).reverse++[x])++T:=by simp
      rw[e4];exact hr
theorem WN{E:BN}(hE:Good E){i n:Nat}(hn:n≤1000){s0:AF}{P:Int→Prop}{c:Int→Int→Int}{g:FuncId}{cp G:List AV}(hg:∀s a b,(∀z,z≠i→s.heap.get z=s0.heap.get z)→s.next=s0.next→P a→P b→WF E g (iv a::iv b::cp) (fun r s'=>r=iv (c a b)∧s=s') s){Q:A0→Prop}:
    ∀ (R q : List Int) (s : AF)  (m : Nat) (x5 x6 x7 : AV), q.length = m → n = q.length + R.length → (∀ y ∈ q, P y) → (∀ y ∈ R, P y) → (∀ z, z ≠ i → s.heap.get z = s0.heap.get z) → s.next = s0.next → BP    s i (Ax  (q.reverse ++ R) ++ G) →
      (∀s' y4 y5 y6 y7,BP s' i (Ax (R.foldl (fun q x=>CZ c x q) q).reverse++G)→s'.next=s0.next→(∀z,z≠i→s'.heap.get z=s0.heap.get z)→Q ⟨.exit 0,[.slice (some (i,0)) n none,iv 0,iv (n:Int),.func g [] cp,y4,y5,y6,y7],[],s'⟩) →
      WC E none (.loop Hu) Q [.slice (some (i,0)) n none,iv 0,iv (n:Int),.func g [] cp,iv (m:Int),x5,x6,x7] [] s:=by
  intro R
  induction R with
  | nil =>
    intro q s m x5 x6 x7 hm hq hp hpR hf hnx hr hk
    subst hm
    have hlt:decide (((q.length:Nat):Int)<(n:Int))=false:=decide_eq_false (by simp at hq;omega)
    refine WC.loop' ?_
    simp only[Hu,K7,hlt,Qa,Qb,Qc,Qd,Qf,Qh,Qj,Qm,Qn,true_and,Qo,Qp,Qq,Qr,Qs,Qv,Qw,Qy,Rq]
    exact hk s _ _ _ _ (by simpa using hr) hnx hf
  | cons x T ih =>
    intro q s m x5 x6 x7 hm hq hp hpR hf hnx hr hk
    subst hm
    have hR:(x::T).length=T.length+1:=rfl
    rw[hR]at hq
    have hlt:decide (((q.length:Nat):Int)<(n:Int))=true:=decide_eq_true (by omega)
    have e3:=Ai Try.prog 3 ((q.length:Nat):Int) 1 ⟨by omega,by omega⟩
    have hcast:(((q.length:Nat):Int)+1)=((q.length+1:Nat):Int):=by omega
    have hPx:=hpR x (qR ..)
    refine WC.loop' ?_
    generalize hW:WC E none (Ac.loop Hu) Q=W
    simp only[Hu,K7,Xg,hlt,Qa,Qb,Qc,Qd,Qf,Qh,Qj,Qm,Qn,true_and,Qo,Qp,Qq,Qr,Qs,Qu,Qw,Qy,Rq]
    refine cI hE hn hg x hPx q (Ax T++G) s _ _ (by omega) hp hf hnx (by simpa using hr) ?_
    intro s' y5 y7 g1 g2 g3
    simp only[Xj,e3,hcast,if_true,Qb,Qc,Qd,Qf,Qh,Qi,Qj,Qk,Qm,Qn,true_and,Qo,Qp,Qq,Qr,Qs,Qw,Qy,Qz,Rb]
    rw[← hW]
    refine ih (CZ c x q) s' (q.length+1) _ _ _ (HS c x q) (by rw[HS];omega) (fun y hy=>?_) (fun y hy=>hpR y (qS _ hy)) g3 g2 (by simpa using g1) hk
    rcases(HT c x y q).1 hy with e | e
    · rw[e];exact hPx
    · exact hp y e
theorem cJ       {E : BN}  (hE : Good E) {lo : Nat} {s0 : AF}  {v : AV} {L : List Int} (h : Ct     lo s0 v L) (hL : L.length ≤ 12) {P : Int → Prop} {c : Int → Int → Int} {g : FuncId} {cp : List AV} (hP : ∀ y ∈ L, P y)
    (hg:∀s a b,(∀z,JJ v≠some z→s.heap.get z=s0.heap.get z)→s.next=s0.next→P a→P b→WF E g (iv a::iv b::cp) (fun r s'=>r=iv (c a b)∧s=s') s):
    WF E 75 [v,.func g [] cp] (fun r s'=>Ct lo s' v (GE c L)∧s'.next=s0.next∧∀z,JJ v≠some z→s'.heap.get z=s0.heap.get z) s0:=by
  have e3:=Ai Try.prog 3 0 1 ⟨by omega,by omega⟩
  have e4:(0:Int)+1=1:=rfl
  have h114:WF E 114 [v,iv 0,iv (L.length:Int),.func g [] cp] (fun r s'=>Ct lo s' v (GE c L)∧s'.next=s0.next∧∀z,JJ v≠some z→s'.heap.get z=s0.heap.get z) s0:=by
    refine hE.go dy (by decide) rfl ?_
    rcases h with⟨a,rfl,rfl⟩ | ⟨i,G,rfl,h1,h2,h3⟩
    · simp only[km,R8,e3,e4,rC,show((0:Nat):Int)=0 from rfl,Qa,Qb,Qc,Qd,Qf,Qh,Qi,Qj,Qk,Ql,Qm,Qn,true_and,Qo,Qp,Qq,Qr,Qs,Qw]
      refine WC.loop' ?_
      simp only[Hu,K7,show decide ((1:Int)<0)=false from rfl,if_true,Qa,Qb,Qc,Qd,Qf,Qh,Qj,Qm,Qn,true_and,Qo,Qp,Qq,Qr,Qs,Qv,Qw,Qy,Rb,Rd,Re,Rf,Rq]
      exact⟨.inl ⟨a,rfl,rfl⟩,fun _ _=>trivial⟩
    · simp only[km,R8,e3,e4,Qa,Qb,Qc,Qd,Qf,Qh,Qi,Qj,Qk,Ql,Qm,Qn,true_and,Qo,Qp,Qq,Qr,Qs,Qw]
      cases L with
      | nil =>
        refine WC.loop' ?_
        simp only[Hu,K7,rC,show((0:Nat):Int)=0 from rfl,show decide ((1:Int)<0)=false from rfl,if_true,Qa,Qb,Qc,Qd,Qf,Qh,Qj,Qm,Qn,true_and,Qo,Qp,Qq,Qr,Qs,Qv,Qw,Qy,Rb,Rd,Re,Rf,Rq]
        exact⟨.inr ⟨i,G,rfl,h1,h2,h3⟩,fun _ _=>trivial⟩
      | cons x T =>
        refine WN hE (n:=(x::T).length) (by omega) (s0:=s0) (P:=P) (c:=c) (G:=G) (fun s a b f1 f2 p1 p2=>hg s a b (fun z hz=>f1 z fun e=>hz (by rw[e];rfl)) f2 p1 p2) T [x] s0 1 _ _ _ rfl (by simp;omega) (fun y hy=>hP y (by simp at hy;rw[hy];exact qR ..)) (fun y hy=>hP y (qS _ hy)) (fun _ _=>rfl) rfl (by simpa using h3) ?_
        intro s' y4 y5 y6 y7 g1 g2 g3
        simp only[if_true,Qm,Rb,Rd,Re,Rf]
        exact⟨.inr ⟨i,G,by rw[Nw],h1,by omega,g1⟩,g2,fun z hz=>g3 z fun e=>hz (by rw[e];rfl)⟩
  have d1:decide ((20:Int)≤(L.length:Int))=false:=decide_eq_false (by omega)
  have d2:decide ((20:Int)<(L.length:Int))=false:=decide_eq_false (by omega)
  have ln:∀s,Aq Try.prog s 23 v=some (iv (L.length:Int)):=fun s=>by
    have:=h.slice.len Try.underlying23 s
    rw[EW]at this
    exact this
  have h102:WF E 102 [v,iv (L.length:Int),.func g [] cp] (fun r s'=>Ct lo s' v (GE c L)∧s'.next=s0.next∧∀z,JJ v≠some z→s'.heap.get z=s0.heap.get z) s0:=by
    refine hE.go dk (by decide) rfl ?_
    simp only[nS,W7,W8,Qa,Qb,Qc,Qd,Qf,Qh,Qi,Qj,Ql,Qm,Qn,true_and,Qo,Qp,Qq,Qr,Qs,Qw]
    refine WC.loop' ?_
    simp only[W6,W9,d1,if_true,XA,Qa,Qb,Qc,Qd,Qf,Qh,Qj,Qm,Qn,true_and,Qo,Qp,Qq,Qr,Qs,Qv,Qw,Qy,Qz,Rb,Rt]
    refine h114.mono ?_
    rintro r s' h'
    simp only[Qd,Qn,true_and]
    refine WC.loop' ?_
    simp only[UQ,XB,d2,if_true,Qa,Qb,Qc,Qd,Qf,Qh,Qj,Qm,Qn,true_and,Qo,Qp,Qq,Qr,Qs,Qv,Qw,Qy,Qz,Rb,Rd,Re,Rf,Rq]
    exact h'
  refine hE.go lw (by decide) rfl ?_
  simp only[pu,jE,ln,Qa,Qb,Qc,Qd,Qf,Qh,Qj,Qk,Ql,Qm,Qn,true_and,Qq,Qr,Qs,Rd,Re,Rf]
  refine h102.mono ?_
  rintro r s' h'
  simp only[Qd,Qn,true_and]
  exact h'
theorem NZ{val:List Int}(h:Hf val)(l:Int):isV val l=-1∨isV val l=0∨isV val l=1:=by
 unfold isV
 have:=h.get l.natAbs
 split<;>omega
theorem lF{E:BN}(hE:Good E){ow:Ow}{s:AF}{p:Nat}{x:Sf}{v:Sv}(h:Ah ow s p x v)(h3:Hf v.value){n sb:Nat}(hn:n<100000000)(hval:v.value.length=n+1)(hb:As s sb (AK p)){a b:Int}(ha:VL n a)(hb':VL n b):
  WF E 76 [iv a,iv b,.ptr (some (sb,0))] (fun r s'=>r=iv (isV v.value b - isV v.value a)∧s=s') s:=by
 have l1:=hb.load Dy
 simp only[AK]at l1
 have eqp:FY (.ptr (some (p,0))) (.ptr (some (p,0)))=true:=by simp[FY]
 have ha2:=ha.2
 have hb2:=hb'.2
 have k1:=NZ h3 a
 have k2:=NZ h3 b
 have e3:=DZ Try.prog 3 (isV v.value b) (isV v.value a) ⟨by omega,by omega⟩
 refine hE.go lx (by decide) rfl ?_
 simp only[pw,jF,jG,l1,Qa,Qb,Qc,Qd,Qf,Qh,Qi,Qj,Qk,Ql,Qm,Qn,true_and,Qo,Qp,Qq,Qr,Qs,Qw,Rc,Re,Rf,Rg,Rh,Yc]
 refine(KJ hE h h3 (l:=b) (by omega) (by omega)).mono ?_
 rintro _ _ ⟨rfl,rfl⟩
 simp only[BX,At,l1,eqp,Qd,Qj,Qk,Qn,true_and,and_true,Qq,Qr]
 refine(KJ hE h h3 (l:=a) (by omega) (by omega)).mono ?_
 rintro _ _ ⟨rfl,rfl⟩
 simp only[e3,Qd,Qm,Qn,and_true,Qo,Qp,Qq,Qr]
theorem kU     {E : BN}  (hE : Good E) {ow : Ow} {s : AF}  {p : Nat} {x : Sf} {v : Sv} (h : Ah  ow s p x v) {n sb : Nat} (hn : n < 100000000) (hval : v.value.length = n + 1) (hb : As   s sb (AK   p)) (q : Int) :
    WF E 73 [iv q,.ptr (some (sb,0))] (fun r s'=>r=.bool (!decide (VL n q))∧s=s') s:=by
  have l1:=hb.load Dy
  simp only[AK]at l1
  have e1:=D8 Try.prog (n:Int) ⟨by omega,by omega⟩
  refine hE.go lq (by decide) rfl ?_
  by_cases h0:q=0
  · have hd:decide (VL n q)=false:=decide_eq_false fun k=>k.1 h0
    simp only[pD,ZS,ZT,decide_eq_true h0,hd,Qa,Qb,Qc,Qd,Qf,Qg,Qh,Qi,Qj,Qk,Ql,Qm,Qn,true_and,and_true,Qo,Qp,Qq,Qr,Qs,Qt,Qw,Rc,Re,Rf,Rg,Rh,Rm,Ya,Yb,Yc,Rn,Ro,Rv]
  · simp only[pD,ZS,ZT,decide_eq_false h0,l1,Qa,Qb,Qc,Qd,Qf,Qg,Qh,Qi,Qj,Qk,Ql,Qm,Qn,true_and,Qo,Qp,Qq,Qr,Qs,Qw,Rc,Re,Rf,Rg,Rh,Rm,Yb,Yc,Rn,Ro,Rv]
    refine(PI hE h hn hval).mono ?_
    rintro _ _ ⟨rfl,rfl⟩
    by_cases h1:q < -(n:Int)
    · have hd:decide (VL n q)=false:=decide_eq_false fun k=>by have:=k.2;omega
      simp only[e1,decide_eq_true h1,hd,Qc,Qd,Qm,Qn,true_and,and_true,Qo,Qp,Qq,Qr,Qs,Qt,Rm,Ya,Yb,Rq]
    · simp only[e1,decide_eq_false h1,l1,Qc,Qd,Qm,Qn,true_and,Qq,Qr,Qs,Rm,Yb,Rq]
      refine(PI hE h hn hval).mono ?_
      rintro _ _ ⟨rfl,rfl⟩
      by_cases h2:(n:Int)<q
      · have hd:decide (VL n q)=false:=decide_eq_false fun k=>by have:=k.2;omega
        simp only[decide_eq_true h2,hd,Qc,Qd,Qm,Qn,true_and,and_true,Qo,Qp,Qq,Qr,Qs,Rm,Yb,Rs]
      · have hd:decide (VL n q)=true:=decide_eq_true ⟨h0,by omega⟩
        simp only[decide_eq_false h2,hd,Qc,Qd,Qm,Qn,true_and,and_true,Qo,Qp,Qq,Qr,Qs,Rm,Ya,Yb,Rs]
def Bs(v:Sv)(L:List Int):List Int:=GE (fun a b=>isV v.value b - isV v.value a) (Ef L)
def Fa(v:Sv)(c:Nat)(O:List Int):Sv:=if 1<O.length then IE (Es v c (O,false,false)) c (O.getD 0 0) (O.getD 1 0)else Es v c (O,false,false)
def JI(v:Sv)(c:Nat)(O:List Int):Sv:=
 if isV v.value (O.getD 0 0)<0 then C3 (Fa v c O)
 else if isV v.value (O.getD 0 0)=0∧(O.length=1∨isV v.value (O.getD 1 0)<0)then BR (Fa v c O) (O.getD 0 0) (some c)
 else Fa v c O
inductive JC (b:Sv) (L:List Int):Sv→Prop
 | none (h:KU (Ef L)=true∨b.broken=true):JC b L b
 | nil (h:KU (Ef L)=false) (hb:b.broken=false) (he:Ef L=[]):JC b L (C3 b)
 | put {c:Nat} (h:KU (Ef L)=false) (hb:b.broken=false) (he:Ef L≠[]) (hc:b.cl c=none):JC b L (JI b c (Bs b L))
theorem O3(v:Sv)(c:Nat)(O:List Int):∃ws,Fa v c O={ v with watches:=ws,cl:=AP v.cl c (O,false,false) }∧ws.length=v.watches.length:=by
 unfold Fa
 split
 ·exact⟨_,rfl,by rw[C9,C9];rfl⟩
 ·exact⟨v.watches,rfl,rfl⟩
theorem cm      {E : BN}  (hE : Good E) {ow : Ow} {s : AF}  {p : Nat} {x : Sf} {v : Sv} (h : Ah  ow s p x v) {n : Nat} (hz : fP  n v) (h3 : Hf   v.value) (hT : v.trace.length ≤ 1000000) (hW : CV  v.watches ≤ 90000000) {c sb : Nat} {w : AV} {O : List Int} (hc : v.cl c = none) (hO : A9    n O) (hne : O ≠ []) (hb : As   s sb (AK   p)) (hsb : ow sb = (p, 21, 0) ∧ sb < s.next) (hcl : Ah  ow s p x (Es    v c (O, false, false))) (hw : Bc  ow (p, 15, c) s w (Ax  O)) {K : A0   → Prop} {x1 x3 x5 x7 x8 x9 x10 x11 x12 : AV}
    (hK:∀s' ow' x' V,Ah ow' s' p x' (JI v c O)→AH (Bb p) ow s ow' s'→Uz V 3=iv 0→K ⟨.ret,V,[],s'⟩):
    Qa E none (.seq (.seq (.ops LE) (.cond (.var 10) (.ops Sj) .skip)) (.seq (.block 1 (.seq (.ops LF) (.cond (.var 11) (.ops LG) (.seq (.ops OM) (.cond (.var 12) (.ops LH) .skip))))) (.seq (.ops GN) .ret))) K [AV.ptr (some (p,0)),x1,.ptr (some (sb,0)),x3,w,x5,AK c,x7,x8,x9,x10,x11,x12] [] s:=by
  have hpos:0<O.length:=List.length_pos_iff.2 hne
  have hsm:=hz.small
  have hOl:=hO.2
  have ln:∀s,Aq Try.prog s 23 w=some (iv (O.length:Int)):=fun s=>by
    have:=hw.len Try.underlying23 s
    rw[EW]at this
    exact this
  have hV0:=hO.get hpos
  have hg0:=AR (d:=(0:Int)) hpos
  have i0:AC Try.prog 23 w (iv 0)=some (BA w 0):=hw.addr Try.underlying23 Bt (k:=0) (by rw[EW];exact hpos)
  have d0:decide ((O.length:Int)=0)=false:=decide_eq_false (by omega)
  have rest : ∀ (s1 : AF)  (ow1 : Ow) (y10 : AV), Ah  ow1 s1 p x (Fa   v c O) → AH   (KK    p) ow s ow1 s1 →
      Qa E none (.seq (.block 1 (.seq (.ops LF) (.cond (.var 11) (.ops LG) (.seq (.ops OM) (.cond (.var 12) (.ops LH) .skip))))) (.seq (.ops GN) .ret)) K [AV.ptr (some (p,0)),x1,.ptr (some (sb,0)),x3,w,x5,AK c,x7,x8,x9,y10,x11,x12] [] s1:=by
    intro s1 ow1 y10 h1 st1
    obtain⟨ws,e,hws⟩:=O3 v c O
    have hval:(Fa v c O).value=v.value:=by rw[e]
    have h3':Hf (Fa v c O).value:=by rw[hval];exact h3
    have hsz':fP n (Fa v c O):=by rw[e];exact⟨hz.small,hws.trans hz.w,hz.value,hz.level,hz.why,hz.heat,hz.phase,hz.trail,hz.limits⟩
    have hT':(Fa v c O).trace.length≤1000000:=by rw[e];exact hT
    have hw1:Bc ow1 (p,15,c) s1 w (Ax O):=hw.step st1 (fun q=>by rcases q.2 with q | q<;>cases q)
    have hb1:As s1 sb (AK p):=hb.keep (st1.heap sb hsb.2 (by rw[hsb.1];exact fun q=>by rcases q.2 with q | q<;>cases q))
    have l1:=hb1.load Dy
    simp only[AK]at l1
    have l0:=hw1.get (t:=3) Dg (k:=0) (Au hg0)
    have hvl:=hz.value
    have hV02:=hV0.2
    simp only[LF,ln,d0,l1,i0,l0,AK,Qa,Qb,Qc,Qd,Qf,Qg,Qh,Qi,Qj,Qk,Qm,Qn,true_and,Qq,Qr,Qs,Qw,Qz,Rm,Yb,Rn,Ro,Rv]
    refine(KJ hE h1 h3' (l:=O.getD 0 0) (by rw[hval];omega) (by rw[hval];omega)).mono ?_
    rintro _ _ ⟨rfl,rfl⟩
    rw[hval]
    by_cases hneg:isV v.value (O.getD 0 0)<0
    · simp only[decide_eq_true hneg,LG,l1,Qb,Qc,Qd,Qf,Qh,Qj,Qk,Qm,Qn,true_and,Qo,Qp,Qq,Qr,Qs,Qu,Rm,Yb,Rq]
      refine(Kl hE h1 hT').mono ?_
      rintro _ s2 ⟨ow2,x2,g1,g2,_⟩
      simp only[GN,Qb,Qc,Qd,Qf,Qh,Qi,Qm,Qn,true_and,Qo,Qp,Qs]
      refine hK s2 ow2 x2 _ ?_ (st1.w.trans g2.b) rfl
      unfold JI
      rw[if_pos hneg]
      exact g1
    · simp only[decide_eq_false hneg,OM,l1,i0,l0,Qb,Qc,Qd,Qf,Qg,Qh,Qi,Qj,Qk,Qm,Qn,true_and,Qo,Qp,Qq,Qr,Qs,Qv,Rm,Yb,Rn,Ro,Rq]
      refine(KJ hE h1 h3' (l:=O.getD 0 0) (by rw[hval];omega) (by rw[hval];omega)).mono ?_
      rintro _ _ ⟨rfl,rfl⟩
      rw[hval]
      have asg:isV v.value (O.getD 0 0)=0∧(O.length=1∨isV v.value (O.getD 1 0)<0)→WF E 71 [AV.ptr (some (p,0)),iv (O.getD 0 0),.ptr (some (c,0))] (fun _ s'=>∃ow' x',Ah ow' s' p x' (JI v c O)∧AH (Bb p) ow s ow' s') s1:=by
        intro hc2
        refine(F2 hE h1 hsz' hV0 (some c)).mono ?_
        rintro _ s2 ⟨ow2,x2,g1,g2,_⟩
        refine⟨ow2,x2,?_,st1.w.trans g2.b⟩
        unfold JI
        rw[if_neg hneg,if_pos hc2]
        exact g1
      have non:¬ (isV v.value (O.getD 0 0)=0∧(O.length=1∨isV v.value (O.getD 1 0)<0))→Ah ow1 s1 p x (JI v c O):=by
        intro hc2
        unfold JI
        rw[if_neg hneg,if_neg hc2]
        exact h1
      by_cases hz0:isV v.value (O.getD 0 0)=0
      · have e1:decide ((O.length:Int)=1)=decide (O.length=1):=by
          by_cases q:O.length=1
          · rw[decide_eq_true q,decide_eq_true (by omega)]
          · rw[decide_eq_false q,decide_eq_false (by omega)]
        by_cases hl1:O.length=1
        · simp only[decide_eq_true hz0,ln,e1,decide_eq_true hl1,LH,l1,i0,l0,Qb,Qc,Qd,Qf,Qh,Qi,Qj,Qk,Qm,Qn,true_and,Qo,Qp,Qq,Qr,Qs,Qt,Qu,Rl,Rm,Ya,Rn,Ro,Rv]
          refine(asg ⟨hz0,.inl hl1⟩).mono ?_
          rintro _ s2 ⟨ow2,x2,g1,g2⟩
          simp only[GN,Qb,Qc,Qd,Qf,Qh,Qi,Qm,Qn,true_and,Qo,Qp,Qs]
          exact hK s2 ow2 x2 _ g1 g2 rfl
        · have hV1 := hO.get (k := 1) (by omega)
          have hV12:=hV1.2
          have hg1:=AR (d:=(0:Int)) (show 1<O.length by omega)
          have i1:AC Try.prog 23 w (iv 1)=some (BA w 1):=hw.addr Try.underlying23 Bt (k:=1) (by rw[EW];omega)
          have m1:=hw1.get (t:=3) Dg (k:=1) (Au hg1)
          simp only[decide_eq_true hz0,ln,e1,decide_eq_false hl1,l1,i1,m1,Qc,Qd,Qm,Qn,true_and,Qq,Qr,Qs,Rl,Rm,Yb,Rv]
          refine(KJ hE h1 h3' (l:=O.getD 1 0) (by rw[hval];omega) (by rw[hval];omega)).mono ?_
          rintro _ _ ⟨rfl,rfl⟩
          rw[hval]
          by_cases hn1:isV v.value (O.getD 1 0)<0
          · simp only[decide_eq_true hn1,LH,l1,i0,l0,Qb,Qc,Qd,Qf,Qh,Qi,Qj,Qk,Qm,Qn,true_and,Qo,Qp,Qq,Qr,Qs,Qu,Rl,Rm,Yb,Rn,Ro,Rq]
            refine(asg ⟨hz0,.inr hn1⟩).mono ?_
            rintro _ s2 ⟨ow2,x2,g1,g2⟩
            simp only[GN,Qb,Qc,Qd,Qf,Qh,Qi,Qm,Qn,true_and,Qo,Qp,Qs]
            exact hK s2 ow2 x2 _ g1 g2 rfl
          · simp only[decide_eq_false hn1,GN,Qb,Qc,Qd,Qf,Qh,Qi,Qm,Qn,true_and,Qo,Qp,Qq,Qr,Qs,Qv,Rl,Rm,Yb,Rn,Ro,Rq]
            exact hK s1 ow1 x _ (non (by rintro⟨_,q | q⟩;exact hl1 q;exact hn1 q)) st1.w rfl
      · simp only[decide_eq_false hz0,GN,Qb,Qc,Qd,Qf,Qh,Qi,Qm,Qn,true_and,Qo,Qp,Qq,Qr,Qs,Qt,Qv,Rk,Rl,Rv]
        exact hK s1 ow1 x _ (non (fun q=>hz0 q.1)) st1.w rfl
  have l1:=hb.load Dy
  simp only[AK]at l1
  by_cases h2:1<O.length
  · have d2 : decide ((1 : Int) < (O.length : Int)) = true := decide_eq_true (by omega)
    have e:Fa v c O=IE (Es v c (O,false,false)) c (O.getD 0 0) (O.getD 1 0):=by unfold Fa;rw[if_pos h2]
    unfold Qa
    simp only[LE,ln,d2,Sj,l1,AK,Qa,Qb,Qc,Qd,Qf,Qh,Qi,Qj,Qk,Qm,Qn,true_and,Qo,Qp,Qq,Qr,Qs,Qu,Qw,Qz,Rs]
    refine(RL hE hcl (n:=n) hsm hz.w hW (Ao _ _ _) hO h2).mono ?_
    rintro _ s1 ⟨ow1,g1,g2⟩
    rw[← e]at g1
    have:=rest s1 ow1 (.bool true) g1 g2
    simp only[AK,Qa,Qd,Qj,Qn,true_and,Qw,Qz]at this ⊢
    exact this
  · have d2 : decide ((1 : Int) < (O.length : Int)) = false := decide_eq_false (by omega)
    have e:Fa v c O=Es v c (O,false,false):=by unfold Fa;rw[if_neg h2]
    rw[← e]at hcl
    unfold Qa
    simp only[LE,ln,d2,Qa,Qb,Qc,Qd,Qf,Qh,Qi,Qj,Qk,Qm,Qn,true_and,Qo,Qp,Qq,Qr,Qs,Qv,Qw,Qz,Rs]
    have:=rest s ow (.bool false) hcl (AH.refl _ _ _)
    simp only[AK,Qa,Qj,Qw,Qz]at this ⊢
    exact this
theorem Wo     {E : BN}  (hE : Good E) {ow : Ow} {s : AF}  {p : Nat} {x : Sf} {v : Sv} (h : Ah  ow s p x v) {n : Nat} (hf : Mt  n v) (hv3 : Hf   (Ab    v 0).value) (hT : v.trace.length ≤ 1000000) (hW : CV  v.watches ≤ 90000000) {L : List Int} (hlen : L.length ≤ 12) (hL : ∀ q ∈ L, VL n q) {b : Nat} {u : AV} (hb : b ≤ s.next) (hu : AX      b s u (Ax  L)) (hus : ∀ j, Cn   u = some j → (ow j).1 ≠ p ∧ j < s.next) :
    WF E 36 [AK p,u] (fun r s'=>r=iv 0∧∃v' ow' x',JC (Ab v 0) L v'∧Ah ow' s' p x' v'∧AH (Bb p) ow s ow' s') s:=by
  have hptr:∀i,Made.val i .ptr=.ptr (some (i,0)):=fun _=>rfl
  have hbox:DS 44 (AV.ptr (some (p,0)))=some (AO 44 0 [AK p],.ptr):=by simp[DS,AK,AV.cells]
  have he:=Ea p
  have hsm:=hf.siz.small
  have hval:=hf.siz.value
  have RA:AH (fun _=>False) ow s (ext ow s.next (p,21,0)) (newObj s (AO 44 0 [AK p])):=AH.new _ ow s _ _
  have h0:=h.keep RA (fun _ q=>q.elim)
  have b0:As (newObj s (AO 44 0 [AK p])) s.next (AK p):=As.new
  have l0:=b0.load Dy
  have u0:AX b (newObj s (AO 44 0 [AK p])) u (Ax L):=hu.old (BG.new s _) hb
  have t0:(ext ow s.next (p,21,0)) s.next=(p,21,0):=C2 (qI _)
  have us0:∀j,Cn u=some j→((ext ow s.next (p,21,0)) j).1≠p∧j<s.next:=fun j hj=>by
    obtain⟨q1,q2⟩:=hus j hj
    exact⟨by rw[D1 q2];exact q1,q2⟩
  generalize hs0:newObj s (AO 44 0 [AK p])=s0 at *
  have n0:s0.next=s.next+1:=by rw[← hs0];rfl
  generalize ext ow s.next (p,21,0)=ow0 at *
  have hany:(BH (fun q=>!decide (VL n q)) L 0).isSome=false:=by
    rw[Bool.eq_false_iff,Ne,C5]
    rintro⟨q,hq,hv⟩
    have:=hL q hq
    simp[this]at hv
  simp only[AK]at hbox l0 he
  refine hE.go lK (by decide) rfl ?_
  have hs0':newObj s (AO 44 0 [.ptr (some (p,0))])=s0:=hs0
  simp only[oS,fw,AK,hbox,hs0',hptr,fx,l0,he,fy,rM,rF,Qa,Qb,Qc,Qd,Qf,Qh,Qi,Qj,Qk,Ql,Qm,Qn,true_and,Qo,Qp,Qq,Qr,Qs,Qv,Qw,Qx,Qz,Ra,Rc,Rf,Rg,Rh,Yc]
  refine(GO hE (f:=fun q=>!decide (VL n q)) (g:=73) (cp:=[.ptr (some (s.next,0))]) (fun q hq=>kU hE h0 hsm hval b0 q) (by omega) u0).mono ?_
  rintro _ _ ⟨rfl,rfl⟩
  simp only[hany,fz,l0,Qb,Qc,Qd,Qf,Qh,Qi,Qj,Qk,Qm,Qn,true_and,Qo,Qp,Qq,Qr,Qs,Qv]
  have hback:WF E 63 [.ptr (some (p,0)),.int .i64 0] (fun _ s'=>∃x',Ah ow0 s' p x' (Ab v 0)∧AH (BU p) ow0 s0 ow0 s'∧x'.w=x.w) s0:=DR hE h0 hf (level:=0) (by decide)
  refine hback.mono ?_
  rintro _ s1 ⟨x1,h1,st1,_⟩
  obtain⟨ph,va,wh,tr,li,hd,ebk,z1,z2,z3,z4,z5⟩:=B5 v 0
  have hz1:=hf.siz.back 0
  have hT1:(Ab v 0).trace.length≤1000000:=by rw[ebk];exact hT
  have hW1:CV (Ab v 0).watches≤90000000:=by rw[ebk];exact hW
  generalize Ab v 0=vb at *
  have hn1:=st1.next
  have b1:As s1 s.next (AK p):=b0.keep (st1.heap s.next (by omega) (by rw[t0];exact fun q=>absurd q.2.2.2 (by show ¬ 21<16;omega)))
  have l1:=b1.load Dy
  simp only[AK]at l1
  have u1:AX b s1 u (Ax L):=u0.keep fun j hj=>st1.heap j (by have:=(us0 j hj).2;omega) fun q=>(us0 j hj).1 q.1
  have stA:AH (Bb p) ow s ow0 s1:=(RA.mono fun _ q=>q.elim).trans st1.b
  simp only[f9,Qb,Qc,Qd,Qf,Qh,Qj,Qk,Qm,Qn,true_and,Qq,Qr,Qs,Rp]
  refine(c7 hE hlen (fun q hq=>⟨by have:=(hL q hq).2;omega,by have:=(hL q hq).2;omega⟩) (by omega) u1).mono ?_
  rintro _ s2 ⟨w,rfl,hw,o2⟩
  have h2:=h1.keep (AH.old (m:=fun _=>False) o2 (p,15,s2.next)) (fun _ q=>q.elim)
  have b2:As s2 s.next (AK p):=b1.keep (o2.2 _ (by omega))
  have l2:=b2.load Dy
  have ldb:=h2.ld_broken
  simp only[AK]at l2
  have hx:∀ (a b:AV),(AV.tuple [a,b])=.tuple [a,b]:=fun _ _=>rfl
  cases ht:KU (Ef L)with
  | true =>
    simp only[UT,YZ,Qb,Qc,Qd,Qf,Qg,Qh,Qi,Qj,Qk,Qm,Qn,true_and,Qo,Qp,Qq,Qr,Qs,Qt,Qu,Re,Rm,Ya,Yb,Rn,Ro,Yd,Ye,Rx]
    exact⟨vb,_,x1,.none (.inl ht),h2,stA.trans (AH.old o2 _)⟩
  | false =>
    cases hbr:vb.broken with
    | true =>
      rw[hbr]at ldb
      simp only[UT,YZ,l2,AG,GQ,ldb,Qb,Qc,Qd,Qf,Qg,Qh,Qi,Qj,Qk,Qm,Qn,true_and,Qo,Qp,Qq,Qr,Qs,Qu,Re,Rm,Ya,Yb,Rn,Ro,Yd,Ye,Rx]
      exact⟨vb,_,x1,.none (.inr hbr),h2,stA.trans (AH.old o2 _)⟩
    | false =>
      rw[hbr]at ldb
      simp only[UT,l2,AG,GQ,ldb,gA,rM,rF,Qb,Qc,Qd,Qf,Qg,Qh,Qi,Qj,Qk,Qm,Qn,true_and,Qo,Qp,Qq,Qr,Qs,Qv,Rm,Ya,Yb,Rn,Ro,Yd,Ye,Rx]
      have hVO:∀q∈Ef L,VL n q:=fun q hq=>hL q (Nj hq)
      have hOl:=Is L
      refine(cJ hE hw (by omega) (P:=VL n) (c:=fun a b=>isV vb.value b - isV vb.value a) (g:=76) (cp:=[.ptr (some (s.next,0))]) hVO ?_).mono ?_
      · intro t a b f1 f2 pa pb
        have ot:BG s1.next s2 t:=⟨by omega,fun y hy=>f1 y fun e=>by
          rcases hw with⟨a,r1,r2⟩ | ⟨i,G,r1,r2,r3,r4⟩
          · rw[r1]at e;cases a<;>cases e
          · rw[r1]at e;injection e with e;omega⟩
        have ht':=h1.keep (AH.old (m:=fun _=>False) (o2.trans ot) (0,0,0)) (fun _ q=>q.elim)
        exact lF hE ht' hv3 hsm hz1.value (b2.keep (ot.2 _ (by omega))) pa pb
      rintro _ s3 ⟨hw3,n3,f3⟩
      have o3:BG s1.next s2 s3:=⟨by omega,fun y hy=>f3 y fun e=>by
          rcases hw with⟨a,r1,r2⟩ | ⟨i,G,r1,r2,r3,r4⟩
          · rw[r1]at e;cases a<;>cases e
          · rw[r1]at e;injection e with e;omega⟩
      have o13:BG s1.next s1 s3:=o2.trans o3
      have hO:GE (fun a b=>isV vb.value b - isV vb.value a) (Ef L)=Bs vb L:=rfl
      rw[hO]at hw3
      have hbl:=RW hw3.slice.isCell.2
      have hbx:=Wy hw3.slice.isCell.2 false false
      generalize hs4:newObj s3 (AO 104 0 [w,.bool false,.bool false])=s4
      have n4:s4.next=s3.next+1:=by rw[← hs4];rfl
      have o4:BG s3.next s3 s4:=by rw[← hs4];exact BG.new s3 _
      have o14:BG s1.next s1 s4:=o13.trans (o4.mono (by have:=o13.1;omega))
      have hbn:DM s4 s3.next [w,.bool false,.bool false]:=by rw[← hs4];exact DM.new
      have hlO:(Bs vb L).length=(Ef L).length:=Nw _ _
      have b4:As s4 s.next (AK p):=b1.keep (o14.2 _ (by omega))
      have l4:=b4.load Dy
      simp only[AK]at l4
      have st4:AH (fun _=>False) ow0 s1 (fun j=>if j<s1.next then ow0 j else if j=s3.next then (p,14,s3.next)else (p,15,s3.next)) s4:=⟨o14.1,fun j hj _=>if_pos hj,fun j hj _=>o14.2 j hj⟩
      have tc:(fun j=>if j<s1.next then ow0 j else if j=s3.next then (p,14,s3.next)else (p,15,s3.next):Ow) s3.next=(p,14,s3.next):=by
        show(if _ then _ else if _ then _ else _:Bh)=_
        rw[if_neg (by have:=o13.1;omega),if_pos rfl]
      have tr':∀i,s1.next≤i→i<s3.next→(fun j=>if j<s1.next then ow0 j else if j=s3.next then (p,14,s3.next)else (p,15,s3.next):Ow) i=(p,15,s3.next):=fun i r1 r2=>by
        show(if _ then _ else if _ then _ else _:Bh)=_
        rw[if_neg (by omega),if_neg (by omega)]
      have tb:(fun j=>if j<s1.next then ow0 j else if j=s3.next then (p,14,s3.next)else (p,15,s3.next):Ow) s.next=(p,21,0):=by
        show(if _ then _ else if _ then _ else _:Bh)=_
        rw[if_pos (by omega)];exact t0
      have h4:=h1.keep st4 (fun _ q=>q.elim)
      generalize (fun j=>if j<s1.next then ow0 j else if j=s3.next then (p,14,s3.next)else (p,15,s3.next):Ow)=ow4 at *
      have stB:AH (Bb p) ow s ow4 s4:=stA.trans (st4.mono fun _ q=>q.elim)
      by_cases hnil:Ef L=[]
      · have hO0 : Bs     vb L = [] := by unfold Bs;     rw [hnil]; rfl
        have lnw:∀s,Aq Try.prog s 23 w=some (iv 0):=fun s=>by
          have:=hw3.slice.len Try.underlying23 s
          rw[hO0]at this
          exact this
        have d1:decide ((1:Int)<0)=false:=rfl
        simp only[Si,hbl,hbx,hs4,hptr,LE,lnw,d1,LF,decide_true,LG,l4,Qb,Qc,Qd,Qf,Qg,Qh,Qi,Qj,Qk,Qm,Qn,true_and,Qo,Qp,Qq,Qr,Qs,Qt,Qu,Qv,Re,Rm,Ya,Rn,Ro,Rs,Rv]
        refine(Kl hE h4 hT1).mono ?_
        rintro _ s5 ⟨ow5,x5,g1,g2,_⟩
        simp only[GN,Qb,Qc,Qd,Qf,Qh,Qi,Qm,Qn,true_and,Qo,Qp,Qq,Qr,Qs]
        exact⟨C3 vb,ow5,x5,.nil ht hbr hnil,g1,stB.trans g2.b⟩
      · have hOne : Bs     vb L ≠ [] := fun e => hnil (List.length_eq_zero_iff.1 (by rw [← hlO, e]; rfl))
        have hOk:A9 n (Bs vb L):=⟨fun q hq=>hVO q ((WO _ _ _).1 hq),by omega⟩
        have hfresh:vb.cl s3.next=none:=by
          cases hcc:vb.cl s3.next with
          | none=>rfl
          | some l =>
            obtain⟨_,_,_,q,_⟩:=h1.cls _ l hcc
            have:=o13.1
            omega
        have hw4:Ct s1.next s4 w (Bs vb L):=hw3.keep (by omega) fun j r1 r2=>o4.2 j r2
        have hwb:Bc ow4 (p,15,s3.next) s4 w (Ax (Bs vb L)):=hw4.buf hOne fun i _ _ e=>by
          rcases hw3 with⟨a,r1,r2⟩ | ⟨j,G,r1,r2,r3,r4⟩
          · exact absurd r2 hOne
          · rw[r1]at e
            injection e with e
            subst e
            exact tr' j r2 r3
        have hcl4:Ah ow4 s4 p x1 (Es vb s3.next (Bs vb L,false,false)):=h4.clause hfresh ⟨w,hbn,tc,by omega,hwb⟩
        have hK:=cm hE h4 hz1 hv3 hT1 hW1 hfresh hOk hOne b4 ⟨tb,by have:=o14.1;omega⟩ hcl4 hwb (K:=Ends Try.prog oS.results (fun r s'=>r=iv 0∧∃v' ow' x',JC vb L v'∧Ah ow' s' p x' v'∧AH (Bb p) ow s ow' s')) (x1:=u) (x3:=iv 0) (x5:=.bool true) (x7:=.bool false) (x8:=.bool false) (x9:=.bool false) (x10:=BJ) (x11:=BJ) (x12:=BJ) ?_
        · simp only [Si,     hbl, hbx, hs4, hptr, Qb, Qc, Qd, Qf, Qh, Qj, Qk, Qm, Qn, true_and, Qo, Qp, Qq, Qr, Qs]
          simp only[AK,Qa,Qj,Qw,Qz,Rc]at hK
          exact hK
        · intro s' ow' x' V g1 g2 g3
          simp only[oS,g3,Qj,Qm,true_and,Rc,Re,Rf,Rg,Rh,Yc]
          exact⟨_,ow',x',.put ht hbr hnil hfresh,g1,stB.trans g2⟩
def Bw(v:Sv):Sv:={ v with many:=Dt .i64 (v.many+1) }
def Cu(v:Sv)(b:Nat):Sv:=BR { v with limits:=v.limits++[(v.trail.length:Int)] } ((b:Int) * v.phase.getD b 0) none
def GS(v:Sv):Sv:=Ab { v with model:=v.value } 0
abbrev Gi:EC:=⟨[],0,[],0,0⟩
structure IP(n most:Nat)(I:Nat→Sv→Prop)(R:Int→Sv→Prop):Prop where
 ok:∀ {k v},I k v→k≤most∧F0 n 50000000 v
 brk:∀ {k v},I k v→v.broken=true→R 0 v
 mid:∀ {k v c v1},I k v→v.broken=false→B9 v c v1→v1.trace.length≤1000000∧v1.learned.length≤100000000∧(v1.learned.length:Int)<v1.room∧(∀c ls b,v1.cl c=some (ls,b)→A9 n ls)∧∀b,1≤b→b≤n→v1.phase.getD b 0=1∨v1.phase.getD b 0=-1
 fail:∀ {k v c v1},I k v→v.broken=false→B9 v (some c) v1→v1.limits=[]→R 0 (C3 v1)
 unk:∀ {k v c v1},I k v→v.broken=false→B9 v (some c) v1→v1.limits≠[]→most≤k→R 2 (Ab v1 0)
 lrn:∀ {k v c v1},I k v→v.broken=false→B9 v (some c) v1→v1.limits≠[]→k<most→∃r,B4 v1 c Gi v1.trail.length 0 r∧A9 n (AT v1 r)∧0≤r.lev∧r.lev<100000000 ∧
  ∀h cn,h.length=v1.heat.length→v1.cl cn=none→I (k+1) (A8 (Ab (BB (Bw v1) h) r.lev.toNat) cn (AT v1 r))
 cool:∀ {k v v1},I k v→v.broken=false→B9 v none v1→∀h,h.length=v1.heat.length→I k (Ab (BB v1 h) 0)∧(Ab (BB v1 h) 0).learned=v1.learned
 maybe:∀ {k v v1},I k v→v.broken=false→B9 v none v1→(∀j,1≤j→j<n+1→v1.value.getD j 0≠0)→R 1 (GS v1)
 dec:∀ {k v v1 b},I k v→v.broken=false→B9 v none v1→1≤b→b≤n→v1.value.getD b 0=0→I k (Cu v1 b)
theorem B4.many{v:Sv}{c at_:Nat}{a r:EC}{l:Int}(h:B4 v c a at_ l r):B4 (Bw v) c a at_ l r:=by
 induction h with
 | last hc ha hs ho=>exact .last (v:=Bw v) hc ha hs ho
 | more hc ha hs ho hw hr ih=>exact .more (v:=Bw v) hc ha hs ho hw ih
theorem FV{v:Sv}:v.trail.length≤(A5 v).2.trail.length:=by
 unfold A5 MR
 have:=J7 (n:=0) (l:=-(v.trail.getD v.head.toNat 0)) (v.watches.getD (place (-(v.trail.getD v.head.toNat 0))) []) [] (B3 v (place (-(v.trail.getD v.head.toNat 0))))
 dsimp only
 split<;>exact this
theorem B9.trail{v v':Sv}{r:Option Nat}(h:B9 v r v'):v.trail.length≤v'.trail.length:=by
 induction h with
 | done _=>exact qI _
 | more h1 h2 _ ih =>
  have:=FV (v:=‹Sv›)
  rename_i v v1 v' r _
  have:=FV (v:=v)
  rw[h2]at this
  exact qV this ih
 | bad h1 h2 =>
  rename_i v v1 c
  have:=FV (v:=v)
  rw[h2]at this
  exact this
section
variable{E:BN}{K:List AV→AF→Prop}{ow:Ow}{s:AF}{p:Nat}{x:Sf}{v:Sv}
theorem fK(h:Ah ow s p x v){x1 x2 x3 x4 x5 x6 x7 x8 x9 x10 x11 x12 x13:AV}(hK:∀s',Ah ow s' p x (Bw v)→AH (BU p) ow s ow s'→K [AV.ptr (some (p,0)),x1,x2,x3,x4,x5,x6,x7,x8,x9,x10,x11,x12,x13] s'):
  Qb E SS K [] [AV.ptr (some (p,0)),x1,x2,x3,x4,x5,x6,x7,x8,x9,x10,x11,x12,x13] s:=by
 obtain⟨s',g1,g2,g3,g4⟩:=h.set_many (Dt .i64 (v.many+1))
 simp only[SS,AG,eB,h.ld_many,PU,BV,g1,AU,Qb,Qc,Qd,Qf,Qh,Qi,Qj,Qk,Qm,Qn,true_and,Qq,Qr,Qs]
 exact hK s' g2 g3
theorem fL(hE:Good E)(h:Ah ow s p x (Bw v)){n:Nat}(hn:n≤500000)(hf:Mt n v)(hcl:∀c ls b,v.cl c=some (ls,b)→A9 n ls){c:Nat}{r:EC}(hr:B4 v c Gi v.trail.length 0 r)(hL:A9 n (AT v r))(hl0:0≤r.lev)(hl1:r.lev<100000000)(hT:v.trace.length≤1000000)(hW:CV v.watches≤90000000)(hle:v.learned.length≤100000000){x1 x2 x3 x4 x6 x7 x8 x9 x10 x11 x12 x13:AV}
  (hK:∀s' ow' x' h' cn,h'.length=v.heat.length→v.cl cn=none→Ah ow' s' p x' (A8 (Ab (BB (Bw v) h') r.lev.toNat) cn (AT v r))→AH (Bb p) ow s ow' s'→K [AV.ptr (some (p,0)),x1,x2,x3,x4,.ptr (some (c,0)),x6,x7,x8,x9,x10,x11,x12,x13] s'):
  Qb E ST K [] [AV.ptr (some (p,0)),x1,x2,x3,x4,.ptr (some (c,0)),x6,x7,x8,x9,x10,x11,x12,x13] s:=by
 have hfm:Mt n (Bw v):=⟨⟨hf.siz.small,hf.siz.w,hf.siz.value,hf.siz.level,hf.siz.why,hf.siz.heat,hf.siz.phase,hf.siz.trail,hf.siz.limits⟩,hf.val,hf.lits,hf.lims⟩
 have hlm:AT (Bw v) r=AT v r:=rfl
 have hcl':∀c ls b,(Bw v).cl c=some (ls,b)→A9 n ls:=hcl
 have hr':B4 (Bw v) c Gi (Bw v).trail.length 0 r:=hr.many
 simp only[ST,Qb,Qc,Qd,Qf,Qh,Qj,Qk,Qn,true_and,Qq,Qr,Qs,Rp]
 refine(bF hE h (by omega) hfm hcl' hr').mono ?_
 rintro _ s1 ⟨lv,ow1,h',rfl,I1,h1,hl,b1,st1⟩
 rw[hlm]at b1
 have hf1:Mt n (BB (Bw v) h'):=⟨⟨hf.siz.small,hf.siz.w,hf.siz.value,hf.siz.level,hf.siz.why,hl.trans hf.siz.heat,hf.siz.phase,hf.siz.trail,hf.siz.limits⟩,hf.val,hf.lits,hf.lims⟩
 have e:iv r.lev=iv ((r.lev.toNat:Nat):Int):=by rw[Int.toNat_of_nonneg hl0]
 have hlen:(AT v r).length=r.lits.length+1:=by
  unfold AT
  split
  ·rfl
  ·rw[DH];rfl
 have hsm:=I1.small
 have hle':=I1.len
 simp only[Qd,Qm,Qn,true_and,Qq,Yd,Ye]
 rw[e]
 refine(eJ hE h1 hf1 (level:=r.lev.toNat) (by omega) b1 hL (by omega) (by omega) hT hW hle).mono ?_
 rintro _ s2 ⟨cn,ow2,x2,f1,f2,f3⟩
 simp only[Qd,Qn,true_and]
 exact hK s2 ow2 x2 h' cn hl f1 f2 (st1.trans f3)
theorem fM(hE:Good E)(h:Ah ow s p x v){n:Nat}(hn:n≤500000)(hval:v.value.length=n+1){x1 x2 x3 x4 x5 x6 x7 x8 x9 x10 x11 x12 x13:AV}(hK:∀s' ow' x',Ah ow' s' p x' { v with model:=v.value }→AH (Bb p) ow s ow' s'→K [AV.ptr (some (p,0)),x1,x2,x3,x4,x5,x6,x7,x8,x9,x10,x11,x12,x13] s'):
  Qb E Sa K [] [AV.ptr (some (p,0)),x1,x2,x3,x4,x5,x6,x7,x8,x9,x10,x11,x12,x13] s:=by
 simp only[Sa,AG,En,h.ld_val,Qb,Qc,Qd,Qf,Qh,Qj,Qk,Qm,Qn,true_and,Qq,Qr,Qs]
 refine(Gz hE (L:=v.value) (qI _) h.value.slice (by omega)).mono ?_
 rintro u s1 ⟨hu,ho⟩
 have st:AH (fun _=>False) ow s (ext ow s.next (p,11,0)) s1:=AH.old ho _
 have h1:=h.keep st (fun _ q=>q.elim)
 have hub:Bc (ext ow s.next (p,11,0)) (p,11,0) s1 u (Ax v.value):=by
  rcases hu with⟨a,r1,r2⟩ | ⟨i,r1,r2,r3,r4⟩
  ·rw[r2]at hval;cases hval
  ·have hb:Ct s.next s1 u v.value:=.inr ⟨i,[],r1,r2,r3,by simpa using r4⟩
   exact hb.buf (fun e=>by rw[e]at hval;cases hval) fun j q1 _ _=>C2 q1
 obtain⟨s2,g1,g2,g3,g4⟩:=h1.set_model hub
 simp only[Of,AG,BV,g1,AU,Qd,Qm,Qn,true_and,Qq]
 exact hK s2 _ _ g2 ((st.mono fun _ q=>q.elim).trans g3.b)
theorem fN(h:Ah ow s p x v)(hl:v.limits.length≤1000000000){x1 x2 x3 x4 x5 x6 x7 x8 x9 x10 x11 x12 x13:AV}(hK:∀s' ow' x',Ah ow' s' p x' { v with limits:=v.limits++[(v.trail.length:Int)] }→AH (Bb p) ow s ow' s'→K [AV.ptr (some (p,0)),x1,x2,x3,x4,x5,x6,x7,x8,x9,x10,x11,x12,x13] s'):
  Qb E Sd K [] [AV.ptr (some (p,0)),x1,x2,x3,x4,x5,x6,x7,x8,x9,x10,x11,x12,x13] s:=by
 have hms:∀ (m:Nat) (i:Nat),Made.val i (.slice m)=.slice (some (i,0)) m (some m):=fun _ _=>rfl
 have ln:∀s,Aq Try.prog s 23 x.tr=some (iv (v.trail.length:Int)):=fun s=>by
  have:=h.trail.len Try.underlying23 s
  rw[qK]at this
  exact this
 have bl:=Ck (P:=Try.prog) (t:=23) (v:=iv (v.trail.length:Int)) Try.underlying23 Bt RN rfl rfl
 have st:AH (fun _=>False) ow s (ext ow s.next (0,0,0)) (newObj s (AO 3 1 [iv (v.trail.length:Int)])):=AH.new _ ow s _ _
 have h1:=h.keep st (fun _ q=>q.elim)
 obtain⟨u,s1,s2,ow',g1,g2,g3,g4⟩:=h1.push_limits hl (v.trail.length:Int) (q:=s.next) (ty:=3) (sz':=1) (by rw[AQ,if_pos rfl])
 simp only[Sd,AG,FM,G2,h.ld_lim,h.ld_tr,ln,bl,hms,g1,BV,g2,AU,Qb,Qc,Qd,Qf,Qh,Qj,Qk,Qm,Qn,true_and,Qq,Qr,Qs,Yc]
 exact hK s2 ow' _ g3 ((st.mono fun _ q=>q.elim).trans (g4.n (by decide) (by decide) (by decide)).b)
end
theorem Oy{x y:Int}(h:y.natAbs=x.natAbs):y=x∨y=-x:=by omega
theorem A7.pos   {n : Nat} {v : Sv} (h : A7   n v) {x : Int} (hx : x ≠ 0) : 0 < Go.Proofs.Ytilhhmkdcoajnaa.Am.isV v.value x ↔ x ∈ v.trail := by
  constructor
  · intro hp
    by_cases hno:∀y∈v.trail,y.natAbs≠x.natAbs
    · have:=h.open_ _ hno
      exfalso
      unfold Go.Proofs.Ytilhhmkdcoajnaa.Am.isV at hp
      rw[this]at hp
      split at hp<;>omega
    · have:∃y∈v.trail,y.natAbs=x.natAbs:=by
        simpa using hno
      obtain⟨y,hy,e⟩:=this
      rcases Oy e with e | e
      · rw[← e];exact hy
      · have h1:=h.isV hy
        rw[e,Kp _ hx]at h1
        omega
  · intro hm
    rw[h.isV hm];decide
theorem A7.neg{n:Nat}{v:Sv}(h:A7 n v){x:Int}(hx:x≠0):Go.Proofs.Ytilhhmkdcoajnaa.Am.isV v.value x<0↔-x∈v.trail:=by
 rw[← h.pos (x:=-x) (by omega),Kp _ hx]
 omega
theorem A7.zero{n:Nat}{v:Sv}(h:A7 n v){x:Int}(hx:x≠0)(h1:x ∉ v.trail)(h2:-x ∉ v.trail):v.value.getD x.natAbs 0=0:=by
 apply F9
 have a:=h.pos hx
 have b:=h.neg hx
 have:¬ 0<Go.Proofs.Ytilhhmkdcoajnaa.Am.isV v.value x:=fun q=>h1 (a.1 q)
 have:¬ Go.Proofs.Ytilhhmkdcoajnaa.Am.isV v.value x<0:=fun q=>h2 (b.1 q)
 omega
theorem A7.one{n:Nat}{v:Sv}(h:A7 n v){i j:Nat}{x y:Int}(hi:v.trail[i]? = some x)(hj:v.trail[j]? = some y)(e:x.natAbs=y.natAbs):i=j:=by
 have hl:i<(v.trail.map Int.natAbs).length:=by rw[qK];exact Ag hi
 refine(List.getElem?_inj hl h.nodup).1 ?_
 rw[qs,qs,hi,hj]
 show some _=some _
 rw[e]
theorem A7.two{n:Nat}{v:Sv}(h:A7 n v){x:Int}(h1:x∈v.trail)(h2:-x∈v.trail):False:=by
 obtain⟨i,hi,e1⟩:=rU h1
 obtain⟨j,hj,e2⟩:=rU h2
 have k1:v.trail[i]? = some x:=by rw[qP hi,e1]
 have k2:v.trail[j]? = some (-x):=by rw[qP hj,e2]
 have:=h.one k1 k2 (by omega)
 subst this
 rw[k1]at k2
 injection k2 with k2
 have:=(h.fit.lits x h1).1
 omega
theorem B6{l:List Int}{k:Nat}{x:Int}:x∈l.take k↔∃i,i<k∧l[i]? = some x:=by
 rw[List.mem_take_iff_getElem]
 constructor
 ·rintro⟨j,hm,e⟩
  have hj:j<l.length:=by omega
  exact⟨j,by omega,by rw[qP hj,e]⟩
 ·rintro⟨i,hi,e⟩
  have hl:=Ag e
  refine⟨i,by omega,?_⟩
  rw[qP hl]at e
  injection e
theorem CS{l:List Int}{x:Int}:x∈l↔∃i:Nat,l[i]? = some x:=List.mem_iff_getElem?
def HX(L:List Int)(i:Nat):Nat:=L.countP fun x=>decide (x≤(i:Int))
theorem Ox(A B:List Int)(i:Nat):HX (A++B) i=HX A i+HX B i:=sB
theorem Th(L:List Int)(i:Nat):HX L i≤L.length:=List.countP_le_length
theorem Io{L:List Int}{i:Nat}(h:∀x∈L,x≤(i:Int)):HX L i=L.length:=by
 unfold HX
 rw[List.countP_eq_length]
 intro a ha
 exact decide_eq_true (h a ha)
theorem QC{L:List Int}{i:Nat}(h:∀x∈L,(i:Int)<x):HX L i=0:=by
 unfold HX
 rw[List.countP_eq_zero]
 intro a ha
 have:=h a ha
 simp
 omega
theorem QB{L:List Int}{i j:Nat}(h:i≤j):HX L i≤HX L j:=by
 unfold HX
 refine List.countP_mono_left fun x _ hx=>?_
 have hx:=of_decide_eq_true hx
 exact decide_eq_true (by omega)
theorem CP{L:List Int}(hs:L.Pairwise (·<·)){k:Nat}{t:Int}(hk:L[k]? = some t):(∀x∈L.take k,x<t)∧∀x∈L.drop k,t≤x:=by
 have hl:=Ag hk
 have e:L.drop k=t::L.drop (k+1):=by
  rw[List.drop_eq_getElem_cons hl]
  congr 1
  rw[qP hl]at hk
  injection hk
 have hs':(L.take k++L.drop k).Pairwise (·<·):=by rw[rg];exact hs
 rw[List.pairwise_append]at hs'
 obtain⟨h1,h2,h3⟩:=hs'
 refine⟨fun x hx=>h3 x hx t (by rw[e];exact qR ..),fun x hx=>?_⟩
 rw[e]at hx h2
 rcases qp.1 hx with q | q
 ·omega
 ·have:=(sD.1 h2).1 x q
  omega
theorem MI{L:List Int}(hs:L.Pairwise (·<·)){k i:Nat}{t:Int}(hk:L[k]? = some t)(hi:(i:Int)<t):HX L i=HX (L.take k) i∧HX L i≤k:=by
 have e:HX L i=HX (L.take k) i:=by
  have h:=Ox (L.take k) (L.drop k) i
  rw[rg]at h
  rw[h,QC (L:=L.drop k) fun x hx=>by have:=(CP hs hk).2 x hx;omega]
  omega
 refine⟨e,?_⟩
 rw[e]
 have:=Th (L.take k) i
 rw[qb]at this
 omega
theorem MH{L:List Int}(hs:L.Pairwise (·<·)){k i:Nat}{t:Int}(hk:L[k]? = some t)(hi:t≤(i:Int)):k+1≤HX L i:=by
 have hl:=Ag hk
 have h:=Ox (L.take (k+1)) (L.drop (k+1)) i
 rw[rg]at h
 have hf:HX (L.take (k+1)) i=(L.take (k+1)).length:=Io fun x hx=>by
  obtain⟨j,hj,e⟩:=B6.1 hx
  rcases qN j k with q | q
  ·have:=(CP hs hk).1 x (B6.2 ⟨j,q,e⟩)
   omega
  ·have:j=k:=by omega
   subst this
   rw[hk]at e
   injection e with e
   omega
 rw[hf,qb]at h
 omega
structure CT(n:Nat)(v:Sv):Prop where
 inv:A7 n v
 sorted:v.limits.Pairwise (·<·)
 below:∀x∈v.limits,x<(v.trail.length:Int)
 lev:∀ (i:Nat) (x:Int),v.trail[i]? = some x→v.level.getD x.natAbs 0=(HX v.limits i:Int)
 why:∀ (i:Nat) (x:Int),v.trail[i]? = some x→(v.why.getD x.natAbs none=none∧(i:Int)∈v.limits)∨∃c ls b,v.why.getD x.natAbs none=some c∧v.cl c=some (ls,b)∧ls.getD 0 0=x∧∀y∈ls,y≠x→-y∈v.trail.take i
 cls:∀c ls b,v.cl c=some (ls,b)→A9 n ls∧ls≠[]∧(ls.map Int.natAbs).Nodup∧b.2=false
theorem CT.of{n:Nat}{v v':Sv}(h:CT n v)(hi:A7 n v')(h1:v'.trail=v.trail)(h2:v'.limits=v.limits)(h3:v'.level=v.level)(h4:v'.why=v.why)(h5:v'.cl=v.cl):CT n v':=
 ⟨hi,by rw[h2];exact h.sorted,by rw[h1,h2];exact h.below,by rw[h1,h2,h3];exact h.lev,by rw[h1,h2,h4,h5];exact h.why,by rw[h5];exact h.cls⟩
theorem CT.lim{n:Nat}{v:Sv}(h:CT n v):∀x∈v.limits,0≤x:=fun x hx=>(h.inv.fit.lims x hx).1
theorem G4{l:List Int}{x y:Int}{i:Nat}(h:(l++[x])[i]? = some y):(i<l.length∧l[i]? = some y)∨(i=l.length∧y=x):=by
 rcases qN i l.length with q | q
 ·rw[qX q]at h;exact .inl ⟨q,h⟩
 ·rw[qY q]at h
  have:i - l.length<1:=Ag h
  have e:i - l.length=0:=by omega
  rw[e]at h
  exact .inr ⟨by omega,by simpa using h.symm⟩
theorem getD_set_ne{α:Type}{l:List α}{k j:Nat}{a d:α}(h:j≠k):(l.set k a).getD j d=l.getD j d:=by
 rw[qe,qe,qc,if_neg fun e=>h e.symm]
theorem Bq{α:Type}{l:List α}{k:Nat}{a d:α}(h:k<l.length):(l.set k a).getD k d=a:=by
 rw[F5 h,if_pos rfl]
theorem A7.abs_ne{n:Nat}{v:Sv}(h:A7 n v){x y:Int}(hx:v.value.getD x.natAbs 0=0)(hy:y∈v.trail):y.natAbs≠x.natAbs:=fun e=>by
 have:=h.holds y hy
 rw[e,hx]at this
 rcases Ku y with q | q<;>omega
theorem CT.assign{n:Nat}{v:Sv}(h:CT n v){x:Int}(hx:VL n x)(ho:v.value.getD x.natAbs 0=0){c:Nat}{ls:List Int}{b:Bool×Bool}(hc:v.cl c=some (ls,b))(h0:ls.getD 0 0=x)(hr:∀y∈ls,y≠x→-y∈v.trail):CT n (BR v x (some c)):=by
 have hz:=h.inv.fit.siz
 have hi:=h.inv.assign hx ho (some c)
 have hne:∀ {i:Nat} {y:Int},v.trail[i]? = some y→y.natAbs≠x.natAbs:=fun hy=>h.inv.abs_ne ho (qL hy)
 have hlx:x.natAbs<v.level.length:=by rw[hz.level];have:=hx.2;omega
 have hwx:x.natAbs<v.why.length:=by rw[hz.why];have:=hx.2;omega
 refine⟨hi,h.sorted,fun y hy=>?_,fun i y hy=>?_,fun i y hy=>?_,h.cls⟩
 ·have:=h.below y hy
  show y<((v.trail++[x]).length:Int)
  rw[qM];simp;omega
 ·show(v.level.set _ _).getD _ 0=(HX v.limits i:Int)
  rcases G4 hy with⟨h1,h2⟩ | ⟨h1,h2⟩
  ·rw[getD_set_ne (hne h2)];exact h.lev i y h2
  ·subst h2
   rw[Bq hlx,h1,Io fun z hz=>by have:=h.below z hz;omega]
 ·show((v.why.set _ _).getD _ none=none∧_)∨∃d ls b,(v.why.set _ _).getD _ none=some d∧v.cl d=some (ls,b)∧ls.getD 0 0=y∧∀z∈ls,z≠y→-z∈(v.trail++[x]).take i
  rcases G4 hy with⟨h1,h2⟩ | ⟨h1,h2⟩
  ·rw[getD_set_ne (hne h2),qm (by omega)]
   exact h.why i y h2
  ·subst h2
   rw[Bq hwx,h1,qm (by omega),qr]
   exact .inr ⟨c,ls,b,rfl,hc,h0,hr⟩
theorem T2{L:List Int}(hs:L.Pairwise (·<·)){m:Nat}(h0:∀x∈L,0≤x)(hm:∀x∈L,x<(m:Int)):L.length≤m:=by
 have hnd:(L.map fun x=>x.toNat+1).Nodup:=by
  rw[List.Nodup,List.pairwise_map]
  refine List.Pairwise.imp_of_mem ?_ hs
  intro a b ha hb hab
  have:=h0 a ha
  have:=h0 b hb
  omega
 have:=DG hnd (n:=m) fun k hk=>by
  obtain⟨x,hx,rfl⟩:=List.mem_map.1 hk
  have:=h0 x hx
  have:=hm x hx
  omega
 simpa using this
theorem A7.room{n:Nat}{v:Sv}(h:A7 n v){x:Int}(hx:VL n x)(ho:v.value.getD x.natAbs 0=0):v.trail.length+1≤n:=by
 have:=(h.assign hx ho none).fit.siz.trail
 have e:(BR v x none).trail=v.trail++[x]:=rfl
 rw[e,qM]at this
 exact this
theorem CT.guess {n : Nat} {v : Sv} (h : CT n v) {x : Int} (hx : VL n x) (ho : v.value.getD x.natAbs 0 = 0) : CT n (BR      { v with limits := v.limits ++ [(v.trail.length : Int)] } x none) := by
  have hz:=h.inv.fit.siz
  have hroom:=h.inv.room hx ho
  have hlen:=T2 h.sorted h.lim h.below
  have hi0:A7 n { v with limits:=v.limits++[(v.trail.length:Int)] }:=by
    obtain⟨⟨hz,hv,hli,hlm⟩,g2,g3,g4,g5⟩:=h.inv
    refine⟨⟨⟨hz.small,hz.w,hz.value,hz.level,hz.why,hz.heat,hz.phase,hz.trail,?_⟩,hv,hli,fun y hy=>?_⟩,g2,g3,g4,g5⟩
    · show(v.limits++[_]).length≤n
      rw[qM];simp;omega
    · rcases List.mem_append.1 hy with q | q
      · exact hlm y q
      · rw[List.mem_singleton.1 q]
        exact⟨by omega,by show(v.trail.length:Int)≤v.trail.length;omega⟩
  have hi:=hi0.assign hx ho none
  have hne:∀ {i:Nat} {y:Int},v.trail[i]? = some y→y.natAbs≠x.natAbs:=fun hy=>h.inv.abs_ne ho (qL hy)
  have hlx:x.natAbs<v.level.length:=by rw[hz.level];have:=hx.2;omega
  have hwx:x.natAbs<v.why.length:=by rw[hz.why];have:=hx.2;omega
  refine⟨hi,?_,fun y hy=>?_,fun i y hy=>?_,fun i y hy=>?_,h.cls⟩
  · show(v.limits++[_]).Pairwise (·<·)
    rw[List.pairwise_append]
    exact⟨h.sorted,by simp,fun a ha b hb=>by rw[List.mem_singleton.1 hb];exact h.below a ha⟩
  · show y<((v.trail++[x]).length:Int)
    rw[qM]
    have hy:y∈v.limits++[(v.trail.length:Int)]:=hy
    rcases List.mem_append.1 hy with q | q
    · have:=h.below y q;simp;omega
    · rw[List.mem_singleton.1 q];simp;omega
  · show(v.level.set _ ((v.limits++[_]).length:Int)).getD _ 0=(HX (v.limits++[(v.trail.length:Int)]) i:Int)
    have hy:(v.trail++[x])[i]? = some y:=hy
    rcases G4 hy with⟨h1,h2⟩ | ⟨h1,h2⟩
    · rw[getD_set_ne (hne h2),Ox,QC (L:=[(v.trail.length:Int)]) fun z hz=>by rw[List.mem_singleton.1 hz];omega]
      exact h.lev i y h2
    · subst h2
      rw[Bq hlx,h1,Io fun z hz=>by
        rcases List.mem_append.1 hz with q | q
        · have:=h.below z q;omega
        · rw[List.mem_singleton.1 q];omega]
  · show((v.why.set _ _).getD _ none=none∧(i:Int)∈v.limits++[_])∨∃d ls b,(v.why.set _ _).getD _ none=some d∧v.cl d=some (ls,b)∧ls.getD 0 0=y∧∀z∈ls,z≠y→-z∈(v.trail++[x]).take i
    have hy:(v.trail++[x])[i]? = some y:=hy
    rcases G4 hy with⟨h1,h2⟩ | ⟨h1,h2⟩
    · rw [getD_set_ne (hne h2), qm                            (by omega)]
      rcases h.why i y h2 with⟨q1,q2⟩ | q
      · exact .inl ⟨q1,qW _ q2⟩
      · exact .inr q
    · subst h2
      rw[Bq hwx,h1]
      exact .inl ⟨rfl,ql _ (List.mem_singleton.2 rfl)⟩
theorem CT.perm {n : Nat} {v : Sv} (h : CT n v) {c : Nat} {ls ls' : List Int} {b : Bool × Bool} (hc : v.cl c = some (ls, b)) (hp : ls'.Perm ls) (h0 : ls.getD 0 0 ∈ v.trail → ls'.getD 0 0 = ls.getD 0 0) (hi : A7   n { v with cl := AP    v.cl c (ls', b) }) : CT n { v with cl := AP    v.cl c (ls', b) } := by
  refine⟨hi,h.sorted,h.below,h.lev,fun i x hx=>?_,fun d ms b' hd=>?_⟩
  · rcases h.why i x hx with q | ⟨d, ms, b', q1, q2, q3, q4⟩
    · exact .inl q
    · by_cases e : d = c
      · subst e
        rw[hc]at q2
        injection q2 with q2
        injection q2 with q2 q2'
        subst q2
        exact .inr ⟨d,ls',b,q1,Ao _ _ _,by rw[h0 (by rw[q3];exact qL hx)];exact q3,fun y hy=>q4 y (hp.mem_iff.1 hy)⟩
      · exact .inr ⟨d,ms,b',q1,by show AP _ _ _ d=_;unfold AP;rw[if_neg e];exact q2,q3,q4⟩
  · have hd:AP v.cl c (ls',b) d=some (ms,b'):=hd
    unfold AP at hd
    by_cases e:d=c
    · rw[if_pos e]at hd
      injection hd with hd
      injection hd with hd hd'
      subst hd;subst hd'
      obtain⟨k1,k2,k3,k4⟩:=h.cls c ls b hc
      exact⟨⟨fun y hy=>k1.1 y (hp.mem_iff.1 hy),by rw[hp.length_eq];exact k1.2⟩,fun q=>k2 (by have:=hp.length_eq;rw[q]at this;exact List.length_eq_zero_iff.1 this.symm),((hp.map _).nodup_iff).2 k3,k4⟩
    · rw[if_neg e]at hd
      exact h.cls d ms b' hd
theorem CT.put{n:Nat}{v:Sv}(h:CT n v){c:Nat}{ls:List Int}{b:Bool×Bool}(hc:v.cl c=none)(hk:A9 n ls)(hne:ls≠[])(hnd:(ls.map Int.natAbs).Nodup)(hb:b.2=false)(hi:A7 n { v with cl:=AP v.cl c (ls,b) }):CT n { v with cl:=AP v.cl c (ls,b) }:=by
  refine⟨hi,h.sorted,h.below,h.lev,fun i x hx=>?_,fun d ms b' hd=>?_⟩
  · rcases h.why i x hx with q | ⟨d, ms, b', q1, q2, q3, q4⟩
    · exact .inl q
    · have e:d≠c:=fun e=>by rw[e,hc]at q2;cases q2
      exact .inr ⟨d,ms,b',q1,by show AP _ _ _ d=_;unfold AP;rw[if_neg e];exact q2,q3,q4⟩
  · have hd:AP v.cl c (ls,b) d=some (ms,b'):=hd
    unfold AP at hd
    by_cases e:d=c
    · rw[if_pos e]at hd
      injection hd with hd
      injection hd with hd hd'
      subst hd;subst hd'
      exact⟨hk,hne,hnd,hb⟩
    · rw[if_neg e]at hd
      exact h.cls d ms b' hd
theorem RG:∀ (D:List Int)(v:Sv),(∀x∈D,x.natAbs<v.value.length)→∀j,(D.foldl C7 v).value.getD j 0=if j∈D.map Int.natAbs then 0 else v.value.getD j 0
 | [],v,_,j=>by simp
 | x::D,v,h,j=>by
  have hx:=h x (qR ..)
  rw[q0,RG D (C7 v x) (fun y hy=>by show y.natAbs<(v.value.set _ _).length;rw[qQ];exact h y (qS _ hy)) j]
  show(if j∈D.map Int.natAbs then (0:Int)else (v.value.set x.natAbs 0).getD j 0)=_
  rw[rI]
  by_cases h1:j∈D.map Int.natAbs
  ·rw[if_pos h1,if_pos (qS _ h1)]
  ·rw[if_neg h1]
   by_cases e:j=x.natAbs
   ·rw[e,Bq hx,if_pos (qR ..)]
   ·rw[getD_set_ne e,if_neg (by rw[qp];rintro(q | q);exact e q;exact h1 q)]
theorem RH:∀ (D:List Int)(v:Sv),(∀x∈D,x.natAbs<v.why.length)→∀j,(D.foldl C7 v).why.getD j none=if j∈D.map Int.natAbs then none else v.why.getD j none
 | [],v,_,j=>by simp
 | x::D,v,h,j=>by
  have hx:=h x (qR ..)
  rw[q0,RH D (C7 v x) (fun y hy=>by show y.natAbs<(v.why.set _ _).length;rw[qQ];exact h y (qS _ hy)) j]
  show(if j∈D.map Int.natAbs then none else (v.why.set x.natAbs none).getD j none)=_
  rw[rI]
  by_cases h1:j∈D.map Int.natAbs
  ·rw[if_pos h1,if_pos (qS _ h1)]
  ·rw[if_neg h1]
   by_cases e:j=x.natAbs
   ·rw[e,Bq hx,if_pos (qR ..)]
   ·rw[getD_set_ne e,if_neg (by rw[qp];rintro(q | q);exact e q;exact h1 q)]
def DX(n:Nat)(v:Sv):Prop:=∀k,1≤k→k≤n→v.phase.getD k 0=1∨v.phase.getD k 0=-1
theorem Mn{n:Nat}:∀ (D:List Int)(v:Sv),DX n v→(D.map Int.natAbs).Nodup→(∀x∈D,v.value.getD x.natAbs 0=1∨v.value.getD x.natAbs 0=-1)→(∀x∈D,x.natAbs<v.phase.length)→DX n (D.foldl C7 v)
 | [],v,h,_,_,_=>h
 | x::D,v,h,hd,hv,hl=>by
  rw[rI,rf]at hd
  rw[q0]
  have hx:=hl x (qR ..)
  refine Mn D (C7 v x) ?_ hd.2 (fun y hy=>?_) (fun y hy=>by show y.natAbs<(v.phase.set _ _).length;rw[qQ];exact hl y (qS _ hy))
  ·intro k h1 h2
   show(v.phase.set x.natAbs _).getD k 0=1∨(v.phase.set x.natAbs _).getD k 0=-1
   by_cases e:k=x.natAbs
   ·rw[e,Bq hx];exact hv x (qR ..)
   ·rw[getD_set_ne e];exact h k h1 h2
  ·show(v.value.set x.natAbs 0).getD y.natAbs 0=1∨(v.value.set x.natAbs 0).getD y.natAbs 0=-1
   rw[getD_set_ne fun e=>hd.1 (by rw[← e];exact List.mem_map_of_mem hy)]
   exact hv y (qS _ hy)
theorem CT.back {n : Nat} {v : Sv} (h : CT n v) {k : Nat} {t : Int} (hk : v.limits[k]? = some t) : CT n (Ab    v k) ∧ (Ab    v k).trail = v.trail.take t.toNat ∧ (Ab    v k).limits = v.limits.take k ∧ (Ab    v k).head = t ∧ (DX      n v → DX      n (Ab    v k)) := by
  have hkl:=Ag hk
  have htm:t∈v.limits:=qL hk
  have ht0:=h.lim t htm
  have htl:=h.below t htm
  have hgd:v.limits.getD k 0=t:=E3 hk
  have e:Ab v k=Gu v t.toNat k:=by
    unfold Ab
    rw[if_neg (by omega),hgd]
  rw[e]
  have hz:=h.inv.fit.siz
  have hsplit:v.trail=v.trail.take t.toNat++v.trail.drop t.toNat:=(rg _ _).symm
  have hnd:=h.inv.nodup
  rw[hsplit,qx,rH]at hnd
  obtain⟨nd1,nd2,nd3⟩:=hnd
  have hDm:∀x∈v.trail.drop t.toNat,x∈v.trail:=fun x hx=>sA hx
  have hAm:∀x∈v.trail.take t.toNat,x∈v.trail:=fun x hx=>qg hx
  have hDl:∀x∈v.trail.drop t.toNat,x.natAbs<n+1:=fun x hx=>by have:=(h.inv.fit.lits x (hDm x hx)).2;omega
  obtain⟨ph,va,wh,ef,z1,z2,z3⟩:=G3 (v.trail.drop t.toNat) v
  have hval:=RG (v.trail.drop t.toNat) v (fun x hx=>by rw[hz.value];exact hDl x hx)
  have hwhy:=RH (v.trail.drop t.toNat) v (fun x hx=>by rw[hz.why];exact hDl x hx)
  have hphase:=fun hp:DX n v=>Mn (v.trail.drop t.toNat) v hp nd2 (fun x hx=>by
    have:=h.inv.holds x (hDm x hx)
    rw[this]
    rcases Ku x with q | q<;>rw[q]<;>simp) (fun x hx=>by rw[hz.phase];exact hDl x hx)
  have notD:∀x∈v.trail.take t.toNat,x.natAbs ∉ (v.trail.drop t.toNat).map Int.natAbs:=fun x hx q=>nd3 _ (List.mem_map_of_mem hx) _ q rfl
  unfold Gu
  rw[ef]at hval hwhy hphase ⊢
  have hlt:(v.trail.take t.toNat).length=t.toNat:=by rw[qb];omega
  have hlim:∀x∈v.limits.take k,x<t:=(CP h.sorted hk).1
  have hinv:A7 n { v with phase:=ph,value:=va,why:=wh,trail:=v.trail.take t.toNat,limits:=v.limits.take k,head:=(t.toNat:Int) }:=by
    refine⟨⟨⟨hz.small,hz.w,z2.trans hz.value,hz.level,z3.trans hz.why,hz.heat,z1.trans hz.phase,?_,?_⟩,?_,?_,?_⟩,nd1,?_,?_,h.inv.wc⟩
    · show(v.trail.take _).length≤n
      have:=hz.trail
      omega
    · show(v.limits.take _).length≤n
      have:=hz.limits
      rw[qb];omega
    · intro y hy
      obtain⟨j,hj,ej⟩:=rU hy
      have hj':va.getD j 0=y:=by rw[qe,qP hj,ej];rfl
      have:=hval j
      dsimp only at this
      rw[hj']at this
      rw[this]
      split
      · exact .inr (.inl rfl)
      · exact h.inv.fit.val.get j
    · intro x hx;exact h.inv.fit.lits x (hAm x hx)
    · intro x hx
      have:=hlim x hx
      have h0:=h.lim x (qg hx)
      refine⟨h0,?_⟩
      show x≤((v.trail.take t.toNat).length:Int)
      rw[hlt];omega
    · intro x hx
      show va.getD x.natAbs 0=GG x
      have:=hval x.natAbs
      dsimp only at this
      rw[this,if_neg (notD x hx)]
      exact h.inv.holds x (hAm x hx)
    · intro j hj
      show va.getD j 0=0
      have:=hval j
      dsimp only at this
      rw[this]
      by_cases q:j∈(v.trail.drop t.toNat).map Int.natAbs
      · rw[if_pos q]
      · rw [if_neg q]
        refine h.inv.open_ j fun x hx e=>?_
        rw[hsplit]at hx
        rcases List.mem_append.1 hx with hx | hx
        · exact hj x hx e
        · exact q (by rw[← e];exact List.mem_map_of_mem hx)
  refine⟨⟨hinv,?_,?_,?_,?_,h.cls⟩,rfl,rfl,?_,hphase⟩
  · exact h.sorted.sublist (List.take_sublist _ _)
  · intro x hx
    show x<((v.trail.take t.toNat).length:Int)
    rw[hlt]
    have:=hlim x hx
    omega
  · intro i x hx
    have hx:(v.trail.take t.toNat)[i]? = some x:=hx
    have hil:=Ag hx
    rw[qq (by omega)]at hx
    show v.level.getD x.natAbs 0=(HX (v.limits.take k) i:Int)
    rw[h.lev i x hx,(MI h.sorted hk (by omega)).1]
  · intro i x hx
    have hx':(v.trail.take t.toNat)[i]? = some x:=hx
    have hil:=Ag hx'
    have hmem:=qL hx'
    have hx:v.trail[i]? = some x:=by rw[qq (by omega)]at hx';exact hx'
    have hw:wh.getD x.natAbs none=v.why.getD x.natAbs none:=by
      have:=hwhy x.natAbs
      dsimp only at this
      rw[this,if_neg (notD x hmem)]
    show(wh.getD x.natAbs none=none∧(i:Int)∈v.limits.take k)∨∃c ls b,wh.getD x.natAbs none=some c∧v.cl c=some (ls,b)∧ls.getD 0 0=x∧∀y∈ls,y≠x→-y∈(v.trail.take t.toNat).take i
    rw[hw,rh,rX (by omega)]
    rcases h.why i x hx with⟨q1,q2⟩ | q
    · refine .inl ⟨q1,?_⟩
      obtain⟨m,hm⟩:=CS.1 q2
      refine B6.2 ⟨m,?_,hm⟩
      rcases qN m k with hmk | hmk
      · exact hmk
      · exfalso
        have:(i:Int)∈v.limits.drop k:=by
          rw[CS]
          exact⟨m - k,by rw[qk,show k+(m - k)=m by omega];exact hm⟩
        have:=(CP h.sorted hk).2 _ this
        omega
    · exact .inr q
  · show(t.toNat:Int)=t
    omega
theorem NB{v:Sv}{k:Nat}(h:v.limits.length≤k):Ab v k=v:=by unfold Ab;rw[if_pos h]
abbrev lv(v:Sv)(x:Int):Int:=v.level.getD x.natAbs 0
def HP(v:Sv)(h:Nat)(ls:List Int):Prop:=(-(ls.getD 0 0)∈v.trail.take h→ls.getD 1 0∈v.trail∧lv v (ls.getD 1 0)≤lv v (ls.getD 0 0))∧(-(ls.getD 1 0)∈v.trail.take h→ls.getD 0 0∈v.trail∧lv v (ls.getD 0 0)≤lv v (ls.getD 1 0))
theorem Ft{l:List Int}{i j:Nat}(h:i≤j){x:Int}(hx:x∈l.take i):x∈l.take j:=by
 obtain⟨k,h1,h2⟩:=B6.1 hx
 exact B6.2 ⟨k,by omega,h2⟩
theorem HP.mono{v:Sv}{h h':Nat}{ls:List Int}(k:HP v h ls)(hh:h'≤h):HP v h' ls:=⟨fun q=>k.1 (Ft hh q),fun q=>k.2 (Ft hh q)⟩
structure CW(v:Sv)(h:Nat)(X:List Nat):Prop where
 wat:∀c ls b,v.cl c=some (ls,b)→2≤ls.length→c∈v.watches.getD (place (ls.getD 0 0)) []∧c∈v.watches.getD (place (ls.getD 1 0)) []
 wcl:∀ (k:Nat) c ls b,c∈v.watches.getD k []→v.cl c=some (ls,b)→k=place (ls.getD 0 0)∨k=place (ls.getD 1 0)
 wnd:∀k,(v.watches.getD k []).Nodup
 wok:∀c ls b,v.cl c=some (ls,b)→2≤ls.length→HP v (h - 1) ls∧(c ∉ X→HP v h ls)
theorem CW.weak{v:Sv}{h h':Nat}{X:List Nat}(k:CW v h X)(hh:h'≤h - 1):CW v h' []:=
 ⟨k.wat,k.wcl,k.wnd,fun c ls b hc h2=>⟨(k.wok c ls b hc h2).1.mono (by omega),fun _=>(k.wok c ls b hc h2).1.mono hh⟩⟩
theorem CW.less{v:Sv}{h h':Nat}(k:CW v h [])(hh:h'≤h):CW v h' []:=
 ⟨k.wat,k.wcl,k.wnd,fun c ls b hc h2=>⟨((k.wok c ls b hc h2).2 (by simp)).mono (by omega),fun _=>((k.wok c ls b hc h2).2 (by simp)).mono hh⟩⟩
def Bx(a b:Nat→Option A6):Prop:=∀c,(a c=none→b c=none)∧∀ls t,a c=some (ls,t)→∃ls',b c=some (ls',t)∧ls'.Perm ls
theorem Bx.refl(a:Nat→Option A6):Bx a a:=fun c=>⟨fun h=>h,fun ls t h=>⟨ls,h,List.Perm.refl _⟩⟩
theorem Bx.trans{a b d:Nat→Option A6}(h:Bx a b)(k:Bx b d):Bx a d:=fun c=>⟨fun q=>(k c).1 ((h c).1 q),fun ls t q=>by
 obtain⟨l1,q1,q2⟩:=(h c).2 ls t q
 obtain⟨l2,q3,q4⟩:=(k c).2 l1 t q1
 exact⟨l2,q3,q4.trans q2⟩⟩
theorem Bx.back{a b:Nat→Option A6}(h:Bx a b){c:Nat}{ls:List Int}{t:Bool×Bool}(k:b c=some (ls,t)):∃ls',a c=some (ls',t)∧ls.Perm ls':=by
 cases hc:a c with
 | none=>rw[(h c).1 hc]at k;cases k
 | some l =>
  obtain⟨ls',t'⟩:=l
  obtain⟨l2,q1,q2⟩:=(h c).2 ls' t' hc
  rw[k]at q1
  injection q1 with q1
  injection q1 with q1 q1'
  subst q1;subst q1'
  exact⟨ls',rfl,q2⟩
theorem Bx.put{a:Nat→Option A6}{c:Nat}{ls ls':List Int}{t:Bool×Bool}(h:a c=some (ls,t))(hp:ls'.Perm ls):Bx a (AP a c (ls',t)):=fun d=>by
  unfold AP
  by_cases e:d=c
  · rw [if_pos e, e]
    refine⟨fun q=>(by rw[h]at q;cases q),fun ms u q=>?_⟩
    rw[h]at q
    injection q with q
    injection q with q1 q2
    subst q1;subst q2
    exact⟨ls',rfl,hp⟩
  · rw[if_neg e]
    exact⟨fun q=>q,fun ms u q=>⟨ms,q,List.Perm.refl _⟩⟩
structure FE(v v':Sv):Prop where
 tr:∃T,v'.trail=v.trail++T
 lev:∀x,(x∈v.trail∨-x∈v.trail)→lv v' x=lv v x
 cl:Bx v.cl v'.cl
 limits:v'.limits=v.limits
 learned:v'.learned=v.learned
 heat:v'.heat=v.heat
 phase:v'.phase=v.phase
 broken:v'.broken=v.broken
 model:v'.model=v.model
 trace:v'.trace=v.trace
 many:v'.many=v.many
 room:v'.room=v.room
theorem FE.refl(v:Sv):FE v v:=⟨⟨[],(re _).symm⟩,fun _ _=>rfl,Bx.refl _,rfl,rfl,rfl,rfl,rfl,rfl,rfl,rfl,rfl⟩
theorem FE.mem{v v':Sv}(h:FE v v'){x:Int}(hx:x∈v.trail):x∈v'.trail:=by
 obtain⟨T,e⟩:=h.tr
 rw[e];exact qW _ hx
theorem FE.trans{v v1 v2:Sv}(h:FE v v1)(k:FE v1 v2):FE v v2:=by
 obtain⟨T,e⟩:=h.tr
 obtain⟨U,f⟩:=k.tr
 exact⟨⟨T++U,by rw[f,e,qz]⟩,fun x hx=>(k.lev x (hx.imp h.mem h.mem)).trans (h.lev x hx),h.cl.trans k.cl,k.limits.trans h.limits,k.learned.trans h.learned,k.heat.trans h.heat,k.phase.trans h.phase,k.broken.trans h.broken,k.model.trans h.model,k.trace.trans h.trace,k.many.trans h.many,k.room.trans h.room⟩
theorem FE.of{v v' w w':Sv}(h:FE v v')(a1:w.trail=v.trail)(a2:w.level=v.level)(a3:w.cl=v.cl)(a4:w.limits=v.limits)(a5:w.learned=v.learned)(a6:w.heat=v.heat)(a7:w.phase=v.phase)(a8:w.broken=v.broken)(a9:w.model=v.model)(a10:w.trace=v.trace)(a11:w.many=v.many)(a12:w.room=v.room)
  (b1:w'.trail=v'.trail) (b2:w'.level=v'.level) (b3:w'.cl=v'.cl) (b4:w'.limits=v'.limits) (b5:w'.learned=v'.learned) (b6:w'.heat=v'.heat) (b7:w'.phase=v'.phase) (b8:w'.broken=v'.broken) (b9:w'.model=v'.model) (b10:w'.trace=v'.trace) (b11:w'.many=v'.many) (b12:w'.room=v'.room):FE w w':=
 ⟨by rw[a1,b1];exact h.tr,by unfold lv;rw[a1,a2,b2];exact h.lev,by rw[a3,b3];exact h.cl,by rw[a4,b4];exact h.limits,by rw[a5,b5];exact h.learned,by rw[a6,b6];exact h.heat,by rw[a7,b7];exact h.phase,by rw[a8,b8];exact h.broken,by rw[a9,b9];exact h.model,by rw[a10,b10];exact h.trace,by rw[a11,b11];exact h.many,by rw[a12,b12];exact h.room⟩
theorem IB{ls:List Int}{i j:Nat}(hi:i<ls.length)(hj:j<ls.length):(Ap ls i j).Perm ls:=by
 have:=List.set_set_perm hi hj
 unfold Ap
 rw[qe,qe,qP hi,qP hj]
 exact this
theorem U9{ls:List Int}{i j:Nat}(hj:j<ls.length):(Ap ls i j).getD j 0=ls.getD i 0:=by
 unfold Ap
 rw[Bq (by rw[qQ];exact hj)]
theorem PD{ls:List Int}{i j:Nat}(hi:i<ls.length)(hne:i≠j):(Ap ls i j).getD i 0=ls.getD j 0:=by
 unfold Ap
 rw[getD_set_ne hne,Bq hi]
theorem RF{ls:List Int}{i j k:Nat}(h1:k≠i)(h2:k≠j):(Ap ls i j).getD k 0=ls.getD k 0:=by
 unfold Ap
 rw[getD_set_ne h2,getD_set_ne h1]
theorem EP{ls:List Int}(h:(ls.map Int.natAbs).Nodup){i j:Nat}(hi:i<ls.length)(hj:j<ls.length)(e:(ls.getD i 0).natAbs=(ls.getD j 0).natAbs):i=j:=by
 refine(List.getElem?_inj (by rw[qK];exact hi) h).1 ?_
 rw[qs,qs,AR (d:=(0:Int)) hi,AR (d:=(0:Int)) hj]
 show some _=some _
 rw[e]
theorem Lu{val:List Int}:∀ {l:List Int}{k:Nat},Cg val l k=none→∀y∈l,Go.Proofs.Ytilhhmkdcoajnaa.Am.isV val y<0
  | [],k,_,y,hy=>by cases hy
  | x::l,k,h,y,hy=>by
    unfold Cg at h
    split at h
    · cases h
    · rename_i hx
      rcases qp.1 hy with e | e
      · rw[e];omega
      · exact Lu h y e
theorem Uv{ls:List Int}(h2:2≤ls.length){y:Int}(hy:y∈ls):y=ls.getD 0 0∨y=ls.getD 1 0∨y∈ls.drop 2:=by
 obtain⟨i,hi,e⟩:=rU hy
 have hg:ls[i]? = some y:=by rw[qP hi,e]
 match i,hg with
 | 0,hg=>exact .inl (E3 hg).symm
 | 1,hg=>exact .inr (.inl (E3 hg).symm)
 | i+2,hg=>exact .inr (.inr (qL (i:=i) (by rw[qk,show 2+i=i+2 by omega];exact hg)))
theorem VW{W:List (List Nat)}{w k:Nat}{M:List Nat}(hw:w<W.length):(W.set w M).getD k []=if k=w then M else W.getD k []:=F5 hw
theorem Ie{W:List (List Nat)}{w k c:Nat}(hw:w<W.length):(Cx W w c).getD k []=if k=w then W.getD w []++[c]else W.getD k []:=F5 hw
def D9(v:Sv)(w:Nat)(M:List Nat):Sv:=setW v (v.watches.set w M)
def Fy(v:Sv)(c:Nat)(l:Int):Prop:=∃ls b,v.cl c=some (ls,b)∧2≤ls.length∧(∀y∈ls,-y∈v.trail)∧l∈ls
theorem Gb{v:Sv}{w k:Nat}{M:List Nat}(hw:w<v.watches.length):(D9 v w M).watches.getD k []=if k=w then M else v.watches.getD k []:=VW hw
theorem mi{ls:List Int}(h2:2≤ls.length)(hnd:(ls.map Int.natAbs).Nodup){l:Int}(hl:l=ls.getD 0 0∨l=ls.getD 1 0):
    (if ls.getD 0 0=l then Ap ls 0 1 else ls).Perm ls∧(if ls.getD 0 0=l then Ap ls 0 1 else ls).getD 1 0=l∧((if ls.getD 0 0=l then Ap ls 0 1 else ls).getD 0 0=ls.getD 1 0∧l=ls.getD 0 0∨(if ls.getD 0 0=l then Ap ls 0 1 else ls)=ls∧l=ls.getD 1 0):=by
  by_cases h:ls.getD 0 0=l
  · rw[if_pos h]
    exact⟨IB (by omega) (by omega),by rw[U9 (by omega)];exact h,.inl ⟨PD (by omega) (by omega),h.symm⟩⟩
  · rw [if_neg h]
    rcases hl with e | e
    · exact absurd e.symm h
    · exact⟨List.Perm.refl _,e.symm,.inr ⟨rfl,e⟩⟩
theorem CW.clause{v v':Sv}{h:Nat}{X X':List Nat}{c:Nat}{ls ls':List Int}{b:Bool×Bool}(hW:CW v h X)(hX:∀d,d≠c→(d∈X→d∈X'))(hc:v.cl c=some (ls,b))(hcl:v'.cl=AP v.cl c (ls',b))(hw:v'.watches=v.watches)(hlen:ls'.length=ls.length)
    (hp:(place (ls'.getD 0 0)=place (ls.getD 0 0)∧place (ls'.getD 1 0)=place (ls.getD 1 0))∨(place (ls'.getD 0 0)=place (ls.getD 1 0)∧place (ls'.getD 1 0)=place (ls.getD 0 0)))
    (hother:∀d ms t,d≠c→v.cl d=some (ms,t)→2≤ms.length→∀hh,hh≤h→HP v hh ms→HP v' hh ms) (hself:2≤ls.length→HP v' (h - 1) ls'∧(c ∉ X'→HP v' h ls')):CW v' h X':=by
  have get:∀ {d:Nat} {ms:List Int} {t:Bool×Bool},v'.cl d=some (ms,t)→(d=c∧ms=ls'∧t=b)∨(d≠c∧v.cl d=some (ms,t)):=by
    intro d ms t hd
    rw[hcl]at hd
    unfold AP at hd
    by_cases e:d=c
    · rw[if_pos e]at hd
      injection hd with hd
      injection hd with q1 q2
      exact .inl ⟨e,q1.symm,q2.symm⟩
    · rw[if_neg e]at hd
      exact .inr ⟨e,hd⟩
  refine⟨fun d ms t hd h2=>?_,fun k d ms t hk hd=>?_,fun k=>by rw[hw];exact hW.wnd k,fun d ms t hd h2=>?_⟩
  · rw [hw]
    rcases get hd with⟨rfl,rfl,rfl⟩ | ⟨e,q⟩
    · have:=hW.wat d ls t hc (by omega)
      rcases hp with⟨p1,p2⟩ | ⟨p1,p2⟩
      · rw[p1,p2];exact this
      · rw[p1,p2];exact⟨this.2,this.1⟩
    · exact hW.wat d ms t q h2
  · rw [hw] at hk
    rcases get hd with⟨rfl,rfl,rfl⟩ | ⟨e,q⟩
    · have:=hW.wcl k d ls t hk hc
      rcases hp with⟨p1,p2⟩ | ⟨p1,p2⟩
      · rw[p1,p2];exact this
      · rw[p1,p2];exact this.symm
    · exact hW.wcl k d ms t hk q
  · rcases get hd with ⟨rfl, rfl, rfl⟩ | ⟨e, q⟩
    · exact hself (by omega)
    · obtain⟨r1,r2⟩:=hW.wok d ms t q h2
      exact⟨hother d ms t e q h2 _ (by omega) r1,fun hx=>hother d ms t e q h2 _ (qI _) (r2 fun hd'=>hx (hX d e hd'))⟩
theorem cP       {n h : Nat} {v : Sv} {c : Nat} {l : Int} {ls : List Int} {b : Bool × Bool} {K rest : List Nat} (hC : CT n v) (hW : CW (D9    v (place l) (K ++ c :: rest)) h (c :: rest)) (h1 : 1 ≤ h) (hh : h ≤ v.trail.length) (hl : v.trail[h - 1]? = some (-l)) (hll : lv v l = (v.limits.length : Int)) (hc : v.cl c = some (ls, b)) (h2 : 2 ≤ ls.length) (hwl : place l < v.watches.length) :
    FE v (AZ v c l ls b).2.2∧CT n (AZ v c l ls b).2.2 ∧
    ((AZ v c l ls b).2.1=false→CW (D9 (AZ v c l ls b).2.2 (place l) ((if (AZ v c l ls b).1=true then K++[c]else K)++rest)) h rest) ∧
    ((AZ v c l ls b).2.1=true→(AZ v c l ls b).1=true∧CW (D9 (AZ v c l ls b).2.2 (place l) (K++c::rest)) h (c::rest)∧Fy (AZ v c l ls b).2.2 c l):=by
  obtain⟨hcl,hne,hnd,hgone⟩:=hC.cls c ls b hc
  have hi:=hC.inv
  have hlt:-l∈v.trail:=qL hl
  have hl0:l≠0:=by have:=(hi.fit.lits _ hlt).1;omega
  have hlf:l ∉ v.trail:=fun q=>hi.two q hlt
  have hlh:-l∈v.trail.take h:=B6.2 ⟨h - 1,by omega,hl⟩
  have hn0:∀k,k<ls.length→ls.getD k 0≠0:=fun k hk=>(hcl.get hk).1
  have hcv:(D9 v (place l) (K++c::rest)).cl c=some (ls,b):=hc
  have hlw:l=ls.getD 0 0∨l=ls.getD 1 0:=by
    rcases hW.wcl (place l) c ls b (by rw[Gb hwl,if_pos rfl];simp) hcv with q | q
    · exact .inl (EQ hl0 (hn0 0 (by omega)) q)
    · exact .inr (EQ hl0 (hn0 1 (by omega)) q)
  have hKnd:(K++c::rest).Nodup:=by
    have:=hW.wnd (place l)
    rw[Gb hwl,if_pos rfl]at this
    exact this
  have hcK:c ∉ K∧c ∉ rest:=by
    rw[rH]at hKnd
    exact⟨fun q=>hKnd.2.2 c q c (qR ..) rfl,(rf.1 hKnd.2.1).1⟩
  unfold AZ
  rw[if_neg (by rw[hgone];decide)]
  dsimp only
  obtain⟨hp,hg1,hturn⟩:=mi h2 hnd hlw
  generalize (if ls.getD 0 0=l then Ap ls 0 1 else ls)=ls1 at hp hg1 hturn ⊢
  have hl1:ls1.length=ls.length:=hp.length_eq
  have hcl1:A9 n ls1:=⟨fun y hy=>hcl.1 y (hp.mem_iff.1 hy),by rw[hl1];exact hcl.2⟩
  have hnd1:(ls1.map Int.natAbs).Nodup:=((hp.map _).nodup_iff).2 hnd
  have hw0:ls1.getD 0 0≠0:=(hcl1.get (k:=0) (by omega)).1
  have hwl':ls1.getD 0 0≠l:=fun e=>by
    have:=EP hnd1 (i:=0) (j:=1) (by omega) (by omega) (by rw[e,hg1])
    cases this
  have hpp:(place (ls1.getD 0 0)=place (ls.getD 0 0)∧place (ls1.getD 1 0)=place (ls.getD 1 0))∨(place (ls1.getD 0 0)=place (ls.getD 1 0)∧place (ls1.getD 1 0)=place (ls.getD 0 0)):=by
    rcases hturn with⟨q1,q2⟩ | ⟨q1,q2⟩
    · exact .inr ⟨by rw[q1],by rw[hg1,← q2]⟩
    · rw[q1];exact .inl ⟨rfl,rfl⟩
  have hwokm:HP v (h - 1) ls1:=by
    have:=(hW.wok c ls b hcv h2).1
    have this:HP v (h - 1) ls:=this
    rcases hturn with⟨q1,q2⟩ | ⟨q1,q2⟩
    · unfold HP
      rw[q1,hg1,q2]
      exact⟨this.2,this.1⟩
    · rw[q1];exact this
  have hCT1:CT n { v with cl:=AP v.cl c (ls1,b) }:=hC.perm hc hp (fun q=>by
    rcases hturn with⟨q1,q2⟩ | ⟨q1,q2⟩
    · rw[← q2]at q;exact absurd q hlf
    · rw[q1]) (hi.swap hc hcl1 (by omega))
  have hP1:FE v { v with cl:=AP v.cl c (ls1,b) }:=⟨⟨[],(re _).symm⟩,fun _ _=>rfl,Bx.put hc hp,rfl,rfl,rfl,rfl,rfl,rfl,rfl,rfl,rfl⟩
  have hcl1':({ v with cl:=AP v.cl c (ls1,b) }:Sv).cl c=some (ls1,b):=Ao _ _ _
  have stayW:∀ (v':Sv) (X':List Nat),v'.cl=AP v.cl c (ls1,b)→v'.watches=v.watches→(∀d,d≠c→(d∈c::rest→d∈X'))→(∀ (ms:List Int) hh,hh≤h→HP v hh ms→HP v' hh ms)→(HP v' (h - 1) ls1∧(c ∉ X'→HP v' h ls1))→CW (D9 v' (place l) (K++c::rest)) h X':=by
    intro v' X' e1 e2 hX ho hs
    refine CW.clause hW hX hcv e1 (by show v'.watches.set _ _=v.watches.set _ _;rw[e2]) hl1 hpp (fun d ms t hd q q2 hh hh' hok=>ho ms hh hh' hok) (fun _=>hs)
  have e4:∀ (v':Sv),K++[c]++rest=K++c::rest:=fun _=>by simp
  by_cases hpos:0<Go.Proofs.Ytilhhmkdcoajnaa.Am.isV v.value (ls1.getD 0 0)
  ·
    rw[if_pos hpos]
    refine⟨hP1,hCT1,fun _=>?_,fun q=>by cases q⟩
    have hin:=(hi.pos hw0).1 hpos
    show CW (D9 _ (place l) ((if true=true then K++[c]else K)++rest)) h rest
    rw[if_pos rfl,e4 v]
    refine stayW _ rest rfl rfl (fun d hd q=>(qp.1 q).resolve_left hd) (fun ms hh hh' hok=>hok) ⟨hwokm,fun _=>⟨fun q=>?_,fun _=>⟨hin,?_⟩⟩⟩
    · exact(hi.two hin (qg q)).elim
    · rw[hg1]
      obtain⟨i,e⟩:=CS.1 hin
      have:=hC.lev i _ e
      show lv v (ls1.getD 0 0)≤lv v l
      rw[hll]
      unfold lv
      rw[this]
      have:=Th v.limits i
      omega
  · rw[if_neg hpos]
    have hwnt:ls1.getD 0 0 ∉ v.trail:=fun q=>hpos ((hi.pos hw0).2 q)
    cases hfm:Cg v.value (ls1.drop 2) 2 with
    | some i =>
      dsimp only
      have hil:=Id hfm
      rw[rB]at hil
      obtain⟨y,hy1,hy2,hy3⟩:=Jd hfm
      rw[qk,show 2+(i - 2)=i by omega]at hy1
      have hgy:ls1.getD i 0=y:=E3 hy1
      have hVy:=hcl1.get (k:=i) (by omega)
      rw[hgy]at hVy
      have hyn:-y ∉ v.trail:=fun q=>by
        have:=(hi.neg hVy.1).2 q
        omega
      have hyw:place y≠place (ls1.getD 0 0):=fun e=>by
        have:=EQ hVy.1 hw0 e
        have:=EP hnd1 (i:=i) (j:=0) (by omega) (by omega) (by rw[hgy,this])
        omega
      have hyl:place y≠place l:=fun e=>by
        have:=EQ hVy.1 hl0 e
        have:=EP hnd1 (i:=i) (j:=1) (by omega) (by omega) (by rw[hgy,this,hg1])
        omega
      have hwpl:place (ls1.getD 0 0)≠place l:=fun e=>hwl' (EQ hw0 hl0 e)
      have hyb:place y<v.watches.length:=by
        rw[hi.fit.siz.w]
        exact VL.place hVy
      have hsp:(Ap ls1 1 i).Perm ls1:=IB (by omega) (by omega)
      have hs0:(Ap ls1 1 i).getD 0 0=ls1.getD 0 0:=RF (by omega) (by omega)
      have hs1:(Ap ls1 1 i).getD 1 0=y:=by rw[PD (by omega) (by omega)];exact hgy
      have hmi:=hCT1.inv.move hcl1' hcl1 (by omega) (i:=i) (by omega)
      have hcM:({ v with cl:=AP v.cl c (ls1,b) }:Sv).cl c=some (ls1,b):=hcl1'
      have hclM:(Cv { v with cl:=AP v.cl c (ls1,b) } c ls1 b i).cl=AP v.cl c (Ap ls1 1 i,b):=by
        show AP (AP v.cl c (ls1,b)) c _=_
        rw[JY]
      have hwM:(Cv { v with cl:=AP v.cl c (ls1,b) } c ls1 b i).watches=Cx v.watches (place y) c:=by
        show Cx v.watches (place (ls1.getD i 0)) c=_
        rw[hgy]
      have hCTM:CT n (Cv { v with cl:=AP v.cl c (ls1,b) } c ls1 b i):=by
        have hiM:A7 n { v with cl:=AP v.cl c (Ap ls1 1 i,b) }:=hi.swap hc (hcl1.swap (by omega) (by omega)) (by rw[DH,hl1];exact h2)
        have:=hC.perm (ls':=Ap ls1 1 i) hc (hsp.trans hp) (fun q=>by
          rw[hs0]
          rcases hturn with⟨q1,q2⟩ | ⟨q1,q2⟩
          · rw[← q2]at q;exact absurd q hlf
          · rw[q1]) hiM
        exact this.of hmi rfl rfl rfl rfl hclM
      refine⟨⟨⟨[],(re _).symm⟩,fun _ _=>rfl,by rw[hclM];exact Bx.put hc (hsp.trans hp),rfl,rfl,rfl,rfl,rfl,rfl,rfl,rfl,rfl⟩,hCTM,fun _=>?_,fun q=>by cases q⟩
      show CW (D9 (Cv { v with cl:=AP v.cl c (ls1,b) } c ls1 b i) (place l) ((if false=true then K++[c]else K)++rest)) h rest
      rw[if_neg (by decide)]
      have hlist:∀k,(D9 (Cv { v with cl:=AP v.cl c (ls1,b) } c ls1 b i) (place l) (K++rest)).watches.getD k []=if k=place l then K++rest else if k=place y then v.watches.getD (place y) []++[c]else v.watches.getD k []:=by
        intro k
        rw[Gb (by rw[hwM,C9];exact hwl),hwM,Ie hyb]
      have hold:∀k,(D9 v (place l) (K++c::rest)).watches.getD k []=if k=place l then K++c::rest else v.watches.getD k []:=fun k=>Gb hwl
      have hold':∀k,k≠place l→(D9 v (place l) (K++c::rest)).watches.getD k []=v.watches.getD k []:=fun k hk=>by rw[hold,if_neg hk]
      have hcy:c ∉ v.watches.getD (place y) []:=fun q=>by
        rcases hW.wcl (place y) c ls b (by rw[hold' _ hyl];exact q) hcv with e | e
        · rcases hpp with ⟨p1, p2⟩ | ⟨p1, p2⟩
          · rw[← p1]at e;exact hyw e
          · rw[← p2,hg1]at e;exact hyl e
        · rcases hpp with ⟨p1, p2⟩ | ⟨p1, p2⟩
          · rw[← p2,hg1]at e;exact hyl e
          · rw[← p1]at e;exact hyw e
      have hcw:c∈v.watches.getD (place (ls1.getD 0 0)) []:=by
        have:=hW.wat c ls b hcv h2
        rw[← hold' _ hwpl]
        rcases hpp with⟨p1,p2⟩ | ⟨p1,p2⟩
        · rw[p1];exact this.1
        · rw[p1];exact this.2
      have get:∀ {d:Nat} {ms:List Int} {t:Bool×Bool},AP v.cl c (Ap ls1 1 i,b) d=some (ms,t)→(d=c∧ms=Ap ls1 1 i∧t=b)∨(d≠c∧v.cl d=some (ms,t)):=by
        intro d ms t hd
        unfold AP at hd
        by_cases e:d=c
        · rw[if_pos e]at hd
          injection hd with hd
          injection hd with q1 q2
          exact .inl ⟨e,q1.symm,q2.symm⟩
        · rw[if_neg e]at hd
          exact .inr ⟨e,hd⟩
      refine⟨fun d ms t hd JB=>?_,fun k d ms t hk hd=>?_,fun k=>?_,fun d ms t hd JB=>?_⟩
      · have hd : AP    v.cl c (Ap    ls1 1 i, b) d = some (ms, t) := by rw [← hclM]; exact hd
        rcases get hd with⟨rfl,rfl,rfl⟩ | ⟨e,q⟩
        · rw[hs0,hs1,hlist,hlist,if_neg hwpl,if_neg (fun e=>hyw e.symm),if_neg hyl,if_pos rfl]
          exact⟨hcw,by simp⟩
        · have hw := hW.wat d ms t q JB
          have step:∀k,d∈(D9 v (place l) (K++c::rest)).watches.getD k []→d∈(D9 (Cv { v with cl:=AP v.cl c (ls1,b) } c ls1 b i) (place l) (K++rest)).watches.getD k []:=by
            intro k hk
            rw[hlist]
            rw[hold]at hk
            split
            · rename_i hkl
              rw[if_pos hkl]at hk
              simp only[List.mem_append,qp]at hk ⊢
              rcases hk with q | q | q
              · exact .inl q
              · exact absurd q e
              · exact .inr q
            · rename_i hkl
              rw[if_neg hkl]at hk
              split
              · rename_i hky
                rw[hky]at hk
                exact qW _ hk
              · exact hk
          exact⟨step _ hw.1,step _ hw.2⟩
      · have hd : AP    v.cl c (Ap    ls1 1 i, b) d = some (ms, t) := by rw [← hclM]; exact hd
        rw[hlist]at hk
        rcases get hd with⟨rfl,rfl,rfl⟩ | ⟨e,q⟩
        · rw[hs0,hs1]
          by_cases k1:k=place l
          · rw [if_pos k1] at hk
            rcases List.mem_append.1 hk with q | q
            · exact absurd q hcK.1
            · exact absurd q hcK.2
          · rw[if_neg k1]at hk
            by_cases k2:k=place y
            · exact .inr k2
            · rw[if_neg k2]at hk
              have:=hW.wcl k d ls t (by rw[hold' _ k1];exact hk) hcv
              rcases hpp with⟨p1,p2⟩ | ⟨p1,p2⟩
              · rcases this with q | q
                · exact .inl (q.trans p1.symm)
                · exact absurd (q.trans (p2.symm.trans (by rw[hg1]))) k1
              · rcases this with q | q
                · exact absurd (q.trans (p2.symm.trans (by rw[hg1]))) k1
                · exact .inl (q.trans p1.symm)
        · refine hW.wcl k d ms t ?_ q
          rw[hold]
          split
          · rename_i k1
            rw[if_pos k1]at hk
            simp only[List.mem_append,qp]at hk ⊢
            rcases hk with q | q
            · exact .inl q
            · exact .inr (.inr q)
          · rename_i k1
            rw[if_neg k1]at hk
            split at hk
            · rename_i k2
              rcases List.mem_append.1 hk with q | q
              · rw[k2];exact q
              · exact absurd (List.mem_singleton.1 q) e
            · exact hk
      · rw[hlist]
        split
        · rw [rH]                at hKnd ⊢
          refine⟨hKnd.1,(rf.1 hKnd.2.1).2,fun a ha d hd=>hKnd.2.2 a ha d (qS _ hd)⟩
        · rename_i k1
          have hkn:=hW.wnd k
          rw[hold' _ k1]at hkn
          split
          · rename_i k2
            rw[k2]at hkn
            rw[rH]
            refine⟨hkn,by simp,fun a ha d hd e=>?_⟩
            rw[List.mem_singleton.1 hd]at e
            exact hcy (by rw[← e];exact ha)
          · exact hkn
      · have hd : AP    v.cl c (Ap    ls1 1 i, b) d = some (ms, t) := by rw [← hclM]; exact hd
        rcases get hd with⟨rfl,rfl,rfl⟩ | ⟨e,q⟩
        · have:HP v h (Ap ls1 1 i):=by
            refine⟨fun q=>?_,fun q=>?_⟩
            · rw[hs0]at q
              exfalso
              obtain⟨j,hj,ej⟩:=B6.1 q
              by_cases hjh:j=h - 1
              · rw[hjh,hl]at ej
                injection ej with ej
                exact hwl' (by omega)
              · have:=(hwokm.1 (B6.2 ⟨j,by omega,ej⟩)).1
                rw[hg1]at this
                exact hlf this
            · rw[hs1]at q
              exact absurd (qg q) hyn
          exact⟨this.mono (by omega),fun _=>this⟩
        · obtain⟨r1,r2⟩:=hW.wok d ms t q JB
          exact⟨r1,fun hx=>r2 fun hd'=>hx ((qp.1 hd').resolve_left e)⟩
    | none =>
      dsimp only
      have hfalse:∀y∈ls1.drop 2,-y∈v.trail:=fun y hy=>(hi.neg (hcl1.1 y (sA hy)).1).1 (Lu hfm y hy)
      by_cases hneg:Go.Proofs.Ytilhhmkdcoajnaa.Am.isV v.value (ls1.getD 0 0)<0
      ·
        rw[if_pos hneg]
        refine⟨hP1,hCT1,fun q=>(by cases q),fun _=>⟨rfl,?_,ls1,b,hcl1',by omega,fun y hy=>?_,by rw[← hg1];exact qL (AR (by omega))⟩⟩
        · exact stayW _ (c::rest) rfl rfl (fun d hd q=>q) (fun ms hh hh' hok=>hok) ⟨hwokm,fun q=>absurd (qR ..) q⟩
        · rcases Uv      (by omega) hy with e | e | e
          · rw[e];exact(hi.neg hw0).1 hneg
          · rw[e,hg1];exact hlt
          · exact hfalse y e
      ·
        rw[if_neg hneg]
        have hwn:-(ls1.getD 0 0) ∉ v.trail:=fun q=>hneg ((hi.neg hw0).2 q)
        have hz0:=hi.zero hw0 hwnt hwn
        have hVw:=hcl1.get (k:=0) (by omega)
        have hCTa:CT n (BR { v with cl:=AP v.cl c (ls1,b) } (ls1.getD 0 0) (some c)):=hCT1.assign hVw hz0 hcl1' rfl (fun y hy hyw=>by
          rcases Uv (by omega) hy with e | e | e
          · exact absurd e hyw
          · rw[e,hg1];exact hlt
          · exact hfalse y e)
        have habs:∀ {y:Int},(y∈v.trail∨-y∈v.trail)→y.natAbs≠(ls1.getD 0 0).natAbs:=by
          rintro y (hy | hy)
          · exact hi.abs_ne hz0 hy
          · have:=hi.abs_ne hz0 hy
            rw[qf]at this
            exact this
        have hlev:∀ {y:Int},(y∈v.trail∨-y∈v.trail)→lv (BR { v with cl:=AP v.cl c (ls1,b) } (ls1.getD 0 0) (some c)) y=lv v y:=fun hy=>by
          show(v.level.set _ _).getD _ 0=_
          rw[getD_set_ne (habs hy)]
        refine⟨⟨⟨[ls1.getD 0 0],rfl⟩,fun y hy=>hlev hy,Bx.put hc hp,rfl,rfl,rfl,rfl,rfl,rfl,rfl,rfl,rfl⟩,hCTa,fun _=>?_,fun q=>by cases q⟩
        show CW (D9 _ (place l) ((if true=true then K++[c]else K)++rest)) h rest
        rw[if_pos rfl,e4 v]
        have htk:∀hh,hh≤h→(v.trail++[ls1.getD 0 0]).take hh=v.trail.take hh:=fun hh hhh=>qm (by omega)
        have hoth:∀ (ms:List Int) hh,hh≤h→HP v hh ms→HP (BR { v with cl:=AP v.cl c (ls1,b) } (ls1.getD 0 0) (some c)) hh ms:=by
          intro ms hh hhh hok
          refine⟨fun q=>?_,fun q=>?_⟩
          · have q:-(ms.getD 0 0)∈(v.trail++[ls1.getD 0 0]).take hh:=q
            rw[htk hh hhh]at q
            obtain⟨k1,k2⟩:=hok.1 q
            refine⟨qW _ k1,?_⟩
            rw[hlev (.inl k1),hlev (.inr (qg q))]
            exact k2
          · have q:-(ms.getD 1 0)∈(v.trail++[ls1.getD 0 0]).take hh:=q
            rw[htk hh hhh]at q
            obtain⟨k1,k2⟩:=hok.2 q
            refine⟨qW _ k1,?_⟩
            rw[hlev (.inl k1),hlev (.inr (qg q))]
            exact k2
        refine stayW _ rest rfl rfl (fun d hd q=>(qp.1 q).resolve_left hd) hoth ⟨hoth ls1 _ (by omega) hwokm,fun _=>⟨fun q=>?_,fun _=>⟨ql _ (List.mem_singleton.2 rfl),?_⟩⟩⟩
        · have q:-(ls1.getD 0 0)∈(v.trail++[ls1.getD 0 0]).take h:=q
          rw[htk h (qI _)]at q
          exact absurd (qg q) hwn
        · rw[hg1,hlev (.inr hlt),hll]
          show(v.level.set _ _).getD _ 0≤_
          rw[Bq (by rw[hi.fit.siz.level];have:=hVw.2;omega)]
          exact rE _
theorem Fy.more{v v':Sv}{c:Nat}{l:Int}(h:Fy v c l)(h1:v'.cl=v.cl)(h2:v'.trail=v.trail):Fy v' c l:=by
 obtain⟨ls,b,q1,q2,q3,q4⟩:=h
 exact⟨ls,b,by rw[h1];exact q1,q2,fun y hy=>by rw[h2];exact q3 y hy,q4⟩
theorem Nl        {n h : Nat} {l : Int} : ∀ (rest K : List Nat) (v : Sv), CT n v → CW (D9    v (place l) (K ++ rest)) h rest → 1 ≤ h → h ≤ v.trail.length → v.trail[h - 1]? = some (-l) → lv v l = (v.limits.length : Int) → WL n v rest → place l < v.watches.length → isV v.value l < 0 →
    FE v (A1 l rest K v).2.2∧CT n (A1 l rest K v).2.2∧((A1 l rest K v).2.1=none→CW (D9 (A1 l rest K v).2.2 (place l) (A1 l rest K v).1) h []) ∧
    (∀c,(A1 l rest K v).2.1=some c→CW (D9 (A1 l rest K v).2.2 (place l) (A1 l rest K v).1) (h - 1) []∧Fy (A1 l rest K v).2.2 c l)
  | [],K,v,hC,hW,h1,hh,hl,hll,hr,hwl,hf=>⟨FE.refl v,hC,fun _=>by rw[re]at hW;exact hW,fun c q=>by cases q⟩
  | c::rest,K,v,hC,hW,h1,hh,hl,hll,hr,hwl,hf=>by
    obtain⟨ls,b,hc,hcl,h2⟩:=hr c qR
    obtain⟨p1,p2,p3,p4⟩:=cP hC hW h1 hh hl hll hc h2 hwl
    obtain⟨t1,t2,t3,ls',t4,t5,t6⟩:=J9 hC.inv (CV.shortN _) hc hcl h2 (l:=l) (a:=(AZ v c l ls b).1) (f:=(AZ v c l ls b).2.1) (v':=(AZ v c l ls b).2.2) rfl
    have hl0:l≠0:=by
      have:=(hC.inv.fit.lits _ (qL hl)).1
      omega
    unfold A1
    rw[hc]
    dsimp only
    generalize hr1:AZ v c l ls b=r at p1 p2 p3 p4 t1 t2 t3 t4
    cases hfail:r.2.1 with
    | true =>
      obtain⟨k1,k2,k3⟩:=p4 hfail
      rw[if_pos rfl]
      have e:K++[c]++rest=K++c::rest:=by simp
      rw[k1,if_pos rfl,e]
      exact⟨p1,p2,fun q=>(by cases q),fun d q=>by
        injection q with q
        subst q
        exact⟨k2.weak (qI _),k3⟩⟩
    | false =>
      rw[if_neg (by decide)]
      have k3:=p3 hfail
      obtain⟨T,eT⟩:=p1.tr
      have hlr:r.2.2.trail[h - 1]? = some (-l):=by
        rw[eT,qX (by omega)];exact hl
      have hmem:-l∈v.trail:=qL hl
      have hfr:isV r.2.2.value l<0:=(p2.inv.neg hl0).2 (p1.mem hmem)
      have hwlr:WL n r.2.2 rest:=HM t3 ⟨ls',b,t4,t5,by omega⟩ fun d hd=>hr d (qS _ hd)
      obtain⟨q1,q2,q3,q4⟩:=Nl rest (if r.1=true then K++[c]else K) r.2.2 p2 k3 h1 (by rw[eT,qM];omega) hlr (by rw[p1.lev l (.inr hmem),p1.limits];exact hll) hwlr (by rw[t3.wlen];exact hwl) hfr
      exact⟨p1.trans q1,q2,q3,q4⟩
theorem cB{W:List (List Nat)}{w:Nat}(hw:w<W.length):W.set w (W.getD w [])=W:=by
 apply List.ext_getElem?
 intro i
 rw[qc]
 split
 ·rename_i e
  subst e
  first | rw[if_pos hw,AR (d:=[]) hw] | rw[AR (d:=[]) hw]
 ·rfl
theorem KN          {n B : Nat} {v : Sv} (hC : CT n v) (hW : CW v v.head.toNat []) (hB : F0   n B v) (hlh : ∀ x ∈ v.limits, x ≤ v.head) (hh : v.head < (v.trail.length : Int)) :
    FE v (A5 v).2∧CT n (A5 v).2∧((A5 v).1=none→CW (A5 v).2 (A5 v).2.head.toNat []∧(A5 v).2.head=v.head+1) ∧
    ∀c,(A5 v).1=some c→CW (A5 v).2 v.head.toNat []∧∃l,Fy (A5 v).2 c l∧lv (A5 v).2 l=(v.limits.length:Int):=by
  obtain⟨hk1,hk2,hk3⟩:=Cr hB hh
  have h0:=hB.h0
  have hi:=hC.inv
  have hlt:v.head.toNat<v.trail.length:=by omega
  have hg:=AR (d:=(0:Int)) hlt
  have hy:v.trail.getD v.head.toNat 0∈v.trail:=qL hg
  have hVL:=hi.fit.lits _ hy
  have hwl:place (-(v.trail.getD v.head.toNat 0))<v.watches.length:=by
    rw[hi.fit.siz.w]
    exact VL.place ⟨by have:=hVL.1;omega,by have:=hVL.2;omega⟩
  generalize hyy:v.trail.getD v.head.toNat 0=y at *
  have hl0:-y≠0:=by have:=hVL.1;omega
  have hgl:=AR (d:=([]:List Nat)) hwl
  have hLw:WL n v (v.watches.getD (place (-y)) []):=hi.wc _ (qL hgl)
  have hiA:A7 n (B3 v (place (-y))):=by
    obtain⟨⟨hz,hv,hli,hlm⟩,g2,g3,g4,g5⟩:=hi.setW (k:=place (-y)) (M:=[]) (fun d hd=>by cases hd)
    exact⟨⟨⟨hz.small,hz.w,hz.value,hz.level,hz.why,hz.heat,hz.phase,hz.trail,hz.limits⟩,hv,hli,hlm⟩,g2,g3,g4,g5⟩
  have hCA:CT n (B3 v (place (-y))):=hC.of hiA rfl rfl rfl rfl rfl
  have hyn:-y ∉ v.trail:=fun q=>hi.two hy q
  have hset:(v.watches.set (place (-y)) []).set (place (-y)) (v.watches.getD (place (-y)) [])=v.watches:=by
    rw[List.set_set,cB hwl]
  have hWA:CW (D9 (B3 v (place (-y))) (place (-y)) ([]++v.watches.getD (place (-y)) [])) (v.head.toNat+1) (v.watches.getD (place (-y)) []):=by
    have ew:(D9 (B3 v (place (-y))) (place (-y)) ([]++v.watches.getD (place (-y)) [])).watches=v.watches:=by
      show(v.watches.set (place (-y)) []).set (place (-y)) ([]++_)=v.watches
      rw[qo]
      exact hset
    refine⟨fun d ms t hd h2=>by rw[ew];exact hW.wat d ms t hd h2,fun k d ms t hk hd=>by rw[ew]at hk;exact hW.wcl k d ms t hk hd,fun k=>by rw[ew];exact hW.wnd k,fun d ms t hd h2=>?_⟩
    have hok:HP v v.head.toNat ms:=(hW.wok d ms t hd h2).2 (by simp)
    refine⟨by rw[Nat.add_sub_cancel];exact hok,fun hx=>?_⟩
    have hdn:=(hC.cls d ms t hd).1
    have hwat:=hW.wat d ms t hd h2
    refine⟨fun q=>?_,fun q=>?_⟩
    · obtain⟨j,hj,ej⟩:=B6.1 q
      have ej:v.trail[j]? = some (-(ms.getD 0 0)):=ej
      by_cases e:j=v.head.toNat
      · exfalso
        rw[e,hg]at ej
        injection ej with ej
        have:ms.getD 0 0=-y:=by omega
        rw[this]at hwat
        exact hx hwat.1
      · exact hok.1 (B6.2 ⟨j,by omega,ej⟩)
    · obtain⟨j,hj,ej⟩:=B6.1 q
      have ej:v.trail[j]? = some (-(ms.getD 1 0)):=ej
      by_cases e:j=v.head.toNat
      · exfalso
        rw[e,hg]at ej
        injection ej with ej
        have:ms.getD 1 0=-y:=by omega
        rw[this]at hwat
        exact hx hwat.2
      · exact hok.2 (B6.2 ⟨j,by omega,ej⟩)
  have hlvl:lv v (-y)=(v.limits.length:Int):=by
    unfold lv
    rw[qf,hC.lev _ _ hg,Io fun x hx=>by have:=hlh x hx;omega]
  have hfv:isV v.value (-y)<0:=(hi.neg hl0).2 (by rw[qw];exact hy)
  obtain⟨q1,q2,q3,q4⟩:=Nl (h:=v.head.toNat+1) (l:=-y) (v.watches.getD (place (-y)) []) [] (B3 v (place (-y))) hCA hWA (by omega) (by show _≤v.trail.length;omega) (by show v.trail[v.head.toNat+1 - 1]? = _;rw[Nat.add_sub_cancel,qw];exact hg) hlvl hLw (by show place (-y)<(v.watches.set _ _).length;rw[qQ];exact hwl) hfv
  have hPA:FE v (A1 (-y) (v.watches.getD (place (-y)) []) [] (B3 v (place (-y)))).2.2:=q1.of rfl rfl rfl rfl rfl rfl rfl rfl rfl rfl rfl rfl rfl rfl rfl rfl rfl rfl rfl rfl rfl rfl rfl rfl
  obtain⟨k1,k2⟩:=Fk hl0 (v.watches.getD (place (-y)) []) [] (B3 v (place (-y))) hiA (fun d hd=>by cases hd) hLw hfv
  have hhd:(A1 (-y) (v.watches.getD (place (-y)) []) [] (B3 v (place (-y)))).2.2.head=v.head+1:=k1.head
  have hmemn:-y∈v.trail∨-(-y)∈v.trail:=.inr (by rw[qw];exact hy)
  unfold A5 MR at hk1 ⊢
  rw[hyy]at hk1 ⊢
  generalize A1 (-y) (v.watches.getD (place (-y)) []) [] (B3 v (place (-y)))=r at *
  obtain⟨K,bad,v1⟩:=r
  dsimp only at *
  cases bad with
  | none =>
    refine⟨hPA.of rfl rfl rfl rfl rfl rfl rfl rfl rfl rfl rfl rfl rfl rfl rfl rfl rfl rfl rfl rfl rfl rfl rfl rfl,q2.of hk1.inv rfl rfl rfl rfl rfl,fun _=>⟨?_,hhd⟩,fun c q=>by cases q⟩
    have:=q3 rfl
    have e:(setW v1 (v1.watches.set (place (-y)) K)).head.toNat=v.head.toNat+1:=by
      show v1.head.toNat=_
      rw[hhd];omega
    show CW (setW v1 (v1.watches.set (place (-y)) K)) _ []
    rw[e]
    exact this
  | some c =>
    refine⟨hPA.of rfl rfl rfl rfl rfl rfl rfl rfl rfl rfl rfl rfl rfl rfl rfl rfl rfl rfl rfl rfl rfl rfl rfl rfl,q2.of hk1.inv rfl rfl rfl rfl rfl,fun q=>(by cases q),fun d q=>?_⟩
    injection q with q
    subst q
    obtain⟨g1,g2⟩:=q4 c rfl
    rw[Nat.add_sub_cancel]at g1
    refine⟨⟨g1.wat,g1.wcl,g1.wnd,g1.wok⟩,-y,g2.more rfl rfl,?_⟩
    have:=hPA.lev (-y) hmemn
    rw[hlvl]at this
    exact this
theorem B9.cw{n B:Nat}{v v':Sv}{r:Option Nat}(k:B9 v r v'):CT n v→CW v v.head.toNat []→F0 n B v→(∀x∈v.limits,x≤v.head) →
  FE v v'∧CT n v'∧F0 n B v'∧(r=none→CW v' v'.head.toNat []∧v'.head=(v'.trail.length:Int)) ∧
  ∀c,r=some c→∃h,CW v' h []∧(∀x∈v.limits,x≤(h:Int))∧∃l,Fy v' c l∧lv v' l=(v.limits.length:Int):=by
 induction k with
 | @done v hd =>
  intro hC hW hB hlh
  refine⟨FE.refl _,hC,hB,fun _=>⟨hW,?_⟩,fun c q=>by cases q⟩
  have:=hB.h1
  omega
 | @more v v1 v2 r h1 h2 _ ih =>
  intro hC hW hB hlh
  obtain⟨p1,p2,p3,p4⟩:=KN hC hW hB hlh h1
  obtain⟨k1,k2,k3⟩:=Cr hB h1
  rw[h2]at p1 p2 p3 p4 k1 k2 k3
  obtain⟨g1,g2⟩:=p3 rfl
  have hlh1:∀x∈v1.limits,x≤v1.head:=fun x hx=>by
   rw[show v1.limits=v.limits from k2]at hx
   have:=hlh x hx
   have g2:v1.head=v.head+1:=g2
   omega
  obtain⟨q1,q2,q3,q4,q5⟩:=ih p2 g1 k1 hlh1
  refine⟨p1.trans q1,q2,q3,q4,fun c hc=>?_⟩
  obtain⟨h,r1,r2,r3⟩:=q5 c hc
  have e:v1.limits=v.limits:=k2
  rw[e]at r2 r3
  exact⟨h,r1,r2,r3⟩
 | @bad v v1 c h1 h2 =>
  intro hC hW hB hlh
  obtain⟨p1,p2,p3,p4⟩:=KN hC hW hB hlh h1
  obtain⟨k1,k2,k3⟩:=Cr hB h1
  rw[h2]at p1 p2 p3 p4 k1 k2 k3
  obtain⟨g1,g2⟩:=p4 c rfl
  have h0:=hB.h0
  refine⟨p1,p2,k1,fun q=>(by cases q),fun d q=>?_⟩
  injection q with q
  subst q
  exact⟨v.head.toNat,g1,fun x hx=>by have:=hlh x hx;omega,g2⟩
end
end Go.Proofs.Ytilhhmkdcoajnaa.Am
