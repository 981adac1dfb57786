/- Package nat: sum, Add, walked; conditions: none. -/
import Derived.Test.YtjnkfbpadpmakaaGreatDoorAmM06
import Derived.Test.YtjnkfbpadpmakaaGreatDoorAmM01
set_option linter.unusedVariables false
set_option linter.unusedSimpArgs false
set_option maxRecDepth 16000
namespace Go.Proofs.YtjnkfbpadpmakaaGreatDoor.Am
open Go Go.Proofs
noncomputable section
theorem NR.keep{b:Nat}{s s':AD}{v:AV}{l:List Nat}(h:NR b s v l)(hn:s.next≤s'.next)(hf:∀j,Cd v=some j→s'.heap.get j=s.heap.get j):NR b s' v l:=by
 obtain⟨O,h1,h2,h3,h4⟩:=h
 exact⟨O,h1.frame hn hf,h2,h3,fun hne=>by obtain⟨i,q1,q2,q3⟩:=h4 hne;exact⟨i,q1,ns q2 hn,q3.keep (hf i (by rw[q1];rfl))⟩⟩
theorem FS:∀ (M:List Nat)(s:AD),M.Nodup→(∀m∈M,s.heap.get m=some .mark)→∃s',DZ s M=some s'∧s'.next=s.next∧∀j,j ∉ M→s'.heap.get j=s.heap.get j
 | [],s,_,_=>⟨s,rfl,rfl,fun _ _=>rfl⟩
 | m::M,s,hn,hm=>by
  obtain⟨n1,n2⟩:=List.nodup_cons.1 hn
  obtain⟨s',h1,h2,h3⟩:=FS M (CE s m) n2 (fun x hx=>by
   rw[Hx,if_neg (fun(e:x=m)=>n1 (e▸hx))];exact hm x (oN _ hx))
  refine⟨s',?_,h2,fun j hj=>?_⟩
  ·show(match s.heap.get m with | some .mark=>DZ (CE s m) M | _=>none)=_
   rw[hm m oK]
   exact h1
  ·rw[h3 j (fun h=>hj (oN _ h)),Hx,if_neg (fun(e:j=m)=>hj (e▸oK))]
structure Ls(s:AD)(ri:Nat)(vs:List AV)(L:List (List Nat)):Prop where
 row:s.heap.get ri=some (R 22 1 false vs)
 len:vs.length=L.length
 rd:∀ (j:Nat) (v:AV) (l:List Nat),vs[j]? = some v→L[j]? = some l→Cv s v l
theorem Ls.old{s s':AD}{ri:Nat}{vs:List AV}{L:List (List Nat)}(h:Ls s ri vs L)(k:Ac s.next s s')(hi:ri<s.next):Ls s' ri vs L:=
 ⟨(k.2 ri hi).trans h.row,h.len,fun j v l h1 h2=>(h.rd j v l h1 h2).old k⟩
def GY:List (List Nat)→Nat
 | []=>0
 | l::L=>AG l+GY L
section
variable{E:CP}{s:AD}
theorem Y1       (hE : GoodN E) {sA : AD}  {ri : Nat} {vs : List AV} {L : List (List Nat)} (hri : ri < sA.next) (hLl : L.length ≤ 1000) (hsm : ∀ l ∈ L, Bl  l ∧ l.length ≤ 1000000000) {tot : Nat} {Q : A5   → Prop} (x0 : AV)
    (hq:∀ (S:AD) (vD:AV) (D M:List Nat) (y2 y3 y4 y5 y6 y9 y10 y11 y12 y13:AV),Ac sA.next sA S→Cv S vD D→Bl D→D.length≤2000000000→AG D=tot→M.Nodup→(∀m∈M,sA.next≤m∧m<S.next∧S.heap.get m=some .mark) →
      Q ⟨.exit 0,[x0,vD,y2,y3,y4,y5,y6,.slice (some (ri,0)) L.length (some L.length),iv (L.length:Int),y9,y10,y11,y12,y13],M,S⟩):
    ∀ (r:List (List Nat)) (i:Nat) (S:AD) (vD:AV) (D M:List Nat) (x2 x3 x4 x5 x6 x10 x11 x12 x13:AV),L.drop i=r→i≤L.length→Ac sA.next sA S→Ls S ri vs L→Cv S vD D→Bl D→D.length≤1000000000+i→AG D+GY r=tot→M.Nodup→(∀m∈M,sA.next≤m∧m<S.next∧S.heap.get m=some .mark) →
      WC E none (.loop Ho) Q [x0,vD,x2,x3,x4,x5,x6,.slice (some (ri,0)) L.length (some L.length),iv (L.length:Int),iv (i:Int),x10,x11,x12,x13] M S:=by
  intro r
  induction r with
  | nil =>
    intro i S vD D M x2 x3 x4 x5 x6 x10 x11 x12 x13 hd hi ho hR hN hs hl hv hM hm
    have e:i=L.length:=by
      have:=congrArg List.length hd
      simp at this
      omega
    subst e
    have dd:decide ((L.length:Int)<(L.length:Int))=false:=decide_eq_false (by omega)
    refine WC.loop' ?_
    simp only[Ho,P2,Rx,dd,Qa,Qb,Qc,Qd,Qe,Qf,Qg,Qh,Qi,Qj,Qk,Ql,Qm,Qn,true_and,and_true,Qo,Qp,Qq,Qr,Qs,Qt,Qu,Qv,Qw,Qx,Qy,Qz,Ra,Rb,Rc,Rd,Re,Rf,Rg,Rh,Ri,Rj,Rk,Rm,Rn,Ro,Rp,Rq,Rs,Ya,Yb,Yc,Rt,Ru,Za,Yd,Ye,Rx,Ry,Rz,Wa,Wb,Wc,Wd]
    exact hq S vD D M _ _ _ _ _ _ _ _ _ _ ho hN hs (by omega) (by simpa[GY]using hv) hM hm
  | cons A r ih =>
    intro i S vD D M x2 x3 x4 x5 x6 x10 x11 x12 x13 hd hi ho hR hN hs hl hv hM hm
    have hlt:i<L.length:=by
      rcases nm i L.length with h' | h'
      · exact h'
      · rw[oo h']at hd;cases hd
    have hA:L[i]? = some A:=by
      have:=congrArg (fun l=>l[0]?) hd
      simpa using this
    have hd':L.drop (i+1)=r:=by
      have:=congrArg (List.drop 1) hd
      simpa[pF]using this
    obtain⟨hAs,hAl⟩:=hsm A (oP hA)
    have hva:vs[i]? = some (vs[i]'(by rw[hR.len];exact hlt)):=nr _
    generalize vs[i]'(by rw[hR.len];exact hlt)=va at hva
    have hNa:=hR.rd i va A hva hA
    have dd:decide ((i:Int)<(L.length:Int))=true:=decide_eq_true (by omega)
    have e1:=An (cap:=some L.length) (i:=ri) (o:=0) Tryz.underlying196 Y3 hlt
    rw[oG,oD]at e1
    have e2:AC Tryz.prog S 22 (.ptr (some (ri,i)))=some va:=AX DO hR.row hva
    generalize hn0:S.next=n0 at *
    have za:Ab Tryz.prog 22=some (R 22 0 false [.slice none 0 (some 0)],.ptr):=by kernel_rfl
    have zc:Ab Tryz.prog 69=some (R 69 0 false [.int .u64 0],.ptr):=by kernel_rfl
    generalize hS1:newObj S (R 22 0 false [.slice none 0 (some 0)])=S1
    have n1:S1.next=n0+1:=by rw[← hS1,← hn0];rfl
    have o1:∀j,j<n0→S1.heap.get j=S.heap.get j:=fun j hj=>by rw[← hS1,AO,if_neg (by omega)]
    have g1:S1.heap.get n0=some (R 22 0 false [.slice none 0 (some 0)]):=by rw[← hS1,AO,if_pos hn0.symm]
    generalize hS2:newObj S1 (R 69 0 false [.int .u64 0])=S2
    have n2:S2.next=n0+2:=by rw[← hS2];show S1.next+1=_;omega
    have g2:S2.heap.get (n0+1)=some (R 69 0 false [.int .u64 0]):=by rw[← hS2,AO,if_pos n1.symm]
    have o2:∀j,j<n0+1→S2.heap.get j=S1.heap.get j:=fun j hj=>by rw[← hS2,AO,if_neg (by omega)]
    have st:=B1 (P:=Tryz.prog) (t:=69) (o:=0) (v:=.int .u64 0) Y4 g2 (by simp) rfl
    simp only[pD]at st
    generalize hS3:setObj S2 (n0+1) (R 69 0 false [.int .u64 0])=S3 at st
    have n3:S3.next=n0+2:=by rw[← hS3];exact n2
    have g3:S3.heap.get (n0+1)=some (R 69 0 false [Ag 0]):=by rw[← hS3,Wv];rfl
    have o3:∀j,j<n0+1→S3.heap.get j=S1.heap.get j:=fun j hj=>by rw[← hS3,Ww _ (by omega),o2 j hj]
    have o03:Ac n0 S S3:=⟨by omega,fun j hj=>by rw[o3 j (by omega),o1 j hj]⟩
    obtain⟨aD,cD,eD,hcapD,hcD⟩:=hN
    obtain⟨aA,cA,eA,hcapA,hcA⟩:=hNa
    refine WC.loop' ?_
    generalize hW:WC E none (Af.loop Ho) Q=WW
    simp only[Ho,P2,Vm,Vn,Vo,Vp,Rx,dd,e1,e2,za,zc,Xb,hn0,hS1,n1,hS2,st,Xx,Xz,Qa,Qb,Qc,Qd,Qe,Qf,Qg,Qh,Qi,Qj,Qk,Ql,Qm,Qn,true_and,and_true,Qo,Qp,Qq,Qr,Qs,Qt,Qu,Qv,Qw,Qx,Qy,Qz,Ra,Rb,Rc,Rd,Re,Rf,Rg,Rh,Ri,Rj,Rk,Rm,Rn,Ro,Rp,Rq,Rs,Ya,Yb,Yc,Rt,Ru,Za,Yd,Ye,Rx,Ry,Rz,Wa,Wb,Wc,Wd]
    refine PD hE (by rw[eD];rfl) (by rw[eA];rfl) fun S4 n4 f4 b1 b2 b3=>?_
    rw[n3]at n4 f4 b1 b2 b3 ⊢
    subst eD;subst eA
    simp only[Qa,Qb,Qc,Qd,Qe,Qf,Qg,Qh,Qi,Qj,Qk,Ql,Qm,Qn,true_and,and_true,Qo,Qp,Qq,Qr,Qs,Qt,Qu,Qv,Qw,Qx,Qy,Qz,Ra,Rb,Rc,Rd,Re,Rf,Rg,Rh,Ri,Rj,Rk,Rm,Rn,Ro,Rp,Rq,Rs,Ya,Yb,Yc,Rt,Ru,Za,Yd,Ye,Rx,Ry,Rz,Wa,Wb,Wc,Wd]
    refine WC.range rfl ?_
    rw[show S4.next=n0+5 by omega]
    show WF E 188 [.yield (n0+6),.ptr (some (n0+2,0)),.ptr (some (n0+2+1,0)),.ptr (some (n0+2+2,0))] _ (newObj (newObj S4 .mark) (.loop (Ko _ _ _ _ _ _ _ _ _ n0 _ _)))
    generalize hlo:Ko _ _ _ _ _ _ _ _ _ n0 _ _=lo
    have hm1:(newObj S4 .mark).next=n0+6:=by show S4.next+1=_;omega
    generalize hs0:newObj (newObj S4 .mark) (.loop lo)=s0
    have n0':s0.next=n0+7:=by rw[← hs0];show S4.next+1+1=_;omega
    have f0:∀j,j<n0+5→s0.heap.get j=S4.heap.get j:=fun j hj=>by rw[← hs0,AO,if_neg (by omega),AO,if_neg (by omega)]
    have hmk0:s0.heap.get (n0+5)=some .mark:=by rw[← hs0,AO,if_neg (by omega),AO,if_pos (by omega)]
    have hlp0:BC s0 (n0+6)=some lo:=by
      unfold BC
      rw[← hs0,AO,if_pos hm1.symm]
    have o0:Ac n0 S s0:=⟨by omega,fun j hj=>by rw[f0 j (by omega),f4 j (by omega),o3 j (by omega),o1 j hj]⟩
    have hPl:=K8 D A
    have hPv:=J4 (Bw D A) 0
    rw[TC,TE]at hPv
    have hPs:=FV (Bw D A) 0
    have hPn:=Hk (Bw D A) 0
    refine MM hE (s0:=s0) (n0:=n0) (p:=n0+2) (l:=n0+6) (la:=D) (lb:=A) (ca:=cD) (cb:=cA) (a:=aD) (b:=aA) (by omega) (by omega) hs hAs ((hcD.old o0 (oU hn0)).mono (oU hn0)) ((hcA.old o0 (oU hn0)).mono (oU hn0)) ((f0 _ (by omega)).trans b1) ((f0 _ (by omega)).trans b2) ((f0 _ (by omega)).trans b3)
      (iB n0 s0 lo (Bw D A) (D1 (Bw D A) 0)) (fun k s h=>h.pk) (fun k s K hk hI hK=>by
        subst hlo
        exact T8 hE (by rw[hPl];omega) (K7 hk) (Gg hs k) (Gg hAs k) hI hK)
      ⟨PK.refl _ _ _,by omega,hlp0,hmk0,_,[],[],0,?_,?_,B9.nil s0 1,fun j hj=>(by cases hj),fun j hj=>(by cases hj),rfl,by omega,rfl⟩ (fun v s' hI=>?_)
    · rw[f0 n0 (by omega),f4 n0 (by omega),o3 n0 (by omega)];exact g1
    · rw[f0 (n0+1) (by omega),f4 (n0+1) (by omega)];exact g3
    obtain⟨pk,hlt',hlp,hmk,vo,d,O,c,k1,k2,hD,hO,hsl,hdl,hc,hT⟩:=hI
    rw[oo (by rw[hPl];omega)]at hT
    simp only[D1,pz]at hT
    rw[← hT]at hPv hPs hPn
    simp only at hPv hPs hPn
    refine⟨lo,hlp,by rw[← hlo];rfl,?_⟩
    have hpd:lo.pending=none:=by rw[← hlo];rfl
    rw[hpd]
    generalize hs6:setObj s' (n0+5+1) _=s6
    have n6:s6.next=s'.next:=by rw[← hs6];rfl
    have f6:∀j,j≠n0+6→s6.heap.get j=s'.heap.get j:=fun j hj=>by rw[← hs6,Ww _ (by omega)]
    have hD6:B9 76 s6 vo d.length 1 (us d) O:=hD.frame (oU n6.symm) (fun j hj=>f6 j (by have:=hsl j hj;omega))
    have ld1:AC Tryz.prog s6 22 (.ptr (some (n0,0)))=some vo:=AX DO ((f6 n0 (by omega)).trans k1) rfl
    have ld2:AC Tryz.prog s6 69 (.ptr (some (n0+1,0)))=some (Ag c):=AX UM ((f6 (n0+1) (by omega)).trans k2) rfl
    have ec:c % 4294967296=c:=by omega
    obtain⟨v',s7,O',happ,hD7,hn7,f7,hO7,hsl7⟩:=IE hD6 c (by rw[hdl];omega)
    have happ':Av Tryz.prog (newObj s6 (R 76 1 false [.int .u32 c])) [22,22] [vo,.slice (some (s6.next,0)) 1 (some 1)]=some (v',s7):=happ
    have e17:=Bh Tryz.prog 3 (i:Int) 1 ⟨by omega,by omega⟩
    have e17':((i:Int)+1)=((i+1:Nat):Int):=by omega
    simp only[J0,SL,SM,ld1,ld2,Bx,ec,Fj,Xd,happ',e17,e17',Qa,Qb,Qc,Qd,Qe,Qf,Qg,Qh,Qi,Qj,Qk,Ql,Qm,Qn,true_and,and_true,Qo,Qp,Qq,Qr,Qs,Qt,Qu,Qv,Qw,Qx,Qy,Qz,Ra,Rb,Rc,Rd,Re,Rf,Rg,Rh,Ri,Rj,Rk,Rm,Rn,Ro,Rp,Rq,Rs,Ya,Yb,Yc,Rt,Ru,Za,Yd,Ye,Rx,Ry,Rz,Wa,Wb,Wc,Wd]
    rw[← hW]
    have hlow:∀j,j<n0+6→j≠n0→j≠n0+1→(j<n0∨j=n0+5)→s7.heap.get j=s'.heap.get j:=fun j h1 h2 h3 h4=>by
      rw[f7 j (by omega) (fun h=>by have:=hO j h;omega),f6 j (by omega)]
    have oS:Ac n0 S s7:=⟨by omega,fun j hj=>by rw[hlow j (by omega) (by omega) (by omega) (.inl hj),pk.low j hj,o0.2 j hj]⟩
    have ho1:=ho.1
    have oS':Ac S.next S s7:=by rw[hn0];exact oS
    refine ih (i+1) s7 v' (d++[c]) ((n0+5)::M) _ _ _ _ _ _ _ _ _ hd' hlt (ho.trans (oS.mono (by omega))) (hR.old oS' (by omega)) (B9.n32 hD7) ?_ ?_ ?_ ?_ ?_
    · exact hPs.append (fun x hx=>by rw[List.mem_singleton.1 hx];exact om hc (by decide))
    · rw[oI,hdl]
      show _+1≤_
      omega
    · rw[BN]
      have e3:AG [c]=c:=by simp[AG]
      have hlen:d.length=(Bw D A).length:=by rw[hdl,hPl]
      rw[e3,hlen,hPv,← hv]
      show _=AG D+(AG A+GY r)
      omega
    · exact List.nodup_cons.2 ⟨fun h=>by have:=(hm _ h).2.1;omega,hM⟩
    · intro m hmm
      rcases List.mem_cons.1 hmm with rfl | h
      · exact⟨by omega,by omega,(hlow _ (by omega) (by omega) (by omega) (.inr rfl)).trans hmk⟩
      · obtain⟨q1,q2,q3⟩:=hm m h
        exact⟨q1,by omega,(oS.2 m q2).trans q3⟩
end
section
variable{E:CP}{s:AD}
theorem jo(hE:GoodN E){ri:Nat}{vs:List AV}{L:List (List Nat)}(hri:ri<s.next)(hR:Ls s ri vs L)(hLl:L.length≤1000)(hsm:∀l∈L,Bl l∧l.length≤1000000000){K:AV→AD→Prop}
  (hK:∀s' v,Ac s.next s s'→NR s.next s' v (AR (GY L))→K v s'):WF E 173 [.slice (some (ri,0)) L.length (some L.length)] K s:=by
 refine hE.go Z1 (by decide) rfl ?_
 simp only[kO,Vk,Vl,AU Tryz.underlying196,Qa,Qb,Qc,Qd,Qe,Qf,Qg,Qh,Qi,Qj,Qk,Ql,Qm,Qn,true_and,and_true,Qo,Qp,Qq,Qr,Qs,Qt,Qu,Qv,Qw,Qx,Qy,Qz,Ra,Rb,Rc,Rd,Re,Rf,Rg,Rh,Ri,Rj,Rk,Rm,Rn,Ro,Rp,Rq,Rs,Ya,Yb,Yc,Rt,Ru,Za,Yd,Ye,Rx,Ry,Rz,Wa,Wb,Wc,Wd]
 refine Y1 hE hri hLl hsm _ (tot:=GY L) (fun S vD D M y2 y3 y4 y5 y6 y9 y10 y11 y12 y13 ho hN hs hl hv hM hm=>?_) L 0 s _ [] [] _ _ _ _ _ _ _ _ _ rfl (oB _) (Ac.refl _ _) hR (NR.n32 (NR.nil 0 s)) (fun x hx=>by cases hx) (oB _) (by simp[AG]) List.nodup_nil (fun m hm=>by cases hm)
 simp only[SN,if_true,Qa,Qb,Qc,Qd,Qe,Qf,Qg,Qh,Qi,Qj,Qk,Ql,Qm,Qn,true_and,and_true,Qo,Qp,Qq,Qr,Qs,Qt,Qu,Qv,Qw,Qx,Qy,Qz,Ra,Rb,Rc,Rd,Re,Rf,Rg,Rh,Ri,Rj,Rk,Rm,Rn,Ro,Rp,Rq,Rs,Ya,Yb,Yc,Rt,Ru,Za,Yd,Ye,Rx,Ry,Rz,Wa,Wb,Wc,Wd]
 refine CT hE hN (by omega) fun s2 v2 o2 r2=>?_
 rw[Bq hs,hv]at r2
 obtain⟨s3,u1,u2,u3⟩:=FS M s2 hM (fun m h=>by rw[o2.2 m (hm m h).2.1];exact(hm m h).2.2)
 simp only[u1,Qa,Qb,Qc,Qd,Qe,Qf,Qg,Qh,Qi,Qj,Qk,Ql,Qm,Qn,true_and,and_true,Qo,Qp,Qq,Qr,Qs,Qt,Qu,Qv,Qw,Qx,Qy,Qz,Ra,Rb,Rc,Rd,Re,Rf,Rg,Rh,Ri,Rj,Rk,Rm,Rn,Ro,Rp,Rq,Rs,Ya,Yb,Yc,Rt,Ru,Za,Yd,Ye,Rx,Ry,Rz,Wa,Wb,Wc,Wd]
 have h1:=ho.1
 have h2:=o2.1
 refine hK s3 v2 ⟨by omega,fun j hj=>?_⟩ ((r2.keep (by omega) (fun j hj=>u3 j (fun h=>?_))).mono h1)
 ·rw[u3 j (fun h=>by have:=(hm j h).1;omega),o2.2 j (by omega),ho.2 j hj]
 ·obtain⟨O,_,_,q,_⟩:=r2
  have:=q j hj
  have:=(hm j h).2.1
  omega
theorem Yr(a b:Option (Nat×Nat))(ca cb:Option Nat)(n m:Nat):Ad Tryz.prog 196 2 (zipIdx [0,1] [.slice a n ca,.slice b m cb])=some (R 22 1 false [.slice a n ca,.slice b m cb]):=by kernel_rfl
theorem iC(hE:GoodN E){va vb:AV}{la lb:List Nat}(ha:Cv s va la)(hb:Cv s vb lb)(hla:la.length≤1000000000)(hlb:lb.length≤1000000000)(hsa:Bl la)(hsb:Bl lb){K:AV→AD→Prop}
    (hK:∀s' v,Ac s.next s s'→NR s.next s' v (AR (AG la+AG lb))→K v s'):WF E 153 [va,vb] K s:=by
  refine hE.go Zz (by decide) rfl ?_
  have hrow:Ad Tryz.prog 196 2 (zipIdx [0,1] [va,vb])=some (R 22 1 false [va,vb]):=by
    obtain⟨a,ca,rfl,_⟩:=ha
    obtain⟨b,cb,rfl,_⟩:=hb
    exact Yr _ _ _ _ _ _
  have ho:=Ac.new s (R 22 1 false [va,vb])
  simp only[kM,VU,VV,hrow,Xd,Qa,Qb,Qc,Qd,Qe,Qf,Qg,Qh,Qi,Qj,Qk,Ql,Qm,Qn,true_and,and_true,Qo,Qp,Qq,Qr,Qs,Qt,Qu,Qv,Qw,Qx,Qy,Qz,Ra,Rb,Rc,Rd,Re,Rf,Rg,Rh,Ri,Rj,Rk,Rm,Rn,Ro,Rp,Rq,Rs,Ya,Yb,Yc,Rt,Ru,Za,Yd,Ye,Rx,Ry,Rz,Wa,Wb,Wc,Wd]
  have hR:Ls (newObj s (R 22 1 false [va,vb])) s.next [va,vb] [la,lb]:=by
    refine⟨by rw[AO,if_pos rfl],rfl,fun j v l h1 h2=>?_⟩
    rcases j with _ | _ | j
    · cases h1;cases h2;exact ha.old ho
    · cases h1;cases h2;exact hb.old ho
    · cases h1
  refine jo hE (L:=[la,lb]) (og _) hR (by simp) (fun l hl=>?_) fun s' v o' r'=>?_
  · rcases List.mem_cons.1 hl with rfl | hl
    · exact⟨hsa,hla⟩
    · rw[List.mem_singleton.1 hl];exact⟨hsb,hlb⟩
  · have e:GY [la,lb]=AG la+AG lb:=by simp[GY]
    rw[e]at r'
    simp only[Qa,Qb,Qc,Qd,Qe,Qf,Qg,Qh,Qi,Qj,Qk,Ql,Qm,Qn,true_and,and_true,Qo,Qp,Qq,Qr,Qs,Qt,Qu,Qv,Qw,Qx,Qy,Qz,Ra,Rb,Rc,Rd,Re,Rf,Rg,Rh,Ri,Rj,Rk,Rm,Rn,Ro,Rp,Rq,Rs,Ya,Yb,Yc,Rt,Ru,Za,Yd,Ye,Rx,Ry,Rz,Wa,Wb,Wc,Wd]
    exact hK s' v (ho.trans (o'.mono ho.1)) (r'.mono ho.1)
end
def Kn (v0 v1 v2 v3 x6 x7 x8 x9:AV) (n0:Nat) (x11 x12:AV):C4:=
 Gj 154 [v0,v1,v2,v3,.ptr (some (n0,0)),.ptr (some (n0+1,0)),x6,x7,x8,x9,.func 188 [] [.ptr (some (n0+2,0)),.ptr (some (n0+2+1,0)),.ptr (some (n0+2+2,0))],x11,x12] #[18,19] M0 M1 (n0+5)
structure iA(n0:Nat)(s0:AD)(lo:C4)(P:List (Nat×Nat))(T:List Nat×Nat)(k:Nat)(s:AD):Prop where
 pk:PK n0 (n0+2) s0 s
 lt:n0+7≤s.next
 lp:BC s (n0+6)=some lo
 mrk:s.heap.get (n0+5)=some .mark
 ex:∃vo d O c,s.heap.get n0=some (R 22 0 false [vo])∧s.heap.get (n0+1)=some (R 69 0 false [Ag c])∧B9 76 s vo d.length 1 (us d) O∧(∀j∈O,n0+7≤j)∧(∀j,Cd vo=some j→n0+7≤j)∧d.length=k∧c≤1∧(d++(E8 (P.drop k) c).1,(E8 (P.drop k) c).2)=T
section
variable{E:CP}{s:AD}
theorem T7(hE:GoodN E){n0:Nat}{s0:AD}{v0 v1 v2 v3 x6 x7 x8 x9 x11 x12:AV}{P:List (Nat×Nat)}(hPl:P.length≤10000000000){T:List Nat×Nat}{k x y:Nat}(hP:P[k]? = some (x,y))(hx:x<4294967296)(hy:y<4294967296)
    (hI:iA n0 s0 (Kn v0 v1 v2 v3 x6 x7 x8 x9 n0 x11 x12) P T k s) {K:AV→AD→Prop} (hK:∀s',iA n0 s0 (Kn v0 v1 v2 v3 x6 x7 x8 x9 n0 x11 x12) P T (k+1) s'→K (.bool true) s'):
    WR E (n0+6) [Ag x,Ag y] K s:=by
  obtain⟨pk,hlt,hlp,hmk,vo,d,O,c,g1,g2,hD,hO,hsl,hdl,hc,hT⟩:=hI
  have hz:Cu (C3 E.P 154) (Kn v0 v1 v2 v3 x6 x7 x8 x9 n0 x11 x12).var [18,19] [Ag x,Ag y]=some [v0,v1,v2,v3,.ptr (some (n0,0)),.ptr (some (n0+1,0)),x6,x7,x8,x9,.func 188 [] [.ptr (some (n0+2,0)),.ptr (some (n0+2+1,0)),.ptr (some (n0+2+2,0))],Ag x,Ag y]:=by
    rw[hE.P,P1];rfl
  refine WR.round hlp hz (by rw[hE.P];exact VW) (by rw[hE.P];exact VX) ?_
  refine Dy ?_
  simp only[N9,Ve,Vf,Qa,Qb,Qc,Qd,Qe,Qf,Qg,Qh,Qi,Qj,Qk,Ql,Qm,Qn,true_and,and_true,Qo,Qp,Qq,Qr,Qs,Qt,Qu,Qv,Qw,Qx,Qy,Qz,Ra,Rb,Rc,Rd,Re,Rf,Rg,Rh,Ri,Rj,Rk,Rm,Rn,Ro,Rp,Rq,Rs,Ya,Yb,Yc,Rt,Ru,Za,Yd,Ye,Rx,Ry,Rz,Wa,Wb,Wc,Wd]
  refine⟨_,hlp,rfl,Dy ?_⟩
  generalize hs1:setObj s (n0+6) _=s1
  have n1:s1.next=s.next:=by rw[← hs1];rfl
  have f1:∀j,j≠n0+6→s1.heap.get j=s.heap.get j:=fun j hj=>by rw[← hs1,Ww _ hj]
  have l1:BC s1 (n0+6)=some { Kn v0 v1 v2 v3 x6 x7 x8 x9 n0 x11 x12 with state:=.busy }:=by rw[← hs1,CQ]
  have g1':=(f1 n0 (by omega)).trans g1
  have g2':=(f1 (n0+1) (by omega)).trans g2
  have hD1:B9 76 s1 vo d.length 1 (us d) O:=hD.frame (oU n1.symm) (fun j hj=>f1 j (by have:=hsl j hj;omega))
  have hdk:P.drop k=(x,y)::P.drop (k+1):=by
    have hk:k<P.length:=(List.getElem?_eq_some_iff.1 hP).1
    rw[ol hk]
    rw[nr hk]at hP
    rw[Option.some.inj hP]
  have hkP:k<P.length:=(List.getElem?_eq_some_iff.1 hP).1
  rw[hdk]at hT
  simp only[E8]at hT
  have hLB:LB=4294967296:=rfl
  rw[hLB]at hT
  have e1:=Me Tryz.prog 69 (a:=x) (b:=y) (by omega)
  have e2:=Me Tryz.prog 69 (a:=(x+18446744073709551616 - y) % 18446744073709551616) (b:=c) (by omega)
  generalize hc1:((x+18446744073709551616 - y) % 18446744073709551616+18446744073709551616 - c) % 18446744073709551616=c1 at e2
  have hc1b:c1<18446744073709551616:=by rw[← hc1];exact oT _ (by decide)
  have e3:=JV Tryz.prog 69 hc1b
  have e11:c1 % 4294967296 % 4294967296=c1 % 4294967296:=qB _ _
  have e12:c1 % 4294967296=(x+4294967296 - y - c) % 4294967296:=by omega
  have e15:AT Tryz.prog .shr 69 (Ag c1) (.int .u64 63)=some (Ag (c1 / 9223372036854775808)):=IU Tryz.prog 69 (k:=.u64) (n:=63) (by decide)
  have e14:c1 / 9223372036854775808=if x<y+c then 1 else 0:=by split<;>omega
  rw[← e12,← e14]at hT
  have hcq:c1 / 9223372036854775808≤1:=by omega
  generalize hz:c1 % 4294967296=z at hT e3 e11
  generalize hbq:c1 / 9223372036854775808=bq at hT e15 hcq
  have ld2:AC Tryz.prog s1 69 (.ptr (some (n0+1,0)))=some (Ag c):=AX UM g2' rfl
  have ld12:AC Tryz.prog s1 22 (.ptr (some (n0,0)))=some vo:=AX DO g1' rfl
  obtain⟨v',s3,O',happ,hD3,hn3,f3,hO3,hsl3⟩:=IE hD1 z (by omega)
  have happ':Av Tryz.prog (newObj s1 (R 76 1 false [.int .u32 z])) [22,22] [vo,.slice (some (s1.next,0)) 1 (some 1)]=some (v',s3):=happ
  have g13:s3.heap.get n0=some (R 22 0 false [vo]):=(f3 n0 (by omega) (fun h=>by have:=hO n0 h;omega)).trans g1'
  have g23:s3.heap.get (n0+1)=some (R 69 0 false [Ag c]):=(f3 (n0+1) (by omega) (fun h=>by have:=hO _ h;omega)).trans g2'
  have hv'c:v'.isCell=true:=by obtain⟨a,cap,rfl,_⟩:=hD3.cells;rfl
  have st3:=B1 (P:=Tryz.prog) (t:=22) (o:=0) (v:=v') Y3 g13 (by simp) hv'c
  simp only[pD]at st3
  generalize hs4:setObj s3 n0 (R 22 0 false [v'])=s4 at st3
  have n4:s4.next=s3.next:=by rw[← hs4];rfl
  have f4:∀j,j≠n0→s4.heap.get j=s3.heap.get j:=fun j hj=>by rw[← hs4,Ww _ hj]
  have g24:=(f4 (n0+1) (by omega)).trans g23
  have st4:=B1 (P:=Tryz.prog) (t:=69) (o:=0) (v:=Ag bq) Y4 g24 (by simp) rfl
  simp only[pD]at st4
  generalize hs5:setObj s4 (n0+1) (R 69 0 false [Ag bq])=s5 at st4
  have n5:s5.next=s4.next:=by rw[← hs5];rfl
  have f5:∀j,j≠n0+1→s5.heap.get j=s4.heap.get j:=fun j hj=>by rw[← hs5,Ww _ hj]
  have fall:∀j,j<s.next→j ∉ O→j≠n0→j≠n0+1→s5.heap.get j=s1.heap.get j:=fun j hj h1 h2 h3=>by
    rw[f5 j h3,f4 j h2,f3 j (by omega) h1]
  have l5:BC s5 (n0+6)=some { Kn v0 v1 v2 v3 x6 x7 x8 x9 n0 x11 x12 with state:=.busy }:=by
    rw[DK (fall (n0+6) (by omega) (fun h=>by have:=hO _ h;omega) (by omega) (by omega))];exact l1
  simp only[OA,Vg,Vh,SH,e1,e2,ld2,ld12,e3,Bx,e11,Fj,Xd,happ',st3,e15,st4,Xx,Xz,Qa,Qb,Qc,Qd,Qe,Qf,Qg,Qh,Qi,Qj,Qk,Ql,Qm,Qn,true_and,and_true,Qo,Qp,Qq,Qr,Qs,Qt,Qu,Qv,Qw,Qx,Qy,Qz,Ra,Rb,Rc,Rd,Re,Rf,Rg,Rh,Ri,Rj,Rk,Rm,Rn,Ro,Rp,Rq,Rs,Ya,Yb,Yc,Rt,Ru,Za,Yd,Ye,Rx,Ry,Rz,Wa,Wb,Wc,Wd]
  refine⟨_,l5,hK _ ?_⟩
  have fl:∀j,j≠n0+6→∀r,(setObj s5 (n0+6) r).heap.get j=s5.heap.get j:=fun j hj r=>Ww _ hj
  have hlow:∀j,j<n0+6→j≠n0→j≠n0+1→∀r,(setObj s5 (n0+6) r).heap.get j=s.heap.get j:=fun j h1 h2 h3 r=>by
    rw[fl j (by omega),fall j (by omega) (fun h=>by have:=hO _ h;omega) h2 h3,f1 j (by omega)]
  refine⟨pk.trans ⟨?_,fun j hj=>hlow j (by omega) (by omega) (by omega) _,hlow _ (by omega) (by omega) (by omega) _,hlow _ (by omega) (by omega) (by omega) _,hlow _ (by omega) (by omega) (by omega) _⟩,?_,?_,?_,v',d++[z],O',bq,?_,?_,?_,fun j hj=>?_,fun j hj=>?_,?_,hcq,?_⟩
  · show s.next≤s5.next;omega
  · show n0+7≤s5.next;omega
  · rw[CQ];rfl
  · rw[hlow _ (by omega) (by omega) (by omega)];exact hmk
  · rw[fl n0 (by omega),f5 n0 (by omega),← hs4,Wv]
  · rw[fl (n0+1) (by omega),← hs5,Wv]
  · refine hD3.frame (by show s3.next≤s5.next;omega) (fun j hj=>?_)
    have hj7:n0+7≤j:=by
      rcases hsl3 j hj with h | h
      · exact hsl j h
      · omega
    rw[fl j (by omega),f5 j (by omega),f4 j (by omega)]
  · rcases hO3 j hj with h | h
    · exact hO j h
    · omega
  · rcases hsl3 j hj with h | h
    · exact hsl j h
    · omega
  · rw[oI,hdl];rfl
  · rw[oX];exact hT
end
theorem Lb:∀ (P:List (Nat×Nat))(c:Nat),(E8 P c).1.length=P.length
 | [],_=>rfl
 | p::P,c=>by show(E8 P _).1.length+1=P.length+1;rw[Lb P]
theorem Hg:∀ (P:List (Nat×Nat))(c:Nat),Bl (E8 P c).1
 | [],_=>fun x hx=>by cases hx
 | p::P,c=>fun x hx=>by
  rcases List.mem_cons.1 (show x∈(p.1+LB - p.2 - c) % LB::(E8 P (if p.1<p.2+c then 1 else 0)).1 from hx)with e | e
  ·rw[e];exact oT _ BF
  ·exact Hg P _ x e
theorem Yz{a b:List Nat}(ha:Bl a)(hb:Bl b)(h:AG b≤AG a):AG (E8 (Bw a b) 0).1=AG a - AG b:=by
 have h1:=Pb (Bw a b) 0 (Tr ha hb) (oB _)
 have h2:=Cb (Hg (Bw a b) 0)
 rw[TC,TE,oM]at h1
 rw[Lb]at h2
 generalize AG (E8 (Bw a b) 0).1=z at *
 generalize (E8 (Bw a b) 0).2=c at *
 cases c with
 | zero=>rw[pI]at h1;omega
 | succ c =>
  rw[Nat.mul_succ]at h1
  generalize LB ^ (Bw a b).length=w at *
  generalize w * c=q at *
  omega
theorem SU(a b:Nat):decide (Eh a b<0)=decide (a<b):=by
 unfold Eh
 by_cases h:a<b
 ·rw[if_pos h];simp[h]
 ·rw[if_neg h]
  split<;>simp[h]
section
variable{E:CP}{s:AD}
theorem Y0     (hE : GoodN E) {va vb : AV} {la lb : List Nat} (ha : Cv  s va la) (hb : Cv  s vb lb) (hla : la.length ≤ 1000000000) (hlb : lb.length ≤ 1000000000) (hsa : Bl  la) (hsb : Bl  lb) {K : AV → AD  → Prop}
    (hK0:AG la<AG lb→∀s',Ac s.next s s'→K (.tuple [.slice none 0 (some 0),.bool false]) s')
    (hK1:AG lb≤AG la→∀s' v,Ac s.next s s'→NR s.next s' v (AR (AG la - AG lb))→K (.tuple [v,.bool true]) s'):WF E 154 [va,vb] K s:=by
  refine hE.go Z0 (by decide) rfl ?_
  simp only[kN,VY,VZ,Qa,Qb,Qc,Qd,Qe,Qf,Qg,Qh,Qi,Qj,Qk,Ql,Qm,Qn,true_and,and_true,Qo,Qp,Qq,Qr,Qs,Qt,Qu,Qv,Qw,Qx,Qy,Qz,Ra,Rb,Rc,Rd,Re,Rf,Rg,Rh,Ri,Rj,Rk,Rm,Rn,Ro,Rp,Rq,Rs,Ya,Yb,Yc,Rt,Ru,Za,Yd,Ye,Rx,Ry,Rz,Wa,Wb,Wc,Wd]
  refine QF hE ha hb (by omega) (by omega) hsa hsb fun S oS=>?_
  by_cases hlt:AG la<AG lb
  · have d1:decide (AG la<AG lb)=true:=decide_eq_true hlt
    simp only[Va,Rx,SU,d1,Qa,Qb,Qc,Qd,Qe,Qf,Qg,Qh,Qi,Qj,Qk,Ql,Qm,Qn,true_and,and_true,Qo,Qp,Qq,Qr,Qs,Qt,Qu,Qv,Qw,Qx,Qy,Qz,Ra,Rb,Rc,Rd,Re,Rf,Rg,Rh,Ri,Rj,Rk,Rm,Rn,Ro,Rp,Rq,Rs,Ya,Yb,Yc,Rt,Ru,Za,Yd,Ye,Rx,Ry,Rz,Wa,Wb,Wc,Wd]
    exact hK0 hlt S oS
  · have d1 : decide (AG   la < AG   lb) = false := decide_eq_false hlt
    have hNa:=ha.old oS
    have hNb:=hb.old oS
    have hSn:=oS.1
    generalize hn0:S.next=n0 at *
    have za:Ab Tryz.prog 22=some (R 22 0 false [.slice none 0 (some 0)],.ptr):=by kernel_rfl
    have zc:Ab Tryz.prog 69=some (R 69 0 false [.int .u64 0],.ptr):=by kernel_rfl
    generalize hS1:newObj S (R 22 0 false [.slice none 0 (some 0)])=S1
    have n1:S1.next=n0+1:=by rw[← hS1,← hn0];rfl
    have o1:∀j,j<n0→S1.heap.get j=S.heap.get j:=fun j hj=>by rw[← hS1,AO,if_neg (by omega)]
    have g1:S1.heap.get n0=some (R 22 0 false [.slice none 0 (some 0)]):=by rw[← hS1,AO,if_pos hn0.symm]
    generalize hS2:newObj S1 (R 69 0 false [.int .u64 0])=S2
    have n2:S2.next=n0+2:=by rw[← hS2];show S1.next+1=_;omega
    have g2:S2.heap.get (n0+1)=some (R 69 0 false [.int .u64 0]):=by rw[← hS2,AO,if_pos n1.symm]
    have o2:∀j,j<n0+1→S2.heap.get j=S1.heap.get j:=fun j hj=>by rw[← hS2,AO,if_neg (by omega)]
    have st:=B1 (P:=Tryz.prog) (t:=69) (o:=0) (v:=.int .u64 0) Y4 g2 (by simp) rfl
    simp only[pD]at st
    generalize hS3:setObj S2 (n0+1) (R 69 0 false [.int .u64 0])=S3 at st
    have n3:S3.next=n0+2:=by rw[← hS3];exact n2
    have g3:S3.heap.get (n0+1)=some (R 69 0 false [Ag 0]):=by rw[← hS3,Wv];rfl
    have o3:∀j,j<n0+1→S3.heap.get j=S1.heap.get j:=fun j hj=>by rw[← hS3,Ww _ (by omega),o2 j hj]
    obtain⟨aA,cA,eA,hcapA,hcA⟩:=hNa
    obtain⟨aB,cB,eB,hcapB,hcB⟩:=hNb
    simp only[Vb,Vc,Vd,Rx,SU,d1,za,zc,Xb,hn0,hS1,n1,hS2,st,Xx,Xz,Qa,Qb,Qc,Qd,Qe,Qf,Qg,Qh,Qi,Qj,Qk,Ql,Qm,Qn,true_and,and_true,Qo,Qp,Qq,Qr,Qs,Qt,Qu,Qv,Qw,Qx,Qy,Qz,Ra,Rb,Rc,Rd,Re,Rf,Rg,Rh,Ri,Rj,Rk,Rm,Rn,Ro,Rp,Rq,Rs,Ya,Yb,Yc,Rt,Ru,Za,Yd,Ye,Rx,Ry,Rz,Wa,Wb,Wc,Wd]
    refine PD hE (by rw[eA];rfl) (by rw[eB];rfl) fun S4 n4 f4 b1 b2 b3=>?_
    rw[n3]at n4 f4 b1 b2 b3 ⊢
    subst eA;subst eB
    simp only[Qa,Qb,Qc,Qd,Qe,Qf,Qg,Qh,Qi,Qj,Qk,Ql,Qm,Qn,true_and,and_true,Qo,Qp,Qq,Qr,Qs,Qt,Qu,Qv,Qw,Qx,Qy,Qz,Ra,Rb,Rc,Rd,Re,Rf,Rg,Rh,Ri,Rj,Rk,Rm,Rn,Ro,Rp,Rq,Rs,Ya,Yb,Yc,Rt,Ru,Za,Yd,Ye,Rx,Ry,Rz,Wa,Wb,Wc,Wd]
    refine WC.range rfl ?_
    rw[show S4.next=n0+5 by omega]
    show WF E 188 [.yield (n0+6),.ptr (some (n0+2,0)),.ptr (some (n0+2+1,0)),.ptr (some (n0+2+2,0))] _ (newObj (newObj S4 .mark) (.loop (Kn _ _ _ _ _ _ _ _ n0 _ _)))
    generalize hlo:Kn _ _ _ _ _ _ _ _ n0 _ _=lo
    have hm1:(newObj S4 .mark).next=n0+6:=by show S4.next+1=_;omega
    generalize hs0:newObj (newObj S4 .mark) (.loop lo)=s0
    have n0':s0.next=n0+7:=by rw[← hs0];show S4.next+1+1=_;omega
    have f0:∀j,j<n0+5→s0.heap.get j=S4.heap.get j:=fun j hj=>by rw[← hs0,AO,if_neg (by omega),AO,if_neg (by omega)]
    have hmk0:s0.heap.get (n0+5)=some .mark:=by rw[← hs0,AO,if_neg (by omega),AO,if_pos (by omega)]
    have hlp0:BC s0 (n0+6)=some lo:=by
      unfold BC
      rw[← hs0,AO,if_pos hm1.symm]
    have o0:Ac n0 S s0:=⟨by omega,fun j hj=>by rw[f0 j (by omega),f4 j (by omega),o3 j (by omega),o1 j hj]⟩
    have hPl:=K8 la lb
    have hPv:=Yz hsa hsb (by omega)
    have hPs:=Hg (Bw la lb) 0
    have hPn:=Lb (Bw la lb) 0
    refine MM hE (s0:=s0) (n0:=n0) (p:=n0+2) (l:=n0+6) (la:=la) (lb:=lb) (ca:=cA) (cb:=cB) (a:=aA) (b:=aB) (by omega) (by omega) hsa hsb ((hcA.old o0 (oU hn0)).mono (oU hn0)) ((hcB.old o0 (oU hn0)).mono (oU hn0)) ((f0 _ (by omega)).trans b1) ((f0 _ (by omega)).trans b2) ((f0 _ (by omega)).trans b3)
      (iA n0 s0 lo (Bw la lb) (E8 (Bw la lb) 0)) (fun k s h=>h.pk) (fun k s K hk hI hK=>by
        subst hlo
        exact T7 hE (by rw[hPl];omega) (K7 hk) (Gg hsa k) (Gg hsb k) hI hK)
      ⟨PK.refl _ _ _,by omega,hlp0,hmk0,_,[],[],0,?_,?_,B9.nil s0 1,fun j hj=>(by cases hj),fun j hj=>(by cases hj),rfl,by omega,rfl⟩ (fun v s' hI=>?_)
    · rw[f0 n0 (by omega),f4 n0 (by omega),o3 n0 (by omega)];exact g1
    · rw[f0 (n0+1) (by omega),f4 (n0+1) (by omega)];exact g3
    obtain⟨pk,hlt',hlp,hmk,vo,d,O,c,k1,k2,hD,hO,hsl,hdl,hc,hT⟩:=hI
    rw[oo (by rw[hPl];omega)]at hT
    simp only[E8,pz]at hT
    rw[← hT]at hPv hPs hPn
    simp only at hPv hPs hPn
    refine⟨lo,hlp,by rw[← hlo];rfl,?_⟩
    have hpd:lo.pending=none:=by rw[← hlo];rfl
    rw[hpd]
    generalize hs6:setObj s' (n0+5+1) _=s6
    have n6:s6.next=s'.next:=by rw[← hs6];rfl
    have f6:∀j,j≠n0+6→s6.heap.get j=s'.heap.get j:=fun j hj=>by rw[← hs6,Ww _ (by omega)]
    have hD6:B9 76 s6 vo d.length 1 (us d) O:=hD.frame (oU n6.symm) (fun j hj=>f6 j (by have:=hsl j hj;omega))
    have ld1:AC Tryz.prog s6 22 (.ptr (some (n0,0)))=some vo:=AX DO ((f6 n0 (by omega)).trans k1) rfl
    simp only[J0,SI,ld1,Qa,Qb,Qc,Qd,Qe,Qf,Qg,Qh,Qi,Qj,Qk,Ql,Qm,Qn,true_and,and_true,Qo,Qp,Qq,Qr,Qs,Qt,Qu,Qv,Qw,Qx,Qy,Qz,Ra,Rb,Rc,Rd,Re,Rf,Rg,Rh,Ri,Rj,Rk,Rm,Rn,Ro,Rp,Rq,Rs,Ya,Yb,Yc,Rt,Ru,Za,Yd,Ye,Rx,Ry,Rz,Wa,Wb,Wc,Wd]
    have hN:Cv s6 vo d:=B9.n32 hD6
    refine CT hE hN (by rw[hdl];omega) fun s7 v7 o7 r7=>?_
    rw[Bq hPs,hPv]at r7
    have g7:=o7.1
    obtain⟨s8,u1,u2,u3⟩:=FS [n0+5] s7 (by simp) (fun m h=>by
      rw[List.mem_singleton.1 h,o7.2 _ (by omega),f6 _ (by omega)];exact hmk)
    simp only[u1,Qa,Qb,Qc,Qd,Qe,Qf,Qg,Qh,Qi,Qj,Qk,Ql,Qm,Qn,true_and,and_true,Qo,Qp,Qq,Qr,Qs,Qt,Qu,Qv,Qw,Qx,Qy,Qz,Ra,Rb,Rc,Rd,Re,Rf,Rg,Rh,Ri,Rj,Rk,Rm,Rn,Ro,Rp,Rq,Rs,Ya,Yb,Yc,Rt,Ru,Za,Yd,Ye,Rx,Ry,Rz,Wa,Wb,Wc,Wd]
    refine hK1 (by omega) s8 v7 ⟨by omega,fun j hj=>?_⟩ ((r7.keep (by omega) (fun j hj=>u3 j (fun h=>?_))).mono (by omega))
    · rw[u3 j (fun h=>by rw[List.mem_singleton.1 h]at hj;omega),o7.2 j (by omega),f6 j (by omega),pk.low j (by omega),o0.2 j (by omega),oS.2 j hj]
    · obtain⟨O,_,_,q,_⟩:=r7
      have:=q j hj
      rw[List.mem_singleton.1 h]at this
      omega
end
end
end Go.Proofs.YtjnkfbpadpmakaaGreatDoor.Am
set_option linter.unusedVariables false
set_option linter.unusedSimpArgs false
set_option maxRecDepth 100000
namespace Go.Proofs.YtjnkfbpadpmakaaGreatDoor.Am
open Go Go.Proofs
noncomputable section
theorem CC:A3 Tryz.prog 24=some 2:=by kernel_rfl
theorem C6:De Tryz.prog 24=some true:=by kernel_rfl
theorem Dj(i o:Nat):AH Tryz.prog 24 (.ptr (some (i,o))) 0=some (.ptr (some (i,o+0))):=by kernel_rfl
theorem Dk(i o:Nat):AH Tryz.prog 24 (.ptr (some (i,o))) 1=some (.ptr (some (i,o+1))):=by kernel_rfl
def Pu:List AA:=[
 ⟨none,.mk (fun l=>match l with | []=>Ab Tryz.prog 24 | _=>none),[],(.set 2),[]⟩]
def Pv:List AA:=[
 ⟨none,.p1 some,[.var 1],.push,[]⟩,
 ⟨none,.call 92,[.loc 0],.push,[]⟩,
 ⟨none,.p1 some,[.loc 0],(.set 1),[]⟩]
def KC:List AA:=[
 ⟨(some ((.var 0),true)),.p1 some,[.var 1],.push,[]⟩,
 ⟨(some ((.var 0),true)),.r (fun s l=>match l with | [x]=>BZ Tryz.prog s 22 x | _=>none),[.loc 0],.push,[]⟩,
 ⟨(some ((.var 0),true)),.p2 (AT Tryz.prog .gtr 3),[(.loc 0),(.const (.int .i64 (0)))],.push,[]⟩,
 ⟨none,.p Rt,[(.var 0),(.loc 0),(.const (.bool false))],.push,[]⟩,
 ⟨none,.p (fun l=>Cz Tryz.prog 24 (zipIdx [0,1] l)),[.loc 0,.var 1],.push,[]⟩,
 ⟨none,.e (fun s=>Xx (fun a x=>Xz (AK Tryz.prog s 24 a x))),[.var 2,.loc 0],.push,[]⟩]
def iI:Ao:=⟨2,3,(.seq (.ops Pu) (.seq (.ops Pv) (.seq (.ops KC) .ret))),[((.var 2),some 24)]⟩
def U6:List AA:=[
 ⟨none,.mk (fun l=>match l with | [v]=>Be 24 v | _=>none),[.var 0],(.set 1),[]⟩,
 ⟨none,.mk (fun l=>match l with | []=>Ab Tryz.prog 24 | _=>none),[],(.set 2),[]⟩]
def U7:List AA:=[
 ⟨none,.p1 (fun x=>AH Tryz.prog 24 x 0),[.var 1],.push,[]⟩,
 ⟨none,.r1 (fun s a=>AC Tryz.prog s 4 a),[.loc 0],.push,[]⟩,
 ⟨none,.p1 (fun x=>AH Tryz.prog 24 x 1),[.var 1],.push,[]⟩,
 ⟨none,.r1 (fun s a=>AC Tryz.prog s 22 a),[.loc 0],.push,[]⟩,
 ⟨none,.call 107,[.loc 2,.loc 0],.push,[]⟩,
 ⟨none,.e (fun s=>Xx (fun a x=>Xz (AK Tryz.prog s 24 a x))),[.var 2,.loc 0],.push,[]⟩]
def kJ:Ao:=⟨1,3,(.seq (.ops U6) (.seq (.ops U7) .ret)),[((.var 2),some 24)]⟩
def VN:List AA:=[
 ⟨none,.mk (fun l=>match l with | [v]=>Be 24 v | _=>none),[.var 0],(.set 2),[]⟩,
 ⟨none,.mk (fun l=>match l with | [v]=>Be 24 v | _=>none),[.var 1],(.set 3),[]⟩,
 ⟨none,.mk (fun l=>match l with | []=>Ab Tryz.prog 24 | _=>none),[],(.set 4),[]⟩]
def VO:List AA:=[
 ⟨none,.r1 (fun s a=>AC Tryz.prog s 24 a),[.var 2],.push,[]⟩,
 ⟨none,.r1 (fun s a=>AC Tryz.prog s 24 a),[.var 3],.push,[]⟩,
 ⟨none,.call 132,[.loc 1],.push,[⟨none,.r1 (fun s a=>AC Tryz.prog s 24 a),[.var 3],(.loc 1)⟩]⟩,
 ⟨none,.call 132,[.loc 1],.push,[]⟩,
 ⟨none,.e (fun s=>Xx (fun a x=>Xz (AK Tryz.prog s 24 a x))),[.var 2,.loc 1],.push,[]⟩,
 ⟨none,.e (fun s=>Xx (fun a x=>Xz (AK Tryz.prog s 24 a x))),[.var 3,.loc 1],.push,[]⟩]
def Pz:List AA:=[
 ⟨none,.p1 (fun x=>AH Tryz.prog 24 x 0),[.var 2],.push,[]⟩,
 ⟨none,.r1 (fun s a=>AC Tryz.prog s 4 a),[.loc 0],.push,[]⟩,
 ⟨none,.p1 (fun x=>AH Tryz.prog 24 x 0),[.var 3],.push,[]⟩,
 ⟨none,.r1 (fun s a=>AC Tryz.prog s 4 a),[.loc 0],.push,[]⟩,
 ⟨none,.p2 (AT Tryz.prog .eql 4),[.loc 2,.loc 0],(.set 8),[]⟩]
def VP:List AA:=[
 ⟨none,.p1 (fun x=>AH Tryz.prog 24 x 0),[.var 2],.push,[]⟩,
 ⟨none,.r1 (fun s a=>AC Tryz.prog s 4 a),[.loc 0],.push,[]⟩,
 ⟨none,.p1 (fun x=>AH Tryz.prog 24 x 1),[.var 2],.push,[]⟩,
 ⟨none,.r1 (fun s a=>AC Tryz.prog s 22 a),[.loc 0],.push,[]⟩,
 ⟨none,.p1 (fun x=>AH Tryz.prog 24 x 1),[.var 3],.push,[]⟩,
 ⟨none,.r1 (fun s a=>AC Tryz.prog s 22 a),[.loc 0],.push,[]⟩,
 ⟨none,.call 153,[.loc 2,.loc 0],.push,[⟨none,.r1 (fun s a=>AC Tryz.prog s 4 a),[.loc 6],(.loc 5)⟩]⟩,
 ⟨none,.call 107,[.loc 5,.loc 0],.push,[]⟩,
 ⟨none,.e (fun s=>Xx (fun a x=>Xz (AK Tryz.prog s 24 a x))),[.var 4,.loc 0],.push,[]⟩]
def VQ:List AA:=[
 ⟨none,.p1 (fun x=>AH Tryz.prog 24 x 1),[.var 2],.push,[]⟩,
 ⟨none,.r1 (fun s a=>AC Tryz.prog s 22 a),[.loc 0],.push,[]⟩,
 ⟨none,.p1 (fun x=>AH Tryz.prog 24 x 1),[.var 3],.push,[]⟩,
 ⟨none,.r1 (fun s a=>AC Tryz.prog s 22 a),[.loc 0],.push,[]⟩,
 ⟨none,.call 154,[.loc 2,.loc 0],.push,[]⟩,
 ⟨none,.p1 (fun x=>Za x 0),[.loc 0],.push,[]⟩,
 ⟨none,.p1 (fun x=>Za x 1),[.loc 1],.push,[]⟩,
 ⟨none,.p1 some,[.loc 1],(.set 5),[]⟩,
 ⟨none,.p1 some,[.loc 0],(.set 6),[]⟩]
def P0:List AA:=[
 ⟨none,.p1 some,[.var 6],(.set 9),[]⟩]
def VR:List AA:=[
 ⟨none,.p1 (fun x=>AH Tryz.prog 24 x 0),[.var 2],.push,[]⟩,
 ⟨none,.r1 (fun s a=>AC Tryz.prog s 4 a),[.loc 0],.push,[]⟩,
 ⟨none,.call 107,[.loc 0,.var 5],.push,[]⟩,
 ⟨none,.e (fun s=>Xx (fun a x=>Xz (AK Tryz.prog s 24 a x))),[.var 4,.loc 0],.push,[]⟩]
def VS:List AA:=[
 ⟨none,.p1 (fun x=>AH Tryz.prog 24 x 1),[.var 3],.push,[]⟩,
 ⟨none,.r1 (fun s a=>AC Tryz.prog s 22 a),[.loc 0],.push,[]⟩,
 ⟨none,.p1 (fun x=>AH Tryz.prog 24 x 1),[.var 2],.push,[]⟩,
 ⟨none,.r1 (fun s a=>AC Tryz.prog s 22 a),[.loc 0],.push,[]⟩,
 ⟨none,.call 154,[.loc 2,.loc 0],.push,[]⟩,
 ⟨none,.p1 (fun x=>Za x 0),[.loc 0],.push,[]⟩,
 ⟨none,.p1 (fun x=>Za x 1),[.loc 1],.push,[]⟩,
 ⟨none,.p1 some,[.loc 1],(.set 7),[]⟩,
 ⟨none,.p1 some,[.loc 0],.push,[]⟩]
def VT:List AA:=[
 ⟨none,.p1 (fun x=>AH Tryz.prog 24 x 0),[.var 3],.push,[]⟩,
 ⟨none,.r1 (fun s a=>AC Tryz.prog s 4 a),[.loc 0],.push,[]⟩,
 ⟨none,.call 107,[.loc 0,.var 7],.push,[]⟩,
 ⟨none,.e (fun s=>Xx (fun a x=>Xz (AK Tryz.prog s 24 a x))),[.var 4,.loc 0],.push,[]⟩]
def kL:Ao:=⟨2,10,(.seq (.ops VN) (.seq (.ops VO) (.seq (.seq (.ops Pz) (.cond (.var 8)
 (.seq (.ops VP) .ret)
 .skip)) (.seq (.seq (.ops VQ) (.seq (.ops P0) (.cond (.var 9)
 (.seq (.ops VR) .ret)
 .skip))) (.seq (.ops VS) (.seq (.ops VT) .ret)))))),[((.var 4),some 24)]⟩
def U4:List AA:=[
 ⟨none,.mk (fun l=>match l with | [v]=>Be 24 v | _=>none),[.var 0],(.set 2),[]⟩,
 ⟨none,.mk (fun l=>match l with | [v]=>Be 24 v | _=>none),[.var 1],(.set 3),[]⟩,
 ⟨none,.mk (fun l=>match l with | []=>Ab Tryz.prog 24 | _=>none),[],(.set 4),[]⟩]
def U5:List AA:=[
 ⟨none,.p1 (fun x=>AH Tryz.prog 24 x 0),[.var 2],.push,[]⟩,
 ⟨none,.r1 (fun s a=>AC Tryz.prog s 4 a),[.loc 0],.push,[]⟩,
 ⟨none,.p1 (fun x=>AH Tryz.prog 24 x 0),[.var 3],.push,[]⟩,
 ⟨none,.r1 (fun s a=>AC Tryz.prog s 4 a),[.loc 0],.push,[]⟩,
 ⟨none,.p2 (AT Tryz.prog .neq 4),[.loc 2,.loc 0],.push,[]⟩,
 ⟨none,.p1 (fun x=>AH Tryz.prog 24 x 1),[.var 2],.push,[]⟩,
 ⟨none,.r1 (fun s a=>AC Tryz.prog s 22 a),[.loc 0],.push,[]⟩,
 ⟨none,.p1 (fun x=>AH Tryz.prog 24 x 1),[.var 3],.push,[]⟩,
 ⟨none,.r1 (fun s a=>AC Tryz.prog s 22 a),[.loc 0],.push,[]⟩,
 ⟨none,.call 51,[.loc 2,.loc 0],.push,[⟨none,.r1 (fun s a=>AC Tryz.prog s 4 a),[.loc 7],(.loc 6)⟩,⟨none,.r1 (fun s a=>AC Tryz.prog s 4 a),[.loc 9],(.loc 8)⟩]⟩,
 ⟨none,.call 107,[.loc 5,.loc 0],.push,[]⟩,
 ⟨none,.e (fun s=>Xx (fun a x=>Xz (AK Tryz.prog s 24 a x))),[.var 4,.loc 0],.push,[]⟩]
def kI:Ao:=⟨2,5,(.seq (.ops U4) (.seq (.ops U5) .ret)),[((.var 4),some 24)]⟩
def Ux:List AA:=[
 ⟨none,.mk (fun l=>match l with | [v]=>Be 24 v | _=>none),[.var 0],(.set 3),[]⟩,
 ⟨none,.mk (fun l=>match l with | []=>Ab Tryz.prog 24 | _=>none),[],(.set 4),[]⟩]
def Uy:List AA:=[
 ⟨none,.p1 some,[.var 1],(.set 6),[]⟩,
 ⟨none,.r (fun s l=>match l with | [x]=>BZ Tryz.prog s 134 x | _=>none),[.var 6],(.set 7),[]⟩,
 ⟨none,.p1 some,[(.const (.int .i64 (0)))],(.set 8),[]⟩]
def Pw:List AA:=[
 ⟨none,.p2 (AT Tryz.prog .lss 3),[.var 8,.var 7],(.set 9),[]⟩]
def Uz:List AA:=[
 ⟨none,.p2 (AM Tryz.prog 134),[.var 6,.var 8],.push,[]⟩,
 ⟨none,.r1 (fun s a=>AC Tryz.prog s 24 a),[.loc 0],.push,[]⟩,
 ⟨none,.mk (fun l=>match l with | []=>Ab Tryz.prog 24 | _=>none),[],(.set 5),[]⟩,
 ⟨none,.e (fun s=>Xx (fun a x=>Xz (AK Tryz.prog s 24 a x))),[.var 5,.loc 0],.push,[]⟩]
def U1:List AA:=[
 ⟨none,.r1 (fun s a=>AC Tryz.prog s 24 a),[.var 3],.push,[]⟩,
 ⟨none,.r1 (fun s a=>AC Tryz.prog s 24 a),[.var 5],.push,[]⟩,
 ⟨none,.callv,[.var 2,.loc 1,.loc 0],.push,[]⟩,
 ⟨none,.e (fun s=>Xx (fun a x=>Xz (AK Tryz.prog s 24 a x))),[.var 3,.loc 0],.push,[]⟩]
def U2:List AA:=[
 ⟨none,.p2 (AT Tryz.prog .add 3),[(.var 8),(.const (.int .i64 (1)))],.push,[]⟩,
 ⟨none,.p1 some,[.loc 0],(.set 8),[]⟩]
def Ib:Af:=(.seq (.ops Pw) (.seq (.cond (.var 9)
 .skip
 (.exit 0)) (.seq (.block 1 (.seq (.ops Uz) (.ops U1))) (.ops U2))))
def U3:List AA:=[
 ⟨none,.r1 (fun s a=>AC Tryz.prog s 24 a),[.var 3],.push,[]⟩,
 ⟨none,.e (fun s=>Xx (fun a x=>Xz (AK Tryz.prog s 24 a x))),[.var 4,.loc 0],.push,[]⟩]
def kH:Ao:=⟨3,10,(.seq (.ops Ux) (.seq (.seq (.ops Uy) (.block 0 (.loop Ib))) (.seq (.ops U3) .ret))),[((.var 4),some 24)]⟩
def Ur:List AA:=[
 ⟨none,.mk (fun l=>match l with | []=>Ab Tryz.prog 24 | _=>none),[],(.set 1),[]⟩]
def Us:List AA:=[
 ⟨none,.p (fun l=>Cz Tryz.prog 24 (zipIdx [] l)),[],.push,[]⟩,
 ⟨none,.call 116,[(.loc 0),(.var 0),(.const (.func 141 [] []))],.push,[]⟩,
 ⟨none,.e (fun s=>Xx (fun a x=>Xz (AK Tryz.prog s 24 a x))),[.var 1,.loc 0],.push,[]⟩]
def kE:Ao:=⟨1,2,(.seq (.ops Ur) (.seq (.ops Us) .ret)),[((.var 1),some 24)]⟩
def fK:List AA:=[
 ⟨none,.mk (fun l=>match l with | []=>Ab Tryz.prog 24 | _=>none),[],(.set 1),[]⟩]
def fL:List AA:=[
 ⟨none,.call 60,[(.const (.int .i64 (1)))],.push,[]⟩,
 ⟨none,.call 116,[(.loc 0),(.var 0),(.const (.func 117 [] []))],.push,[]⟩,
 ⟨none,.e (fun s=>Xx (fun a x=>Xz (AK Tryz.prog s 24 a x))),[.var 1,.loc 0],.push,[]⟩]
def nS:Ao:=⟨1,2,(.seq (.ops fK) (.seq (.ops fL) .ret)),[((.var 1),some 24)]⟩
def eR:List AA:=[
 ⟨none,.mk (fun l=>match l with | [v]=>Be 24 v | _=>none),[.var 0],(.set 2),[]⟩,
 ⟨none,.mk (fun l=>match l with | [v]=>Be 24 v | _=>none),[.var 1],(.set 3),[]⟩,
 ⟨none,.p1 some,[(.const (.int .i64 (0)))],(.set 4),[]⟩]
def eS:List AA:=[
 ⟨none,.r1 (fun s a=>AC Tryz.prog s 24 a),[.var 2],.push,[]⟩,
 ⟨none,.r1 (fun s a=>AC Tryz.prog s 24 a),[.var 3],.push,[]⟩,
 ⟨none,.call 100,[.loc 1],.push,[⟨none,.r1 (fun s a=>AC Tryz.prog s 24 a),[.var 3],(.loc 1)⟩]⟩,
 ⟨none,.call 100,[.loc 1],.push,[]⟩,
 ⟨none,.p1 some,[.loc 1],(.set 5),[]⟩,
 ⟨none,.p1 some,[.loc 0],(.set 6),[]⟩]
def SP:List AA:=[
 ⟨none,.p2 (AT Tryz.prog .neq 3),[.var 5,.var 6],.push,[]⟩,
 ⟨(some ((.loc 0),false)),.p1 some,[.var 5],.push,[]⟩,
 ⟨(some ((.loc 1),false)),.p2 (AT Tryz.prog .eql 3),[(.loc 0),(.const (.int .i64 (0)))],.push,[]⟩,
 ⟨none,.p Rt,[(.loc 2),(.const (.bool true)),(.loc 0)],(.set 7),[]⟩]
def Wt:List AA:=[
 ⟨none,.p2 (AT Tryz.prog .sub 3),[.var 5,.var 6],.push,[]⟩,
 ⟨none,.p (fun l=>match l with | v::l=>B3 false v l | []=>none),[(.loc 0),(.const (.int .i64 (1)))],.push,[]⟩,
 ⟨none,.p (fun l=>match l with | v::l=>B3 true v l | []=>none),[(.const (.int .i64 (-1))),(.loc 0)],.push,[]⟩,
 ⟨none,.p1 some,[.loc 0],(.set 4),[]⟩]
def eT:List AA:=[
 ⟨none,.p1 (fun x=>AH Tryz.prog 24 x 1),[.var 2],.push,[]⟩,
 ⟨none,.r1 (fun s a=>AC Tryz.prog s 22 a),[.loc 0],.push,[]⟩,
 ⟨none,.p1 (fun x=>AH Tryz.prog 24 x 1),[.var 3],.push,[]⟩,
 ⟨none,.r1 (fun s a=>AC Tryz.prog s 22 a),[.loc 0],.push,[]⟩,
 ⟨none,.call 93,[.loc 2,.loc 0],.push,[]⟩,
 ⟨none,.p2 (AT Tryz.prog .mul 3),[.var 5,.loc 0],.push,[]⟩,
 ⟨none,.p1 some,[.loc 0],(.set 4),[]⟩]
def nN:Ao:=⟨2,8,(.seq (.ops eR) (.seq (.ops eS) (.seq (.ops SP) (.cond (.var 7)
 (.seq (.ops Wt) .ret)
 (.seq (.ops eT) .ret))))),[((.var 4),none)]⟩
def UY:List AA:=[
 ⟨none,.mk (fun l=>match l with | [v]=>Be 24 v | _=>none),[.var 0],(.set 1),[]⟩,
 ⟨none,.p1 some,[(.const (.int .i64 (0)))],(.set 2),[]⟩]
def UZ:List AA:=[
 ⟨none,.r1 (fun s a=>AC Tryz.prog s 24 a),[.var 1],.push,[]⟩,
 ⟨none,.call 132,[.loc 0],.push,[]⟩,
 ⟨none,.e (fun s=>Xx (fun a x=>Xz (AK Tryz.prog s 24 a x))),[.var 1,.loc 0],.push,[]⟩]
def Mx:List AA:=[
 ⟨none,.p1 (fun x=>AH Tryz.prog 24 x 0),[.var 1],.push,[]⟩,
 ⟨none,.r1 (fun s a=>AC Tryz.prog s 4 a),[.loc 0],.push,[]⟩,
 ⟨none,.p1 some,[.loc 0],(.set 3),[]⟩]
def Ua:List AA:=[
 ⟨none,.p1 some,[(.const (.int .i64 (-1)))],(.set 2),[]⟩]
def Pt:List AA:=[
 ⟨none,.p1 (fun x=>AH Tryz.prog 24 x 1),[.var 1],.push,[]⟩,
 ⟨none,.r1 (fun s a=>AC Tryz.prog s 22 a),[.loc 0],.push,[]⟩,
 ⟨none,.r (fun s l=>match l with | [x]=>BZ Tryz.prog s 22 x | _=>none),[.loc 0],.push,[]⟩,
 ⟨none,.p2 (AT Tryz.prog .gtr 3),[(.loc 0),(.const (.int .i64 (0)))],.push,[]⟩,
 ⟨none,.p1 some,[.loc 0],(.set 4),[]⟩]
def Ub:List AA:=[
 ⟨none,.p1 some,[(.const (.int .i64 (1)))],(.set 2),[]⟩]
def Uc:List AA:=[
 ⟨none,.p1 some,[(.const (.int .i64 (0)))],(.set 2),[]⟩]
def j7:Ao:=⟨1,5,(.seq (.ops UY) (.seq (.seq (.ops UZ) (.block 0 (.seq (.ops Mx) (.cond (.var 3)
 (.seq (.ops Ua) .ret)
 (.seq (.ops Pt) (.cond (.var 4)
 (.seq (.ops Ub) .ret)
 .skip)))))) (.seq (.ops Uc) .ret))),[((.var 2),none)]⟩
def Ud:List AA:=[
 ⟨none,.mk (fun l=>match l with | [v]=>Be 24 v | _=>none),[.var 0],(.set 1),[]⟩,
 ⟨none,.mk (fun l=>match l with | []=>Ab Tryz.prog 24 | _=>none),[],(.set 2),[]⟩]
def Ue:List AA:=[
 ⟨none,.p1 (fun x=>AH Tryz.prog 24 x 0),[.var 1],.push,[]⟩,
 ⟨none,.r1 (fun s a=>AC Tryz.prog s 4 a),[.loc 0],.push,[]⟩,
 ⟨none,.p1 (UH Tryz.prog Go.UnOp.not),[.loc 0],.push,[]⟩,
 ⟨none,.p1 (fun x=>AH Tryz.prog 24 x 1),[.var 1],.push,[]⟩,
 ⟨none,.r1 (fun s a=>AC Tryz.prog s 22 a),[.loc 0],.push,[]⟩,
 ⟨none,.call 107,[.loc 2,.loc 0],.push,[]⟩,
 ⟨none,.e (fun s=>Xx (fun a x=>Xz (AK Tryz.prog s 24 a x))),[.var 2,.loc 0],.push,[]⟩]
def j8:Ao:=⟨1,3,(.seq (.ops Ud) (.seq (.ops Ue) .ret)),[((.var 2),some 24)]⟩
def Wk:List AA:=[
 ⟨none,.mk (fun l=>match l with | []=>Ab Tryz.prog 24 | _=>none),[],(.set 1),[]⟩]
def Wl:List AA:=[
 ⟨none,.r1 (fun s x=>As Tryz.prog s 2 69 x),[.var 0],.push,[]⟩,
 ⟨none,.p1 some,[.loc 0],(.set 2),[]⟩]
def Wm:List AA:=[
 ⟨none,.p2 (AT Tryz.prog .lss 2),[(.var 0),(.const (.int .i64 (0)))],(.set 3),[]⟩]
def eG:List AA:=[
 ⟨none,.p1 some,[.var 2],.push,[]⟩,
 ⟨none,.p1 (UH Tryz.prog Go.UnOp.neg),[.loc 0],.push,[]⟩,
 ⟨none,.p1 some,[.loc 0],(.set 2),[]⟩]
def Wp:List AA:=[
 ⟨none,.p2 (AT Tryz.prog .lss 2),[(.var 0),(.const (.int .i64 (0)))],.push,[]⟩,
 ⟨none,.r1 (fun s x=>As Tryz.prog s 69 76 x),[.var 2],.push,[]⟩,
 ⟨none,.p2 (AT Tryz.prog .shr 69),[(.var 2),(.const (.int .u64 (32)))],.push,[]⟩,
 ⟨none,.r1 (fun s x=>As Tryz.prog s 69 76 x),[.loc 0],.push,[]⟩,
 ⟨none,.mk (fun l=>(Ad Tryz.prog 22 2 (zipIdx [0,1] l)).bind fun r=>some (r,.slice 2)),[.loc 2,.loc 0],.push,[]⟩,
 ⟨none,.call 107,[.loc 4,.loc 0],.push,[]⟩,
 ⟨none,.e (fun s=>Xx (fun a x=>Xz (AK Tryz.prog s 24 a x))),[.var 1,.loc 0],.push,[]⟩]
def mD:Ao:=⟨1,4,(.seq (.ops Wk) (.seq (.ops Wl) (.seq (.seq (.ops Wm) (.cond (.var 3)
 (.ops eG)
 .skip)) (.seq (.ops Wp) .ret)))),[((.var 1),some 24)]⟩
theorem SW:AN Tryz.prog 107=some iI:=by kernel_rfl
theorem Zw:AN Tryz.prog 132=some kJ:=by kernel_rfl
theorem Zy:AN Tryz.prog 141=some kL:=by kernel_rfl
theorem Zv:AN Tryz.prog 117=some kI:=by kernel_rfl
theorem Zu:AN Tryz.prog 116=some kH:=by kernel_rfl
theorem Zr:AN Tryz.prog 113=some kE:=by kernel_rfl
theorem jE:AN Tryz.prog 71=some nS:=by kernel_rfl
theorem i9:AN Tryz.prog 66=some nN:=by kernel_rfl
theorem Zk:AN Tryz.prog 100=some j7:=by kernel_rfl
theorem Zl:AN Tryz.prog 106=some j8:=by kernel_rfl
theorem iy:AN Tryz.prog 60=some mD:=by kernel_rfl
end
end Go.Proofs.YtjnkfbpadpmakaaGreatDoor.Am
set_option linter.unusedVariables false
namespace Go.Proofs.YtjnkfbpadpmakaaGreatDoor.Am
noncomputable section
def B8(neg:Bool)(m:Nat):Int:=if neg=true then -(m:Int)else (m:Int)
def EE(d:Nat):Nat:=if d=0 then 1 else d
def NU(neg:Bool)(m d:Nat):Rat:=mkRat (B8 neg m) (EE d)
theorem Hu(d:Nat):EE d≠0:=by unfold EE;split<;>omega
theorem CV(neg:Bool)(m:Nat):(B8 neg m).natAbs=m:=by unfold B8;split<;>omega
theorem LH(neg:Bool)(m d:Nat):(NU neg m d).num=B8 neg m / ((m.gcd (EE d):Nat):Int):=by
 unfold NU
 rw[Rat.num_mkRat,if_neg (Hu d),Nat.gcd_comm]
 simp[CV]
theorem PL(neg:Bool)(m d:Nat):(NU neg m d).den=EE d / m.gcd (EE d):=by
 unfold NU
 rw[Rat.den_mkRat,if_neg (Hu d)]
 simp[CV,Nat.gcd_comm]
theorem NV{n:Int}{d:Nat}(hd:d≠0)(neg:Bool)(m:Nat)(hn:B8 neg m=n):NU neg m d=mkRat n d:=by
 unfold NU EE
 rw[if_neg hd,hn]
theorem jX{n1 n2:Int}{d1 d2:Nat}(h1:d1≠0)(h2:d2≠0):mkRat n1 d1+mkRat n2 d2=mkRat (n1 * d2+n2 * d1) (d1 * d2):=Rat.mkRat_add_mkRat n1 n2 h1 h2
theorem jY(n1 n2:Int)(d1 d2:Nat):mkRat n1 d1 * mkRat n2 d2=mkRat (n1 * n2) (d1 * d2):=Rat.mkRat_mul_mkRat n1 n2 d1 d2
structure Wr where
 neg:Bool
 num:Nat
 den:Nat
def jr(q:Rat):Wr:=⟨decide (q.num<0),q.num.natAbs,q.den⟩
theorem bD(q:Rat):NU (jr q).neg (jr q).num (jr q).den=q:=by
 have hd:(jr q).den≠0:=q.den_nz
 have hn:B8 (jr q).neg (jr q).num=q.num:=by
  unfold B8 jr
  by_cases h:q.num<0
  ·simp[h];omega
  ·simp[h];omega
 rw[NV hd _ _ hn]
 exact Rat.mkRat_self q
end
end Go.Proofs.YtjnkfbpadpmakaaGreatDoor.Am
set_option linter.unusedVariables false
set_option linter.unusedSimpArgs false
set_option maxRecDepth 16000
namespace Go.Proofs.YtjnkfbpadpmakaaGreatDoor.Am
open Go Go.Proofs
noncomputable section
section
variable{P:Program}{s:AD}{i e sz t n:Nat}{sp:Bool}{cs cs0:List AV}
theorem AE(ht:De P t=some true)(hs:A3 P t=some n)(hg:s.heap.get i=some (R e sz sp cs))(hl:cs.length=n):AC P s t (.ptr (some (i,0)))=some (.agg cs):=by
 subst hl
 rw[Wf ht,hs,Option.bind_some,hg,Wo (by omega)]
 simp
theorem RR{a b:List AV}(h:a.length=b.length):DX a 0 b=b:=by
 refine List.ext_getElem? fun k=>?_
 rw[LW _ _ _ _ (by omega)]
 rcases nm k b.length with h' | h'
 ·rw[if_pos ⟨oB _,by omega⟩];rfl
 ·rw[if_neg (by omega),oF (by omega),oF h']
theorem Aj(hs:A3 P t=some n)(hg:s.heap.get i=some (R e sz sp cs0))(hl0:cs0.length=n)(hl:cs.length=n)(ha:Ap cs=true)(hn:cs≠[]):AK P s t (.ptr (some (i,0))) (.agg cs)=some (setObj s i (R e sz sp cs)):=by
 rw[Wg,hs]
 show AJ (decide (cs.length=n)) (CS s i 0 cs)=_
 rw[LY hg (by omega) ha,RR (by omega),decide_eq_true hl]
 cases cs with
 | nil=>exact absurd rfl hn
 | cons c cs=>rfl
theorem AL(P:Program)(s:AD)(v:List AV)(x:CX)(t:TypeId)(l:List (CX×Option TypeId)):Bk P s v ((x,some t)::l)=(AC P s t (Co [] v x)).bind fun u=>(Bk P s v l).bind fun r=>some (u::r):=rfl
end
theorem NR.set{b i:Nat}{s:AD}{v:AV}{l:List Nat}(h:NR b s v l)(hi:i<b)(o:A8):NR b (setObj s i o) v l:=
 h.keep (nl _) fun j hj=>Ww _ (by obtain⟨O,_,_,q,_⟩:=h;have:=q j hj;omega)
theorem Ac.set{b i:Nat}{s s':AD}(h:Ac b s s')(hi:b≤i)(o:A8):Ac b s (setObj s' i o):=⟨h.1,fun j hj=>(Ww _ (by omega)).trans (h.2 j hj)⟩
theorem Cv.shape{s:AD}{v:AV}{l:List Nat}(h:Cv s v l):∃a n c,v=.slice a n c:=by obtain⟨a,c,rfl,_⟩:=h;exact⟨_,_,_,rfl⟩
theorem Je(x:Bool)(a:Option (Nat×Nat))(n:Nat)(c:Option Nat):Cz Tryz.prog 24 (zipIdx [0,1] [.bool x,.slice a n c])=some (.agg [.bool x,.slice a n c]):=by kernel_rfl
theorem Df:Ab Tryz.prog 24=some (R 24 0 false [.bool false,.slice none 0 (some 0)],.ptr):=by kernel_rfl
theorem GE(x:Bool)(a:Option (Nat×Nat))(n:Nat)(c:Option Nat):Et (.agg [.bool x,.slice a n c]) (.agg [.bool x,.slice a n c])=true:=by
 cases a<;>cases c<;>cases x<;>simp[Et,Et.eqAs,Eg]
theorem Hv(x:Bool):Et (.bool x) (.bool x)=true:=by cases x<;>rfl
def BI(s:AD)(v:AV)(z:Int)(k:Nat):Prop:=∃neg m l,v=.agg [.bool neg,m]∧Cv s m l∧Bl l∧l.length≤k∧B8 neg (AG l)=z
def BR(b:Nat)(s:AD)(v:AV)(z:Int):Prop:=∃m,v=.agg [.bool (decide (z<0)),m]∧NR b s m (AR z.natAbs)
theorem BI.old{s s':AD}{v:AV}{z:Int}{k:Nat}(h:BI s v z k)(o:Ac s.next s s'):BI s' v z k:=by
 obtain⟨neg,m,l,h1,h2,h3⟩:=h
 exact⟨neg,m,l,h1,h2.old o,h3⟩
theorem BR.old{b:Nat}{s s':AD}{v:AV}{z:Int}(h:BR b s v z)(o:Ac s.next s s'):BR b s' v z:=by
 obtain⟨m,h1,h2⟩:=h
 exact⟨m,h1,h2.old o⟩
theorem BR.mono{b b':Nat}{s:AD}{v:AV}{z:Int}(h:BR b s v z)(k:b'≤b):BR b' s v z:=by
 obtain⟨m,h1,h2⟩:=h
 exact⟨m,h1,h2.mono k⟩
theorem BR.set{b i:Nat}{s:AD}{v:AV}{z:Int}(h:BR b s v z)(hi:i<b)(o:A8):BR b (setObj s i o) v z:=by
 obtain⟨m,h1,h2⟩:=h
 exact⟨m,h1,h2.set hi o⟩
theorem Bc{n k:Nat}(h:n<LB ^ k):(AR n).length≤k:=by
 rcases nm k (AR n).length with h' | h'
 ·exfalso
  have h0:n≠0:=by
   rintro rfl
   rw[BM]at h'
   simp at h'
  have:=Kg n h0
  have h2:LB ^ k≤LB ^ ((AR n).length - 1):=pm BF (by omega)
  omega
 ·exact h'
theorem GG(z:Int):B8 (decide (z<0)) z.natAbs=z:=by
 unfold B8
 by_cases h:z<0
 ·rw[if_pos (decide_eq_true h)];omega
 ·rw[if_neg (by simpa using h)];omega
theorem BR.bi{b k:Nat}{s:AD}{v:AV}{z:Int}(h:BR b s v z)(hz:z.natAbs<LB ^ k):BI s v z k:=by
 obtain⟨m,h1,h2⟩:=h
 exact⟨_,m,_,h1,h2.n32,Ae _,Bc hz,by rw[Ah,GG]⟩
theorem BI.abs{s:AD}{v:AV}{z:Int}{k:Nat}(h:BI s v z k):z.natAbs<LB ^ k:=by
 obtain⟨neg,m,l,h1,h2,h3,h4,rfl⟩:=h
 rw[CV]
 exact ns (Cb h3) (pm BF h4)
theorem G5(n:Nat):decide ((0:Int)<((AR n).length:Int))=decide (n≠0):=by
 by_cases h:n=0
 ·subst h;rw[BM];rfl
 ·have:=List.length_pos_iff.2 (Cg h)
  rw[decide_eq_true (show(0:Int)<((AR n).length:Int) by omega),decide_eq_true h]
theorem aC(neg:Bool)(n:Nat):decide (B8 neg n<0)=(neg && decide (n≠0)):=by
 unfold B8
 cases neg with
 | false=>rw[if_neg (by decide),Bool.false_and];exact decide_eq_false (by omega)
 | true =>
  rw[if_pos rfl,Bool.true_and]
  by_cases h:n=0
  ·rw[decide_eq_false (show ¬ (-(n:Int)<0) by omega),decide_eq_false (by simpa using h)]
  ·rw[decide_eq_true (show -(n:Int)<0 by omega),decide_eq_true h]
section
variable{E:CP}{s:AD}
theorem HH(hE:GoodN E){neg:Bool}{m:AV}{l:List Nat}(hm:Cv s m l)(hl:l.length≤1000000000)(hs:Bl l){K:AV→AD→Prop}
  (hK:∀s' v,Ac s.next s s'→BR s.next s' v (B8 neg (AG l))→K v s'):WF E 107 [.bool neg,m] K s:=by
 refine hE.go SW (by decide) rfl ?_
 have o1:=Ac.new s (R 24 0 false [.bool false,.slice none 0 (some 0)])
 have g1:(newObj s (R 24 0 false [.bool false,.slice none 0 (some 0)])).heap.get s.next=some (R 24 0 false [.bool false,.slice none 0 (some 0)]):=by rw[AO,if_pos rfl]
 have n1:(newObj s (R 24 0 false [.bool false,.slice none 0 (some 0)])).next=s.next+1:=rfl
 simp only[iI,Pu,Pv,Df,Xb,Qa,Qb,Qc,Qd,Qe,Qf,Qg,Qh,Qi,Qj,Qk,Ql,Qm,Qn,true_and,and_true,Qo,Qp,Qq,Qr,Qs,Qt,Qu,Qv,Qw,Qx,Qy,Qz,Ra,Rb,Rc,Rd,Re,Rf,Rg,Rh,Ri,Rj,Rk,Rm,Rn,Ro,Rp,Rq,Rs,Ya,Yb,Yc,Rt,Ru,Za,Yd,Ye,Rx,Ry,Rz,Wa,Wb,Wc,Wd]
 generalize newObj s (R 24 0 false [.bool false,.slice none 0 (some 0)])=s1 at *
 refine CT hE (hm.old o1) (by omega) fun s2 v2 o2 r2=>?_
 rw[Bq hs]at r2
 have g2:=(o2.2 s.next (by omega)).trans g1
 obtain⟨a,c,e2,_⟩:=r2.n32
 have hz:=aC neg (AG l)
 rw[← G5]at hz
 have fin:∀x,x=decide (B8 neg (AG l)<0)→K (.agg [.bool x,v2]) (setObj s2 s.next (R 24 0 false [.bool x,v2])):=fun x hx=>by
  subst hx
  refine hK _ _ ((o1.trans (o2.mono o1.1)).set (nl _) _) (BR.mono (b:=s1.next) ⟨v2,rfl,?_⟩ (by omega))
  rw[CV]
  exact r2.set (by omega) _
 have st:∀x,AK Tryz.prog s2 24 (.ptr (some (s.next,0))) (.agg [.bool x,.slice a (AR (AG l)).length c])=some (setObj s2 s.next (R 24 0 false [.bool x,.slice a (AR (AG l)).length c])):=fun x=>Aj CC g2 rfl rfl rfl (by simp)
 have ld:∀x,AC Tryz.prog (setObj s2 s.next (R 24 0 false [.bool x,.slice a (AR (AG l)).length c])) 24 (.ptr (some (s.next,0)))=some (.agg [.bool x,.slice a (AR (AG l)).length c]):=fun x=>AE C6 CC (Wv _ _ _) rfl
 subst e2
 cases neg with
 | true =>
  rw[Bool.true_and]at hz
  simp only[KC,AU Tryz.underlying22,Ry,Rt,Je,st,ld,AL,Xx,Xz,Qa,Qb,Qc,Qd,Qe,Qf,Qg,Qh,Qi,Qj,Qk,Ql,Qm,Qn,true_and,and_true,Qo,Qp,Qq,Qr,Qs,Qt,Qu,Qv,Qw,Qx,Qy,Qz,Ra,Rb,Rc,Rd,Re,Rf,Rg,Rh,Ri,Rj,Rk,Rm,Rn,Ro,Rp,Rq,Rs,Ya,Yb,Yc,Rt,Ru,Za,Yd,Ye,Rx,Ry,Rz,Wa,Wb,Wc,Wd]
  exact fin _ hz.symm
 | false =>
  rw[Bool.false_and]at hz
  simp only[KC,Rt,Je,st,ld,AL,Xx,Xz,Qa,Qb,Qc,Qd,Qe,Qf,Qg,Qh,Qi,Qj,Qk,Ql,Qm,Qn,true_and,and_true,Qo,Qp,Qq,Qr,Qs,Qt,Qu,Qv,Qw,Qx,Qy,Qz,Ra,Rb,Rc,Rd,Re,Rf,Rg,Rh,Ri,Rj,Rk,Rm,Rn,Ro,Rp,Rq,Rs,Ya,Yb,Yc,Rt,Ru,Za,Yd,Ye,Rx,Ry,Rz,Wa,Wb,Wc,Wd]
  exact fin _ hz.symm
theorem Zb(hE:GoodN E){neg:Bool}{K:AV→AD→Prop}(hK:∀s',Ac s.next s s'→s'.next=s.next+1→K (.agg [.bool false,.slice none 0 (some 0)]) s'):WF E 107 [.bool neg,.slice none 0 (some 0)] K s:=by
 refine hE.go SW (by decide) rfl ?_
 have o1:=Ac.new s (R 24 0 false [.bool false,.slice none 0 (some 0)])
 have g1:(newObj s (R 24 0 false [.bool false,.slice none 0 (some 0)])).heap.get s.next=some (R 24 0 false [.bool false,.slice none 0 (some 0)]):=by rw[AO,if_pos rfl]
 have n1:(newObj s (R 24 0 false [.bool false,.slice none 0 (some 0)])).next=s.next+1:=rfl
 simp only[iI,Pu,Pv,Df,Xb,Qa,Qb,Qc,Qd,Qe,Qf,Qg,Qh,Qi,Qj,Qk,Ql,Qm,Qn,true_and,and_true,Qo,Qp,Qq,Qr,Qs,Qt,Qu,Qv,Qw,Qx,Qy,Qz,Ra,Rb,Rc,Rd,Re,Rf,Rg,Rh,Ri,Rj,Rk,Rm,Rn,Ro,Rp,Rq,Rs,Ya,Yb,Yc,Rt,Ru,Za,Yd,Ye,Rx,Ry,Rz,Wa,Wb,Wc,Wd]
 generalize newObj s (R 24 0 false [.bool false,.slice none 0 (some 0)])=s1 at *
 refine Y6 hE ?_
 have st:=Aj (P:=Tryz.prog) (t:=24) (cs:=[.bool false,.slice none 0 (some 0)]) CC g1 rfl rfl rfl (by simp)
 have ld:=AE (P:=Tryz.prog) (t:=24) (s:=setObj s1 s.next (R 24 0 false [.bool false,.slice none 0 (some 0)])) (i:=s.next) C6 CC (Wv _ _ _) rfl
 have dd:decide ((0:Int)<((0:Nat):Int))=false:=rfl
 cases neg with
 | true =>
  simp only[KC,AU Tryz.underlying22,Ry,dd,Rt,Je,st,ld,AL,Xx,Xz,Qa,Qb,Qc,Qd,Qe,Qf,Qg,Qh,Qi,Qj,Qk,Ql,Qm,Qn,true_and,and_true,Qo,Qp,Qq,Qr,Qs,Qt,Qu,Qv,Qw,Qx,Qy,Qz,Ra,Rb,Rc,Rd,Re,Rf,Rg,Rh,Ri,Rj,Rk,Rm,Rn,Ro,Rp,Rq,Rs,Ya,Yb,Yc,Rt,Ru,Za,Yd,Ye,Rx,Ry,Rz,Wa,Wb,Wc,Wd]
  exact hK _ (o1.set (nl _) _) n1
 | false =>
  simp only[KC,Rt,Je,st,ld,AL,Xx,Xz,Qa,Qb,Qc,Qd,Qe,Qf,Qg,Qh,Qi,Qj,Qk,Ql,Qm,Qn,true_and,and_true,Qo,Qp,Qq,Qr,Qs,Qt,Qu,Qv,Qw,Qx,Qy,Qz,Ra,Rb,Rc,Rd,Re,Rf,Rg,Rh,Ri,Rj,Rk,Rm,Rn,Ro,Rp,Rq,Rs,Ya,Yb,Yc,Rt,Ru,Za,Yd,Ye,Rx,Ry,Rz,Wa,Wb,Wc,Wd]
  exact hK _ (o1.set (nl _) _) n1
theorem SD(hE:GoodN E){neg:Bool}{m:AV}{l:List Nat}(hm:Cv s m l)(hl:l.length≤1000000000)(hs:Bl l){K:AV→AD→Prop}
  (hK:∀s' v,Ac s.next s s'→BR s.next s' v (B8 neg (AG l))→(m=.slice none 0 (some 0)→v=.agg [.bool false,.slice none 0 (some 0)])→K v s'):WF E 107 [.bool neg,m] K s:=by
 by_cases h:m=.slice none 0 (some 0)
 ·subst h
  refine Zb hE fun s' o _=>hK s' _ o ?_ fun _=>rfl
  obtain⟨a,c,e,_⟩:=hm
  injection e with _ e2 _
  have hl0:l=[]:=List.length_eq_zero_iff.1 e2.symm
  subst hl0
  have hz:B8 neg (AG [])=0:=by cases neg<;>rfl
  rw[hz]
  exact⟨_,rfl,by show NR s.next s' _ (AR 0);rw[BM];exact NR.nil _ _⟩
 ·exact HH hE hm hl hs fun s' v o r=>hK s' v o r fun e=>absurd e h
end
theorem Aq(s:AD)(o:A8):(newObj s o).next=s.next+1:=rfl
theorem Bj(s:AD)(A:A8):(newObj s A).next=s.next+1∧Ac s.next s (newObj s A)∧(newObj s A).heap.get s.next=some A:=⟨rfl,Ac.new s A,by rw[AO,if_pos rfl]⟩
theorem Eu(s:AD)(A B:A8):(newObj (newObj s A) B).next=s.next+2∧Ac s.next s (newObj (newObj s A) B)∧(newObj (newObj s A) B).heap.get s.next=some A∧(newObj (newObj s A) B).heap.get (s.next+1)=some B:=by
 refine⟨rfl,(Ac.new s A).trans ((Ac.new (newObj s A) B).mono (ot _)),?_,?_⟩
 ·rw[AO,if_neg (by rw[Aq];omega),AO,if_pos rfl]
 ·rw[AO,if_pos (by rw[Aq])]
theorem Iu(s:AD)(A B C:A8):(newObj (newObj (newObj s A) B) C).next=s.next+3∧Ac s.next s (newObj (newObj (newObj s A) B) C)∧(newObj (newObj (newObj s A) B) C).heap.get s.next=some A∧(newObj (newObj (newObj s A) B) C).heap.get (s.next+1)=some B∧(newObj (newObj (newObj s A) B) C).heap.get (s.next+2)=some C:=by
 obtain⟨h1,h2,h3,h4⟩:=Eu s A B
 refine⟨rfl,h2.trans ((Ac.new (newObj (newObj s A) B) C).mono (by omega)),?_,?_,?_⟩
 ·rw[AO,if_neg (by omega)];exact h3
 ·rw[AO,if_neg (by omega)];exact h4
 ·rw[AO,if_pos (by omega)]
abbrev ZI:A8:=R 24 0 false [.bool false,.slice none 0 (some 0)]
abbrev BX(x:Bool)(m:AV):A8:=R 24 0 false [.bool x,m]
section
variable{E:CP}{s:AD}
theorem J9(hE:GoodN E){v:AV}{z:Int}{k:Nat}(hv:BI s v z k)(hk:k≤1000000000){K:AV→AD→Prop}(hK:∀s' v,Ac s.next s s'→BR s.next s' v z→K v s'):WF E 132 [v] K s:=by
 obtain⟨neg,m,l,rfl,hm,hs,hl,rfl⟩:=hv
 obtain⟨a,n,c,rfl⟩:=hm.shape
 refine hE.go Zw (by decide) rfl ?_
 obtain⟨n1,o1,g1,g2⟩:=Eu s (BX neg (.slice a n c)) ZI
 simp only[kJ,U6,U7,Wz,Xg,Df,Xb,Aq,Dj,Dk,Qa,Qb,Qc,Qd,Qe,Qf,Qg,Qh,Qi,Qj,Qk,Ql,Qm,Qn,true_and,and_true,Qo,Qp,Qq,Qr,Qs,Qt,Qu,Qv,Qw,Qx,Qy,Qz,Ra,Rb,Rc,Rd,Re,Rf,Rg,Rh,Ri,Rj,Rk,Rm,Rn,Ro,Rp,Rq,Rs,Ya,Yb,Yc,Rt,Ru,Za,Yd,Ye,Rx,Ry,Rz,Wa,Wb,Wc,Wd]
 generalize newObj (newObj s (BX neg (.slice a n c))) ZI=s1 at *
 have l1:=AX (P:=Tryz.prog) (t:=4) (o:=0+0) Pi g1 rfl
 have l2:=AX (P:=Tryz.prog) (t:=22) (o:=0+1) DO g1 rfl
 simp only[l1,l2,Qa,Qb,Qc,Qd,Qe,Qf,Qg,Qh,Qi,Qj,Qk,Ql,Qm,Qn,true_and,and_true,Qo,Qp,Qq,Qr,Qs,Qt,Qu,Qv,Qw,Qx,Qy,Qz,Ra,Rb,Rc,Rd,Re,Rf,Rg,Rh,Ri,Rj,Rk,Rm,Rn,Ro,Rp,Rq,Rs,Ya,Yb,Yc,Rt,Ru,Za,Yd,Ye,Rx,Ry,Rz,Wa,Wb,Wc,Wd]
 refine HH hE (hm.old o1) (by omega) hs fun s2 v2 o2 r2=>?_
 have g3:=(o2.2 (s.next+1) (by omega)).trans g2
 obtain⟨m2,rfl,r2⟩:=r2
 obtain⟨a2,n2,c2,rfl⟩:=r2.n32.shape
 have st:=Aj (P:=Tryz.prog) (t:=24) (cs:=[.bool (decide (B8 neg (AG l)<0)),.slice a2 n2 c2]) CC g3 rfl rfl rfl (by simp)
 have ld:=AE (P:=Tryz.prog) (t:=24) (s:=setObj s2 (s.next+1) (R 24 0 false [.bool (decide (B8 neg (AG l)<0)),.slice a2 n2 c2])) (i:=s.next+1) C6 CC (Wv _ _ _) rfl
 simp only[st,ld,AL,Xx,Xz,Qa,Qb,Qc,Qd,Qe,Qf,Qg,Qh,Qi,Qj,Qk,Ql,Qm,Qn,true_and,and_true,Qo,Qp,Qq,Qr,Qs,Qt,Qu,Qv,Qw,Qx,Qy,Qz,Ra,Rb,Rc,Rd,Re,Rf,Rg,Rh,Ri,Rj,Rk,Rm,Rn,Ro,Rp,Rq,Rs,Ya,Yb,Yc,Rt,Ru,Za,Yd,Ye,Rx,Ry,Rz,Wa,Wb,Wc,Wd]
 exact hK _ _ ((o1.trans (o2.mono o1.1)).set (by omega) _) (BR.mono (b:=s1.next) ⟨_,rfl,r2.set (by omega) _⟩ (by omega))
theorem ZY(hE:GoodN E){v:AV}{z:Int}{k:Nat}(hv:BI s v z k)(hk:k≤1000000000){K:AV→AD→Prop}(hK:∀s' w,Ac s.next s s'→BR s.next s' w (-z)→((∃x,v=.agg [x,.slice none 0 (some 0)])→∃x,w=.agg [x,.slice none 0 (some 0)])→K w s'):WF E 106 [v] K s:=by
 obtain⟨neg,m,l,rfl,hm,hs,hl,rfl⟩:=hv
 obtain⟨a,n,c,rfl⟩:=hm.shape
 refine hE.go Zl (by decide) rfl ?_
 obtain⟨n1,o1,g1,g2⟩:=Eu s (BX neg (.slice a n c)) ZI
 simp only[j8,Ud,Ue,Wz,Xg,Df,Xb,Aq,Dj,Dk,Qa,Qb,Qc,Qd,Qe,Qf,Qg,Qh,Qi,Qj,Qk,Ql,Qm,Qn,true_and,and_true,Qo,Qp,Qq,Qr,Qs,Qt,Qu,Qv,Qw,Qx,Qy,Qz,Ra,Rb,Rc,Rd,Re,Rf,Rg,Rh,Ri,Rj,Rk,Rm,Rn,Ro,Rp,Rq,Rs,Ya,Yb,Yc,Rt,Ru,Za,Yd,Ye,Rx,Ry,Rz,Wa,Wb,Wc,Wd]
 generalize newObj (newObj s (BX neg (.slice a n c))) ZI=s1 at *
 have l1:=AX (P:=Tryz.prog) (t:=4) (o:=0+0) Pi g1 rfl
 have l2:=AX (P:=Tryz.prog) (t:=22) (o:=0+1) DO g1 rfl
 simp only[l1,l2,Wd,Qa,Qb,Qc,Qd,Qe,Qf,Qg,Qh,Qi,Qj,Qk,Ql,Qm,Qn,true_and,and_true,Qo,Qp,Qq,Qr,Qs,Qt,Qu,Qv,Qw,Qx,Qy,Qz,Ra,Rb,Rc,Rd,Re,Rf,Rg,Rh,Ri,Rj,Rk,Rm,Rn,Ro,Rp,Rq,Rs,Ya,Yb,Yc,Rt,Ru,Za,Yd,Ye,Rx,Ry,Rz,Wa,Wb,Wc,Wd]
 refine SD hE (hm.old o1) (by omega) hs fun s2 v2 o2 r2 rn=>?_
 have hneg:B8 (!neg) (AG l)=-B8 neg (AG l):=by
  unfold B8
  cases neg<;>simp
 rw[hneg]at r2
 have g3:=(o2.2 (s.next+1) (by omega)).trans g2
 obtain⟨m2,rfl,r2⟩:=r2
 obtain⟨a2,n2,c2,rfl⟩:=r2.n32.shape
 have st:=Aj (P:=Tryz.prog) (t:=24) (cs:=[.bool (decide (-B8 neg (AG l)<0)),.slice a2 n2 c2]) CC g3 rfl rfl rfl (by simp)
 have ld:=AE (P:=Tryz.prog) (t:=24) (s:=setObj s2 (s.next+1) (R 24 0 false [.bool (decide (-B8 neg (AG l)<0)),.slice a2 n2 c2])) (i:=s.next+1) C6 CC (Wv _ _ _) rfl
 simp only[st,ld,AL,Xx,Xz,Qa,Qb,Qc,Qd,Qe,Qf,Qg,Qh,Qi,Qj,Qk,Ql,Qm,Qn,true_and,and_true,Qo,Qp,Qq,Qr,Qs,Qt,Qu,Qv,Qw,Qx,Qy,Qz,Ra,Rb,Rc,Rd,Re,Rf,Rg,Rh,Ri,Rj,Rk,Rm,Rn,Ro,Rp,Rq,Rs,Ya,Yb,Yc,Rt,Ru,Za,Yd,Ye,Rx,Ry,Rz,Wa,Wb,Wc,Wd]
 exact hK _ _ ((o1.trans (o2.mono o1.1)).set (by omega) _) (BR.mono (b:=s1.next) ⟨_,rfl,r2.set (by omega) _⟩ (by omega)) (fun⟨x,hx⟩=>by
  injection hx with hx
  injection hx with _ hx
  injection hx with hx _
  exact⟨_,rn hx⟩)
def By(z:Int):Int:=if z<0 then -1 else if 0<z then 1 else 0
theorem KA(hE:GoodN E){v:AV}{z:Int}{k:Nat}(hv:BI s v z k)(hk:k≤1000000000){K:AV→AD→Prop}(hK:∀s',Ac s.next s s'→K (iv (By z)) s'):WF E 100 [v] K s:=by
 have hv0:=hv
 obtain⟨neg,m,l,rfl,hm,hs,hl,hz⟩:=hv
 obtain⟨a,n,c,rfl⟩:=hm.shape
 refine hE.go Zk (by decide) rfl ?_
 obtain⟨n1,o1,g1⟩:=Bj s (BX neg (.slice a n c))
 simp only[j7,UY,UZ,Wz,Xg,Xb,Aq,Qa,Qb,Qc,Qd,Qe,Qf,Qg,Qh,Qi,Qj,Qk,Ql,Qm,Qn,true_and,and_true,Qo,Qp,Qq,Qr,Qs,Qt,Qu,Qv,Qw,Qx,Qy,Qz,Ra,Rb,Rc,Rd,Re,Rf,Rg,Rh,Ri,Rj,Rk,Rm,Rn,Ro,Rp,Rq,Rs,Ya,Yb,Yc,Rt,Ru,Za,Yd,Ye,Rx,Ry,Rz,Wa,Wb,Wc,Wd]
 generalize newObj s (BX neg (.slice a n c))=s1 at *
 have l1:=AE (P:=Tryz.prog) (t:=24) C6 CC g1 rfl
 simp only[l1,Qa,Qb,Qc,Qd,Qe,Qf,Qg,Qh,Qi,Qj,Qk,Ql,Qm,Qn,true_and,and_true,Qo,Qp,Qq,Qr,Qs,Qt,Qu,Qv,Qw,Qx,Qy,Qz,Ra,Rb,Rc,Rd,Re,Rf,Rg,Rh,Ri,Rj,Rk,Rm,Rn,Ro,Rp,Rq,Rs,Ya,Yb,Yc,Rt,Ru,Za,Yd,Ye,Rx,Ry,Rz,Wa,Wb,Wc,Wd]
 refine J9 hE (hv0.old o1) hk fun s2 v2 o2 r2=>?_
 have g2:=(o2.2 s.next (by omega)).trans g1
 obtain⟨m2,rfl,r2⟩:=r2
 obtain⟨a2,c2,rfl,_⟩:=r2.n32
 have st:=Aj (P:=Tryz.prog) (t:=24) (cs:=[.bool (decide (z<0)),.slice a2 (AR z.natAbs).length c2]) CC g2 rfl rfl rfl (by simp)
 have l2:=AX (P:=Tryz.prog) (t:=4) (s:=setObj s2 s.next (R 24 0 false [.bool (decide (z<0)),.slice a2 (AR z.natAbs).length c2])) (i:=s.next) (o:=0+0) Pi (Wv _ _ _) rfl
 have l3:=AX (P:=Tryz.prog) (t:=22) (s:=setObj s2 s.next (R 24 0 false [.bool (decide (z<0)),.slice a2 (AR z.natAbs).length c2])) (i:=s.next) (o:=0+1) DO (Wv _ _ _) rfl
 have hend:=hK (setObj s2 s.next (R 24 0 false [.bool (decide (z<0)),.slice a2 (AR z.natAbs).length c2])) ((o1.trans (o2.mono o1.1)).set (nl _) _)
 have hp:=G5 z.natAbs
 unfold By at hend
 by_cases h1:z<0
 ·have d1:decide (z<0)=true:=decide_eq_true h1
  rw[if_pos h1]at hend
  simp only[d1]at *
  simp only[st,l2,Dj,Mx,Ua,Xx,Xz,Qa,Qb,Qc,Qd,Qe,Qf,Qg,Qh,Qi,Qj,Qk,Ql,Qm,Qn,true_and,and_true,Qo,Qp,Qq,Qr,Qs,Qt,Qu,Qv,Qw,Qx,Qy,Qz,Ra,Rb,Rc,Rd,Re,Rf,Rg,Rh,Ri,Rj,Rk,Rm,Rn,Ro,Rp,Rq,Rs,Ya,Yb,Yc,Rt,Ru,Za,Yd,Ye,Rx,Ry,Rz,Wa,Wb,Wc,Wd]
  exact hend
 ·have d1:decide (z<0)=false:=decide_eq_false h1
  rw[if_neg h1]at hend
  by_cases h2:0<z
  ·have d2:decide (z.natAbs≠0)=true:=decide_eq_true (by omega)
   rw[if_pos h2]at hend
   rw[d2]at hp
   simp only[d1]at *
   simp only[st,l2,l3,Dj,Dk,AU Tryz.underlying22,Ry,hp,Mx,Pt,Ub,Xx,Xz,Qa,Qb,Qc,Qd,Qe,Qf,Qg,Qh,Qi,Qj,Qk,Ql,Qm,Qn,true_and,and_true,Qo,Qp,Qq,Qr,Qs,Qt,Qu,Qv,Qw,Qx,Qy,Qz,Ra,Rb,Rc,Rd,Re,Rf,Rg,Rh,Ri,Rj,Rk,Rm,Rn,Ro,Rp,Rq,Rs,Ya,Yb,Yc,Rt,Ru,Za,Yd,Ye,Rx,Ry,Rz,Wa,Wb,Wc,Wd]
   exact hend
  ·have d2:decide (z.natAbs≠0)=false:=decide_eq_false (by omega)
   rw[if_neg h2]at hend
   rw[d2]at hp
   simp only[d1]at *
   simp only[st,l2,l3,Dj,Dk,AU Tryz.underlying22,Ry,hp,Mx,Pt,Uc,if_true,Xx,Xz,Qa,Qb,Qc,Qd,Qe,Qf,Qg,Qh,Qi,Qj,Qk,Ql,Qm,Qn,true_and,and_true,Qo,Qp,Qq,Qr,Qs,Qt,Qu,Qv,Qw,Qx,Qy,Qz,Ra,Rb,Rc,Rd,Re,Rf,Rg,Rh,Ri,Rj,Rk,Rm,Rn,Ro,Rp,Rq,Rs,Ya,Yb,Yc,Rt,Ru,Za,Yd,Ye,Rx,Ry,Rz,Wa,Wb,Wc,Wd]
   exact hend
end
theorem YK(x y:Bool):AT Tryz.prog .neq 4 (.bool x) (.bool y)=some (.bool (x != y)):=by cases x<;>cases y<;>kernel_rfl
theorem OW(x y:Bool):AT Tryz.prog .eql 4 (.bool x) (.bool y)=some (.bool (x == y)):=by cases x<;>cases y<;>kernel_rfl
theorem X4(x y:Bool)(a b:Nat):B8 (x != y) (a * b)=B8 x a * B8 y b:=by
 unfold B8
 cases x<;>cases y<;>simp[Int.neg_mul,Int.mul_neg]
theorem Ci{a b j k:Nat}(ha:a<LB ^ j)(hb:b<LB ^ k):a * b<LB ^ (j+k):=by
 rw[Nat.pow_add]
 exact Nat.mul_lt_mul'' ha hb
theorem HW{a b k:Nat}(ha:a<LB ^ k)(hb:b<LB ^ k):a+b<LB ^ (k+1):=by
 rw[pE]
 have:LB ^ k * 2≤LB ^ k * LB:=oZ _ (by decide)
 omega
theorem Ep{a j k:Nat}(ha:a<LB ^ j)(h:j≤k):a<LB ^ k:=ns ha (pm BF h)
theorem Gk{l:List Nat}{k:Nat}(hs:Bl l)(h:l.length≤k):AG l<LB ^ k:=Ep (Cb hs) h
section
variable{E:CP}{s:AD}
theorem FY{s1 s2:AD}{p:Nat}{x:Bool}{a:Option (Nat×Nat)}{n:Nat}{c:Option Nat}(hg:s2.heap.get p=some ZI):
  AK Tryz.prog s2 24 (.ptr (some (p,0))) (.agg [.bool x,.slice a n c])=some (setObj s2 p (BX x (.slice a n c)))∧AC Tryz.prog (setObj s2 p (BX x (.slice a n c))) 24 (.ptr (some (p,0)))=some (.agg [.bool x,.slice a n c]):=
 ⟨Aj CC hg rfl rfl rfl (by simp),AE C6 CC (Wv _ _ _) rfl⟩
theorem N7(hE:GoodN E){va vb:AV}{x y:Int}{ka kb:Nat}(ha:BI s va x ka)(hb:BI s vb y kb)(hk:ka+kb≤1000000000){K:AV→AD→Prop}(hK:∀s' v,Ac s.next s s'→BR s.next s' v (x * y)→K v s'):WF E 117 [va,vb] K s:=by
 obtain⟨na,ma,la,rfl,hma,hsa,hla,rfl⟩:=ha
 obtain⟨nb,mb,lb,rfl,hmb,hsb,hlb,rfl⟩:=hb
 obtain⟨aa,an,ac,rfl⟩:=hma.shape
 obtain⟨ba,bn,bc,rfl⟩:=hmb.shape
 refine hE.go Zv (by decide) rfl ?_
 obtain⟨n1,o1,g1,g2,g3⟩:=Iu s (BX na (.slice aa an ac)) (BX nb (.slice ba bn bc)) ZI
 simp only[kI,U4,U5,Wz,Xg,Df,Xb,Aq,Dj,Dk,Qa,Qb,Qc,Qd,Qe,Qf,Qg,Qh,Qi,Qj,Qk,Ql,Qm,Qn,true_and,and_true,Qo,Qp,Qq,Qr,Qs,Qt,Qu,Qv,Qw,Qx,Qy,Qz,Ra,Rb,Rc,Rd,Re,Rf,Rg,Rh,Ri,Rj,Rk,Rm,Rn,Ro,Rp,Rq,Rs,Ya,Yb,Yc,Rt,Ru,Za,Yd,Ye,Rx,Ry,Rz,Wa,Wb,Wc,Wd]
 generalize newObj (newObj (newObj s (BX na (.slice aa an ac))) (BX nb (.slice ba bn bc))) ZI=s1 at *
 have l1:=AX (P:=Tryz.prog) (t:=4) (o:=0+0) Pi g1 rfl
 have l2:=AX (P:=Tryz.prog) (t:=22) (o:=0+1) DO g1 rfl
 have l3:=AX (P:=Tryz.prog) (t:=4) (o:=0+0) Pi g2 rfl
 have l4:=AX (P:=Tryz.prog) (t:=22) (o:=0+1) DO g2 rfl
 simp only[l1,l2,l3,l4,YK,Qa,Qb,Qc,Qd,Qe,Qf,Qg,Qh,Qi,Qj,Qk,Ql,Qm,Qn,true_and,and_true,Qo,Qp,Qq,Qr,Qs,Qt,Qu,Qv,Qw,Qx,Qy,Qz,Ra,Rb,Rc,Rd,Re,Rf,Rg,Rh,Ri,Rj,Rk,Rm,Rn,Ro,Rp,Rq,Rs,Ya,Yb,Yc,Rt,Ru,Za,Yd,Ye,Rx,Ry,Rz,Wa,Wb,Wc,Wd]
 refine Q7 hE (hma.old o1) (hmb.old o1) (by omega) (by omega) hsa hsb fun s2 v2 o2 r2=>?_
 have f1:=(o2.2 s.next (by omega)).trans g1
 have f2:=(o2.2 (s.next+1) (by omega)).trans g2
 have f3:=(o2.2 (s.next+1+1) (by omega)).trans g3
 refine⟨⟨Aa (by simp only[Qa,Qb,Qc,Qd,Qe,Qf,Qg,Qh,Qi,Qj,Qk,Ql,Qm,Qn,true_and,and_true,Qo,Qp,Qq,Qr,Qs,Qt,Qu,Qv,Qw,Qx,Qy,Qz,Ra,Rb,Rc,Rd,Re,Rf,Rg,Rh,Ri,Rj,Rk,Rm,Rn,Ro,Rp,Rq,Rs,Ya,Yb,Yc,Rt,Ru,Za,Yd,Ye,Rx,Ry,Rz,Wa,Wb,Wc,Wd];exact AX (o:=0+0) Pi f2 rfl) (Hv _),Aa (by simp only[Qa,Qb,Qc,Qd,Qe,Qf,Qg,Qh,Qi,Qj,Qk,Ql,Qm,Qn,true_and,and_true,Qo,Qp,Qq,Qr,Qs,Qt,Qu,Qv,Qw,Qx,Qy,Qz,Ra,Rb,Rc,Rd,Re,Rf,Rg,Rh,Ri,Rj,Rk,Rm,Rn,Ro,Rp,Rq,Rs,Ya,Yb,Yc,Rt,Ru,Za,Yd,Ye,Rx,Ry,Rz,Wa,Wb,Wc,Wd];exact AX (o:=0+0) Pi f1 rfl) (Hv _),trivial⟩,?_⟩
 have hlen:(AR (AG la * AG lb)).length≤1000000000:=ny (Bc (Ci (Gk hsa hla) (Gk hsb hlb))) hk
 simp only[Qa,Qb,Qc,Qd,Qe,Qf,Qg,Qh,Qi,Qj,Qk,Ql,Qm,Qn,true_and,and_true,Qo,Qp,Qq,Qr,Qs,Qt,Qu,Qv,Qw,Qx,Qy,Qz,Ra,Rb,Rc,Rd,Re,Rf,Rg,Rh,Ri,Rj,Rk,Rm,Rn,Ro,Rp,Rq,Rs,Ya,Yb,Yc,Rt,Ru,Za,Yd,Ye,Rx,Ry,Rz,Wa,Wb,Wc,Wd]
 refine HH hE r2.n32 hlen (Ae _) fun s3 v3 o3 r3=>?_
 rw[Ah,X4]at r3
 have q3:=(o3.2 (s.next+1+1) (by have:=o2.1;omega)).trans f3
 obtain⟨m3,rfl,r3⟩:=r3
 obtain⟨a3,n3,c3,rfl⟩:=r3.n32.shape
 obtain⟨st,ld⟩:=FY (s1:=s) (x:=decide (B8 na (AG la) * B8 nb (AG lb)<0)) (a:=a3) (n:=n3) (c:=c3) q3
 simp only[st,ld,AL,Xx,Xz,Qa,Qb,Qc,Qd,Qe,Qf,Qg,Qh,Qi,Qj,Qk,Ql,Qm,Qn,true_and,and_true,Qo,Qp,Qq,Qr,Qs,Qt,Qu,Qv,Qw,Qx,Qy,Qz,Ra,Rb,Rc,Rd,Re,Rf,Rg,Rh,Ri,Rj,Rk,Rm,Rn,Ro,Rp,Rq,Rs,Ya,Yb,Yc,Rt,Ru,Za,Yd,Ye,Rx,Ry,Rz,Wa,Wb,Wc,Wd]
 have h2:=o2.1
 exact hK _ _ ((o1.trans ((o2.trans (o3.mono h2)).mono o1.1)).set (by omega) _) (BR.mono (b:=s2.next) ⟨_,rfl,r3.set (by omega) _⟩ (by omega))
end
theorem Y2{x y:Int}(h:decide (x<0)=decide (y<0)):B8 (decide (x<0)) (x.natAbs+y.natAbs)=x+y:=by
 unfold B8
 by_cases hx:x<0
 ·have hy:y<0:=by rw[decide_eq_true hx]at h;exact of_decide_eq_true h.symm
  rw[if_pos (decide_eq_true hx)];omega
 ·have hy:¬ y<0:=by rw[decide_eq_false hx]at h;exact of_decide_eq_false h.symm
  rw[if_neg (by simpa using hx)];omega
theorem Pc{x y:Int}(h:decide (x<0)≠decide (y<0))(hl:y.natAbs≤x.natAbs):B8 (decide (x<0)) (x.natAbs - y.natAbs)=x+y:=by
 unfold B8
 by_cases hx:x<0
 ·have hy:¬ y<0:=fun hy=>h (by rw[decide_eq_true hx,decide_eq_true hy])
  rw[if_pos (decide_eq_true hx)];omega
 ·have hy:y<0:=Classical.byContradiction fun hy=>h (by rw[decide_eq_false hx,decide_eq_false hy])
  rw[if_neg (by simpa using hx)];omega
section
variable{E:CP}{s:AD}
theorem N4       (hE : GoodN E) {va vb : AV} {x y : Int} {ka kb : Nat} (ha : BI s va x ka) (hb : BI s vb y kb) (hk : ka + kb + 1 ≤ 1000000000) {K : AV → AD  → Prop} (hK : ∀ s' v, Ac  s.next s s' → BR s.next s' v (x + y) → K v s') : WF E 141 [va, vb] K s := by
  have ha0:=ha
  have hb0:=hb
  have xb:=ha.abs
  have yb:=hb.abs
  obtain⟨na,ma,la,rfl,hma,hsa,hla,hxa⟩:=ha
  obtain⟨nb,mb,lb,rfl,hmb,hsb,hlb,hyb⟩:=hb
  obtain⟨aa,an,ac,rfl⟩:=hma.shape
  obtain⟨ba,bn,bc,rfl⟩:=hmb.shape
  refine hE.go Zy (by decide) rfl ?_
  obtain⟨n1,o1,g1,g2,g3⟩:=Iu s (BX na (.slice aa an ac)) (BX nb (.slice ba bn bc)) ZI
  simp only[kL,VN,VO,Wz,Xg,Df,Xb,Aq,Qa,Qb,Qc,Qd,Qe,Qf,Qg,Qh,Qi,Qj,Qk,Ql,Qm,Qn,true_and,and_true,Qo,Qp,Qq,Qr,Qs,Qt,Qu,Qv,Qw,Qx,Qy,Qz,Ra,Rb,Rc,Rd,Re,Rf,Rg,Rh,Ri,Rj,Rk,Rm,Rn,Ro,Rp,Rq,Rs,Ya,Yb,Yc,Rt,Ru,Za,Yd,Ye,Rx,Ry,Rz,Wa,Wb,Wc,Wd]
  generalize newObj (newObj (newObj s (BX na (.slice aa an ac))) (BX nb (.slice ba bn bc))) ZI=s1 at *
  have l1:=AE (P:=Tryz.prog) (t:=24) C6 CC g1 rfl
  have l2:=AE (P:=Tryz.prog) (t:=24) C6 CC g2 rfl
  simp only[l1,l2,Qa,Qb,Qc,Qd,Qe,Qf,Qg,Qh,Qi,Qj,Qk,Ql,Qm,Qn,true_and,and_true,Qo,Qp,Qq,Qr,Qs,Qt,Qu,Qv,Qw,Qx,Qy,Qz,Ra,Rb,Rc,Rd,Re,Rf,Rg,Rh,Ri,Rj,Rk,Rm,Rn,Ro,Rp,Rq,Rs,Ya,Yb,Yc,Rt,Ru,Za,Yd,Ye,Rx,Ry,Rz,Wa,Wb,Wc,Wd]
  refine J9 hE (ha0.old o1) (by omega) fun s2 v2 o2 r2=>?_
  have f1:=(o2.2 s.next (by omega)).trans g1
  have f2:=(o2.2 (s.next+1) (by omega)).trans g2
  have f3:=(o2.2 (s.next+1+1) (by omega)).trans g3
  refine⟨⟨Aa (by simp only[Qa,Qb,Qc,Qd,Qe,Qf,Qg,Qh,Qi,Qj,Qk,Ql,Qm,Qn,true_and,and_true,Qo,Qp,Qq,Qr,Qs,Qt,Qu,Qv,Qw,Qx,Qy,Qz,Ra,Rb,Rc,Rd,Re,Rf,Rg,Rh,Ri,Rj,Rk,Rm,Rn,Ro,Rp,Rq,Rs,Ya,Yb,Yc,Rt,Ru,Za,Yd,Ye,Rx,Ry,Rz,Wa,Wb,Wc,Wd];exact AE C6 CC f2 rfl) (GE _ _ _ _),trivial⟩,?_⟩
  simp only[Qa,Qb,Qc,Qd,Qe,Qf,Qg,Qh,Qi,Qj,Qk,Ql,Qm,Qn,true_and,and_true,Qo,Qp,Qq,Qr,Qs,Qt,Qu,Qv,Qw,Qx,Qy,Qz,Ra,Rb,Rc,Rd,Re,Rf,Rg,Rh,Ri,Rj,Rk,Rm,Rn,Ro,Rp,Rq,Rs,Ya,Yb,Yc,Rt,Ru,Za,Yd,Ye,Rx,Ry,Rz,Wa,Wb,Wc,Wd]
  have h2:=o2.1
  refine J9 hE (hb0.old (o1.trans (o2.mono o1.1))) (by omega) fun s3 v3 o3 r3=>?_
  have h3:=o3.1
  have e1:=(o3.2 s.next (by omega)).trans f1
  have e2:=(o3.2 (s.next+1) (by omega)).trans f2
  have e3:=(o3.2 (s.next+1+1) (by omega)).trans f3
  have r2':=r2.old o3
  obtain⟨m2,rfl,q2⟩:=r2'
  obtain⟨m3,rfl,q3⟩:=r3
  obtain⟨a2,n2,c2,rfl⟩:=q2.n32.shape
  obtain⟨a3,n3,c3,rfl⟩:=q3.n32.shape
  have st1:=Aj (P:=Tryz.prog) (t:=24) (cs:=[.bool (decide (x<0)),.slice a2 n2 c2]) CC e1 rfl rfl rfl (by simp)
  generalize hs4:setObj s3 s.next (BX (decide (x<0)) (.slice a2 n2 c2))=s4 at st1
  have e2':s4.heap.get (s.next+1)=some (BX nb (.slice ba bn bc)):=by rw[← hs4,Ww _ (by omega)];exact e2
  have st2:=Aj (P:=Tryz.prog) (t:=24) (cs:=[.bool (decide (y<0)),.slice a3 n3 c3]) CC e2' rfl rfl rfl (by simp)
  generalize hs5:setObj s4 (s.next+1) (BX (decide (y<0)) (.slice a3 n3 c3))=s5 at st2
  have k1:s5.heap.get s.next=some (BX (decide (x<0)) (.slice a2 n2 c2)):=by rw[← hs5,Ww _ (by omega),← hs4,Wv]
  have k2:s5.heap.get (s.next+1)=some (BX (decide (y<0)) (.slice a3 n3 c3)):=by rw[← hs5,Wv]
  have k3:s5.heap.get (s.next+1+1)=some ZI:=by rw[← hs5,Ww _ (by omega),← hs4,Ww _ (by omega)];exact e3
  have n5:s5.next=s3.next:=by rw[← hs5,← hs4];rfl
  have o5:Ac s.next s s5:=by
    rw[← hs5,← hs4]
    exact((o1.trans ((o2.trans (o3.mono h2)).mono o1.1)).set (nl _) _).set (by omega) _
  have w2:NR s1.next s5 (.slice a2 n2 c2) (AR x.natAbs):=by rw[← hs5,← hs4];exact(q2.set (by omega) _).set (by omega) _
  have w3:NR s2.next s5 (.slice a3 n3 c3) (AR y.natAbs):=by rw[← hs5,← hs4];exact(q3.set (by omega) _).set (by omega) _
  have l1:=AX (P:=Tryz.prog) (t:=4) (o:=0+0) Pi k1 rfl
  have l2:=AX (P:=Tryz.prog) (t:=22) (o:=0+1) DO k1 rfl
  have l3:=AX (P:=Tryz.prog) (t:=4) (o:=0+0) Pi k2 rfl
  have l4:=AX (P:=Tryz.prog) (t:=22) (o:=0+1) DO k2 rfl
  have xl:=Bc xb
  have yl:=Bc yb
  have vx:=Ah x.natAbs
  have vy:=Ah y.natAbs
  have fin:∀ (sg:Bool) (s6:AD) (v6:AV) (L:Nat),Ac s5.next s5 s6→NR s5.next s6 v6 (AR L)→L<LB ^ (ka+kb+1)→B8 sg L=x+y→∀K2:AV→AD→Prop,
      (∀s7 x7 a7 n7 c7,AK Tryz.prog s7 24 (.ptr (some (s.next+1+1,0))) (.agg [.bool x7,.slice a7 n7 c7])=some (setObj s7 (s.next+1+1) (BX x7 (.slice a7 n7 c7))) →
        AC Tryz.prog (setObj s7 (s.next+1+1) (BX x7 (.slice a7 n7 c7))) 24 (.ptr (some (s.next+1+1,0)))=some (.agg [.bool x7,.slice a7 n7 c7]) →
        K (.agg [.bool x7,.slice a7 n7 c7]) (setObj s7 (s.next+1+1) (BX x7 (.slice a7 n7 c7)))→K2 (.agg [.bool x7,.slice a7 n7 c7]) s7)→WF E 107 [.bool sg,v6] K2 s6:=by
    intro sg s6 v6 L o6 r6 hL hsg K2 hK2
    refine HH hE r6.n32 (ny (Bc hL) hk) (Ae _) fun s7 v7 o7 r7=>?_
    rw[Ah,hsg]at r7
    have h6:=o6.1
    have g7:s7.heap.get (s.next+1+1)=some ZI:=by rw[o7.2 _ (by omega),o6.2 _ (by omega)];exact k3
    obtain⟨m7,rfl,r7⟩:=r7
    obtain⟨a7,n7,c7,rfl⟩:=r7.n32.shape
    obtain⟨st,ld⟩:=FY (s1:=s) (x:=decide (x+y<0)) (a:=a7) (n:=n7) (c:=c7) g7
    refine hK2 _ _ _ _ _ st ld (hK _ _ ((o5.trans ((o6.trans (o7.mono h6)).mono o5.1)).set (by omega) _) (BR.mono (b:=s6.next) ⟨_,rfl,r7.set (by omega) _⟩ (by omega)))
  have hm1:x.natAbs+y.natAbs<LB ^ (ka+kb+1):=HW (Ep xb (by omega)) (Ep yb (by omega))
  by_cases hsg:decide (x<0)=decide (y<0)
  · have db:(decide (x<0) == decide (y<0))=true:=by rw[hsg];simp
    simp only[Pz,VP,st1,st2,l1,l2,l3,l4,Dj,Dk,OW,db,Xx,Xz,Qa,Qb,Qc,Qd,Qe,Qf,Qg,Qh,Qi,Qj,Qk,Ql,Qm,Qn,true_and,and_true,Qo,Qp,Qq,Qr,Qs,Qt,Qu,Qv,Qw,Qx,Qy,Qz,Ra,Rb,Rc,Rd,Re,Rf,Rg,Rh,Ri,Rj,Rk,Rm,Rn,Ro,Rp,Rq,Rs,Ya,Yb,Yc,Rt,Ru,Za,Yd,Ye,Rx,Ry,Rz,Wa,Wb,Wc,Wd]
    refine iC hE w2.n32 w3.n32 (by omega) (by omega) (Ae _) (Ae _) fun s6 v6 o6 r6=>?_
    rw[vx,vy]at r6
    refine⟨⟨Aa (by simp only[Qa,Qb,Qc,Qd,Qe,Qf,Qg,Qh,Qi,Qj,Qk,Ql,Qm,Qn,true_and,and_true,Qo,Qp,Qq,Qr,Qs,Qt,Qu,Qv,Qw,Qx,Qy,Qz,Ra,Rb,Rc,Rd,Re,Rf,Rg,Rh,Ri,Rj,Rk,Rm,Rn,Ro,Rp,Rq,Rs,Ya,Yb,Yc,Rt,Ru,Za,Yd,Ye,Rx,Ry,Rz,Wa,Wb,Wc,Wd];exact AX (o:=0+0) Pi ((o6.2 s.next (by omega)).trans k1) rfl) (Hv _),trivial⟩,?_⟩
    simp only[Qa,Qb,Qc,Qd,Qe,Qf,Qg,Qh,Qi,Qj,Qk,Ql,Qm,Qn,true_and,and_true,Qo,Qp,Qq,Qr,Qs,Qt,Qu,Qv,Qw,Qx,Qy,Qz,Ra,Rb,Rc,Rd,Re,Rf,Rg,Rh,Ri,Rj,Rk,Rm,Rn,Ro,Rp,Rq,Rs,Ya,Yb,Yc,Rt,Ru,Za,Yd,Ye,Rx,Ry,Rz,Wa,Wb,Wc,Wd]
    refine fin _ s6 v6 _ o6 r6 hm1 (Y2 hsg) _ fun s7 x7 a7 n7 c7 st ld hk=>?_
    simp only[st,ld,AL,Xx,Xz,Qa,Qb,Qc,Qd,Qe,Qf,Qg,Qh,Qi,Qj,Qk,Ql,Qm,Qn,true_and,and_true,Qo,Qp,Qq,Qr,Qs,Qt,Qu,Qv,Qw,Qx,Qy,Qz,Ra,Rb,Rc,Rd,Re,Rf,Rg,Rh,Ri,Rj,Rk,Rm,Rn,Ro,Rp,Rq,Rs,Ya,Yb,Yc,Rt,Ru,Za,Yd,Ye,Rx,Ry,Rz,Wa,Wb,Wc,Wd]
    exact hk
  · have db:(decide (x<0) == decide (y<0))=false:=by simpa using hsg
    simp only[Pz,VQ,st1,st2,l1,l2,l3,l4,Dj,Dk,OW,db,Xx,Xz,Qa,Qb,Qc,Qd,Qe,Qf,Qg,Qh,Qi,Qj,Qk,Ql,Qm,Qn,true_and,and_true,Qo,Qp,Qq,Qr,Qs,Qt,Qu,Qv,Qw,Qx,Qy,Qz,Ra,Rb,Rc,Rd,Re,Rf,Rg,Rh,Ri,Rj,Rk,Rm,Rn,Ro,Rp,Rq,Rs,Ya,Yb,Yc,Rt,Ru,Za,Yd,Ye,Rx,Ry,Rz,Wa,Wb,Wc,Wd]
    refine Y0 hE w2.n32 w3.n32 (by omega) (by omega) (Ae _) (Ae _) (fun hlt s6 o6=>?_) (fun hge s6 v6 o6 r6=>?_)
    · rw[vx,vy]at hlt
      have h6:=o6.1
      have u1:=(o6.2 s.next (by omega)).trans k1
      have u2:=(o6.2 (s.next+1) (by omega)).trans k2
      have l1:=AX (P:=Tryz.prog) (t:=4) (o:=0+0) Pi u1 rfl
      have l2:=AX (P:=Tryz.prog) (t:=22) (o:=0+1) DO u1 rfl
      have l3:=AX (P:=Tryz.prog) (t:=4) (o:=0+0) Pi u2 rfl
      have l4:=AX (P:=Tryz.prog) (t:=22) (o:=0+1) DO u2 rfl
      simp only[P0,VS,Za,l1,l2,l3,l4,Dj,Dk,Qa,Qb,Qc,Qd,Qe,Qf,Qg,Qh,Qi,Qj,Qk,Ql,Qm,Qn,true_and,and_true,Qo,Qp,Qq,Qr,Qs,Qt,Qu,Qv,Qw,Qx,Qy,Qz,Ra,Rb,Rc,Rd,Re,Rf,Rg,Rh,Ri,Rj,Rk,Rm,Rn,Ro,Rp,Rq,Rs,Ya,Yb,Yc,Rt,Ru,Za,Yd,Ye,Rx,Ry,Rz,Wa,Wb,Wc,Wd]
      refine Y0 hE (w3.n32.old o6) (w2.n32.old o6) (by omega) (by omega) (Ae _) (Ae _) (fun h=>by rw[vx,vy]at h;omega) (fun _ s7 v7 o7 r7=>?_)
      rw[vx,vy]at r7
      have l5:=AX (P:=Tryz.prog) (t:=4) (o:=0+0) Pi ((o7.2 (s.next+1) (by omega)).trans u2) rfl
      simp only[VT,Za,l5,Dj,Qa,Qb,Qc,Qd,Qe,Qf,Qg,Qh,Qi,Qj,Qk,Ql,Qm,Qn,true_and,and_true,Qo,Qp,Qq,Qr,Qs,Qt,Qu,Qv,Qw,Qx,Qy,Qz,Ra,Rb,Rc,Rd,Re,Rf,Rg,Rh,Ri,Rj,Rk,Rm,Rn,Ro,Rp,Rq,Rs,Ya,Yb,Yc,Rt,Ru,Za,Yd,Ye,Rx,Ry,Rz,Wa,Wb,Wc,Wd]
      refine fin _ s7 v7 _ (o6.trans (o7.mono h6)) (r7.mono h6) (om (by omega) hm1) ?_ _ fun s7 x7 a7 n7 c7 st ld hk=>?_
      · rw[Int.add_comm x y];exact Pc (fun e=>hsg e.symm) (by omega)
      · simp only[st,ld,AL,Xx,Xz,Qa,Qb,Qc,Qd,Qe,Qf,Qg,Qh,Qi,Qj,Qk,Ql,Qm,Qn,true_and,and_true,Qo,Qp,Qq,Qr,Qs,Qt,Qu,Qv,Qw,Qx,Qy,Qz,Ra,Rb,Rc,Rd,Re,Rf,Rg,Rh,Ri,Rj,Rk,Rm,Rn,Ro,Rp,Rq,Rs,Ya,Yb,Yc,Rt,Ru,Za,Yd,Ye,Rx,Ry,Rz,Wa,Wb,Wc,Wd]
        exact hk
    · rw[vx,vy]at hge r6
      have u1:=(o6.2 s.next (by omega)).trans k1
      have l1:=AX (P:=Tryz.prog) (t:=4) (o:=0+0) Pi u1 rfl
      simp only[P0,VR,Za,l1,Dj,Qa,Qb,Qc,Qd,Qe,Qf,Qg,Qh,Qi,Qj,Qk,Ql,Qm,Qn,true_and,and_true,Qo,Qp,Qq,Qr,Qs,Qt,Qu,Qv,Qw,Qx,Qy,Qz,Ra,Rb,Rc,Rd,Re,Rf,Rg,Rh,Ri,Rj,Rk,Rm,Rn,Ro,Rp,Rq,Rs,Ya,Yb,Yc,Rt,Ru,Za,Yd,Ye,Rx,Ry,Rz,Wa,Wb,Wc,Wd]
      refine fin _ s6 v6 _ o6 r6 (om (by omega) hm1) (Pc hsg hge) _ fun s7 x7 a7 n7 c7 st ld hk=>?_
      simp only[st,ld,AL,Xx,Xz,Qa,Qb,Qc,Qd,Qe,Qf,Qg,Qh,Qi,Qj,Qk,Ql,Qm,Qn,true_and,and_true,Qo,Qp,Qq,Qr,Qs,Qt,Qu,Qv,Qw,Qx,Qy,Qz,Ra,Rb,Rc,Rd,Re,Rf,Rg,Rh,Ri,Rj,Rk,Rm,Rn,Ro,Rp,Rq,Rs,Ya,Yb,Yc,Rt,Ru,Za,Yd,Ye,Rx,Ry,Rz,Wa,Wb,Wc,Wd]
      exact hk
end
theorem TQ{n:Int}(h:n=0∨n=1∨n=-1)(s:AD):∃m:Nat,m=n.natAbs ∧
  ((decide (n<0)=false∧As Tryz.prog s 2 69 (iv n)=some (Ag m))∨(decide (n<0)=true∧As Tryz.prog s 2 69 (iv n)=some (.int .u64 18446744073709551615)∧UH Tryz.prog Go.UnOp.neg (.int .u64 18446744073709551615)=some (Ag m))):=by
 rcases h with rfl | rfl | rfl
 ·exact⟨0,rfl,.inl ⟨rfl,by kernel_rfl⟩⟩
 ·exact⟨1,rfl,.inl ⟨rfl,by kernel_rfl⟩⟩
 ·exact⟨1,rfl,.inr ⟨rfl,by kernel_rfl,by kernel_rfl⟩⟩
section
variable{E:CP}{s:AD}
theorem N6       (hE : GoodN E) {n : Int} (h : n = 0 ∨ n = 1 ∨ n = -1) {K : AV → AD  → Prop} (hK : ∀ s' v, Ac  s.next s s' → BR s.next s' v n → K v s') : WF E 60 [iv n] K s := by
  refine hE.go iy (by decide) rfl ?_
  obtain⟨n1,o1,g1⟩:=Bj s ZI
  have hn:=TQ h (newObj s ZI)
  obtain⟨m,hm,hcase⟩:=hn
  have hm1:m≤1:=by rcases h with rfl | rfl | rfl<;>simp at hm<;>omega
  have e3:AT Tryz.prog .shr 69 (Ag m) (.int .u64 32)=some (Ag (m / 4294967296)):=IU Tryz.prog 69 (k:=.u64) (n:=32) (by decide)
  have e4:m / 4294967296=0:=by omega
  have e5:m % 4294967296=m:=by omega
  rw[e4]at e3
  have key:∀neg:Bool,neg=decide (n<0)→∀ (K2:AV→AD→Prop),(∀s7 x7 a7 n7 c7,AK Tryz.prog s7 24 (.ptr (some (s.next,0))) (.agg [.bool x7,.slice a7 n7 c7])=some (setObj s7 s.next (BX x7 (.slice a7 n7 c7))) →
        AC Tryz.prog (setObj s7 s.next (BX x7 (.slice a7 n7 c7))) 24 (.ptr (some (s.next,0)))=some (.agg [.bool x7,.slice a7 n7 c7]) →
        K (.agg [.bool x7,.slice a7 n7 c7]) (setObj s7 s.next (BX x7 (.slice a7 n7 c7)))→K2 (.agg [.bool x7,.slice a7 n7 c7]) s7) →
      WF E 107 [.bool neg,.slice (some ((newObj s ZI).next,0)) 2 (some 2)] K2 (newObj (newObj s ZI) (R 76 1 false [Bf m,Bf 0])):=by
    intro neg hneg K2 hK2
    obtain⟨n2,o2,g2⟩:=Bj (newObj s ZI) (R 76 1 false [Bf m,Bf 0])
    generalize newObj (newObj s ZI) (R 76 1 false [Bf m,Bf 0])=s2 at *
    generalize newObj s ZI=s1 at *
    have hN:Cv s2 (.slice (some (s1.next,0)) 2 (some 2)) [m,0]:=⟨some (s1.next,0),some 2,rfl,.inl ⟨2,rfl,nl _,fun e=>by cases e⟩,Ew g2 (by omega)⟩
    refine HH hE hN (by simp) (fun x hx=>?_) fun s7 v7 o7 r7=>?_
    · rcases List.mem_cons.1 hx with rfl | hx
      · exact om hm1 (by decide)
      · rw[List.mem_singleton.1 hx];exact(by decide)
    have hv:B8 neg (AG [m,0])=n:=by
      have:AG [m,0]=n.natAbs:=by rw[← hm];simp[AG]
      rw[this,hneg]
      exact GG n
    rw[hv]at r7
    have g7:s7.heap.get s.next=some ZI:=by rw[o7.2 _ (by omega),o2.2 _ (by omega)];exact g1
    obtain⟨m7,rfl,r7⟩:=r7
    obtain⟨a7,n7,c7,rfl⟩:=r7.n32.shape
    obtain⟨st,ld⟩:=FY (s1:=s) (x:=decide (n<0)) (a:=a7) (n:=n7) (c:=c7) g7
    have h2:=o2.1
    refine hK2 _ _ _ _ _ st ld (hK _ _ ((o1.trans ((o2.trans (o7.mono h2)).mono o1.1)).set (by omega) _) (BR.mono (b:=s2.next) ⟨_,rfl,r7.set (by omega) _⟩ (by omega)))
  rcases hcase with⟨d,c1⟩ | ⟨d,c1,c2⟩
  · simp only[mD,Wk,Wl,Wm,Wp,Df,Xb,c1,Rx,d,Bx,e3,e5,Nat.zero_mod,Nf,Xd,Qa,Qb,Qc,Qd,Qe,Qf,Qg,Qh,Qi,Qj,Qk,Ql,Qm,Qn,true_and,and_true,Qo,Qp,Qq,Qr,Qs,Qt,Qu,Qv,Qw,Qx,Qy,Qz,Ra,Rb,Rc,Rd,Re,Rf,Rg,Rh,Ri,Rj,Rk,Rm,Rn,Ro,Rp,Rq,Rs,Ya,Yb,Yc,Rt,Ru,Za,Yd,Ye,Rx,Ry,Rz,Wa,Wb,Wc,Wd]
    refine key false d.symm _ fun s7 x7 a7 n7 c7 st ld hk=>?_
    simp only[st,ld,AL,Xx,Xz,Qa,Qb,Qc,Qd,Qe,Qf,Qg,Qh,Qi,Qj,Qk,Ql,Qm,Qn,true_and,and_true,Qo,Qp,Qq,Qr,Qs,Qt,Qu,Qv,Qw,Qx,Qy,Qz,Ra,Rb,Rc,Rd,Re,Rf,Rg,Rh,Ri,Rj,Rk,Rm,Rn,Ro,Rp,Rq,Rs,Ya,Yb,Yc,Rt,Ru,Za,Yd,Ye,Rx,Ry,Rz,Wa,Wb,Wc,Wd]
    exact hk
  · simp only[mD,Wk,Wl,Wm,eG,Wp,Df,Xb,c1,c2,Rx,d,Bx,e3,e5,Nat.zero_mod,Nf,Xd,Qa,Qb,Qc,Qd,Qe,Qf,Qg,Qh,Qi,Qj,Qk,Ql,Qm,Qn,true_and,and_true,Qo,Qp,Qq,Qr,Qs,Qt,Qu,Qv,Qw,Qx,Qy,Qz,Ra,Rb,Rc,Rd,Re,Rf,Rg,Rh,Ri,Rj,Rk,Rm,Rn,Ro,Rp,Rq,Rs,Ya,Yb,Yc,Rt,Ru,Za,Yd,Ye,Rx,Ry,Rz,Wa,Wb,Wc,Wd]
    refine key true d.symm _ fun s7 x7 a7 n7 c7 st ld hk=>?_
    simp only[st,ld,AL,Xx,Xz,Qa,Qb,Qc,Qd,Qe,Qf,Qg,Qh,Qi,Qj,Qk,Ql,Qm,Qn,true_and,and_true,Qo,Qp,Qq,Qr,Qs,Qt,Qu,Qv,Qw,Qx,Qy,Qz,Ra,Rb,Rc,Rd,Re,Rf,Rg,Rh,Ri,Rj,Rk,Rm,Rn,Ro,Rp,Rq,Rs,Ya,Yb,Yc,Rt,Ru,Za,Yd,Ye,Rx,Ry,Rz,Wa,Wb,Wc,Wd]
    exact hk
end
theorem Au{P:Program}{s:AD}{i e sz t n o:Nat}{sp:Bool}{cs:List AV}(ht:De P t=some true)(hs:A3 P t=some n)(hg:s.heap.get i=some (R e sz sp cs))(hl:o+n≤cs.length):AC P s t (.ptr (some (i,o)))=some (.agg ((cs.drop o).take n)):=by
 rw[Wf ht,hs,Option.bind_some,hg,Wo hl]
 rfl
theorem BI.shape{s:AD}{v:AV}{z:Int}{k:Nat}(h:BI s v z k):∃x a n c,v=.agg [.bool x,.slice a n c]:=by
 obtain⟨neg,m,l,rfl,hm,_⟩:=h
 obtain⟨a,n,c,rfl⟩:=hm.shape
 exact⟨_,_,_,_,rfl⟩
section
variable{E:CP}{s:AD}
theorem L7{S:AD}{p i:Nat}(hi:i<2){f:FuncId}{x0:Bool}{a0:Option (Nat×Nat)}{n0:Nat}{c0:Option Nat}{x1:Bool}{a1:Option (Nat×Nat)}{n1:Nat}{c1:Option Nat}{ri:Nat}
  (hp:p+1<S.next) (hb:S.heap.get p=some (BX x0 (.slice a0 n0 c0))) (hel:AC Tryz.prog S 24 (.ptr (some (ri,0+i * 2)))=some (.agg [.bool x1,.slice a1 n1 c1])) {r:Int}
  (hf:∀ (s:AD) (K:AV→AD→Prop),Ac S.next S s→(∀s' v,Ac s.next s s'→BR s.next s' v r→K v s')→WF E f [.agg [.bool x0,.slice a0 n0 c0],.agg [.bool x1,.slice a1 n1 c1]] K s)
  {Q:A5→Prop} {y0 y1 y5 y9:AV}
  (hgo:∀ (s':AD) (x2:Bool) (a2:Option (Nat×Nat)) (n2:Nat) (c2:Option Nat) (y5 y9:AV),S.next≤s'.next→(∀j,j<S.next→j≠p→s'.heap.get j=S.heap.get j)→s'.heap.get p=some (BX x2 (.slice a2 n2 c2))→BR S.next s' (.agg [.bool x2,.slice a2 n2 c2]) r →
   WC E none (.loop Ib) Q [y0,y1,.func f [] [],.ptr (some (p,0)),.ptr (some (p+1,0)),y5,.slice (some (ri,0)) 2 (some 2),iv 2,iv ((i+1:Nat):Int),y9] [] s'):
  WC E none (.loop Ib) Q [y0,y1,.func f [] [],.ptr (some (p,0)),.ptr (some (p+1,0)),y5,.slice (some (ri,0)) 2 (some 2),iv 2,iv (i:Int),y9] [] S:=by
 have dd:decide ((i:Int)<2)=true:=decide_eq_true (by omega)
 have e1:=An (cap:=some 2) (i:=ri) (o:=0) (n:=2) Tryz.underlying134 CC (show i<2 from hi)
 have e17:=Bh Tryz.prog 3 (i:Int) 1 ⟨by omega,by omega⟩
 have e17':((i:Int)+1)=((i+1:Nat):Int):=by omega
 refine WC.loop' ?_
 generalize hW:WC E none (Af.loop Ib) Q=WW
 obtain⟨m1,o1,g1⟩:=Bj S ZI
 simp only[Ib,Pw,Uz,Rx,dd,e1,hel,Df,Xb,Qa,Qb,Qc,Qd,Qe,Qf,Qg,Qh,Qi,Qj,Qk,Ql,Qm,Qn,true_and,and_true,Qo,Qp,Qq,Qr,Qs,Qt,Qu,Qv,Qw,Qx,Qy,Qz,Ra,Rb,Rc,Rd,Re,Rf,Rg,Rh,Ri,Rj,Rk,Rm,Rn,Ro,Rp,Rq,Rs,Ya,Yb,Yc,Rt,Ru,Za,Yd,Ye,Rx,Ry,Rz,Wa,Wb,Wc,Wd]
 generalize hs1:newObj S ZI=s1 at *
 have st:=Aj (P:=Tryz.prog) (t:=24) (cs:=[.bool x1,.slice a1 n1 c1]) CC g1 rfl rfl rfl (by simp)
 generalize hs2:setObj s1 S.next (R 24 0 false [.bool x1,.slice a1 n1 c1])=s2 at st
 have o2:Ac S.next S s2:=by rw[← hs2];exact o1.set (nl _) _
 have n2:s2.next=S.next+1:=by rw[← hs2];exact m1
 have k1:s2.heap.get p=some (BX x0 (.slice a0 n0 c0)):=(o2.2 p (by omega)).trans hb
 have k2:s2.heap.get S.next=some (R 24 0 false [.bool x1,.slice a1 n1 c1]):=by rw[← hs2,Wv]
 have l1:=AE (P:=Tryz.prog) (t:=24) C6 CC k1 rfl
 have l2:=AE (P:=Tryz.prog) (t:=24) C6 CC k2 rfl
 simp only[U1,st,l1,l2,Xx,Xz,Qa,Qb,Qc,Qd,Qe,Qf,Qg,Qh,Qi,Qj,Qk,Ql,Qm,Qn,true_and,and_true,Qo,Qp,Qq,Qr,Qs,Qt,Qu,Qv,Qw,Qx,Qy,Qz,Ra,Rb,Rc,Rd,Re,Rf,Rg,Rh,Ri,Rj,Rk,Rm,Rn,Ro,Rp,Rq,Rs,Ya,Yb,Yc,Rt,Ru,Za,Yd,Ye,Rx,Ry,Rz,Wa,Wb,Wc,Wd]
 refine hf s2 _ o2 fun s3 v3 o3 r3=>?_
 have k3:s3.heap.get p=some (BX x0 (.slice a0 n0 c0)):=(o3.2 p (by omega)).trans k1
 obtain⟨m3,rfl,r3'⟩:=r3
 obtain⟨a3,n3,c3,rfl⟩:=r3'.n32.shape
 have st3:=Aj (P:=Tryz.prog) (t:=24) (cs:=[.bool (decide (r<0)),.slice a3 n3 c3]) CC k3 rfl rfl rfl (by simp)
 simp only[st3,Xx,Xz,U2,e17,e17',Qa,Qb,Qc,Qd,Qe,Qf,Qg,Qh,Qi,Qj,Qk,Ql,Qm,Qn,true_and,and_true,Qo,Qp,Qq,Qr,Qs,Qt,Qu,Qv,Qw,Qx,Qy,Qz,Ra,Rb,Rc,Rd,Re,Rf,Rg,Rh,Ri,Rj,Rk,Rm,Rn,Ro,Rp,Rq,Rs,Ya,Yb,Yc,Rt,Ru,Za,Yd,Ye,Rx,Ry,Rz,Wa,Wb,Wc,Wd]
 rw[← hW]
 have h3:=o3.1
 refine hgo _ (decide (r<0)) a3 n3 c3 _ _ ?_ (fun j hj hne=>?_) (Wv _ _ _) (BR.mono (b:=s2.next) ⟨_,rfl,r3'.set (by omega) _⟩ (by omega))
 ·show S.next≤s3.next;omega
 ·rw[Ww _ hne,o3.2 j (by omega),o2.2 j hj]
theorem Si(hE:GoodN E){f:FuncId}{v0 vx vy:AV}{z0 x y r:Int}{k0 kx ky ri:Nat}(h0:BI s v0 z0 k0)(hx:BI s vx x kx)(hy:BI s vy y ky){xc yc:List AV}(hxc:vx=.agg xc)(hyc:vy=.agg yc)(hri:ri<s.next)(hrow:s.heap.get ri=some (R 24 2 false (xc++yc)))
  (h1:∀ (s:AD) (va vb:AV) (K:AV→AD→Prop),BI s va z0 k0→BI s vb x kx→(∀s' v,Ac s.next s s'→BR s.next s' v x→K v s')→WF E f [va,vb] K s)
  (h2:∀ (s:AD) (va vb:AV) (K:AV→AD→Prop),BI s va x kx→BI s vb y ky→(∀s' v,Ac s.next s s'→BR s.next s' v r→K v s')→WF E f [va,vb] K s)
  {K:AV→AD→Prop} (hK:∀s' v,Ac s.next s s'→BR s.next s' v r→K v s'):WF E 116 [v0,.slice (some (ri,0)) 2 (some 2),.func f [] []] K s:=by
 have xabs:=hx.abs
 obtain⟨x0,a0,n0,c0,rfl⟩:=h0.shape
 obtain⟨x1,a1,m1,c1,e1⟩:=hx.shape
 obtain⟨x2,a2,m2,c2,e2⟩:=hy.shape
 rw[hxc]at e1;rw[hyc]at e2
 injection e1 with e1;injection e2 with e2
 subst e1;subst e2;subst hxc;subst hyc
 refine hE.go Zu (by decide) rfl ?_
 obtain⟨n1,o1,g1,g2⟩:=Eu s (BX x0 (.slice a0 n0 c0)) ZI
 simp only[kH,Ux,Uy,Wz,Xg,Df,Xb,Aq,AU Tryz.underlying134,Qa,Qb,Qc,Qd,Qe,Qf,Qg,Qh,Qi,Qj,Qk,Ql,Qm,Qn,true_and,and_true,Qo,Qp,Qq,Qr,Qs,Qt,Qu,Qv,Qw,Qx,Qy,Qz,Ra,Rb,Rc,Rd,Re,Rf,Rg,Rh,Ri,Rj,Rk,Rm,Rn,Ro,Rp,Rq,Rs,Ya,Yb,Yc,Rt,Ru,Za,Yd,Ye,Rx,Ry,Rz,Wa,Wb,Wc,Wd]
 generalize newObj (newObj s (BX x0 (.slice a0 n0 c0))) ZI=s1 at *
 have hr1:=(o1.2 ri hri).trans hrow
 have el0:AC Tryz.prog s1 24 (.ptr (some (ri,0+0 * 2)))=some (.agg [.bool x1,.slice a1 m1 c1]):=Au (o:=0) (n:=2) C6 CC hr1 (by simp)
 refine L7 (S:=s1) (p:=s.next) (i:=0) (by omega) (by omega) g1 el0 (fun s2 K2 o2 hk=>h1 s2 _ _ K2 (h0.old (o1.trans (o2.mono o1.1))) (hx.old (o1.trans (o2.mono o1.1))) hk) fun s2 x3 a3 n3 c3 y5 y9 q1 q2 q3 q4=>?_
 have o12:Ac s.next s s2:=⟨by have:=o1.1;omega,fun j hj=>by rw[q2 j (by omega) (by omega),o1.2 j hj]⟩
 have hr2:=(o12.2 ri hri).trans hrow
 have el1:AC Tryz.prog s2 24 (.ptr (some (ri,0+1 * 2)))=some (.agg [.bool x2,.slice a2 m2 c2]):=Au (o:=2) (n:=2) C6 CC hr2 (by simp)
 refine L7 (S:=s2) (p:=s.next) (i:=0+1) (by omega) (by omega) q3 el1 (fun s3 K3 o3 hk=>h2 s3 _ _ K3 ((q4.bi xabs).old o3) (hy.old (o12.trans (o3.mono o12.1))) hk) fun s3 x4 a4 n4 c4 y5 y9 w1 w2 w3 w4=>?_
 have o13:Ac s.next s s3:=⟨by have:=o12.1;omega,fun j hj=>by rw[w2 j (by have:=o12.1;omega) (by omega),o12.2 j hj]⟩
 have dd:decide (((0+1+1:Nat):Int)<2)=false:=rfl
 refine WC.loop' ?_
 have l1:=AE (P:=Tryz.prog) (t:=24) C6 CC w3 rfl
 have g3:s3.heap.get (s.next+1)=some ZI:=by rw[w2 _ (by omega) (by omega),q2 _ (by omega) (by omega)];exact g2
 obtain⟨st,ld⟩:=FY (s1:=s) (x:=x4) (a:=a4) (n:=n4) (c:=c4) g3
 simp only[Ib,Pw,U3,Rx,dd,l1,st,ld,if_true,AL,Xx,Xz,Qa,Qb,Qc,Qd,Qe,Qf,Qg,Qh,Qi,Qj,Qk,Ql,Qm,Qn,true_and,and_true,Qo,Qp,Qq,Qr,Qs,Qt,Qu,Qv,Qw,Qx,Qy,Qz,Ra,Rb,Rc,Rd,Re,Rf,Rg,Rh,Ri,Rj,Rk,Rm,Rn,Ro,Rp,Rq,Rs,Ya,Yb,Yc,Rt,Ru,Za,Yd,Ye,Rx,Ry,Rz,Wa,Wb,Wc,Wd]
 exact hK _ _ (o13.set (by omega) _) ((w4.set (by omega) _).mono (by have:=o12.1;omega))
theorem Iz(x y:Bool)(a b:Option (Nat×Nat))(n m:Nat)(c d:Option Nat):Ad Tryz.prog 134 2 (zipIdx [0,1] [.agg [.bool x,.slice a n c],.agg [.bool y,.slice b m d]])=some (R 24 2 false [.bool x,.slice a n c,.bool y,.slice b m d]):=by kernel_rfl
theorem ZW(s:AD):BI s (.agg [.bool false,.slice none 0 (some 0)]) 0 0:=⟨false,_,[],rfl,(NR.nil 0 s).n32,fun x hx=>(by cases hx),nl _,rfl⟩
theorem ZT(hE:GoodN E){vx vy:AV}{x y:Int}{kx ky ri:Nat}(hx:BI s vx x kx)(hy:BI s vy y ky)(hk:kx+ky+1≤1000000000){xc yc:List AV}(hxc:vx=.agg xc)(hyc:vy=.agg yc)(hri:ri<s.next)(hrow:s.heap.get ri=some (R 24 2 false (xc++yc)))
  {K:AV→AD→Prop} (hK:∀s' v,Ac s.next s s'→BR s.next s' v (x+y)→K v s'):WF E 113 [.slice (some (ri,0)) 2 (some 2)] K s:=by
 refine hE.go Zr (by decide) rfl ?_
 have hbz:Cz Tryz.prog 24 (zipIdx [] [])=some (.agg [.bool false,.slice none 0 (some 0)]):=by kernel_rfl
 obtain⟨n1,o1,g1⟩:=Bj s ZI
 simp only[kE,Ur,Us,Df,Xb,hbz,Qa,Qb,Qc,Qd,Qe,Qf,Qg,Qh,Qi,Qj,Qk,Ql,Qm,Qn,true_and,and_true,Qo,Qp,Qq,Qr,Qs,Qt,Qu,Qv,Qw,Qx,Qy,Qz,Ra,Rb,Rc,Rd,Re,Rf,Rg,Rh,Ri,Rj,Rk,Rm,Rn,Ro,Rp,Rq,Rs,Ya,Yb,Yc,Rt,Ru,Za,Yd,Ye,Rx,Ry,Rz,Wa,Wb,Wc,Wd]
 generalize newObj s ZI=s1 at *
 refine Si hE (ZW s1) (hx.old o1) (hy.old o1) hxc hyc (by omega) ((o1.2 ri hri).trans hrow) (r:=x+y)
  (fun s va vb K ha hb hk'=>N4 hE ha hb (by omega) (by rw[Int.zero_add];exact hk')) (fun s va vb K ha hb hk'=>N4 hE ha hb hk hk') fun s2 v2 o2 r2=>?_
 obtain⟨m2,rfl,q2⟩:=r2
 obtain⟨a2,n2,c2,rfl⟩:=q2.n32.shape
 obtain⟨st,ld⟩:=FY (s1:=s) (x:=decide (x+y<0)) (a:=a2) (n:=n2) (c:=c2) ((o2.2 s.next (by omega)).trans g1)
 simp only[st,ld,AL,Xx,Xz,Qa,Qb,Qc,Qd,Qe,Qf,Qg,Qh,Qi,Qj,Qk,Ql,Qm,Qn,true_and,and_true,Qo,Qp,Qq,Qr,Qs,Qt,Qu,Qv,Qw,Qx,Qy,Qz,Ra,Rb,Rc,Rd,Re,Rf,Rg,Rh,Ri,Rj,Rk,Rm,Rn,Ro,Rp,Rq,Rs,Ya,Yb,Yc,Rt,Ru,Za,Yd,Ye,Rx,Ry,Rz,Wa,Wb,Wc,Wd]
 exact hK _ _ ((o1.trans (o2.mono o1.1)).set (nl _) _) (BR.mono (b:=s1.next) ⟨_,rfl,q2.set (by omega) _⟩ (by omega))
theorem SC(hE:GoodN E){vx vy:AV}{x y:Int}{kx ky ri:Nat}(hx:BI s vx x kx)(hy:BI s vy y ky)(hk:kx+ky+1≤1000000000){xc yc:List AV}(hxc:vx=.agg xc)(hyc:vy=.agg yc)(hri:ri<s.next)(hrow:s.heap.get ri=some (R 24 2 false (xc++yc)))
  {K:AV→AD→Prop} (hK:∀s' v,Ac s.next s s'→BR s.next s' v (x * y)→K v s'):WF E 71 [.slice (some (ri,0)) 2 (some 2)] K s:=by
 refine hE.go jE (by decide) rfl ?_
 obtain⟨n1,o1,g1⟩:=Bj s ZI
 simp only[nS,fK,fL,Df,Xb,Qa,Qb,Qc,Qd,Qe,Qf,Qg,Qh,Qi,Qj,Qk,Ql,Qm,Qn,true_and,and_true,Qo,Qp,Qq,Qr,Qs,Qt,Qu,Qv,Qw,Qx,Qy,Qz,Ra,Rb,Rc,Rd,Re,Rf,Rg,Rh,Ri,Rj,Rk,Rm,Rn,Ro,Rp,Rq,Rs,Ya,Yb,Yc,Rt,Ru,Za,Yd,Ye,Rx,Ry,Rz,Wa,Wb,Wc,Wd]
 generalize newObj s ZI=s1 at *
 refine N6 hE (n:=1) (.inr (.inl rfl)) fun s2 v2 o2 r2=>?_
 have h12:=o1.trans (o2.mono o1.1)
 simp only[Qa,Qb,Qc,Qd,Qe,Qf,Qg,Qh,Qi,Qj,Qk,Ql,Qm,Qn,true_and,and_true,Qo,Qp,Qq,Qr,Qs,Qt,Qu,Qv,Qw,Qx,Qy,Qz,Ra,Rb,Rc,Rd,Re,Rf,Rg,Rh,Ri,Rj,Rk,Rm,Rn,Ro,Rp,Rq,Rs,Ya,Yb,Yc,Rt,Ru,Za,Yd,Ye,Rx,Ry,Rz,Wa,Wb,Wc,Wd]
 refine Si hE (r2.bi (k:=1) (by decide)) (hx.old h12) (hy.old h12) hxc hyc (by have:=h12.1;omega) ((h12.2 ri hri).trans hrow) (r:=x * y)
  (fun s va vb K ha hb hk'=>N7 hE ha hb (by omega) (by rw[Int.one_mul];exact hk')) (fun s va vb K ha hb hk'=>N7 hE ha hb (by omega) hk') fun s3 v3 o3 r3=>?_
 have h2:=o2.1
 obtain⟨m3,rfl,q3⟩:=r3
 obtain⟨a3,n3,c3,rfl⟩:=q3.n32.shape
 obtain⟨st,ld⟩:=FY (s1:=s) (x:=decide (x * y<0)) (a:=a3) (n:=n3) (c:=c3) ((o3.2 s.next (by omega)).trans ((o2.2 s.next (by omega)).trans g1))
 simp only[st,ld,AL,Xx,Xz,Qa,Qb,Qc,Qd,Qe,Qf,Qg,Qh,Qi,Qj,Qk,Ql,Qm,Qn,true_and,and_true,Qo,Qp,Qq,Qr,Qs,Qt,Qu,Qv,Qw,Qx,Qy,Qz,Ra,Rb,Rc,Rd,Re,Rf,Rg,Rh,Ri,Rj,Rk,Rm,Rn,Ro,Rp,Rq,Rs,Ya,Yb,Yc,Rt,Ru,Za,Yd,Ye,Rx,Ry,Rz,Wa,Wb,Wc,Wd]
 exact hK _ _ ((h12.trans (o3.mono h12.1)).set (nl _) _) (BR.mono (b:=s2.next) ⟨_,rfl,q3.set (by omega) _⟩ (by omega))
end
theorem Bz(z:Int):(z<0∧By z=-1)∨(z=0∧By z=0)∨(0<z∧By z=1):=by
  unfold By
  by_cases h1:z<0
  · exact .inl ⟨h1,if_pos h1⟩
  · by_cases h2 : 0 < z
    · exact .inr (.inr ⟨h2,by rw[if_neg h1,if_pos h2]⟩)
    · exact .inr (.inl ⟨by omega,by rw[if_neg h1,if_neg h2]⟩)
theorem PR{x y:Int}(h:By x≠By y∨By x=0):By (x - y)=By (By x - By y):=by
 rcases Bz x with⟨hx,ex⟩ | ⟨hx,ex⟩ | ⟨hx,ex⟩<;>rcases Bz y with⟨hy,ey⟩ | ⟨hy,ey⟩ | ⟨hy,ey⟩<;>rw[ex,ey]at h ⊢<;>first | (exfalso;revert h;decide) | (rcases Bz (x - y)with⟨h1,e⟩ | ⟨h1,e⟩ | ⟨h1,e⟩<;>rw[e]<;>first | rfl | omega)
theorem YD{p q:Int}(hp:p=-1∨p=0∨p=1)(hq:q=-1∨q=0∨q=1):∃r,B3 false (iv (p - q)) [iv 1]=some r∧B3 true (iv (-1)) [r]=some (iv (By (p - q))):=by
 rcases hp with rfl | rfl | rfl<;>rcases hq with rfl | rfl | rfl<;>exact⟨_,rfl,rfl⟩
theorem lZ(z:Int):By z=-1∨By z=0∨By z=1:=by
 rcases Bz z with⟨_,e⟩ | ⟨_,e⟩ | ⟨_,e⟩<;>simp[e]
theorem Yu{x y:Int}(h:By x=By y)(h0:By x≠0):By x * Eh x.natAbs y.natAbs=By (x - y):=by
  unfold Eh
  rcases Bz x with⟨hx,ex⟩ | ⟨hx,ex⟩ | ⟨hx,ex⟩
  · rcases Bz         y with ⟨hy, ey⟩ | ⟨hy, ey⟩ | ⟨hy, ey⟩
    · rcases Bz         (x - y) with ⟨h1, e⟩ | ⟨h1, e⟩ | ⟨h1, e⟩ <;> rw [e, ex]
      · rw[if_neg (by omega),if_pos (by omega)];rfl
      · rw[if_neg (by omega),if_neg (by omega)];rfl
      · rw[if_pos (by omega)];rfl
    · rw[ex,ey]at h;exact absurd h (by decide)
    · rw[ex,ey]at h;exact absurd h (by decide)
  · exact absurd ex h0
  · rcases Bz         y with ⟨hy, ey⟩ | ⟨hy, ey⟩ | ⟨hy, ey⟩
    · rw[ex,ey]at h;exact absurd h (by decide)
    · rw[ex,ey]at h;exact absurd h (by decide)
    · rcases Bz         (x - y) with ⟨h1, e⟩ | ⟨h1, e⟩ | ⟨h1, e⟩ <;> rw [e, ex]
      · rw[if_pos (by omega)];rfl
      · rw[if_neg (by omega),if_neg (by omega)];rfl
      · rw[if_neg (by omega),if_pos (by omega)];rfl
section
variable{E:CP}{s:AD}
theorem ZU      (hE : GoodN E) {va vb : AV} {x y : Int} {ka kb : Nat} (ha : BI s va x ka) (hb : BI s vb y kb) (hka : ka ≤ 1000000000) (hkb : kb ≤ 1000000000) {K : AV → AD  → Prop} (hK : ∀ s', Ac  s.next s s' → K (iv (By   (x - y))) s') : WF E 66 [va, vb] K s := by
  have ha0:=ha
  have hb0:=hb
  obtain⟨na,ma,la,rfl,hma,hsa,hla,hxa⟩:=ha
  obtain⟨nb,mb,lb,rfl,hmb,hsb,hlb,hyb⟩:=hb
  obtain⟨aa,an,ac,rfl⟩:=hma.shape
  obtain⟨ba,bn,bc,rfl⟩:=hmb.shape
  refine hE.go i9 (by decide) rfl ?_
  obtain⟨n1,o1,g1,g2⟩:=Eu s (BX na (.slice aa an ac)) (BX nb (.slice ba bn bc))
  simp only[nN,eR,eS,Wz,Xg,Xb,Aq,Qa,Qb,Qc,Qd,Qe,Qf,Qg,Qh,Qi,Qj,Qk,Ql,Qm,Qn,true_and,and_true,Qo,Qp,Qq,Qr,Qs,Qt,Qu,Qv,Qw,Qx,Qy,Qz,Ra,Rb,Rc,Rd,Re,Rf,Rg,Rh,Ri,Rj,Rk,Rm,Rn,Ro,Rp,Rq,Rs,Ya,Yb,Yc,Rt,Ru,Za,Yd,Ye,Rx,Ry,Rz,Wa,Wb,Wc,Wd]
  generalize newObj (newObj s (BX na (.slice aa an ac))) (BX nb (.slice ba bn bc))=s1 at *
  have l1:=AE (P:=Tryz.prog) (t:=24) C6 CC g1 rfl
  have l2:=AE (P:=Tryz.prog) (t:=24) C6 CC g2 rfl
  simp only[l1,l2,Qa,Qb,Qc,Qd,Qe,Qf,Qg,Qh,Qi,Qj,Qk,Ql,Qm,Qn,true_and,and_true,Qo,Qp,Qq,Qr,Qs,Qt,Qu,Qv,Qw,Qx,Qy,Qz,Ra,Rb,Rc,Rd,Re,Rf,Rg,Rh,Ri,Rj,Rk,Rm,Rn,Ro,Rp,Rq,Rs,Ya,Yb,Yc,Rt,Ru,Za,Yd,Ye,Rx,Ry,Rz,Wa,Wb,Wc,Wd]
  refine KA hE (ha0.old o1) hka fun s2 o2=>?_
  have f1:=(o2.2 s.next (by omega)).trans g1
  have f2:=(o2.2 (s.next+1) (by omega)).trans g2
  refine⟨⟨Aa (by simp only[Qa,Qb,Qc,Qd,Qe,Qf,Qg,Qh,Qi,Qj,Qk,Ql,Qm,Qn,true_and,and_true,Qo,Qp,Qq,Qr,Qs,Qt,Qu,Qv,Qw,Qx,Qy,Qz,Ra,Rb,Rc,Rd,Re,Rf,Rg,Rh,Ri,Rj,Rk,Rm,Rn,Ro,Rp,Rq,Rs,Ya,Yb,Yc,Rt,Ru,Za,Yd,Ye,Rx,Ry,Rz,Wa,Wb,Wc,Wd];exact AE C6 CC f2 rfl) (GE _ _ _ _),trivial⟩,?_⟩
  simp only[Qa,Qb,Qc,Qd,Qe,Qf,Qg,Qh,Qi,Qj,Qk,Ql,Qm,Qn,true_and,and_true,Qo,Qp,Qq,Qr,Qs,Qt,Qu,Qv,Qw,Qx,Qy,Qz,Ra,Rb,Rc,Rd,Re,Rf,Rg,Rh,Ri,Rj,Rk,Rm,Rn,Ro,Rp,Rq,Rs,Ya,Yb,Yc,Rt,Ru,Za,Yd,Ye,Rx,Ry,Rz,Wa,Wb,Wc,Wd]
  have h2:=o2.1
  have o12:=o1.trans (o2.mono o1.1)
  refine KA hE (hb0.old o12) hkb fun s3 o3=>?_
  have h3:=o3.1
  have o13:=o12.trans (o3.mono o12.1)
  have e1:=(o3.2 s.next (by omega)).trans f1
  have e2:=(o3.2 (s.next+1) (by omega)).trans f2
  have l3:=AX (P:=Tryz.prog) (t:=22) (o:=0+1) DO e1 rfl
  have l4:=AX (P:=Tryz.prog) (t:=22) (o:=0+1) DO e2 rfl
  have hsx:=lZ x
  have hsy:=lZ y
  by_cases hne:By x≠By y
  · have dn : decide (By   x ≠ By   y) = true := decide_eq_true hne
    have es:=CK Tryz.prog 3 (By x) (By y) ⟨by omega,by omega⟩
    obtain⟨r,m1,m2⟩:=YD hsx hsy
    simp only[SP,Wt,Wc,dn,Rt,es,m1,m2,Qa,Qb,Qc,Qd,Qe,Qf,Qg,Qh,Qi,Qj,Qk,Ql,Qm,Qn,true_and,and_true,Qo,Qp,Qq,Qr,Qs,Qt,Qu,Qv,Qw,Qx,Qy,Qz,Ra,Rb,Rc,Rd,Re,Rf,Rg,Rh,Ri,Rj,Rk,Rm,Rn,Ro,Rp,Rq,Rs,Ya,Yb,Yc,Rt,Ru,Za,Yd,Ye,Rx,Ry,Rz,Wa,Wb,Wc,Wd]
    rw[← PR (.inl hne)]
    exact hK s3 o13
  · have heq : By   x = By   y := Classical.byContradiction hne
    have dn:decide (By x≠By y)=false:=decide_eq_false hne
    by_cases h0:By x=0
    · have d0 : decide (By   x = 0) = true := decide_eq_true h0
      have es:=CK Tryz.prog 3 (By x) (By y) ⟨by omega,by omega⟩
      obtain⟨r,m1,m2⟩:=YD hsx hsy
      simp only[SP,Wt,Wc,Wb,dn,d0,Rt,es,m1,m2,Qa,Qb,Qc,Qd,Qe,Qf,Qg,Qh,Qi,Qj,Qk,Ql,Qm,Qn,true_and,and_true,Qo,Qp,Qq,Qr,Qs,Qt,Qu,Qv,Qw,Qx,Qy,Qz,Ra,Rb,Rc,Rd,Re,Rf,Rg,Rh,Ri,Rj,Rk,Rm,Rn,Ro,Rp,Rq,Rs,Ya,Yb,Yc,Rt,Ru,Za,Yd,Ye,Rx,Ry,Rz,Wa,Wb,Wc,Wd]
      rw[← PR (.inr h0)]
      exact hK s3 o13
    · have d0:decide (By x=0)=false:=decide_eq_false h0
      simp only[SP,eT,Wc,Wb,dn,d0,Rt,l3,l4,Dk,Qa,Qb,Qc,Qd,Qe,Qf,Qg,Qh,Qi,Qj,Qk,Ql,Qm,Qn,true_and,and_true,Qo,Qp,Qq,Qr,Qs,Qt,Qu,Qv,Qw,Qx,Qy,Qz,Ra,Rb,Rc,Rd,Re,Rf,Rg,Rh,Ri,Rj,Rk,Rm,Rn,Ro,Rp,Rq,Rs,Ya,Yb,Yc,Rt,Ru,Za,Yd,Ye,Rx,Ry,Rz,Wa,Wb,Wc,Wd]
      refine QF hE (hma.old o13) (hmb.old o13) (by omega) (by omega) hsa hsb fun s4 o4=>?_
      have ex:AG la=x.natAbs:=by rw[← hxa,CV]
      have ey:AG lb=y.natAbs:=by rw[← hyb,CV]
      rw[ex,ey]
      have hc:Eh x.natAbs y.natAbs=-1∨Eh x.natAbs y.natAbs=0∨Eh x.natAbs y.natAbs=1:=by
        unfold Eh
        by_cases h1:x.natAbs<y.natAbs
        · exact .inl (if_pos h1)
        · rw[if_neg h1]
          by_cases h2:y.natAbs<x.natAbs
          · exact .inr (.inr (if_pos h2))
          · exact .inr (.inl (if_neg h2))
      have em:=ZX Tryz.prog 3 (By x) (Eh x.natAbs y.natAbs) (by rcases hsx with e | e | e<;>rcases hc with c | c | c<;>rw[e,c]<;>exact⟨by decide,by decide⟩)
      rw[Yu heq h0]at em
      simp only[em,Qa,Qb,Qc,Qd,Qe,Qf,Qg,Qh,Qi,Qj,Qk,Ql,Qm,Qn,true_and,and_true,Qo,Qp,Qq,Qr,Qs,Qt,Qu,Qv,Qw,Qx,Qy,Qz,Ra,Rb,Rc,Rd,Re,Rf,Rg,Rh,Ri,Rj,Rk,Rm,Rn,Ro,Rp,Rq,Rs,Ya,Yb,Yc,Rt,Ru,Za,Yd,Ye,Rx,Ry,Rz,Wa,Wb,Wc,Wd]
      exact hK s4 (o13.trans (o4.mono o13.1))
end
end
end Go.Proofs.YtjnkfbpadpmakaaGreatDoor.Am
set_option linter.unusedVariables false
set_option linter.unusedSimpArgs false
set_option maxRecDepth 100000
namespace Go.Proofs.YtjnkfbpadpmakaaGreatDoor.Am
open Go Go.Proofs
noncomputable section
theorem Ar:A3 Tryz.prog 26=some 3:=by kernel_rfl
theorem iH:C0 Tryz.prog 26=some 56:=by kernel_rfl
theorem A9:De Tryz.prog 26=some true:=by kernel_rfl
theorem mU:EJ Tryz.prog 26=some (.agg [(.bool false),(.slice none 0 (some 0)),(.slice none 0 (some 0))]):=by kernel_rfl
theorem HK(i o:Nat):AH Tryz.prog 26 (.ptr (some (i,o))) 0=some (.ptr (some (i,o+0))):=by kernel_rfl
theorem KW(i o:Nat):AH Tryz.prog 26 (.ptr (some (i,o))) 1=some (.ptr (some (i,o+2))):=by kernel_rfl
theorem lg:A3 Tryz.prog 28=some 1:=by kernel_rfl
theorem Nx:De Tryz.prog 28=some false:=by kernel_rfl
def Uv:List AA:=[
 ⟨none,.p1 some,[(.const (.slice none 0 (some 0)))],(.set 0),[]⟩]
def Uw:List AA:=[
 ⟨none,.call 48,[(.const (.int .u64 (1)))],.push,[]⟩,
 ⟨none,.p1 some,[.loc 0],(.set 0),[]⟩]
def kG:Ao:=⟨0,1,(.seq (.ops Uv) (.seq (.ops Uw) .ret)),[((.var 0),none)]⟩
def fE:List AA:=[
 ⟨none,.mk (fun l=>match l with | [v]=>Be 24 v | _=>none),[.var 0],(.set 2),[]⟩,
 ⟨none,.mk (fun l=>match l with | []=>Ab Tryz.prog 26 | _=>none),[],(.set 3),[]⟩]
def fF:List AA:=[
 ⟨none,.p1 (fun x=>AH Tryz.prog 24 x 0),[.var 2],.push,[]⟩,
 ⟨none,.r1 (fun s a=>AC Tryz.prog s 4 a),[.loc 0],.push,[]⟩,
 ⟨none,.p1 (fun x=>AH Tryz.prog 24 x 1),[.var 2],.push,[]⟩,
 ⟨none,.r1 (fun s a=>AC Tryz.prog s 22 a),[.loc 0],.push,[]⟩,
 ⟨none,.call 107,[.loc 2,.loc 0],.push,[]⟩,
 ⟨none,.e (fun s=>Xx (fun a x=>Xz (AK Tryz.prog s 24 a x))),[.var 2,.loc 0],.push,[]⟩]
def fG:List AA:=[
 ⟨none,.p1 (fun x=>AH Tryz.prog 24 x 1),[.var 2],.push,[]⟩,
 ⟨none,.r1 (fun s a=>AC Tryz.prog s 22 a),[.loc 0],.push,[]⟩,
 ⟨none,.call 49,[.loc 0,.var 1],.push,[]⟩,
 ⟨none,.p1 some,[.loc 0],(.set 4),[]⟩]
def fH:List AA:=[
 ⟨none,.p1 (fun x=>AH Tryz.prog 24 x 1),[.var 2],.push,[]⟩,
 ⟨none,.r1 (fun s a=>AC Tryz.prog s 22 a),[.loc 0],.push,[]⟩,
 ⟨none,.call 50,[.loc 0,.var 4],.push,[]⟩,
 ⟨none,.p1 (fun x=>Za x 0),[.loc 0],.push,[]⟩,
 ⟨none,.p1 (fun x=>Za x 1),[.loc 1],.push,[]⟩,
 ⟨none,.p1 (fun x=>Za x 2),[.loc 2],.push,[]⟩,
 ⟨none,.p1 some,[.loc 2],(.set 5),[]⟩,
 ⟨none,.p1 some,[.loc 1],.push,[]⟩,
 ⟨none,.p1 some,[.loc 1],.push,[]⟩]
def fI:List AA:=[
 ⟨none,.call 50,[.var 1,.var 4],.push,[]⟩,
 ⟨none,.p1 (fun x=>Za x 0),[.loc 0],.push,[]⟩,
 ⟨none,.p1 (fun x=>Za x 1),[.loc 1],.push,[]⟩,
 ⟨none,.p1 (fun x=>Za x 2),[.loc 2],.push,[]⟩,
 ⟨none,.p1 some,[.loc 2],(.set 6),[]⟩,
 ⟨none,.p1 some,[.loc 1],.push,[]⟩,
 ⟨none,.p1 some,[.loc 1],.push,[]⟩]
def fJ:List AA:=[
 ⟨none,.p1 (fun x=>AH Tryz.prog 24 x 0),[.var 2],.push,[]⟩,
 ⟨none,.r1 (fun s a=>AC Tryz.prog s 4 a),[.loc 0],.push,[]⟩,
 ⟨none,.call 107,[.loc 0,.var 5],.push,[]⟩,
 ⟨none,.p (fun l=>Cz Tryz.prog 26 (zipIdx [0,1] l)),[.loc 0,.var 6],.push,[]⟩,
 ⟨none,.e (fun s=>Xx (fun a x=>Xz (AK Tryz.prog s 26 a x))),[.var 3,.loc 0],.push,[]⟩]
def nR:Ao:=⟨2,7,(.seq (.ops fE) (.seq (.ops fF) (.seq (.ops fG) (.seq (.ops fH) (.seq (.ops fI) (.seq (.ops fJ) .ret)))))),[((.var 3),some 26)]⟩
def en:List AA:=[
 ⟨none,.mk (fun l=>match l with | [v]=>Be 26 v | _=>none),[.var 0],(.set 1),[]⟩,
 ⟨none,.mk (fun l=>match l with | []=>Ab Tryz.prog 26 | _=>none),[],(.set 2),[]⟩]
def er:List AA:=[
 ⟨none,.p1 (fun x=>AH Tryz.prog 26 x 1),[.var 1],.push,[]⟩,
 ⟨none,.r1 (fun s a=>AC Tryz.prog s 22 a),[.loc 0],.push,[]⟩,
 ⟨none,.call 92,[.loc 0],.push,[]⟩,
 ⟨none,.p1 some,[.loc 0],(.set 3),[]⟩]
def Wx:List AA:=[
 ⟨none,.r (fun s l=>match l with | [x]=>BZ Tryz.prog s 22 x | _=>none),[.var 3],.push,[]⟩,
 ⟨none,.p2 (AT Tryz.prog .eql 3),[(.loc 0),(.const (.int .i64 (0)))],(.set 4),[]⟩]
def eu:List AA:=[
 ⟨none,.call 115,[],.push,[]⟩,
 ⟨none,.p1 some,[.loc 0],(.set 3),[]⟩]
def Wy:List AA:=[
 ⟨none,.p1 (fun x=>AH Tryz.prog 26 x 0),[.var 1],.push,[]⟩,
 ⟨none,.r1 (fun s a=>AC Tryz.prog s 24 a),[.loc 0],.push,[]⟩,
 ⟨none,.call 70,[.loc 0,.var 3],.push,[]⟩,
 ⟨none,.e (fun s=>Xx (fun a x=>Xz (AK Tryz.prog s 26 a x))),[.var 2,.loc 0],.push,[]⟩]
def nQ:Ao:=⟨1,5,(.seq (.ops en) (.seq (.ops er) (.seq (.seq (.ops Wx) (.cond (.var 4)
 (.ops eu)
 .skip)) (.seq (.ops Wy) .ret)))),[((.var 2),some 26)]⟩
def Uf:List AA:=[
 ⟨none,.mk (fun l=>match l with | [v]=>Be 26 v | _=>none),[.var 0],(.set 2),[]⟩,
 ⟨none,.mk (fun l=>match l with | []=>Ab Tryz.prog 26 | _=>none),[],(.set 3),[]⟩]
def Ug:List AA:=[
 ⟨none,.r1 (fun s a=>AC Tryz.prog s 26 a),[.var 2],.push,[]⟩,
 ⟨none,.call 69,[.loc 0],.push,[]⟩,
 ⟨none,.callv,[.var 1,.loc 0],.push,[]⟩,
 ⟨none,.e (fun s=>Xx (fun a x=>Xz (AK Tryz.prog s 26 a x))),[.var 3,.loc 0],.push,[]⟩]
def j9:Ao:=⟨2,4,(.seq (.ops Uf) (.seq (.ops Ug) .ret)),[((.var 3),some 26)]⟩
def eM:List AA:=[
 ⟨none,.mk (fun l=>match l with | [v]=>Be 26 v | _=>none),[.var 0],(.set 3),[]⟩,
 ⟨none,.mk (fun l=>match l with | [v]=>Be 26 v | _=>none),[.var 1],(.set 4),[]⟩,
 ⟨none,.mk (fun l=>match l with | [v]=>Be 84 v | _=>none),[.var 2],(.set 5),[]⟩,
 ⟨none,.mk (fun l=>match l with | []=>Ab Tryz.prog 26 | _=>none),[],(.set 6),[]⟩]
def eN:List AA:=[
 ⟨none,.r1 (fun s a=>AC Tryz.prog s 26 a),[.var 3],.push,[]⟩,
 ⟨none,.p (fun l=>some (.func 109 (l.take 0) (l.drop 0))),[.var 4,.var 5],.push,[]⟩,
 ⟨none,.call 108,[.loc 1,.loc 0],.push,[]⟩,
 ⟨none,.e (fun s=>Xx (fun a x=>Xz (AK Tryz.prog s 26 a x))),[.var 6,.loc 0],.push,[]⟩]
def nL:Ao:=⟨3,7,(.seq (.ops eM) (.seq (.ops eN) .ret)),[((.var 6),some 26)]⟩
def Uh:List AA:=[
 ⟨none,.mk (fun l=>match l with | [v]=>Be 26 v | _=>none),[.var 0],(.set 3),[]⟩,
 ⟨none,.mk (fun l=>match l with | []=>Ab Tryz.prog 26 | _=>none),[],(.set 4),[]⟩]
def Ui:List AA:=[
 ⟨none,.r1 (fun s a=>AC Tryz.prog s 26 a),[.var 1],.push,[]⟩,
 ⟨none,.p (fun l=>some (.func 110 (l.take 0) (l.drop 0))),[.var 2,.var 3],.push,[]⟩,
 ⟨none,.call 108,[.loc 1,.loc 0],.push,[]⟩,
 ⟨none,.e (fun s=>Xx (fun a x=>Xz (AK Tryz.prog s 26 a x))),[.var 4,.loc 0],.push,[]⟩]
def kA:Ao:=⟨3,5,(.seq (.ops Uh) (.seq (.ops Ui) .ret)),[((.var 4),some 26)]⟩
def Uk:List AA:=[
 ⟨none,.mk (fun l=>match l with | [v]=>Be 26 v | _=>none),[.var 0],(.set 3),[]⟩,
 ⟨none,.mk (fun l=>match l with | []=>Ab Tryz.prog 26 | _=>none),[],(.set 4),[]⟩]
def Ul:List AA:=[
 ⟨none,.p1 some,[(.const (.func 111 [] []))],(.set 5),[]⟩]
def Um:List AA:=[
 ⟨none,.r1 (fun s a=>AC Tryz.prog s 84 a),[.var 1],.push,[]⟩,
 ⟨none,.p1 (fun x=>AH Tryz.prog 26 x 0),[.var 2],.push,[]⟩,
 ⟨none,.r1 (fun s a=>AC Tryz.prog s 24 a),[.loc 0],.push,[]⟩,
 ⟨none,.p1 (fun x=>AH Tryz.prog 26 x 1),[.var 3],.push,[]⟩,
 ⟨none,.r1 (fun s a=>AC Tryz.prog s 22 a),[.loc 0],.push,[]⟩,
 ⟨none,.p1 (fun x=>AH Tryz.prog 26 x 0),[.var 3],.push,[]⟩,
 ⟨none,.r1 (fun s a=>AC Tryz.prog s 24 a),[.loc 0],.push,[]⟩,
 ⟨none,.p1 (fun x=>AH Tryz.prog 26 x 1),[.var 2],.push,[]⟩,
 ⟨none,.r1 (fun s a=>AC Tryz.prog s 22 a),[.loc 0],.push,[]⟩,
 ⟨none,.p1 (fun x=>AH Tryz.prog 26 x 1),[.var 2],.push,[]⟩,
 ⟨none,.r1 (fun s a=>AC Tryz.prog s 22 a),[.loc 0],.push,[]⟩,
 ⟨none,.p1 (fun x=>AH Tryz.prog 26 x 1),[.var 3],.push,[]⟩,
 ⟨none,.r1 (fun s a=>AC Tryz.prog s 22 a),[.loc 0],.push,[]⟩,
 ⟨none,.callv,[.var 5,.loc 10,.loc 8],.push,[⟨none,.r1 (fun s a=>AC Tryz.prog s 22 a),[.loc 2],(.loc 1)⟩,⟨none,.r1 (fun s a=>AC Tryz.prog s 22 a),[.loc 4],(.loc 3)⟩,⟨none,.r1 (fun s a=>AC Tryz.prog s 22 a),[.loc 6],(.loc 5)⟩,⟨none,.r1 (fun s a=>AC Tryz.prog s 24 a),[.loc 8],(.loc 7)⟩,⟨none,.r1 (fun s a=>AC Tryz.prog s 84 a),[.var 1],(.loc 13)⟩]⟩,
 ⟨none,.callv,[.var 5,.loc 7,.loc 5],.push,[⟨none,.r1 (fun s a=>AC Tryz.prog s 22 a),[.loc 3],(.loc 2)⟩,⟨none,.r1 (fun s a=>AC Tryz.prog s 22 a),[.loc 5],(.loc 4)⟩,⟨none,.r1 (fun s a=>AC Tryz.prog s 84 a),[.var 1],(.loc 14)⟩]⟩,
 ⟨none,.call 51,[.loc 4,.loc 2],.push,[⟨none,.r1 (fun s a=>AC Tryz.prog s 84 a),[.var 1],(.loc 15)⟩]⟩,
 ⟨none,.callv,[.loc 15,.loc 2,.loc 1,.loc 0],.push,[]⟩,
 ⟨none,.e (fun s=>Xx (fun a x=>Xz (AK Tryz.prog s 26 a x))),[.var 4,.loc 0],.push,[]⟩]
def kB:Ao:=⟨3,6,(.seq (.ops Uk) (.seq (.ops Ul) (.seq (.ops Um) .ret))),[((.var 4),some 26)]⟩
def Un:List AA:=[
 ⟨none,.mk (fun l=>match l with | [v]=>Be 24 v | _=>none),[.var 0],(.set 2),[]⟩,
 ⟨none,.mk (fun l=>match l with | []=>Ab Tryz.prog 24 | _=>none),[],(.set 3),[]⟩]
def Uo:List AA:=[
 ⟨none,.r1 (fun s a=>AC Tryz.prog s 24 a),[.var 2],.push,[]⟩,
 ⟨none,.call 107,[(.const (.bool false)),(.var 1)],.push,[⟨none,.r1 (fun s a=>AC Tryz.prog s 24 a),[.var 2],(.loc 1)⟩]⟩,
 ⟨none,.mk (fun l=>(Ad Tryz.prog 134 2 (zipIdx [0,1] l)).bind fun r=>some (r,.slice 2)),[.loc 1,.loc 0],.push,[]⟩,
 ⟨none,.call 71,[.loc 0],.push,[]⟩,
 ⟨none,.e (fun s=>Xx (fun a x=>Xz (AK Tryz.prog s 24 a x))),[.var 3,.loc 0],.push,[]⟩]
def kC:Ao:=⟨2,4,(.seq (.ops Un) (.seq (.ops Uo) .ret)),[((.var 3),some 24)]⟩
def eU:List AA:=[
 ⟨none,.mk (fun l=>match l with | []=>Ab Tryz.prog 26 | _=>none),[],(.set 1),[]⟩]
def eV:List AA:=[
 ⟨none,.r1 (fun s a=>AC Tryz.prog s 26 a),[.var 1],.push,[]⟩,
 ⟨none,.call 69,[.loc 0],.push,[]⟩,
 ⟨none,.e (fun s=>Xx (fun a x=>Xz (AK Tryz.prog s 26 a x))),[.var 1,.loc 0],.push,[]⟩]
def eW:List AA:=[
 ⟨none,.p1 some,[.var 0],(.set 3),[]⟩,
 ⟨none,.r (fun s l=>match l with | [x]=>BZ Tryz.prog s 28 x | _=>none),[.var 3],(.set 4),[]⟩,
 ⟨none,.p1 some,[(.const (.int .i64 (0)))],(.set 5),[]⟩]
def Wu:List AA:=[
 ⟨none,.p2 (AT Tryz.prog .lss 3),[.var 5,.var 4],(.set 6),[]⟩]
def eX:List AA:=[
 ⟨none,.p2 (AM Tryz.prog 28),[.var 3,.var 5],.push,[]⟩,
 ⟨none,.r1 (fun s a=>AC Tryz.prog s 26 a),[.loc 0],.push,[]⟩,
 ⟨none,.mk (fun l=>match l with | []=>Ab Tryz.prog 26 | _=>none),[],(.set 2),[]⟩,
 ⟨none,.e (fun s=>Xx (fun a x=>Xz (AK Tryz.prog s 26 a x))),[.var 2,.loc 0],.push,[]⟩]
def eY:List AA:=[
 ⟨none,.r1 (fun s a=>AC Tryz.prog s 26 a),[.var 1],.push,[]⟩,
 ⟨none,.r1 (fun s a=>AC Tryz.prog s 26 a),[.var 2],.push,[]⟩,
 ⟨none,.call 64,[(.loc 1),(.loc 0),(.const (.func 112 [] []))],.push,[]⟩,
 ⟨none,.e (fun s=>Xx (fun a x=>Xz (AK Tryz.prog s 26 a x))),[.var 1,.loc 0],.push,[]⟩]
def eZ:List AA:=[
 ⟨none,.p2 (AT Tryz.prog .add 3),[(.var 5),(.const (.int .i64 (1)))],.push,[]⟩,
 ⟨none,.p1 some,[.loc 0],(.set 5),[]⟩]
def Lu:Af:=(.seq (.ops Wu) (.seq (.cond (.var 6)
 .skip
 (.exit 0)) (.seq (.block 1 (.seq (.ops eX) (.ops eY))) (.ops eZ))))
def ef:List AA:=[
 ⟨none,.r1 (fun s a=>AC Tryz.prog s 26 a),[.var 1],.push,[]⟩,
 ⟨none,.e (fun s=>Xx (fun a x=>Xz (AK Tryz.prog s 26 a x))),[.var 1,.loc 0],.push,[]⟩]
def nO:Ao:=⟨1,7,(.seq (.ops eU) (.seq (.ops eV) (.seq (.seq (.ops eW) (.block 0 (.loop Lu))) (.seq (.ops ef) .ret)))),[((.var 1),some 26)]⟩
def Up:List AA:=[
 ⟨none,.mk (fun l=>match l with | [v]=>Be 24 v | _=>none),[.var 0],(.set 3),[]⟩,
 ⟨none,.mk (fun l=>match l with | [v]=>Be 24 v | _=>none),[.var 1],(.set 4),[]⟩,
 ⟨none,.mk (fun l=>match l with | []=>Ab Tryz.prog 26 | _=>none),[],(.set 5),[]⟩]
def Uq:List AA:=[
 ⟨none,.r1 (fun s a=>AC Tryz.prog s 24 a),[.var 3],.push,[]⟩,
 ⟨none,.r1 (fun s a=>AC Tryz.prog s 24 a),[.var 4],.push,[]⟩,
 ⟨none,.mk (fun l=>(Ad Tryz.prog 134 2 (zipIdx [0,1] l)).bind fun r=>some (r,.slice 2)),[.loc 1,.loc 0],.push,[]⟩,
 ⟨none,.call 113,[.loc 0],.push,[]⟩,
 ⟨none,.call 70,[.loc 0,.var 2],.push,[]⟩,
 ⟨none,.e (fun s=>Xx (fun a x=>Xz (AK Tryz.prog s 26 a x))),[.var 5,.loc 0],.push,[]⟩]
def kD:Ao:=⟨3,6,(.seq (.ops Up) (.seq (.ops Uq) .ret)),[((.var 5),some 26)]⟩
def cL:List AA:=[
 ⟨none,.mk (fun l=>match l with | [v]=>Be 26 v | _=>none),[.var 0],(.set 2),[]⟩,
 ⟨none,.mk (fun l=>match l with | [v]=>Be 26 v | _=>none),[.var 1],(.set 3),[]⟩,
 ⟨none,.mk (fun l=>match l with | []=>Ab Tryz.prog 26 | _=>none),[],(.set 4),[]⟩]
def cM:List AA:=[
 ⟨none,.r1 (fun s a=>AC Tryz.prog s 26 a),[.var 2],.push,[]⟩,
 ⟨none,.r1 (fun s a=>AC Tryz.prog s 26 a),[.var 3],.push,[]⟩,
 ⟨none,.mk (fun l=>(Ad Tryz.prog 28 2 (zipIdx [0,1] l)).bind fun r=>some (r,.slice 2)),[.loc 1,.loc 0],.push,[]⟩,
 ⟨none,.call 67,[.loc 0],.push,[]⟩,
 ⟨none,.e (fun s=>Xx (fun a x=>Xz (AK Tryz.prog s 26 a x))),[.var 4,.loc 0],.push,[]⟩]
def mh:Ao:=⟨2,5,(.seq (.ops cL) (.seq (.ops cM) .ret)),[((.var 4),some 26)]⟩
def cN:List AA:=[
 ⟨none,.mk (fun l=>match l with | [v]=>Be 26 v | _=>none),[.var 0],(.set 2),[]⟩,
 ⟨none,.mk (fun l=>match l with | [v]=>Be 26 v | _=>none),[.var 1],(.set 3),[]⟩,
 ⟨none,.mk (fun l=>match l with | []=>Ab Tryz.prog 26 | _=>none),[],(.set 4),[]⟩]
def cO:List AA:=[
 ⟨none,.r1 (fun s a=>AC Tryz.prog s 26 a),[.var 2],.push,[]⟩,
 ⟨none,.r1 (fun s a=>AC Tryz.prog s 26 a),[.var 3],.push,[]⟩,
 ⟨none,.call 68,[.loc 0],.push,[⟨none,.r1 (fun s a=>AC Tryz.prog s 26 a),[.var 2],(.loc 2)⟩]⟩,
 ⟨none,.mk (fun l=>(Ad Tryz.prog 28 2 (zipIdx [0,1] l)).bind fun r=>some (r,.slice 2)),[.loc 2,.loc 0],.push,[]⟩,
 ⟨none,.call 67,[.loc 0],.push,[]⟩,
 ⟨none,.e (fun s=>Xx (fun a x=>Xz (AK Tryz.prog s 26 a x))),[.var 4,.loc 0],.push,[]⟩]
def ml:Ao:=⟨2,5,(.seq (.ops cN) (.seq (.ops cO) .ret)),[((.var 4),some 26)]⟩
def cP:List AA:=[
 ⟨none,.mk (fun l=>match l with | [v]=>Be 26 v | _=>none),[.var 0],(.set 2),[]⟩,
 ⟨none,.mk (fun l=>match l with | [v]=>Be 26 v | _=>none),[.var 1],(.set 3),[]⟩,
 ⟨none,.mk (fun l=>match l with | []=>Ab Tryz.prog 26 | _=>none),[],(.set 4),[]⟩]
def cQ:List AA:=[
 ⟨none,.r1 (fun s a=>AC Tryz.prog s 26 a),[.var 2],.push,[]⟩,
 ⟨none,.r1 (fun s a=>AC Tryz.prog s 26 a),[.var 3],.push,[]⟩,
 ⟨none,.call 69,[.loc 1],.push,[⟨none,.r1 (fun s a=>AC Tryz.prog s 26 a),[.var 3],(.loc 1)⟩]⟩,
 ⟨none,.call 69,[.loc 1],.push,[]⟩,
 ⟨none,.e (fun s=>Xx (fun a x=>Xz (AK Tryz.prog s 26 a x))),[.var 2,.loc 1],.push,[]⟩,
 ⟨none,.e (fun s=>Xx (fun a x=>Xz (AK Tryz.prog s 26 a x))),[.var 3,.loc 1],.push,[]⟩]
def cR:List AA:=[
 ⟨none,.p1 (fun x=>AH Tryz.prog 26 x 0),[.var 2],.push,[]⟩,
 ⟨none,.r1 (fun s a=>AC Tryz.prog s 24 a),[.loc 0],.push,[]⟩,
 ⟨none,.p1 (fun x=>AH Tryz.prog 26 x 0),[.var 3],.push,[]⟩,
 ⟨none,.r1 (fun s a=>AC Tryz.prog s 24 a),[.loc 0],.push,[]⟩,
 ⟨none,.mk (fun l=>(Ad Tryz.prog 134 2 (zipIdx [0,1] l)).bind fun r=>some (r,.slice 2)),[.loc 2,.loc 0],.push,[]⟩,
 ⟨none,.p1 (fun x=>AH Tryz.prog 26 x 1),[.var 2],.push,[]⟩,
 ⟨none,.r1 (fun s a=>AC Tryz.prog s 22 a),[.loc 0],.push,[]⟩,
 ⟨none,.p1 (fun x=>AH Tryz.prog 26 x 1),[.var 3],.push,[]⟩,
 ⟨none,.r1 (fun s a=>AC Tryz.prog s 22 a),[.loc 0],.push,[]⟩,
 ⟨none,.call 71,[.loc 4],.push,[⟨none,.r1 (fun s a=>AC Tryz.prog s 22 a),[.loc 2],(.loc 1)⟩,⟨none,.r1 (fun s a=>AC Tryz.prog s 22 a),[.loc 4],(.loc 3)⟩]⟩,
 ⟨none,.call 51,[.loc 3,.loc 1],.push,[]⟩,
 ⟨none,.call 70,[.loc 1,.loc 0],.push,[]⟩,
 ⟨none,.e (fun s=>Xx (fun a x=>Xz (AK Tryz.prog s 26 a x))),[.var 4,.loc 0],.push,[]⟩]
def mn:Ao:=⟨2,5,(.seq (.ops cP) (.seq (.ops cQ) (.seq (.ops cR) .ret))),[((.var 4),some 26)]⟩
def eg:List AA:=[
 ⟨none,.mk (fun l=>match l with | [v]=>Be 26 v | _=>none),[.var 0],(.set 1),[]⟩,
 ⟨none,.mk (fun l=>match l with | []=>Ab Tryz.prog 26 | _=>none),[],(.set 2),[]⟩]
def eh:List AA:=[
 ⟨none,.r1 (fun s a=>AC Tryz.prog s 26 a),[.var 1],.push,[]⟩,
 ⟨none,.call 108,[(.loc 0),(.const (.func 114 [] []))],.push,[]⟩,
 ⟨none,.e (fun s=>Xx (fun a x=>Xz (AK Tryz.prog s 26 a x))),[.var 2,.loc 0],.push,[]⟩]
def nP:Ao:=⟨1,3,(.seq (.ops eg) (.seq (.ops eh) .ret)),[((.var 2),some 26)]⟩
def Ut:List AA:=[
 ⟨none,.mk (fun l=>match l with | [v]=>Be 26 v | _=>none),[.var 0],(.set 1),[]⟩,
 ⟨none,.mk (fun l=>match l with | []=>Ab Tryz.prog 26 | _=>none),[],(.set 2),[]⟩]
def Uu:List AA:=[
 ⟨none,.p1 (fun x=>AH Tryz.prog 26 x 0),[.var 1],.push,[]⟩,
 ⟨none,.r1 (fun s a=>AC Tryz.prog s 24 a),[.loc 0],.push,[]⟩,
 ⟨none,.p1 (fun x=>AH Tryz.prog 26 x 1),[.var 1],.push,[]⟩,
 ⟨none,.r1 (fun s a=>AC Tryz.prog s 22 a),[.loc 0],.push,[]⟩,
 ⟨none,.call 106,[.loc 2],.push,[⟨none,.r1 (fun s a=>AC Tryz.prog s 22 a),[.loc 2],(.loc 1)⟩]⟩,
 ⟨none,.p (fun l=>Cz Tryz.prog 26 (zipIdx [0,1] l)),[.loc 0,.loc 1],.push,[]⟩,
 ⟨none,.e (fun s=>Xx (fun a x=>Xz (AK Tryz.prog s 26 a x))),[.var 2,.loc 0],.push,[]⟩]
def kF:Ao:=⟨1,3,(.seq (.ops Ut) (.seq (.ops Uu) .ret)),[((.var 2),some 26)]⟩
def cH:List AA:=[
 ⟨none,.mk (fun l=>match l with | [v]=>Be 26 v | _=>none),[.var 0],(.set 2),[]⟩,
 ⟨none,.mk (fun l=>match l with | [v]=>Be 26 v | _=>none),[.var 1],(.set 3),[]⟩,
 ⟨none,.p1 some,[(.const (.int .i64 (0)))],(.set 4),[]⟩]
def cI:List AA:=[
 ⟨none,.mk (fun l=>match l with | []=>Ab Tryz.prog 3 | _=>none),[],(.set 5),[]⟩,
 ⟨none,.e (fun s=>Xx (fun a x=>Xz (AK Tryz.prog s 3 a x))),[(.var 5),(.const (.int .i64 (0)))],.push,[]⟩]
def cJ:List AA:=[
 ⟨none,.r1 (fun s a=>AC Tryz.prog s 26 a),[.var 2],.push,[]⟩,
 ⟨none,.r1 (fun s a=>AC Tryz.prog s 26 a),[.var 3],.push,[]⟩,
 ⟨none,.p (fun l=>some (.func 65 (l.take 0) (l.drop 0))),[.var 5,.var 2],.push,[]⟩,
 ⟨none,.call 64,[.loc 2,.loc 1,.loc 0],.push,[]⟩]
def cK:List AA:=[
 ⟨none,.r1 (fun s a=>AC Tryz.prog s 3 a),[.var 5],.push,[]⟩,
 ⟨none,.p1 some,[.loc 0],(.set 4),[]⟩]
def mf:Ao:=⟨2,6,(.seq (.ops cH) (.seq (.ops cI) (.seq (.ops cJ) (.seq (.ops cK) .ret)))),[((.var 4),none)]⟩
def eO:List AA:=[
 ⟨none,.mk (fun l=>match l with | [v]=>Be 24 v | _=>none),[.var 0],(.set 5),[]⟩,
 ⟨none,.mk (fun l=>match l with | [v]=>Be 24 v | _=>none),[.var 1],(.set 6),[]⟩,
 ⟨none,.mk (fun l=>match l with | []=>Ab Tryz.prog 26 | _=>none),[],(.set 7),[]⟩]
def eP:List AA:=[
 ⟨none,.r1 (fun s a=>AC Tryz.prog s 24 a),[.var 5],.push,[]⟩,
 ⟨none,.r1 (fun s a=>AC Tryz.prog s 24 a),[.var 6],.push,[]⟩,
 ⟨none,.call 66,[.loc 1,.loc 0],.push,[]⟩,
 ⟨none,.e (fun s=>Xx (fun a x=>Xz (AK Tryz.prog s 3 a x))),[.var 3,.loc 0],.push,[]⟩]
def eQ:List AA:=[
 ⟨none,.r1 (fun s a=>AC Tryz.prog s 26 a),[.var 4],.push,[]⟩,
 ⟨none,.e (fun s=>Xx (fun a x=>Xz (AK Tryz.prog s 26 a x))),[.var 7,.loc 0],.push,[]⟩]
def nM:Ao:=⟨5,8,(.seq (.ops eO) (.seq (.ops eP) (.seq (.ops eQ) .ret))),[((.var 7),some 26)]⟩
def eE:List AA:=[
 ⟨none,.mk (fun l=>match l with | [v]=>Be 26 v | _=>none),[.var 0],(.set 1),[]⟩,
 ⟨none,.p1 some,[(.const (.int .i64 (0)))],(.set 2),[]⟩]
def eF:List AA:=[
 ⟨none,.p1 (fun x=>AH Tryz.prog 26 x 0),[.var 1],.push,[]⟩,
 ⟨none,.r1 (fun s a=>AC Tryz.prog s 24 a),[.loc 0],.push,[]⟩,
 ⟨none,.call 100,[.loc 0],.push,[]⟩,
 ⟨none,.p1 some,[.loc 0],(.set 2),[]⟩]
def nI:Ao:=⟨1,3,(.seq (.ops eE) (.seq (.ops eF) .ret)),[((.var 2),none)]⟩
def dy:List AA:=[
 ⟨none,.mk (fun l=>match l with | []=>Ab Tryz.prog 26 | _=>none),[],(.set 1),[]⟩]
def eC:List AA:=[
 ⟨none,.call 60,[.var 0],.push,[]⟩,
 ⟨none,.call 99,[.loc 0],.push,[]⟩,
 ⟨none,.e (fun s=>Xx (fun a x=>Xz (AK Tryz.prog s 26 a x))),[.var 1,.loc 0],.push,[]⟩]
def nH:Ao:=⟨1,2,(.seq (.ops dy) (.seq (.ops eC) .ret)),[((.var 1),some 26)]⟩
def gV:List AA:=[
 ⟨none,.mk (fun l=>match l with | [v]=>Be 24 v | _=>none),[.var 0],(.set 1),[]⟩,
 ⟨none,.mk (fun l=>match l with | []=>Ab Tryz.prog 26 | _=>none),[],(.set 2),[]⟩]
def gW:List AA:=[
 ⟨none,.r1 (fun s a=>AC Tryz.prog s 24 a),[.var 1],.push,[]⟩,
 ⟨none,.call 115,[],.push,[⟨none,.r1 (fun s a=>AC Tryz.prog s 24 a),[.var 1],(.loc 1)⟩]⟩,
 ⟨none,.call 70,[.loc 1,.loc 0],.push,[]⟩,
 ⟨none,.e (fun s=>Xx (fun a x=>Xz (AK Tryz.prog s 26 a x))),[.var 2,.loc 0],.push,[]⟩]
def ni:Ao:=⟨1,3,(.seq (.ops gV) (.seq (.ops gW) .ret)),[((.var 2),some 26)]⟩
theorem Zt:AN Tryz.prog 115=some kG:=by kernel_rfl
theorem jD:AN Tryz.prog 70=some nR:=by kernel_rfl
theorem jC:AN Tryz.prog 69=some nQ:=by kernel_rfl
theorem Zm:AN Tryz.prog 108=some j9:=by kernel_rfl
theorem i6:AN Tryz.prog 64=some nL:=by kernel_rfl
theorem Zn:AN Tryz.prog 109=some kA:=by kernel_rfl
theorem Zo:AN Tryz.prog 110=some kB:=by kernel_rfl
theorem Zp:AN Tryz.prog 111=some kC:=by kernel_rfl
theorem jA:AN Tryz.prog 67=some nO:=by kernel_rfl
theorem Zq:AN Tryz.prog 112=some kD:=by kernel_rfl
theorem iZ:AN Tryz.prog 27=some mh:=by kernel_rfl
theorem ia:AN Tryz.prog 28=some ml:=by kernel_rfl
theorem ib:AN Tryz.prog 29=some mn:=by kernel_rfl
theorem jB:AN Tryz.prog 68=some nP:=by kernel_rfl
theorem Zs:AN Tryz.prog 114=some kF:=by kernel_rfl
theorem iY:AN Tryz.prog 26=some mf:=by kernel_rfl
theorem i7:AN Tryz.prog 65=some nM:=by kernel_rfl
theorem iw:AN Tryz.prog 53=some nI:=by kernel_rfl
theorem iu:AN Tryz.prog 52=some nH:=by kernel_rfl
theorem jP:AN Tryz.prog 99=some ni:=by kernel_rfl
end
end Go.Proofs.YtjnkfbpadpmakaaGreatDoor.Am
set_option linter.unusedVariables false
set_option linter.unusedSimpArgs false
set_option maxRecDepth 16000
namespace Go.Proofs.YtjnkfbpadpmakaaGreatDoor.Am
open Go Go.Proofs
noncomputable section
theorem SB(x:Bool)(a b:Option (Nat×Nat))(n m:Nat)(c d:Option Nat):Cz Tryz.prog 26 (zipIdx [0,1] [.agg [.bool x,.slice a n c],.slice b m d])=some (.agg [.bool x,.slice a n c,.slice b m d]):=by kernel_rfl
abbrev ZQ:A8:=R 26 0 false [.bool false,.slice none 0 (some 0),.slice none 0 (some 0)]
abbrev BQ(x:Bool)(m d:AV):A8:=R 26 0 false [.bool x,m,d]
theorem BU:Ab Tryz.prog 26=some (ZQ,.ptr):=by kernel_rfl
theorem BK(x:Bool)(a b:Option (Nat×Nat))(n m:Nat)(c d:Option Nat):Et (.agg [.bool x,.slice a n c,.slice b m d]) (.agg [.bool x,.slice a n c,.slice b m d])=true:=by
 cases a<;>cases b<;>cases c<;>cases d<;>cases x<;>simp[Et,Et.eqAs,Eg]
def QI(s:AD)(v:AV)(q:Rat)(k:Nat):Prop:=∃neg m d lm ld,v=.agg [.bool neg,m,d]∧Cv s m lm∧Cv s d ld∧Bl lm∧Bl ld∧lm.length≤k∧ld.length≤k∧NU neg (AG lm) (AG ld)=q
def QR(b:Nat)(s:AD)(v:AV)(q:Rat):Prop:=∃m d,v=.agg [.bool (decide (q.num<0)),m,d]∧NR b s m (AR q.num.natAbs)∧NR b s d (AR q.den)∧(∀j,Cd m=some j→Cd d≠some j)∧(q.num=0→m=.slice none 0 (some 0))
def QH(q:Rat)(k:Nat):Prop:=q.num.natAbs<LB ^ k∧q.den<LB ^ k
theorem QI.old{s s':AD}{v:AV}{q:Rat}{k:Nat}(h:QI s v q k)(o:Ac s.next s s'):QI s' v q k:=by
 obtain⟨neg,m,d,lm,ld,h1,h2,h3,h4⟩:=h
 exact⟨neg,m,d,lm,ld,h1,h2.old o,h3.old o,h4⟩
theorem QI.le{s:AD}{v:AV}{q:Rat}{k k':Nat}(h:QI s v q k)(hk:k≤k'):QI s v q k':=by
 obtain⟨neg,m,d,lm,ld,h1,h2,h3,h4,h5,h6,h7,h8⟩:=h
 exact⟨neg,m,d,lm,ld,h1,h2,h3,h4,h5,by omega,by omega,h8⟩
theorem QI.shape{s:AD}{v:AV}{q:Rat}{k:Nat}(h:QI s v q k):∃x a n c b m d,v=.agg [.bool x,.slice a n c,.slice b m d]:=by
 obtain⟨neg,m,d,lm,ld,rfl,h2,h3,_⟩:=h
 obtain⟨a,n,c,rfl⟩:=h2.shape
 obtain⟨b,m,d,rfl⟩:=h3.shape
 exact⟨_,_,_,_,_,_,_,rfl⟩
theorem NR.lt{b:Nat}{s:AD}{v:AV}{l:List Nat}(h:NR b s v l){j:Nat}(hj:Cd v=some j):b≤j∧j<s.next:=by
 obtain⟨O,q1,_,q,_⟩:=h
 refine⟨q j hj,?_⟩
 rcases q1 with⟨a,rfl,_,_,_,h5⟩ | ⟨i,p,rfl,h6,_⟩
 ·cases a with
  | none=>cases hj
  | some io=>obtain⟨i,o⟩:=io;injection hj with hj;subst hj;exact(h5 i o rfl).1
 ·injection hj with hj
  subst hj
  rcases h6.ex with⟨e',_⟩ | ⟨_,_,k2,_⟩
  ·cases e'
  ·exact k2
theorem QR.keep{b:Nat}{s s':AD}{v:AV}{q:Rat}(h:QR b s v q)(hn:s.next≤s'.next)(hf:∀j,b≤j→j<s.next→s'.heap.get j=s.heap.get j):QR b s' v q:=by
 obtain⟨m,d,h1,h2,h3,h4⟩:=h
 exact⟨m,d,h1,h2.keep hn fun j hj=>hf j (h2.lt hj).1 (h2.lt hj).2,h3.keep hn fun j hj=>hf j (h3.lt hj).1 (h3.lt hj).2,h4⟩
theorem QR.old{b:Nat}{s s':AD}{v:AV}{q:Rat}(h:QR b s v q)(o:Ac s.next s s'):QR b s' v q:=h.keep o.1 fun j _ hj=>o.2 j hj
theorem QR.set{b i:Nat}{s:AD}{v:AV}{q:Rat}(h:QR b s v q)(hi:i<b)(o:A8):QR b (setObj s i o) v q:=h.keep (nl _) fun j hj _=>Ww _ (by omega)
theorem QR.mono{b b':Nat}{s:AD}{v:AV}{q:Rat}(h:QR b s v q)(k:b'≤b):QR b' s v q:=by
 obtain⟨m,d,h1,h2,h3,h4⟩:=h
 exact⟨m,d,h1,h2.mono k,h3.mono k,h4⟩
theorem QR.qi{b k:Nat}{s:AD}{v:AV}{q:Rat}(h:QR b s v q)(hq:QH q k):QI s v q k:=by
 obtain⟨m,d,h1,h2,h3,_⟩:=h
 exact⟨_,m,d,_,_,h1,h2.n32,h3.n32,Ae _,Ae _,Bc hq.1,Bc hq.2,by rw[Ah,Ah];exact bD q⟩
theorem QR.shape{b:Nat}{s:AD}{v:AV}{q:Rat}(h:QR b s v q):∃x a n c b m d,v=.agg [.bool x,.slice a n c,.slice b m d]:=by
 obtain⟨m,d,rfl,h2,h3,_⟩:=h
 obtain⟨a,n,c,rfl⟩:=h2.n32.shape
 obtain⟨b,m,d,rfl⟩:=h3.n32.shape
 exact⟨_,_,_,_,_,_,_,rfl⟩
theorem QI.qh{s:AD}{v:AV}{q:Rat}{k:Nat}(h:QI s v q k)(hk:1≤k):QH q k:=by
  obtain⟨neg,m,d,lm,ld,rfl,h2,h3,h4,h5,h6,h7,rfl⟩:=h
  constructor
  · rw[LH,Int.natAbs_ediv_of_dvd (Int.ofNat_dvd_left.2 (by rw[CV];exact Nat.gcd_dvd_left _ _)),CV]
    exact om (ph _ _) (Gk h4 h6)
  · rw [PL]
    refine om (ph _ _) ?_
    unfold EE
    split
    · exact Ep (j:=1) (by decide) hk
    · exact Gk h5 h7
theorem X3(neg:Bool)(m g:Nat)(h:g ∣ m):B8 neg (m / g)=B8 neg m / (g:Int):=by
 unfold B8
 cases neg with
 | false=>rw[if_neg (by decide),if_neg (by decide)];exact Int.natCast_ediv m g
 | true=>rw[if_pos rfl,if_pos rfl,Int.neg_ediv_of_dvd (Int.natCast_dvd_natCast.2 h),Int.natCast_ediv]
theorem NN(z:Int){D:Nat}(hD:D≠0):(mkRat z D).num=B8 (decide (z<0)) (z.natAbs / z.natAbs.gcd D):=by
 rw[← NV hD _ _ (GG z),LH,X3 _ _ _ (Nat.gcd_dvd_left _ _)]
 unfold EE
 rw[if_neg hD]
theorem Q6(z:Int){D:Nat}(hD:D≠0):(mkRat z D).den=D / z.natAbs.gcd D:=by
 rw[← NV hD _ _ (GG z),PL]
 unfold EE
 rw[if_neg hD]
section
variable{E:CP}{s:AD}
theorem YP(hE:GoodN E){K:AV→AD→Prop}(hK:∀s' v,Ac s.next s s'→NR s.next s' v (AR 1)→K v s'):WF E 115 [] K s:=by
 refine hE.go Zt (by decide) rfl ?_
 simp only[kG,Uv,Uw,Qa,Qb,Qc,Qd,Qe,Qf,Qg,Qh,Qi,Qj,Qk,Ql,Qm,Qn,true_and,and_true,Qo,Qp,Qq,Qr,Qs,Qt,Qu,Qv,Qw,Qx,Qy,Qz,Ra,Rb,Rc,Rd,Re,Rf,Rg,Rh,Ri,Rj,Rk,Rm,Rn,Ro,Rp,Rq,Rs,Ya,Yb,Yc,Rt,Ru,Za,Yd,Ye,Rx,Ry,Rz,Wa,Wb,Wc,Wd]
 refine Sj hE (n:=1) (by decide) fun s' v' o r=>?_
 simp only[Qa,Qb,Qc,Qd,Qe,Qf,Qg,Qh,Qi,Qj,Qk,Ql,Qm,Qn,true_and,and_true,Qo,Qp,Qq,Qr,Qs,Qt,Qu,Qv,Qw,Qx,Qy,Qz,Ra,Rb,Rc,Rd,Re,Rf,Rg,Rh,Ri,Rj,Rk,Rm,Rn,Ro,Rp,Rq,Rs,Ya,Yb,Yc,Rt,Ru,Za,Yd,Ye,Rx,Ry,Rz,Wa,Wb,Wc,Wd]
 exact hK s' v' o r
theorem BS{s2:AD}{p:Nat}{cs0:List AV}(h0:cs0.length=3){x:Bool}{a b:Option (Nat×Nat)}{n m:Nat}{c d:Option Nat}(hg:s2.heap.get p=some (R 26 0 false cs0)):
  AK Tryz.prog s2 26 (.ptr (some (p,0))) (.agg [.bool x,.slice a n c,.slice b m d])=some (setObj s2 p (BQ x (.slice a n c) (.slice b m d)))∧AC Tryz.prog (setObj s2 p (BQ x (.slice a n c) (.slice b m d))) 26 (.ptr (some (p,0)))=some (.agg [.bool x,.slice a n c,.slice b m d]):=
 ⟨Aj Ar hg h0 rfl rfl (by simp),AE A9 Ar (Wv _ _ _) rfl⟩
theorem Er(hE:GoodN E){vn vd:AV}{z:Int}{kn:Nat}{ld:List Nat}(hn:BI s vn z kn)(hd:Cv s vd ld)(hkn:kn≤1000000000)(hld:ld.length≤1000000000)(hsd:Bl ld)(h0:AG ld≠0){K:AV→AD→Prop}
  (hK:∀s' v,Ac s.next s s'→QR s.next s' v (mkRat z (AG ld))→K v s'):WF E 70 [vn,vd] K s:=by
 have zabs:=hn.abs
 obtain⟨neg,mg,l,rfl,hm,hs,hl,hz⟩:=hn
 obtain⟨a,n,c,rfl⟩:=hm.shape
 obtain⟨ad,nd,cd,rfl⟩:=hd.shape
 refine hE.go jD (by decide) rfl ?_
 obtain⟨n1,o1,g1,g2⟩:=Eu s (BX neg (.slice a n c)) ZQ
 simp only[nR,fE,fF,Wz,Xg,BU,Xb,Aq,Dj,Dk,Qa,Qb,Qc,Qd,Qe,Qf,Qg,Qh,Qi,Qj,Qk,Ql,Qm,Qn,true_and,and_true,Qo,Qp,Qq,Qr,Qs,Qt,Qu,Qv,Qw,Qx,Qy,Qz,Ra,Rb,Rc,Rd,Re,Rf,Rg,Rh,Ri,Rj,Rk,Rm,Rn,Ro,Rp,Rq,Rs,Ya,Yb,Yc,Rt,Ru,Za,Yd,Ye,Rx,Ry,Rz,Wa,Wb,Wc,Wd]
 generalize newObj (newObj s (BX neg (.slice a n c))) ZQ=s1 at *
 have l1:=AX (P:=Tryz.prog) (t:=4) (o:=0+0) Pi g1 rfl
 have l2:=AX (P:=Tryz.prog) (t:=22) (o:=0+1) DO g1 rfl
 simp only[l1,l2,Qa,Qb,Qc,Qd,Qe,Qf,Qg,Qh,Qi,Qj,Qk,Ql,Qm,Qn,true_and,and_true,Qo,Qp,Qq,Qr,Qs,Qt,Qu,Qv,Qw,Qx,Qy,Qz,Ra,Rb,Rc,Rd,Re,Rf,Rg,Rh,Ri,Rj,Rk,Rm,Rn,Ro,Rp,Rq,Rs,Ya,Yb,Yc,Rt,Ru,Za,Yd,Ye,Rx,Ry,Rz,Wa,Wb,Wc,Wd]
 refine HH hE (hm.old o1) (by omega) hs fun s2 v2 o2 r2=>?_
 rw[hz]at r2
 have h2:=o2.1
 have f1:=(o2.2 s.next (by omega)).trans g1
 have f2:=(o2.2 (s.next+1) (by omega)).trans g2
 obtain⟨m2,rfl,r2⟩:=r2
 obtain⟨a2,n2,c2,rfl⟩:=r2.n32.shape
 have st:=Aj (P:=Tryz.prog) (t:=24) (cs:=[.bool (decide (z<0)),.slice a2 n2 c2]) CC f1 rfl rfl rfl (by simp)
 generalize hs3:setObj s2 s.next (R 24 0 false [.bool (decide (z<0)),.slice a2 n2 c2])=s3 at st
 have n3:s3.next=s2.next:=by rw[← hs3];rfl
 have o3:Ac s.next s s3:=by rw[← hs3];exact(o1.trans (o2.mono o1.1)).set (nl _) _
 have k1:s3.heap.get s.next=some (BX (decide (z<0)) (.slice a2 n2 c2)):=by rw[← hs3,Wv]
 have k2:s3.heap.get (s.next+1)=some ZQ:=by rw[← hs3,Ww _ (by omega)];exact f2
 have w2:NR s1.next s3 (.slice a2 n2 c2) (AR z.natAbs):=by rw[← hs3];exact r2.set (by omega) _
 have l3:=AX (P:=Tryz.prog) (t:=22) (o:=0+1) DO k1 rfl
 have zl:=Bc zabs
 simp only[fG,st,l3,Dk,Xx,Xz,Qa,Qb,Qc,Qd,Qe,Qf,Qg,Qh,Qi,Qj,Qk,Ql,Qm,Qn,true_and,and_true,Qo,Qp,Qq,Qr,Qs,Qt,Qu,Qv,Qw,Qx,Qy,Qz,Ra,Rb,Rc,Rd,Re,Rf,Rg,Rh,Ri,Rj,Rk,Rm,Rn,Ro,Rp,Rq,Rs,Ya,Yb,Yc,Rt,Ru,Za,Yd,Ye,Rx,Ry,Rz,Wa,Wb,Wc,Wd]
 refine jV hE w2.n32 (hd.old o3) (by omega) (by omega) (Ae _) hsd fun s4 v4 o4 r4=>?_
 rw[Ah]at r4
 have h4:=o4.1
 have e1:=(o4.2 s.next (by omega)).trans k1
 have l4:=AX (P:=Tryz.prog) (t:=22) (o:=0+1) DO e1 rfl
 have hgp:z.natAbs.gcd (AG ld)≠0:=fun e=>h0 (Nat.eq_zero_of_gcd_eq_zero_right e)
 have hgl:(AR (z.natAbs.gcd (AG ld))).length≤1000000000:=ny (Fe (Nat.gcd_le_right _ (by omega))) (ny (Bc (Gk hsd (nl _))) hld)
 simp only[fH,l4,Dk,Qa,Qb,Qc,Qd,Qe,Qf,Qg,Qh,Qi,Qj,Qk,Ql,Qm,Qn,true_and,and_true,Qo,Qp,Qq,Qr,Qs,Qt,Qu,Qv,Qw,Qx,Qy,Qz,Ra,Rb,Rc,Rd,Re,Rf,Rg,Rh,Ri,Rj,Rk,Rm,Rn,Ro,Rp,Rq,Rs,Ya,Yb,Yc,Rt,Ru,Za,Yd,Ye,Rx,Ry,Rz,Wa,Wb,Wc,Wd]
 refine Sc hE (w2.n32.old o4) r4.n32 (by omega) hgl (Ae _) (Ae _) (fun e=>absurd (by rw[Ah]at e;exact e) hgp) fun _ s5 vq vr o5 rq _ rz=>?_
 rw[Ah,Ah]at rq rz
 have h5:=o5.1
 simp only[fI,Za,Qa,Qb,Qc,Qd,Qe,Qf,Qg,Qh,Qi,Qj,Qk,Ql,Qm,Qn,true_and,and_true,Qo,Qp,Qq,Qr,Qs,Qt,Qu,Qv,Qw,Qx,Qy,Qz,Ra,Rb,Rc,Rd,Re,Rf,Rg,Rh,Ri,Rj,Rk,Rm,Rn,Ro,Rp,Rq,Rs,Ya,Yb,Yc,Rt,Ru,Za,Yd,Ye,Rx,Ry,Rz,Wa,Wb,Wc,Wd]
 have o35:Ac s.next s s5:=o3.trans ((o4.trans (o5.mono h4)).mono o3.1)
 refine XZ hE (hd.old o35) (r4.n32.old o5) (by omega) hgl hsd (Ae _) (fun e=>absurd (by rw[Ah]at e;exact e) hgp) fun _ s6 vq2 vr2 o6 rq2 _=>?_
 rw[Ah]at rq2
 have h6:=o6.1
 have e2:=(o6.2 s.next (by omega)).trans ((o5.2 s.next (by omega)).trans e1)
 have l5:=AX (P:=Tryz.prog) (t:=4) (o:=0+0) Pi e2 rfl
 have hul:(AR (z.natAbs / z.natAbs.gcd (AG ld))).length≤1000000000:=ny (Fe (ph _ _)) (by omega)
 simp only[fJ,Za,l5,Dj,Qa,Qb,Qc,Qd,Qe,Qf,Qg,Qh,Qi,Qj,Qk,Ql,Qm,Qn,true_and,and_true,Qo,Qp,Qq,Qr,Qs,Qt,Qu,Qv,Qw,Qx,Qy,Qz,Ra,Rb,Rc,Rd,Re,Rf,Rg,Rh,Ri,Rj,Rk,Rm,Rn,Ro,Rp,Rq,Rs,Ya,Yb,Yc,Rt,Ru,Za,Yd,Ye,Rx,Ry,Rz,Wa,Wb,Wc,Wd]
 refine SD hE (rq.n32.old o6) hul (Ae _) fun s7 v7 o7 r7 r0=>?_
 rw[Ah,← NN z h0]at r7
 have h7:=o7.1
 have e3:s7.heap.get (s.next+1)=some ZQ:=by rw[o7.2 _ (by omega),o6.2 _ (by omega),o5.2 _ (by omega),o4.2 _ (by omega)];exact k2
 obtain⟨m7,rfl,r7⟩:=r7
 have hz0:(mkRat z (AG ld)).num=0→m7=.slice none 0 (some 0):=fun h=>by
  rw[NN z h0]at h
  have h1:z.natAbs / z.natAbs.gcd (AG ld)=0:=by have:=congrArg Int.natAbs h;rw[CV]at this;exact this
  have h2:z.natAbs<z.natAbs.gcd (AG ld):=(Nat.div_eq_zero_iff_lt (by omega)).1 h1
  have h3:=r0 (rz h2)
  injection h3 with h3
  injection h3 with _ h3
  injection h3 with h3 _
 have rd:=rq2.old o7
 rw[← Q6 z h0]at rd
 have hdj:∀j,Cd m7=some j→Cd vq2≠some j:=fun j hj h=>by
  have q1:=(r7.lt hj).1
  have q2:=(rq2.lt h).2
  omega
 obtain⟨a7,n7,c7,rfl⟩:=r7.n32.shape
 obtain⟨b7,m7,d7,rfl⟩:=rd.n32.shape
 obtain⟨st,ld'⟩:=BS (cs0:=[.bool false,.slice none 0 (some 0),.slice none 0 (some 0)]) rfl (x:=decide ((mkRat z (AG ld)).num<0)) (a:=a7) (n:=n7) (c:=c7) (b:=b7) (m:=m7) (d:=d7) e3
 simp only[SB,st,ld',AL,Xx,Xz,Qa,Qb,Qc,Qd,Qe,Qf,Qg,Qh,Qi,Qj,Qk,Ql,Qm,Qn,true_and,and_true,Qo,Qp,Qq,Qr,Qs,Qt,Qu,Qv,Qw,Qx,Qy,Qz,Ra,Rb,Rc,Rd,Re,Rf,Rg,Rh,Ri,Rj,Rk,Rm,Rn,Ro,Rp,Rq,Rs,Ya,Yb,Yc,Rt,Ru,Za,Yd,Ye,Rx,Ry,Rz,Wa,Wb,Wc,Wd]
 refine hK _ _ ((o35.trans ((o6.trans (o7.mono h6)).mono o35.1)).set (by omega) _) ?_
 refine QR.mono (b:=s5.next) (QR.set ⟨_,_,rfl,r7.mono h6,rd,hdj,hz0⟩ (by omega) _) (by omega)
end
end
end Go.Proofs.YtjnkfbpadpmakaaGreatDoor.Am
