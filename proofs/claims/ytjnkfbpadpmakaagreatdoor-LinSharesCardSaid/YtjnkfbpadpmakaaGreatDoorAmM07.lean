/- Package nat: sum, Add, walked; conditions: none. -/
import Derived.Test.YtjnkfbpadpmakaaGreatDoorAmM06
import Derived.Test.YtjnkfbpadpmakaaGreatDoorAmM01
set_option linter.unusedVariables false
set_option linter.unusedSimpArgs false
set_option maxRecDepth 16000
namespace Go.Proofs.YtjnkfbpadpmakaaGreatDoor.Am
open Go Go.Proofs
noncomputable section
theorem NR.keep{b:Nat}{s s':AE}{v:AV}{l:List Nat}(h:NR b s v l)(hn:s.next≤s'.next)(hf:∀j,CH v=some j→s'.heap.get j=s.heap.get j):NR b s' v l:=by
 obtain⟨O,h1,h2,h3,h4⟩:=h
 exact⟨O,h1.frame hn hf,h2,h3,fun hne=>by obtain⟨i,q1,q2,q3⟩:=h4 hne;exact⟨i,q1,rA q2 hn,q3.keep (hf i (by rw[q1];rfl))⟩⟩
theorem EA:∀ (M:List Nat)(s:AE),M.Nodup→(∀m∈M,s.heap.get m=some .mark)→∃s',Db s M=some s'∧s'.next=s.next∧∀j,j ∉ M→s'.heap.get j=s.heap.get j
 | [],s,_,_=>⟨s,rfl,rfl,fun _ _=>rfl⟩
 | m::M,s,hn,hm=>by
  obtain⟨n1,n2⟩:=List.nodup_cons.1 hn
  obtain⟨s',h1,h2,h3⟩:=EA M (CQ s m) n2 (fun x hx=>by
   rw[GY,if_neg (fun(e:x=m)=>n1 (e▸hx))];exact hm x (rP _ hx))
  refine⟨s',?_,h2,fun j hj=>?_⟩
  ·show(match s.heap.get m with | some .mark=>Db (CQ s m) M | _=>none)=_
   rw[hm m rH]
   exact h1
  ·rw[h3 j (fun h=>hj (rP _ h)),GY,if_neg (fun(e:j=m)=>hj (e▸rH))]
structure MH(s:AE)(ri:Nat)(vs:List AV)(L:List (List Nat)):Prop where
 row:s.heap.get ri=some (R 22 1 false vs)
 len:vs.length=L.length
 rd:∀ (j:Nat) (v:AV) (l:List Nat),vs[j]? = some v→L[j]? = some l→C7 s v l
theorem MH.old{s s':AE}{ri:Nat}{vs:List AV}{L:List (List Nat)}(h:MH s ri vs L)(k:Ae s.next s s')(hi:ri<s.next):MH s' ri vs L:=
 ⟨(k.2 ri hi).trans h.row,h.len,fun j v l h1 h2=>(h.rd j v l h1 h2).old k⟩
def Gs:List (List Nat)→Nat
 | []=>0
 | l::L=>AH l+Gs L
section
variable{E:CR}{s:AE}
theorem Z7       (hE : GoodN E) {sA : AE}  {ri : Nat} {vs : List AV} {L : List (List Nat)} (hri : ri < sA.next) (hLl : L.length ≤ 1000) (hsm : ∀ l ∈ L, Bv  l ∧ l.length ≤ 1000000000) {tot : Nat} {Q : Ax   → Prop} (x0 : AV)
    (hq:∀ (S:AE) (vD:AV) (D M:List Nat) (y2 y3 y4 y5 y6 y9 y10 y11 y12 y13:AV),Ae sA.next sA S→C7 S vD D→Bv D→D.length≤2000000000→AH D=tot→M.Nodup→(∀m∈M,sA.next≤m∧m<S.next∧S.heap.get m=some .mark) →
      Q ⟨.exit 0,[x0,vD,y2,y3,y4,y5,y6,.slice (some (ri,0)) L.length (some L.length),iv (L.length:Int),y9,y10,y11,y12,y13],M,S⟩):
    ∀ (r:List (List Nat)) (i:Nat) (S:AE) (vD:AV) (D M:List Nat) (x2 x3 x4 x5 x6 x10 x11 x12 x13:AV),L.drop i=r→i≤L.length→Ae sA.next sA S→MH S ri vs L→C7 S vD D→Bv D→D.length≤1000000000+i→AH D+Gs r=tot→M.Nodup→(∀m∈M,sA.next≤m∧m<S.next∧S.heap.get m=some .mark) →
      WC E none (.loop ID) Q [x0,vD,x2,x3,x4,x5,x6,.slice (some (ri,0)) L.length (some L.length),iv (L.length:Int),iv (i:Int),x10,x11,x12,x13] M S:=by
  intro r
  induction r with
  | nil =>
    intro i S vD D M x2 x3 x4 x5 x6 x10 x11 x12 x13 hd hi ho hR hN hs hl hv hM hm
    have e:i=L.length:=by
      have:=congrArg List.length hd
      simp at this
      omega
    subst e
    have dd:decide ((L.length:Int)<(L.length:Int))=false:=decide_eq_false (by omega)
    refine WC.loop' ?_
    simp only[ID,RA,Ry,dd,Qa,Qb,Qc,Qd,Qe,Qf,Qg,Qh,Qi,Qj,Qk,Ql,Qm,Qn,true_and,and_true,Qo,Qp,Qq,Qr,Qs,Qt,Qu,Qv,Qw,Qx,Qy,Qz,Ra,Rb,Rc,Rd,Re,Rf,Rg,Rh,Ri,Rj,Rk,Rm,Rn,Ro,Rp,Rq,Rt,Ya,Yb,Yc,Ru,Rw,Zb,Yd,Ye,Ry,Rz,Wa,Wb,Wc,Wd,We]
    exact hq S vD D M _ _ _ _ _ _ _ _ _ _ ho hN hs (by omega) (by simpa[Gs]using hv) hM hm
  | cons A r ih =>
    intro i S vD D M x2 x3 x4 x5 x6 x10 x11 x12 x13 hd hi ho hR hN hs hl hv hM hm
    have hlt:i<L.length:=by
      rcases qz i L.length with h' | h'
      · exact h'
      · rw[rl h']at hd;cases hd
    have hA:L[i]? = some A:=by
      have:=congrArg (fun l=>l[0]?) hd
      simpa using this
    have hd':L.drop (i+1)=r:=by
      have:=congrArg (List.drop 1) hd
      simpa[sR]using this
    obtain⟨hAs,hAl⟩:=hsm A (rQ hA)
    have hva:vs[i]? = some (vs[i]'(by rw[hR.len];exact hlt)):=qy _
    generalize vs[i]'(by rw[hR.len];exact hlt)=va at hva
    have hNa:=hR.rd i va A hva hA
    have dd:decide ((i:Int)<(L.length:Int))=true:=decide_eq_true (by omega)
    have e1:=Ah (cap:=some L.length) (i:=ri) (o:=0) Tryz.underlying196 OK hlt
    rw[rE,rG]at e1
    have e2:AA Tryz.prog S 22 (.ptr (some (ri,i)))=some va:=AI CG hR.row hva
    generalize hn0:S.next=n0 at *
    have za:Ac Tryz.prog 22=some (R 22 0 false [.slice none 0 (some 0)],.ptr):=by kernel_rfl
    have zc:Ac Tryz.prog 69=some (R 69 0 false [.int .u64 0],.ptr):=by kernel_rfl
    generalize hS1:newObj S (R 22 0 false [.slice none 0 (some 0)])=S1
    have n1:S1.next=n0+1:=by rw[← hS1,← hn0];rfl
    have o1:∀j,j<n0→S1.heap.get j=S.heap.get j:=fun j hj=>by rw[← hS1,AP,if_neg (by omega)]
    have g1:S1.heap.get n0=some (R 22 0 false [.slice none 0 (some 0)]):=by rw[← hS1,AP,if_pos hn0.symm]
    generalize hS2:newObj S1 (R 69 0 false [.int .u64 0])=S2
    have n2:S2.next=n0+2:=by rw[← hS2];show S1.next+1=_;omega
    have g2:S2.heap.get (n0+1)=some (R 69 0 false [.int .u64 0]):=by rw[← hS2,AP,if_pos n1.symm]
    have o2:∀j,j<n0+1→S2.heap.get j=S1.heap.get j:=fun j hj=>by rw[← hS2,AP,if_neg (by omega)]
    have st:=Bo (P:=Tryz.prog) (t:=69) (o:=0) (v:=.int .u64 0) aC g2 (by simp) rfl
    simp only[sX]at st
    generalize hS3:setObj S2 (n0+1) (R 69 0 false [.int .u64 0])=S3 at st
    have n3:S3.next=n0+2:=by rw[← hS3];exact n2
    have g3:S3.heap.get (n0+1)=some (R 69 0 false [Aj 0]):=by rw[← hS3,Ww];rfl
    have o3:∀j,j<n0+1→S3.heap.get j=S1.heap.get j:=fun j hj=>by rw[← hS3,Wx _ (by omega),o2 j hj]
    have o03:Ae n0 S S3:=⟨by omega,fun j hj=>by rw[o3 j (by omega),o1 j hj]⟩
    obtain⟨aD,cD,eD,hcapD,hcD⟩:=hN
    obtain⟨aA,cA,eA,hcapA,hcA⟩:=hNa
    refine WC.loop' ?_
    generalize hW:WC E none (Ad.loop ID) Q=WW
    simp only[ID,RA,Wt,Wu,Wv,Wy,Ry,dd,e1,e2,za,zc,Xc,hn0,hS1,n1,hS2,st,Xy,Za,Qa,Qb,Qc,Qd,Qe,Qf,Qg,Qh,Qi,Qj,Qk,Ql,Qm,Qn,true_and,and_true,Qo,Qp,Qq,Qr,Qs,Qt,Qu,Qv,Qw,Qx,Qy,Qz,Ra,Rb,Rc,Rd,Re,Rf,Rg,Rh,Ri,Rj,Rk,Rm,Rn,Ro,Rp,Rq,Rt,Ya,Yb,Yc,Ru,Rw,Zb,Yd,Ye,Ry,Rz,Wa,Wb,Wc,Wd,We]
    refine Ps hE (by rw[eD];rfl) (by rw[eA];rfl) fun S4 n4 f4 b1 b2 b3=>?_
    rw[n3]at n4 f4 b1 b2 b3 ⊢
    subst eD;subst eA
    simp only[Qa,Qb,Qc,Qd,Qe,Qf,Qg,Qh,Qi,Qj,Qk,Ql,Qm,Qn,true_and,and_true,Qo,Qp,Qq,Qr,Qs,Qt,Qu,Qv,Qw,Qx,Qy,Qz,Ra,Rb,Rc,Rd,Re,Rf,Rg,Rh,Ri,Rj,Rk,Rm,Rn,Ro,Rp,Rq,Rt,Ya,Yb,Yc,Ru,Rw,Zb,Yd,Ye,Ry,Rz,Wa,Wb,Wc,Wd,We]
    refine WC.range rfl ?_
    rw[show S4.next=n0+5 by omega]
    show WF E 188 [.yield (n0+6),.ptr (some (n0+2,0)),.ptr (some (n0+2+1,0)),.ptr (some (n0+2+2,0))] _ (newObj (newObj S4 .mark) (.loop (LD _ _ _ _ _ _ _ _ _ n0 _ _)))
    generalize hlo:LD _ _ _ _ _ _ _ _ _ n0 _ _=lo
    have hm1:(newObj S4 .mark).next=n0+6:=by show S4.next+1=_;omega
    generalize hs0:newObj (newObj S4 .mark) (.loop lo)=s0
    have n0':s0.next=n0+7:=by rw[← hs0];show S4.next+1+1=_;omega
    have f0:∀j,j<n0+5→s0.heap.get j=S4.heap.get j:=fun j hj=>by rw[← hs0,AP,if_neg (by omega),AP,if_neg (by omega)]
    have hmk0:s0.heap.get (n0+5)=some .mark:=by rw[← hs0,AP,if_neg (by omega),AP,if_pos (by omega)]
    have hlp0:A8 s0 (n0+6)=some lo:=by
      unfold A8
      rw[← hs0,AP,if_pos hm1.symm]
    have o0:Ae n0 S s0:=⟨by omega,fun j hj=>by rw[f0 j (by omega),f4 j (by omega),o3 j (by omega),o1 j hj]⟩
    have hPl:=LY D A
    have hPv:=KR (CA D A) 0
    rw[Tu,Tw]at hPv
    have hPs:=Fh (CA D A) 0
    have hPn:=H7 (CA D A) 0
    refine Mn hE (s0:=s0) (n0:=n0) (p:=n0+2) (l:=n0+6) (la:=D) (lb:=A) (ca:=cD) (cb:=cA) (a:=aD) (b:=aA) (by omega) (by omega) hs hAs ((hcD.old o0 (rV hn0)).mono (rV hn0)) ((hcA.old o0 (rV hn0)).mono (rV hn0)) ((f0 _ (by omega)).trans b1) ((f0 _ (by omega)).trans b2) ((f0 _ (by omega)).trans b3)
      (kA n0 s0 lo (CA D A) (EH (CA D A) 0)) (fun k s h=>h.pk) (fun k s K hk hI hK=>by
        subst hlo
        exact Uy hE (by rw[hPl];omega) (LW hk) (G1 hs k) (G1 hAs k) hI hK)
      ⟨PK.refl _ _ _,by omega,hlp0,hmk0,_,[],[],0,?_,?_,CO.nil s0 1,fun j hj=>(by cases hj),fun j hj=>(by cases hj),rfl,by omega,rfl⟩ (fun v s' hI=>?_)
    · rw[f0 n0 (by omega),f4 n0 (by omega),o3 n0 (by omega)];exact g1
    · rw[f0 (n0+1) (by omega),f4 (n0+1) (by omega)];exact g3
    obtain⟨pk,hlt',hlp,hmk,vo,d,O,c,k1,k2,hD,hO,hsl,hdl,hc,hT⟩:=hI
    rw[rl (by rw[hPl];omega)]at hT
    simp only[EH,sj]at hT
    rw[← hT]at hPv hPs hPn
    simp only at hPv hPs hPn
    refine⟨lo,hlp,by rw[← hlo];rfl,?_⟩
    have hpd:lo.pending=none:=by rw[← hlo];rfl
    rw[hpd]
    generalize hs6:setObj s' (n0+5+1) _=s6
    have n6:s6.next=s'.next:=by rw[← hs6];rfl
    have f6:∀j,j≠n0+6→s6.heap.get j=s'.heap.get j:=fun j hj=>by rw[← hs6,Wx _ (by omega)]
    have hD6:CO 76 s6 vo d.length 1 (us d) O:=hD.frame (rV n6.symm) (fun j hj=>f6 j (by have:=hsl j hj;omega))
    have ld1:AA Tryz.prog s6 22 (.ptr (some (n0,0)))=some vo:=AI CG ((f6 n0 (by omega)).trans k1) rfl
    have ld2:AA Tryz.prog s6 69 (.ptr (some (n0+1,0)))=some (Aj c):=AI VA ((f6 (n0+1) (by omega)).trans k2) rfl
    have ec:c % 4294967296=c:=by omega
    obtain⟨v',s7,O',happ,hD7,hn7,f7,hO7,hsl7⟩:=Ic hD6 c (by rw[hdl];omega)
    have happ':Aw Tryz.prog (newObj s6 (R 76 1 false [.int .u32 c])) [22,22] [vo,.slice (some (s6.next,0)) 1 (some 1)]=some (v',s7):=happ
    have e17:=BU Tryz.prog 3 (i:Int) 1 ⟨by omega,by omega⟩
    have e17':((i:Int)+1)=((i+1:Nat):Int):=by omega
    simp only[H5,S8,S9,ld1,ld2,CC,ec,Fz,Xe,happ',e17,e17',Qa,Qb,Qc,Qd,Qe,Qf,Qg,Qh,Qi,Qj,Qk,Ql,Qm,Qn,true_and,and_true,Qo,Qp,Qq,Qr,Qs,Qt,Qu,Qv,Qw,Qx,Qy,Qz,Ra,Rb,Rc,Rd,Re,Rf,Rg,Rh,Ri,Rj,Rk,Rm,Rn,Ro,Rp,Rq,Rt,Ya,Yb,Yc,Ru,Rw,Zb,Yd,Ye,Ry,Rz,Wa,Wb,Wc,Wd,We]
    rw[← hW]
    have hlow:∀j,j<n0+6→j≠n0→j≠n0+1→(j<n0∨j=n0+5)→s7.heap.get j=s'.heap.get j:=fun j h1 h2 h3 h4=>by
      rw[f7 j (by omega) (fun h=>by have:=hO j h;omega),f6 j (by omega)]
    have oS:Ae n0 S s7:=⟨by omega,fun j hj=>by rw[hlow j (by omega) (by omega) (by omega) (.inl hj),pk.low j hj,o0.2 j hj]⟩
    have ho1:=ho.1
    have oS':Ae S.next S s7:=by rw[hn0];exact oS
    refine ih (i+1) s7 v' (d++[c]) ((n0+5)::M) _ _ _ _ _ _ _ _ _ hd' hlt (ho.trans (oS.mono (by omega))) (hR.old oS' (by omega)) (CO.n32 hD7) ?_ ?_ ?_ ?_ ?_
    · exact hPs.append (fun x hx=>by rw[List.mem_singleton.1 hx];exact rX hc (by decide))
    · rw[rL,hdl]
      show _+1≤_
      omega
    · rw[Bc]
      have e3:AH [c]=c:=by simp[AH]
      have hlen:d.length=(CA D A).length:=by rw[hdl,hPl]
      rw[e3,hlen,hPv,← hv]
      show _=AH D+(AH A+Gs r)
      omega
    · exact List.nodup_cons.2 ⟨fun h=>by have:=(hm _ h).2.1;omega,hM⟩
    · intro m hmm
      rcases tN.1 hmm with rfl | h
      · exact⟨by omega,by omega,(hlow _ (by omega) (by omega) (by omega) (.inr rfl)).trans hmk⟩
      · obtain⟨q1,q2,q3⟩:=hm m h
        exact⟨q1,by omega,(oS.2 m q2).trans q3⟩
end
section
variable{E:CR}{s:AE}
theorem ml(hE:GoodN E){ri:Nat}{vs:List AV}{L:List (List Nat)}(hri:ri<s.next)(hR:MH s ri vs L)(hLl:L.length≤1000)(hsm:∀l∈L,Bv l∧l.length≤1000000000){K:AV→AE→Prop}
  (hK:∀s' v,Ae s.next s s'→NR s.next s' v (AQ (Gs L))→K v s'):WF E 173 [.slice (some (ri,0)) L.length (some L.length)] K s:=by
 refine hE.go bW (by decide) rfl ?_
 simp only[nf,Wq,Ws,AN Tryz.underlying196,Qa,Qb,Qc,Qd,Qe,Qf,Qg,Qh,Qi,Qj,Qk,Ql,Qm,Qn,true_and,and_true,Qo,Qp,Qq,Qr,Qs,Qt,Qu,Qv,Qw,Qx,Qy,Qz,Ra,Rb,Rc,Rd,Re,Rf,Rg,Rh,Ri,Rj,Rk,Rm,Rn,Ro,Rp,Rq,Rt,Ya,Yb,Yc,Ru,Rw,Zb,Yd,Ye,Ry,Rz,Wa,Wb,Wc,Wd,We]
 refine Z7 hE hri hLl hsm _ (tot:=Gs L) (fun S vD D M y2 y3 y4 y5 y6 y9 y10 y11 y12 y13 ho hN hs hl hv hM hm=>?_) L 0 s _ [] [] _ _ _ _ _ _ _ _ _ rfl (rB _) (Ae.refl _ _) hR (NR.n32 (NR.nil 0 s)) (fun x hx=>by cases hx) (rB _) (by simp[AH]) List.nodup_nil (fun m hm=>by cases hm)
 simp only[TA,if_true,Qa,Qb,Qc,Qd,Qe,Qf,Qg,Qh,Qi,Qj,Qk,Ql,Qm,Qn,true_and,and_true,Qo,Qp,Qq,Qr,Qs,Qt,Qu,Qv,Qw,Qx,Qy,Qz,Ra,Rb,Rc,Rd,Re,Rf,Rg,Rh,Ri,Rj,Rk,Rm,Rn,Ro,Rp,Rq,Rt,Ya,Yb,Yc,Ru,Rw,Zb,Yd,Ye,Ry,Rz,Wa,Wb,Wc,Wd,We]
 refine Cc hE hN (by omega) fun s2 v2 o2 r2=>?_
 rw[Br hs,hv]at r2
 obtain⟨s3,u1,u2,u3⟩:=EA M s2 hM (fun m h=>by rw[o2.2 m (hm m h).2.1];exact(hm m h).2.2)
 simp only[u1,Qa,Qb,Qc,Qd,Qe,Qf,Qg,Qh,Qi,Qj,Qk,Ql,Qm,Qn,true_and,and_true,Qo,Qp,Qq,Qr,Qs,Qt,Qu,Qv,Qw,Qx,Qy,Qz,Ra,Rb,Rc,Rd,Re,Rf,Rg,Rh,Ri,Rj,Rk,Rm,Rn,Ro,Rp,Rq,Rt,Ya,Yb,Yc,Ru,Rw,Zb,Yd,Ye,Ry,Rz,Wa,Wb,Wc,Wd,We]
 have h1:=ho.1
 have h2:=o2.1
 refine hK s3 v2 ⟨by omega,fun j hj=>?_⟩ ((r2.keep (by omega) (fun j hj=>u3 j (fun h=>?_))).mono h1)
 ·rw[u3 j (fun h=>by have:=(hm j h).1;omega),o2.2 j (by omega),ho.2 j hj]
 ·obtain⟨O,_,_,q,_⟩:=r2
  have:=q j hj
  have:=(hm j h).2.1
  omega
theorem Zs(a b:Option (Nat×Nat))(ca cb:Option Nat)(n m:Nat):Af Tryz.prog 196 2 (zipIdx [0,1] [.slice a n ca,.slice b m cb])=some (R 22 1 false [.slice a n ca,.slice b m cb]):=by kernel_rfl
theorem kB(hE:GoodN E){va vb:AV}{la lb:List Nat}(ha:C7 s va la)(hb:C7 s vb lb)(hla:la.length≤1000000000)(hlb:lb.length≤1000000000)(hsa:Bv la)(hsb:Bv lb){K:AV→AE→Prop}
    (hK:∀s' v,Ae s.next s s'→NR s.next s' v (AQ (AH la+AH lb))→K v s'):WF E 153 [va,vb] K s:=by
  refine hE.go bU (by decide) rfl ?_
  have hrow:Af Tryz.prog 196 2 (zipIdx [0,1] [va,vb])=some (R 22 1 false [va,vb]):=by
    obtain⟨a,ca,rfl,_⟩:=ha
    obtain⟨b,cb,rfl,_⟩:=hb
    exact Zs _ _ _ _ _ _
  have ho:=Ae.new s (R 22 1 false [va,vb])
  simp only[nZ,WE,WG,hrow,Xe,Qa,Qb,Qc,Qd,Qe,Qf,Qg,Qh,Qi,Qj,Qk,Ql,Qm,Qn,true_and,and_true,Qo,Qp,Qq,Qr,Qs,Qt,Qu,Qv,Qw,Qx,Qy,Qz,Ra,Rb,Rc,Rd,Re,Rf,Rg,Rh,Ri,Rj,Rk,Rm,Rn,Ro,Rp,Rq,Rt,Ya,Yb,Yc,Ru,Rw,Zb,Yd,Ye,Ry,Rz,Wa,Wb,Wc,Wd,We]
  have hR:MH (newObj s (R 22 1 false [va,vb])) s.next [va,vb] [la,lb]:=by
    refine⟨by rw[AP,if_pos rfl],rfl,fun j v l h1 h2=>?_⟩
    rcases j with _ | _ | j
    · cases h1;cases h2;exact ha.old ho
    · cases h1;cases h2;exact hb.old ho
    · cases h1
  refine ml hE (L:=[la,lb]) (sB _) hR (by simp) (fun l hl=>?_) fun s' v o' r'=>?_
  · rcases tN.1            hl with rfl | hl
    · exact⟨hsa,hla⟩
    · rw[List.mem_singleton.1 hl];exact⟨hsb,hlb⟩
  · have e:Gs [la,lb]=AH la+AH lb:=by simp[Gs]
    rw[e]at r'
    simp only[Qa,Qb,Qc,Qd,Qe,Qf,Qg,Qh,Qi,Qj,Qk,Ql,Qm,Qn,true_and,and_true,Qo,Qp,Qq,Qr,Qs,Qt,Qu,Qv,Qw,Qx,Qy,Qz,Ra,Rb,Rc,Rd,Re,Rf,Rg,Rh,Ri,Rj,Rk,Rm,Rn,Ro,Rp,Rq,Rt,Ya,Yb,Yc,Ru,Rw,Zb,Yd,Ye,Ry,Rz,Wa,Wb,Wc,Wd,We]
    exact hK s' v (ho.trans (o'.mono ho.1)) (r'.mono ho.1)
end
def LC (v0 v1 v2 v3 x6 x7 x8 x9:AV) (n0:Nat) (x11 x12:AV):C0:=
 Fv 154 [v0,v1,v2,v3,.ptr (some (n0,0)),.ptr (some (n0+1,0)),x6,x7,x8,x9,.func 188 [] [.ptr (some (n0+2,0)),.ptr (some (n0+2+1,0)),.ptr (some (n0+2+2,0))],x11,x12] #[18,19] NY NZ (n0+5)
structure j9(n0:Nat)(s0:AE)(lo:C0)(P:List (Nat×Nat))(T:List Nat×Nat)(k:Nat)(s:AE):Prop where
 pk:PK n0 (n0+2) s0 s
 lt:n0+7≤s.next
 lp:A8 s (n0+6)=some lo
 mrk:s.heap.get (n0+5)=some .mark
 ex:∃vo d O c,s.heap.get n0=some (R 22 0 false [vo])∧s.heap.get (n0+1)=some (R 69 0 false [Aj c])∧CO 76 s vo d.length 1 (us d) O∧(∀j∈O,n0+7≤j)∧(∀j,CH vo=some j→n0+7≤j)∧d.length=k∧c≤1∧(d++(FI (P.drop k) c).1,(FI (P.drop k) c).2)=T
section
variable{E:CR}{s:AE}
theorem Ux(hE:GoodN E){n0:Nat}{s0:AE}{v0 v1 v2 v3 x6 x7 x8 x9 x11 x12:AV}{P:List (Nat×Nat)}(hPl:P.length≤10000000000){T:List Nat×Nat}{k x y:Nat}(hP:P[k]? = some (x,y))(hx:x<4294967296)(hy:y<4294967296)
    (hI:j9 n0 s0 (LC v0 v1 v2 v3 x6 x7 x8 x9 n0 x11 x12) P T k s) {K:AV→AE→Prop} (hK:∀s',j9 n0 s0 (LC v0 v1 v2 v3 x6 x7 x8 x9 n0 x11 x12) P T (k+1) s'→K (.bool true) s'):
    WR E (n0+6) [Aj x,Aj y] K s:=by
  obtain⟨pk,hlt,hlp,hmk,vo,d,O,c,g1,g2,hD,hO,hsl,hdl,hc,hT⟩:=hI
  have hz:Ct (Cz E.P 154) (LC v0 v1 v2 v3 x6 x7 x8 x9 n0 x11 x12).var [18,19] [Aj x,Aj y]=some [v0,v1,v2,v3,.ptr (some (n0,0)),.ptr (some (n0+1,0)),x6,x7,x8,x9,.func 188 [] [.ptr (some (n0+2,0)),.ptr (some (n0+2+1,0)),.ptr (some (n0+2+2,0))],Aj x,Aj y]:=by
    rw[hE.P,Q9];rfl
  refine WR.round hlp hz (by rw[hE.P];exact WH) (by rw[hE.P];exact WJ) ?_
  refine DV ?_
  simp only[Oi,WQ,WS,Qa,Qb,Qc,Qd,Qe,Qf,Qg,Qh,Qi,Qj,Qk,Ql,Qm,Qn,true_and,and_true,Qo,Qp,Qq,Qr,Qs,Qt,Qu,Qv,Qw,Qx,Qy,Qz,Ra,Rb,Rc,Rd,Re,Rf,Rg,Rh,Ri,Rj,Rk,Rm,Rn,Ro,Rp,Rq,Rt,Ya,Yb,Yc,Ru,Rw,Zb,Yd,Ye,Ry,Rz,Wa,Wb,Wc,Wd,We]
  refine⟨_,hlp,rfl,DV ?_⟩
  generalize hs1:setObj s (n0+6) _=s1
  have n1:s1.next=s.next:=by rw[← hs1];rfl
  have f1:∀j,j≠n0+6→s1.heap.get j=s.heap.get j:=fun j hj=>by rw[← hs1,Wx _ hj]
  have l1:A8 s1 (n0+6)=some { LC v0 v1 v2 v3 x6 x7 x8 x9 n0 x11 x12 with state:=.busy }:=by rw[← hs1,CK]
  have g1':=(f1 n0 (by omega)).trans g1
  have g2':=(f1 (n0+1) (by omega)).trans g2
  have hD1:CO 76 s1 vo d.length 1 (us d) O:=hD.frame (rV n1.symm) (fun j hj=>f1 j (by have:=hsl j hj;omega))
  have hdk:P.drop k=(x,y)::P.drop (k+1):=by
    have hk:k<P.length:=(List.getElem?_eq_some_iff.1 hP).1
    rw[sD hk]
    rw[qy hk]at hP
    rw[Option.some.inj hP]
  have hkP:k<P.length:=(List.getElem?_eq_some_iff.1 hP).1
  rw[hdk]at hT
  simp only[FI]at hT
  have hLB:LB=4294967296:=rfl
  rw[hLB]at hT
  have e1:=M7 Tryz.prog 69 (a:=x) (b:=y) (by omega)
  have e2:=M7 Tryz.prog 69 (a:=(x+18446744073709551616 - y) % 18446744073709551616) (b:=c) (by omega)
  generalize hc1:((x+18446744073709551616 - y) % 18446744073709551616+18446744073709551616 - c) % 18446744073709551616=c1 at e2
  have hc1b:c1<18446744073709551616:=by rw[← hc1];exact rU _ (by decide)
  have e3:=Js Tryz.prog 69 hc1b
  have e11:c1 % 4294967296 % 4294967296=c1 % 4294967296:=tC _ _
  have e12:c1 % 4294967296=(x+4294967296 - y - c) % 4294967296:=by omega
  have e15:AS Tryz.prog .shr 69 (Aj c1) (.int .u64 63)=some (Aj (c1 / 9223372036854775808)):=Ip Tryz.prog 69 (k:=.u64) (n:=63) (by decide)
  have e14:c1 / 9223372036854775808=if x<y+c then 1 else 0:=by split<;>omega
  rw[← e12,← e14]at hT
  have hcq:c1 / 9223372036854775808≤1:=by omega
  generalize hz:c1 % 4294967296=z at hT e3 e11
  generalize hbq:c1 / 9223372036854775808=bq at hT e15 hcq
  have ld2:AA Tryz.prog s1 69 (.ptr (some (n0+1,0)))=some (Aj c):=AI VA g2' rfl
  have ld12:AA Tryz.prog s1 22 (.ptr (some (n0,0)))=some vo:=AI CG g1' rfl
  obtain⟨v',s3,O',happ,hD3,hn3,f3,hO3,hsl3⟩:=Ic hD1 z (by omega)
  have happ':Aw Tryz.prog (newObj s1 (R 76 1 false [.int .u32 z])) [22,22] [vo,.slice (some (s1.next,0)) 1 (some 1)]=some (v',s3):=happ
  have g13:s3.heap.get n0=some (R 22 0 false [vo]):=(f3 n0 (by omega) (fun h=>by have:=hO n0 h;omega)).trans g1'
  have g23:s3.heap.get (n0+1)=some (R 69 0 false [Aj c]):=(f3 (n0+1) (by omega) (fun h=>by have:=hO _ h;omega)).trans g2'
  have hv'c:v'.isCell=true:=by obtain⟨a,cap,rfl,_⟩:=hD3.cells;rfl
  have st3:=Bo (P:=Tryz.prog) (t:=22) (o:=0) (v:=v') OK g13 (by simp) hv'c
  simp only[sX]at st3
  generalize hs4:setObj s3 n0 (R 22 0 false [v'])=s4 at st3
  have n4:s4.next=s3.next:=by rw[← hs4];rfl
  have f4:∀j,j≠n0→s4.heap.get j=s3.heap.get j:=fun j hj=>by rw[← hs4,Wx _ hj]
  have g24:=(f4 (n0+1) (by omega)).trans g23
  have st4:=Bo (P:=Tryz.prog) (t:=69) (o:=0) (v:=Aj bq) aC g24 (by simp) rfl
  simp only[sX]at st4
  generalize hs5:setObj s4 (n0+1) (R 69 0 false [Aj bq])=s5 at st4
  have n5:s5.next=s4.next:=by rw[← hs5];rfl
  have f5:∀j,j≠n0+1→s5.heap.get j=s4.heap.get j:=fun j hj=>by rw[← hs5,Wx _ hj]
  have fall:∀j,j<s.next→j ∉ O→j≠n0→j≠n0+1→s5.heap.get j=s1.heap.get j:=fun j hj h1 h2 h3=>by
    rw[f5 j h3,f4 j h2,f3 j (by omega) h1]
  have l5:A8 s5 (n0+6)=some { LC v0 v1 v2 v3 x6 x7 x8 x9 n0 x11 x12 with state:=.busy }:=by
    rw[Cf (fall (n0+6) (by omega) (fun h=>by have:=hO _ h;omega) (by omega) (by omega))];exact l1
  simp only[Oj,WT,WU,Sx,e1,e2,ld2,ld12,e3,CC,e11,Fz,Xe,happ',st3,e15,st4,Xy,Za,Qa,Qb,Qc,Qd,Qe,Qf,Qg,Qh,Qi,Qj,Qk,Ql,Qm,Qn,true_and,and_true,Qo,Qp,Qq,Qr,Qs,Qt,Qu,Qv,Qw,Qx,Qy,Qz,Ra,Rb,Rc,Rd,Re,Rf,Rg,Rh,Ri,Rj,Rk,Rm,Rn,Ro,Rp,Rq,Rt,Ya,Yb,Yc,Ru,Rw,Zb,Yd,Ye,Ry,Rz,Wa,Wb,Wc,Wd,We]
  refine⟨_,l5,hK _ ?_⟩
  have fl:∀j,j≠n0+6→∀r,(setObj s5 (n0+6) r).heap.get j=s5.heap.get j:=fun j hj r=>Wx _ hj
  have hlow:∀j,j<n0+6→j≠n0→j≠n0+1→∀r,(setObj s5 (n0+6) r).heap.get j=s.heap.get j:=fun j h1 h2 h3 r=>by
    rw[fl j (by omega),fall j (by omega) (fun h=>by have:=hO _ h;omega) h2 h3,f1 j (by omega)]
  refine⟨pk.trans ⟨?_,fun j hj=>hlow j (by omega) (by omega) (by omega) _,hlow _ (by omega) (by omega) (by omega) _,hlow _ (by omega) (by omega) (by omega) _,hlow _ (by omega) (by omega) (by omega) _⟩,?_,?_,?_,v',d++[z],O',bq,?_,?_,?_,fun j hj=>?_,fun j hj=>?_,?_,hcq,?_⟩
  · show s.next≤s5.next;omega
  · show n0+7≤s5.next;omega
  · rw[CK];rfl
  · rw[hlow _ (by omega) (by omega) (by omega)];exact hmk
  · rw[fl n0 (by omega),f5 n0 (by omega),← hs4,Ww]
  · rw[fl (n0+1) (by omega),← hs5,Ww]
  · refine hD3.frame (by show s3.next≤s5.next;omega) (fun j hj=>?_)
    have hj7:n0+7≤j:=by
      rcases hsl3 j hj with h | h
      · exact hsl j h
      · omega
    rw[fl j (by omega),f5 j (by omega),f4 j (by omega)]
  · rcases hO3 j hj with h | h
    · exact hO j h
    · omega
  · rcases hsl3 j hj with h | h
    · exact hsl j h
    · omega
  · rw[rL,hdl];rfl
  · rw[rZ];exact hT
end
theorem Lv:∀ (P:List (Nat×Nat))(c:Nat),(FI P c).1.length=P.length
 | [],_=>rfl
 | p::P,c=>by show(FI P _).1.length+1=P.length+1;rw[Lv P]
theorem H0:∀ (P:List (Nat×Nat))(c:Nat),Bv (FI P c).1
 | [],_=>fun x hx=>by cases hx
 | p::P,c=>fun x hx=>by
  rcases tN.1 (show x∈(p.1+LB - p.2 - c) % LB::(FI P (if p.1<p.2+c then 1 else 0)).1 from hx)with e | e
  ·rw[e];exact rU _ BG
  ·exact H0 P _ x e
theorem Z5{a b:List Nat}(ha:Bv a)(hb:Bv b)(h:AH b≤AH a):AH (FI (CA a b) 0).1=AH a - AH b:=by
 have h1:=QE (CA a b) 0 (Uj ha hb) (rB _)
 have h2:=Cp (H0 (CA a b) 0)
 rw[Tu,Tw,rO]at h1
 rw[Lv]at h2
 generalize AH (FI (CA a b) 0).1=z at *
 generalize (FI (CA a b) 0).2=c at *
 cases c with
 | zero=>rw[sT]at h1;omega
 | succ c =>
  rw[Nat.mul_succ]at h1
  generalize LB ^ (CA a b).length=w at *
  generalize w * c=q at *
  omega
theorem TK(a b:Nat):decide (HG a b<0)=decide (a<b):=by
 unfold HG
 by_cases h:a<b
 ·rw[if_pos h];simp[h]
 ·rw[if_neg h]
  split<;>simp[h]
section
variable{E:CR}{s:AE}
theorem Z6     (hE : GoodN E) {va vb : AV} {la lb : List Nat} (ha : C7  s va la) (hb : C7  s vb lb) (hla : la.length ≤ 1000000000) (hlb : lb.length ≤ 1000000000) (hsa : Bv  la) (hsb : Bv  lb) {K : AV → AE  → Prop}
    (hK0:AH la<AH lb→∀s',Ae s.next s s'→K (.tuple [.slice none 0 (some 0),.bool false]) s')
    (hK1:AH lb≤AH la→∀s' v,Ae s.next s s'→NR s.next s' v (AQ (AH la - AH lb))→K (.tuple [v,.bool true]) s'):WF E 154 [va,vb] K s:=by
  refine hE.go bV (by decide) rfl ?_
  simp only[ne,WK,WL,Qa,Qb,Qc,Qd,Qe,Qf,Qg,Qh,Qi,Qj,Qk,Ql,Qm,Qn,true_and,and_true,Qo,Qp,Qq,Qr,Qs,Qt,Qu,Qv,Qw,Qx,Qy,Qz,Ra,Rb,Rc,Rd,Re,Rf,Rg,Rh,Ri,Rj,Rk,Rm,Rn,Ro,Rp,Rq,Rt,Ya,Yb,Yc,Ru,Rw,Zb,Yd,Ye,Ry,Rz,Wa,Wb,Wc,Wd,We]
  refine YV hE ha hb (by omega) (by omega) hsa hsb fun S oS=>?_
  by_cases hlt:AH la<AH lb
  · have d1:decide (AH la<AH lb)=true:=decide_eq_true hlt
    simp only[WM,Ry,TK,d1,Qa,Qb,Qc,Qd,Qe,Qf,Qg,Qh,Qi,Qj,Qk,Ql,Qm,Qn,true_and,and_true,Qo,Qp,Qq,Qr,Qs,Qt,Qu,Qv,Qw,Qx,Qy,Qz,Ra,Rb,Rc,Rd,Re,Rf,Rg,Rh,Ri,Rj,Rk,Rm,Rn,Ro,Rp,Rq,Rt,Ya,Yb,Yc,Ru,Rw,Zb,Yd,Ye,Ry,Rz,Wa,Wb,Wc,Wd,We]
    exact hK0 hlt S oS
  · have d1 : decide (AH   la < AH   lb) = false := decide_eq_false hlt
    have hNa:=ha.old oS
    have hNb:=hb.old oS
    have hSn:=oS.1
    generalize hn0:S.next=n0 at *
    have za:Ac Tryz.prog 22=some (R 22 0 false [.slice none 0 (some 0)],.ptr):=by kernel_rfl
    have zc:Ac Tryz.prog 69=some (R 69 0 false [.int .u64 0],.ptr):=by kernel_rfl
    generalize hS1:newObj S (R 22 0 false [.slice none 0 (some 0)])=S1
    have n1:S1.next=n0+1:=by rw[← hS1,← hn0];rfl
    have o1:∀j,j<n0→S1.heap.get j=S.heap.get j:=fun j hj=>by rw[← hS1,AP,if_neg (by omega)]
    have g1:S1.heap.get n0=some (R 22 0 false [.slice none 0 (some 0)]):=by rw[← hS1,AP,if_pos hn0.symm]
    generalize hS2:newObj S1 (R 69 0 false [.int .u64 0])=S2
    have n2:S2.next=n0+2:=by rw[← hS2];show S1.next+1=_;omega
    have g2:S2.heap.get (n0+1)=some (R 69 0 false [.int .u64 0]):=by rw[← hS2,AP,if_pos n1.symm]
    have o2:∀j,j<n0+1→S2.heap.get j=S1.heap.get j:=fun j hj=>by rw[← hS2,AP,if_neg (by omega)]
    have st:=Bo (P:=Tryz.prog) (t:=69) (o:=0) (v:=.int .u64 0) aC g2 (by simp) rfl
    simp only[sX]at st
    generalize hS3:setObj S2 (n0+1) (R 69 0 false [.int .u64 0])=S3 at st
    have n3:S3.next=n0+2:=by rw[← hS3];exact n2
    have g3:S3.heap.get (n0+1)=some (R 69 0 false [Aj 0]):=by rw[← hS3,Ww];rfl
    have o3:∀j,j<n0+1→S3.heap.get j=S1.heap.get j:=fun j hj=>by rw[← hS3,Wx _ (by omega),o2 j hj]
    obtain⟨aA,cA,eA,hcapA,hcA⟩:=hNa
    obtain⟨aB,cB,eB,hcapB,hcB⟩:=hNb
    simp only[WN,WO,WP,Ry,TK,d1,za,zc,Xc,hn0,hS1,n1,hS2,st,Xy,Za,Qa,Qb,Qc,Qd,Qe,Qf,Qg,Qh,Qi,Qj,Qk,Ql,Qm,Qn,true_and,and_true,Qo,Qp,Qq,Qr,Qs,Qt,Qu,Qv,Qw,Qx,Qy,Qz,Ra,Rb,Rc,Rd,Re,Rf,Rg,Rh,Ri,Rj,Rk,Rm,Rn,Ro,Rp,Rq,Rt,Ya,Yb,Yc,Ru,Rw,Zb,Yd,Ye,Ry,Rz,Wa,Wb,Wc,Wd,We]
    refine Ps hE (by rw[eA];rfl) (by rw[eB];rfl) fun S4 n4 f4 b1 b2 b3=>?_
    rw[n3]at n4 f4 b1 b2 b3 ⊢
    subst eA;subst eB
    simp only[Qa,Qb,Qc,Qd,Qe,Qf,Qg,Qh,Qi,Qj,Qk,Ql,Qm,Qn,true_and,and_true,Qo,Qp,Qq,Qr,Qs,Qt,Qu,Qv,Qw,Qx,Qy,Qz,Ra,Rb,Rc,Rd,Re,Rf,Rg,Rh,Ri,Rj,Rk,Rm,Rn,Ro,Rp,Rq,Rt,Ya,Yb,Yc,Ru,Rw,Zb,Yd,Ye,Ry,Rz,Wa,Wb,Wc,Wd,We]
    refine WC.range rfl ?_
    rw[show S4.next=n0+5 by omega]
    show WF E 188 [.yield (n0+6),.ptr (some (n0+2,0)),.ptr (some (n0+2+1,0)),.ptr (some (n0+2+2,0))] _ (newObj (newObj S4 .mark) (.loop (LC _ _ _ _ _ _ _ _ n0 _ _)))
    generalize hlo:LC _ _ _ _ _ _ _ _ n0 _ _=lo
    have hm1:(newObj S4 .mark).next=n0+6:=by show S4.next+1=_;omega
    generalize hs0:newObj (newObj S4 .mark) (.loop lo)=s0
    have n0':s0.next=n0+7:=by rw[← hs0];show S4.next+1+1=_;omega
    have f0:∀j,j<n0+5→s0.heap.get j=S4.heap.get j:=fun j hj=>by rw[← hs0,AP,if_neg (by omega),AP,if_neg (by omega)]
    have hmk0:s0.heap.get (n0+5)=some .mark:=by rw[← hs0,AP,if_neg (by omega),AP,if_pos (by omega)]
    have hlp0:A8 s0 (n0+6)=some lo:=by
      unfold A8
      rw[← hs0,AP,if_pos hm1.symm]
    have o0:Ae n0 S s0:=⟨by omega,fun j hj=>by rw[f0 j (by omega),f4 j (by omega),o3 j (by omega),o1 j hj]⟩
    have hPl:=LY la lb
    have hPv:=Z5 hsa hsb (by omega)
    have hPs:=H0 (CA la lb) 0
    have hPn:=Lv (CA la lb) 0
    refine Mn hE (s0:=s0) (n0:=n0) (p:=n0+2) (l:=n0+6) (la:=la) (lb:=lb) (ca:=cA) (cb:=cB) (a:=aA) (b:=aB) (by omega) (by omega) hsa hsb ((hcA.old o0 (rV hn0)).mono (rV hn0)) ((hcB.old o0 (rV hn0)).mono (rV hn0)) ((f0 _ (by omega)).trans b1) ((f0 _ (by omega)).trans b2) ((f0 _ (by omega)).trans b3)
      (j9 n0 s0 lo (CA la lb) (FI (CA la lb) 0)) (fun k s h=>h.pk) (fun k s K hk hI hK=>by
        subst hlo
        exact Ux hE (by rw[hPl];omega) (LW hk) (G1 hsa k) (G1 hsb k) hI hK)
      ⟨PK.refl _ _ _,by omega,hlp0,hmk0,_,[],[],0,?_,?_,CO.nil s0 1,fun j hj=>(by cases hj),fun j hj=>(by cases hj),rfl,by omega,rfl⟩ (fun v s' hI=>?_)
    · rw[f0 n0 (by omega),f4 n0 (by omega),o3 n0 (by omega)];exact g1
    · rw[f0 (n0+1) (by omega),f4 (n0+1) (by omega)];exact g3
    obtain⟨pk,hlt',hlp,hmk,vo,d,O,c,k1,k2,hD,hO,hsl,hdl,hc,hT⟩:=hI
    rw[rl (by rw[hPl];omega)]at hT
    simp only[FI,sj]at hT
    rw[← hT]at hPv hPs hPn
    simp only at hPv hPs hPn
    refine⟨lo,hlp,by rw[← hlo];rfl,?_⟩
    have hpd:lo.pending=none:=by rw[← hlo];rfl
    rw[hpd]
    generalize hs6:setObj s' (n0+5+1) _=s6
    have n6:s6.next=s'.next:=by rw[← hs6];rfl
    have f6:∀j,j≠n0+6→s6.heap.get j=s'.heap.get j:=fun j hj=>by rw[← hs6,Wx _ (by omega)]
    have hD6:CO 76 s6 vo d.length 1 (us d) O:=hD.frame (rV n6.symm) (fun j hj=>f6 j (by have:=hsl j hj;omega))
    have ld1:AA Tryz.prog s6 22 (.ptr (some (n0,0)))=some vo:=AI CG ((f6 n0 (by omega)).trans k1) rfl
    simp only[H5,Sy,ld1,Qa,Qb,Qc,Qd,Qe,Qf,Qg,Qh,Qi,Qj,Qk,Ql,Qm,Qn,true_and,and_true,Qo,Qp,Qq,Qr,Qs,Qt,Qu,Qv,Qw,Qx,Qy,Qz,Ra,Rb,Rc,Rd,Re,Rf,Rg,Rh,Ri,Rj,Rk,Rm,Rn,Ro,Rp,Rq,Rt,Ya,Yb,Yc,Ru,Rw,Zb,Yd,Ye,Ry,Rz,Wa,Wb,Wc,Wd,We]
    have hN:C7 s6 vo d:=CO.n32 hD6
    refine Cc hE hN (by rw[hdl];omega) fun s7 v7 o7 r7=>?_
    rw[Br hPs,hPv]at r7
    have g7:=o7.1
    obtain⟨s8,u1,u2,u3⟩:=EA [n0+5] s7 (by simp) (fun m h=>by
      rw[List.mem_singleton.1 h,o7.2 _ (by omega),f6 _ (by omega)];exact hmk)
    simp only[u1,Qa,Qb,Qc,Qd,Qe,Qf,Qg,Qh,Qi,Qj,Qk,Ql,Qm,Qn,true_and,and_true,Qo,Qp,Qq,Qr,Qs,Qt,Qu,Qv,Qw,Qx,Qy,Qz,Ra,Rb,Rc,Rd,Re,Rf,Rg,Rh,Ri,Rj,Rk,Rm,Rn,Ro,Rp,Rq,Rt,Ya,Yb,Yc,Ru,Rw,Zb,Yd,Ye,Ry,Rz,Wa,Wb,Wc,Wd,We]
    refine hK1 (by omega) s8 v7 ⟨by omega,fun j hj=>?_⟩ ((r7.keep (by omega) (fun j hj=>u3 j (fun h=>?_))).mono (by omega))
    · rw[u3 j (fun h=>by rw[List.mem_singleton.1 h]at hj;omega),o7.2 j (by omega),f6 j (by omega),pk.low j (by omega),o0.2 j (by omega),oS.2 j hj]
    · obtain⟨O,_,_,q,_⟩:=r7
      have:=q j hj
      rw[List.mem_singleton.1 h]at this
      omega
end
end
end Go.Proofs.YtjnkfbpadpmakaaGreatDoor.Am
set_option linter.unusedVariables false
set_option linter.unusedSimpArgs false
set_option maxRecDepth 100000
namespace Go.Proofs.YtjnkfbpadpmakaaGreatDoor.Am
open Go Go.Proofs
noncomputable section
theorem Cl:A7 Tryz.prog 24=some 2:=by kernel_rfl
theorem Dl:Dx Tryz.prog 24=some true:=by kernel_rfl
theorem Do(i o:Nat):AC Tryz.prog 24 (.ptr (some (i,o))) 0=some (.ptr (some (i,o+0))):=by kernel_rfl
theorem Cv(i o:Nat):AC Tryz.prog 24 (.ptr (some (i,o))) 1=some (.ptr (some (i,o+1))):=by kernel_rfl
def Q2:List AB:=[
 ⟨none,.mk (fun l=>match l with | []=>Ac Tryz.prog 24 | _=>none),[],(.set 2),[]⟩]
def Q3:List AB:=[
 ⟨none,.p1 some,[.var 1],.push,[]⟩,
 ⟨none,.call 92,[.loc 0],.push,[]⟩,
 ⟨none,.p1 some,[.loc 0],(.set 1),[]⟩]
def KZ:List AB:=[
 ⟨(some ((.var 0),true)),.p1 some,[.var 1],.push,[]⟩,
 ⟨(some ((.var 0),true)),.r (fun s l=>match l with | [x]=>BN Tryz.prog s 22 x | _=>none),[.loc 0],.push,[]⟩,
 ⟨(some ((.var 0),true)),.p2 (AS Tryz.prog .gtr 3),[(.loc 0),(.const (.int .i64 (0)))],.push,[]⟩,
 ⟨none,.p Ru,[(.var 0),(.loc 0),(.const (.bool false))],.push,[]⟩,
 ⟨none,.p (fun l=>B7 Tryz.prog 24 (zipIdx [0,1] l)),[.loc 0,.var 1],.push,[]⟩,
 ⟨none,.e (fun s=>Xy (fun a x=>Za (AM Tryz.prog s 24 a x))),[.var 2,.loc 0],.push,[]⟩]
def kF:Aq:=⟨2,3,(.seq (.ops Q2) (.seq (.ops Q3) (.seq (.ops KZ) .ret))),[((.var 2),some 24)]⟩
def Vp:List AB:=[
 ⟨none,.mk (fun l=>match l with | [v]=>Bf 24 v | _=>none),[.var 0],(.set 1),[]⟩,
 ⟨none,.mk (fun l=>match l with | []=>Ac Tryz.prog 24 | _=>none),[],(.set 2),[]⟩]
def Vq:List AB:=[
 ⟨none,.p1 (fun x=>AC Tryz.prog 24 x 0),[.var 1],.push,[]⟩,
 ⟨none,.r1 (fun s a=>AA Tryz.prog s 4 a),[.loc 0],.push,[]⟩,
 ⟨none,.p1 (fun x=>AC Tryz.prog 24 x 1),[.var 1],.push,[]⟩,
 ⟨none,.r1 (fun s a=>AA Tryz.prog s 22 a),[.loc 0],.push,[]⟩,
 ⟨none,.call 107,[.loc 2,.loc 0],.push,[]⟩,
 ⟨none,.e (fun s=>Xy (fun a x=>Za (AM Tryz.prog s 24 a x))),[.var 2,.loc 0],.push,[]⟩]
def nW:Aq:=⟨1,3,(.seq (.ops Vp) (.seq (.ops Vq) .ret)),[((.var 2),some 24)]⟩
def V6:List AB:=[
 ⟨none,.mk (fun l=>match l with | [v]=>Bf 24 v | _=>none),[.var 0],(.set 2),[]⟩,
 ⟨none,.mk (fun l=>match l with | [v]=>Bf 24 v | _=>none),[.var 1],(.set 3),[]⟩,
 ⟨none,.mk (fun l=>match l with | []=>Ac Tryz.prog 24 | _=>none),[],(.set 4),[]⟩]
def V7:List AB:=[
 ⟨none,.r1 (fun s a=>AA Tryz.prog s 24 a),[.var 2],.push,[]⟩,
 ⟨none,.r1 (fun s a=>AA Tryz.prog s 24 a),[.var 3],.push,[]⟩,
 ⟨none,.call 132,[.loc 1],.push,[⟨none,.r1 (fun s a=>AA Tryz.prog s 24 a),[.var 3],(.loc 1)⟩]⟩,
 ⟨none,.call 132,[.loc 1],.push,[]⟩,
 ⟨none,.e (fun s=>Xy (fun a x=>Za (AM Tryz.prog s 24 a x))),[.var 2,.loc 1],.push,[]⟩,
 ⟨none,.e (fun s=>Xy (fun a x=>Za (AM Tryz.prog s 24 a x))),[.var 3,.loc 1],.push,[]⟩]
def Q7:List AB:=[
 ⟨none,.p1 (fun x=>AC Tryz.prog 24 x 0),[.var 2],.push,[]⟩,
 ⟨none,.r1 (fun s a=>AA Tryz.prog s 4 a),[.loc 0],.push,[]⟩,
 ⟨none,.p1 (fun x=>AC Tryz.prog 24 x 0),[.var 3],.push,[]⟩,
 ⟨none,.r1 (fun s a=>AA Tryz.prog s 4 a),[.loc 0],.push,[]⟩,
 ⟨none,.p2 (AS Tryz.prog .eql 4),[.loc 2,.loc 0],(.set 8),[]⟩]
def V8:List AB:=[
 ⟨none,.p1 (fun x=>AC Tryz.prog 24 x 0),[.var 2],.push,[]⟩,
 ⟨none,.r1 (fun s a=>AA Tryz.prog s 4 a),[.loc 0],.push,[]⟩,
 ⟨none,.p1 (fun x=>AC Tryz.prog 24 x 1),[.var 2],.push,[]⟩,
 ⟨none,.r1 (fun s a=>AA Tryz.prog s 22 a),[.loc 0],.push,[]⟩,
 ⟨none,.p1 (fun x=>AC Tryz.prog 24 x 1),[.var 3],.push,[]⟩,
 ⟨none,.r1 (fun s a=>AA Tryz.prog s 22 a),[.loc 0],.push,[]⟩,
 ⟨none,.call 153,[.loc 2,.loc 0],.push,[⟨none,.r1 (fun s a=>AA Tryz.prog s 4 a),[.loc 6],(.loc 5)⟩]⟩,
 ⟨none,.call 107,[.loc 5,.loc 0],.push,[]⟩,
 ⟨none,.e (fun s=>Xy (fun a x=>Za (AM Tryz.prog s 24 a x))),[.var 4,.loc 0],.push,[]⟩]
def V9:List AB:=[
 ⟨none,.p1 (fun x=>AC Tryz.prog 24 x 1),[.var 2],.push,[]⟩,
 ⟨none,.r1 (fun s a=>AA Tryz.prog s 22 a),[.loc 0],.push,[]⟩,
 ⟨none,.p1 (fun x=>AC Tryz.prog 24 x 1),[.var 3],.push,[]⟩,
 ⟨none,.r1 (fun s a=>AA Tryz.prog s 22 a),[.loc 0],.push,[]⟩,
 ⟨none,.call 154,[.loc 2,.loc 0],.push,[]⟩,
 ⟨none,.p1 (fun x=>Zb x 0),[.loc 0],.push,[]⟩,
 ⟨none,.p1 (fun x=>Zb x 1),[.loc 1],.push,[]⟩,
 ⟨none,.p1 some,[.loc 1],(.set 5),[]⟩,
 ⟨none,.p1 some,[.loc 0],(.set 6),[]⟩]
def Q8:List AB:=[
 ⟨none,.p1 some,[.var 6],(.set 9),[]⟩]
def WA:List AB:=[
 ⟨none,.p1 (fun x=>AC Tryz.prog 24 x 0),[.var 2],.push,[]⟩,
 ⟨none,.r1 (fun s a=>AA Tryz.prog s 4 a),[.loc 0],.push,[]⟩,
 ⟨none,.call 107,[.loc 0,.var 5],.push,[]⟩,
 ⟨none,.e (fun s=>Xy (fun a x=>Za (AM Tryz.prog s 24 a x))),[.var 4,.loc 0],.push,[]⟩]
def WB:List AB:=[
 ⟨none,.p1 (fun x=>AC Tryz.prog 24 x 1),[.var 3],.push,[]⟩,
 ⟨none,.r1 (fun s a=>AA Tryz.prog s 22 a),[.loc 0],.push,[]⟩,
 ⟨none,.p1 (fun x=>AC Tryz.prog 24 x 1),[.var 2],.push,[]⟩,
 ⟨none,.r1 (fun s a=>AA Tryz.prog s 22 a),[.loc 0],.push,[]⟩,
 ⟨none,.call 154,[.loc 2,.loc 0],.push,[]⟩,
 ⟨none,.p1 (fun x=>Zb x 0),[.loc 0],.push,[]⟩,
 ⟨none,.p1 (fun x=>Zb x 1),[.loc 1],.push,[]⟩,
 ⟨none,.p1 some,[.loc 1],(.set 7),[]⟩,
 ⟨none,.p1 some,[.loc 0],.push,[]⟩]
def WD:List AB:=[
 ⟨none,.p1 (fun x=>AC Tryz.prog 24 x 0),[.var 3],.push,[]⟩,
 ⟨none,.r1 (fun s a=>AA Tryz.prog s 4 a),[.loc 0],.push,[]⟩,
 ⟨none,.call 107,[.loc 0,.var 7],.push,[]⟩,
 ⟨none,.e (fun s=>Xy (fun a x=>Za (AM Tryz.prog s 24 a x))),[.var 4,.loc 0],.push,[]⟩]
def nY:Aq:=⟨2,10,(.seq (.ops V6) (.seq (.ops V7) (.seq (.seq (.ops Q7) (.cond (.var 8)
 (.seq (.ops V8) .ret)
 .skip)) (.seq (.seq (.ops V9) (.seq (.ops Q8) (.cond (.var 9)
 (.seq (.ops WA) .ret)
 .skip))) (.seq (.ops WB) (.seq (.ops WD) .ret)))))),[((.var 4),some 24)]⟩
def Vn:List AB:=[
 ⟨none,.mk (fun l=>match l with | [v]=>Bf 24 v | _=>none),[.var 0],(.set 2),[]⟩,
 ⟨none,.mk (fun l=>match l with | [v]=>Bf 24 v | _=>none),[.var 1],(.set 3),[]⟩,
 ⟨none,.mk (fun l=>match l with | []=>Ac Tryz.prog 24 | _=>none),[],(.set 4),[]⟩]
def Vo:List AB:=[
 ⟨none,.p1 (fun x=>AC Tryz.prog 24 x 0),[.var 2],.push,[]⟩,
 ⟨none,.r1 (fun s a=>AA Tryz.prog s 4 a),[.loc 0],.push,[]⟩,
 ⟨none,.p1 (fun x=>AC Tryz.prog 24 x 0),[.var 3],.push,[]⟩,
 ⟨none,.r1 (fun s a=>AA Tryz.prog s 4 a),[.loc 0],.push,[]⟩,
 ⟨none,.p2 (AS Tryz.prog .neq 4),[.loc 2,.loc 0],.push,[]⟩,
 ⟨none,.p1 (fun x=>AC Tryz.prog 24 x 1),[.var 2],.push,[]⟩,
 ⟨none,.r1 (fun s a=>AA Tryz.prog s 22 a),[.loc 0],.push,[]⟩,
 ⟨none,.p1 (fun x=>AC Tryz.prog 24 x 1),[.var 3],.push,[]⟩,
 ⟨none,.r1 (fun s a=>AA Tryz.prog s 22 a),[.loc 0],.push,[]⟩,
 ⟨none,.call 51,[.loc 2,.loc 0],.push,[⟨none,.r1 (fun s a=>AA Tryz.prog s 4 a),[.loc 7],(.loc 6)⟩,⟨none,.r1 (fun s a=>AA Tryz.prog s 4 a),[.loc 9],(.loc 8)⟩]⟩,
 ⟨none,.call 107,[.loc 5,.loc 0],.push,[]⟩,
 ⟨none,.e (fun s=>Xy (fun a x=>Za (AM Tryz.prog s 24 a x))),[.var 4,.loc 0],.push,[]⟩]
def nU:Aq:=⟨2,5,(.seq (.ops Vn) (.seq (.ops Vo) .ret)),[((.var 4),some 24)]⟩
def Vh:List AB:=[
 ⟨none,.mk (fun l=>match l with | [v]=>Bf 24 v | _=>none),[.var 0],(.set 3),[]⟩,
 ⟨none,.mk (fun l=>match l with | []=>Ac Tryz.prog 24 | _=>none),[],(.set 4),[]⟩]
def Vi:List AB:=[
 ⟨none,.p1 some,[.var 1],(.set 6),[]⟩,
 ⟨none,.r (fun s l=>match l with | [x]=>BN Tryz.prog s 134 x | _=>none),[.var 6],(.set 7),[]⟩,
 ⟨none,.p1 some,[(.const (.int .i64 (0)))],(.set 8),[]⟩]
def Q4:List AB:=[
 ⟨none,.p2 (AS Tryz.prog .lss 3),[.var 8,.var 7],(.set 9),[]⟩]
def Vj:List AB:=[
 ⟨none,.p2 (AK Tryz.prog 134),[.var 6,.var 8],.push,[]⟩,
 ⟨none,.r1 (fun s a=>AA Tryz.prog s 24 a),[.loc 0],.push,[]⟩,
 ⟨none,.mk (fun l=>match l with | []=>Ac Tryz.prog 24 | _=>none),[],(.set 5),[]⟩,
 ⟨none,.e (fun s=>Xy (fun a x=>Za (AM Tryz.prog s 24 a x))),[.var 5,.loc 0],.push,[]⟩]
def Vk:List AB:=[
 ⟨none,.r1 (fun s a=>AA Tryz.prog s 24 a),[.var 3],.push,[]⟩,
 ⟨none,.r1 (fun s a=>AA Tryz.prog s 24 a),[.var 5],.push,[]⟩,
 ⟨none,.callv,[.var 2,.loc 1,.loc 0],.push,[]⟩,
 ⟨none,.e (fun s=>Xy (fun a x=>Za (AM Tryz.prog s 24 a x))),[.var 3,.loc 0],.push,[]⟩]
def Vl:List AB:=[
 ⟨none,.p2 (AS Tryz.prog .add 3),[(.var 8),(.const (.int .i64 (1)))],.push,[]⟩,
 ⟨none,.p1 some,[.loc 0],(.set 8),[]⟩]
def Iy:Ad:=(.seq (.ops Q4) (.seq (.cond (.var 9)
 .skip
 (.exit 0)) (.seq (.block 1 (.seq (.ops Vj) (.ops Vk))) (.ops Vl))))
def Vm:List AB:=[
 ⟨none,.r1 (fun s a=>AA Tryz.prog s 24 a),[.var 3],.push,[]⟩,
 ⟨none,.e (fun s=>Xy (fun a x=>Za (AM Tryz.prog s 24 a x))),[.var 4,.loc 0],.push,[]⟩]
def nT:Aq:=⟨3,10,(.seq (.ops Vh) (.seq (.seq (.ops Vi) (.block 0 (.loop Iy))) (.seq (.ops Vm) .ret))),[((.var 4),some 24)]⟩
def Vd:List AB:=[
 ⟨none,.mk (fun l=>match l with | []=>Ac Tryz.prog 24 | _=>none),[],(.set 1),[]⟩]
def Ve:List AB:=[
 ⟨none,.p (fun l=>B7 Tryz.prog 24 (zipIdx [] l)),[],.push,[]⟩,
 ⟨none,.call 116,[(.loc 0),(.var 0),(.const (.func 141 [] []))],.push,[]⟩,
 ⟨none,.e (fun s=>Xy (fun a x=>Za (AM Tryz.prog s 24 a x))),[.var 1,.loc 0],.push,[]⟩]
def nR:Aq:=⟨1,2,(.seq (.ops Vd) (.seq (.ops Ve) .ret)),[((.var 1),some 24)]⟩
def ie:List AB:=[
 ⟨none,.mk (fun l=>match l with | []=>Ac Tryz.prog 24 | _=>none),[],(.set 1),[]⟩]
def ig:List AB:=[
 ⟨none,.call 60,[(.const (.int .i64 (1)))],.push,[]⟩,
 ⟨none,.call 116,[(.loc 0),(.var 0),(.const (.func 117 [] []))],.push,[]⟩,
 ⟨none,.e (fun s=>Xy (fun a x=>Za (AM Tryz.prog s 24 a x))),[.var 1,.loc 0],.push,[]⟩]
def qg:Aq:=⟨1,2,(.seq (.ops ie) (.seq (.ops ig) .ret)),[((.var 1),some 24)]⟩
def VM:List AB:=[
 ⟨none,.mk (fun l=>match l with | [v]=>Bf 24 v | _=>none),[.var 0],(.set 1),[]⟩,
 ⟨none,.p1 some,[(.const (.int .i64 (0)))],(.set 2),[]⟩]
def VN:List AB:=[
 ⟨none,.r1 (fun s a=>AA Tryz.prog s 24 a),[.var 1],.push,[]⟩,
 ⟨none,.call 132,[.loc 0],.push,[]⟩,
 ⟨none,.e (fun s=>Xy (fun a x=>Za (AM Tryz.prog s 24 a x))),[.var 1,.loc 0],.push,[]⟩]
def NU:List AB:=[
 ⟨none,.p1 (fun x=>AC Tryz.prog 24 x 0),[.var 1],.push,[]⟩,
 ⟨none,.r1 (fun s a=>AA Tryz.prog s 4 a),[.loc 0],.push,[]⟩,
 ⟨none,.p1 some,[.loc 0],(.set 3),[]⟩]
def VO:List AB:=[
 ⟨none,.p1 some,[(.const (.int .i64 (-1)))],(.set 2),[]⟩]
def Q1:List AB:=[
 ⟨none,.p1 (fun x=>AC Tryz.prog 24 x 1),[.var 1],.push,[]⟩,
 ⟨none,.r1 (fun s a=>AA Tryz.prog s 22 a),[.loc 0],.push,[]⟩,
 ⟨none,.r (fun s l=>match l with | [x]=>BN Tryz.prog s 22 x | _=>none),[.loc 0],.push,[]⟩,
 ⟨none,.p2 (AS Tryz.prog .gtr 3),[(.loc 0),(.const (.int .i64 (0)))],.push,[]⟩,
 ⟨none,.p1 some,[.loc 0],(.set 4),[]⟩]
def VP:List AB:=[
 ⟨none,.p1 some,[(.const (.int .i64 (1)))],(.set 2),[]⟩]
def VQ:List AB:=[
 ⟨none,.p1 some,[(.const (.int .i64 (0)))],(.set 2),[]⟩]
def nL:Aq:=⟨1,5,(.seq (.ops VM) (.seq (.seq (.ops VN) (.block 0 (.seq (.ops NU) (.cond (.var 3)
 (.seq (.ops VO) .ret)
 (.seq (.ops Q1) (.cond (.var 4)
 (.seq (.ops VP) .ret)
 .skip)))))) (.seq (.ops VQ) .ret))),[((.var 2),none)]⟩
def X0:List AB:=[
 ⟨none,.mk (fun l=>match l with | []=>Ac Tryz.prog 24 | _=>none),[],(.set 1),[]⟩]
def X1:List AB:=[
 ⟨none,.r1 (fun s x=>At Tryz.prog s 2 69 x),[.var 0],.push,[]⟩,
 ⟨none,.p1 some,[.loc 0],(.set 2),[]⟩]
def X2:List AB:=[
 ⟨none,.p2 (AS Tryz.prog .lss 2),[(.var 0),(.const (.int .i64 (0)))],(.set 3),[]⟩]
def iE:List AB:=[
 ⟨none,.p1 some,[.var 2],.push,[]⟩,
 ⟨none,.p1 (U3 Tryz.prog Go.UnOp.neg),[.loc 0],.push,[]⟩,
 ⟨none,.p1 some,[.loc 0],(.set 2),[]⟩]
def X3:List AB:=[
 ⟨none,.p2 (AS Tryz.prog .lss 2),[(.var 0),(.const (.int .i64 (0)))],.push,[]⟩,
 ⟨none,.r1 (fun s x=>At Tryz.prog s 69 76 x),[.var 2],.push,[]⟩,
 ⟨none,.p2 (AS Tryz.prog .shr 69),[(.var 2),(.const (.int .u64 (32)))],.push,[]⟩,
 ⟨none,.r1 (fun s x=>At Tryz.prog s 69 76 x),[.loc 0],.push,[]⟩,
 ⟨none,.mk (fun l=>(Af Tryz.prog 22 2 (zipIdx [0,1] l)).bind fun r=>some (r,.slice 2)),[.loc 2,.loc 0],.push,[]⟩,
 ⟨none,.call 107,[.loc 4,.loc 0],.push,[]⟩,
 ⟨none,.e (fun s=>Xy (fun a x=>Za (AM Tryz.prog s 24 a x))),[.var 1,.loc 0],.push,[]⟩]
def pH:Aq:=⟨1,4,(.seq (.ops X0) (.seq (.ops X1) (.seq (.seq (.ops X2) (.cond (.var 3)
 (.ops iE)
 .skip)) (.seq (.ops X3) .ret)))),[((.var 1),some 24)]⟩
theorem TM:AR Tryz.prog 107=some kF:=by kernel_rfl
theorem bR:AR Tryz.prog 132=some nW:=by kernel_rfl
theorem bT:AR Tryz.prog 141=some nY:=by kernel_rfl
theorem bQ:AR Tryz.prog 117=some nU:=by kernel_rfl
theorem bP:AR Tryz.prog 116=some nT:=by kernel_rfl
theorem bN:AR Tryz.prog 113=some nR:=by kernel_rfl
theorem lV:AR Tryz.prog 71=some qg:=by kernel_rfl
theorem bH:AR Tryz.prog 100=some nL:=by kernel_rfl
theorem lM:AR Tryz.prog 60=some pH:=by kernel_rfl
end
end Go.Proofs.YtjnkfbpadpmakaaGreatDoor.Am
set_option linter.unusedVariables false
namespace Go.Proofs.YtjnkfbpadpmakaaGreatDoor.Am
noncomputable section
def Cj(neg:Bool)(m:Nat):Int:=if neg=true then -(m:Int)else (m:Int)
def EW(d:Nat):Nat:=if d=0 then 1 else d
def JH(neg:Bool)(m d:Nat):Rat:=mkRat (Cj neg m) (EW d)
theorem IJ(d:Nat):EW d≠0:=by unfold EW;split<;>omega
theorem DC(neg:Bool)(m:Nat):(Cj neg m).natAbs=m:=by unfold Cj;split<;>omega
theorem Le(neg:Bool)(m d:Nat):(JH neg m d).num=Cj neg m / ((m.gcd (EW d):Nat):Int):=by
 unfold JH
 rw[Rat.num_mkRat,if_neg (IJ d),Nat.gcd_comm]
 simp[DC]
theorem P0(neg:Bool)(m d:Nat):(JH neg m d).den=EW d / m.gcd (EW d):=by
 unfold JH
 rw[Rat.den_mkRat,if_neg (IJ d)]
 simp[DC,Nat.gcd_comm]
theorem N5{n:Int}{d:Nat}(hd:d≠0)(neg:Bool)(m:Nat)(hn:Cj neg m=n):JH neg m d=mkRat n d:=by
 unfold JH EW
 rw[if_neg hd,hn]
theorem mK{n1 n2:Int}{d1 d2:Nat}(h1:d1≠0)(h2:d2≠0):mkRat n1 d1+mkRat n2 d2=mkRat (n1 * d2+n2 * d1) (d1 * d2):=Rat.mkRat_add_mkRat n1 n2 h1 h2
theorem mL(n1 n2:Int)(d1 d2:Nat):mkRat n1 d1 * mkRat n2 d2=mkRat (n1 * n2) (d1 * d2):=Rat.mkRat_mul_mkRat n1 n2 d1 d2
structure Wr where
 neg:Bool
 num:Nat
 den:Nat
def ms(q:Rat):Wr:=⟨decide (q.num<0),q.num.natAbs,q.den⟩
theorem dH(q:Rat):JH (ms q).neg (ms q).num (ms q).den=q:=by
 have hd:(ms q).den≠0:=q.den_nz
 have hn:Cj (ms q).neg (ms q).num=q.num:=by
  unfold Cj ms
  by_cases h:q.num<0
  ·simp[h];omega
  ·simp[h];omega
 rw[N5 hd _ _ hn]
 exact Rat.mkRat_self q
end
end Go.Proofs.YtjnkfbpadpmakaaGreatDoor.Am
set_option linter.unusedVariables false
set_option linter.unusedSimpArgs false
set_option maxRecDepth 16000
namespace Go.Proofs.YtjnkfbpadpmakaaGreatDoor.Am
open Go Go.Proofs
noncomputable section
section
variable{P:Program}{s:AE}{i e sz t n:Nat}{sp:Bool}{cs cs0:List AV}
theorem AG(ht:Dx P t=some true)(hs:A7 P t=some n)(hg:s.heap.get i=some (R e sz sp cs))(hl:cs.length=n):AA P s t (.ptr (some (i,0)))=some (.agg cs):=by
 subst hl
 rw[Wg ht,hs,Option.bind_some,hg,Wp (by omega)]
 simp
theorem SZ{a b:List AV}(h:a.length=b.length):DO a 0 b=b:=by
 refine List.ext_getElem? fun k=>?_
 rw[F4 _ _ _ _ (by omega)]
 rcases qz k b.length with h' | h'
 ·rw[if_pos ⟨rB _,by omega⟩];rfl
 ·rw[if_neg (by omega),rI (by omega),rI h']
theorem Ai(hs:A7 P t=some n)(hg:s.heap.get i=some (R e sz sp cs0))(hl0:cs0.length=n)(hl:cs.length=n)(ha:Au cs=true)(hn:cs≠[]):AM P s t (.ptr (some (i,0))) (.agg cs)=some (setObj s i (R e sz sp cs)):=by
 rw[Wh,hs]
 show AL (decide (cs.length=n)) (Ch s i 0 cs)=_
 rw[Ls hg (by omega) ha,SZ (by omega),decide_eq_true hl]
 cases cs with
 | nil=>exact absurd rfl hn
 | cons c cs=>rfl
theorem AO(P:Program)(s:AE)(v:List AV)(x:CX)(t:TypeId)(l:List (CX×Option TypeId)):Bt P s v ((x,some t)::l)=(AA P s t (C8 [] v x)).bind fun u=>(Bt P s v l).bind fun r=>some (u::r):=rfl
end
theorem NR.set{b i:Nat}{s:AE}{v:AV}{l:List Nat}(h:NR b s v l)(hi:i<b)(o:BC):NR b (setObj s i o) v l:=
 h.keep (qw _) fun j hj=>Wx _ (by obtain⟨O,_,_,q,_⟩:=h;have:=q j hj;omega)
theorem Ae.set{b i:Nat}{s s':AE}(h:Ae b s s')(hi:b≤i)(o:BC):Ae b s (setObj s' i o):=⟨h.1,fun j hj=>(Wx _ (by omega)).trans (h.2 j hj)⟩
theorem C7.shape{s:AE}{v:AV}{l:List Nat}(h:C7 s v l):∃a n c,v=.slice a n c:=by obtain⟨a,c,rfl,_⟩:=h;exact⟨_,_,_,rfl⟩
theorem IB(x:Bool)(a:Option (Nat×Nat))(n:Nat)(c:Option Nat):B7 Tryz.prog 24 (zipIdx [0,1] [.bool x,.slice a n c])=some (.agg [.bool x,.slice a n c]):=by kernel_rfl
theorem EQ:Ac Tryz.prog 24=some (R 24 0 false [.bool false,.slice none 0 (some 0)],.ptr):=by kernel_rfl
theorem GW(x:Bool)(a:Option (Nat×Nat))(n:Nat)(c:Option Nat):FJ (.agg [.bool x,.slice a n c]) (.agg [.bool x,.slice a n c])=true:=by
 cases a<;>cases c<;>cases x<;>simp[FJ,FJ.eqAs,FN]
theorem FQ(x:Bool):FJ (.bool x) (.bool x)=true:=by cases x<;>rfl
def BI(s:AE)(v:AV)(z:Int)(k:Nat):Prop:=∃neg m l,v=.agg [.bool neg,m]∧C7 s m l∧Bv l∧l.length≤k∧Cj neg (AH l)=z
def BR(b:Nat)(s:AE)(v:AV)(z:Int):Prop:=∃m,v=.agg [.bool (decide (z<0)),m]∧NR b s m (AQ z.natAbs)
theorem BI.old{s s':AE}{v:AV}{z:Int}{k:Nat}(h:BI s v z k)(o:Ae s.next s s'):BI s' v z k:=by
 obtain⟨neg,m,l,h1,h2,h3⟩:=h
 exact⟨neg,m,l,h1,h2.old o,h3⟩
theorem BR.old{b:Nat}{s s':AE}{v:AV}{z:Int}(h:BR b s v z)(o:Ae s.next s s'):BR b s' v z:=by
 obtain⟨m,h1,h2⟩:=h
 exact⟨m,h1,h2.old o⟩
theorem BR.mono{b b':Nat}{s:AE}{v:AV}{z:Int}(h:BR b s v z)(k:b'≤b):BR b' s v z:=by
 obtain⟨m,h1,h2⟩:=h
 exact⟨m,h1,h2.mono k⟩
theorem BR.set{b i:Nat}{s:AE}{v:AV}{z:Int}(h:BR b s v z)(hi:i<b)(o:BC):BR b (setObj s i o) v z:=by
 obtain⟨m,h1,h2⟩:=h
 exact⟨m,h1,h2.set hi o⟩
theorem As{n k:Nat}(h:n<LB ^ k):(AQ n).length≤k:=by
 rcases qz k (AQ n).length with h' | h'
 ·exfalso
  have h0:n≠0:=by
   rintro rfl
   rw[BJ]at h'
   simp at h'
  have:=K1 n h0
  have h2:LB ^ k≤LB ^ ((AQ n).length - 1):=sn BG (by omega)
  omega
 ·exact h'
theorem GZ(z:Int):Cj (decide (z<0)) z.natAbs=z:=by
 unfold Cj
 by_cases h:z<0
 ·rw[if_pos (decide_eq_true h)];omega
 ·rw[if_neg (by simpa using h)];omega
theorem BR.bi{b k:Nat}{s:AE}{v:AV}{z:Int}(h:BR b s v z)(hz:z.natAbs<LB ^ k):BI s v z k:=by
 obtain⟨m,h1,h2⟩:=h
 exact⟨_,m,_,h1,h2.n32,AX _,As hz,by rw[Ab,GZ]⟩
theorem BI.abs{s:AE}{v:AV}{z:Int}{k:Nat}(h:BI s v z k):z.natAbs<LB ^ k:=by
 obtain⟨neg,m,l,h1,h2,h3,h4,rfl⟩:=h
 rw[DC]
 exact rA (Cp h3) (sn BG h4)
theorem HQ(n:Nat):decide ((0:Int)<((AQ n).length:Int))=decide (n≠0):=by
 by_cases h:n=0
 ·subst h;rw[BJ];rfl
 ·have:=List.length_pos_iff.2 (Bs h)
  rw[decide_eq_true (show(0:Int)<((AQ n).length:Int) by omega),decide_eq_true h]
theorem bz(neg:Bool)(n:Nat):decide (Cj neg n<0)=(neg && decide (n≠0)):=by
 unfold Cj
 cases neg with
 | false=>rw[if_neg (by decide),Bool.false_and];exact decide_eq_false (by omega)
 | true =>
  rw[if_pos rfl,Bool.true_and]
  by_cases h:n=0
  ·rw[decide_eq_false (show ¬ (-(n:Int)<0) by omega),decide_eq_false (by simpa using h)]
  ·rw[decide_eq_true (show -(n:Int)<0 by omega),decide_eq_true h]
section
variable{E:CR}{s:AE}
theorem Hc(hE:GoodN E){neg:Bool}{m:AV}{l:List Nat}(hm:C7 s m l)(hl:l.length≤1000000000)(hs:Bv l){K:AV→AE→Prop}
  (hK:∀s' v,Ae s.next s s'→BR s.next s' v (Cj neg (AH l))→K v s'):WF E 107 [.bool neg,m] K s:=by
 refine hE.go TM (by decide) rfl ?_
 have o1:=Ae.new s (R 24 0 false [.bool false,.slice none 0 (some 0)])
 have g1:(newObj s (R 24 0 false [.bool false,.slice none 0 (some 0)])).heap.get s.next=some (R 24 0 false [.bool false,.slice none 0 (some 0)]):=by rw[AP,if_pos rfl]
 have n1:(newObj s (R 24 0 false [.bool false,.slice none 0 (some 0)])).next=s.next+1:=rfl
 simp only[kF,Q2,Q3,EQ,Xc,Qa,Qb,Qc,Qd,Qe,Qf,Qg,Qh,Qi,Qj,Qk,Ql,Qm,Qn,true_and,and_true,Qo,Qp,Qq,Qr,Qs,Qt,Qu,Qv,Qw,Qx,Qy,Qz,Ra,Rb,Rc,Rd,Re,Rf,Rg,Rh,Ri,Rj,Rk,Rm,Rn,Ro,Rp,Rq,Rt,Ya,Yb,Yc,Ru,Rw,Zb,Yd,Ye,Ry,Rz,Wa,Wb,Wc,Wd,We]
 generalize newObj s (R 24 0 false [.bool false,.slice none 0 (some 0)])=s1 at *
 refine Cc hE (hm.old o1) (by omega) fun s2 v2 o2 r2=>?_
 rw[Br hs]at r2
 have g2:=(o2.2 s.next (by omega)).trans g1
 obtain⟨a,c,e2,_⟩:=r2.n32
 have hz:=bz neg (AH l)
 rw[← HQ]at hz
 have fin:∀x,x=decide (Cj neg (AH l)<0)→K (.agg [.bool x,v2]) (setObj s2 s.next (R 24 0 false [.bool x,v2])):=fun x hx=>by
  subst hx
  refine hK _ _ ((o1.trans (o2.mono o1.1)).set (qw _) _) (BR.mono (b:=s1.next) ⟨v2,rfl,?_⟩ (by omega))
  rw[DC]
  exact r2.set (by omega) _
 have st:∀x,AM Tryz.prog s2 24 (.ptr (some (s.next,0))) (.agg [.bool x,.slice a (AQ (AH l)).length c])=some (setObj s2 s.next (R 24 0 false [.bool x,.slice a (AQ (AH l)).length c])):=fun x=>Ai Cl g2 rfl rfl rfl (by simp)
 have ld:∀x,AA Tryz.prog (setObj s2 s.next (R 24 0 false [.bool x,.slice a (AQ (AH l)).length c])) 24 (.ptr (some (s.next,0)))=some (.agg [.bool x,.slice a (AQ (AH l)).length c]):=fun x=>AG Dl Cl (Ww _ _ _) rfl
 subst e2
 cases neg with
 | true =>
  rw[Bool.true_and]at hz
  simp only[KZ,AN Tryz.underlying22,Rz,Ru,IB,st,ld,AO,Xy,Za,Qa,Qb,Qc,Qd,Qe,Qf,Qg,Qh,Qi,Qj,Qk,Ql,Qm,Qn,true_and,and_true,Qo,Qp,Qq,Qr,Qs,Qt,Qu,Qv,Qw,Qx,Qy,Qz,Ra,Rb,Rc,Rd,Re,Rf,Rg,Rh,Ri,Rj,Rk,Rm,Rn,Ro,Rp,Rq,Rt,Ya,Yb,Yc,Ru,Rw,Zb,Yd,Ye,Ry,Rz,Wa,Wb,Wc,Wd,We]
  exact fin _ hz.symm
 | false =>
  rw[Bool.false_and]at hz
  simp only[KZ,Ru,IB,st,ld,AO,Xy,Za,Qa,Qb,Qc,Qd,Qe,Qf,Qg,Qh,Qi,Qj,Qk,Ql,Qm,Qn,true_and,and_true,Qo,Qp,Qq,Qr,Qs,Qt,Qu,Qv,Qw,Qx,Qy,Qz,Ra,Rb,Rc,Rd,Re,Rf,Rg,Rh,Ri,Rj,Rk,Rm,Rn,Ro,Rp,Rq,Rt,Ya,Yb,Yc,Ru,Rw,Zb,Yd,Ye,Ry,Rz,Wa,Wb,Wc,Wd,We]
  exact fin _ hz.symm
theorem ai(hE:GoodN E){neg:Bool}{K:AV→AE→Prop}(hK:∀s',Ae s.next s s'→s'.next=s.next+1→K (.agg [.bool false,.slice none 0 (some 0)]) s'):WF E 107 [.bool neg,.slice none 0 (some 0)] K s:=by
 refine hE.go TM (by decide) rfl ?_
 have o1:=Ae.new s (R 24 0 false [.bool false,.slice none 0 (some 0)])
 have g1:(newObj s (R 24 0 false [.bool false,.slice none 0 (some 0)])).heap.get s.next=some (R 24 0 false [.bool false,.slice none 0 (some 0)]):=by rw[AP,if_pos rfl]
 have n1:(newObj s (R 24 0 false [.bool false,.slice none 0 (some 0)])).next=s.next+1:=rfl
 simp only[kF,Q2,Q3,EQ,Xc,Qa,Qb,Qc,Qd,Qe,Qf,Qg,Qh,Qi,Qj,Qk,Ql,Qm,Qn,true_and,and_true,Qo,Qp,Qq,Qr,Qs,Qt,Qu,Qv,Qw,Qx,Qy,Qz,Ra,Rb,Rc,Rd,Re,Rf,Rg,Rh,Ri,Rj,Rk,Rm,Rn,Ro,Rp,Rq,Rt,Ya,Yb,Yc,Ru,Rw,Zb,Yd,Ye,Ry,Rz,Wa,Wb,Wc,Wd,We]
 generalize newObj s (R 24 0 false [.bool false,.slice none 0 (some 0)])=s1 at *
 refine aF hE ?_
 have st:=Ai (P:=Tryz.prog) (t:=24) (cs:=[.bool false,.slice none 0 (some 0)]) Cl g1 rfl rfl rfl (by simp)
 have ld:=AG (P:=Tryz.prog) (t:=24) (s:=setObj s1 s.next (R 24 0 false [.bool false,.slice none 0 (some 0)])) (i:=s.next) Dl Cl (Ww _ _ _) rfl
 have dd:decide ((0:Int)<((0:Nat):Int))=false:=rfl
 cases neg with
 | true =>
  simp only[KZ,AN Tryz.underlying22,Rz,dd,Ru,IB,st,ld,AO,Xy,Za,Qa,Qb,Qc,Qd,Qe,Qf,Qg,Qh,Qi,Qj,Qk,Ql,Qm,Qn,true_and,and_true,Qo,Qp,Qq,Qr,Qs,Qt,Qu,Qv,Qw,Qx,Qy,Qz,Ra,Rb,Rc,Rd,Re,Rf,Rg,Rh,Ri,Rj,Rk,Rm,Rn,Ro,Rp,Rq,Rt,Ya,Yb,Yc,Ru,Rw,Zb,Yd,Ye,Ry,Rz,Wa,Wb,Wc,Wd,We]
  exact hK _ (o1.set (qw _) _) n1
 | false =>
  simp only[KZ,Ru,IB,st,ld,AO,Xy,Za,Qa,Qb,Qc,Qd,Qe,Qf,Qg,Qh,Qi,Qj,Qk,Ql,Qm,Qn,true_and,and_true,Qo,Qp,Qq,Qr,Qs,Qt,Qu,Qv,Qw,Qx,Qy,Qz,Ra,Rb,Rc,Rd,Re,Rf,Rg,Rh,Ri,Rj,Rk,Rm,Rn,Ro,Rp,Rq,Rt,Ya,Yb,Yc,Ru,Rw,Zb,Yd,Ye,Ry,Rz,Wa,Wb,Wc,Wd,We]
  exact hK _ (o1.set (qw _) _) n1
theorem aj(hE:GoodN E){neg:Bool}{m:AV}{l:List Nat}(hm:C7 s m l)(hl:l.length≤1000000000)(hs:Bv l){K:AV→AE→Prop}
  (hK:∀s' v,Ae s.next s s'→BR s.next s' v (Cj neg (AH l))→(m=.slice none 0 (some 0)→v=.agg [.bool false,.slice none 0 (some 0)])→K v s'):WF E 107 [.bool neg,m] K s:=by
 by_cases h:m=.slice none 0 (some 0)
 ·subst h
  refine ai hE fun s' o _=>hK s' _ o ?_ fun _=>rfl
  obtain⟨a,c,e,_⟩:=hm
  injection e with _ e2 _
  have hl0:l=[]:=List.length_eq_zero_iff.1 e2.symm
  subst hl0
  have hz:Cj neg (AH [])=0:=by cases neg<;>rfl
  rw[hz]
  exact⟨_,rfl,by show NR s.next s' _ (AQ 0);rw[BJ];exact NR.nil _ _⟩
 ·exact Hc hE hm hl hs fun s' v o r=>hK s' v o r fun e=>absurd e h
end
theorem Ap(s:AE)(o:BC):(newObj s o).next=s.next+1:=rfl
theorem Bl(s:AE)(A:BC):(newObj s A).next=s.next+1∧Ae s.next s (newObj s A)∧(newObj s A).heap.get s.next=some A:=⟨rfl,Ae.new s A,by rw[AP,if_pos rfl]⟩
theorem D4(s:AE)(A B:BC):(newObj (newObj s A) B).next=s.next+2∧Ae s.next s (newObj (newObj s A) B)∧(newObj (newObj s A) B).heap.get s.next=some A∧(newObj (newObj s A) B).heap.get (s.next+1)=some B:=by
 refine⟨rfl,(Ae.new s A).trans ((Ae.new (newObj s A) B).mono (sG _)),?_,?_⟩
 ·rw[AP,if_neg (by rw[Ap];omega),AP,if_pos rfl]
 ·rw[AP,if_pos (by rw[Ap])]
theorem LK(s:AE)(A B C:BC):(newObj (newObj (newObj s A) B) C).next=s.next+3∧Ae s.next s (newObj (newObj (newObj s A) B) C)∧(newObj (newObj (newObj s A) B) C).heap.get s.next=some A∧(newObj (newObj (newObj s A) B) C).heap.get (s.next+1)=some B∧(newObj (newObj (newObj s A) B) C).heap.get (s.next+2)=some C:=by
 obtain⟨h1,h2,h3,h4⟩:=D4 s A B
 refine⟨rfl,h2.trans ((Ae.new (newObj (newObj s A) B) C).mono (by omega)),?_,?_,?_⟩
 ·rw[AP,if_neg (by omega)];exact h3
 ·rw[AP,if_neg (by omega)];exact h4
 ·rw[AP,if_pos (by omega)]
abbrev ZI:BC:=R 24 0 false [.bool false,.slice none 0 (some 0)]
abbrev BX(x:Bool)(m:AV):BC:=R 24 0 false [.bool x,m]
section
variable{E:CR}{s:AE}
theorem KW(hE:GoodN E){v:AV}{z:Int}{k:Nat}(hv:BI s v z k)(hk:k≤1000000000){K:AV→AE→Prop}(hK:∀s' v,Ae s.next s s'→BR s.next s' v z→K v s'):WF E 132 [v] K s:=by
 obtain⟨neg,m,l,rfl,hm,hs,hl,rfl⟩:=hv
 obtain⟨a,n,c,rfl⟩:=hm.shape
 refine hE.go bR (by decide) rfl ?_
 obtain⟨n1,o1,g1,g2⟩:=D4 s (BX neg (.slice a n c)) ZI
 simp only[nW,Vp,Vq,Xa,Xh,EQ,Xc,Ap,Do,Cv,Qa,Qb,Qc,Qd,Qe,Qf,Qg,Qh,Qi,Qj,Qk,Ql,Qm,Qn,true_and,and_true,Qo,Qp,Qq,Qr,Qs,Qt,Qu,Qv,Qw,Qx,Qy,Qz,Ra,Rb,Rc,Rd,Re,Rf,Rg,Rh,Ri,Rj,Rk,Rm,Rn,Ro,Rp,Rq,Rt,Ya,Yb,Yc,Ru,Rw,Zb,Yd,Ye,Ry,Rz,Wa,Wb,Wc,Wd,We]
 generalize newObj (newObj s (BX neg (.slice a n c))) ZI=s1 at *
 have l1:=AI (P:=Tryz.prog) (t:=4) (o:=0+0) MI g1 rfl
 have l2:=AI (P:=Tryz.prog) (t:=22) (o:=0+1) CG g1 rfl
 simp only[l1,l2,Qa,Qb,Qc,Qd,Qe,Qf,Qg,Qh,Qi,Qj,Qk,Ql,Qm,Qn,true_and,and_true,Qo,Qp,Qq,Qr,Qs,Qt,Qu,Qv,Qw,Qx,Qy,Qz,Ra,Rb,Rc,Rd,Re,Rf,Rg,Rh,Ri,Rj,Rk,Rm,Rn,Ro,Rp,Rq,Rt,Ya,Yb,Yc,Ru,Rw,Zb,Yd,Ye,Ry,Rz,Wa,Wb,Wc,Wd,We]
 refine Hc hE (hm.old o1) (by omega) hs fun s2 v2 o2 r2=>?_
 have g3:=(o2.2 (s.next+1) (by omega)).trans g2
 obtain⟨m2,rfl,r2⟩:=r2
 obtain⟨a2,n2,c2,rfl⟩:=r2.n32.shape
 have st:=Ai (P:=Tryz.prog) (t:=24) (cs:=[.bool (decide (Cj neg (AH l)<0)),.slice a2 n2 c2]) Cl g3 rfl rfl rfl (by simp)
 have ld:=AG (P:=Tryz.prog) (t:=24) (s:=setObj s2 (s.next+1) (R 24 0 false [.bool (decide (Cj neg (AH l)<0)),.slice a2 n2 c2])) (i:=s.next+1) Dl Cl (Ww _ _ _) rfl
 simp only[st,ld,AO,Xy,Za,Qa,Qb,Qc,Qd,Qe,Qf,Qg,Qh,Qi,Qj,Qk,Ql,Qm,Qn,true_and,and_true,Qo,Qp,Qq,Qr,Qs,Qt,Qu,Qv,Qw,Qx,Qy,Qz,Ra,Rb,Rc,Rd,Re,Rf,Rg,Rh,Ri,Rj,Rk,Rm,Rn,Ro,Rp,Rq,Rt,Ya,Yb,Yc,Ru,Rw,Zb,Yd,Ye,Ry,Rz,Wa,Wb,Wc,Wd,We]
 exact hK _ _ ((o1.trans (o2.mono o1.1)).set (by omega) _) (BR.mono (b:=s1.next) ⟨_,rfl,r2.set (by omega) _⟩ (by omega))
def FG(z:Int):Int:=if z<0 then -1 else if 0<z then 1 else 0
theorem KX(hE:GoodN E){v:AV}{z:Int}{k:Nat}(hv:BI s v z k)(hk:k≤1000000000){K:AV→AE→Prop}(hK:∀s',Ae s.next s s'→K (iv (FG z)) s'):WF E 100 [v] K s:=by
 have hv0:=hv
 obtain⟨neg,m,l,rfl,hm,hs,hl,hz⟩:=hv
 obtain⟨a,n,c,rfl⟩:=hm.shape
 refine hE.go bH (by decide) rfl ?_
 obtain⟨n1,o1,g1⟩:=Bl s (BX neg (.slice a n c))
 simp only[nL,VM,VN,Xa,Xh,Xc,Ap,Qa,Qb,Qc,Qd,Qe,Qf,Qg,Qh,Qi,Qj,Qk,Ql,Qm,Qn,true_and,and_true,Qo,Qp,Qq,Qr,Qs,Qt,Qu,Qv,Qw,Qx,Qy,Qz,Ra,Rb,Rc,Rd,Re,Rf,Rg,Rh,Ri,Rj,Rk,Rm,Rn,Ro,Rp,Rq,Rt,Ya,Yb,Yc,Ru,Rw,Zb,Yd,Ye,Ry,Rz,Wa,Wb,Wc,Wd,We]
 generalize newObj s (BX neg (.slice a n c))=s1 at *
 have l1:=AG (P:=Tryz.prog) (t:=24) Dl Cl g1 rfl
 simp only[l1,Qa,Qb,Qc,Qd,Qe,Qf,Qg,Qh,Qi,Qj,Qk,Ql,Qm,Qn,true_and,and_true,Qo,Qp,Qq,Qr,Qs,Qt,Qu,Qv,Qw,Qx,Qy,Qz,Ra,Rb,Rc,Rd,Re,Rf,Rg,Rh,Ri,Rj,Rk,Rm,Rn,Ro,Rp,Rq,Rt,Ya,Yb,Yc,Ru,Rw,Zb,Yd,Ye,Ry,Rz,Wa,Wb,Wc,Wd,We]
 refine KW hE (hv0.old o1) hk fun s2 v2 o2 r2=>?_
 have g2:=(o2.2 s.next (by omega)).trans g1
 obtain⟨m2,rfl,r2⟩:=r2
 obtain⟨a2,c2,rfl,_⟩:=r2.n32
 have st:=Ai (P:=Tryz.prog) (t:=24) (cs:=[.bool (decide (z<0)),.slice a2 (AQ z.natAbs).length c2]) Cl g2 rfl rfl rfl (by simp)
 have l2:=AI (P:=Tryz.prog) (t:=4) (s:=setObj s2 s.next (R 24 0 false [.bool (decide (z<0)),.slice a2 (AQ z.natAbs).length c2])) (i:=s.next) (o:=0+0) MI (Ww _ _ _) rfl
 have l3:=AI (P:=Tryz.prog) (t:=22) (s:=setObj s2 s.next (R 24 0 false [.bool (decide (z<0)),.slice a2 (AQ z.natAbs).length c2])) (i:=s.next) (o:=0+1) CG (Ww _ _ _) rfl
 have hend:=hK (setObj s2 s.next (R 24 0 false [.bool (decide (z<0)),.slice a2 (AQ z.natAbs).length c2])) ((o1.trans (o2.mono o1.1)).set (qw _) _)
 have hp:=HQ z.natAbs
 unfold FG at hend
 by_cases h1:z<0
 ·have d1:decide (z<0)=true:=decide_eq_true h1
  rw[if_pos h1]at hend
  simp only[d1]at *
  simp only[st,l2,Do,NU,VO,Xy,Za,Qa,Qb,Qc,Qd,Qe,Qf,Qg,Qh,Qi,Qj,Qk,Ql,Qm,Qn,true_and,and_true,Qo,Qp,Qq,Qr,Qs,Qt,Qu,Qv,Qw,Qx,Qy,Qz,Ra,Rb,Rc,Rd,Re,Rf,Rg,Rh,Ri,Rj,Rk,Rm,Rn,Ro,Rp,Rq,Rt,Ya,Yb,Yc,Ru,Rw,Zb,Yd,Ye,Ry,Rz,Wa,Wb,Wc,Wd,We]
  exact hend
 ·have d1:decide (z<0)=false:=decide_eq_false h1
  rw[if_neg h1]at hend
  by_cases h2:0<z
  ·have d2:decide (z.natAbs≠0)=true:=decide_eq_true (by omega)
   rw[if_pos h2]at hend
   rw[d2]at hp
   simp only[d1]at *
   simp only[st,l2,l3,Do,Cv,AN Tryz.underlying22,Rz,hp,NU,Q1,VP,Xy,Za,Qa,Qb,Qc,Qd,Qe,Qf,Qg,Qh,Qi,Qj,Qk,Ql,Qm,Qn,true_and,and_true,Qo,Qp,Qq,Qr,Qs,Qt,Qu,Qv,Qw,Qx,Qy,Qz,Ra,Rb,Rc,Rd,Re,Rf,Rg,Rh,Ri,Rj,Rk,Rm,Rn,Ro,Rp,Rq,Rt,Ya,Yb,Yc,Ru,Rw,Zb,Yd,Ye,Ry,Rz,Wa,Wb,Wc,Wd,We]
   exact hend
  ·have d2:decide (z.natAbs≠0)=false:=decide_eq_false (by omega)
   rw[if_neg h2]at hend
   rw[d2]at hp
   simp only[d1]at *
   simp only[st,l2,l3,Do,Cv,AN Tryz.underlying22,Rz,hp,NU,Q1,VQ,if_true,Xy,Za,Qa,Qb,Qc,Qd,Qe,Qf,Qg,Qh,Qi,Qj,Qk,Ql,Qm,Qn,true_and,and_true,Qo,Qp,Qq,Qr,Qs,Qt,Qu,Qv,Qw,Qx,Qy,Qz,Ra,Rb,Rc,Rd,Re,Rf,Rg,Rh,Ri,Rj,Rk,Rm,Rn,Ro,Rp,Rq,Rt,Ya,Yb,Yc,Ru,Rw,Zb,Yd,Ye,Ry,Rz,Wa,Wb,Wc,Wd,We]
   exact hend
end
theorem ZM(x y:Bool):AS Tryz.prog .neq 4 (.bool x) (.bool y)=some (.bool (x != y)):=by cases x<;>cases y<;>kernel_rfl
theorem Ko(x y:Bool):AS Tryz.prog .eql 4 (.bool x) (.bool y)=some (.bool (x == y)):=by cases x<;>cases y<;>kernel_rfl
theorem Y5(x y:Bool)(a b:Nat):Cj (x != y) (a * b)=Cj x a * Cj y b:=by
 unfold Cj
 cases x<;>cases y<;>simp[Int.neg_mul,Int.mul_neg]
theorem DD{a b j k:Nat}(ha:a<LB ^ j)(hb:b<LB ^ k):a * b<LB ^ (j+k):=by
 rw[Nat.pow_add]
 exact Nat.mul_lt_mul'' ha hb
theorem Hr{a b k:Nat}(ha:a<LB ^ k)(hb:b<LB ^ k):a+b<LB ^ (k+1):=by
 rw[sP]
 have:LB ^ k * 2≤LB ^ k * LB:=rf _ (by decide)
 omega
theorem E4{a j k:Nat}(ha:a<LB ^ j)(h:j≤k):a<LB ^ k:=rA ha (sn BG h)
theorem G3{l:List Nat}{k:Nat}(hs:Bv l)(h:l.length≤k):AH l<LB ^ k:=E4 (Cp hs) h
section
variable{E:CR}{s:AE}
theorem Fj{s1 s2:AE}{p:Nat}{x:Bool}{a:Option (Nat×Nat)}{n:Nat}{c:Option Nat}(hg:s2.heap.get p=some ZI):
  AM Tryz.prog s2 24 (.ptr (some (p,0))) (.agg [.bool x,.slice a n c])=some (setObj s2 p (BX x (.slice a n c)))∧AA Tryz.prog (setObj s2 p (BX x (.slice a n c))) 24 (.ptr (some (p,0)))=some (.agg [.bool x,.slice a n c]):=
 ⟨Ai Cl hg rfl rfl rfl (by simp),AG Dl Cl (Ww _ _ _) rfl⟩
theorem Og(hE:GoodN E){va vb:AV}{x y:Int}{ka kb:Nat}(ha:BI s va x ka)(hb:BI s vb y kb)(hk:ka+kb≤1000000000){K:AV→AE→Prop}(hK:∀s' v,Ae s.next s s'→BR s.next s' v (x * y)→K v s'):WF E 117 [va,vb] K s:=by
 obtain⟨na,ma,la,rfl,hma,hsa,hla,rfl⟩:=ha
 obtain⟨nb,mb,lb,rfl,hmb,hsb,hlb,rfl⟩:=hb
 obtain⟨aa,an,ac,rfl⟩:=hma.shape
 obtain⟨ba,bn,bc,rfl⟩:=hmb.shape
 refine hE.go bQ (by decide) rfl ?_
 obtain⟨n1,o1,g1,g2,g3⟩:=LK s (BX na (.slice aa an ac)) (BX nb (.slice ba bn bc)) ZI
 simp only[nU,Vn,Vo,Xa,Xh,EQ,Xc,Ap,Do,Cv,Qa,Qb,Qc,Qd,Qe,Qf,Qg,Qh,Qi,Qj,Qk,Ql,Qm,Qn,true_and,and_true,Qo,Qp,Qq,Qr,Qs,Qt,Qu,Qv,Qw,Qx,Qy,Qz,Ra,Rb,Rc,Rd,Re,Rf,Rg,Rh,Ri,Rj,Rk,Rm,Rn,Ro,Rp,Rq,Rt,Ya,Yb,Yc,Ru,Rw,Zb,Yd,Ye,Ry,Rz,Wa,Wb,Wc,Wd,We]
 generalize newObj (newObj (newObj s (BX na (.slice aa an ac))) (BX nb (.slice ba bn bc))) ZI=s1 at *
 have l1:=AI (P:=Tryz.prog) (t:=4) (o:=0+0) MI g1 rfl
 have l2:=AI (P:=Tryz.prog) (t:=22) (o:=0+1) CG g1 rfl
 have l3:=AI (P:=Tryz.prog) (t:=4) (o:=0+0) MI g2 rfl
 have l4:=AI (P:=Tryz.prog) (t:=22) (o:=0+1) CG g2 rfl
 simp only[l1,l2,l3,l4,ZM,Qa,Qb,Qc,Qd,Qe,Qf,Qg,Qh,Qi,Qj,Qk,Ql,Qm,Qn,true_and,and_true,Qo,Qp,Qq,Qr,Qs,Qt,Qu,Qv,Qw,Qx,Qy,Qz,Ra,Rb,Rc,Rd,Re,Rf,Rg,Rh,Ri,Rj,Rk,Rm,Rn,Ro,Rp,Rq,Rt,Ya,Yb,Yc,Ru,Rw,Zb,Yd,Ye,Ry,Rz,Wa,Wb,Wc,Wd,We]
 refine Nz hE (hma.old o1) (hmb.old o1) (by omega) (by omega) hsa hsb fun s2 v2 o2 r2=>?_
 have f1:=(o2.2 s.next (by omega)).trans g1
 have f2:=(o2.2 (s.next+1) (by omega)).trans g2
 have f3:=(o2.2 (s.next+1+1) (by omega)).trans g3
 refine⟨⟨Ak (by simp only[Qa,Qb,Qc,Qd,Qe,Qf,Qg,Qh,Qi,Qj,Qk,Ql,Qm,Qn,true_and,and_true,Qo,Qp,Qq,Qr,Qs,Qt,Qu,Qv,Qw,Qx,Qy,Qz,Ra,Rb,Rc,Rd,Re,Rf,Rg,Rh,Ri,Rj,Rk,Rm,Rn,Ro,Rp,Rq,Rt,Ya,Yb,Yc,Ru,Rw,Zb,Yd,Ye,Ry,Rz,Wa,Wb,Wc,Wd,We];exact AI (o:=0+0) MI f2 rfl) (FQ _),Ak (by simp only[Qa,Qb,Qc,Qd,Qe,Qf,Qg,Qh,Qi,Qj,Qk,Ql,Qm,Qn,true_and,and_true,Qo,Qp,Qq,Qr,Qs,Qt,Qu,Qv,Qw,Qx,Qy,Qz,Ra,Rb,Rc,Rd,Re,Rf,Rg,Rh,Ri,Rj,Rk,Rm,Rn,Ro,Rp,Rq,Rt,Ya,Yb,Yc,Ru,Rw,Zb,Yd,Ye,Ry,Rz,Wa,Wb,Wc,Wd,We];exact AI (o:=0+0) MI f1 rfl) (FQ _),trivial⟩,?_⟩
 have hlen:(AQ (AH la * AH lb)).length≤1000000000:=rD (As (DD (G3 hsa hla) (G3 hsb hlb))) hk
 simp only[Qa,Qb,Qc,Qd,Qe,Qf,Qg,Qh,Qi,Qj,Qk,Ql,Qm,Qn,true_and,and_true,Qo,Qp,Qq,Qr,Qs,Qt,Qu,Qv,Qw,Qx,Qy,Qz,Ra,Rb,Rc,Rd,Re,Rf,Rg,Rh,Ri,Rj,Rk,Rm,Rn,Ro,Rp,Rq,Rt,Ya,Yb,Yc,Ru,Rw,Zb,Yd,Ye,Ry,Rz,Wa,Wb,Wc,Wd,We]
 refine Hc hE r2.n32 hlen (AX _) fun s3 v3 o3 r3=>?_
 rw[Ab,Y5]at r3
 have q3:=(o3.2 (s.next+1+1) (by have:=o2.1;omega)).trans f3
 obtain⟨m3,rfl,r3⟩:=r3
 obtain⟨a3,n3,c3,rfl⟩:=r3.n32.shape
 obtain⟨st,ld⟩:=Fj (s1:=s) (x:=decide (Cj na (AH la) * Cj nb (AH lb)<0)) (a:=a3) (n:=n3) (c:=c3) q3
 simp only[st,ld,AO,Xy,Za,Qa,Qb,Qc,Qd,Qe,Qf,Qg,Qh,Qi,Qj,Qk,Ql,Qm,Qn,true_and,and_true,Qo,Qp,Qq,Qr,Qs,Qt,Qu,Qv,Qw,Qx,Qy,Qz,Ra,Rb,Rc,Rd,Re,Rf,Rg,Rh,Ri,Rj,Rk,Rm,Rn,Ro,Rp,Rq,Rt,Ya,Yb,Yc,Ru,Rw,Zb,Yd,Ye,Ry,Rz,Wa,Wb,Wc,Wd,We]
 have h2:=o2.1
 exact hK _ _ ((o1.trans ((o2.trans (o3.mono h2)).mono o1.1)).set (by omega) _) (BR.mono (b:=s2.next) ⟨_,rfl,r3.set (by omega) _⟩ (by omega))
end
theorem Z8{x y:Int}(h:decide (x<0)=decide (y<0)):Cj (decide (x<0)) (x.natAbs+y.natAbs)=x+y:=by
 unfold Cj
 by_cases hx:x<0
 ·have hy:y<0:=by rw[decide_eq_true hx]at h;exact of_decide_eq_true h.symm
  rw[if_pos (decide_eq_true hx)];omega
 ·have hy:¬ y<0:=by rw[decide_eq_false hx]at h;exact of_decide_eq_false h.symm
  rw[if_neg (by simpa using hx)];omega
theorem QF{x y:Int}(h:decide (x<0)≠decide (y<0))(hl:y.natAbs≤x.natAbs):Cj (decide (x<0)) (x.natAbs - y.natAbs)=x+y:=by
 unfold Cj
 by_cases hx:x<0
 ·have hy:¬ y<0:=fun hy=>h (by rw[decide_eq_true hx,decide_eq_true hy])
  rw[if_pos (decide_eq_true hx)];omega
 ·have hy:y<0:=Classical.byContradiction fun hy=>h (by rw[decide_eq_false hx,decide_eq_false hy])
  rw[if_neg (by simpa using hx)];omega
section
variable{E:CR}{s:AE}
theorem Od       (hE : GoodN E) {va vb : AV} {x y : Int} {ka kb : Nat} (ha : BI s va x ka) (hb : BI s vb y kb) (hk : ka + kb + 1 ≤ 1000000000) {K : AV → AE  → Prop} (hK : ∀ s' v, Ae  s.next s s' → BR s.next s' v (x + y) → K v s') : WF E 141 [va, vb] K s := by
  have ha0:=ha
  have hb0:=hb
  have xb:=ha.abs
  have yb:=hb.abs
  obtain⟨na,ma,la,rfl,hma,hsa,hla,hxa⟩:=ha
  obtain⟨nb,mb,lb,rfl,hmb,hsb,hlb,hyb⟩:=hb
  obtain⟨aa,an,ac,rfl⟩:=hma.shape
  obtain⟨ba,bn,bc,rfl⟩:=hmb.shape
  refine hE.go bT (by decide) rfl ?_
  obtain⟨n1,o1,g1,g2,g3⟩:=LK s (BX na (.slice aa an ac)) (BX nb (.slice ba bn bc)) ZI
  simp only[nY,V6,V7,Xa,Xh,EQ,Xc,Ap,Qa,Qb,Qc,Qd,Qe,Qf,Qg,Qh,Qi,Qj,Qk,Ql,Qm,Qn,true_and,and_true,Qo,Qp,Qq,Qr,Qs,Qt,Qu,Qv,Qw,Qx,Qy,Qz,Ra,Rb,Rc,Rd,Re,Rf,Rg,Rh,Ri,Rj,Rk,Rm,Rn,Ro,Rp,Rq,Rt,Ya,Yb,Yc,Ru,Rw,Zb,Yd,Ye,Ry,Rz,Wa,Wb,Wc,Wd,We]
  generalize newObj (newObj (newObj s (BX na (.slice aa an ac))) (BX nb (.slice ba bn bc))) ZI=s1 at *
  have l1:=AG (P:=Tryz.prog) (t:=24) Dl Cl g1 rfl
  have l2:=AG (P:=Tryz.prog) (t:=24) Dl Cl g2 rfl
  simp only[l1,l2,Qa,Qb,Qc,Qd,Qe,Qf,Qg,Qh,Qi,Qj,Qk,Ql,Qm,Qn,true_and,and_true,Qo,Qp,Qq,Qr,Qs,Qt,Qu,Qv,Qw,Qx,Qy,Qz,Ra,Rb,Rc,Rd,Re,Rf,Rg,Rh,Ri,Rj,Rk,Rm,Rn,Ro,Rp,Rq,Rt,Ya,Yb,Yc,Ru,Rw,Zb,Yd,Ye,Ry,Rz,Wa,Wb,Wc,Wd,We]
  refine KW hE (ha0.old o1) (by omega) fun s2 v2 o2 r2=>?_
  have f1:=(o2.2 s.next (by omega)).trans g1
  have f2:=(o2.2 (s.next+1) (by omega)).trans g2
  have f3:=(o2.2 (s.next+1+1) (by omega)).trans g3
  refine⟨⟨Ak (by simp only[Qa,Qb,Qc,Qd,Qe,Qf,Qg,Qh,Qi,Qj,Qk,Ql,Qm,Qn,true_and,and_true,Qo,Qp,Qq,Qr,Qs,Qt,Qu,Qv,Qw,Qx,Qy,Qz,Ra,Rb,Rc,Rd,Re,Rf,Rg,Rh,Ri,Rj,Rk,Rm,Rn,Ro,Rp,Rq,Rt,Ya,Yb,Yc,Ru,Rw,Zb,Yd,Ye,Ry,Rz,Wa,Wb,Wc,Wd,We];exact AG Dl Cl f2 rfl) (GW _ _ _ _),trivial⟩,?_⟩
  simp only[Qa,Qb,Qc,Qd,Qe,Qf,Qg,Qh,Qi,Qj,Qk,Ql,Qm,Qn,true_and,and_true,Qo,Qp,Qq,Qr,Qs,Qt,Qu,Qv,Qw,Qx,Qy,Qz,Ra,Rb,Rc,Rd,Re,Rf,Rg,Rh,Ri,Rj,Rk,Rm,Rn,Ro,Rp,Rq,Rt,Ya,Yb,Yc,Ru,Rw,Zb,Yd,Ye,Ry,Rz,Wa,Wb,Wc,Wd,We]
  have h2:=o2.1
  refine KW hE (hb0.old (o1.trans (o2.mono o1.1))) (by omega) fun s3 v3 o3 r3=>?_
  have h3:=o3.1
  have e1:=(o3.2 s.next (by omega)).trans f1
  have e2:=(o3.2 (s.next+1) (by omega)).trans f2
  have e3:=(o3.2 (s.next+1+1) (by omega)).trans f3
  have r2':=r2.old o3
  obtain⟨m2,rfl,q2⟩:=r2'
  obtain⟨m3,rfl,q3⟩:=r3
  obtain⟨a2,n2,c2,rfl⟩:=q2.n32.shape
  obtain⟨a3,n3,c3,rfl⟩:=q3.n32.shape
  have st1:=Ai (P:=Tryz.prog) (t:=24) (cs:=[.bool (decide (x<0)),.slice a2 n2 c2]) Cl e1 rfl rfl rfl (by simp)
  generalize hs4:setObj s3 s.next (BX (decide (x<0)) (.slice a2 n2 c2))=s4 at st1
  have e2':s4.heap.get (s.next+1)=some (BX nb (.slice ba bn bc)):=by rw[← hs4,Wx _ (by omega)];exact e2
  have st2:=Ai (P:=Tryz.prog) (t:=24) (cs:=[.bool (decide (y<0)),.slice a3 n3 c3]) Cl e2' rfl rfl rfl (by simp)
  generalize hs5:setObj s4 (s.next+1) (BX (decide (y<0)) (.slice a3 n3 c3))=s5 at st2
  have k1:s5.heap.get s.next=some (BX (decide (x<0)) (.slice a2 n2 c2)):=by rw[← hs5,Wx _ (by omega),← hs4,Ww]
  have k2:s5.heap.get (s.next+1)=some (BX (decide (y<0)) (.slice a3 n3 c3)):=by rw[← hs5,Ww]
  have k3:s5.heap.get (s.next+1+1)=some ZI:=by rw[← hs5,Wx _ (by omega),← hs4,Wx _ (by omega)];exact e3
  have n5:s5.next=s3.next:=by rw[← hs5,← hs4];rfl
  have o5:Ae s.next s s5:=by
    rw[← hs5,← hs4]
    exact((o1.trans ((o2.trans (o3.mono h2)).mono o1.1)).set (qw _) _).set (by omega) _
  have w2:NR s1.next s5 (.slice a2 n2 c2) (AQ x.natAbs):=by rw[← hs5,← hs4];exact(q2.set (by omega) _).set (by omega) _
  have w3:NR s2.next s5 (.slice a3 n3 c3) (AQ y.natAbs):=by rw[← hs5,← hs4];exact(q3.set (by omega) _).set (by omega) _
  have l1:=AI (P:=Tryz.prog) (t:=4) (o:=0+0) MI k1 rfl
  have l2:=AI (P:=Tryz.prog) (t:=22) (o:=0+1) CG k1 rfl
  have l3:=AI (P:=Tryz.prog) (t:=4) (o:=0+0) MI k2 rfl
  have l4:=AI (P:=Tryz.prog) (t:=22) (o:=0+1) CG k2 rfl
  have xl:=As xb
  have yl:=As yb
  have vx:=Ab x.natAbs
  have vy:=Ab y.natAbs
  have fin:∀ (sg:Bool) (s6:AE) (v6:AV) (L:Nat),Ae s5.next s5 s6→NR s5.next s6 v6 (AQ L)→L<LB ^ (ka+kb+1)→Cj sg L=x+y→∀K2:AV→AE→Prop,
      (∀s7 x7 a7 n7 c7,AM Tryz.prog s7 24 (.ptr (some (s.next+1+1,0))) (.agg [.bool x7,.slice a7 n7 c7])=some (setObj s7 (s.next+1+1) (BX x7 (.slice a7 n7 c7))) →
        AA Tryz.prog (setObj s7 (s.next+1+1) (BX x7 (.slice a7 n7 c7))) 24 (.ptr (some (s.next+1+1,0)))=some (.agg [.bool x7,.slice a7 n7 c7]) →
        K (.agg [.bool x7,.slice a7 n7 c7]) (setObj s7 (s.next+1+1) (BX x7 (.slice a7 n7 c7)))→K2 (.agg [.bool x7,.slice a7 n7 c7]) s7)→WF E 107 [.bool sg,v6] K2 s6:=by
    intro sg s6 v6 L o6 r6 hL hsg K2 hK2
    refine Hc hE r6.n32 (rD (As hL) hk) (AX _) fun s7 v7 o7 r7=>?_
    rw[Ab,hsg]at r7
    have h6:=o6.1
    have g7:s7.heap.get (s.next+1+1)=some ZI:=by rw[o7.2 _ (by omega),o6.2 _ (by omega)];exact k3
    obtain⟨m7,rfl,r7⟩:=r7
    obtain⟨a7,n7,c7,rfl⟩:=r7.n32.shape
    obtain⟨st,ld⟩:=Fj (s1:=s) (x:=decide (x+y<0)) (a:=a7) (n:=n7) (c:=c7) g7
    refine hK2 _ _ _ _ _ st ld (hK _ _ ((o5.trans ((o6.trans (o7.mono h6)).mono o5.1)).set (by omega) _) (BR.mono (b:=s6.next) ⟨_,rfl,r7.set (by omega) _⟩ (by omega)))
  have hm1:x.natAbs+y.natAbs<LB ^ (ka+kb+1):=Hr (E4 xb (by omega)) (E4 yb (by omega))
  by_cases hsg:decide (x<0)=decide (y<0)
  · have db:(decide (x<0) == decide (y<0))=true:=by rw[hsg];simp
    simp only[Q7,V8,st1,st2,l1,l2,l3,l4,Do,Cv,Ko,db,Xy,Za,Qa,Qb,Qc,Qd,Qe,Qf,Qg,Qh,Qi,Qj,Qk,Ql,Qm,Qn,true_and,and_true,Qo,Qp,Qq,Qr,Qs,Qt,Qu,Qv,Qw,Qx,Qy,Qz,Ra,Rb,Rc,Rd,Re,Rf,Rg,Rh,Ri,Rj,Rk,Rm,Rn,Ro,Rp,Rq,Rt,Ya,Yb,Yc,Ru,Rw,Zb,Yd,Ye,Ry,Rz,Wa,Wb,Wc,Wd,We]
    refine kB hE w2.n32 w3.n32 (by omega) (by omega) (AX _) (AX _) fun s6 v6 o6 r6=>?_
    rw[vx,vy]at r6
    refine⟨⟨Ak (by simp only[Qa,Qb,Qc,Qd,Qe,Qf,Qg,Qh,Qi,Qj,Qk,Ql,Qm,Qn,true_and,and_true,Qo,Qp,Qq,Qr,Qs,Qt,Qu,Qv,Qw,Qx,Qy,Qz,Ra,Rb,Rc,Rd,Re,Rf,Rg,Rh,Ri,Rj,Rk,Rm,Rn,Ro,Rp,Rq,Rt,Ya,Yb,Yc,Ru,Rw,Zb,Yd,Ye,Ry,Rz,Wa,Wb,Wc,Wd,We];exact AI (o:=0+0) MI ((o6.2 s.next (by omega)).trans k1) rfl) (FQ _),trivial⟩,?_⟩
    simp only[Qa,Qb,Qc,Qd,Qe,Qf,Qg,Qh,Qi,Qj,Qk,Ql,Qm,Qn,true_and,and_true,Qo,Qp,Qq,Qr,Qs,Qt,Qu,Qv,Qw,Qx,Qy,Qz,Ra,Rb,Rc,Rd,Re,Rf,Rg,Rh,Ri,Rj,Rk,Rm,Rn,Ro,Rp,Rq,Rt,Ya,Yb,Yc,Ru,Rw,Zb,Yd,Ye,Ry,Rz,Wa,Wb,Wc,Wd,We]
    refine fin _ s6 v6 _ o6 r6 hm1 (Z8 hsg) _ fun s7 x7 a7 n7 c7 st ld hk=>?_
    simp only[st,ld,AO,Xy,Za,Qa,Qb,Qc,Qd,Qe,Qf,Qg,Qh,Qi,Qj,Qk,Ql,Qm,Qn,true_and,and_true,Qo,Qp,Qq,Qr,Qs,Qt,Qu,Qv,Qw,Qx,Qy,Qz,Ra,Rb,Rc,Rd,Re,Rf,Rg,Rh,Ri,Rj,Rk,Rm,Rn,Ro,Rp,Rq,Rt,Ya,Yb,Yc,Ru,Rw,Zb,Yd,Ye,Ry,Rz,Wa,Wb,Wc,Wd,We]
    exact hk
  · have db:(decide (x<0) == decide (y<0))=false:=by simpa using hsg
    simp only[Q7,V9,st1,st2,l1,l2,l3,l4,Do,Cv,Ko,db,Xy,Za,Qa,Qb,Qc,Qd,Qe,Qf,Qg,Qh,Qi,Qj,Qk,Ql,Qm,Qn,true_and,and_true,Qo,Qp,Qq,Qr,Qs,Qt,Qu,Qv,Qw,Qx,Qy,Qz,Ra,Rb,Rc,Rd,Re,Rf,Rg,Rh,Ri,Rj,Rk,Rm,Rn,Ro,Rp,Rq,Rt,Ya,Yb,Yc,Ru,Rw,Zb,Yd,Ye,Ry,Rz,Wa,Wb,Wc,Wd,We]
    refine Z6 hE w2.n32 w3.n32 (by omega) (by omega) (AX _) (AX _) (fun hlt s6 o6=>?_) (fun hge s6 v6 o6 r6=>?_)
    · rw[vx,vy]at hlt
      have h6:=o6.1
      have u1:=(o6.2 s.next (by omega)).trans k1
      have u2:=(o6.2 (s.next+1) (by omega)).trans k2
      have l1:=AI (P:=Tryz.prog) (t:=4) (o:=0+0) MI u1 rfl
      have l2:=AI (P:=Tryz.prog) (t:=22) (o:=0+1) CG u1 rfl
      have l3:=AI (P:=Tryz.prog) (t:=4) (o:=0+0) MI u2 rfl
      have l4:=AI (P:=Tryz.prog) (t:=22) (o:=0+1) CG u2 rfl
      simp only[Q8,WB,Zb,l1,l2,l3,l4,Do,Cv,Qa,Qb,Qc,Qd,Qe,Qf,Qg,Qh,Qi,Qj,Qk,Ql,Qm,Qn,true_and,and_true,Qo,Qp,Qq,Qr,Qs,Qt,Qu,Qv,Qw,Qx,Qy,Qz,Ra,Rb,Rc,Rd,Re,Rf,Rg,Rh,Ri,Rj,Rk,Rm,Rn,Ro,Rp,Rq,Rt,Ya,Yb,Yc,Ru,Rw,Zb,Yd,Ye,Ry,Rz,Wa,Wb,Wc,Wd,We]
      refine Z6 hE (w3.n32.old o6) (w2.n32.old o6) (by omega) (by omega) (AX _) (AX _) (fun h=>by rw[vx,vy]at h;omega) (fun _ s7 v7 o7 r7=>?_)
      rw[vx,vy]at r7
      have l5:=AI (P:=Tryz.prog) (t:=4) (o:=0+0) MI ((o7.2 (s.next+1) (by omega)).trans u2) rfl
      simp only[WD,Zb,l5,Do,Qa,Qb,Qc,Qd,Qe,Qf,Qg,Qh,Qi,Qj,Qk,Ql,Qm,Qn,true_and,and_true,Qo,Qp,Qq,Qr,Qs,Qt,Qu,Qv,Qw,Qx,Qy,Qz,Ra,Rb,Rc,Rd,Re,Rf,Rg,Rh,Ri,Rj,Rk,Rm,Rn,Ro,Rp,Rq,Rt,Ya,Yb,Yc,Ru,Rw,Zb,Yd,Ye,Ry,Rz,Wa,Wb,Wc,Wd,We]
      refine fin _ s7 v7 _ (o6.trans (o7.mono h6)) (r7.mono h6) (rX (by omega) hm1) ?_ _ fun s7 x7 a7 n7 c7 st ld hk=>?_
      · rw[Int.add_comm x y];exact QF (fun e=>hsg e.symm) (by omega)
      · simp only[st,ld,AO,Xy,Za,Qa,Qb,Qc,Qd,Qe,Qf,Qg,Qh,Qi,Qj,Qk,Ql,Qm,Qn,true_and,and_true,Qo,Qp,Qq,Qr,Qs,Qt,Qu,Qv,Qw,Qx,Qy,Qz,Ra,Rb,Rc,Rd,Re,Rf,Rg,Rh,Ri,Rj,Rk,Rm,Rn,Ro,Rp,Rq,Rt,Ya,Yb,Yc,Ru,Rw,Zb,Yd,Ye,Ry,Rz,Wa,Wb,Wc,Wd,We]
        exact hk
    · rw[vx,vy]at hge r6
      have u1:=(o6.2 s.next (by omega)).trans k1
      have l1:=AI (P:=Tryz.prog) (t:=4) (o:=0+0) MI u1 rfl
      simp only[Q8,WA,Zb,l1,Do,Qa,Qb,Qc,Qd,Qe,Qf,Qg,Qh,Qi,Qj,Qk,Ql,Qm,Qn,true_and,and_true,Qo,Qp,Qq,Qr,Qs,Qt,Qu,Qv,Qw,Qx,Qy,Qz,Ra,Rb,Rc,Rd,Re,Rf,Rg,Rh,Ri,Rj,Rk,Rm,Rn,Ro,Rp,Rq,Rt,Ya,Yb,Yc,Ru,Rw,Zb,Yd,Ye,Ry,Rz,Wa,Wb,Wc,Wd,We]
      refine fin _ s6 v6 _ o6 r6 (rX (by omega) hm1) (QF hsg hge) _ fun s7 x7 a7 n7 c7 st ld hk=>?_
      simp only[st,ld,AO,Xy,Za,Qa,Qb,Qc,Qd,Qe,Qf,Qg,Qh,Qi,Qj,Qk,Ql,Qm,Qn,true_and,and_true,Qo,Qp,Qq,Qr,Qs,Qt,Qu,Qv,Qw,Qx,Qy,Qz,Ra,Rb,Rc,Rd,Re,Rf,Rg,Rh,Ri,Rj,Rk,Rm,Rn,Ro,Rp,Rq,Rt,Ya,Yb,Yc,Ru,Rw,Zb,Yd,Ye,Ry,Rz,Wa,Wb,Wc,Wd,We]
      exact hk
end
theorem UI{n:Int}(h:n=0∨n=1∨n=-1)(s:AE):∃m:Nat,m=n.natAbs ∧
  ((decide (n<0)=false∧At Tryz.prog s 2 69 (iv n)=some (Aj m))∨(decide (n<0)=true∧At Tryz.prog s 2 69 (iv n)=some (.int .u64 18446744073709551615)∧U3 Tryz.prog Go.UnOp.neg (.int .u64 18446744073709551615)=some (Aj m))):=by
 rcases h with rfl | rfl | rfl
 ·exact⟨0,rfl,.inl ⟨rfl,by kernel_rfl⟩⟩
 ·exact⟨1,rfl,.inl ⟨rfl,by kernel_rfl⟩⟩
 ·exact⟨1,rfl,.inr ⟨rfl,by kernel_rfl,by kernel_rfl⟩⟩
section
variable{E:CR}{s:AE}
theorem IA       (hE : GoodN E) {n : Int} (h : n = 0 ∨ n = 1 ∨ n = -1) {K : AV → AE  → Prop} (hK : ∀ s' v, Ae  s.next s s' → BR s.next s' v n → K v s') : WF E 60 [iv n] K s := by
  refine hE.go lM (by decide) rfl ?_
  obtain⟨n1,o1,g1⟩:=Bl s ZI
  have hn:=UI h (newObj s ZI)
  obtain⟨m,hm,hcase⟩:=hn
  have hm1:m≤1:=by rcases h with rfl | rfl | rfl<;>simp at hm<;>omega
  have e3:AS Tryz.prog .shr 69 (Aj m) (.int .u64 32)=some (Aj (m / 4294967296)):=Ip Tryz.prog 69 (k:=.u64) (n:=32) (by decide)
  have e4:m / 4294967296=0:=by omega
  have e5:m % 4294967296=m:=by omega
  rw[e4]at e3
  have key:∀neg:Bool,neg=decide (n<0)→∀ (K2:AV→AE→Prop),(∀s7 x7 a7 n7 c7,AM Tryz.prog s7 24 (.ptr (some (s.next,0))) (.agg [.bool x7,.slice a7 n7 c7])=some (setObj s7 s.next (BX x7 (.slice a7 n7 c7))) →
        AA Tryz.prog (setObj s7 s.next (BX x7 (.slice a7 n7 c7))) 24 (.ptr (some (s.next,0)))=some (.agg [.bool x7,.slice a7 n7 c7]) →
        K (.agg [.bool x7,.slice a7 n7 c7]) (setObj s7 s.next (BX x7 (.slice a7 n7 c7)))→K2 (.agg [.bool x7,.slice a7 n7 c7]) s7) →
      WF E 107 [.bool neg,.slice (some ((newObj s ZI).next,0)) 2 (some 2)] K2 (newObj (newObj s ZI) (R 76 1 false [BV m,BV 0])):=by
    intro neg hneg K2 hK2
    obtain⟨n2,o2,g2⟩:=Bl (newObj s ZI) (R 76 1 false [BV m,BV 0])
    generalize newObj (newObj s ZI) (R 76 1 false [BV m,BV 0])=s2 at *
    generalize newObj s ZI=s1 at *
    have hN:C7 s2 (.slice (some (s1.next,0)) 2 (some 2)) [m,0]:=⟨some (s1.next,0),some 2,rfl,.inl ⟨2,rfl,qw _,fun e=>by cases e⟩,J7 g2 (by omega)⟩
    refine Hc hE hN (by simp) (fun x hx=>?_) fun s7 v7 o7 r7=>?_
    · rcases tN.1            hx with rfl | hx
      · exact rX hm1 (by decide)
      · rw[List.mem_singleton.1 hx];exact(by decide)
    have hv:Cj neg (AH [m,0])=n:=by
      have:AH [m,0]=n.natAbs:=by rw[← hm];simp[AH]
      rw[this,hneg]
      exact GZ n
    rw[hv]at r7
    have g7:s7.heap.get s.next=some ZI:=by rw[o7.2 _ (by omega),o2.2 _ (by omega)];exact g1
    obtain⟨m7,rfl,r7⟩:=r7
    obtain⟨a7,n7,c7,rfl⟩:=r7.n32.shape
    obtain⟨st,ld⟩:=Fj (s1:=s) (x:=decide (n<0)) (a:=a7) (n:=n7) (c:=c7) g7
    have h2:=o2.1
    refine hK2 _ _ _ _ _ st ld (hK _ _ ((o1.trans ((o2.trans (o7.mono h2)).mono o1.1)).set (by omega) _) (BR.mono (b:=s2.next) ⟨_,rfl,r7.set (by omega) _⟩ (by omega)))
  rcases hcase with⟨d,c1⟩ | ⟨d,c1,c2⟩
  · simp only[pH,X0,X1,X2,X3,EQ,Xc,c1,Ry,d,CC,e3,e5,Nat.zero_mod,OD,Xe,Qa,Qb,Qc,Qd,Qe,Qf,Qg,Qh,Qi,Qj,Qk,Ql,Qm,Qn,true_and,and_true,Qo,Qp,Qq,Qr,Qs,Qt,Qu,Qv,Qw,Qx,Qy,Qz,Ra,Rb,Rc,Rd,Re,Rf,Rg,Rh,Ri,Rj,Rk,Rm,Rn,Ro,Rp,Rq,Rt,Ya,Yb,Yc,Ru,Rw,Zb,Yd,Ye,Ry,Rz,Wa,Wb,Wc,Wd,We]
    refine key false d.symm _ fun s7 x7 a7 n7 c7 st ld hk=>?_
    simp only[st,ld,AO,Xy,Za,Qa,Qb,Qc,Qd,Qe,Qf,Qg,Qh,Qi,Qj,Qk,Ql,Qm,Qn,true_and,and_true,Qo,Qp,Qq,Qr,Qs,Qt,Qu,Qv,Qw,Qx,Qy,Qz,Ra,Rb,Rc,Rd,Re,Rf,Rg,Rh,Ri,Rj,Rk,Rm,Rn,Ro,Rp,Rq,Rt,Ya,Yb,Yc,Ru,Rw,Zb,Yd,Ye,Ry,Rz,Wa,Wb,Wc,Wd,We]
    exact hk
  · simp only[pH,X0,X1,X2,iE,X3,EQ,Xc,c1,c2,Ry,d,CC,e3,e5,Nat.zero_mod,OD,Xe,Qa,Qb,Qc,Qd,Qe,Qf,Qg,Qh,Qi,Qj,Qk,Ql,Qm,Qn,true_and,and_true,Qo,Qp,Qq,Qr,Qs,Qt,Qu,Qv,Qw,Qx,Qy,Qz,Ra,Rb,Rc,Rd,Re,Rf,Rg,Rh,Ri,Rj,Rk,Rm,Rn,Ro,Rp,Rq,Rt,Ya,Yb,Yc,Ru,Rw,Zb,Yd,Ye,Ry,Rz,Wa,Wb,Wc,Wd,We]
    refine key true d.symm _ fun s7 x7 a7 n7 c7 st ld hk=>?_
    simp only[st,ld,AO,Xy,Za,Qa,Qb,Qc,Qd,Qe,Qf,Qg,Qh,Qi,Qj,Qk,Ql,Qm,Qn,true_and,and_true,Qo,Qp,Qq,Qr,Qs,Qt,Qu,Qv,Qw,Qx,Qy,Qz,Ra,Rb,Rc,Rd,Re,Rf,Rg,Rh,Ri,Rj,Rk,Rm,Rn,Ro,Rp,Rq,Rt,Ya,Yb,Yc,Ru,Rw,Zb,Yd,Ye,Ry,Rz,Wa,Wb,Wc,Wd,We]
    exact hk
end
theorem Ag{P:Program}{s:AE}{i e sz t n o:Nat}{sp:Bool}{cs:List AV}(ht:Dx P t=some true)(hs:A7 P t=some n)(hg:s.heap.get i=some (R e sz sp cs))(hl:o+n≤cs.length):AA P s t (.ptr (some (i,o)))=some (.agg ((cs.drop o).take n)):=by
 rw[Wg ht,hs,Option.bind_some,hg,Wp hl]
 rfl
theorem BI.shape{s:AE}{v:AV}{z:Int}{k:Nat}(h:BI s v z k):∃x a n c,v=.agg [.bool x,.slice a n c]:=by
 obtain⟨neg,m,l,rfl,hm,_⟩:=h
 obtain⟨a,n,c,rfl⟩:=hm.shape
 exact⟨_,_,_,_,rfl⟩
section
variable{E:CR}{s:AE}
theorem MV{S:AE}{p i:Nat}(hi:i<2){f:FuncId}{x0:Bool}{a0:Option (Nat×Nat)}{n0:Nat}{c0:Option Nat}{x1:Bool}{a1:Option (Nat×Nat)}{n1:Nat}{c1:Option Nat}{ri:Nat}
  (hp:p+1<S.next) (hb:S.heap.get p=some (BX x0 (.slice a0 n0 c0))) (hel:AA Tryz.prog S 24 (.ptr (some (ri,0+i * 2)))=some (.agg [.bool x1,.slice a1 n1 c1])) {r:Int}
  (hf:∀ (s:AE) (K:AV→AE→Prop),Ae S.next S s→(∀s' v,Ae s.next s s'→BR s.next s' v r→K v s')→WF E f [.agg [.bool x0,.slice a0 n0 c0],.agg [.bool x1,.slice a1 n1 c1]] K s)
  {Q:Ax→Prop} {y0 y1 y5 y9:AV}
  (hgo:∀ (s':AE) (x2:Bool) (a2:Option (Nat×Nat)) (n2:Nat) (c2:Option Nat) (y5 y9:AV),S.next≤s'.next→(∀j,j<S.next→j≠p→s'.heap.get j=S.heap.get j)→s'.heap.get p=some (BX x2 (.slice a2 n2 c2))→BR S.next s' (.agg [.bool x2,.slice a2 n2 c2]) r →
   WC E none (.loop Iy) Q [y0,y1,.func f [] [],.ptr (some (p,0)),.ptr (some (p+1,0)),y5,.slice (some (ri,0)) 2 (some 2),iv 2,iv ((i+1:Nat):Int),y9] [] s'):
  WC E none (.loop Iy) Q [y0,y1,.func f [] [],.ptr (some (p,0)),.ptr (some (p+1,0)),y5,.slice (some (ri,0)) 2 (some 2),iv 2,iv (i:Int),y9] [] S:=by
 have dd:decide ((i:Int)<2)=true:=decide_eq_true (by omega)
 have e1:=Ah (cap:=some 2) (i:=ri) (o:=0) (n:=2) Tryz.underlying134 Cl (show i<2 from hi)
 have e17:=BU Tryz.prog 3 (i:Int) 1 ⟨by omega,by omega⟩
 have e17':((i:Int)+1)=((i+1:Nat):Int):=by omega
 refine WC.loop' ?_
 generalize hW:WC E none (Ad.loop Iy) Q=WW
 obtain⟨m1,o1,g1⟩:=Bl S ZI
 simp only[Iy,Q4,Vj,Ry,dd,e1,hel,EQ,Xc,Qa,Qb,Qc,Qd,Qe,Qf,Qg,Qh,Qi,Qj,Qk,Ql,Qm,Qn,true_and,and_true,Qo,Qp,Qq,Qr,Qs,Qt,Qu,Qv,Qw,Qx,Qy,Qz,Ra,Rb,Rc,Rd,Re,Rf,Rg,Rh,Ri,Rj,Rk,Rm,Rn,Ro,Rp,Rq,Rt,Ya,Yb,Yc,Ru,Rw,Zb,Yd,Ye,Ry,Rz,Wa,Wb,Wc,Wd,We]
 generalize hs1:newObj S ZI=s1 at *
 have st:=Ai (P:=Tryz.prog) (t:=24) (cs:=[.bool x1,.slice a1 n1 c1]) Cl g1 rfl rfl rfl (by simp)
 generalize hs2:setObj s1 S.next (R 24 0 false [.bool x1,.slice a1 n1 c1])=s2 at st
 have o2:Ae S.next S s2:=by rw[← hs2];exact o1.set (qw _) _
 have n2:s2.next=S.next+1:=by rw[← hs2];exact m1
 have k1:s2.heap.get p=some (BX x0 (.slice a0 n0 c0)):=(o2.2 p (by omega)).trans hb
 have k2:s2.heap.get S.next=some (R 24 0 false [.bool x1,.slice a1 n1 c1]):=by rw[← hs2,Ww]
 have l1:=AG (P:=Tryz.prog) (t:=24) Dl Cl k1 rfl
 have l2:=AG (P:=Tryz.prog) (t:=24) Dl Cl k2 rfl
 simp only[Vk,st,l1,l2,Xy,Za,Qa,Qb,Qc,Qd,Qe,Qf,Qg,Qh,Qi,Qj,Qk,Ql,Qm,Qn,true_and,and_true,Qo,Qp,Qq,Qr,Qs,Qt,Qu,Qv,Qw,Qx,Qy,Qz,Ra,Rb,Rc,Rd,Re,Rf,Rg,Rh,Ri,Rj,Rk,Rm,Rn,Ro,Rp,Rq,Rt,Ya,Yb,Yc,Ru,Rw,Zb,Yd,Ye,Ry,Rz,Wa,Wb,Wc,Wd,We]
 refine hf s2 _ o2 fun s3 v3 o3 r3=>?_
 have k3:s3.heap.get p=some (BX x0 (.slice a0 n0 c0)):=(o3.2 p (by omega)).trans k1
 obtain⟨m3,rfl,r3'⟩:=r3
 obtain⟨a3,n3,c3,rfl⟩:=r3'.n32.shape
 have st3:=Ai (P:=Tryz.prog) (t:=24) (cs:=[.bool (decide (r<0)),.slice a3 n3 c3]) Cl k3 rfl rfl rfl (by simp)
 simp only[st3,Xy,Za,Vl,e17,e17',Qa,Qb,Qc,Qd,Qe,Qf,Qg,Qh,Qi,Qj,Qk,Ql,Qm,Qn,true_and,and_true,Qo,Qp,Qq,Qr,Qs,Qt,Qu,Qv,Qw,Qx,Qy,Qz,Ra,Rb,Rc,Rd,Re,Rf,Rg,Rh,Ri,Rj,Rk,Rm,Rn,Ro,Rp,Rq,Rt,Ya,Yb,Yc,Ru,Rw,Zb,Yd,Ye,Ry,Rz,Wa,Wb,Wc,Wd,We]
 rw[← hW]
 have h3:=o3.1
 refine hgo _ (decide (r<0)) a3 n3 c3 _ _ ?_ (fun j hj hne=>?_) (Ww _ _ _) (BR.mono (b:=s2.next) ⟨_,rfl,r3'.set (by omega) _⟩ (by omega))
 ·show S.next≤s3.next;omega
 ·rw[Wx _ hne,o3.2 j (by omega),o2.2 j hj]
theorem TW(hE:GoodN E){f:FuncId}{v0 vx vy:AV}{z0 x y r:Int}{k0 kx ky ri:Nat}(h0:BI s v0 z0 k0)(hx:BI s vx x kx)(hy:BI s vy y ky){xc yc:List AV}(hxc:vx=.agg xc)(hyc:vy=.agg yc)(hri:ri<s.next)(hrow:s.heap.get ri=some (R 24 2 false (xc++yc)))
  (h1:∀ (s:AE) (va vb:AV) (K:AV→AE→Prop),BI s va z0 k0→BI s vb x kx→(∀s' v,Ae s.next s s'→BR s.next s' v x→K v s')→WF E f [va,vb] K s)
  (h2:∀ (s:AE) (va vb:AV) (K:AV→AE→Prop),BI s va x kx→BI s vb y ky→(∀s' v,Ae s.next s s'→BR s.next s' v r→K v s')→WF E f [va,vb] K s)
  {K:AV→AE→Prop} (hK:∀s' v,Ae s.next s s'→BR s.next s' v r→K v s'):WF E 116 [v0,.slice (some (ri,0)) 2 (some 2),.func f [] []] K s:=by
 have xabs:=hx.abs
 obtain⟨x0,a0,n0,c0,rfl⟩:=h0.shape
 obtain⟨x1,a1,m1,c1,e1⟩:=hx.shape
 obtain⟨x2,a2,m2,c2,e2⟩:=hy.shape
 rw[hxc]at e1;rw[hyc]at e2
 injection e1 with e1;injection e2 with e2
 subst e1;subst e2;subst hxc;subst hyc
 refine hE.go bP (by decide) rfl ?_
 obtain⟨n1,o1,g1,g2⟩:=D4 s (BX x0 (.slice a0 n0 c0)) ZI
 simp only[nT,Vh,Vi,Xa,Xh,EQ,Xc,Ap,AN Tryz.underlying134,Qa,Qb,Qc,Qd,Qe,Qf,Qg,Qh,Qi,Qj,Qk,Ql,Qm,Qn,true_and,and_true,Qo,Qp,Qq,Qr,Qs,Qt,Qu,Qv,Qw,Qx,Qy,Qz,Ra,Rb,Rc,Rd,Re,Rf,Rg,Rh,Ri,Rj,Rk,Rm,Rn,Ro,Rp,Rq,Rt,Ya,Yb,Yc,Ru,Rw,Zb,Yd,Ye,Ry,Rz,Wa,Wb,Wc,Wd,We]
 generalize newObj (newObj s (BX x0 (.slice a0 n0 c0))) ZI=s1 at *
 have hr1:=(o1.2 ri hri).trans hrow
 have el0:AA Tryz.prog s1 24 (.ptr (some (ri,0+0 * 2)))=some (.agg [.bool x1,.slice a1 m1 c1]):=Ag (o:=0) (n:=2) Dl Cl hr1 (by simp)
 refine MV (S:=s1) (p:=s.next) (i:=0) (by omega) (by omega) g1 el0 (fun s2 K2 o2 hk=>h1 s2 _ _ K2 (h0.old (o1.trans (o2.mono o1.1))) (hx.old (o1.trans (o2.mono o1.1))) hk) fun s2 x3 a3 n3 c3 y5 y9 q1 q2 q3 q4=>?_
 have o12:Ae s.next s s2:=⟨by have:=o1.1;omega,fun j hj=>by rw[q2 j (by omega) (by omega),o1.2 j hj]⟩
 have hr2:=(o12.2 ri hri).trans hrow
 have el1:AA Tryz.prog s2 24 (.ptr (some (ri,0+1 * 2)))=some (.agg [.bool x2,.slice a2 m2 c2]):=Ag (o:=2) (n:=2) Dl Cl hr2 (by simp)
 refine MV (S:=s2) (p:=s.next) (i:=0+1) (by omega) (by omega) q3 el1 (fun s3 K3 o3 hk=>h2 s3 _ _ K3 ((q4.bi xabs).old o3) (hy.old (o12.trans (o3.mono o12.1))) hk) fun s3 x4 a4 n4 c4 y5 y9 w1 w2 w3 w4=>?_
 have o13:Ae s.next s s3:=⟨by have:=o12.1;omega,fun j hj=>by rw[w2 j (by have:=o12.1;omega) (by omega),o12.2 j hj]⟩
 have dd:decide (((0+1+1:Nat):Int)<2)=false:=rfl
 refine WC.loop' ?_
 have l1:=AG (P:=Tryz.prog) (t:=24) Dl Cl w3 rfl
 have g3:s3.heap.get (s.next+1)=some ZI:=by rw[w2 _ (by omega) (by omega),q2 _ (by omega) (by omega)];exact g2
 obtain⟨st,ld⟩:=Fj (s1:=s) (x:=x4) (a:=a4) (n:=n4) (c:=c4) g3
 simp only[Iy,Q4,Vm,Ry,dd,l1,st,ld,if_true,AO,Xy,Za,Qa,Qb,Qc,Qd,Qe,Qf,Qg,Qh,Qi,Qj,Qk,Ql,Qm,Qn,true_and,and_true,Qo,Qp,Qq,Qr,Qs,Qt,Qu,Qv,Qw,Qx,Qy,Qz,Ra,Rb,Rc,Rd,Re,Rf,Rg,Rh,Ri,Rj,Rk,Rm,Rn,Ro,Rp,Rq,Rt,Ya,Yb,Yc,Ru,Rw,Zb,Yd,Ye,Ry,Rz,Wa,Wb,Wc,Wd,We]
 exact hK _ _ (o13.set (by omega) _) ((w4.set (by omega) _).mono (by have:=o12.1;omega))
theorem JJ(x y:Bool)(a b:Option (Nat×Nat))(n m:Nat)(c d:Option Nat):Af Tryz.prog 134 2 (zipIdx [0,1] [.agg [.bool x,.slice a n c],.agg [.bool y,.slice b m d]])=some (R 24 2 false [.bool x,.slice a n c,.bool y,.slice b m d]):=by kernel_rfl
theorem af(s:AE):BI s (.agg [.bool false,.slice none 0 (some 0)]) 0 0:=⟨false,_,[],rfl,(NR.nil 0 s).n32,fun x hx=>(by cases hx),qw _,rfl⟩
theorem aZ(hE:GoodN E){vx vy:AV}{x y:Int}{kx ky ri:Nat}(hx:BI s vx x kx)(hy:BI s vy y ky)(hk:kx+ky+1≤1000000000){xc yc:List AV}(hxc:vx=.agg xc)(hyc:vy=.agg yc)(hri:ri<s.next)(hrow:s.heap.get ri=some (R 24 2 false (xc++yc)))
  {K:AV→AE→Prop} (hK:∀s' v,Ae s.next s s'→BR s.next s' v (x+y)→K v s'):WF E 113 [.slice (some (ri,0)) 2 (some 2)] K s:=by
 refine hE.go bN (by decide) rfl ?_
 have hbz:B7 Tryz.prog 24 (zipIdx [] [])=some (.agg [.bool false,.slice none 0 (some 0)]):=by kernel_rfl
 obtain⟨n1,o1,g1⟩:=Bl s ZI
 simp only[nR,Vd,Ve,EQ,Xc,hbz,Qa,Qb,Qc,Qd,Qe,Qf,Qg,Qh,Qi,Qj,Qk,Ql,Qm,Qn,true_and,and_true,Qo,Qp,Qq,Qr,Qs,Qt,Qu,Qv,Qw,Qx,Qy,Qz,Ra,Rb,Rc,Rd,Re,Rf,Rg,Rh,Ri,Rj,Rk,Rm,Rn,Ro,Rp,Rq,Rt,Ya,Yb,Yc,Ru,Rw,Zb,Yd,Ye,Ry,Rz,Wa,Wb,Wc,Wd,We]
 generalize newObj s ZI=s1 at *
 refine TW hE (af s1) (hx.old o1) (hy.old o1) hxc hyc (by omega) ((o1.2 ri hri).trans hrow) (r:=x+y)
  (fun s va vb K ha hb hk'=>Od hE ha hb (by omega) (by rw[Int.zero_add];exact hk')) (fun s va vb K ha hb hk'=>Od hE ha hb hk hk') fun s2 v2 o2 r2=>?_
 obtain⟨m2,rfl,q2⟩:=r2
 obtain⟨a2,n2,c2,rfl⟩:=q2.n32.shape
 obtain⟨st,ld⟩:=Fj (s1:=s) (x:=decide (x+y<0)) (a:=a2) (n:=n2) (c:=c2) ((o2.2 s.next (by omega)).trans g1)
 simp only[st,ld,AO,Xy,Za,Qa,Qb,Qc,Qd,Qe,Qf,Qg,Qh,Qi,Qj,Qk,Ql,Qm,Qn,true_and,and_true,Qo,Qp,Qq,Qr,Qs,Qt,Qu,Qv,Qw,Qx,Qy,Qz,Ra,Rb,Rc,Rd,Re,Rf,Rg,Rh,Ri,Rj,Rk,Rm,Rn,Ro,Rp,Rq,Rt,Ya,Yb,Yc,Ru,Rw,Zb,Yd,Ye,Ry,Rz,Wa,Wb,Wc,Wd,We]
 exact hK _ _ ((o1.trans (o2.mono o1.1)).set (qw _) _) (BR.mono (b:=s1.next) ⟨_,rfl,q2.set (by omega) _⟩ (by omega))
theorem St(hE:GoodN E){vx vy:AV}{x y:Int}{kx ky ri:Nat}(hx:BI s vx x kx)(hy:BI s vy y ky)(hk:kx+ky+1≤1000000000){xc yc:List AV}(hxc:vx=.agg xc)(hyc:vy=.agg yc)(hri:ri<s.next)(hrow:s.heap.get ri=some (R 24 2 false (xc++yc)))
  {K:AV→AE→Prop} (hK:∀s' v,Ae s.next s s'→BR s.next s' v (x * y)→K v s'):WF E 71 [.slice (some (ri,0)) 2 (some 2)] K s:=by
 refine hE.go lV (by decide) rfl ?_
 obtain⟨n1,o1,g1⟩:=Bl s ZI
 simp only[qg,ie,ig,EQ,Xc,Qa,Qb,Qc,Qd,Qe,Qf,Qg,Qh,Qi,Qj,Qk,Ql,Qm,Qn,true_and,and_true,Qo,Qp,Qq,Qr,Qs,Qt,Qu,Qv,Qw,Qx,Qy,Qz,Ra,Rb,Rc,Rd,Re,Rf,Rg,Rh,Ri,Rj,Rk,Rm,Rn,Ro,Rp,Rq,Rt,Ya,Yb,Yc,Ru,Rw,Zb,Yd,Ye,Ry,Rz,Wa,Wb,Wc,Wd,We]
 generalize newObj s ZI=s1 at *
 refine IA hE (n:=1) (.inr (.inl rfl)) fun s2 v2 o2 r2=>?_
 have h12:=o1.trans (o2.mono o1.1)
 simp only[Qa,Qb,Qc,Qd,Qe,Qf,Qg,Qh,Qi,Qj,Qk,Ql,Qm,Qn,true_and,and_true,Qo,Qp,Qq,Qr,Qs,Qt,Qu,Qv,Qw,Qx,Qy,Qz,Ra,Rb,Rc,Rd,Re,Rf,Rg,Rh,Ri,Rj,Rk,Rm,Rn,Ro,Rp,Rq,Rt,Ya,Yb,Yc,Ru,Rw,Zb,Yd,Ye,Ry,Rz,Wa,Wb,Wc,Wd,We]
 refine TW hE (r2.bi (k:=1) (by decide)) (hx.old h12) (hy.old h12) hxc hyc (by have:=h12.1;omega) ((h12.2 ri hri).trans hrow) (r:=x * y)
  (fun s va vb K ha hb hk'=>Og hE ha hb (by omega) (by rw[Int.one_mul];exact hk')) (fun s va vb K ha hb hk'=>Og hE ha hb (by omega) hk') fun s3 v3 o3 r3=>?_
 have h2:=o2.1
 obtain⟨m3,rfl,q3⟩:=r3
 obtain⟨a3,n3,c3,rfl⟩:=q3.n32.shape
 obtain⟨st,ld⟩:=Fj (s1:=s) (x:=decide (x * y<0)) (a:=a3) (n:=n3) (c:=c3) ((o3.2 s.next (by omega)).trans ((o2.2 s.next (by omega)).trans g1))
 simp only[st,ld,AO,Xy,Za,Qa,Qb,Qc,Qd,Qe,Qf,Qg,Qh,Qi,Qj,Qk,Ql,Qm,Qn,true_and,and_true,Qo,Qp,Qq,Qr,Qs,Qt,Qu,Qv,Qw,Qx,Qy,Qz,Ra,Rb,Rc,Rd,Re,Rf,Rg,Rh,Ri,Rj,Rk,Rm,Rn,Ro,Rp,Rq,Rt,Ya,Yb,Yc,Ru,Rw,Zb,Yd,Ye,Ry,Rz,Wa,Wb,Wc,Wd,We]
 exact hK _ _ ((h12.trans (o3.mono h12.1)).set (qw _) _) (BR.mono (b:=s2.next) ⟨_,rfl,q3.set (by omega) _⟩ (by omega))
end
theorem F2(z:Int):(z<0∧FG z=-1)∨(z=0∧FG z=0)∨(0<z∧FG z=1):=by
  unfold FG
  by_cases h1:z<0
  · exact .inl ⟨h1,if_pos h1⟩
  · by_cases h2 : 0 < z
    · exact .inr (.inr ⟨h2,by rw[if_neg h1,if_pos h2]⟩)
    · exact .inr (.inl ⟨by omega,by rw[if_neg h1,if_neg h2]⟩)
section
variable{E:CR}{s:AE}
end
end
end Go.Proofs.YtjnkfbpadpmakaaGreatDoor.Am
set_option linter.unusedVariables false
set_option linter.unusedSimpArgs false
set_option maxRecDepth 100000
namespace Go.Proofs.YtjnkfbpadpmakaaGreatDoor.Am
open Go Go.Proofs
noncomputable section
theorem Ar:A7 Tryz.prog 26=some 3:=by kernel_rfl
theorem kD:DN Tryz.prog 26=some 56:=by kernel_rfl
theorem BH:Dx Tryz.prog 26=some true:=by kernel_rfl
theorem pm:Eb Tryz.prog 26=some (.agg [(.bool false),(.slice none 0 (some 0)),(.slice none 0 (some 0))]):=by kernel_rfl
theorem ES(i o:Nat):AC Tryz.prog 26 (.ptr (some (i,o))) 0=some (.ptr (some (i,o+0))):=by kernel_rfl
theorem FD(i o:Nat):AC Tryz.prog 26 (.ptr (some (i,o))) 1=some (.ptr (some (i,o+2))):=by kernel_rfl
theorem mp:A7 Tryz.prog 28=some 1:=by kernel_rfl
theorem GG:Dx Tryz.prog 28=some false:=by kernel_rfl
def Vf:List AB:=[
 ⟨none,.p1 some,[(.const (.slice none 0 (some 0)))],(.set 0),[]⟩]
def Vg:List AB:=[
 ⟨none,.call 48,[(.const (.int .u64 (1)))],.push,[]⟩,
 ⟨none,.p1 some,[.loc 0],(.set 0),[]⟩]
def nS:Aq:=⟨0,1,(.seq (.ops Vf) (.seq (.ops Vg) .ret)),[((.var 0),none)]⟩
def iV:List AB:=[
 ⟨none,.mk (fun l=>match l with | [v]=>Bf 24 v | _=>none),[.var 0],(.set 2),[]⟩,
 ⟨none,.mk (fun l=>match l with | []=>Ac Tryz.prog 26 | _=>none),[],(.set 3),[]⟩]
def iW:List AB:=[
 ⟨none,.p1 (fun x=>AC Tryz.prog 24 x 0),[.var 2],.push,[]⟩,
 ⟨none,.r1 (fun s a=>AA Tryz.prog s 4 a),[.loc 0],.push,[]⟩,
 ⟨none,.p1 (fun x=>AC Tryz.prog 24 x 1),[.var 2],.push,[]⟩,
 ⟨none,.r1 (fun s a=>AA Tryz.prog s 22 a),[.loc 0],.push,[]⟩,
 ⟨none,.call 107,[.loc 2,.loc 0],.push,[]⟩,
 ⟨none,.e (fun s=>Xy (fun a x=>Za (AM Tryz.prog s 24 a x))),[.var 2,.loc 0],.push,[]⟩]
def iX:List AB:=[
 ⟨none,.p1 (fun x=>AC Tryz.prog 24 x 1),[.var 2],.push,[]⟩,
 ⟨none,.r1 (fun s a=>AA Tryz.prog s 22 a),[.loc 0],.push,[]⟩,
 ⟨none,.call 49,[.loc 0,.var 1],.push,[]⟩,
 ⟨none,.p1 some,[.loc 0],(.set 4),[]⟩]
def iY:List AB:=[
 ⟨none,.p1 (fun x=>AC Tryz.prog 24 x 1),[.var 2],.push,[]⟩,
 ⟨none,.r1 (fun s a=>AA Tryz.prog s 22 a),[.loc 0],.push,[]⟩,
 ⟨none,.call 50,[.loc 0,.var 4],.push,[]⟩,
 ⟨none,.p1 (fun x=>Zb x 0),[.loc 0],.push,[]⟩,
 ⟨none,.p1 (fun x=>Zb x 1),[.loc 1],.push,[]⟩,
 ⟨none,.p1 (fun x=>Zb x 2),[.loc 2],.push,[]⟩,
 ⟨none,.p1 some,[.loc 2],(.set 5),[]⟩,
 ⟨none,.p1 some,[.loc 1],.push,[]⟩,
 ⟨none,.p1 some,[.loc 1],.push,[]⟩]
def iZ:List AB:=[
 ⟨none,.call 50,[.var 1,.var 4],.push,[]⟩,
 ⟨none,.p1 (fun x=>Zb x 0),[.loc 0],.push,[]⟩,
 ⟨none,.p1 (fun x=>Zb x 1),[.loc 1],.push,[]⟩,
 ⟨none,.p1 (fun x=>Zb x 2),[.loc 2],.push,[]⟩,
 ⟨none,.p1 some,[.loc 2],(.set 6),[]⟩,
 ⟨none,.p1 some,[.loc 1],.push,[]⟩,
 ⟨none,.p1 some,[.loc 1],.push,[]⟩]
def ic:List AB:=[
 ⟨none,.p1 (fun x=>AC Tryz.prog 24 x 0),[.var 2],.push,[]⟩,
 ⟨none,.r1 (fun s a=>AA Tryz.prog s 4 a),[.loc 0],.push,[]⟩,
 ⟨none,.call 107,[.loc 0,.var 5],.push,[]⟩,
 ⟨none,.p (fun l=>B7 Tryz.prog 26 (zipIdx [0,1] l)),[.loc 0,.var 6],.push,[]⟩,
 ⟨none,.e (fun s=>Xy (fun a x=>Za (AM Tryz.prog s 26 a x))),[.var 3,.loc 0],.push,[]⟩]
def qf:Aq:=⟨2,7,(.seq (.ops iV) (.seq (.ops iW) (.seq (.ops iX) (.seq (.ops iY) (.seq (.ops iZ) (.seq (.ops ic) .ret)))))),[((.var 3),some 26)]⟩
def iS:List AB:=[
 ⟨none,.mk (fun l=>match l with | [v]=>Bf 26 v | _=>none),[.var 0],(.set 1),[]⟩,
 ⟨none,.mk (fun l=>match l with | []=>Ac Tryz.prog 26 | _=>none),[],(.set 2),[]⟩]
def iT:List AB:=[
 ⟨none,.p1 (fun x=>AC Tryz.prog 26 x 1),[.var 1],.push,[]⟩,
 ⟨none,.r1 (fun s a=>AA Tryz.prog s 22 a),[.loc 0],.push,[]⟩,
 ⟨none,.call 92,[.loc 0],.push,[]⟩,
 ⟨none,.p1 some,[.loc 0],(.set 3),[]⟩]
def X8:List AB:=[
 ⟨none,.r (fun s l=>match l with | [x]=>BN Tryz.prog s 22 x | _=>none),[.var 3],.push,[]⟩,
 ⟨none,.p2 (AS Tryz.prog .eql 3),[(.loc 0),(.const (.int .i64 (0)))],(.set 4),[]⟩]
def iU:List AB:=[
 ⟨none,.call 115,[],.push,[]⟩,
 ⟨none,.p1 some,[.loc 0],(.set 3),[]⟩]
def X9:List AB:=[
 ⟨none,.p1 (fun x=>AC Tryz.prog 26 x 0),[.var 1],.push,[]⟩,
 ⟨none,.r1 (fun s a=>AA Tryz.prog s 24 a),[.loc 0],.push,[]⟩,
 ⟨none,.call 70,[.loc 0,.var 3],.push,[]⟩,
 ⟨none,.e (fun s=>Xy (fun a x=>Za (AM Tryz.prog s 26 a x))),[.var 2,.loc 0],.push,[]⟩]
def qe:Aq:=⟨1,5,(.seq (.ops iS) (.seq (.ops iT) (.seq (.seq (.ops X8) (.cond (.var 4)
 (.ops iU)
 .skip)) (.seq (.ops X9) .ret)))),[((.var 2),some 26)]⟩
def VR:List AB:=[
 ⟨none,.mk (fun l=>match l with | [v]=>Bf 26 v | _=>none),[.var 0],(.set 2),[]⟩,
 ⟨none,.mk (fun l=>match l with | []=>Ac Tryz.prog 26 | _=>none),[],(.set 3),[]⟩]
def VS:List AB:=[
 ⟨none,.r1 (fun s a=>AA Tryz.prog s 26 a),[.var 2],.push,[]⟩,
 ⟨none,.call 69,[.loc 0],.push,[]⟩,
 ⟨none,.callv,[.var 1,.loc 0],.push,[]⟩,
 ⟨none,.e (fun s=>Xy (fun a x=>Za (AM Tryz.prog s 26 a x))),[.var 3,.loc 0],.push,[]⟩]
def nM:Aq:=⟨2,4,(.seq (.ops VR) (.seq (.ops VS) .ret)),[((.var 3),some 26)]⟩
def iJ:List AB:=[
 ⟨none,.mk (fun l=>match l with | [v]=>Bf 26 v | _=>none),[.var 0],(.set 3),[]⟩,
 ⟨none,.mk (fun l=>match l with | [v]=>Bf 26 v | _=>none),[.var 1],(.set 4),[]⟩,
 ⟨none,.mk (fun l=>match l with | [v]=>Bf 84 v | _=>none),[.var 2],(.set 5),[]⟩,
 ⟨none,.mk (fun l=>match l with | []=>Ac Tryz.prog 26 | _=>none),[],(.set 6),[]⟩]
def iK:List AB:=[
 ⟨none,.r1 (fun s a=>AA Tryz.prog s 26 a),[.var 3],.push,[]⟩,
 ⟨none,.p (fun l=>some (.func 109 (l.take 0) (l.drop 0))),[.var 4,.var 5],.push,[]⟩,
 ⟨none,.call 108,[.loc 1,.loc 0],.push,[]⟩,
 ⟨none,.e (fun s=>Xy (fun a x=>Za (AM Tryz.prog s 26 a x))),[.var 6,.loc 0],.push,[]⟩]
def qc:Aq:=⟨3,7,(.seq (.ops iJ) (.seq (.ops iK) .ret)),[((.var 6),some 26)]⟩
def VT:List AB:=[
 ⟨none,.mk (fun l=>match l with | [v]=>Bf 26 v | _=>none),[.var 0],(.set 3),[]⟩,
 ⟨none,.mk (fun l=>match l with | []=>Ac Tryz.prog 26 | _=>none),[],(.set 4),[]⟩]
def VU:List AB:=[
 ⟨none,.r1 (fun s a=>AA Tryz.prog s 26 a),[.var 1],.push,[]⟩,
 ⟨none,.p (fun l=>some (.func 110 (l.take 0) (l.drop 0))),[.var 2,.var 3],.push,[]⟩,
 ⟨none,.call 108,[.loc 1,.loc 0],.push,[]⟩,
 ⟨none,.e (fun s=>Xy (fun a x=>Za (AM Tryz.prog s 26 a x))),[.var 4,.loc 0],.push,[]⟩]
def nN:Aq:=⟨3,5,(.seq (.ops VT) (.seq (.ops VU) .ret)),[((.var 4),some 26)]⟩
def VW:List AB:=[
 ⟨none,.mk (fun l=>match l with | [v]=>Bf 26 v | _=>none),[.var 0],(.set 3),[]⟩,
 ⟨none,.mk (fun l=>match l with | []=>Ac Tryz.prog 26 | _=>none),[],(.set 4),[]⟩]
def VX:List AB:=[
 ⟨none,.p1 some,[(.const (.func 111 [] []))],(.set 5),[]⟩]
def VY:List AB:=[
 ⟨none,.r1 (fun s a=>AA Tryz.prog s 84 a),[.var 1],.push,[]⟩,
 ⟨none,.p1 (fun x=>AC Tryz.prog 26 x 0),[.var 2],.push,[]⟩,
 ⟨none,.r1 (fun s a=>AA Tryz.prog s 24 a),[.loc 0],.push,[]⟩,
 ⟨none,.p1 (fun x=>AC Tryz.prog 26 x 1),[.var 3],.push,[]⟩,
 ⟨none,.r1 (fun s a=>AA Tryz.prog s 22 a),[.loc 0],.push,[]⟩,
 ⟨none,.p1 (fun x=>AC Tryz.prog 26 x 0),[.var 3],.push,[]⟩,
 ⟨none,.r1 (fun s a=>AA Tryz.prog s 24 a),[.loc 0],.push,[]⟩,
 ⟨none,.p1 (fun x=>AC Tryz.prog 26 x 1),[.var 2],.push,[]⟩,
 ⟨none,.r1 (fun s a=>AA Tryz.prog s 22 a),[.loc 0],.push,[]⟩,
 ⟨none,.p1 (fun x=>AC Tryz.prog 26 x 1),[.var 2],.push,[]⟩,
 ⟨none,.r1 (fun s a=>AA Tryz.prog s 22 a),[.loc 0],.push,[]⟩,
 ⟨none,.p1 (fun x=>AC Tryz.prog 26 x 1),[.var 3],.push,[]⟩,
 ⟨none,.r1 (fun s a=>AA Tryz.prog s 22 a),[.loc 0],.push,[]⟩,
 ⟨none,.callv,[.var 5,.loc 10,.loc 8],.push,[⟨none,.r1 (fun s a=>AA Tryz.prog s 22 a),[.loc 2],(.loc 1)⟩,⟨none,.r1 (fun s a=>AA Tryz.prog s 22 a),[.loc 4],(.loc 3)⟩,⟨none,.r1 (fun s a=>AA Tryz.prog s 22 a),[.loc 6],(.loc 5)⟩,⟨none,.r1 (fun s a=>AA Tryz.prog s 24 a),[.loc 8],(.loc 7)⟩,⟨none,.r1 (fun s a=>AA Tryz.prog s 84 a),[.var 1],(.loc 13)⟩]⟩,
 ⟨none,.callv,[.var 5,.loc 7,.loc 5],.push,[⟨none,.r1 (fun s a=>AA Tryz.prog s 22 a),[.loc 3],(.loc 2)⟩,⟨none,.r1 (fun s a=>AA Tryz.prog s 22 a),[.loc 5],(.loc 4)⟩,⟨none,.r1 (fun s a=>AA Tryz.prog s 84 a),[.var 1],(.loc 14)⟩]⟩,
 ⟨none,.call 51,[.loc 4,.loc 2],.push,[⟨none,.r1 (fun s a=>AA Tryz.prog s 84 a),[.var 1],(.loc 15)⟩]⟩,
 ⟨none,.callv,[.loc 15,.loc 2,.loc 1,.loc 0],.push,[]⟩,
 ⟨none,.e (fun s=>Xy (fun a x=>Za (AM Tryz.prog s 26 a x))),[.var 4,.loc 0],.push,[]⟩]
def nO:Aq:=⟨3,6,(.seq (.ops VW) (.seq (.ops VX) (.seq (.ops VY) .ret))),[((.var 4),some 26)]⟩
def VZ:List AB:=[
 ⟨none,.mk (fun l=>match l with | [v]=>Bf 24 v | _=>none),[.var 0],(.set 2),[]⟩,
 ⟨none,.mk (fun l=>match l with | []=>Ac Tryz.prog 24 | _=>none),[],(.set 3),[]⟩]
def Va:List AB:=[
 ⟨none,.r1 (fun s a=>AA Tryz.prog s 24 a),[.var 2],.push,[]⟩,
 ⟨none,.call 107,[(.const (.bool false)),(.var 1)],.push,[⟨none,.r1 (fun s a=>AA Tryz.prog s 24 a),[.var 2],(.loc 1)⟩]⟩,
 ⟨none,.mk (fun l=>(Af Tryz.prog 134 2 (zipIdx [0,1] l)).bind fun r=>some (r,.slice 2)),[.loc 1,.loc 0],.push,[]⟩,
 ⟨none,.call 71,[.loc 0],.push,[]⟩,
 ⟨none,.e (fun s=>Xy (fun a x=>Za (AM Tryz.prog s 24 a x))),[.var 3,.loc 0],.push,[]⟩]
def nP:Aq:=⟨2,4,(.seq (.ops VZ) (.seq (.ops Va) .ret)),[((.var 3),some 24)]⟩
def iL:List AB:=[
 ⟨none,.mk (fun l=>match l with | []=>Ac Tryz.prog 26 | _=>none),[],(.set 1),[]⟩]
def iM:List AB:=[
 ⟨none,.r1 (fun s a=>AA Tryz.prog s 26 a),[.var 1],.push,[]⟩,
 ⟨none,.call 69,[.loc 0],.push,[]⟩,
 ⟨none,.e (fun s=>Xy (fun a x=>Za (AM Tryz.prog s 26 a x))),[.var 1,.loc 0],.push,[]⟩]
def iN:List AB:=[
 ⟨none,.p1 some,[.var 0],(.set 3),[]⟩,
 ⟨none,.r (fun s l=>match l with | [x]=>BN Tryz.prog s 28 x | _=>none),[.var 3],(.set 4),[]⟩,
 ⟨none,.p1 some,[(.const (.int .i64 (0)))],(.set 5),[]⟩]
def X7:List AB:=[
 ⟨none,.p2 (AS Tryz.prog .lss 3),[.var 5,.var 4],(.set 6),[]⟩]
def iO:List AB:=[
 ⟨none,.p2 (AK Tryz.prog 28),[.var 3,.var 5],.push,[]⟩,
 ⟨none,.r1 (fun s a=>AA Tryz.prog s 26 a),[.loc 0],.push,[]⟩,
 ⟨none,.mk (fun l=>match l with | []=>Ac Tryz.prog 26 | _=>none),[],(.set 2),[]⟩,
 ⟨none,.e (fun s=>Xy (fun a x=>Za (AM Tryz.prog s 26 a x))),[.var 2,.loc 0],.push,[]⟩]
def iP:List AB:=[
 ⟨none,.r1 (fun s a=>AA Tryz.prog s 26 a),[.var 1],.push,[]⟩,
 ⟨none,.r1 (fun s a=>AA Tryz.prog s 26 a),[.var 2],.push,[]⟩,
 ⟨none,.call 64,[(.loc 1),(.loc 0),(.const (.func 112 [] []))],.push,[]⟩,
 ⟨none,.e (fun s=>Xy (fun a x=>Za (AM Tryz.prog s 26 a x))),[.var 1,.loc 0],.push,[]⟩]
def iQ:List AB:=[
 ⟨none,.p2 (AS Tryz.prog .add 3),[(.var 5),(.const (.int .i64 (1)))],.push,[]⟩,
 ⟨none,.p1 some,[.loc 0],(.set 5),[]⟩]
def MK:Ad:=(.seq (.ops X7) (.seq (.cond (.var 6)
 .skip
 (.exit 0)) (.seq (.block 1 (.seq (.ops iO) (.ops iP))) (.ops iQ))))
def iR:List AB:=[
 ⟨none,.r1 (fun s a=>AA Tryz.prog s 26 a),[.var 1],.push,[]⟩,
 ⟨none,.e (fun s=>Xy (fun a x=>Za (AM Tryz.prog s 26 a x))),[.var 1,.loc 0],.push,[]⟩]
def qd:Aq:=⟨1,7,(.seq (.ops iL) (.seq (.ops iM) (.seq (.seq (.ops iN) (.block 0 (.loop MK))) (.seq (.ops iR) .ret)))),[((.var 1),some 26)]⟩
def Vb:List AB:=[
 ⟨none,.mk (fun l=>match l with | [v]=>Bf 24 v | _=>none),[.var 0],(.set 3),[]⟩,
 ⟨none,.mk (fun l=>match l with | [v]=>Bf 24 v | _=>none),[.var 1],(.set 4),[]⟩,
 ⟨none,.mk (fun l=>match l with | []=>Ac Tryz.prog 26 | _=>none),[],(.set 5),[]⟩]
def Vc:List AB:=[
 ⟨none,.r1 (fun s a=>AA Tryz.prog s 24 a),[.var 3],.push,[]⟩,
 ⟨none,.r1 (fun s a=>AA Tryz.prog s 24 a),[.var 4],.push,[]⟩,
 ⟨none,.mk (fun l=>(Af Tryz.prog 134 2 (zipIdx [0,1] l)).bind fun r=>some (r,.slice 2)),[.loc 1,.loc 0],.push,[]⟩,
 ⟨none,.call 113,[.loc 0],.push,[]⟩,
 ⟨none,.call 70,[.loc 0,.var 2],.push,[]⟩,
 ⟨none,.e (fun s=>Xy (fun a x=>Za (AM Tryz.prog s 26 a x))),[.var 5,.loc 0],.push,[]⟩]
def nQ:Aq:=⟨3,6,(.seq (.ops Vb) (.seq (.ops Vc) .ret)),[((.var 5),some 26)]⟩
def fG:List AB:=[
 ⟨none,.mk (fun l=>match l with | [v]=>Bf 26 v | _=>none),[.var 0],(.set 2),[]⟩,
 ⟨none,.mk (fun l=>match l with | [v]=>Bf 26 v | _=>none),[.var 1],(.set 3),[]⟩,
 ⟨none,.mk (fun l=>match l with | []=>Ac Tryz.prog 26 | _=>none),[],(.set 4),[]⟩]
def fH:List AB:=[
 ⟨none,.r1 (fun s a=>AA Tryz.prog s 26 a),[.var 2],.push,[]⟩,
 ⟨none,.r1 (fun s a=>AA Tryz.prog s 26 a),[.var 3],.push,[]⟩,
 ⟨none,.mk (fun l=>(Af Tryz.prog 28 2 (zipIdx [0,1] l)).bind fun r=>some (r,.slice 2)),[.loc 1,.loc 0],.push,[]⟩,
 ⟨none,.call 67,[.loc 0],.push,[]⟩,
 ⟨none,.e (fun s=>Xy (fun a x=>Za (AM Tryz.prog s 26 a x))),[.var 4,.loc 0],.push,[]⟩]
def qH:Aq:=⟨2,5,(.seq (.ops fG) (.seq (.ops fH) .ret)),[((.var 4),some 26)]⟩
def fI:List AB:=[
 ⟨none,.mk (fun l=>match l with | [v]=>Bf 26 v | _=>none),[.var 0],(.set 2),[]⟩,
 ⟨none,.mk (fun l=>match l with | [v]=>Bf 26 v | _=>none),[.var 1],(.set 3),[]⟩,
 ⟨none,.mk (fun l=>match l with | []=>Ac Tryz.prog 26 | _=>none),[],(.set 4),[]⟩]
def fJ:List AB:=[
 ⟨none,.r1 (fun s a=>AA Tryz.prog s 26 a),[.var 2],.push,[]⟩,
 ⟨none,.r1 (fun s a=>AA Tryz.prog s 26 a),[.var 3],.push,[]⟩,
 ⟨none,.call 69,[.loc 1],.push,[⟨none,.r1 (fun s a=>AA Tryz.prog s 26 a),[.var 3],(.loc 1)⟩]⟩,
 ⟨none,.call 69,[.loc 1],.push,[]⟩,
 ⟨none,.e (fun s=>Xy (fun a x=>Za (AM Tryz.prog s 26 a x))),[.var 2,.loc 1],.push,[]⟩,
 ⟨none,.e (fun s=>Xy (fun a x=>Za (AM Tryz.prog s 26 a x))),[.var 3,.loc 1],.push,[]⟩]
def fK:List AB:=[
 ⟨none,.p1 (fun x=>AC Tryz.prog 26 x 0),[.var 2],.push,[]⟩,
 ⟨none,.r1 (fun s a=>AA Tryz.prog s 24 a),[.loc 0],.push,[]⟩,
 ⟨none,.p1 (fun x=>AC Tryz.prog 26 x 0),[.var 3],.push,[]⟩,
 ⟨none,.r1 (fun s a=>AA Tryz.prog s 24 a),[.loc 0],.push,[]⟩,
 ⟨none,.mk (fun l=>(Af Tryz.prog 134 2 (zipIdx [0,1] l)).bind fun r=>some (r,.slice 2)),[.loc 2,.loc 0],.push,[]⟩,
 ⟨none,.p1 (fun x=>AC Tryz.prog 26 x 1),[.var 2],.push,[]⟩,
 ⟨none,.r1 (fun s a=>AA Tryz.prog s 22 a),[.loc 0],.push,[]⟩,
 ⟨none,.p1 (fun x=>AC Tryz.prog 26 x 1),[.var 3],.push,[]⟩,
 ⟨none,.r1 (fun s a=>AA Tryz.prog s 22 a),[.loc 0],.push,[]⟩,
 ⟨none,.call 71,[.loc 4],.push,[⟨none,.r1 (fun s a=>AA Tryz.prog s 22 a),[.loc 2],(.loc 1)⟩,⟨none,.r1 (fun s a=>AA Tryz.prog s 22 a),[.loc 4],(.loc 3)⟩]⟩,
 ⟨none,.call 51,[.loc 3,.loc 1],.push,[]⟩,
 ⟨none,.call 70,[.loc 1,.loc 0],.push,[]⟩,
 ⟨none,.e (fun s=>Xy (fun a x=>Za (AM Tryz.prog s 26 a x))),[.var 4,.loc 0],.push,[]⟩]
def qI:Aq:=⟨2,5,(.seq (.ops fI) (.seq (.ops fJ) (.seq (.ops fK) .ret))),[((.var 4),some 26)]⟩
def gj:List AB:=[
 ⟨none,.mk (fun l=>match l with | [v]=>Bf 26 v | _=>none),[.var 0],(.set 1),[]⟩,
 ⟨none,.p1 some,[(.const (.int .i64 (0)))],(.set 2),[]⟩]
def gk:List AB:=[
 ⟨none,.p1 (fun x=>AC Tryz.prog 26 x 0),[.var 1],.push,[]⟩,
 ⟨none,.r1 (fun s a=>AA Tryz.prog s 24 a),[.loc 0],.push,[]⟩,
 ⟨none,.call 100,[.loc 0],.push,[]⟩,
 ⟨none,.p1 some,[.loc 0],(.set 2),[]⟩]
def qV:Aq:=⟨1,3,(.seq (.ops gj) (.seq (.ops gk) .ret)),[((.var 2),none)]⟩
def gh:List AB:=[
 ⟨none,.mk (fun l=>match l with | []=>Ac Tryz.prog 26 | _=>none),[],(.set 1),[]⟩]
def gi:List AB:=[
 ⟨none,.call 60,[.var 0],.push,[]⟩,
 ⟨none,.call 99,[.loc 0],.push,[]⟩,
 ⟨none,.e (fun s=>Xy (fun a x=>Za (AM Tryz.prog s 26 a x))),[.var 1,.loc 0],.push,[]⟩]
def qU:Aq:=⟨1,2,(.seq (.ops gh) (.seq (.ops gi) .ret)),[((.var 1),some 26)]⟩
def jg:List AB:=[
 ⟨none,.mk (fun l=>match l with | [v]=>Bf 24 v | _=>none),[.var 0],(.set 1),[]⟩,
 ⟨none,.mk (fun l=>match l with | []=>Ac Tryz.prog 26 | _=>none),[],(.set 2),[]⟩]
def jh:List AB:=[
 ⟨none,.r1 (fun s a=>AA Tryz.prog s 24 a),[.var 1],.push,[]⟩,
 ⟨none,.call 115,[],.push,[⟨none,.r1 (fun s a=>AA Tryz.prog s 24 a),[.var 1],(.loc 1)⟩]⟩,
 ⟨none,.call 70,[.loc 1,.loc 0],.push,[]⟩,
 ⟨none,.e (fun s=>Xy (fun a x=>Za (AM Tryz.prog s 26 a x))),[.var 2,.loc 0],.push,[]⟩]
def qu:Aq:=⟨1,3,(.seq (.ops jg) (.seq (.ops jh) .ret)),[((.var 2),some 26)]⟩
theorem bO:AR Tryz.prog 115=some nS:=by kernel_rfl
theorem lU:AR Tryz.prog 70=some qf:=by kernel_rfl
theorem lT:AR Tryz.prog 69=some qe:=by kernel_rfl
theorem bI:AR Tryz.prog 108=some nM:=by kernel_rfl
theorem lQ:AR Tryz.prog 64=some qc:=by kernel_rfl
theorem bJ:AR Tryz.prog 109=some nN:=by kernel_rfl
theorem bK:AR Tryz.prog 110=some nO:=by kernel_rfl
theorem bL:AR Tryz.prog 111=some nP:=by kernel_rfl
theorem lR:AR Tryz.prog 67=some qd:=by kernel_rfl
theorem bM:AR Tryz.prog 112=some nQ:=by kernel_rfl
theorem kh:AR Tryz.prog 27=some qH:=by kernel_rfl
theorem ki:AR Tryz.prog 29=some qI:=by kernel_rfl
theorem lJ:AR Tryz.prog 53=some qV:=by kernel_rfl
theorem lI:AR Tryz.prog 52=some qU:=by kernel_rfl
theorem mC:AR Tryz.prog 99=some qu:=by kernel_rfl
end
end Go.Proofs.YtjnkfbpadpmakaaGreatDoor.Am
set_option linter.unusedVariables false
set_option linter.unusedSimpArgs false
set_option maxRecDepth 16000
namespace Go.Proofs.YtjnkfbpadpmakaaGreatDoor.Am
open Go Go.Proofs
noncomputable section
theorem NQ(x:Bool)(a b:Option (Nat×Nat))(n m:Nat)(c d:Option Nat):B7 Tryz.prog 26 (zipIdx [0,1] [.agg [.bool x,.slice a n c],.slice b m d])=some (.agg [.bool x,.slice a n c,.slice b m d]):=by kernel_rfl
abbrev ZQ:BC:=R 26 0 false [.bool false,.slice none 0 (some 0),.slice none 0 (some 0)]
abbrev BQ(x:Bool)(m d:AV):BC:=R 26 0 false [.bool x,m,d]
theorem Bb:Ac Tryz.prog 26=some (ZQ,.ptr):=by kernel_rfl
theorem Cr(x:Bool)(a b:Option (Nat×Nat))(n m:Nat)(c d:Option Nat):FJ (.agg [.bool x,.slice a n c,.slice b m d]) (.agg [.bool x,.slice a n c,.slice b m d])=true:=by
 cases a<;>cases b<;>cases c<;>cases d<;>cases x<;>simp[FJ,FJ.eqAs,FN]
def QI(s:AE)(v:AV)(q:Rat)(k:Nat):Prop:=∃neg m d lm ld,v=.agg [.bool neg,m,d]∧C7 s m lm∧C7 s d ld∧Bv lm∧Bv ld∧lm.length≤k∧ld.length≤k∧JH neg (AH lm) (AH ld)=q
def QR(b:Nat)(s:AE)(v:AV)(q:Rat):Prop:=∃m d,v=.agg [.bool (decide (q.num<0)),m,d]∧NR b s m (AQ q.num.natAbs)∧NR b s d (AQ q.den)∧(∀j,CH m=some j→CH d≠some j)∧(q.num=0→m=.slice none 0 (some 0))
def QH(q:Rat)(k:Nat):Prop:=q.num.natAbs<LB ^ k∧q.den<LB ^ k
theorem QI.old{s s':AE}{v:AV}{q:Rat}{k:Nat}(h:QI s v q k)(o:Ae s.next s s'):QI s' v q k:=by
 obtain⟨neg,m,d,lm,ld,h1,h2,h3,h4⟩:=h
 exact⟨neg,m,d,lm,ld,h1,h2.old o,h3.old o,h4⟩
theorem QI.le{s:AE}{v:AV}{q:Rat}{k k':Nat}(h:QI s v q k)(hk:k≤k'):QI s v q k':=by
 obtain⟨neg,m,d,lm,ld,h1,h2,h3,h4,h5,h6,h7,h8⟩:=h
 exact⟨neg,m,d,lm,ld,h1,h2,h3,h4,h5,by omega,by omega,h8⟩
theorem QI.shape{s:AE}{v:AV}{q:Rat}{k:Nat}(h:QI s v q k):∃x a n c b m d,v=.agg [.bool x,.slice a n c,.slice b m d]:=by
 obtain⟨neg,m,d,lm,ld,rfl,h2,h3,_⟩:=h
 obtain⟨a,n,c,rfl⟩:=h2.shape
 obtain⟨b,m,d,rfl⟩:=h3.shape
 exact⟨_,_,_,_,_,_,_,rfl⟩
theorem NR.lt{b:Nat}{s:AE}{v:AV}{l:List Nat}(h:NR b s v l){j:Nat}(hj:CH v=some j):b≤j∧j<s.next:=by
 obtain⟨O,q1,_,q,_⟩:=h
 refine⟨q j hj,?_⟩
 rcases q1 with⟨a,rfl,_,_,_,h5⟩ | ⟨i,p,rfl,h6,_⟩
 ·cases a with
  | none=>cases hj
  | some io=>obtain⟨i,o⟩:=io;injection hj with hj;subst hj;exact(h5 i o rfl).1
 ·injection hj with hj
  subst hj
  rcases h6.ex with⟨e',_⟩ | ⟨_,_,k2,_⟩
  ·cases e'
  ·exact k2
theorem QR.keep{b:Nat}{s s':AE}{v:AV}{q:Rat}(h:QR b s v q)(hn:s.next≤s'.next)(hf:∀j,b≤j→j<s.next→s'.heap.get j=s.heap.get j):QR b s' v q:=by
 obtain⟨m,d,h1,h2,h3,h4⟩:=h
 exact⟨m,d,h1,h2.keep hn fun j hj=>hf j (h2.lt hj).1 (h2.lt hj).2,h3.keep hn fun j hj=>hf j (h3.lt hj).1 (h3.lt hj).2,h4⟩
theorem QR.old{b:Nat}{s s':AE}{v:AV}{q:Rat}(h:QR b s v q)(o:Ae s.next s s'):QR b s' v q:=h.keep o.1 fun j _ hj=>o.2 j hj
theorem QR.set{b i:Nat}{s:AE}{v:AV}{q:Rat}(h:QR b s v q)(hi:i<b)(o:BC):QR b (setObj s i o) v q:=h.keep (qw _) fun j hj _=>Wx _ (by omega)
theorem QR.mono{b b':Nat}{s:AE}{v:AV}{q:Rat}(h:QR b s v q)(k:b'≤b):QR b' s v q:=by
 obtain⟨m,d,h1,h2,h3,h4⟩:=h
 exact⟨m,d,h1,h2.mono k,h3.mono k,h4⟩
theorem QR.qi{b k:Nat}{s:AE}{v:AV}{q:Rat}(h:QR b s v q)(hq:QH q k):QI s v q k:=by
 obtain⟨m,d,h1,h2,h3,_⟩:=h
 exact⟨_,m,d,_,_,h1,h2.n32,h3.n32,AX _,AX _,As hq.1,As hq.2,by rw[Ab,Ab];exact dH q⟩
theorem QR.shape{b:Nat}{s:AE}{v:AV}{q:Rat}(h:QR b s v q):∃x a n c b m d,v=.agg [.bool x,.slice a n c,.slice b m d]:=by
 obtain⟨m,d,rfl,h2,h3,_⟩:=h
 obtain⟨a,n,c,rfl⟩:=h2.n32.shape
 obtain⟨b,m,d,rfl⟩:=h3.n32.shape
 exact⟨_,_,_,_,_,_,_,rfl⟩
theorem QI.qh{s:AE}{v:AV}{q:Rat}{k:Nat}(h:QI s v q k)(hk:1≤k):QH q k:=by
  obtain⟨neg,m,d,lm,ld,rfl,h2,h3,h4,h5,h6,h7,rfl⟩:=h
  constructor
  · rw[Le,Int.natAbs_ediv_of_dvd (Int.ofNat_dvd_left.2 (by rw[DC];exact Nat.gcd_dvd_left _ _)),DC]
    exact rX (sY _ _) (G3 h4 h6)
  · rw [P0]
    refine rX (sY _ _) ?_
    unfold EW
    split
    · exact E4 (j:=1) (by decide) hk
    · exact G3 h5 h7
theorem Y4(neg:Bool)(m g:Nat)(h:g ∣ m):Cj neg (m / g)=Cj neg m / (g:Int):=by
 unfold Cj
 cases neg with
 | false=>rw[if_neg (by decide),if_neg (by decide)];exact Int.natCast_ediv m g
 | true=>rw[if_pos rfl,if_pos rfl,Int.neg_ediv_of_dvd (Int.natCast_dvd_natCast.2 h),Int.natCast_ediv]
theorem Nx(z:Int){D:Nat}(hD:D≠0):(mkRat z D).num=Cj (decide (z<0)) (z.natAbs / z.natAbs.gcd D):=by
 rw[← N5 hD _ _ (GZ z),Le,Y4 _ _ _ (Nat.gcd_dvd_left _ _)]
 unfold EW
 rw[if_neg hD]
theorem SG(z:Int){D:Nat}(hD:D≠0):(mkRat z D).den=D / z.natAbs.gcd D:=by
 rw[← N5 hD _ _ (GZ z),P0]
 unfold EW
 rw[if_neg hD]
section
variable{E:CR}{s:AE}
theorem ZS(hE:GoodN E){K:AV→AE→Prop}(hK:∀s' v,Ae s.next s s'→NR s.next s' v (AQ 1)→K v s'):WF E 115 [] K s:=by
 refine hE.go bO (by decide) rfl ?_
 simp only[nS,Vf,Vg,Qa,Qb,Qc,Qd,Qe,Qf,Qg,Qh,Qi,Qj,Qk,Ql,Qm,Qn,true_and,and_true,Qo,Qp,Qq,Qr,Qs,Qt,Qu,Qv,Qw,Qx,Qy,Qz,Ra,Rb,Rc,Rd,Re,Rf,Rg,Rh,Ri,Rj,Rk,Rm,Rn,Ro,Rp,Rq,Rt,Ya,Yb,Yc,Ru,Rw,Zb,Yd,Ye,Ry,Rz,Wa,Wb,Wc,Wd,We]
 refine Nk hE (n:=1) (by decide) fun s' v' o r=>?_
 simp only[Qa,Qb,Qc,Qd,Qe,Qf,Qg,Qh,Qi,Qj,Qk,Ql,Qm,Qn,true_and,and_true,Qo,Qp,Qq,Qr,Qs,Qt,Qu,Qv,Qw,Qx,Qy,Qz,Ra,Rb,Rc,Rd,Re,Rf,Rg,Rh,Ri,Rj,Rk,Rm,Rn,Ro,Rp,Rq,Rt,Ya,Yb,Yc,Ru,Rw,Zb,Yd,Ye,Ry,Rz,Wa,Wb,Wc,Wd,We]
 exact hK s' v' o r
theorem Bj{s2:AE}{p:Nat}{cs0:List AV}(h0:cs0.length=3){x:Bool}{a b:Option (Nat×Nat)}{n m:Nat}{c d:Option Nat}(hg:s2.heap.get p=some (R 26 0 false cs0)):
  AM Tryz.prog s2 26 (.ptr (some (p,0))) (.agg [.bool x,.slice a n c,.slice b m d])=some (setObj s2 p (BQ x (.slice a n c) (.slice b m d)))∧AA Tryz.prog (setObj s2 p (BQ x (.slice a n c) (.slice b m d))) 26 (.ptr (some (p,0)))=some (.agg [.bool x,.slice a n c,.slice b m d]):=
 ⟨Ai Ar hg h0 rfl rfl (by simp),AG BH Ar (Ww _ _ _) rfl⟩
theorem D7(hE:GoodN E){vn vd:AV}{z:Int}{kn:Nat}{ld:List Nat}(hn:BI s vn z kn)(hd:C7 s vd ld)(hkn:kn≤1000000000)(hld:ld.length≤1000000000)(hsd:Bv ld)(h0:AH ld≠0){K:AV→AE→Prop}
  (hK:∀s' v,Ae s.next s s'→QR s.next s' v (mkRat z (AH ld))→K v s'):WF E 70 [vn,vd] K s:=by
 have zabs:=hn.abs
 obtain⟨neg,mg,l,rfl,hm,hs,hl,hz⟩:=hn
 obtain⟨a,n,c,rfl⟩:=hm.shape
 obtain⟨ad,nd,cd,rfl⟩:=hd.shape
 refine hE.go lU (by decide) rfl ?_
 obtain⟨n1,o1,g1,g2⟩:=D4 s (BX neg (.slice a n c)) ZQ
 simp only[qf,iV,iW,Xa,Xh,Bb,Xc,Ap,Do,Cv,Qa,Qb,Qc,Qd,Qe,Qf,Qg,Qh,Qi,Qj,Qk,Ql,Qm,Qn,true_and,and_true,Qo,Qp,Qq,Qr,Qs,Qt,Qu,Qv,Qw,Qx,Qy,Qz,Ra,Rb,Rc,Rd,Re,Rf,Rg,Rh,Ri,Rj,Rk,Rm,Rn,Ro,Rp,Rq,Rt,Ya,Yb,Yc,Ru,Rw,Zb,Yd,Ye,Ry,Rz,Wa,Wb,Wc,Wd,We]
 generalize newObj (newObj s (BX neg (.slice a n c))) ZQ=s1 at *
 have l1:=AI (P:=Tryz.prog) (t:=4) (o:=0+0) MI g1 rfl
 have l2:=AI (P:=Tryz.prog) (t:=22) (o:=0+1) CG g1 rfl
 simp only[l1,l2,Qa,Qb,Qc,Qd,Qe,Qf,Qg,Qh,Qi,Qj,Qk,Ql,Qm,Qn,true_and,and_true,Qo,Qp,Qq,Qr,Qs,Qt,Qu,Qv,Qw,Qx,Qy,Qz,Ra,Rb,Rc,Rd,Re,Rf,Rg,Rh,Ri,Rj,Rk,Rm,Rn,Ro,Rp,Rq,Rt,Ya,Yb,Yc,Ru,Rw,Zb,Yd,Ye,Ry,Rz,Wa,Wb,Wc,Wd,We]
 refine Hc hE (hm.old o1) (by omega) hs fun s2 v2 o2 r2=>?_
 rw[hz]at r2
 have h2:=o2.1
 have f1:=(o2.2 s.next (by omega)).trans g1
 have f2:=(o2.2 (s.next+1) (by omega)).trans g2
 obtain⟨m2,rfl,r2⟩:=r2
 obtain⟨a2,n2,c2,rfl⟩:=r2.n32.shape
 have st:=Ai (P:=Tryz.prog) (t:=24) (cs:=[.bool (decide (z<0)),.slice a2 n2 c2]) Cl f1 rfl rfl rfl (by simp)
 generalize hs3:setObj s2 s.next (R 24 0 false [.bool (decide (z<0)),.slice a2 n2 c2])=s3 at st
 have n3:s3.next=s2.next:=by rw[← hs3];rfl
 have o3:Ae s.next s s3:=by rw[← hs3];exact(o1.trans (o2.mono o1.1)).set (qw _) _
 have k1:s3.heap.get s.next=some (BX (decide (z<0)) (.slice a2 n2 c2)):=by rw[← hs3,Ww]
 have k2:s3.heap.get (s.next+1)=some ZQ:=by rw[← hs3,Wx _ (by omega)];exact f2
 have w2:NR s1.next s3 (.slice a2 n2 c2) (AQ z.natAbs):=by rw[← hs3];exact r2.set (by omega) _
 have l3:=AI (P:=Tryz.prog) (t:=22) (o:=0+1) CG k1 rfl
 have zl:=As zabs
 simp only[iX,st,l3,Cv,Xy,Za,Qa,Qb,Qc,Qd,Qe,Qf,Qg,Qh,Qi,Qj,Qk,Ql,Qm,Qn,true_and,and_true,Qo,Qp,Qq,Qr,Qs,Qt,Qu,Qv,Qw,Qx,Qy,Qz,Ra,Rb,Rc,Rd,Re,Rf,Rg,Rh,Ri,Rj,Rk,Rm,Rn,Ro,Rp,Rq,Rt,Ya,Yb,Yc,Ru,Rw,Zb,Yd,Ye,Ry,Rz,Wa,Wb,Wc,Wd,We]
 refine R0 hE w2.n32 (hd.old o3) (by omega) (by omega) (AX _) hsd fun s4 v4 o4 r4=>?_
 rw[Ab]at r4
 have h4:=o4.1
 have e1:=(o4.2 s.next (by omega)).trans k1
 have l4:=AI (P:=Tryz.prog) (t:=22) (o:=0+1) CG e1 rfl
 have hgp:z.natAbs.gcd (AH ld)≠0:=fun e=>h0 (Nat.eq_zero_of_gcd_eq_zero_right e)
 have hgl:(AQ (z.natAbs.gcd (AH ld))).length≤1000000000:=rD (Fs (Nat.gcd_le_right _ (by omega))) (rD (As (G3 hsd (qw _))) hld)
 simp only[iY,l4,Cv,Qa,Qb,Qc,Qd,Qe,Qf,Qg,Qh,Qi,Qj,Qk,Ql,Qm,Qn,true_and,and_true,Qo,Qp,Qq,Qr,Qs,Qt,Qu,Qv,Qw,Qx,Qy,Qz,Ra,Rb,Rc,Rd,Re,Rf,Rg,Rh,Ri,Rj,Rk,Rm,Rn,Ro,Rp,Rq,Rt,Ya,Yb,Yc,Ru,Rw,Zb,Yd,Ye,Ry,Rz,Wa,Wb,Wc,Wd,We]
 refine TS hE (w2.n32.old o4) r4.n32 (by omega) hgl (AX _) (AX _) (fun e=>absurd (by rw[Ab]at e;exact e) hgp) fun _ s5 vq vr o5 rq _ rz=>?_
 rw[Ab,Ab]at rq rz
 have h5:=o5.1
 simp only[iZ,Zb,Qa,Qb,Qc,Qd,Qe,Qf,Qg,Qh,Qi,Qj,Qk,Ql,Qm,Qn,true_and,and_true,Qo,Qp,Qq,Qr,Qs,Qt,Qu,Qv,Qw,Qx,Qy,Qz,Ra,Rb,Rc,Rd,Re,Rf,Rg,Rh,Ri,Rj,Rk,Rm,Rn,Ro,Rp,Rq,Rt,Ya,Yb,Yc,Ru,Rw,Zb,Yd,Ye,Ry,Rz,Wa,Wb,Wc,Wd,We]
 have o35:Ae s.next s s5:=o3.trans ((o4.trans (o5.mono h4)).mono o3.1)
 refine RW hE (hd.old o35) (r4.n32.old o5) (by omega) hgl hsd (AX _) (fun e=>absurd (by rw[Ab]at e;exact e) hgp) fun _ s6 vq2 vr2 o6 rq2 _=>?_
 rw[Ab]at rq2
 have h6:=o6.1
 have e2:=(o6.2 s.next (by omega)).trans ((o5.2 s.next (by omega)).trans e1)
 have l5:=AI (P:=Tryz.prog) (t:=4) (o:=0+0) MI e2 rfl
 have hul:(AQ (z.natAbs / z.natAbs.gcd (AH ld))).length≤1000000000:=rD (Fs (sY _ _)) (by omega)
 simp only[ic,Zb,l5,Do,Qa,Qb,Qc,Qd,Qe,Qf,Qg,Qh,Qi,Qj,Qk,Ql,Qm,Qn,true_and,and_true,Qo,Qp,Qq,Qr,Qs,Qt,Qu,Qv,Qw,Qx,Qy,Qz,Ra,Rb,Rc,Rd,Re,Rf,Rg,Rh,Ri,Rj,Rk,Rm,Rn,Ro,Rp,Rq,Rt,Ya,Yb,Yc,Ru,Rw,Zb,Yd,Ye,Ry,Rz,Wa,Wb,Wc,Wd,We]
 refine aj hE (rq.n32.old o6) hul (AX _) fun s7 v7 o7 r7 r0=>?_
 rw[Ab,← Nx z h0]at r7
 have h7:=o7.1
 have e3:s7.heap.get (s.next+1)=some ZQ:=by rw[o7.2 _ (by omega),o6.2 _ (by omega),o5.2 _ (by omega),o4.2 _ (by omega)];exact k2
 obtain⟨m7,rfl,r7⟩:=r7
 have hz0:(mkRat z (AH ld)).num=0→m7=.slice none 0 (some 0):=fun h=>by
  rw[Nx z h0]at h
  have h1:z.natAbs / z.natAbs.gcd (AH ld)=0:=by have:=congrArg Int.natAbs h;rw[DC]at this;exact this
  have h2:z.natAbs<z.natAbs.gcd (AH ld):=(Nat.div_eq_zero_iff_lt (by omega)).1 h1
  have h3:=r0 (rz h2)
  injection h3 with h3
  injection h3 with _ h3
  injection h3 with h3 _
 have rd:=rq2.old o7
 rw[← SG z h0]at rd
 have hdj:∀j,CH m7=some j→CH vq2≠some j:=fun j hj h=>by
  have q1:=(r7.lt hj).1
  have q2:=(rq2.lt h).2
  omega
 obtain⟨a7,n7,c7,rfl⟩:=r7.n32.shape
 obtain⟨b7,m7,d7,rfl⟩:=rd.n32.shape
 obtain⟨st,ld'⟩:=Bj (cs0:=[.bool false,.slice none 0 (some 0),.slice none 0 (some 0)]) rfl (x:=decide ((mkRat z (AH ld)).num<0)) (a:=a7) (n:=n7) (c:=c7) (b:=b7) (m:=m7) (d:=d7) e3
 simp only[NQ,st,ld',AO,Xy,Za,Qa,Qb,Qc,Qd,Qe,Qf,Qg,Qh,Qi,Qj,Qk,Ql,Qm,Qn,true_and,and_true,Qo,Qp,Qq,Qr,Qs,Qt,Qu,Qv,Qw,Qx,Qy,Qz,Ra,Rb,Rc,Rd,Re,Rf,Rg,Rh,Ri,Rj,Rk,Rm,Rn,Ro,Rp,Rq,Rt,Ya,Yb,Yc,Ru,Rw,Zb,Yd,Ye,Ry,Rz,Wa,Wb,Wc,Wd,We]
 refine hK _ _ ((o35.trans ((o6.trans (o7.mono h6)).mono o35.1)).set (by omega) _) ?_
 refine QR.mono (b:=s5.next) (QR.set ⟨_,_,rfl,r7.mono h6,rd,hdj,hz0⟩ (by omega) _) (by omega)
end
section
variable{E:CR}{s:AE}
theorem Gm       (hE : GoodN E) {v : AV} {q : Rat} {k : Nat} (hv : QI s v q k) (hk : k ≤ 1000000000) {K : AV → AE  → Prop} (hK : ∀ s' v, Ae  s.next s s' → QR s.next s' v q → K v s') : WF E 69 [v] K s := by
  obtain⟨neg,m,d,lm,ld,rfl,hm,hd,hsm,hsd,hlm,hld,rfl⟩:=hv
  obtain⟨a,n,c,rfl⟩:=hm.shape
  obtain⟨b,nd,cd,rfl⟩:=hd.shape
  refine hE.go lT (by decide) rfl ?_
  obtain⟨n1,o1,g1,g2⟩:=D4 s (BQ neg (.slice a n c) (.slice b nd cd)) ZQ
  simp only[qe,iS,iT,Xa,Xh,Bb,Xc,Ap,FD,Qa,Qb,Qc,Qd,Qe,Qf,Qg,Qh,Qi,Qj,Qk,Ql,Qm,Qn,true_and,and_true,Qo,Qp,Qq,Qr,Qs,Qt,Qu,Qv,Qw,Qx,Qy,Qz,Ra,Rb,Rc,Rd,Re,Rf,Rg,Rh,Ri,Rj,Rk,Rm,Rn,Ro,Rp,Rq,Rt,Ya,Yb,Yc,Ru,Rw,Zb,Yd,Ye,Ry,Rz,Wa,Wb,Wc,Wd,We]
  generalize newObj (newObj s (BQ neg (.slice a n c) (.slice b nd cd))) ZQ=s1 at *
  have l1:=AI (P:=Tryz.prog) (t:=22) (o:=0+2) CG g1 rfl
  simp only[l1,Qa,Qb,Qc,Qd,Qe,Qf,Qg,Qh,Qi,Qj,Qk,Ql,Qm,Qn,true_and,and_true,Qo,Qp,Qq,Qr,Qs,Qt,Qu,Qv,Qw,Qx,Qy,Qz,Ra,Rb,Rc,Rd,Re,Rf,Rg,Rh,Ri,Rj,Rk,Rm,Rn,Ro,Rp,Rq,Rt,Ya,Yb,Yc,Ru,Rw,Zb,Yd,Ye,Ry,Rz,Wa,Wb,Wc,Wd,We]
  refine Cc hE (hd.old o1) (by omega) fun s2 v2 o2 r2=>?_
  rw[Br hsd]at r2
  have h2:=o2.1
  have f1:=(o2.2 s.next (by omega)).trans g1
  have f2:=(o2.2 (s.next+1) (by omega)).trans g2
  have o12:=o1.trans (o2.mono o1.1)
  obtain⟨a2,c2,e2,_⟩:=r2.n32
  have hN:∀ {s'},Ae s.next s s'→BI s' (.agg [.bool neg,.slice a n c]) (Cj neg (AH lm)) k:=fun o=>⟨neg,_,lm,rfl,hm.old o,hsm,hlm,rfl⟩
  have e3:∀z:Int,AS Tryz.prog .eql 3 (iv ((AQ (AH ld)).length:Int)) (iv 0)=some (.bool (decide (((AQ (AH ld)).length:Int)=0))):=fun _=>Wc ..
  have fin:∀ (s3:AE) (v3:AV) (D:Nat),Ae s2.next s2 s3→NR s1.next s3 v3 (AQ D)→D=EW (AH ld)→(AQ D).length≤1000000000→∀K2:AV→AE→Prop,
      (∀s4 x4 a4 n4 c4 b4 m4 d4,AM Tryz.prog s4 26 (.ptr (some (s.next+1,0))) (.agg [.bool x4,.slice a4 n4 c4,.slice b4 m4 d4])=some (setObj s4 (s.next+1) (BQ x4 (.slice a4 n4 c4) (.slice b4 m4 d4))) →
        AA Tryz.prog (setObj s4 (s.next+1) (BQ x4 (.slice a4 n4 c4) (.slice b4 m4 d4))) 26 (.ptr (some (s.next+1,0)))=some (.agg [.bool x4,.slice a4 n4 c4,.slice b4 m4 d4]) →
        K (.agg [.bool x4,.slice a4 n4 c4,.slice b4 m4 d4]) (setObj s4 (s.next+1) (BQ x4 (.slice a4 n4 c4) (.slice b4 m4 d4)))→K2 (.agg [.bool x4,.slice a4 n4 c4,.slice b4 m4 d4]) s4) →
      WF E 70 [.agg [.bool neg,.slice a n c],v3] K2 s3:=by
    intro s3 v3 D o3 r3 hD hlen K2 hK2
    have o13:=o12.trans (o3.mono o12.1)
    refine D7 hE (hN o13) r3.n32 hk hlen (AX _) (by rw[Ab,hD];exact IJ _) fun s4 v4 o4 r4=>?_
    have h3:=o3.1
    rw[Ab,hD]at r4
    have k4:s4.heap.get (s.next+1)=some ZQ:=by rw[o4.2 _ (by omega),o3.2 _ (by omega)];exact f2
    obtain⟨x4,a4,n4,c4,b4,m4,d4,rfl⟩:=r4.shape
    obtain⟨st,ld⟩:=Bj (cs0:=[.bool false,.slice none 0 (some 0),.slice none 0 (some 0)]) rfl (x:=x4) (a:=a4) (n:=n4) (c:=c4) (b:=b4) (m:=m4) (d:=d4) k4
    exact hK2 _ _ _ _ _ _ _ _ st ld (hK _ _ ((o13.trans (o4.mono o13.1)).set (by omega) _) ((r4.set (by omega) _).mono (by omega)))
  have ldN:∀s3,Ae s2.next s2 s3→AA Tryz.prog s3 24 (.ptr (some (s.next,0+0)))=some (.agg [.bool neg,.slice a n c]):=fun s3 o3=>Ag (o:=0) (n:=2) Dl Cl ((o3.2 s.next (by omega)).trans f1) (by simp)
  by_cases h0:AH ld=0
  · have e4 : (AQ    (AH   ld)).length = 0 := by rw [h0, BJ];         rfl
    have d1:decide (((AQ (AH ld)).length:Int)=0)=true:=decide_eq_true (by omega)
    subst e2
    simp only[X8,iU,AN Tryz.underlying22,e3 0,d1,Qa,Qb,Qc,Qd,Qe,Qf,Qg,Qh,Qi,Qj,Qk,Ql,Qm,Qn,true_and,and_true,Qo,Qp,Qq,Qr,Qs,Qt,Qu,Qv,Qw,Qx,Qy,Qz,Ra,Rb,Rc,Rd,Re,Rf,Rg,Rh,Ri,Rj,Rk,Rm,Rn,Ro,Rp,Rq,Rt,Ya,Yb,Yc,Ru,Rw,Zb,Yd,Ye,Ry,Rz,Wa,Wb,Wc,Wd,We]
    refine ZS hE fun s3 v3 o3 r3=>?_
    simp only[X9,ES,ldN s3 o3,Qa,Qb,Qc,Qd,Qe,Qf,Qg,Qh,Qi,Qj,Qk,Ql,Qm,Qn,true_and,and_true,Qo,Qp,Qq,Qr,Qs,Qt,Qu,Qv,Qw,Qx,Qy,Qz,Ra,Rb,Rc,Rd,Re,Rf,Rg,Rh,Ri,Rj,Rk,Rm,Rn,Ro,Rp,Rq,Rt,Ya,Yb,Yc,Ru,Rw,Zb,Yd,Ye,Ry,Rz,Wa,Wb,Wc,Wd,We]
    refine fin s3 v3 1 o3 (r3.mono h2) (by rw[h0];rfl) (rD (As (k:=1) (by decide)) (by omega)) _ fun s4 x4 a4 n4 c4 b4 m4 d4 st ld hk=>?_
    simp only[st,ld,AO,Xy,Za,Qa,Qb,Qc,Qd,Qe,Qf,Qg,Qh,Qi,Qj,Qk,Ql,Qm,Qn,true_and,and_true,Qo,Qp,Qq,Qr,Qs,Qt,Qu,Qv,Qw,Qx,Qy,Qz,Ra,Rb,Rc,Rd,Re,Rf,Rg,Rh,Ri,Rj,Rk,Rm,Rn,Ro,Rp,Rq,Rt,Ya,Yb,Yc,Ru,Rw,Zb,Yd,Ye,Ry,Rz,Wa,Wb,Wc,Wd,We]
    exact hk
  · have e4 := List.length_pos_iff.2 (Bs       h0)
    have d1:decide (((AQ (AH ld)).length:Int)=0)=false:=decide_eq_false (by omega)
    have hr:=r2
    subst e2
    simp only[X8,X9,AN Tryz.underlying22,e3 0,d1,ES,ldN s2 (Ae.refl _ _),Qa,Qb,Qc,Qd,Qe,Qf,Qg,Qh,Qi,Qj,Qk,Ql,Qm,Qn,true_and,and_true,Qo,Qp,Qq,Qr,Qs,Qt,Qu,Qv,Qw,Qx,Qy,Qz,Ra,Rb,Rc,Rd,Re,Rf,Rg,Rh,Ri,Rj,Rk,Rm,Rn,Ro,Rp,Rq,Rt,Ya,Yb,Yc,Ru,Rw,Zb,Yd,Ye,Ry,Rz,Wa,Wb,Wc,Wd,We]
    refine fin s2 _ (AH ld) (Ae.refl _ _) r2 (by unfold EW;rw[if_neg h0]) (rD (As (G3 hsd (qw _))) (by omega)) _ fun s4 x4 a4 n4 c4 b4 m4 d4 st ld hk=>?_
    simp only[st,ld,AO,Xy,Za,Qa,Qb,Qc,Qd,Qe,Qf,Qg,Qh,Qi,Qj,Qk,Ql,Qm,Qn,true_and,and_true,Qo,Qp,Qq,Qr,Qs,Qt,Qu,Qv,Qw,Qx,Qy,Qz,Ra,Rb,Rc,Rd,Re,Rf,Rg,Rh,Ri,Rj,Rk,Rm,Rn,Ro,Rp,Rq,Rt,Ya,Yb,Yc,Ru,Rw,Zb,Yd,Ye,Ry,Rz,Wa,Wb,Wc,Wd,We]
    exact hk
theorem Tz(hE:GoodN E){v:AV}{q:Rat}{k:Nat}(hv:QI s v q k)(hk:k≤1000000000){g:FuncId}{first cap:List AV}{K:AV→AE→Prop}
  (hf:∀s1 v1,Ae s.next s s1→s.next+2≤s1.next→QR (s.next+2) s1 v1 q→WF E g (first++([v1]++cap)) (fun r s2=>∃cs,r=.agg cs∧cs.length=3∧Au cs=true∧s2.heap.get (s.next+1)=s1.heap.get (s.next+1)∧K r (setObj s2 (s.next+1) (R 26 0 false cs))) s1):
  WF E 108 [v,.func g first cap] K s:=by
 obtain⟨x,a,n,c,b,m,d,rfl⟩:=hv.shape
 refine hE.go bI (by decide) rfl ?_
 obtain⟨n1,o1,g1,g2⟩:=D4 s (BQ x (.slice a n c) (.slice b m d)) ZQ
 simp only[nM,VR,VS,Xa,Xh,Bb,Xc,Ap,Qa,Qb,Qc,Qd,Qe,Qf,Qg,Qh,Qi,Qj,Qk,Ql,Qm,Qn,true_and,and_true,Qo,Qp,Qq,Qr,Qs,Qt,Qu,Qv,Qw,Qx,Qy,Qz,Ra,Rb,Rc,Rd,Re,Rf,Rg,Rh,Ri,Rj,Rk,Rm,Rn,Ro,Rp,Rq,Rt,Ya,Yb,Yc,Ru,Rw,Zb,Yd,Ye,Ry,Rz,Wa,Wb,Wc,Wd,We]
 generalize newObj (newObj s (BQ x (.slice a n c) (.slice b m d))) ZQ=s1 at *
 have l1:=AG (P:=Tryz.prog) (t:=26) BH Ar g1 rfl
 simp only[l1,Qa,Qb,Qc,Qd,Qe,Qf,Qg,Qh,Qi,Qj,Qk,Ql,Qm,Qn,true_and,and_true,Qo,Qp,Qq,Qr,Qs,Qt,Qu,Qv,Qw,Qx,Qy,Qz,Ra,Rb,Rc,Rd,Re,Rf,Rg,Rh,Ri,Rj,Rk,Rm,Rn,Ro,Rp,Rq,Rt,Ya,Yb,Yc,Ru,Rw,Zb,Yd,Ye,Ry,Rz,Wa,Wb,Wc,Wd,We]
 refine Gm hE (hv.old o1) hk fun s2 v2 o2 r2=>?_
 have h2:=o2.1
 simp only[Qa,Qb,Qc,Qd,Qe,Qf,Qg,Qh,Qi,Qj,Qk,Ql,Qm,Qn,true_and,and_true,Qo,Qp,Qq,Qr,Qs,Qt,Qu,Qv,Qw,Qx,Qy,Qz,Ra,Rb,Rc,Rd,Re,Rf,Rg,Rh,Ri,Rj,Rk,Rm,Rn,Ro,Rp,Rq,Rt,Ya,Yb,Yc,Ru,Rw,Zb,Yd,Ye,Ry,Rz,Wa,Wb,Wc,Wd,We]
 refine(hf s2 v2 (o1.trans (o2.mono o1.1)) (by omega) (r2.mono (by omega))).mono ?_
 rintro r s3 ⟨cs,rfl,hl,hc,hg,hend⟩
 have g3:s3.heap.get (s.next+1)=some ZQ:=by rw[hg,o2.2 _ (by omega)];exact g2
 have st:=Ai (P:=Tryz.prog) (t:=26) (cs:=cs) Ar g3 rfl hl hc (by rintro rfl;cases hl)
 have ld:=AG (P:=Tryz.prog) (t:=26) (s:=setObj s3 (s.next+1) (R 26 0 false cs)) (i:=s.next+1) BH Ar (Ww _ _ _) hl
 simp only[st,ld,AO,Xy,Za,Qa,Qb,Qc,Qd,Qe,Qf,Qg,Qh,Qi,Qj,Qk,Ql,Qm,Qn,true_and,and_true,Qo,Qp,Qq,Qr,Qs,Qt,Qu,Qv,Qw,Qx,Qy,Qz,Ra,Rb,Rc,Rd,Re,Rf,Rg,Rh,Ri,Rj,Rk,Rm,Rn,Ro,Rp,Rq,Rt,Ya,Yb,Yc,Ru,Rw,Zb,Yd,Ye,Ry,Rz,Wa,Wb,Wc,Wd,We]
 exact hend
end
theorem QR.bi{b k:Nat}{s:AE}{v:AV}{q:Rat}(h:QR b s v q)(hq:QH q k):∃m d,v=.agg [.bool (decide (q.num<0)),m,d]∧BI s (.agg [.bool (decide (q.num<0)),m]) q.num k∧C7 s d (AQ q.den)∧(AQ q.den).length≤k:=by
 obtain⟨m,d,rfl,h2,h3,_⟩:=h
 exact⟨m,d,rfl,BR.bi (b:=b) ⟨m,rfl,h2⟩ hq.1,h3.n32,As hq.2⟩
section
variable{E:CR}{s:AE}
theorem cT(hE:GoodN E){v:AV}{z:Int}{k:Nat}(hv:BI s v z k)(hk:k≤1000000000){K:AV→AE→Prop}(hK:∀s' v,Ae s.next s s'→QR s.next s' v (z:Rat)→K v s'):WF E 99 [v] K s:=by
 obtain⟨x,a,n,c,rfl⟩:=hv.shape
 refine hE.go mC (by decide) rfl ?_
 obtain⟨n1,o1,g1,g2⟩:=D4 s (BX x (.slice a n c)) ZQ
 simp only[qu,jg,jh,Xa,Xh,Bb,Xc,Ap,Qa,Qb,Qc,Qd,Qe,Qf,Qg,Qh,Qi,Qj,Qk,Ql,Qm,Qn,true_and,and_true,Qo,Qp,Qq,Qr,Qs,Qt,Qu,Qv,Qw,Qx,Qy,Qz,Ra,Rb,Rc,Rd,Re,Rf,Rg,Rh,Ri,Rj,Rk,Rm,Rn,Ro,Rp,Rq,Rt,Ya,Yb,Yc,Ru,Rw,Zb,Yd,Ye,Ry,Rz,Wa,Wb,Wc,Wd,We]
 generalize newObj (newObj s (BX x (.slice a n c))) ZQ=s1 at *
 have l1:=AG (P:=Tryz.prog) (t:=24) Dl Cl g1 rfl
 simp only[l1,Qa,Qb,Qc,Qd,Qe,Qf,Qg,Qh,Qi,Qj,Qk,Ql,Qm,Qn,true_and,and_true,Qo,Qp,Qq,Qr,Qs,Qt,Qu,Qv,Qw,Qx,Qy,Qz,Ra,Rb,Rc,Rd,Re,Rf,Rg,Rh,Ri,Rj,Rk,Rm,Rn,Ro,Rp,Rq,Rt,Ya,Yb,Yc,Ru,Rw,Zb,Yd,Ye,Ry,Rz,Wa,Wb,Wc,Wd,We]
 refine ZS hE fun s2 v2 o2 r2=>?_
 have h2:=o2.1
 have f1:=(o2.2 s.next (by omega)).trans g1
 have f2:=(o2.2 (s.next+1) (by omega)).trans g2
 refine⟨⟨Ak (by simp only[Qa,Qb,Qc,Qd,Qe,Qf,Qg,Qh,Qi,Qj,Qk,Ql,Qm,Qn,true_and,and_true,Qo,Qp,Qq,Qr,Qs,Qt,Qu,Qv,Qw,Qx,Qy,Qz,Ra,Rb,Rc,Rd,Re,Rf,Rg,Rh,Ri,Rj,Rk,Rm,Rn,Ro,Rp,Rq,Rt,Ya,Yb,Yc,Ru,Rw,Zb,Yd,Ye,Ry,Rz,Wa,Wb,Wc,Wd,We];exact AG Dl Cl f1 rfl) (GW _ _ _ _),trivial⟩,?_⟩
 simp only[Qa,Qb,Qc,Qd,Qe,Qf,Qg,Qh,Qi,Qj,Qk,Ql,Qm,Qn,true_and,and_true,Qo,Qp,Qq,Qr,Qs,Qt,Qu,Qv,Qw,Qx,Qy,Qz,Ra,Rb,Rc,Rd,Re,Rf,Rg,Rh,Ri,Rj,Rk,Rm,Rn,Ro,Rp,Rq,Rt,Ya,Yb,Yc,Ru,Rw,Zb,Yd,Ye,Ry,Rz,Wa,Wb,Wc,Wd,We]
 have o12:=o1.trans (o2.mono o1.1)
 refine D7 hE (hv.old o12) r2.n32 hk (rD (As (k:=1) (by decide)) (by omega)) (AX _) (by rw[Ab];decide) fun s3 v3 o3 r3=>?_
 rw[Ab,show mkRat z 1=(z:Rat)from by rw[Rat.mkRat_one]]at r3
 obtain⟨x3,a3,n3,c3,b3,m3,d3,rfl⟩:=r3.shape
 obtain⟨st,ld⟩:=Bj (cs0:=[.bool false,.slice none 0 (some 0),.slice none 0 (some 0)]) rfl (x:=x3) (a:=a3) (n:=n3) (c:=c3) (b:=b3) (m:=m3) (d:=d3) ((o3.2 (s.next+1) (by omega)).trans f2)
 simp only[st,ld,AO,Xy,Za,Qa,Qb,Qc,Qd,Qe,Qf,Qg,Qh,Qi,Qj,Qk,Ql,Qm,Qn,true_and,and_true,Qo,Qp,Qq,Qr,Qs,Qt,Qu,Qv,Qw,Qx,Qy,Qz,Ra,Rb,Rc,Rd,Re,Rf,Rg,Rh,Ri,Rj,Rk,Rm,Rn,Ro,Rp,Rq,Rt,Ya,Yb,Yc,Ru,Rw,Zb,Yd,Ye,Ry,Rz,Wa,Wb,Wc,Wd,We]
 exact hK _ _ ((o12.trans (o3.mono o12.1)).set (by omega) _) ((r3.set (by omega) _).mono (by omega))
theorem FZ(hE:GoodN E){n:Int}(h:n=0∨n=1∨n=-1){K:AV→AE→Prop}(hK:∀s' v,Ae s.next s s'→QR s.next s' v (n:Rat)→K v s'):WF E 52 [iv n] K s:=by
 refine hE.go lI (by decide) rfl ?_
 obtain⟨n1,o1,g1⟩:=Bl s ZQ
 simp only[qU,gh,gi,Bb,Xc,Qa,Qb,Qc,Qd,Qe,Qf,Qg,Qh,Qi,Qj,Qk,Ql,Qm,Qn,true_and,and_true,Qo,Qp,Qq,Qr,Qs,Qt,Qu,Qv,Qw,Qx,Qy,Qz,Ra,Rb,Rc,Rd,Re,Rf,Rg,Rh,Ri,Rj,Rk,Rm,Rn,Ro,Rp,Rq,Rt,Ya,Yb,Yc,Ru,Rw,Zb,Yd,Ye,Ry,Rz,Wa,Wb,Wc,Wd,We]
 generalize newObj s ZQ=s1 at *
 refine IA hE h fun s2 v2 o2 r2=>?_
 have h2:=o2.1
 simp only[Qa,Qb,Qc,Qd,Qe,Qf,Qg,Qh,Qi,Qj,Qk,Ql,Qm,Qn,true_and,and_true,Qo,Qp,Qq,Qr,Qs,Qt,Qu,Qv,Qw,Qx,Qy,Qz,Ra,Rb,Rc,Rd,Re,Rf,Rg,Rh,Ri,Rj,Rk,Rm,Rn,Ro,Rp,Rq,Rt,Ya,Yb,Yc,Ru,Rw,Zb,Yd,Ye,Ry,Rz,Wa,Wb,Wc,Wd,We]
 refine cT hE (r2.bi (k:=1) (by rcases h with rfl | rfl | rfl<;>decide)) (by omega) fun s3 v3 o3 r3=>?_
 obtain⟨x3,a3,n3,c3,b3,m3,d3,rfl⟩:=r3.shape
 obtain⟨st,ld⟩:=Bj (cs0:=[.bool false,.slice none 0 (some 0),.slice none 0 (some 0)]) rfl (x:=x3) (a:=a3) (n:=n3) (c:=c3) (b:=b3) (m:=m3) (d:=d3) ((o3.2 s.next (by omega)).trans ((o2.2 s.next (by omega)).trans g1))
 have o12:=o1.trans (o2.mono o1.1)
 simp only[st,ld,AO,Xy,Za,Qa,Qb,Qc,Qd,Qe,Qf,Qg,Qh,Qi,Qj,Qk,Ql,Qm,Qn,true_and,and_true,Qo,Qp,Qq,Qr,Qs,Qt,Qu,Qv,Qw,Qx,Qy,Qz,Ra,Rb,Rc,Rd,Re,Rf,Rg,Rh,Ri,Rj,Rk,Rm,Rn,Ro,Rp,Rq,Rt,Ya,Yb,Yc,Ru,Rw,Zb,Yd,Ye,Ry,Rz,Wa,Wb,Wc,Wd,We]
 exact hK _ _ ((o12.trans (o3.mono o12.1)).set (by omega) _) ((r3.set (by omega) _).mono (by omega))
theorem Px(hE:GoodN E){v:AV}{q:Rat}{k:Nat}(hv:QI s v q k)(hk:k≤1000000000){K:AV→AE→Prop}(hK:∀s',Ae s.next s s'→K (iv (FG q.num)) s'):WF E 53 [v] K s:=by
 obtain⟨neg,m,d,lm,ld,rfl,hm,hd,hsm,hsd,hlm,hld,hqv⟩:=hv
 obtain⟨a,n,c,rfl⟩:=hm.shape
 obtain⟨b,nd,cd,rfl⟩:=hd.shape
 refine hE.go lJ (by decide) rfl ?_
 obtain⟨n1,o1,g1⟩:=Bl s (BQ neg (.slice a n c) (.slice b nd cd))
 simp only[qV,gj,gk,Xa,Xh,Xc,Ap,ES,Qa,Qb,Qc,Qd,Qe,Qf,Qg,Qh,Qi,Qj,Qk,Ql,Qm,Qn,true_and,and_true,Qo,Qp,Qq,Qr,Qs,Qt,Qu,Qv,Qw,Qx,Qy,Qz,Ra,Rb,Rc,Rd,Re,Rf,Rg,Rh,Ri,Rj,Rk,Rm,Rn,Ro,Rp,Rq,Rt,Ya,Yb,Yc,Ru,Rw,Zb,Yd,Ye,Ry,Rz,Wa,Wb,Wc,Wd,We]
 generalize newObj s (BQ neg (.slice a n c) (.slice b nd cd))=s1 at *
 have l1:AA Tryz.prog s1 24 (.ptr (some (s.next,0+0)))=some (.agg [.bool neg,.slice a n c]):=Ag (o:=0) (n:=2) Dl Cl g1 (by simp)
 simp only[l1,Qa,Qb,Qc,Qd,Qe,Qf,Qg,Qh,Qi,Qj,Qk,Ql,Qm,Qn,true_and,and_true,Qo,Qp,Qq,Qr,Qs,Qt,Qu,Qv,Qw,Qx,Qy,Qz,Ra,Rb,Rc,Rd,Re,Rf,Rg,Rh,Ri,Rj,Rk,Rm,Rn,Ro,Rp,Rq,Rt,Ya,Yb,Yc,Ru,Rw,Zb,Yd,Ye,Ry,Rz,Wa,Wb,Wc,Wd,We]
 have hbi:BI s1 (.agg [.bool neg,.slice a n c]) (Cj neg (AH lm)) k:=⟨neg,_,lm,rfl,hm.old o1,hsm,hlm,rfl⟩
 refine KX hE hbi hk fun s2 o2=>?_
 have hs:FG (Cj neg (AH lm))=FG q.num:=by
  rw[← hqv,Le]
  have hg:((AH lm).gcd (EW (AH ld)):Nat)≠0:=fun e=>IJ _ (Nat.eq_zero_of_gcd_eq_zero_right e)
  have hdv:((((AH lm).gcd (EW (AH ld)):Nat)):Int) ∣ Cj neg (AH lm):=Int.ofNat_dvd_left.2 (by rw[DC];exact Nat.gcd_dvd_left _ _)
  obtain⟨w,hw⟩:=hdv
  have hgp:(0:Int)<(((AH lm).gcd (EW (AH ld)):Nat):Int):=by omega
  rw[hw,Int.mul_ediv_cancel_left _ (by omega)]
  generalize ((((AH lm).gcd (EW (AH ld)):Nat)):Int)=G at *
  rcases F2 w with⟨e1,e2⟩ | ⟨e1,e2⟩ | ⟨e1,e2⟩
  ·rw[e2];unfold FG;rw[if_pos (Int.mul_neg_of_pos_of_neg hgp e1)]
  ·rw[e2,e1,Int.mul_zero];rfl
  ·have:=Int.mul_pos hgp e1
   rw[e2];unfold FG;rw[if_neg (by omega),if_pos this]
 rw[hs]
 simp only[Qa,Qb,Qc,Qd,Qe,Qf,Qg,Qh,Qi,Qj,Qk,Ql,Qm,Qn,true_and,and_true,Qo,Qp,Qq,Qr,Qs,Qt,Qu,Qv,Qw,Qx,Qy,Qz,Ra,Rb,Rc,Rd,Re,Rf,Rg,Rh,Ri,Rj,Rk,Rm,Rn,Ro,Rp,Rq,Rt,Ya,Yb,Yc,Ru,Rw,Zb,Yd,Ye,Ry,Rz,Wa,Wb,Wc,Wd,We]
 exact hK s2 (o1.trans (o2.mono o1.1))
end
end
end Go.Proofs.YtjnkfbpadpmakaaGreatDoor.Am
