/- Sums of variables: At, walked; conditions: none. -/
import Derived.Test.YtjnkfbpadpmakaaGreatDoorAmM11
set_option linter.unusedVariables false
set_option linter.unusedSimpArgs false
set_option maxRecDepth 16000
namespace Go.Proofs.YtjnkfbpadpmakaaGreatDoor.Am
open Go Go.Proofs
noncomputable section
section
variable{E:CP}{s:AD}
theorem bH(hE:C5 E){vl:AV}{C:Rat}{vs:List Int}{cs:List Rat}{kl M kv:Nat}(hl:LI s vl C vs cs kl)(hkl:1≤kl)(hM:min cs.length vs.length=M){vars:List Int}{wals:List Rat}{av ac:Option (Nat×Nat)}{cv cc:Option Nat}{cells:List AV}(hcv:AZ s.next s av (vars.map iv))(hrat:B2 s ac wals kv cells)(hvl:vars.length≤1000000000)(hkv:1≤kv)
    {k1:Nat} (hk1:k1=1+(M+1) * (kl+2)) (hb:2 * (k1+(M+2) * (k1+kv+1))+1≤1000000) {K:AV→AD→Prop}
    (hK:∀s' w,Ac s.next s s'→QR s.next s' w (C+Bu (DF vars wals) vs cs)→QH (C+Bu (DF vars wals) vs cs) (k1+M * (k1+kv+1))→K w s'):WF E 13 [vl,.slice av vars.length cv,.slice ac wals.length cc] K s:=by
  have hl0:=hl
  obtain⟨x1,a1,n1,c1,b1,m1,d1,xv,nv,xcv,xc,nc,xcc,ea⟩:=hl.shape
  subst ea
  have hM1:(M+2) * (k1+kv+1)=(M+1) * (k1+kv+1)+(k1+kv+1):=oH _ _
  have hM3:(M+1) * (k1+kv+1)=M * (k1+kv+1)+(k1+kv+1):=oH _ _
  have hM2:(M+2) * (kl+2)=(M+1) * (kl+2)+(kl+2):=oH _ _
  have hMb:M≤M * (k1+kv+1):=pR _ (by omega)
  have hMk:kl+2≤(M+1) * (kl+2):=Nat.le_mul_of_pos_left _ (by omega)
  refine hE.go iU (by decide) rfl ?_
  obtain⟨n3,o3,g1,g2,g3⟩:=Iu s (BL x1 (.slice a1 n1 c1) (.slice b1 m1 d1) (.slice xv nv xcv) (.slice xc nc xcc)) (R 27 0 false [.slice av vars.length cv]) (R 28 0 false [.slice ac wals.length cc])
  obtain⟨n4,o4,g4⟩:=Bj (newObj (newObj (newObj s (BL x1 (.slice a1 n1 c1) (.slice b1 m1 d1) (.slice xv nv xcv) (.slice xc nc xcc))) (R 27 0 false [.slice av vars.length cv])) (R 28 0 false [.slice ac wals.length cc])) ZQ
  simp only[mZ,bP,bQ,Wz,Xg,Xm,BU,Xb,Aq,Qa,Qb,Qc,Qd,Qe,Qf,Qg,Qh,Qi,Qj,Qk,Ql,Qm,Qn,true_and,and_true,Qo,Qp,Qq,Qr,Qs,Qt,Qu,Qv,Qw,Qx,Qy,Qz,Ra,Rb,Rc,Rd,Re,Rf,Rg,Rh,Ri,Rj,Rk,Rm,Rn,Ro,Rp,Rq,Rs,Ya,Yb,Yc,Rt,Ru,Za,Yd,Ye,Rx,Ry,Rz,Wa,Wb,Wc,Wd]
  generalize hs3:newObj (newObj (newObj s (BL x1 (.slice a1 n1 c1) (.slice b1 m1 d1) (.slice xv nv xcv) (.slice xc nc xcc))) (R 27 0 false [.slice av vars.length cv])) (R 28 0 false [.slice ac wals.length cc])=s3 at *
  generalize hs1:newObj s3 ZQ=s1 at *
  have o1:Ac s.next s s1:=o3.trans (o4.mono o3.1)
  have h1:s1.next=s.next+4:=by omega
  have k1':=(o4.2 s.next (by omega)).trans g1
  have k2':=(o4.2 (s.next+1) (by omega)).trans g2
  have k3':=(o4.2 (s.next+2) (by omega)).trans g3
  rw[n3]at g4
  have l1:=AE (P:=Tryz.prog) (t:=30) DD Cs k1' rfl
  simp only[l1,Qa,Qb,Qc,Qd,Qe,Qf,Qg,Qh,Qi,Qj,Qk,Ql,Qm,Qn,true_and,and_true,Qo,Qp,Qq,Qr,Qs,Qt,Qu,Qv,Qw,Qx,Qy,Qz,Ra,Rb,Rc,Rd,Re,Rf,Rg,Rh,Ri,Rj,Rk,Rm,Rn,Ro,Rp,Rq,Rs,Ya,Yb,Yc,Rt,Ru,Za,Yd,Ye,Rx,Ry,Rz,Wa,Wb,Wc,Wd]
  refine YO hE.toGoodN (hl0.old o1) hkl (by rw[hM];omega) fun s2 v2 mi T o2 r2 hT=>?_
  rw[hM,← hk1]at r2
  have h2:=o2.1
  have hTl:=hT.len
  rw[hM]at hTl
  simp only[pG]at hTl
  obtain⟨x,a,n,ca,d,m,cd,rfl,hP⟩:=r2
  obtain⟨n5,o5,g5⟩:=Bj s2 ZP
  have st:=F9 (cs0:=[.bool false,.slice none 0 (some 0),.slice none 0 (some 0),.map none]) rfl (x:=x) (a:=a) (n:=n) (c:=ca) (b:=d) (m:=m) (d:=cd) (mi:=mi) g5
  simp only[D2,Xb,st,Xx,Xz,Qa,Qb,Qc,Qd,Qe,Qf,Qg,Qh,Qi,Qj,Qk,Ql,Qm,Qn,true_and,and_true,Qo,Qp,Qq,Qr,Qs,Qt,Qu,Qv,Qw,Qx,Qy,Qz,Ra,Rb,Rc,Rd,Re,Rf,Rg,Rh,Ri,Rj,Rk,Rm,Rn,Ro,Rp,Rq,Rs,Ya,Yb,Yc,Rt,Ru,Za,Yd,Ye,Rx,Ry,Rz,Wa,Wb,Wc,Wd]
  generalize hs4:setObj (newObj s2 ZP) s2.next (BP x (.slice a n ca) (.slice d m cd) mi)=s4
  have o24:Ac s2.next s2 s4:=by rw[← hs4];exact o5.set (nl _) _
  have n6:s4.next=s2.next+1:=by rw[← hs4];exact n5
  have q4:s4.heap.get s2.next=some (BP x (.slice a n ca) (.slice d m cd) mi):=by rw[← hs4,Wv]
  have l4:AC Tryz.prog s4 26 (.ptr (some (s2.next,0+0)))=some (.agg [.bool x,.slice a n ca,.slice d m cd]):=Au (o:=0) (n:=3) A9 Ar q4 (by simp)
  obtain⟨n7,o7,g7⟩:=Bj s4 ZQ
  obtain⟨st5,_⟩:=BS (cs0:=[.bool false,.slice none 0 (some 0),.slice none 0 (some 0)]) rfl (x:=x) (a:=a) (n:=n) (c:=ca) (b:=d) (m:=m) (d:=cd) g7
  simp only[bR,l4,BU,Xb,st5,M8,Xx,Xz,Qa,Qb,Qc,Qd,Qe,Qf,Qg,Qh,Qi,Qj,Qk,Ql,Qm,Qn,true_and,and_true,Qo,Qp,Qq,Qr,Qs,Qt,Qu,Qv,Qw,Qx,Qy,Qz,Ra,Rb,Rc,Rd,Re,Rf,Rg,Rh,Ri,Rj,Rk,Rm,Rn,Ro,Rp,Rq,Rs,Ya,Yb,Yc,Rt,Ru,Za,Yd,Ye,Rx,Ry,Rz,Wa,Wb,Wc,Wd]
  generalize hs5:setObj (newObj s4 ZQ) s4.next (BQ x (.slice a n ca) (.slice d m cd))=s5
  have o45:Ac s4.next s4 s5:=by rw[← hs5];exact o7.set (nl _) _
  have n8:s5.next=s4.next+1:=by rw[← hs5];exact n7
  have q5:s5.heap.get s4.next=some (BQ x (.slice a n ca) (.slice d m cd)):=by rw[← hs5,Wv]
  have o25:Ac s2.next s2 s5:=o24.trans (o45.mono o24.1)
  have p5:=(o45.2 s2.next (by omega)).trans q4
  have l5:=AE (P:=Tryz.prog) (t:=56) J5 Hh p5 rfl
  simp only[bS,l5,Qa,Qb,Qc,Qd,Qe,Qf,Qg,Qh,Qi,Qj,Qk,Ql,Qm,Qn,true_and,and_true,Qo,Qp,Qq,Qr,Qs,Qt,Qu,Qv,Qw,Qx,Qy,Qz,Ra,Rb,Rc,Rd,Re,Rf,Rg,Rh,Ri,Rj,Rk,Rm,Rn,Ro,Rp,Rq,Rs,Ya,Yb,Yc,Rt,Ru,Za,Yd,Ye,Rx,Ry,Rz,Wa,Wb,Wc,Wd]
  refine UO hE.toGoodN fun s6 n9 o56 g6=>?_
  simp only[Qa,Qb,Qc,Qd,Qe,Qf,Qg,Qh,Qi,Qj,Qk,Ql,Qm,Qn,true_and,and_true,Qo,Qp,Qq,Qr,Qs,Qt,Qu,Qv,Qw,Qx,Qy,Qz,Ra,Rb,Rc,Rd,Re,Rf,Rg,Rh,Ri,Rj,Rk,Rm,Rn,Ro,Rp,Rq,Rs,Ya,Yb,Yc,Rt,Ru,Za,Yd,Ye,Rx,Ry,Rz,Wa,Wb,Wc,Wd]
  refine WC.range rfl ?_
  show WF E 77 [.yield (s6.next+1),.ptr (some (s5.next,0))] _ (newObj (newObj s6 .mark) (.loop (Ff _ _ _ s.next s2.next s4.next _ _ _ _ _ _ _ s6.next)))
  generalize hlo:Ff _ _ _ s.next s2.next s4.next _ _ _ _ _ _ _ s6.next=lo
  have hm1:(newObj s6 .mark).next=s6.next+1:=rfl
  generalize hs7:newObj (newObj s6 .mark) (.loop lo)=s7
  have n10:s7.next=s6.next+2:=by rw[← hs7];rfl
  have f7:∀j,j<s6.next→s7.heap.get j=s6.heap.get j:=fun j hj=>by rw[← hs7,AO,if_neg (by omega),AO,if_neg (by omega)]
  have hmk7:s7.heap.get s6.next=some .mark:=by rw[← hs7,AO,if_neg (by omega),AO,if_pos rfl]
  have hlp7:BC s7 (s6.next+1)=some lo:=by
    unfold BC
    rw[← hs7,AO,if_pos hm1.symm]
  have o67:Ac s6.next s6 s7:=⟨by omega,f7⟩
  have o57:Ac s5.next s5 s7:=o56.trans (o67.mono o56.1)
  have o27:Ac s2.next s2 s7:=o25.trans (o57.mono o25.1)
  have o12:=o1.trans (o2.mono o1.1)
  have gA4:=(o2.2 (s.next+1) (by omega)).trans k2'
  have gA5:=(o2.2 (s.next+1+1) (by omega)).trans k3'
  have hcv2:=(hcv.old o12 (nl _)).mono o12.1
  have hrat2:=hrat.old o12
  have q7:s7.heap.get s4.next=some (BQ x (.slice a n ca) (.slice d m cd)):=(o57.2 s4.next (by omega)).trans q5
  refine R7 hE (sA:=s2) (pb:=s5.next) (l:=s6.next+1) hP.map (by omega) (by omega) o27 ((f7 _ (by omega)).trans g6) (by omega) (O0:=[s4.next,s6.next+1]) (by simp;omega) (fun j hj=>by simp at hj;omega)
    (js lo s4.next (s6.next+1) k1 (k1+kv+1) s1.next C (DF vars wals)) (fun done O S S' h o=>h.stab (by omega) o) (fun done O S h j hj=>by have h1:=h.ll;rw[h.o]at hj;simp at hj;omega) (fun done n' q vq O S K2 hI hoS hq hmem hdl hK2=>?_)
    ⟨hlp7,by omega,rfl,_,_,_,_,_,_,_,q7,?_,?_⟩ fun v S O hoS hnS hfS hI=>?_
  · subst hlo
    obtain⟨e1,e2,_⟩:=(hP.map.old hoS).ent _ hmem
    exact UT hE.toGoodN (M:=M+1) gA4 gA5 (by omega) hcv2 hrat2 hvl h2 (by omega) (by omega) (by omega) hkv (by omega) (by show 2 * (k1+(M+2) * (k1+kv+1))+1≤1000000000;omega) hI hoS (e1.mono (oB _)) e2 hK2
  · show QR s1.next s7 _ (C+0)
    rw[Rat.add_zero];exact hP.cq.old o27
  · show QH (C+0) _
    rw[Rat.add_zero];exact hP.ch.le (by simp)
  obtain⟨hlp,hll,hO,x8,a8,nn8,c8,b8,m8,d8,gp,hcq,hch⟩:=hI
  have hev:C+JE (DF vars wals) (C8 T)=C+Bu (DF vars wals) vs cs:=by
    rw[Sf _ hP.map.nd,hT.ev,Rat.mul_one]
    show C+(0+_)=_
    rw[Rat.zero_add]
  rw[hev]at hcq hch
  refine⟨lo,hlp,by rw[← hlo];rfl,?_⟩
  have hpd:lo.pending=none:=by rw[← hlo];rfl
  rw[hpd]
  generalize hs8:setObj S (s6.next+1) _=s8
  have n11:s8.next=S.next:=by rw[← hs8];rfl
  have f8:∀j,j≠s6.next+1→s8.heap.get j=S.heap.get j:=fun j hj=>by rw[← hs8,Ww _ hj]
  have g8:s8.heap.get s4.next=some (BQ x8 (.slice a8 nn8 c8) (.slice b8 m8 d8)):=by rw[f8 _ (by omega)];exact gp
  have l8:=AE (P:=Tryz.prog) (t:=26) A9 Ar g8 rfl
  have gz:s8.heap.get (s.next+1+1+1)=some ZQ:=by rw[f8 _ (by omega),hoS.2 _ (by omega),o2.2 _ (by omega)];exact g4
  obtain⟨st9,_⟩:=BS (cs0:=[.bool false,.slice none 0 (some 0),.slice none 0 (some 0)]) rfl (x:=x8) (a:=a8) (n:=nn8) (c:=c8) (b:=b8) (m:=m8) (d:=d8) gz
  generalize hs9:setObj s8 (s.next+1+1+1) (BQ x8 (.slice a8 nn8 c8) (.slice b8 m8 d8))=s9 at st9
  have f9:∀j,j≠s.next+1+1+1→s9.heap.get j=s8.heap.get j:=fun j hj=>by rw[← hs9,Ww _ hj]
  have g9:s9.heap.get (s.next+1+1+1)=some (BQ x8 (.slice a8 nn8 c8) (.slice b8 m8 d8)):=by rw[← hs9,Wv]
  have n12:s9.next=s8.next:=by rw[← hs9];rfl
  have hSn:=hoS.1
  have hmk9:s9.heap.get s6.next=some .mark:=by rw[f9 _ (by omega),f8 _ (by omega),hfS _ (by omega) (by simp;omega)];exact hmk7
  obtain⟨s10,u1,u2,u3⟩:=FS [s6.next] s9 (by simp) (fun m h=>by rw[List.mem_singleton.1 h];exact hmk9)
  have u3':∀j,j≠s6.next→s10.heap.get j=s9.heap.get j:=fun j hj=>u3 j (by simpa using hj)
  have l10:=AE (P:=Tryz.prog) (t:=26) A9 Ar ((u3' (s.next+1+1+1) (by omega)).trans g9) rfl
  simp only[J0,VJ,l8,st9,u1,l10,AL,Xx,Xz,Qa,Qb,Qc,Qd,Qe,Qf,Qg,Qh,Qi,Qj,Qk,Ql,Qm,Qn,true_and,and_true,Qo,Qp,Qq,Qr,Qs,Qt,Qu,Qv,Qw,Qx,Qy,Qz,Ra,Rb,Rc,Rd,Re,Rf,Rg,Rh,Ri,Rj,Rk,Rm,Rn,Ro,Rp,Rq,Rs,Ya,Yb,Yc,Rt,Ru,Za,Yd,Ye,Rx,Ry,Rz,Wa,Wb,Wc,Wd]
  refine hK s10 _ ⟨by omega,fun j hj=>?_⟩ ?_ (hch.le ?_)
  · rw[u3' j (by omega),f9 j (by omega),f8 j (by omega),hoS.2 j (by omega),o12.2 j hj]
  · refine QR.mono (b := s1.next) (hcq.keepS (by omega) fun j hj hu => ?_) (by omega)
    rw[u3' j ?_,f9 j ?_,f8 j ?_]
    · rintro rfl
      obtain⟨r,e1,_⟩:=hu
      have:=Ch hlp
      rw[this]at e1;cases e1
    · intro e
      have gz':S.heap.get (s.next+1+1+1)=some ZQ:=by rw[hoS.2 _ (by omega),o2.2 _ (by omega)];exact g4
      exact Ey gz' (by decide) hu e
    · rintro rfl
      obtain⟨r,e1,_⟩:=hu
      rw[hfS _ (by omega) (by simp;omega),hmk7]at e1;cases e1
  · have hcl := OP       T
    have:(C8 T).length * (k1+kv+1)≤M * (k1+kv+1):=oC _ (by omega)
    omega
end
end
end Go.Proofs.YtjnkfbpadpmakaaGreatDoor.Am
set_option linter.unusedVariables false
set_option linter.unusedSimpArgs false
set_option maxRecDepth 100000
namespace Go.Proofs.YtjnkfbpadpmakaaGreatDoor.Am
open Go Go.Proofs
noncomputable section
def cV:List AA:=[
 ⟨none,.mk (fun l=>match l with | [v]=>Be 26 v | _=>none),[.var 0],(.set 1),[]⟩,
 ⟨none,.mk (fun l=>match l with | []=>Ab Tryz.prog 26 | _=>none),[],(.set 2),[]⟩]
def cW:List AA:=[
 ⟨none,.p1 (fun x=>AH Tryz.prog 26 x 0),[.var 1],.push,[]⟩,
 ⟨none,.p1 (fun x=>AH Tryz.prog 24 x 1),[.loc 0],.push,[]⟩,
 ⟨none,.r1 (fun s a=>AC Tryz.prog s 22 a),[.loc 0],.push,[]⟩,
 ⟨none,.p1 (fun x=>AH Tryz.prog 26 x 0),[.var 1],.push,[]⟩,
 ⟨none,.p1 (fun x=>AH Tryz.prog 24 x 1),[.loc 0],.push,[]⟩,
 ⟨none,.r1 (fun s a=>AC Tryz.prog s 22 a),[.loc 0],.push,[]⟩,
 ⟨none,.r (fun s l=>match l with | [x]=>BZ Tryz.prog s 22 x | _=>none),[.loc 0],.push,[]⟩,
 ⟨none,.p (fun l=>match l with | v::l=>B3 false v l | []=>none),[(.loc 0),(.const (.int .i64 (3)))],.push,[]⟩,
 ⟨none,.r (A4 Tryz.prog 22 false true false),[.loc 5,.loc 0],.push,[]⟩,
 ⟨none,.p1 (fun x=>AH Tryz.prog 26 x 0),[.var 1],.push,[]⟩,
 ⟨none,.p1 (fun x=>AH Tryz.prog 24 x 1),[.loc 0],.push,[]⟩,
 ⟨none,.e (fun s=>Xx (fun a x=>Xz (AK Tryz.prog s 22 a x))),[.loc 0,.loc 2],.push,[]⟩]
def cX:List AA:=[
 ⟨none,.p1 (fun x=>AH Tryz.prog 26 x 1),[.var 1],.push,[]⟩,
 ⟨none,.r1 (fun s a=>AC Tryz.prog s 22 a),[.loc 0],.push,[]⟩,
 ⟨none,.p1 (fun x=>AH Tryz.prog 26 x 1),[.var 1],.push,[]⟩,
 ⟨none,.r1 (fun s a=>AC Tryz.prog s 22 a),[.loc 0],.push,[]⟩,
 ⟨none,.r (fun s l=>match l with | [x]=>BZ Tryz.prog s 22 x | _=>none),[.loc 0],.push,[]⟩,
 ⟨none,.p (fun l=>match l with | v::l=>B3 false v l | []=>none),[(.loc 0),(.const (.int .i64 (3)))],.push,[]⟩,
 ⟨none,.r (A4 Tryz.prog 22 false true false),[.loc 4,.loc 0],.push,[]⟩,
 ⟨none,.p1 (fun x=>AH Tryz.prog 26 x 1),[.var 1],.push,[]⟩,
 ⟨none,.e (fun s=>Xx (fun a x=>Xz (AK Tryz.prog s 22 a x))),[.loc 0,.loc 1],.push,[]⟩]
def cY:List AA:=[
 ⟨none,.r1 (fun s a=>AC Tryz.prog s 26 a),[.var 1],.push,[]⟩,
 ⟨none,.e (fun s=>Xx (fun a x=>Xz (AK Tryz.prog s 26 a x))),[.var 2,.loc 0],.push,[]⟩]
def mr:Ao:=⟨1,3,(.seq (.ops cV) (.seq (.ops cW) (.seq (.ops cX) (.seq (.ops cY) .ret)))),[((.var 2),some 26)]⟩
def kZ:List AA:=[
 ⟨none,.mk (fun l=>match l with | [v]=>Be 30 v | _=>none),[.var 0],(.set 1),[]⟩,
 ⟨none,.mk (fun l=>match l with | []=>Ab Tryz.prog 30 | _=>none),[],(.set 2),[]⟩]
def ke:List AA:=[
 ⟨none,.p1 (fun x=>AH Tryz.prog 30 x 0),[.var 1],.push,[]⟩,
 ⟨none,.r1 (fun s a=>AC Tryz.prog s 26 a),[.loc 0],.push,[]⟩,
 ⟨none,.p1 (fun x=>AH Tryz.prog 30 x 1),[.var 1],.push,[]⟩,
 ⟨none,.r1 (fun s a=>AC Tryz.prog s 27 a),[.loc 0],.push,[]⟩,
 ⟨none,.p1 (fun x=>AH Tryz.prog 30 x 1),[.var 1],.push,[]⟩,
 ⟨none,.r1 (fun s a=>AC Tryz.prog s 27 a),[.loc 0],.push,[]⟩,
 ⟨none,.r (fun s l=>match l with | [x]=>BZ Tryz.prog s 27 x | _=>none),[.loc 0],.push,[]⟩,
 ⟨none,.p (fun l=>match l with | v::l=>B3 false v l | []=>none),[(.loc 0),(.const (.int .i64 (8)))],.push,[]⟩,
 ⟨none,.r (A4 Tryz.prog 27 false true false),[.loc 4,.loc 0],.push,[]⟩,
 ⟨none,.mk (fun l=>match l with | []=>Ab Tryz.prog 30 | _=>none),[],(.set 3),[]⟩,
 ⟨none,.call 31,[.loc 7],.push,[⟨none,.r (A4 Tryz.prog 27 false true false),[.loc 6,.loc 2],(.loc 1)⟩,⟨none,.r (fun s l=>match l with | [x]=>BZ Tryz.prog s 27 x | _=>none),[.loc 4],(.loc 3)⟩,⟨none,.r1 (fun s a=>AC Tryz.prog s 27 a),[.loc 5],(.loc 4)⟩,⟨none,.r1 (fun s a=>AC Tryz.prog s 27 a),[.loc 7],(.loc 6)⟩]⟩,
 ⟨none,.p (fun l=>Cz Tryz.prog 30 (zipIdx [0,1] l)),[.loc 0,.loc 1],.push,[]⟩,
 ⟨none,.e (fun s=>Xx (fun a x=>Xz (AK Tryz.prog s 30 a x))),[.var 3,.loc 0],.push,[]⟩]
def kf:List AA:=[
 ⟨none,.p1 some,[(.const (.int .i64 (0)))],(.set 4),[]⟩]
def iQ:List AA:=[
 ⟨none,.p1 (fun x=>AH Tryz.prog 30 x 2),[.var 1],.push,[]⟩,
 ⟨none,.r1 (fun s a=>AC Tryz.prog s 28 a),[.loc 0],.push,[]⟩,
 ⟨none,.r (fun s l=>match l with | [x]=>BZ Tryz.prog s 28 x | _=>none),[.loc 0],.push,[]⟩,
 ⟨none,.p2 (AT Tryz.prog .lss 3),[.var 4,.loc 0],.push,[]⟩,
 ⟨(some ((.loc 0),true)),.p1 some,[.var 4],.push,[]⟩,
 ⟨(some ((.loc 1),true)),.p2 (AT Tryz.prog .lss 3),[(.loc 0),(.const (.int .i64 (8)))],.push,[]⟩,
 ⟨none,.p Rt,[(.loc 2),(.loc 0),(.const (.bool false))],(.set 5),[]⟩]
def kg:List AA:=[
 ⟨none,.p1 (fun x=>AH Tryz.prog 30 x 2),[.var 3],.push,[]⟩,
 ⟨none,.r1 (fun s a=>AC Tryz.prog s 28 a),[.loc 0],.push,[]⟩,
 ⟨none,.p1 (fun x=>AH Tryz.prog 30 x 2),[.var 1],.push,[]⟩,
 ⟨none,.r1 (fun s a=>AC Tryz.prog s 28 a),[.loc 0],.push,[]⟩,
 ⟨none,.p2 (AM Tryz.prog 28),[.loc 0,.var 4],.push,[]⟩,
 ⟨none,.r1 (fun s a=>AC Tryz.prog s 26 a),[.loc 0],.push,[]⟩,
 ⟨none,.call 31,[.loc 0],.push,[⟨none,.r1 (fun s a=>AC Tryz.prog s 28 a),[.loc 6],(.loc 5)⟩]⟩,
 ⟨none,.mk (fun l=>(Ad Tryz.prog 28 1 (zipIdx [0] l)).bind fun r=>some (r,.slice 1)),[.loc 0],.push,[]⟩,
 ⟨none,.e (fun s l=>Av Tryz.prog s [28,28] l),[.loc 6,.loc 0],.push,[]⟩,
 ⟨none,.p1 (fun x=>AH Tryz.prog 30 x 2),[.var 3],.push,[]⟩,
 ⟨none,.e (fun s=>Xx (fun a x=>Xz (AK Tryz.prog s 28 a x))),[.loc 0,.loc 1],.push,[]⟩]
def kh:List AA:=[
 ⟨none,.p1 some,[.var 4],.push,[]⟩,
 ⟨none,.p2 (AT Tryz.prog .add 3),[(.loc 0),(.const (.int .i64 (1)))],.push,[]⟩,
 ⟨none,.p1 some,[.loc 0],(.set 4),[]⟩]
def W8:Af:=(.seq (.seq (.ops iQ) (.cond (.var 5)
 .skip
 (.exit 0))) (.seq (.block 1 (.ops kg)) (.ops kh)))
def ki:List AA:=[
 ⟨none,.r1 (fun s a=>AC Tryz.prog s 30 a),[.var 3],.push,[]⟩,
 ⟨none,.e (fun s=>Xx (fun a x=>Xz (AK Tryz.prog s 30 a x))),[.var 2,.loc 0],.push,[]⟩]
def c7:Ao:=⟨1,6,(.seq (.ops kZ) (.seq (.ops ke) (.seq (.seq (.ops kf) (.block 0 (.loop W8))) (.seq (.ops ki) .ret)))),[((.var 2),some 30)]⟩
def kj:List AA:=[
 ⟨none,.p1 some,[(.const (.slice none 0 (some 0)))],(.set 1),[]⟩]
def km:List AA:=[
 ⟨none,.p1 some,[(.const (.slice none 0 (some 0)))],(.set 2),[]⟩]
def ku:List AA:=[
 ⟨none,.p1 some,[(.const (.int .i64 (0)))],(.set 3),[]⟩]
def iR:List AA:=[
 ⟨none,.r (fun s l=>match l with | [x]=>BZ Tryz.prog s 28 x | _=>none),[.var 0],.push,[]⟩,
 ⟨none,.p2 (AT Tryz.prog .lss 3),[.var 3,.loc 0],.push,[]⟩,
 ⟨(some ((.loc 0),true)),.p1 some,[.var 3],.push,[]⟩,
 ⟨(some ((.loc 1),true)),.p2 (AT Tryz.prog .lss 3),[(.loc 0),(.const (.int .i64 (8)))],.push,[]⟩,
 ⟨none,.p Rt,[(.loc 2),(.loc 0),(.const (.bool false))],(.set 4),[]⟩]
def lC:List AA:=[
 ⟨none,.p1 some,[.var 2],.push,[]⟩,
 ⟨none,.p2 (AM Tryz.prog 28),[.var 0,.var 3],.push,[]⟩,
 ⟨none,.r1 (fun s a=>AC Tryz.prog s 26 a),[.loc 0],.push,[]⟩,
 ⟨none,.call 31,[.loc 0],.push,[]⟩,
 ⟨none,.mk (fun l=>(Ad Tryz.prog 28 1 (zipIdx [0] l)).bind fun r=>some (r,.slice 1)),[.loc 0],.push,[]⟩,
 ⟨none,.e (fun s l=>Av Tryz.prog s [28,28] l),[.loc 4,.loc 0],.push,[]⟩,
 ⟨none,.p1 some,[.loc 0],(.set 2),[]⟩]
def lD:List AA:=[
 ⟨none,.p1 some,[.var 3],.push,[]⟩,
 ⟨none,.p2 (AT Tryz.prog .add 3),[(.loc 0),(.const (.int .i64 (1)))],.push,[]⟩,
 ⟨none,.p1 some,[.loc 0],(.set 3),[]⟩]
def W9:Af:=(.seq (.seq (.ops iR) (.cond (.var 4)
 .skip
 (.exit 0))) (.seq (.block 1 (.ops lC)) (.ops lD)))
def lE:List AA:=[
 ⟨none,.p1 some,[.var 2],(.set 1),[]⟩]
def c8:Ao:=⟨1,5,(.seq (.ops kj) (.seq (.ops km) (.seq (.seq (.ops ku) (.block 0 (.loop W9))) (.seq (.ops lE) .ret)))),[((.var 1),none)]⟩
def kR:List AA:=[
 ⟨none,.mk (fun l=>match l with | [v]=>Be 31 v | _=>none),[.var 0],(.set 3),[]⟩,
 ⟨none,.p1 some,[(.const (.bool false))],(.set 4),[]⟩]
def kS:List AA:=[
 ⟨none,.call 15,[],.push,[]⟩,
 ⟨none,.p1 (UH Tryz.prog Go.UnOp.not),[.loc 0],(.set 14),[]⟩]
def mE:List AA:=[
 ⟨none,.p1 some,[(.const (.bool false))],(.set 4),[]⟩]
def kV:List AA:=[
 ⟨none,.p2 (AM Tryz.prog 31),[(.var 3),(.const (.int .i64 (0)))],.push,[]⟩,
 ⟨none,.r1 (fun s a=>AC Tryz.prog s 30 a),[.loc 0],.push,[]⟩,
 ⟨none,.p2 (AM Tryz.prog 31),[(.var 3),(.const (.int .i64 (1)))],.push,[]⟩,
 ⟨none,.r1 (fun s a=>AC Tryz.prog s 30 a),[.loc 0],.push,[]⟩,
 ⟨none,.mk (fun l=>match l with | []=>Ab Tryz.prog 30 | _=>none),[],(.set 5),[]⟩,
 ⟨none,.mk (fun l=>match l with | []=>Ab Tryz.prog 30 | _=>none),[],(.set 6),[]⟩,
 ⟨none,.call 7,[.loc 2],.push,[⟨none,.r1 (fun s a=>AC Tryz.prog s 30 a),[.loc 2],(.loc 1)⟩]⟩,
 ⟨none,.call 7,[.loc 1],.push,[]⟩,
 ⟨none,.e (fun s=>Xx (fun a x=>Xz (AK Tryz.prog s 30 a x))),[.var 5,.loc 1],.push,[]⟩,
 ⟨none,.e (fun s=>Xx (fun a x=>Xz (AK Tryz.prog s 30 a x))),[.var 6,.loc 1],.push,[]⟩]
def kW:List AA:=[
 ⟨none,.p1 some,[.var 1],.push,[]⟩,
 ⟨none,.p1 some,[.var 1],.push,[]⟩,
 ⟨none,.r (fun s l=>match l with | [x]=>BZ Tryz.prog s 27 x | _=>none),[.loc 0],.push,[]⟩,
 ⟨none,.p (fun l=>match l with | v::l=>B3 false v l | []=>none),[(.loc 0),(.const (.int .i64 (8)))],.push,[]⟩,
 ⟨none,.r (A4 Tryz.prog 27 false true false),[.loc 3,.loc 0],.push,[]⟩,
 ⟨none,.p1 some,[.var 2],.push,[]⟩,
 ⟨none,.call 8,[.loc 0],.push,[⟨none,.r (A4 Tryz.prog 27 false true false),[.loc 6,.loc 3],(.loc 2)⟩,⟨none,.r (fun s l=>match l with | [x]=>BZ Tryz.prog s 27 x | _=>none),[.loc 5],(.loc 4)⟩]⟩,
 ⟨none,.p1 some,[.loc 2],(.set 1),[]⟩,
 ⟨none,.p1 some,[.loc 0],(.set 2),[]⟩]
def kX:List AA:=[
 ⟨none,.r1 (fun s a=>AC Tryz.prog s 30 a),[.var 5],.push,[]⟩,
 ⟨none,.r1 (fun s a=>AC Tryz.prog s 30 a),[.var 6],.push,[]⟩,
 ⟨none,.mk (fun l=>match l with | []=>Ab Tryz.prog 26 | _=>none),[],(.set 7),[]⟩,
 ⟨none,.mk (fun l=>match l with | []=>Ab Tryz.prog 26 | _=>none),[],(.set 8),[]⟩,
 ⟨none,.call 13,[.loc 1,.var 1,.var 2],.push,[⟨none,.r1 (fun s a=>AC Tryz.prog s 30 a),[.var 6],(.loc 1)⟩]⟩,
 ⟨none,.call 13,[.loc 1,.var 1,.var 2],.push,[]⟩,
 ⟨none,.e (fun s=>Xx (fun a x=>Xz (AK Tryz.prog s 26 a x))),[.var 7,.loc 1],.push,[]⟩,
 ⟨none,.e (fun s=>Xx (fun a x=>Xz (AK Tryz.prog s 26 a x))),[.var 8,.loc 1],.push,[]⟩]
def iO:List AA:=[
 ⟨none,.r1 (fun s a=>AC Tryz.prog s 30 a),[.var 5],.push,[]⟩,
 ⟨none,.r1 (fun s a=>AC Tryz.prog s 30 a),[.var 6],.push,[]⟩,
 ⟨none,.mk (fun l=>(Ad Tryz.prog 46 2 (zipIdx [0,1] l)).bind fun r=>some (r,.slice 2)),[.loc 1,.loc 0],.push,[]⟩,
 ⟨none,.r1 (fun s a=>AC Tryz.prog s 26 a),[.var 7],.push,[]⟩,
 ⟨none,.r1 (fun s a=>AC Tryz.prog s 26 a),[.var 8],.push,[]⟩,
 ⟨none,.call 20,[.loc 2],.push,[⟨none,.r1 (fun s a=>AC Tryz.prog s 26 a),[.var 8],(.loc 1)⟩,⟨none,.r1 (fun s a=>AC Tryz.prog s 26 a),[.var 7],(.loc 2)⟩]⟩,
 ⟨none,.call 13,[.loc 0,.var 1,.var 2],.push,[⟨none,.r1 (fun s a=>AC Tryz.prog s 26 a),[.var 8],(.loc 2)⟩,⟨none,.r1 (fun s a=>AC Tryz.prog s 26 a),[.var 7],(.loc 3)⟩]⟩,
 ⟨none,.call 27,[.loc 3,.loc 2],.push,[]⟩,
 ⟨none,.call 26,[.loc 1,.loc 0],.push,[]⟩,
 ⟨none,.p2 (AT Tryz.prog .neq 3),[(.loc 0),(.const (.int .i64 (0)))],.push,[]⟩,
 ⟨(some ((.loc 0),false)),.r1 (fun s a=>AC Tryz.prog s 30 a),[.var 5],.push,[]⟩,
 ⟨(some ((.loc 1),false)),.r1 (fun s a=>AC Tryz.prog s 30 a),[.var 6],.push,[]⟩,
 ⟨(some ((.loc 2),false)),.p1 some,[.var 1],.push,[]⟩,
 ⟨(some ((.loc 3),false)),.p1 some,[.var 2],.push,[]⟩,
 ⟨(some ((.loc 4),false)),.r1 (fun s a=>AC Tryz.prog s 26 a),[.var 7],.push,[]⟩,
 ⟨(some ((.loc 5),false)),.r1 (fun s a=>AC Tryz.prog s 26 a),[.var 8],.push,[]⟩,
 ⟨(some ((.loc 6),false)),.call 21,[.loc 5,.loc 4],.push,[⟨(some ((.loc 7),false)),.r1 (fun s a=>AC Tryz.prog s 26 a),[.var 8],(.loc 1)⟩,⟨(some ((.loc 7),false)),.r1 (fun s a=>AC Tryz.prog s 26 a),[.var 7],(.loc 2)⟩]⟩,
 ⟨(some ((.loc 7),false)),.call 13,[.loc 0,.loc 4,.loc 3],.push,[⟨(some ((.loc 8),false)),.r1 (fun s a=>AC Tryz.prog s 26 a),[.var 8],(.loc 2)⟩,⟨(some ((.loc 8),false)),.r1 (fun s a=>AC Tryz.prog s 26 a),[.var 7],(.loc 3)⟩]⟩,
 ⟨(some ((.loc 8),false)),.call 28,[.loc 3,.loc 2],.push,[]⟩,
 ⟨(some ((.loc 9),false)),.call 26,[.loc 1,.loc 0],.push,[]⟩,
 ⟨(some ((.loc 10),false)),.p2 (AT Tryz.prog .neq 3),[(.loc 0),(.const (.int .i64 (0)))],.push,[]⟩,
 ⟨none,.p Rt,[(.loc 11),(.const (.bool true)),(.loc 0)],(.set 15),[]⟩]
def mF:List AA:=[
 ⟨none,.p1 some,[(.const (.bool false))],(.set 4),[]⟩]
def kY:List AA:=[
 ⟨none,.p1 some,[(.const (.int .i64 (0)))],(.set 9),[]⟩]
def iP:List AA:=[
 ⟨none,.r (fun s l=>match l with | [x]=>BZ Tryz.prog s 28 x | _=>none),[.var 2],.push,[]⟩,
 ⟨none,.p2 (AT Tryz.prog .lss 3),[.var 9,.loc 0],(.set 16),[]⟩]
def W0:List AA:=[
 ⟨none,.r1 (fun s a=>AC Tryz.prog s 30 a),[.var 5],.push,[]⟩,
 ⟨none,.p2 (AM Tryz.prog 28),[.var 2,.var 9],.push,[]⟩,
 ⟨none,.r1 (fun s a=>AC Tryz.prog s 26 a),[.loc 0],.push,[]⟩,
 ⟨none,.r1 (fun s a=>AC Tryz.prog s 26 a),[.var 7],.push,[]⟩,
 ⟨none,.p2 (AM Tryz.prog 28),[.var 2,.var 9],.push,[]⟩,
 ⟨none,.r1 (fun s a=>AC Tryz.prog s 26 a),[.loc 0],.push,[]⟩,
 ⟨none,.call 22,[.loc 5,.loc 3],.push,[⟨none,.r1 (fun s a=>AC Tryz.prog s 26 a),[.loc 2],(.loc 1)⟩,⟨none,.r1 (fun s a=>AC Tryz.prog s 26 a),[.var 7],(.loc 3)⟩]⟩,
 ⟨none,.call 13,[.loc 0,.var 1,.var 2],.push,[⟨none,.r1 (fun s a=>AC Tryz.prog s 26 a),[.loc 3],(.loc 2)⟩,⟨none,.r1 (fun s a=>AC Tryz.prog s 26 a),[.var 7],(.loc 4)⟩]⟩,
 ⟨none,.call 29,[.loc 4,.loc 2],.push,[]⟩,
 ⟨none,.call 26,[.loc 1,.loc 0],.push,[]⟩,
 ⟨none,.p2 (AT Tryz.prog .neq 3),[(.loc 0),(.const (.int .i64 (0)))],(.set 17),[]⟩]
def kT:List AA:=[
 ⟨none,.p1 some,[(.const (.bool false))],(.set 4),[]⟩]
def fA:List AA:=[
 ⟨none,.p1 some,[.var 9],.push,[]⟩,
 ⟨none,.p2 (AT Tryz.prog .add 3),[(.loc 0),(.const (.int .i64 (1)))],.push,[]⟩,
 ⟨none,.p1 some,[.loc 0],(.set 9),[]⟩]
def OG:Af:=(.seq (.seq (.ops iP) (.cond (.var 16)
 .skip
 (.exit 0))) (.seq (.block 1 (.seq (.ops W0) (.cond (.var 17)
 (.seq (.ops kT) .ret)
 .skip))) (.ops fA)))
def W1:List AA:=[
 ⟨none,.mk (fun l=>(Ad Tryz.prog 27 0 (zipIdx [] l)).bind fun r=>some (r,.slice 0)),[],.push,[]⟩,
 ⟨none,.p1 (fun x=>AH Tryz.prog 30 x 1),[.var 5],.push,[]⟩,
 ⟨none,.r1 (fun s a=>AC Tryz.prog s 27 a),[.loc 0],.push,[]⟩,
 ⟨none,.e (fun s l=>Av Tryz.prog s [27,27] l),[.loc 2,.var 1],.push,[⟨none,.r1 (fun s a=>AC Tryz.prog s 27 a),[.loc 2],(.loc 1)⟩]⟩,
 ⟨none,.e (fun s l=>Av Tryz.prog s [27,27] l),[.loc 0,.loc 1],.push,[]⟩,
 ⟨none,.p1 some,[.loc 0],(.set 10),[]⟩]
def fB:List AA:=[
 ⟨none,.p1 some,[(.const (.int .i64 (0)))],(.set 11),[]⟩]
def W2:List AA:=[
 ⟨none,.r (fun s l=>match l with | [x]=>BZ Tryz.prog s 27 x | _=>none),[.var 10],.push,[]⟩,
 ⟨none,.p2 (AT Tryz.prog .lss 3),[.var 11,.loc 0],(.set 18),[]⟩]
def W3:List AA:=[
 ⟨none,.r1 (fun s a=>AC Tryz.prog s 30 a),[.var 5],.push,[]⟩,
 ⟨none,.p2 (AM Tryz.prog 27),[.var 10,.var 11],.push,[]⟩,
 ⟨none,.r1 (fun s a=>AC Tryz.prog s 3 a),[.loc 0],.push,[]⟩,
 ⟨none,.r1 (fun s a=>AC Tryz.prog s 30 a),[.var 6],.push,[]⟩,
 ⟨none,.mk (fun l=>match l with | []=>Ab Tryz.prog 26 | _=>none),[],(.set 12),[]⟩,
 ⟨none,.call 10,[.loc 3,.loc 1,.loc 0],.push,[]⟩,
 ⟨none,.call 13,[.loc 0,.var 1,.var 2],.push,[]⟩,
 ⟨none,.e (fun s=>Xx (fun a x=>Xz (AK Tryz.prog s 26 a x))),[.var 12,.loc 0],.push,[]⟩]
def W4:List AA:=[
 ⟨none,.r1 (fun s a=>AC Tryz.prog s 30 a),[.var 5],.push,[]⟩,
 ⟨none,.p2 (AM Tryz.prog 27),[.var 10,.var 11],.push,[]⟩,
 ⟨none,.r1 (fun s a=>AC Tryz.prog s 3 a),[.loc 0],.push,[]⟩,
 ⟨none,.mk (fun l=>(Ad Tryz.prog 27 1 (zipIdx [0] l)).bind fun r=>some (r,.slice 1)),[.loc 0],.push,[]⟩,
 ⟨none,.r1 (fun s a=>AC Tryz.prog s 26 a),[.var 8],.push,[]⟩,
 ⟨none,.mk (fun l=>(Ad Tryz.prog 28 1 (zipIdx [0] l)).bind fun r=>some (r,.slice 1)),[.loc 0],.push,[]⟩,
 ⟨none,.mk (fun l=>match l with | []=>Ab Tryz.prog 26 | _=>none),[],(.set 13),[]⟩,
 ⟨none,.e (fun s l=>Av Tryz.prog s [27,27] l),[.loc 2,.var 1],.push,[⟨none,.r1 (fun s a=>AC Tryz.prog s 26 a),[.var 8],(.loc 2)⟩,⟨none,.r1 (fun s a=>AC Tryz.prog s 30 a),[.var 5],(.loc 6)⟩]⟩,
 ⟨none,.e (fun s l=>Av Tryz.prog s [28,28] l),[.loc 1,.var 2],.push,[⟨none,.r1 (fun s a=>AC Tryz.prog s 30 a),[.var 5],(.loc 7)⟩]⟩,
 ⟨none,.call 13,[.loc 7,.loc 1,.loc 0],.push,[]⟩,
 ⟨none,.e (fun s=>Xx (fun a x=>Xz (AK Tryz.prog s 26 a x))),[.var 13,.loc 0],.push,[]⟩]
def W5:List AA:=[
 ⟨none,.r1 (fun s a=>AC Tryz.prog s 26 a),[.var 12],.push,[]⟩,
 ⟨none,.r1 (fun s a=>AC Tryz.prog s 26 a),[.var 13],.push,[]⟩,
 ⟨none,.call 26,[.loc 1,.loc 0],.push,[]⟩,
 ⟨none,.p2 (AT Tryz.prog .neq 3),[(.loc 0),(.const (.int .i64 (0)))],.push,[]⟩,
 ⟨(some ((.loc 0),false)),.p1 some,[.var 10],.push,[]⟩,
 ⟨(some ((.loc 1),false)),.p1 some,[.var 11],.push,[]⟩,
 ⟨(some ((.loc 2),false)),.p2 (AM Tryz.prog 27),[.loc 1,.loc 0],.push,[]⟩,
 ⟨(some ((.loc 3),false)),.r1 (fun s a=>AC Tryz.prog s 3 a),[.loc 0],.push,[]⟩,
 ⟨(some ((.loc 4),false)),.p1 some,[.var 10],.push,[]⟩,
 ⟨(some ((.loc 5),false)),.p1 some,[.var 11],.push,[]⟩,
 ⟨(some ((.loc 6),false)),.p2 (AM Tryz.prog 27),[.loc 1,.loc 0],.push,[]⟩,
 ⟨(some ((.loc 7),false)),.r1 (fun s a=>AC Tryz.prog s 3 a),[.loc 0],.push,[]⟩,
 ⟨(some ((.loc 8),false)),.mk (fun l=>(Ad Tryz.prog 27 1 (zipIdx [0] l)).bind fun r=>some (r,.slice 1)),[.loc 0],.push,[]⟩,
 ⟨(some ((.loc 9),false)),.r1 (fun s a=>AC Tryz.prog s 26 a),[.var 7],.push,[]⟩,
 ⟨(some ((.loc 10),false)),.mk (fun l=>(Ad Tryz.prog 28 1 (zipIdx [0] l)).bind fun r=>some (r,.slice 1)),[.loc 0],.push,[]⟩,
 ⟨(some ((.loc 11),false)),.r1 (fun s a=>AC Tryz.prog s 26 a),[.var 7],.push,[]⟩,
 ⟨(some ((.loc 12),false)),.call 30,[.loc 8],.push,[⟨(some ((.loc 13),false)),.r1 (fun s a=>AC Tryz.prog s 26 a),[.var 7],(.loc 1)⟩,⟨(some ((.loc 13),false)),.r1 (fun s a=>AC Tryz.prog s 26 a),[.var 7],(.loc 3)⟩,⟨(some ((.loc 13),false)),.r1 (fun s a=>AC Tryz.prog s 3 a),[.loc 6],(.loc 5)⟩]⟩,
 ⟨(some ((.loc 13),false)),.call 13,[.loc 0,.loc 4,.loc 2],.push,[⟨(some ((.loc 14),false)),.r1 (fun s a=>AC Tryz.prog s 26 a),[.var 7],(.loc 2)⟩]⟩,
 ⟨(some ((.loc 14),false)),.call 26,[.loc 0,.loc 2],.push,[]⟩,
 ⟨(some ((.loc 15),false)),.p2 (AT Tryz.prog .neq 3),[(.loc 0),(.const (.int .i64 (0)))],.push,[]⟩,
 ⟨none,.p Rt,[(.loc 16),(.const (.bool true)),(.loc 0)],(.set 19),[]⟩]
def kU:List AA:=[
 ⟨none,.p1 some,[(.const (.bool false))],(.set 4),[]⟩]
def fC:List AA:=[
 ⟨none,.p1 some,[.var 11],.push,[]⟩,
 ⟨none,.p2 (AT Tryz.prog .add 3),[(.loc 0),(.const (.int .i64 (1)))],.push,[]⟩,
 ⟨none,.p1 some,[.loc 0],(.set 11),[]⟩]
def OH:Af:=(.seq (.seq (.ops W2) (.cond (.var 18)
 .skip
 (.exit 2))) (.seq (.block 3 (.seq (.ops W3) (.seq (.ops W4) (.seq (.ops W5) (.cond (.var 19)
 (.seq (.ops kU) .ret)
 .skip))))) (.ops fC)))
def fD:List AA:=[
 ⟨none,.p1 some,[(.const (.bool true))],(.set 4),[]⟩]
def c6:Ao:=⟨3,20,(.seq (.ops kR) (.seq (.seq (.ops kS) (.cond (.var 14)
 (.seq (.ops mE) .ret)
 .skip)) (.seq (.ops kV) (.seq (.ops kW) (.seq (.ops kX) (.seq (.seq (.ops iO) (.cond (.var 15)
 (.seq (.ops mF) .ret)
 .skip)) (.seq (.seq (.ops kY) (.block 0 (.loop OG))) (.seq (.ops W1) (.seq (.seq (.ops fB) (.block 2 (.loop OH))) (.seq (.ops fD) .ret)))))))))),[((.var 4),none)]⟩
theorem ie:AN Tryz.prog 31=some mr:=by kernel_rfl
theorem lH:AN Tryz.prog 7=some c7:=by kernel_rfl
theorem lI:AN Tryz.prog 8=some c8:=by kernel_rfl
theorem lG:AN Tryz.prog 6=some c6:=by kernel_rfl
end
end Go.Proofs.YtjnkfbpadpmakaaGreatDoor.Am
set_option linter.unusedVariables false
set_option linter.unusedSimpArgs false
set_option maxRecDepth 16000
namespace Go.Proofs.YtjnkfbpadpmakaaGreatDoor.Am
open Go Go.Proofs
noncomputable section
def QA(s:AD)(v:AV):Prop:=∃neg m d lm ld,v=.agg [.bool neg,m,d]∧Cv s m lm∧Cv s d ld∧Bl lm∧Bl ld
theorem QA.old{s s':AD}{v:AV}(h:QA s v)(o:Ac s.next s s'):QA s' v:=by
 obtain⟨neg,m,d,lm,ld,h1,h2,h3,h4⟩:=h
 exact⟨neg,m,d,lm,ld,h1,h2.old o,h3.old o,h4⟩
structure Ft(s:AD)(a:Option (Nat×Nat))(n:Nat)(cells:List AV):Prop where
 len:cells.length=n * 3
 rd:AZ s.next s a cells
 rat:∀i,i<n→QA s (.agg ((cells.drop (i * 3)).take 3))
theorem Ft.old{s s':AD}{a:Option (Nat×Nat)}{n:Nat}{cells:List AV}(h:Ft s a n cells)(o:Ac s.next s s'):Ft s' a n cells:=
 ⟨h.len,(h.rd.old o (nl _)).mono o.1,fun i hi=>(h.rat i hi).old o⟩
theorem Ft.load{s:AD}{a:Option (Nat×Nat)}{n:Nat}{cells:List AV}(h:Ft s a n cells){i:Nat}(hi:i<n):
  ∃i0 o,a=some (i0,o)∧i0<s.next∧AC Tryz.prog s 26 (.ptr (some (i0,o+i * 3)))=some (.agg ((cells.drop (i * 3)).take 3)):=by
 have hl:=h.len
 have h3:((cells.drop (i * 3)).take 3).length=3:=by rw[oO,oh];omega
 have hget:∀j,j<3→((cells.drop (i * 3)).take 3)[j]? = cells[i * 3+j]? := fun j hj=>by rw[pV hj,pW]
 have h0:cells[i * 3]? = some cells[i * 3]:=nr (by omega)
 obtain⟨i0,o,rfl,hlt,_⟩:=h.rd (i * 3) _ h0
 refine⟨i0,o,rfl,hlt,?_⟩
 have:=Js (o:=s.heap.get i0) ((cells.drop (i * 3)).take 3) (o+i * 3) (fun j u hj=>by
  have hj3:j<3:=by
   rcases nm j 3 with h' | h'
   ·exact h'
   ·rw[oF (by omega)]at hj;cases hj
  rw[hget j hj3]at hj
  obtain⟨i',o',e,_,g⟩:=h.rd _ u hj
  injection e with e
  injection e with e1 e2
  subst e1;subst e2
  rw[Jr]at g
  rw[oY];exact g) (by intro e;rw[e]at h3;cases h3)
 rw[h3]at this
 rw[Wf A9,Ar,Option.bind_some,this]
 rfl
section
variable{E:CP}{s:AD}
theorem LV(hE:GoodN E){s0:AD}(o0:Ac s0.next s0 s){v:AV}(hv:QA s0 v){K:AV→AD→Prop}(hK:∀s' w q,Ac s.next s s'→QI s0 w q 3→K w s'):WF E 31 [v] K s:=by
 obtain⟨neg,m,d,lm,ld,rfl,hm,hd,hsm,hsd⟩:=hv
 obtain⟨am,cm,rfl,xm,ym⟩:=hm
 obtain⟨ad,cd,rfl,xd,yd⟩:=hd
 refine hE.go ie (by decide) rfl ?_
 have xm0:=xm
 have ym0:=ym
 have xd0:=xd
 have yd0:=yd
 replace xm:=xm.old o0
 replace xd:=xd.old o0
 obtain⟨n1,o1,g1,g2⟩:=Eu s (BQ neg (.slice am lm.length cm) (.slice ad ld.length cd)) ZQ
 simp only[mr,cV,Wz,Xg,BU,Xb,Aq,Qa,Qb,Qc,Qd,Qe,Qf,Qg,Qh,Qi,Qj,Qk,Ql,Qm,Qn,true_and,and_true,Qo,Qp,Qq,Qr,Qs,Qt,Qu,Qv,Qw,Qx,Qy,Qz,Ra,Rb,Rc,Rd,Re,Rf,Rg,Rh,Ri,Rj,Rk,Rm,Rn,Ro,Rp,Rq,Rs,Ya,Yb,Yc,Rt,Ru,Za,Yd,Ye,Rx,Ry,Rz,Wa,Wb,Wc,Wd]
 generalize newObj (newObj s (BQ neg (.slice am lm.length cm) (.slice ad ld.length cd))) ZQ=s1 at *
 have l1:=AX (P:=Tryz.prog) (t:=22) (o:=0+0+1) DO g1 rfl
 have cut1:=OS (t:=22) Tryz.underlying22 Ct (xm.old o1) (show min lm.length 3≤lm.length by omega)
 have mm1:B3 false (iv (lm.length:Int)) [.int .i64 3]=some (iv ((min lm.length 3:Nat):Int)):=Kt lm.length 3
 have st1:=B1 (P:=Tryz.prog) (t:=22) (o:=0+0+1) (v:=.slice am (min lm.length 3) cm) Y3 g1 (by simp) rfl
 generalize hs2:setObj s1 s.next _=s2 at st1
 have g3:s2.heap.get s.next=some (BQ neg (.slice am (min lm.length 3) cm) (.slice ad ld.length cd)):=by rw[← hs2,Wv];rfl
 have g4:s2.heap.get (s.next+1)=some ZQ:=by rw[← hs2,Ww _ (by omega)];exact g2
 have o2:Ac s.next s s2:=by rw[← hs2];exact o1.set (nl _) _
 have l2:=AX (P:=Tryz.prog) (t:=22) (o:=0+2) DO g3 rfl
 have cut2:=OS (t:=22) Tryz.underlying22 Ct (xd.old o2) (show min ld.length 3≤ld.length by omega)
 have mm2:B3 false (iv (ld.length:Int)) [.int .i64 3]=some (iv ((min ld.length 3:Nat):Int)):=Kt ld.length 3
 have st2:=B1 (P:=Tryz.prog) (t:=22) (o:=0+2) (v:=.slice ad (min ld.length 3) cd) Y3 g3 (by simp) rfl
 generalize hs3:setObj s2 s.next _=s3 at st2
 have g5:s3.heap.get s.next=some (BQ neg (.slice am (min lm.length 3) cm) (.slice ad (min ld.length 3) cd)):=by rw[← hs3,Wv];rfl
 have g6:s3.heap.get (s.next+1)=some ZQ:=by rw[← hs3,Ww _ (by omega)];exact g4
 have o3:Ac s.next s s3:=by rw[← hs3];exact o2.set (nl _) _
 have l3:=AE (P:=Tryz.prog) (t:=26) A9 Ar g5 rfl
 obtain⟨st4,ld4⟩:=BS (cs0:=[.bool false,.slice none 0 (some 0),.slice none 0 (some 0)]) rfl (x:=neg) (a:=am) (n:=min lm.length 3) (c:=cm) (b:=ad) (m:=min ld.length 3) (d:=cd) g6
 simp only[cW,cX,cY,l1,AU Tryz.underlying22,mm1,cut1,st1,l2,mm2,cut2,st2,l3,st4,ld4,HK,KW,Dk,AL,Xx,Xz,Qa,Qb,Qc,Qd,Qe,Qf,Qg,Qh,Qi,Qj,Qk,Ql,Qm,Qn,true_and,and_true,Qo,Qp,Qq,Qr,Qs,Qt,Qu,Qv,Qw,Qx,Qy,Qz,Ra,Rb,Rc,Rd,Re,Rf,Rg,Rh,Ri,Rj,Rk,Rm,Rn,Ro,Rp,Rq,Rs,Ya,Yb,Yc,Rt,Ru,Za,Yd,Ye,Rx,Ry,Rz,Wa,Wb,Wc,Wd]
 generalize hs4:setObj s3 (s.next+1) (BQ neg (.slice am (min lm.length 3) cm) (.slice ad (min ld.length 3) cd))=s4
 have o4:Ac s.next s s4:=by rw[← hs4];exact o3.set (by omega) _
 have q1:=Cv.take xm0 ym0 (show min lm.length 3≤lm.length by omega)
 have q2:=Cv.take xd0 yd0 (show min ld.length 3≤ld.length by omega)
 exact hK s4 _ _ o4 ⟨neg,_,_,_,_,rfl,q1,q2,hsm.take _,hsd.take _,by rw[oO];omega,by rw[oO];omega,rfl⟩
end
structure E3(s0 S:AD)(cv:AV)(D:List Br)(O:List Nat):Prop where
 buf:Fy 26 3 S cv D.length (Cw D) O
 ent:∀t∈D,QI s0 t.2.2 t.2.1 3
 lo:∀j∈O,s0.next≤j
theorem E3.nil(s0 S:AD):E3 s0 S (.slice none 0 (some 0)) [] []:=⟨Fy.nil _ _ _,fun t h=>by simp at h,fun j h=>by simp at h⟩
theorem E3.frame{s0 S S':AD}{cv:AV}{D:List Br}{O:List Nat}(h:E3 s0 S cv D O)(hn:S.next≤S'.next)(hf:∀j∈O,S'.heap.get j=S.heap.get j):E3 s0 S' cv D O:=⟨h.buf.frame hn hf,h.ent,h.lo⟩
theorem E3.old{s0 S S':AD}{cv:AV}{D:List Br}{O:List Nat}(h:E3 s0 S cv D O)(o:Ac S.next S S'):E3 s0 S' cv D O:=h.frame o.1 fun j hj=>o.2 j (h.buf.lt j hj)
theorem E3.rats{s0 S:AD}{cv:AV}{D:List Br}{O:List Nat}(h:E3 s0 S cv D O)(o:Ac s0.next s0 S):∃a cap,cv=.slice a (D.map fun t=>t.2.1).length cap∧B2 S a (D.map fun t=>t.2.1) 3 (Cw D)∧Fz 3 S a cap (D.map fun t=>t.2.1).length:=by
 obtain⟨a,cap,rfl,hcc,hzc⟩:=h.buf.capZ
 have hl3:∀t∈D,t.2.2.cells.length=3:=fun t ht=>by
  obtain⟨_,_,_,_,_,_,_,e⟩:=(h.ent t ht).shape
  rw[e];rfl
 obtain⟨p1,p2⟩:=Gp D hl3
 refine⟨a,cap,by simp,⟨by simp[p1],hcc,fun i q hi=>?_⟩,by simpa using hzc⟩
 rw[pH]at hi
 cases hDi:D[i]? with
 | none=>rw[hDi]at hi;cases hi
 | some t =>
  rw[hDi]at hi
  injection hi with hi
  have htm:=oP hDi
  rw[p2 i t hDi]
  obtain⟨_,_,_,_,_,_,_,e⟩:=(h.ent t htm).shape
  rw[← hi,show AV.agg t.2.2.cells=t.2.2 from by rw[e];rfl]
  exact(h.ent t htm).old o
theorem E3.push{s0 S:AD}{cv:AV}{D:List Br}{O:List Nat}(h:E3 s0 S cv D O){r:Nat}{x:Bool}{a b:Option (Nat×Nat)}{n m:Nat}{c d:Option Nat}(hr:S.heap.get r=some (R 26 3 false [.bool x,.slice a n c,.slice b m d])){q:Rat}(hq:QI s0 (.agg [.bool x,.slice a n c,.slice b m d]) q 3)(hD:D.length≤1000000000)(ho:s0.next≤S.next):
    ∃cv' S' O',Av Tryz.prog S [28,28] [cv,.slice (some (r,0)) 1 (some 1)]=some (cv',S')∧E3 s0 S' cv' (D++[(0,q,.agg [.bool x,.slice a n c,.slice b m d])]) O'∧S'.next=S.next+1∧(∀j,j<S.next→j ∉ O→S'.heap.get j=S.heap.get j)∧(∀j∈O',j∈O∨S.next≤j):=by
  obtain⟨v8,s8,O8,happ8,b8,n8,f8,hO8⟩:=LE Tryz.underlying28 Ar iH (by decide) No RZ (by decide) h.buf hr rfl rfl hD
  refine⟨v8,s8,O8,happ8,⟨?_,fun t ht=>?_,fun j hj=>?_⟩,n8,f8,hO8⟩
  · have e:Cw (D++[((0:Int),q,AV.agg [.bool x,.slice a n c,.slice b m d])])=Cw D++[.bool x,.slice a n c,.slice b m d]:=by simp[Cw,AV.cells]
    rw[e,oI]
    exact b8
  · rcases List.mem_append.1 ht with ht | ht
    · exact h.ent t ht
    · rw[List.mem_singleton.1 ht];exact hq
  · rcases hO8 j hj with hj | hj
    · exact h.lo j hj
    · omega
section
variable{E:CP}{s:AD}
theorem UC        (hE : GoodN E) {s0 : AD}  {ac : Option (Nat × Nat)} {n : Nat} {cc : Option Nat} {cells : List AV} (hr : Ft    s0 ac n cells) {x1 : AV} {Q : A5   → Prop}
    (hq:∀ (S:AD) (cv:AV) (D:List Br) (O:List Nat) (y3 y4:AV),Ac s0.next s0 S→E3 s0 S cv D O→D.length≤8→Q ⟨.exit 0,[.slice ac n cc,x1,cv,y3,y4],[],S⟩):
    ∀ (r i:Nat) (S:AD) (cv:AV) (D:List Br) (O:List Nat) (x4:AV),8 - i=r→i≤8→D.length=i→Ac s0.next s0 S→E3 s0 S cv D O→WC E none (.loop W9) Q [.slice ac n cc,x1,cv,iv (i:Int),x4] [] S:=by
  intro r
  induction r with
  | zero =>
    intro i S cv D O x4 hi h8 hD ho hF
    have e:i=8:=by omega
    subst e
    refine WC.loop' ?_
    simp only[W9,iR,AU Tryz.underlying28,Qa,Qb,Qc,Qd,Qe,Qf,Qg,Qh,Qi,Qj,Qk,Ql,Qm,Qn,true_and,and_true,Qo,Qp,Qq,Qr,Qs,Qt,Qu,Qv,Qw,Qx,Qy,Qz,Ra,Rb,Rc,Rd,Re,Rf,Rg,Rh,Ri,Rj,Rk,Rm,Rn,Ro,Rp,Rq,Rs,Ya,Yb,Yc,Rt,Ru,Za,Yd,Ye,Rx,Ry,Rz,Wa,Wb,Wc,Wd]
    by_cases hn:((8:Nat):Int)<(n:Int)
    · simp only[decide_eq_true hn,show decide (((8:Nat):Int)<8)=false from rfl,Qa,Qb,Qc,Qd,Qe,Qf,Qg,Qh,Qi,Qj,Qk,Ql,Qm,Qn,true_and,and_true,Qo,Qp,Qq,Qr,Qs,Qt,Qu,Qv,Qw,Qx,Qy,Qz,Ra,Rb,Rc,Rd,Re,Rf,Rg,Rh,Ri,Rj,Rk,Rm,Rn,Ro,Rp,Rq,Rs,Ya,Yb,Yc,Rt,Ru,Za,Yd,Ye,Rx,Ry,Rz,Wa,Wb,Wc,Wd]
      exact hq S cv D O _ _ ho hF (by omega)
    · simp only[decide_eq_false hn,Qa,Qb,Qc,Qd,Qe,Qf,Qg,Qh,Qi,Qj,Qk,Ql,Qm,Qn,true_and,and_true,Qo,Qp,Qq,Qr,Qs,Qt,Qu,Qv,Qw,Qx,Qy,Qz,Ra,Rb,Rc,Rd,Re,Rf,Rg,Rh,Ri,Rj,Rk,Rm,Rn,Ro,Rp,Rq,Rs,Ya,Yb,Yc,Rt,Ru,Za,Yd,Ye,Rx,Ry,Rz,Wa,Wb,Wc,Wd]
      exact hq S cv D O _ _ ho hF (by omega)
  | succ r ih =>
    intro i S cv D O x4 hi h8 hD ho hF
    refine WC.loop' ?_
    generalize hW:WC E none (Af.loop W9) Q=WW
    simp only[W9,iR,AU Tryz.underlying28,Qa,Qb,Qc,Qd,Qe,Qf,Qg,Qh,Qi,Qj,Qk,Ql,Qm,Qn,true_and,and_true,Qo,Qp,Qq,Qr,Qs,Qt,Qu,Qv,Qw,Qx,Qy,Qz,Ra,Rb,Rc,Rd,Re,Rf,Rg,Rh,Ri,Rj,Rk,Rm,Rn,Ro,Rp,Rq,Rs,Ya,Yb,Yc,Rt,Ru,Za,Yd,Ye,Rx,Ry,Rz,Wa,Wb,Wc,Wd]
    by_cases hn:(i:Int)<(n:Int)
    · have hlt : i < n := by omega
      have ix:=An (cap:=cc) (i:=0) (o:=0) (n:=3) Tryz.underlying28 Ar hlt
      obtain⟨i0,o,rfl,hi0,ld⟩:=hr.load hlt
      have ix:=An (cap:=cc) (i:=i0) (o:=o) (n:=3) Tryz.underlying28 Ar hlt
      have ld':AC Tryz.prog S 26 (.ptr (some (i0,o+i * 3)))=some (.agg ((cells.drop (i * 3)).take 3)):=by
        rw[Wf A9]at ld ⊢
        rw[ho.2 i0 hi0];exact ld
      have e17:=Bh Tryz.prog 3 (i:Int) 1 ⟨by omega,by omega⟩
      have e17':((i:Int)+1)=((i+1:Nat):Int):=by omega
      simp only[decide_eq_true hn,decide_eq_true (show(i:Int)<8 by omega),lC,ix,ld',Qa,Qb,Qc,Qd,Qe,Qf,Qg,Qh,Qi,Qj,Qk,Ql,Qm,Qn,true_and,and_true,Qo,Qp,Qq,Qr,Qs,Qt,Qu,Qv,Qw,Qx,Qy,Qz,Ra,Rb,Rc,Rd,Re,Rf,Rg,Rh,Ri,Rj,Rk,Rm,Rn,Ro,Rp,Rq,Rs,Ya,Yb,Yc,Rt,Ru,Za,Yd,Ye,Rx,Ry,Rz,Wa,Wb,Wc,Wd]
      refine LV hE ho (hr.rat i hlt) fun s4 w q o4 hw=>?_
      obtain⟨xx,aa,nn,kk,bb,mm,ee,rfl⟩:=hw.shape
      obtain⟨n5,o5,g5⟩:=Bj s4 (R 26 3 false [.bool xx,.slice aa nn kk,.slice bb mm ee])
      have hs0:=ho.1
      have hs4:=o4.1
      simp only[FN,Xd,Qa,Qb,Qc,Qd,Qe,Qf,Qg,Qh,Qi,Qj,Qk,Ql,Qm,Qn,true_and,and_true,Qo,Qp,Qq,Qr,Qs,Qt,Qu,Qv,Qw,Qx,Qy,Qz,Ra,Rb,Rc,Rd,Re,Rf,Rg,Rh,Ri,Rj,Rk,Rm,Rn,Ro,Rp,Rq,Rs,Ya,Yb,Yc,Rt,Ru,Za,Yd,Ye,Rx,Ry,Rz,Wa,Wb,Wc,Wd]
      generalize newObj s4 (R 26 3 false [.bool xx,.slice aa nn kk,.slice bb mm ee])=s5 at *
      have o45:Ac S.next S s5:=o4.trans (o5.mono hs4)
      obtain⟨v6,s6,O6,happ,F6,n6,f6,hO6⟩:=(hF.old o45).push g5 hw (by omega) (by omega)
      simp only[happ,lD,e17,e17',Qa,Qb,Qc,Qd,Qe,Qf,Qg,Qh,Qi,Qj,Qk,Ql,Qm,Qn,true_and,and_true,Qo,Qp,Qq,Qr,Qs,Qt,Qu,Qv,Qw,Qx,Qy,Qz,Ra,Rb,Rc,Rd,Re,Rf,Rg,Rh,Ri,Rj,Rk,Rm,Rn,Ro,Rp,Rq,Rs,Ya,Yb,Yc,Rt,Ru,Za,Yd,Ye,Rx,Ry,Rz,Wa,Wb,Wc,Wd]
      rw[← hW]
      refine ih (i+1) s6 v6 _ O6 _ (by omega) (by omega) (by simp[hD]) ⟨by omega,fun j hj=>?_⟩ F6
      rw[f6 j (by omega) (fun h=>by have:=hF.lo j h;omega),o45.2 j (by omega),ho.2 j hj]
    · simp only[decide_eq_false hn,Qa,Qb,Qc,Qd,Qe,Qf,Qg,Qh,Qi,Qj,Qk,Ql,Qm,Qn,true_and,and_true,Qo,Qp,Qq,Qr,Qs,Qt,Qu,Qv,Qw,Qx,Qy,Qz,Ra,Rb,Rc,Rd,Re,Rf,Rg,Rh,Ri,Rj,Rk,Rm,Rn,Ro,Rp,Rq,Rs,Ya,Yb,Yc,Rt,Ru,Za,Yd,Ye,Rx,Ry,Rz,Wa,Wb,Wc,Wd]
      exact hq S cv D O _ _ ho hF (by omega)
theorem au(hE:GoodN E){s0:AD}(o0:Ac s0.next s0 s){ac:Option (Nat×Nat)}{n:Nat}{cc:Option Nat}{cells:List AV}(hr:Ft s0 ac n cells){K:AV→AD→Prop}
  (hK:∀ (s':AD) (a:Option (Nat×Nat)) (cap:Option Nat) (wals:List Rat) (cells':List AV),Ac s.next s s'→B2 s' a wals 3 cells'→Fz 3 s' a cap wals.length→wals.length≤8→K (.slice a wals.length cap) s'):WF E 8 [.slice ac n cc] K s:=by
 refine hE.go lI (by decide) rfl ?_
 simp only[c8,kj,km,ku,Qa,Qb,Qc,Qd,Qe,Qf,Qg,Qh,Qi,Qj,Qk,Ql,Qm,Qn,true_and,and_true,Qo,Qp,Qq,Qr,Qs,Qt,Qu,Qv,Qw,Qx,Qy,Qz,Ra,Rb,Rc,Rd,Re,Rf,Rg,Rh,Ri,Rj,Rk,Rm,Rn,Ro,Rp,Rq,Rs,Ya,Yb,Yc,Rt,Ru,Za,Yd,Ye,Rx,Ry,Rz,Wa,Wb,Wc,Wd]
 have hr':Ft s ac n cells:=hr.old o0
 refine UC hE hr' (fun S cv D O y3 y4 hS hF hD=>?_) 8 0 s (.slice none 0 (some 0)) [] [] _ rfl (by omega) rfl (Ac.refl _ _) (E3.nil _ _)
 obtain⟨a,cap,rfl,h1,h2⟩:=hF.rats hS
 simp only[lE,if_true,Qa,Qb,Qc,Qd,Qe,Qf,Qg,Qh,Qi,Qj,Qk,Ql,Qm,Qn,true_and,and_true,Qo,Qp,Qq,Qr,Qs,Qt,Qu,Qv,Qw,Qx,Qy,Qz,Ra,Rb,Rc,Rd,Re,Rf,Rg,Rh,Ri,Rj,Rk,Rm,Rn,Ro,Rp,Rq,Rs,Ya,Yb,Yc,Rt,Ru,Za,Yd,Ye,Rx,Ry,Rz,Wa,Wb,Wc,Wd]
 exact hK S a cap _ _ hS h1 h2 (by simpa using hD)
end
def LA(s:AD)(v:AV):Prop:=∃x a n c b m d av vs capv ac nc capc cells,v=.agg [.bool x,.slice a n c,.slice b m d,.slice av (List.length vs) capv,.slice ac nc capc]∧QA s (.agg [.bool x,.slice a n c,.slice b m d])∧AZ s.next s av (vs.map iv)∧(∀n∈vs,i64 n)∧Fz 1 s av capv vs.length∧Ft s ac nc cells
theorem LA.old{s s':AD}{v:AV}(h:LA s v)(o:Ac s.next s s'):LA s' v:=by
 obtain⟨x,a,n,c,b,m,d,av,vs,capv,ac,nc,capc,cells,h1,h2,h3,h4,h5,h6⟩:=h
 exact⟨x,a,n,c,b,m,d,av,vs,capv,ac,nc,capc,cells,h1,h2.old o,(h3.old o (nl _)).mono o.1,h4,h5.old o,h6.old o⟩
theorem UV(x:Bool)(a b av:Option (Nat×Nat))(n m nv:Nat)(c d cv:Option Nat):Cz Tryz.prog 30 (zipIdx [0,1] [.agg [.bool x,.slice a n c,.slice b m d],.slice av nv cv])=some (.agg [.bool x,.slice a n c,.slice b m d,.slice av nv cv,.slice none 0 (some 0)]):=by kernel_rfl
theorem KP{b:Nat}{s:AD}{a:Option (Nat×Nat)}{cs:List AV}(h:AZ b s a cs)(k:Nat):AZ b s a (cs.take k):=fun j u hj=>by
 rw[qO]at hj
 split at hj
 ·exact h j u hj
 ·cases hj
section
variable{E:CP}{s:AD}
theorem Xq       (hE : GoodN E) {s0 : AD}  {p1 p3 : Nat} {x1 x3 : Bool} {a b av a3 b3 av3 : Option (Nat × Nat)} {n m nv n3 m3 nv3 : Nat} {c d capv c3 d3 capv3 : Option Nat} {ac : Option (Nat × Nat)} {nc : Nat} {cc : Option Nat} {cells : List AV} (hr : Ft    s0 ac nc cells) (h1 : s0.next ≤ p1) (h3 : p1 < p3) {y0 y2 : AV} {Q : A5   → Prop}
    (hq:∀ (S:AD) (cv:AV) (D:List Br) (O:List Nat) (y4 y5:AV),Ac s0.next s0 S→(∀j,j<p3→S.heap.get j=s.heap.get j)→p3<S.next→S.heap.get p3=some (BL x3 (.slice a3 n3 c3) (.slice b3 m3 d3) (.slice av3 nv3 capv3) cv)→E3 s0 S cv D O→(∀j∈O,p3<j)→D.length≤8→Q ⟨.exit 0,[y0,.ptr (some (p1,0)),y2,.ptr (some (p3,0)),y4,y5],[],S⟩)
    (g1:s.heap.get p1=some (BL x1 (.slice a n c) (.slice b m d) (.slice av nv capv) (.slice ac nc cc))):
    ∀ (r i:Nat) (S:AD) (cv:AV) (D:List Br) (O:List Nat) (z5:AV),8 - i=r→i≤8→D.length=i→Ac s0.next s0 S→(∀j,j<p3→S.heap.get j=s.heap.get j)→p3<S.next→S.heap.get p3=some (BL x3 (.slice a3 n3 c3) (.slice b3 m3 d3) (.slice av3 nv3 capv3) cv)→E3 s0 S cv D O→(∀j∈O,p3<j)→WC E none (.loop W8) Q [y0,.ptr (some (p1,0)),y2,.ptr (some (p3,0)),iv (i:Int),z5] [] S:=by
  intro r
  induction r with
  | zero =>
    intro i S cv D O x4 hi h8 hD ho hf hn3 g3 hF hO
    have e:i=8:=by omega
    subst e
    have l1:=AX (P:=Tryz.prog) (t:=28) (o:=0+4) Nx ((hf p1 h3).trans g1) rfl
    refine WC.loop' ?_
    simp only[W8,iQ,l1,HL,AU Tryz.underlying28,Qa,Qb,Qc,Qd,Qe,Qf,Qg,Qh,Qi,Qj,Qk,Ql,Qm,Qn,true_and,and_true,Qo,Qp,Qq,Qr,Qs,Qt,Qu,Qv,Qw,Qx,Qy,Qz,Ra,Rb,Rc,Rd,Re,Rf,Rg,Rh,Ri,Rj,Rk,Rm,Rn,Ro,Rp,Rq,Rs,Ya,Yb,Yc,Rt,Ru,Za,Yd,Ye,Rx,Ry,Rz,Wa,Wb,Wc,Wd]
    by_cases hn:((8:Nat):Int)<(nc:Int)
    · simp only[decide_eq_true hn,show decide (((8:Nat):Int)<8)=false from rfl,Qa,Qb,Qc,Qd,Qe,Qf,Qg,Qh,Qi,Qj,Qk,Ql,Qm,Qn,true_and,and_true,Qo,Qp,Qq,Qr,Qs,Qt,Qu,Qv,Qw,Qx,Qy,Qz,Ra,Rb,Rc,Rd,Re,Rf,Rg,Rh,Ri,Rj,Rk,Rm,Rn,Ro,Rp,Rq,Rs,Ya,Yb,Yc,Rt,Ru,Za,Yd,Ye,Rx,Ry,Rz,Wa,Wb,Wc,Wd]
      exact hq S cv D O _ _ ho hf hn3 g3 hF hO (by omega)
    · simp only[decide_eq_false hn,Qa,Qb,Qc,Qd,Qe,Qf,Qg,Qh,Qi,Qj,Qk,Ql,Qm,Qn,true_and,and_true,Qo,Qp,Qq,Qr,Qs,Qt,Qu,Qv,Qw,Qx,Qy,Qz,Ra,Rb,Rc,Rd,Re,Rf,Rg,Rh,Ri,Rj,Rk,Rm,Rn,Ro,Rp,Rq,Rs,Ya,Yb,Yc,Rt,Ru,Za,Yd,Ye,Rx,Ry,Rz,Wa,Wb,Wc,Wd]
      exact hq S cv D O _ _ ho hf hn3 g3 hF hO (by omega)
  | succ r ih =>
    intro i S cv D O x4 hi h8 hD ho hf hn3 g3 hF hO
    have l1:=AX (P:=Tryz.prog) (t:=28) (o:=0+4) Nx ((hf p1 h3).trans g1) rfl
    refine WC.loop' ?_
    generalize hW:WC E none (Af.loop W8) Q=WW
    simp only[W8,iQ,l1,HL,AU Tryz.underlying28,Qa,Qb,Qc,Qd,Qe,Qf,Qg,Qh,Qi,Qj,Qk,Ql,Qm,Qn,true_and,and_true,Qo,Qp,Qq,Qr,Qs,Qt,Qu,Qv,Qw,Qx,Qy,Qz,Ra,Rb,Rc,Rd,Re,Rf,Rg,Rh,Ri,Rj,Rk,Rm,Rn,Ro,Rp,Rq,Rs,Ya,Yb,Yc,Rt,Ru,Za,Yd,Ye,Rx,Ry,Rz,Wa,Wb,Wc,Wd]
    by_cases hn:(i:Int)<(nc:Int)
    · have hlt:i<nc:=by omega
      obtain⟨i0,o,rfl,hi0,ld⟩:=hr.load hlt
      have ix:=An (cap:=cc) (i:=i0) (o:=o) (n:=3) Tryz.underlying28 Ar hlt
      have ld':AC Tryz.prog S 26 (.ptr (some (i0,o+i * 3)))=some (.agg ((cells.drop (i * 3)).take 3)):=by
        rw[Wf A9]at ld ⊢
        rw[ho.2 i0 hi0];exact ld
      have e17:=Bh Tryz.prog 3 (i:Int) 1 ⟨by omega,by omega⟩
      have e17':((i:Int)+1)=((i+1:Nat):Int):=by omega
      have l3:=AX (P:=Tryz.prog) (t:=28) (o:=0+4) Nx g3 rfl
      simp only[decide_eq_true hn,decide_eq_true (show(i:Int)<8 by omega),kg,l1,l3,HL,ix,ld',Qa,Qb,Qc,Qd,Qe,Qf,Qg,Qh,Qi,Qj,Qk,Ql,Qm,Qn,true_and,and_true,Qo,Qp,Qq,Qr,Qs,Qt,Qu,Qv,Qw,Qx,Qy,Qz,Ra,Rb,Rc,Rd,Re,Rf,Rg,Rh,Ri,Rj,Rk,Rm,Rn,Ro,Rp,Rq,Rs,Ya,Yb,Yc,Rt,Ru,Za,Yd,Ye,Rx,Ry,Rz,Wa,Wb,Wc,Wd]
      refine LV hE ho (hr.rat i hlt) fun s4 w q o4 hw=>?_
      have hs0:=ho.1
      have hs4:=o4.1
      have l3':=AX (P:=Tryz.prog) (t:=28) (o:=0+4) Nx ((o4.2 p3 hn3).trans g3) rfl
      obtain⟨_,_,ecv,_⟩:=hF.buf.slice
      refine⟨⟨Aa (by simp only[Qa,Qb,Qc,Qd,Qe,Qf,Qg,Qh,Qi,Qj,Qk,Ql,Qm,Qn,true_and,and_true,Qo,Qp,Qq,Qr,Qs,Qt,Qu,Qv,Qw,Qx,Qy,Qz,Ra,Rb,Rc,Rd,Re,Rf,Rg,Rh,Ri,Rj,Rk,Rm,Rn,Ro,Rp,Rq,Rs,Ya,Yb,Yc,Rt,Ru,Za,Yd,Ye,Rx,Ry,Rz,Wa,Wb,Wc,Wd];exact l3') (by simp only[Qa,Qb,Qc,Qd,Qe,Qf,Qg,Qh,Qi,Qj,Qk,Ql,Qm,Qn,true_and,and_true,Qo,Qp,Qq,Qr,Qs,Qt,Qu,Qv,Qw,Qx,Qy,Qz,Ra,Rb,Rc,Rd,Re,Rf,Rg,Rh,Ri,Rj,Rk,Rm,Rn,Ro,Rp,Rq,Rs,Ya,Yb,Yc,Rt,Ru,Za,Yd,Ye,Rx,Ry,Rz,Wa,Wb,Wc,Wd];rw[ecv];exact Bb _ _ _),trivial⟩,?_⟩
      obtain⟨xx,aa,nn,kk,bb,mm,ee,rfl⟩:=hw.shape
      obtain⟨n5,o5,g5⟩:=Bj s4 (R 26 3 false [.bool xx,.slice aa nn kk,.slice bb mm ee])
      simp only[FN,Xd,Qa,Qb,Qc,Qd,Qe,Qf,Qg,Qh,Qi,Qj,Qk,Ql,Qm,Qn,true_and,and_true,Qo,Qp,Qq,Qr,Qs,Qt,Qu,Qv,Qw,Qx,Qy,Qz,Ra,Rb,Rc,Rd,Re,Rf,Rg,Rh,Ri,Rj,Rk,Rm,Rn,Ro,Rp,Rq,Rs,Ya,Yb,Yc,Rt,Ru,Za,Yd,Ye,Rx,Ry,Rz,Wa,Wb,Wc,Wd]
      generalize newObj s4 (R 26 3 false [.bool xx,.slice aa nn kk,.slice bb mm ee])=s5 at *
      have o45:Ac S.next S s5:=o4.trans (o5.mono hs4)
      obtain⟨v6,s6,O6,happ,F6,n6,f6,hO6⟩:=(hF.old o45).push g5 hw (by omega) (by omega)
      have hp3:p3 ∉ O:=fun h=>by have:=hO p3 h;omega
      have g6:s6.heap.get p3=some (BL x3 (.slice a3 n3 c3) (.slice b3 m3 d3) (.slice av3 nv3 capv3) cv):=by rw[f6 p3 (by omega) hp3,o45.2 p3 hn3];exact g3
      obtain⟨_,_,ev6,_⟩:=F6.buf.slice
      have st7:=B1 (P:=Tryz.prog) (t:=28) (o:=0+4) (v:=v6) lg g6 (by simp) (by rw[ev6];rfl)
      simp only[happ,st7,HL,kh,e17,e17',Xx,Xz,Qa,Qb,Qc,Qd,Qe,Qf,Qg,Qh,Qi,Qj,Qk,Ql,Qm,Qn,true_and,and_true,Qo,Qp,Qq,Qr,Qs,Qt,Qu,Qv,Qw,Qx,Qy,Qz,Ra,Rb,Rc,Rd,Re,Rf,Rg,Rh,Ri,Rj,Rk,Rm,Rn,Ro,Rp,Rq,Rs,Ya,Yb,Yc,Rt,Ru,Za,Yd,Ye,Rx,Ry,Rz,Wa,Wb,Wc,Wd]
      generalize hs7:setObj s6 p3 _=s7
      have f7:∀j,j≠p3→s7.heap.get j=s6.heap.get j:=fun j hj=>by rw[← hs7,Ww _ hj]
      have n7:s7.next=s6.next:=by rw[← hs7];rfl
      have g7:s7.heap.get p3=some (BL x3 (.slice a3 n3 c3) (.slice b3 m3 d3) (.slice av3 nv3 capv3) v6):=by rw[← hs7,Wv];rfl
      have hO6':∀j∈O6,p3<j:=fun j hj=>by
        rcases hO6 j hj with h | h
        · exact hO j h
        · omega
      rw[← hW]
      refine ih (i+1) s7 v6 _ O6 _ (by omega) (by omega) (by simp[hD]) ⟨by omega,fun j hj=>?_⟩ (fun j hj=>?_) (by omega) g7 (F6.frame (by omega) fun j hj=>f7 j (by have:=hO6' j hj;omega)) hO6'
      · rw[f7 j (by omega),f6 j (by omega) (fun h=>by have:=hF.lo j h;omega),o45.2 j (by omega),ho.2 j hj]
      · rw[f7 j (by omega),f6 j (by omega) (fun h=>by have:=hO j h;omega),o45.2 j (by omega),hf j hj]
    · simp only[decide_eq_false hn,Qa,Qb,Qc,Qd,Qe,Qf,Qg,Qh,Qi,Qj,Qk,Ql,Qm,Qn,true_and,and_true,Qo,Qp,Qq,Qr,Qs,Qt,Qu,Qv,Qw,Qx,Qy,Qz,Ra,Rb,Rc,Rd,Re,Rf,Rg,Rh,Ri,Rj,Rk,Rm,Rn,Ro,Rp,Rq,Rs,Ya,Yb,Yc,Rt,Ru,Za,Yd,Ye,Rx,Ry,Rz,Wa,Wb,Wc,Wd]
      exact hq S cv D O _ _ ho hf hn3 g3 hF hO (by omega)
theorem Xr(hE:GoodN E){s0:AD}(o0:Ac s0.next s0 s){v:AV}(hv:LA s0 v){K:AV→AD→Prop}
  (hK:∀ (s':AD) (w:AV) (C:Rat) (vs:List Int) (cs:List Rat),Ac s.next s s'→(∀s'',s'.next≤s''.next→(∀j,j<s'.next→j<s0.next∨s.next≤j→s''.heap.get j=s'.heap.get j)→LI s'' w C vs cs 3)→vs.length≤8→cs.length≤8→K w s'):WF E 7 [v] K s:=by
 obtain⟨x,a,n,c,b,m,d,av,vs,capv,ac,nc,capc,cells,rfl,hC,hvs0,hi,hcap0,hcs⟩:=hv
 have hcap:=hcap0.old o0
 have hs0:=o0.1
 refine hE.go lH (by decide) rfl ?_
 obtain⟨n1,o1,g1,g2⟩:=Eu s (BL x (.slice a n c) (.slice b m d) (.slice av vs.length capv) (.slice ac nc capc)) ZL
 obtain⟨n3,o3,g3⟩:=Bj (newObj (newObj s (BL x (.slice a n c) (.slice b m d) (.slice av vs.length capv) (.slice ac nc capc))) ZL) ZL
 simp only[c7,kZ,Wz,Xg,E4,Xb,Aq,Qa,Qb,Qc,Qd,Qe,Qf,Qg,Qh,Qi,Qj,Qk,Ql,Qm,Qn,true_and,and_true,Qo,Qp,Qq,Qr,Qs,Qt,Qu,Qv,Qw,Qx,Qy,Qz,Ra,Rb,Rc,Rd,Re,Rf,Rg,Rh,Ri,Rj,Rk,Rm,Rn,Ro,Rp,Rq,Rs,Ya,Yb,Yc,Rt,Ru,Za,Yd,Ye,Rx,Ry,Rz,Wa,Wb,Wc,Wd]
 generalize hs1:newObj (newObj s (BL x (.slice a n c) (.slice b m d) (.slice av vs.length capv) (.slice ac nc capc))) ZL=s1 at *
 have l1:AC Tryz.prog s1 26 (.ptr (some (s.next,0+0)))=some (.agg [.bool x,.slice a n c,.slice b m d]):=Au (o:=0) (n:=3) A9 Ar g1 (by simp)
 have l2:=AX (P:=Tryz.prog) (t:=27) (o:=0+3) Nw g1 rfl
 have cut2:=OT Tryz.underlying27 S9 (by decide) (hcap.old o1) (show min vs.length 8≤vs.length by omega)
 have mm2:B3 false (iv (vs.length:Int)) [.int .i64 8]=some (iv ((min vs.length 8:Nat):Int)):=Kt vs.length 8
 simp only[ke,l1,l2,cut2,mm2,AU Tryz.underlying27,QO,Ij,E4,Xb,Qa,Qb,Qc,Qd,Qe,Qf,Qg,Qh,Qi,Qj,Qk,Ql,Qm,Qn,true_and,and_true,Qo,Qp,Qq,Qr,Qs,Qt,Qu,Qv,Qw,Qx,Qy,Qz,Ra,Rb,Rc,Rd,Re,Rf,Rg,Rh,Ri,Rj,Rk,Rm,Rn,Ro,Rp,Rq,Rs,Ya,Yb,Yc,Rt,Ru,Za,Yd,Ye,Rx,Ry,Rz,Wa,Wb,Wc,Wd]
 generalize hs3:newObj s1 ZL=s3 at *
 have o13:Ac s.next s s3:=o1.trans (o3.mono o1.1)
 refine LV hE (o0.trans (o13.mono hs0)) hC fun s4 w q o4 hw=>?_
 obtain⟨xx,aa,nn,kk,bb,mm,ee,rfl⟩:=hw.shape
 have k1:=(o4.2 s.next (by omega)).trans ((o3.2 s.next (by omega)).trans g1)
 have l2':=AX (P:=Tryz.prog) (t:=27) (o:=0+3) Nw k1 rfl
 have o14:Ac s.next s s4:=o13.trans (o4.mono o13.1)
 have cut2':=OT Tryz.underlying27 S9 (by decide) (hcap.old o14) (show min vs.length 8≤vs.length by omega)
 have g4:s4.heap.get s1.next=some ZL:=(o4.2 s1.next (by omega)).trans g3
 have hs4:=o4.1
 have hs13:=o13.1
 refine⟨⟨?_,?_,?_,?_,trivial⟩,?_⟩
 ·simp only[Gc,cut2',Ds,Bb,Qa,Qb,Qc,Qd,Qe,Qf,Qg,Qh,Qi,Qj,Qk,Ql,Qm,Qn,true_and,and_true,Qo,Qp,Qq,Qr,Qs,Qt,Qu,Qv,Qw,Qx,Qy,Qz,Ra,Rb,Rc,Rd,Re,Rf,Rg,Rh,Ri,Rj,Rk,Rm,Rn,Ro,Rp,Rq,Rs,Ya,Yb,Yc,Rt,Ru,Za,Yd,Ye,Rx,Ry,Rz,Wa,Wb,Wc,Wd]
 ·simp only[Gc,AU Tryz.underlying27,Ds,KS,Qa,Qb,Qc,Qd,Qe,Qf,Qg,Qh,Qi,Qj,Qk,Ql,Qm,Qn,true_and,and_true,Qo,Qp,Qq,Qr,Qs,Qt,Qu,Qv,Qw,Qx,Qy,Qz,Ra,Rb,Rc,Rd,Re,Rf,Rg,Rh,Ri,Rj,Rk,Rm,Rn,Ro,Rp,Rq,Rs,Ya,Yb,Yc,Rt,Ru,Za,Yd,Ye,Rx,Ry,Rz,Wa,Wb,Wc,Wd]
 ·exact Aa (by simp only[Qa,Qb,Qc,Qd,Qe,Qf,Qg,Qh,Qi,Qj,Qk,Ql,Qm,Qn,true_and,and_true,Qo,Qp,Qq,Qr,Qs,Qt,Qu,Qv,Qw,Qx,Qy,Qz,Ra,Rb,Rc,Rd,Re,Rf,Rg,Rh,Ri,Rj,Rk,Rm,Rn,Ro,Rp,Rq,Rs,Ya,Yb,Yc,Rt,Ru,Za,Yd,Ye,Rx,Ry,Rz,Wa,Wb,Wc,Wd];exact l2') (by simp only[Qa,Qb,Qc,Qd,Qe,Qf,Qg,Qh,Qi,Qj,Qk,Ql,Qm,Qn,true_and,and_true,Qo,Qp,Qq,Qr,Qs,Qt,Qu,Qv,Qw,Qx,Qy,Qz,Ra,Rb,Rc,Rd,Re,Rf,Rg,Rh,Ri,Rj,Rk,Rm,Rn,Ro,Rp,Rq,Rs,Ya,Yb,Yc,Rt,Ru,Za,Yd,Ye,Rx,Ry,Rz,Wa,Wb,Wc,Wd];exact Bb _ _ _)
 ·exact Aa (by simp only[Qa,Qb,Qc,Qd,Qe,Qf,Qg,Qh,Qi,Qj,Qk,Ql,Qm,Qn,true_and,and_true,Qo,Qp,Qq,Qr,Qs,Qt,Qu,Qv,Qw,Qx,Qy,Qz,Ra,Rb,Rc,Rd,Re,Rf,Rg,Rh,Ri,Rj,Rk,Rm,Rn,Ro,Rp,Rq,Rs,Ya,Yb,Yc,Rt,Ru,Za,Yd,Ye,Rx,Ry,Rz,Wa,Wb,Wc,Wd];exact l2') (by simp only[Qa,Qb,Qc,Qd,Qe,Qf,Qg,Qh,Qi,Qj,Qk,Ql,Qm,Qn,true_and,and_true,Qo,Qp,Qq,Qr,Qs,Qt,Qu,Qv,Qw,Qx,Qy,Qz,Ra,Rb,Rc,Rd,Re,Rf,Rg,Rh,Ri,Rj,Rk,Rm,Rn,Ro,Rp,Rq,Rs,Ya,Yb,Yc,Rt,Ru,Za,Yd,Ye,Rx,Ry,Rz,Wa,Wb,Wc,Wd];exact Bb _ _ _)
 obtain⟨st5,_⟩:=C7 (cs0:=[.bool false,.slice none 0 (some 0),.slice none 0 (some 0),.slice none 0 (some 0),.slice none 0 (some 0)]) rfl (x:=xx) (a:=aa) (n:=nn) (c:=kk) (b:=bb) (m:=mm) (d:=ee) (av:=av) (nv:=min vs.length 8) (cv:=capv) (ac:=none) (nc:=0) (cc:=some 0) g4
 simp only[kf,UV,st5,Xx,Xz,Qa,Qb,Qc,Qd,Qe,Qf,Qg,Qh,Qi,Qj,Qk,Ql,Qm,Qn,true_and,and_true,Qo,Qp,Qq,Qr,Qs,Qt,Qu,Qv,Qw,Qx,Qy,Qz,Ra,Rb,Rc,Rd,Re,Rf,Rg,Rh,Ri,Rj,Rk,Rm,Rn,Ro,Rp,Rq,Rs,Ya,Yb,Yc,Rt,Ru,Za,Yd,Ye,Rx,Ry,Rz,Wa,Wb,Wc,Wd]
 generalize hs5:setObj s4 s1.next _=s5
 have g5:s5.heap.get s1.next=some (BL xx (.slice aa nn kk) (.slice bb mm ee) (.slice av (min vs.length 8) capv) (.slice none 0 (some 0))):=by rw[← hs5,Wv]
 have f5:∀j,j≠s1.next→s5.heap.get j=s4.heap.get j:=fun j hj=>by rw[← hs5,Ww _ hj]
 have n5:s5.next=s4.next:=by rw[← hs5];rfl
 have o15:Ac s.next s s5:=⟨by omega,fun j hj=>by rw[f5 j (by omega),o14.2 j hj]⟩
 refine Xq hE (s:=s5) (s0:=s0) (p1:=s.next) (p3:=s1.next) hcs hs0 (by omega) (fun S cv D O y4 y5 hS hf hn3 gS hF hO hD=>?_) ((f5 s.next (by omega)).trans k1) 8 0 s5 _ [] [] _ rfl (by omega) rfl (o0.trans (o15.mono hs0)) (fun _ _=>rfl) (by omega) g5 (E3.nil _ _) (fun j h=>by simp at h)
 obtain⟨a9,cap9,rfl,hr9,hz9⟩:=hF.rats hS
 have lS:=AE (P:=Tryz.prog) (t:=30) DD Cs gS rfl
 have gz:S.heap.get (s.next+1)=some ZL:=by
  rw[hf _ (by omega),f5 _ (by omega),o4.2 _ (by omega),o3.2 _ (by omega)]
  exact g2
 obtain⟨st9,ld9⟩:=C7 (cs0:=[.bool false,.slice none 0 (some 0),.slice none 0 (some 0),.slice none 0 (some 0),.slice none 0 (some 0)]) rfl (x:=xx) (a:=aa) (n:=nn) (c:=kk) (b:=bb) (m:=mm) (d:=ee) (av:=av) (nv:=min vs.length 8) (cv:=capv) (ac:=a9) (nc:=(D.map fun t=>t.2.1).length) (cc:=cap9) gz
 simp only[ki,if_true,lS,st9,ld9,AL,Xx,Xz,Qa,Qb,Qc,Qd,Qe,Qf,Qg,Qh,Qi,Qj,Qk,Ql,Qm,Qn,true_and,and_true,Qo,Qp,Qq,Qr,Qs,Qt,Qu,Qv,Qw,Qx,Qy,Qz,Ra,Rb,Rc,Rd,Re,Rf,Rg,Rh,Ri,Rj,Rk,Rm,Rn,Ro,Rp,Rq,Rs,Ya,Yb,Yc,Rt,Ru,Za,Yd,Ye,Rx,Ry,Rz,Wa,Wb,Wc,Wd]
 generalize hs8:setObj S (s.next+1) _=s8
 have oS:Ac s.next s S:=⟨by have:=hn3;omega,fun j hj=>by rw[hf j (by omega)];exact o15.2 j hj⟩
 have o8:Ac s.next s s8:=by rw[← hs8];exact oS.set (by omega) _
 have hzO:s.next+1 ∉ O:=fun h=>by have:=hO _ h;omega
 have hF8:E3 s0 s8 (.slice a9 (D.map fun t=>t.2.1).length cap9) D O:=hF.frame (by rw[← hs8];exact nl _) fun j hj=>by rw[← hs8,Ww _ (by rintro rfl;exact hzO hj)]
 have hlen:(vs.take 8).length=min vs.length 8:=by rw[oO];omega
 refine hK s8 _ q (vs.take 8) (D.map fun t=>t.2.1) o8 (fun s'' hn'' hf''=>?_) (by omega) (by simpa using hD)
 have h08:=o8.1
 have o'':Ac s0.next s0 s'':=⟨by omega,fun j hj=>by rw[hf'' j (by omega) (.inl hj),o8.2 j (by omega),o0.2 j hj]⟩
 have hF9:E3 s0 s'' (.slice a9 (D.map fun t=>t.2.1).length cap9) D O:=hF8.frame hn'' fun j hj=>hf'' j (hF8.buf.lt j hj) (.inr (by have:=hO j hj;omega))
 obtain⟨a9',cap9',e9,hr8,hz8⟩:=hF9.rats o''
 injection e9 with e9 _ e9'
 subst e9;subst e9'
 refine⟨xx,aa,nn,kk,bb,mm,ee,av,capv,a9,cap9,Cw D,by rw[hlen],hw.old o'',?_,fun z hz=>hi z (List.take_subset _ _ hz),hr8,by rw[hlen];exact(hcap0.less (by omega)).old o'',hz8⟩
 rw[List.map_take]
 exact KP ((hvs0.old o'' (nl _)).mono o''.1) 8
end
theorem Ii{a b:Int→Rat}:∀ {T:List Br},(∀n∈Ay T,a n=b n)→F2 a T=F2 b T
 | [],_=>rfl
 | t::T,h=>by
  show t.2.1 * a t.1+F2 a T=t.2.1 * b t.1+F2 b T
  rw[h t.1 (oK ..),Ii fun n hn=>h n (oN _ hn)]
theorem Sv{n:Int}:∀ {T:List Br},(Ay T).Nodup→n ∉ Ay (D3 n T)
 | [],_=>fun h=>by cases h
 | t::T,h=>by
  obtain⟨h1,h2⟩:=List.nodup_cons.1 (show(t.1::Ay T).Nodup from h)
  show n ∉ Ay (if n=t.1 then T else t::D3 n T)
  by_cases e:n=t.1
  ·rw[if_pos e,e];exact h1
  ·rw[if_neg e]
   show n ∉ t.1::Ay (D3 n T)
   intro h'
   rcases List.mem_cons.1 h' with h' | h'
   ·exact e h'
   ·exact Sv h2 h'
theorem MO(n:Int):∀ (l:List Int)(i:Nat),(DQ n l i=-1∧DQ n l (i+1)=-1)∨(DQ n l (i+1)=DQ n l i+1∧0≤DQ n l i)
 | [],i=>.inl ⟨rfl,rfl⟩
 | x::l,i=>by
  unfold DQ
  by_cases h:n=x
  ·rw[if_pos h,if_pos h];exact .inr ⟨rfl,by omega⟩
  ·rw[if_neg h,if_neg h]
   exact MO n l (i+1)
theorem N2(n:Int)(vars:List Int)(q:Rat)(wals:List Rat):DF (n::vars) (q::wals) n=q:=by
 have e:DQ n (n::vars) 0=0:=by unfold DQ;rw[if_pos rfl];rfl
 unfold DF
 rw[e,if_pos ⟨Int.le_refl _,by simp⟩]
 rfl
theorem N3{n m:Int}(h:m≠n)(vars:List Int)(q:Rat)(wals:List Rat):DF (n::vars) (q::wals) m=DF vars wals m:=by
  have e:DQ m (n::vars) 0=DQ m vars 1:=by
    show(if m=n then ((0:Nat):Int)else DQ m vars (0+1))=_
    rw[if_neg h]
  unfold DF
  rw[e]
  rcases MO m vars 0 with⟨h1,h2⟩ | ⟨h1,h2⟩
  · rw[h1,h2,if_neg (by omega),if_neg (by omega)]
  · rw[h1,oV]
    by_cases h3:DQ m vars 0<(wals.length:Int)
    · rw [if_pos ⟨by omega, by omega⟩, if_pos ⟨h2, h3⟩]
      rw[show(DQ m vars 0+1).toNat=(DQ m vars 0).toNat+1 by omega,List.getD_cons_succ]
    · rw[if_neg (by omega),if_neg (by omega)]
theorem Mt(a:Int→Rat){T:List Br}(h:(Ay T).Nodup):Bu a ((C8 T).map (·.1)) ((C8 T).map (·.2))=F2 a T:=by
 rw[Om,Sf a h]
theorem iD(a:Int→Rat){C1 C2 c:Rat}{vs1 vs2:List Int}{cs1 cs2:List Rat}{T:List Br}(h:Ec [(C1,vs1,cs1),(C2,vs2,cs2)] 0 [] c T)(hn:(Ay T).Nodup):
  c+Bu a ((C8 T).map (·.1)) ((C8 T).map (·.2))=(C1+Bu a vs1 cs1)+(C2+Bu a vs2 cs2):=by
 rw[Mt a hn,h.ev a]
 show 0+0+List.sum [C1+Bu a vs1 cs1,C2+Bu a vs2 cs2]=_
 rw[List.sum_cons,List.sum_cons,List.sum_nil]
 grind
theorem iF(a:Int→Rat){C1 C2:Rat}{vs1 vs2:List Int}{cs1 cs2:List Rat}{T0 T:List Br}(h0:Ed 1 vs1 cs1 [] T0)(h:Ed ((-1:Int):Rat) vs2 cs2 T0 T)(hn:(Ay T).Nodup):
  C1+C2 * ((-1:Int):Rat)+Bu a ((C8 T).map (·.1)) ((C8 T).map (·.2))=(C1+Bu a vs1 cs1) - (C2+Bu a vs2 cs2):=by
 rw[Mt a hn,h.ev a,h0.ev a,show((-1:Int):Rat)=-1 from rfl]
 show C1+C2 * -1+(0+Bu a vs1 cs1 * 1+Bu a vs2 cs2 * -1)=_
 grind
theorem UU(a:Int→Rat){C o:Rat}{vs:List Int}{cs:List Rat}{T:List Br}(h:Ed o vs cs [] T)(hn:(Ay T).Nodup):
  C * o+Bu a ((C8 T).map (·.1)) ((C8 T).map (·.2))=(C+Bu a vs cs) * o:=by
 rw[Mt a hn,h.ev a]
 show C * o+(0+Bu a vs cs * o)=_
 grind
theorem iE{n:Int}{vars:List Int}{wals:List Rat}{C1 C2 C':Rat}{vs1 vs2:List Int}{cs1 cs2:List Rat}{T0 T:List Br}(h0:Ed 1 vs1 cs1 [] T0)(hn0:(Ay T0).Nodup)(h:hZ n C2 vs2 cs2 C1 T0 C' T)(hn:(Ay T).Nodup):
  C'+Bu (DF vars wals) ((C8 T).map (·.1)) ((C8 T).map (·.2))=C1+Bu (DF (n::vars) ((C2+Bu (DF vars wals) vs2 cs2)::wals)) vs1 cs1:=by
 have hr:=h0.ev (DF (n::vars) ((C2+Bu (DF vars wals) vs2 cs2)::wals))
 rw[Mt _ hn]
 have hr':F2 (DF (n::vars) ((C2+Bu (DF vars wals) vs2 cs2)::wals)) T0=Bu (DF (n::vars) ((C2+Bu (DF vars wals) vs2 cs2)::wals)) vs1 cs1:=by
  rw[hr]
  show 0+_ * 1=_
  grind
 rw[← hr']
 rcases h with⟨h1,rfl,rfl⟩ | ⟨h1,rfl,h2⟩
 ·congr 1
  exact Ii fun m hm=>(N3 (by rintro rfl;exact In.1 h1 hm) _ _ _).symm
 ·have hd:=Xj (DF (n::vars) ((C2+Bu (DF vars wals) vs2 cs2)::wals)) n T0
  rw[N2]at hd
  have hc:F2 (DF (n::vars) ((C2+Bu (DF vars wals) vs2 cs2)::wals)) (D3 n T0)=F2 (DF vars wals) (D3 n T0):=
   Ii fun m hm=>N3 (by rintro rfl;exact Sv hn0 hm) _ _ _
  rw[hc]at hd
  rw[← hd,h2.ev (DF vars wals)]
  generalize F2 (DF vars wals) (D3 n T0)=w
  generalize Bu (DF vars wals) vs2 cs2=l2
  generalize CG n T0=v
  grind
theorem iG(n:Int)(p:Rat):0+Bu (DF [n] [p]) [n] [1]=p:=by
 show 0+(1 * DF [n] [p] n+0)=p
 rw[N2]
 grind
structure Pl(s:AD)(pA pB pP pQ:Nat)(ca cb cp cq:List AV)(C1:Rat)(vs1:List Int)(cs1:List Rat)(C2:Rat)(vs2:List Int)(cs2:List Rat)(vars:List Int)(wals:List Rat)(av ac:Option (Nat×Nat))(cv cc:Option Nat)(cells:List AV):Prop where
 gA:s.heap.get pA=some (R 30 0 false ca)
 gB:s.heap.get pB=some (R 30 0 false cb)
 gP:s.heap.get pP=some (R 26 0 false cp)
 gQ:s.heap.get pQ=some (R 26 0 false cq)
 lA:pA<s.next
 lB:pB<s.next
 lP:pP<s.next
 lQ:pQ<s.next
 hA:LI s (.agg ca) C1 vs1 cs1 3
 hB:LI s (.agg cb) C2 vs2 cs2 3
 hP:QI s (.agg cp) (C1+Bu (DF vars wals) vs1 cs1) 500
 hQ:QI s (.agg cq) (C2+Bu (DF vars wals) vs2 cs2) 500
 mA:cs1.length≤8
 nA:vs1.length≤8
 mB:cs2.length≤8
 nB:vs2.length≤8
 hv:AZ s.next s av (vars.map iv)
 iv':∀n∈vars,i64 n
 vl:vars.length≤8
 hr:B2 s ac wals 3 cells
 wl:wals.length≤8
theorem Pl.old{s s':AD}{pA pB pP pQ:Nat}{ca cb cp cq:List AV}{C1:Rat}{vs1:List Int}{cs1:List Rat}{C2:Rat}{vs2:List Int}{cs2:List Rat}{vars:List Int}{wals:List Rat}{av ac:Option (Nat×Nat)}{cv cc:Option Nat}{cells:List AV}
  (h:Pl s pA pB pP pQ ca cb cp cq C1 vs1 cs1 C2 vs2 cs2 vars wals av ac cv cc cells) (o:Ac s.next s s'):Pl s' pA pB pP pQ ca cb cp cq C1 vs1 cs1 C2 vs2 cs2 vars wals av ac cv cc cells:=
 ⟨(o.2 _ h.lA).trans h.gA,(o.2 _ h.lB).trans h.gB,(o.2 _ h.lP).trans h.gP,(o.2 _ h.lQ).trans h.gQ,ns h.lA o.1,ns h.lB o.1,ns h.lP o.1,ns h.lQ o.1,
  h.hA.old o,h.hB.old o,h.hP.old o,h.hQ.old o,h.mA,h.nA,h.mB,h.nB,(h.hv.old o (nl _)).mono o.1,h.iv',h.vl,h.hr.old o,h.wl⟩
theorem MY{s:AD}{e sz:Nat}{a:Option (Nat×Nat)}{cap:Option Nat}{n:Nat}{cs:List AV}(h:AZ s.next s a cs)(hl:cs.length=n * sz)(h0:0<sz):CB Tryz.prog s e sz (.slice a n cap)=some (n,cs):=by
 rcases ow n with rfl | hn
 ·have:cs=[]:=qD (by omega)
  subst this
  cases a with
  | none=>rfl
  | some io=>obtain⟨i,o⟩:=io;rfl
 ·have hp:0<n * sz:=pg hn h0
  obtain⟨i,o,rfl,_,_⟩:=h 0 cs[0] (nr (by omega))
  have hld:=Js (o:=s.heap.get i) cs o (fun j u hj=>by
   obtain⟨i',o',e,_,h3⟩:=h j u hj
   injection e with e
   injection e with e1 e2
   subst e1;subst e2
   exact h3) (by intro e;rw[e]at hl;simp at hl;omega)
  rw[hl]at hld
  show(Lo s i o n sz).bind _=_
  rw[show Lo s i o n sz=Bv s i o (n * sz)from by unfold Lo;rw[Dx (show n≠0 by omega)];rfl,H7,hld]
  rfl
theorem Yp(x:Bool)(a b av ac:Option (Nat×Nat))(n m nv nc:Nat)(c d cv cc:Option Nat)(x':Bool)(a' b' av' ac':Option (Nat×Nat))(n' m' nv' nc':Nat)(c' d' cv' cc':Option Nat):
  Ad Tryz.prog 46 2 (zipIdx [0,1] [.agg [.bool x,.slice a n c,.slice b m d,.slice av nv cv,.slice ac nc cc],.agg [.bool x',.slice a' n' c',.slice b' m' d',.slice av' nv' cv',.slice ac' nc' cc']]) =
   some (R 30 5 false [.bool x,.slice a n c,.slice b m d,.slice av nv cv,.slice ac nc cc,.bool x',.slice a' n' c',.slice b' m' d',.slice av' nv' cv',.slice ac' nc' cc']):=by kernel_rfl
section
variable{E:CP}{s:AD}
theorem Ps(hE:C5 E){vl:AV}{C:Rat}{vs:List Int}{cs:List Rat}(hl:LI s vl C vs cs 500)(hM:min cs.length vs.length≤16){vars:List Int}{wals:List Rat}{av ac:Option (Nat×Nat)}{cv cc:Option Nat}{cells:List AV}(hcv:AZ s.next s av (vars.map iv))(hrat:B2 s ac wals 500 cells)(hvl:vars.length≤1000000000)
  {K:AV→AD→Prop} (hK:∀s' w,Ac s.next s s'→QR s.next s' w (C+Bu (DF vars wals) vs cs)→QH (C+Bu (DF vars wals) vs cs) 160000→K w s'):WF E 13 [vl,.slice av vars.length cv,.slice ac wals.length cc] K s:=by
 generalize hM':min cs.length vs.length=M at hM
 have h1:(M+1) * (500+2)≤17 * (500+2):=oC _ (by omega)
 have h2:(M+2) * (1+(M+1) * (500+2)+500+1)≤18 * (1+17 * (500+2)+500+1):=oq (by omega) (by omega)
 have h3:M * (1+(M+1) * (500+2)+500+1)≤16 * (1+17 * (500+2)+500+1):=oq (by omega) (by omega)
 exact bH hE hl (by omega) hM' hcv hrat hvl (by omega) rfl (by omega) fun s' w o h q=>hK s' w o h (q.le (by omega))
theorem Ms(hE:C5 E){vl:AV}{C:Rat}{vs:List Int}{cs:List Rat}(hl:LI s vl C vs cs 500)(hM:min cs.length vs.length≤16){vars:List Int}{wals:List Rat}{av ac:Option (Nat×Nat)}{cv cc:Option Nat}{cells:List AV}(hcv:AZ s.next s av (vars.map iv))(hrat:B2 s ac wals 500 cells)(hvl:vars.length≤1000000000)
  {K:AV→AD→Prop} (hK:∀s' w,Ac s.next s s'→QI s' w (C+Bu (DF vars wals) vs cs) 160000→K w s'):WF E 13 [vl,.slice av vars.length cv,.slice ac wals.length cc] K s:=
 Ps hE hl hM hcv hrat hvl fun s' w o h q=>hK s' w o (h.qi q)
theorem US(hE:C5 E){vl:AV}{C:Rat}{vs:List Int}{cs:List Rat}(hl:LI s vl C vs cs 3)(hM:min cs.length vs.length≤8){vars:List Int}{wals:List Rat}{av ac:Option (Nat×Nat)}{cv cc:Option Nat}{cells:List AV}(hcv:AZ s.next s av (vars.map iv))(hrat:B2 s ac wals 3 cells)(hvl:vars.length≤1000000000)
  {K:AV→AD→Prop} (hK:∀s' w,Ac s.next s s'→QR s.next s' w (C+Bu (DF vars wals) vs cs)→QH (C+Bu (DF vars wals) vs cs) 500→K w s'):WF E 13 [vl,.slice av vars.length cv,.slice ac wals.length cc] K s:=by
 generalize hM':min cs.length vs.length=M at hM
 have h1:(M+1) * (3+2)≤9 * (3+2):=oC _ (by omega)
 have h2:(M+2) * (1+(M+1) * (3+2)+3+1)≤10 * (1+9 * (3+2)+3+1):=oq (by omega) (by omega)
 have h3:M * (1+(M+1) * (3+2)+3+1)≤8 * (1+9 * (3+2)+3+1):=oq (by omega) (by omega)
 exact bH hE hl (by omega) hM' hcv hrat hvl (by omega) rfl (by omega) fun s' w o h q=>hK s' w o h (q.le (by omega))
theorem Hs(hE:GoodN E){vx vy:AV}{x y:Rat}{kx ky:Nat}(hx:QI s vx x kx)(hy:QI s vy y ky)(e:x=y)(hkx:1≤kx)(hky:1≤ky)(hk:kx+ky+1≤1000000000){K:AV→AD→Prop}(hK:∀s',Ac s.next s s'→K (iv 0) s'):WF E 26 [vx,vy] K s:=
 aR hE hx hy hkx hky hk fun s' o=>by rw[(TZ x y).2 e];exact hK s' o
theorem Jj{T:List Br}{k:Nat}(h:T.length≤k):min ((C8 T).map (·.2)).length ((C8 T).map (·.1)).length≤k:=by
 have:=OP T
 rw[py,py]
 omega
theorem mN   (hE : C5    E) {S : AD}  {pA pB pP pQ : Nat} {ca cb cp cq : List AV} {C1 : Rat} {vs1 : List Int} {cs1 : List Rat} {C2 : Rat} {vs2 : List Int} {cs2 : List Rat} {vars : List Int} {wals : List Rat} {av ac : Option (Nat × Nat)} {cv cc : Option Nat} {cells : List AV}
    (h:Pl S pA pB pP pQ ca cb cp cq C1 vs1 cs1 C2 vs2 cs2 vars wals av ac cv cc cells) {y0 y3 y4 y9 y10 y11 y12 y13 y14 y15 y16 y17 y18 y19:AV} {K:List AV→AD→Prop}
    (hK:∀S',Ac S.next S S'→K [y0,.slice av vars.length cv,.slice ac wals.length cc,y3,y4,.ptr (some (pA,0)),.ptr (some (pB,0)),.ptr (some (pP,0)),.ptr (some (pQ,0)),y9,y10,y11,y12,y13,y14,.bool false,y16,y17,y18,y19] S'):
    Qb E iO K [] [y0,.slice av vars.length cv,.slice ac wals.length cc,y3,y4,.ptr (some (pA,0)),.ptr (some (pB,0)),.ptr (some (pP,0)),.ptr (some (pQ,0)),y9,y10,y11,y12,y13,y14,y15,y16,y17,y18,y19] S:=by
  have hvl:=h.vl
  have hA:=h.hA
  have hB:=h.hB
  have hpP:=h.hP
  have hpQ:=h.hQ
  have h1:=h
  obtain⟨xa,aa,na,ka,ba,ma,da,va,nva,kva,wa,nwa,kwa,ea⟩:=hA.shape
  injection ea with ea
  obtain⟨xb,ab,nb,kb,bb,mb,db,vb,nvb,kvb,wb,nwb,kwb,eb⟩:=hB.shape
  injection eb with eb
  obtain⟨xp,ap,np,kp,bp,mp,dp,ep⟩:=hpP.shape
  injection ep with ep
  obtain⟨xq,aq,nq,kq,bq,mq,dq,eq⟩:=hpQ.shape
  injection eq with eq
  subst ea;subst eb;subst ep;subst eq
  have lA:=AE (P:=Tryz.prog) (t:=30) DD Cs h.gA rfl
  have lB:=AE (P:=Tryz.prog) (t:=30) DD Cs h.gB rfl
  obtain⟨n1,o1,g1⟩:=Bj S (R 30 5 false [.bool xa,.slice aa na ka,.slice ba ma da,.slice va nva kva,.slice wa nwa kwa,.bool xb,.slice ab nb kb,.slice bb mb db,.slice vb nvb kvb,.slice wb nwb kwb])
  simp only[iO,lA,lB,Yp,Xd,Qa,Qb,Qc,Qd,Qe,Qf,Qg,Qh,Qi,Qj,Qk,Ql,Qm,Qn,true_and,and_true,Qo,Qp,Qq,Qr,Qs,Qt,Qu,Qv,Qw,Qx,Qy,Qz,Ra,Rb,Rc,Rd,Re,Rf,Rg,Rh,Ri,Rj,Rk,Rm,Rn,Ro,Rp,Rq,Rs,Ya,Yb,Yc,Rt,Ru,Za,Yd,Ye,Rx,Ry,Rz,Wa,Wb,Wc,Wd]
  generalize newObj S _=s1 at *
  have h':=h.old o1
  have lP:=AE (P:=Tryz.prog) (t:=26) A9 Ar h'.gP rfl
  have lQ:=AE (P:=Tryz.prog) (t:=26) A9 Ar h'.gQ rfl
  simp only[lP,lQ,Qa,Qb,Qc,Qd,Qe,Qf,Qg,Qh,Qi,Qj,Qk,Ql,Qm,Qn,true_and,and_true,Qo,Qp,Qq,Qr,Qs,Qt,Qu,Qv,Qw,Qx,Qy,Qz,Ra,Rb,Rc,Rd,Re,Rf,Rg,Rh,Ri,Rj,Rk,Rm,Rn,Ro,Rp,Rq,Rs,Ya,Yb,Yc,Rt,Ru,Za,Yd,Ye,Rx,Ry,Rz,Wa,Wb,Wc,Wd]
  have hMA:min cs1.length vs1.length≤8:=by have:=h.mA;omega
  have hMB:min cs2.length vs2.length≤8:=by have:=h.mB;omega
  refine ZN hE (L:=[(C1,vs1,cs1),(C2,vs2,cs2)]) (kl:=3) (M:=8) (by omega) g1 rfl (fun i l hl=>?_) (by omega) (by show 2 * (1+(2+1) * ((8+2) * (3+2)))+1≤1000000;decide) fun s2 w c T o2 hw hAA hc hT hnd _=>?_
  · match i with
    | 0=>cases hl;exact⟨h'.hA,hMA⟩
    | 1=>cases hl;exact⟨h'.hB,hMB⟩
    | i+2=>cases hl
  have h2:=h'.old o2
  have lP2:=AE (P:=Tryz.prog) (t:=26) A9 Ar h2.gP rfl
  have lQ2:=AE (P:=Tryz.prog) (t:=26) A9 Ar h2.gQ rfl
  refine⟨⟨Aa (by simp only[Qa,Qb,Qc,Qd,Qe,Qf,Qg,Qh,Qi,Qj,Qk,Ql,Qm,Qn,true_and,and_true,Qo,Qp,Qq,Qr,Qs,Qt,Qu,Qv,Qw,Qx,Qy,Qz,Ra,Rb,Rc,Rd,Re,Rf,Rg,Rh,Ri,Rj,Rk,Rm,Rn,Ro,Rp,Rq,Rs,Ya,Yb,Yc,Rt,Ru,Za,Yd,Ye,Rx,Ry,Rz,Wa,Wb,Wc,Wd];exact lQ2) (BK ..),Aa (by simp only[Qa,Qb,Qc,Qd,Qe,Qf,Qg,Qh,Qi,Qj,Qk,Ql,Qm,Qn,true_and,and_true,Qo,Qp,Qq,Qr,Qs,Qt,Qu,Qv,Qw,Qx,Qy,Qz,Ra,Rb,Rc,Rd,Re,Rf,Rg,Rh,Ri,Rj,Rk,Rm,Rn,Ro,Rp,Rq,Rs,Ya,Yb,Yc,Rt,Ru,Za,Yd,Ye,Rx,Ry,Rz,Wa,Wb,Wc,Wd];exact lP2) (BK ..),trivial⟩,?_⟩
  have hTl:T.length≤16:=by
    cases hAA with
    | cons t1 hs =>
      cases hs with
      | cons t2 hs =>
        cases hs with
        | nil =>
          have u1:=t1.len
          have u2:=t2.len
          simp only[pG]at u1
          omega
  have hc':QH c 101:=hc
  have hT':∀t∈T,QH t.2.1 101:=hT
  have hwl:LI s2 w c _ _ 500:=hw.li (hc'.le (by decide)) fun p hp=>(Ji (by decide) hT' p hp).le (by decide)
  simp only[Qa,Qb,Qc,Qd,Qe,Qf,Qg,Qh,Qi,Qj,Qk,Ql,Qm,Qn,true_and,and_true,Qo,Qp,Qq,Qr,Qs,Qt,Qu,Qv,Qw,Qx,Qy,Qz,Ra,Rb,Rc,Rd,Re,Rf,Rg,Rh,Ri,Rj,Rk,Rm,Rn,Ro,Rp,Rq,Rs,Ya,Yb,Yc,Rt,Ru,Za,Yd,Ye,Rx,Ry,Rz,Wa,Wb,Wc,Wd]
  refine Ms hE hwl (Jj hTl) h2.hv (h2.hr.le (by decide)) (by omega) fun s3 z o3 hz=>?_
  have h3:=h2.old o3
  have lP3:=AE (P:=Tryz.prog) (t:=26) A9 Ar h3.gP rfl
  have lQ3:=AE (P:=Tryz.prog) (t:=26) A9 Ar h3.gQ rfl
  refine⟨⟨Aa (by simp only[Qa,Qb,Qc,Qd,Qe,Qf,Qg,Qh,Qi,Qj,Qk,Ql,Qm,Qn,true_and,and_true,Qo,Qp,Qq,Qr,Qs,Qt,Qu,Qv,Qw,Qx,Qy,Qz,Ra,Rb,Rc,Rd,Re,Rf,Rg,Rh,Ri,Rj,Rk,Rm,Rn,Ro,Rp,Rq,Rs,Ya,Yb,Yc,Rt,Ru,Za,Yd,Ye,Rx,Ry,Rz,Wa,Wb,Wc,Wd];exact lQ3) (BK ..),Aa (by simp only[Qa,Qb,Qc,Qd,Qe,Qf,Qg,Qh,Qi,Qj,Qk,Ql,Qm,Qn,true_and,and_true,Qo,Qp,Qq,Qr,Qs,Qt,Qu,Qv,Qw,Qx,Qy,Qz,Ra,Rb,Rc,Rd,Re,Rf,Rg,Rh,Ri,Rj,Rk,Rm,Rn,Ro,Rp,Rq,Rs,Ya,Yb,Yc,Rt,Ru,Za,Yd,Ye,Rx,Ry,Rz,Wa,Wb,Wc,Wd];exact lP3) (BK ..),trivial⟩,?_⟩
  simp only[Qa,Qb,Qc,Qd,Qe,Qf,Qg,Qh,Qi,Qj,Qk,Ql,Qm,Qn,true_and,and_true,Qo,Qp,Qq,Qr,Qs,Qt,Qu,Qv,Qw,Qx,Qy,Qz,Ra,Rb,Rc,Rd,Re,Rf,Rg,Rh,Ri,Rj,Rk,Rm,Rn,Ro,Rp,Rq,Rs,Ya,Yb,Yc,Rt,Ru,Za,Yd,Ye,Rx,Ry,Rz,Wa,Wb,Wc,Wd]
  refine IG hE.toGoodN h3.hP h3.hQ (by decide) (by decide) (by decide) fun s4 y o4 hy=>?_
  simp only[Qa,Qb,Qc,Qd,Qe,Qf,Qg,Qh,Qi,Qj,Qk,Ql,Qm,Qn,true_and,and_true,Qo,Qp,Qq,Qr,Qs,Qt,Qu,Qv,Qw,Qx,Qy,Qz,Ra,Rb,Rc,Rd,Re,Rf,Rg,Rh,Ri,Rj,Rk,Rm,Rn,Ro,Rp,Rq,Rs,Ya,Yb,Yc,Rt,Ru,Za,Yd,Ye,Rx,Ry,Rz,Wa,Wb,Wc,Wd]
  refine Hs hE.toGoodN (hz.old o4) (hy.qi (QH.add (h3.hP.qh (by decide)) (h3.hQ.qh (by decide)))) (iD _ hAA hnd) (by decide) (by decide) (by decide) fun s5 o5=>?_
  have h5:=(h3.old o4).old o5
  have lA5:=AE (P:=Tryz.prog) (t:=30) DD Cs h5.gA rfl
  have lB5:=AE (P:=Tryz.prog) (t:=30) DD Cs h5.gB rfl
  have lP5:=AE (P:=Tryz.prog) (t:=26) A9 Ar h5.gP rfl
  have lQ5:=AE (P:=Tryz.prog) (t:=26) A9 Ar h5.gQ rfl
  simp only[Wc,show decide ((0:Int)≠0)=false from rfl,lA5,lB5,lP5,lQ5,Qa,Qb,Qc,Qd,Qe,Qf,Qg,Qh,Qi,Qj,Qk,Ql,Qm,Qn,true_and,and_true,Qo,Qp,Qq,Qr,Qs,Qt,Qu,Qv,Qw,Qx,Qy,Qz,Ra,Rb,Rc,Rd,Re,Rf,Rg,Rh,Ri,Rj,Rk,Rm,Rn,Ro,Rp,Rq,Rs,Ya,Yb,Yc,Rt,Ru,Za,Yd,Ye,Rx,Ry,Rz,Wa,Wb,Wc,Wd]
  refine RV hE h5.hA h5.hB (by decide) (by decide) (by omega) fun s6 w6 T0 T6 o6 hw6 t1 t2 hc6 hT6 hnd6=>?_
  have h6:=h5.old o6
  have lP6:=AE (P:=Tryz.prog) (t:=26) A9 Ar h6.gP rfl
  have lQ6:=AE (P:=Tryz.prog) (t:=26) A9 Ar h6.gQ rfl
  refine⟨⟨Aa (by simp only[Qa,Qb,Qc,Qd,Qe,Qf,Qg,Qh,Qi,Qj,Qk,Ql,Qm,Qn,true_and,and_true,Qo,Qp,Qq,Qr,Qs,Qt,Qu,Qv,Qw,Qx,Qy,Qz,Ra,Rb,Rc,Rd,Re,Rf,Rg,Rh,Ri,Rj,Rk,Rm,Rn,Ro,Rp,Rq,Rs,Ya,Yb,Yc,Rt,Ru,Za,Yd,Ye,Rx,Ry,Rz,Wa,Wb,Wc,Wd];exact lQ6) (BK ..),Aa (by simp only[Qa,Qb,Qc,Qd,Qe,Qf,Qg,Qh,Qi,Qj,Qk,Ql,Qm,Qn,true_and,and_true,Qo,Qp,Qq,Qr,Qs,Qt,Qu,Qv,Qw,Qx,Qy,Qz,Ra,Rb,Rc,Rd,Re,Rf,Rg,Rh,Ri,Rj,Rk,Rm,Rn,Ro,Rp,Rq,Rs,Ya,Yb,Yc,Rt,Ru,Za,Yd,Ye,Rx,Ry,Rz,Wa,Wb,Wc,Wd];exact lP6) (BK ..),trivial⟩,?_⟩
  have hMA1:(min cs1.length vs1.length+1) * (3+2)≤9 * (3+2):=oC _ (by omega)
  have hMB1:(min cs2.length vs2.length+1) * (3+2)≤9 * (3+2):=oC _ (by omega)
  have hT6l:T6.length≤16:=by
    have u1:=t1.len
    have u2:=t2.len
    simp only[pG]at u1
    omega
  have hwl6:LI s6 w6 _ _ _ 500:=hw6.li (hc6.le (by omega)) fun p hp=>(Ji (by omega) hT6 p hp).le (by omega)
  simp only[Qa,Qb,Qc,Qd,Qe,Qf,Qg,Qh,Qi,Qj,Qk,Ql,Qm,Qn,true_and,and_true,Qo,Qp,Qq,Qr,Qs,Qt,Qu,Qv,Qw,Qx,Qy,Qz,Ra,Rb,Rc,Rd,Re,Rf,Rg,Rh,Ri,Rj,Rk,Rm,Rn,Ro,Rp,Rq,Rs,Ya,Yb,Yc,Rt,Ru,Za,Yd,Ye,Rx,Ry,Rz,Wa,Wb,Wc,Wd]
  refine Ms hE hwl6 (Jj hT6l) h6.hv (h6.hr.le (by decide)) (by omega) fun s7 z7 o7 hz7=>?_
  have h7:=h6.old o7
  have lP7:=AE (P:=Tryz.prog) (t:=26) A9 Ar h7.gP rfl
  have lQ7:=AE (P:=Tryz.prog) (t:=26) A9 Ar h7.gQ rfl
  refine⟨⟨Aa (by simp only[Qa,Qb,Qc,Qd,Qe,Qf,Qg,Qh,Qi,Qj,Qk,Ql,Qm,Qn,true_and,and_true,Qo,Qp,Qq,Qr,Qs,Qt,Qu,Qv,Qw,Qx,Qy,Qz,Ra,Rb,Rc,Rd,Re,Rf,Rg,Rh,Ri,Rj,Rk,Rm,Rn,Ro,Rp,Rq,Rs,Ya,Yb,Yc,Rt,Ru,Za,Yd,Ye,Rx,Ry,Rz,Wa,Wb,Wc,Wd];exact lQ7) (BK ..),Aa (by simp only[Qa,Qb,Qc,Qd,Qe,Qf,Qg,Qh,Qi,Qj,Qk,Ql,Qm,Qn,true_and,and_true,Qo,Qp,Qq,Qr,Qs,Qt,Qu,Qv,Qw,Qx,Qy,Qz,Ra,Rb,Rc,Rd,Re,Rf,Rg,Rh,Ri,Rj,Rk,Rm,Rn,Ro,Rp,Rq,Rs,Ya,Yb,Yc,Rt,Ru,Za,Yd,Ye,Rx,Ry,Rz,Wa,Wb,Wc,Wd];exact lP7) (BK ..),trivial⟩,?_⟩
  simp only[Qa,Qb,Qc,Qd,Qe,Qf,Qg,Qh,Qi,Qj,Qk,Ql,Qm,Qn,true_and,and_true,Qo,Qp,Qq,Qr,Qs,Qt,Qu,Qv,Qw,Qx,Qy,Qz,Ra,Rb,Rc,Rd,Re,Rf,Rg,Rh,Ri,Rj,Rk,Rm,Rn,Ro,Rp,Rq,Rs,Ya,Yb,Yc,Rt,Ru,Za,Yd,Ye,Rx,Ry,Rz,Wa,Wb,Wc,Wd]
  refine aV hE.toGoodN h7.hP h7.hQ (by decide) (by decide) (by decide) fun s8 y8 o8 hy8=>?_
  simp only[Qa,Qb,Qc,Qd,Qe,Qf,Qg,Qh,Qi,Qj,Qk,Ql,Qm,Qn,true_and,and_true,Qo,Qp,Qq,Qr,Qs,Qt,Qu,Qv,Qw,Qx,Qy,Qz,Ra,Rb,Rc,Rd,Re,Rf,Rg,Rh,Ri,Rj,Rk,Rm,Rn,Ro,Rp,Rq,Rs,Ya,Yb,Yc,Rt,Ru,Za,Yd,Ye,Rx,Ry,Rz,Wa,Wb,Wc,Wd]
  have hqs:QH (C1+Bu (DF vars wals) vs1 cs1 - (C2+Bu (DF vars wals) vs2 cs2)) 1001:=by
    rw[Rat.sub_eq_add_neg]
    exact(QH.add (h7.hP.qh (by decide)) (QH.neg (h7.hQ.qh (by decide)))).le (by decide)
  refine Hs hE.toGoodN (hz7.old o8) (hy8.qi hqs) (iF _ t1 t2 hnd6) (by decide) (by decide) (by decide) fun s9 o9=>?_
  simp only[Wc,show decide ((0:Int)≠0)=false from rfl,Rt,Qa,Qb,Qc,Qd,Qe,Qf,Qg,Qh,Qi,Qj,Qk,Ql,Qm,Qn,true_and,and_true,Qo,Qp,Qq,Qr,Qs,Qt,Qu,Qv,Qw,Qx,Qy,Qz,Ra,Rb,Rc,Rd,Re,Rf,Rg,Rh,Ri,Rj,Rk,Rm,Rn,Ro,Rp,Rq,Rs,Ya,Yb,Yc,Rt,Ru,Za,Yd,Ye,Rx,Ry,Rz,Wa,Wb,Wc,Wd]
  have o69:Ac s6.next s6 s9:=(o7.trans (o8.mono o7.1)).trans (o9.mono (ny o7.1 o8.1))
  have o02:Ac S.next S s2:=o1.trans (o2.mono o1.1)
  have o04:Ac S.next S s4:=(o02.trans (o3.mono o02.1)).trans (o4.mono (ny o02.1 o3.1))
  have o05:Ac S.next S s5:=o04.trans (o5.mono o04.1)
  have o06:Ac S.next S s6:=o05.trans (o6.mono o05.1)
  exact hK s9 (o06.trans (o69.mono o06.1))
end
theorem Gi{s s':AD}{t:TypeId}{b:Bool}(ht:De Tryz.prog t=some b){i o:Nat}{v:AV}(o1:Ac s.next s s')(hi:i<s.next)(h:AC Tryz.prog s t (.ptr (some (i,o)))=some v):AC Tryz.prog s' t (.ptr (some (i,o)))=some v:=by
  cases b
  · rw [We ht] at h ⊢
    rw[o1.2 i hi];exact h
  · rw [Wf ht] at h ⊢
    rw[o1.2 i hi];exact h
theorem Yo:Ad Tryz.prog 27 0 (zipIdx [] [])=some (R 3 1 false []):=by kernel_rfl
theorem aE(l:List Int):Ap (l.map iv)=true:=by
 induction l with
 | nil=>rfl
 | cons x l ih=>show((iv x).isCell && Ap (l.map iv))=true;rw[ih];rfl
theorem Q2{s:AD}{i e sz:Nat}{sp:Bool}{cs:List AV}(hg:s.heap.get i=some (R e sz sp cs)):Bv s i 0 cs.length=some cs:=by
 rw[H7,hg,Wo (by omega)]
 simp
theorem B9.row{s:AD}{i e sz n:Nat}{cs:List AV}(hi:i<s.next)(hg:s.heap.get i=some (R e sz false cs))(hl:cs.length=n * sz):B9 e s (.slice (some (i,0)) n (some n)) n sz cs []:=
 .inl ⟨some (i,0),rfl,rfl,hl,fun h=>(by cases h),fun i' o' h=>by
  injection h with h
  injection h with h1 h2
  subst h1;subst h2
  exact⟨hi,by rw[← hl];exact Q2 hg⟩⟩
theorem J7{s:AD}{v:AV}{n:Nat}{cs:List AV}{O:List Nat}(hd:B9 3 s v n 1 cs O){a:Option (Nat×Nat)}{cap:Option Nat}{l:List Int}(h:AZ s.next s a (l.map iv))(hn:n≤1000000)(hl:l.length≤1000000):
  ∃v' s' O',Av Tryz.prog s [27,27] [v,.slice a l.length cap]=some (v',s')∧B9 3 s' v' (n+l.length) 1 (cs++l.map iv) O'∧s.next≤s'.next∧(∀j,j<s.next→j ∉ O→s'.heap.get j=s.heap.get j)∧(∀j∈O',j∈O∨s.next≤j):=by
 obtain⟨v',s',O',h1,h2,h3,_,h5,h6,_⟩:=hd.append Tryz.underlying27 S9 mX (by decide) TH ZF (MY (e:=3) (sz:=1) (cap:=cap) (n:=l.length) h (by simp) (by decide)) (by simp) (aE l) (by omega) (by omega)
 exact⟨v',s',O',h1,h2,h3,h5,h6⟩
theorem Tv        {s : AD}  {a : Option (Nat × Nat)} {cs : List Rat} {k : Nat} {cells : List AV} (h : B2     s a cs k cells) : Ap       cells = true := by
  have hp : ∀ (n : Nat) (l : List AV), l.length = n * 3 → (∀ i, i < n → Ap       ((l.drop (i * 3)).take 3) = true) → Ap       l = true := by
    intro n
    induction n with
    | zero=>intro l hl _;rw[qD (by omega:l.length=0)];rfl
    | succ n ih =>
      intro l hl hc
      have e:l=l.take 3++l.drop 3:=(pn 3 l).symm
      have h0:Ap (l.take 3)=true:=by have:=hc 0 (by omega);simpa using this
      have h1:=ih (l.drop 3) (by rw[oh];omega) fun i hi=>by
        have:=hc (i+1) (by omega)
        rw[pF,show 3+i * 3=(i+1) * 3 by omega]
        exact this
      have happ:∀x y:List AV,Ap x=true→Ap y=true→Ap (x++y)=true:=by
        intro x
        induction x with
        | nil=>intro y _ hy;exact hy
        | cons c x ihx =>
          intro y hx hy
          have hx':(c.isCell && Ap x)=true:=hx
          rw[Bool.and_eq_true]at hx'
          show(c.isCell && Ap (x++y))=true
          rw[hx'.1,ihx y hx'.2 hy];rfl
      rw[e];exact happ _ _ h0 h1
  refine hp cs.length cells h.len fun i hi=>?_
  obtain⟨_,_,_,_,_,_,_,e⟩:=(h.rat i cs[i] (nr hi)).shape
  injection e with e
  rw[e];rfl
theorem UP{s:AD}{v:AV}{n:Nat}{cs:List AV}{O:List Nat}(hd:B9 26 s v n 3 cs O){a:Option (Nat×Nat)}{cap:Option Nat}{l:List Rat}{k:Nat}{cells:List AV}(h:B2 s a l k cells)(hn:n≤1000000)(hl:l.length≤1000000):
  ∃v' s' O',Av Tryz.prog s [28,28] [v,.slice a l.length cap]=some (v',s')∧B9 26 s' v' (n+l.length) 3 (cs++cells) O'∧s.next≤s'.next∧(∀j,j<s.next→j ∉ O→s'.heap.get j=s.heap.get j)∧(∀j∈O',j∈O∨s.next≤j):=by
 obtain⟨v',s',O',h1,h2,h3,_,h5,h6,_⟩:=hd.append Tryz.underlying28 Ar iH (by decide) No RZ (MY (e:=26) (sz:=3) (cap:=cap) (n:=l.length) h.rd h.len (by decide)) h.len (Tv h) (by omega) (by omega)
 exact⟨v',s',O',h1,h2,h3,h5,h6⟩
section
variable{E:CP}{s:AD}
theorem lR(hE:C5 E){S:AD}{pA pB pP pQ:Nat}{ca cb cp cq:List AV}{C1:Rat}{vs1:List Int}{cs1:List Rat}{C2:Rat}{vs2:List Int}{cs2:List Rat}{vars:List Int}{wals:List Rat}{av ac:Option (Nat×Nat)}{cv cc:Option Nat}{cells:List AV}
  (h:Pl S pA pB pP pQ ca cb cp cq C1 vs1 cs1 C2 vs2 cs2 vars wals av ac cv cc cells) {i:Nat} (hi:i<wals.length) {y0 y3 y4 y10 y11 y12 y13 y14 y15 y16 y17 y18 y19:AV} {K:List AV→AD→Prop}
  (hK:∀S',Ac S.next S S'→K [y0,.slice av vars.length cv,.slice ac wals.length cc,y3,y4,.ptr (some (pA,0)),.ptr (some (pB,0)),.ptr (some (pP,0)),.ptr (some (pQ,0)),iv (i:Int),y10,y11,y12,y13,y14,y15,y16,.bool false,y18,y19] S'):
  Qb E W0 K [] [y0,.slice av vars.length cv,.slice ac wals.length cc,y3,y4,.ptr (some (pA,0)),.ptr (some (pB,0)),.ptr (some (pP,0)),.ptr (some (pQ,0)),iv (i:Int),y10,y11,y12,y13,y14,y15,y16,y17,y18,y19] S:=by
 have hvl:=h.vl
 have hwl:=h.wl
 have hA:=h.hA
 have hpP:=h.hP
 obtain⟨xa,aa,na,ka,ba,ma,da,va,nva,kva,wa,nwa,kwa,ea⟩:=hA.shape
 injection ea with ea
 obtain⟨xp,ap,np,kp,bp,mp,dp,ep⟩:=hpP.shape
 injection ep with ep
 subst ea;subst ep
 have hq:=h.hr.rat i wals[i] (nr hi)
 obtain⟨i0,o,rfl,hi0,ld⟩:=h.hr.load hi
 have ix:=An (cap:=cc) (i:=i0) (o:=o) (n:=3) Tryz.underlying28 Ar hi
 obtain⟨xq,aq,nq,kq,bq,mq,dq,eq⟩:=hq.shape
 rw[eq]at hq ld
 have lA:=AE (P:=Tryz.prog) (t:=30) DD Cs h.gA rfl
 have lP:=AE (P:=Tryz.prog) (t:=26) A9 Ar h.gP rfl
 have hMA:min cs1.length vs1.length≤8:=by have:=h.mA;omega
 have hM2:(min cs1.length vs1.length+2) * (3+3+1)≤10 * (3+3+1):=oC _ (by omega)
 have hM1:(min cs1.length vs1.length+1) * (3+3+1)≤9 * (3+3+1):=oC _ (by omega)
 simp only[W0,lA,lP,ix,ld,Qa,Qb,Qc,Qd,Qe,Qf,Qg,Qh,Qi,Qj,Qk,Ql,Qm,Qn,true_and,and_true,Qo,Qp,Qq,Qr,Qs,Qt,Qu,Qv,Qw,Qx,Qy,Qz,Ra,Rb,Rc,Rd,Re,Rf,Rg,Rh,Ri,Rj,Rk,Rm,Rn,Ro,Rp,Rq,Rs,Ya,Yb,Yc,Rt,Ru,Za,Yd,Ye,Rx,Ry,Rz,Wa,Wb,Wc,Wd]
 refine Yt hE h.hA hq (by decide) (by decide) (by omega) fun s2 w T o2 hw t1 hc hT hnd=>?_
 have h2:=h.old o2
 have lP2:=AE (P:=Tryz.prog) (t:=26) A9 Ar h2.gP rfl
 have ld2:=Gi A9 o2 hi0 ld
 refine⟨⟨Aa (by simp only[Qa,Qb,Qc,Qd,Qe,Qf,Qg,Qh,Qi,Qj,Qk,Ql,Qm,Qn,true_and,and_true,Qo,Qp,Qq,Qr,Qs,Qt,Qu,Qv,Qw,Qx,Qy,Qz,Ra,Rb,Rc,Rd,Re,Rf,Rg,Rh,Ri,Rj,Rk,Rm,Rn,Ro,Rp,Rq,Rs,Ya,Yb,Yc,Rt,Ru,Za,Yd,Ye,Rx,Ry,Rz,Wa,Wb,Wc,Wd];exact ld2) (BK ..),Aa (by simp only[Qa,Qb,Qc,Qd,Qe,Qf,Qg,Qh,Qi,Qj,Qk,Ql,Qm,Qn,true_and,and_true,Qo,Qp,Qq,Qr,Qs,Qt,Qu,Qv,Qw,Qx,Qy,Qz,Ra,Rb,Rc,Rd,Re,Rf,Rg,Rh,Ri,Rj,Rk,Rm,Rn,Ro,Rp,Rq,Rs,Ya,Yb,Yc,Rt,Ru,Za,Yd,Ye,Rx,Ry,Rz,Wa,Wb,Wc,Wd];exact lP2) (BK ..),trivial⟩,?_⟩
 have hTl:T.length≤16:=by
  have u1:=t1.len
  simp only[pG]at u1
  omega
 have hwL:LI s2 w _ _ _ 500:=hw.li (hc.le (by omega)) fun p hp=>(Ji (by omega) hT p hp).le (by omega)
 simp only[Qa,Qb,Qc,Qd,Qe,Qf,Qg,Qh,Qi,Qj,Qk,Ql,Qm,Qn,true_and,and_true,Qo,Qp,Qq,Qr,Qs,Qt,Qu,Qv,Qw,Qx,Qy,Qz,Ra,Rb,Rc,Rd,Re,Rf,Rg,Rh,Ri,Rj,Rk,Rm,Rn,Ro,Rp,Rq,Rs,Ya,Yb,Yc,Rt,Ru,Za,Yd,Ye,Rx,Ry,Rz,Wa,Wb,Wc,Wd]
 refine Ms hE hwL (Jj hTl) h2.hv (h2.hr.le (by decide)) (by omega) fun s3 z o3 hz=>?_
 have h3:=h2.old o3
 have lP3:=AE (P:=Tryz.prog) (t:=26) A9 Ar h3.gP rfl
 have ld3:=Gi A9 o3 (ns hi0 o2.1) ld2
 refine⟨⟨Aa (by simp only[Qa,Qb,Qc,Qd,Qe,Qf,Qg,Qh,Qi,Qj,Qk,Ql,Qm,Qn,true_and,and_true,Qo,Qp,Qq,Qr,Qs,Qt,Qu,Qv,Qw,Qx,Qy,Qz,Ra,Rb,Rc,Rd,Re,Rf,Rg,Rh,Ri,Rj,Rk,Rm,Rn,Ro,Rp,Rq,Rs,Ya,Yb,Yc,Rt,Ru,Za,Yd,Ye,Rx,Ry,Rz,Wa,Wb,Wc,Wd];exact ld3) (BK ..),Aa (by simp only[Qa,Qb,Qc,Qd,Qe,Qf,Qg,Qh,Qi,Qj,Qk,Ql,Qm,Qn,true_and,and_true,Qo,Qp,Qq,Qr,Qs,Qt,Qu,Qv,Qw,Qx,Qy,Qz,Ra,Rb,Rc,Rd,Re,Rf,Rg,Rh,Ri,Rj,Rk,Rm,Rn,Ro,Rp,Rq,Rs,Ya,Yb,Yc,Rt,Ru,Za,Yd,Ye,Rx,Ry,Rz,Wa,Wb,Wc,Wd];exact lP3) (BK ..),trivial⟩,?_⟩
 have o03:Ac S.next S s3:=o2.trans (o3.mono o2.1)
 have hq3:=hq.old o03
 simp only[Qa,Qb,Qc,Qd,Qe,Qf,Qg,Qh,Qi,Qj,Qk,Ql,Qm,Qn,true_and,and_true,Qo,Qp,Qq,Qr,Qs,Qt,Qu,Qv,Qw,Qx,Qy,Qz,Ra,Rb,Rc,Rd,Re,Rf,Rg,Rh,Ri,Rj,Rk,Rm,Rn,Ro,Rp,Rq,Rs,Ya,Yb,Yc,Rt,Ru,Za,Yd,Ye,Rx,Ry,Rz,Wa,Wb,Wc,Wd]
 refine IH hE.toGoodN h3.hP hq3 (by decide) (by decide) (by decide) fun s4 y o4 hy=>?_
 simp only[Qa,Qb,Qc,Qd,Qe,Qf,Qg,Qh,Qi,Qj,Qk,Ql,Qm,Qn,true_and,and_true,Qo,Qp,Qq,Qr,Qs,Qt,Qu,Qv,Qw,Qx,Qy,Qz,Ra,Rb,Rc,Rd,Re,Rf,Rg,Rh,Ri,Rj,Rk,Rm,Rn,Ro,Rp,Rq,Rs,Ya,Yb,Yc,Rt,Ru,Za,Yd,Ye,Rx,Ry,Rz,Wa,Wb,Wc,Wd]
 refine Hs hE.toGoodN (hz.old o4) (hy.qi (QH.mul (h3.hP.qh (by decide)) (hq3.qh (by decide)))) (UU _ t1 hnd) (by decide) (by decide) (by decide) fun s5 o5=>?_
 simp only[Wc,show decide ((0:Int)≠0)=false from rfl,Qa,Qb,Qc,Qd,Qe,Qf,Qg,Qh,Qi,Qj,Qk,Ql,Qm,Qn,true_and,and_true,Qo,Qp,Qq,Qr,Qs,Qt,Qu,Qv,Qw,Qx,Qy,Qz,Ra,Rb,Rc,Rd,Re,Rf,Rg,Rh,Ri,Rj,Rk,Rm,Rn,Ro,Rp,Rq,Rs,Ya,Yb,Yc,Rt,Ru,Za,Yd,Ye,Rx,Ry,Rz,Wa,Wb,Wc,Wd]
 have o04:Ac S.next S s4:=o03.trans (o4.mono o03.1)
 exact hK s5 (o04.trans (o5.mono o04.1))
theorem lT(hE:C5 E){S:AD}{pA pB pP pQ:Nat}{ca cb cp cq:List AV}{C1:Rat}{vs1:List Int}{cs1:List Rat}{C2:Rat}{vs2:List Int}{cs2:List Rat}{vars:List Int}{wals:List Rat}{av ac:Option (Nat×Nat)}{cv cc:Option Nat}{cells:List AV}
    (h:Pl S pA pB pP pQ ca cb cp cq C1 vs1 cs1 C2 vs2 cs2 vars wals av ac cv cc cells) {y0 y3 y4 y6 y7 y8 y9 y10 y11 y12 y13 y14 y15 y16 y17 y18 y19 y2:AV} {K:List AV→AD→Prop}
    (hK:∀S' a cap,Ac S.next S S'→AZ S'.next S' a ((vars++vs1).map iv)→(∀n∈vars++vs1,i64 n)→(vars++vs1).length≤16→K [y0,.slice av vars.length cv,y2,y3,y4,.ptr (some (pA,0)),y6,y7,y8,y9,.slice a (vars++vs1).length cap,y11,y12,y13,y14,y15,y16,y17,y18,y19] S'):
    Qb E W1 K [] [y0,.slice av vars.length cv,y2,y3,y4,.ptr (some (pA,0)),y6,y7,y8,y9,y10,y11,y12,y13,y14,y15,y16,y17,y18,y19] S:=by
  have hvl:=h.vl
  have hnA:=h.nA
  have hA:=h.hA
  obtain⟨xa,aa,na,ka,ba,ma,da,va,kva,wa,kwa,cellsA,ea,_,hcA,hiA,_⟩:=hA
  injection ea with ea
  subst ea
  obtain⟨n1,o1,g1⟩:=Bj S (R 3 1 false [])
  have lv:=AX (P:=Tryz.prog) (t:=27) (o:=0+3) Nw ((o1.2 pA h.lA).trans h.gA) rfl
  have hd:=B9.row (n:=0) (s:=newObj S (R 3 1 false [])) (by omega:S.next<_) g1 rfl
  have hv1:=(h.hv.old o1 (nl _)).mono o1.1
  obtain⟨v2,s2,O2,happ2,Jn,hn2,hf2,hO2⟩:=J7 (cap:=cv) hd hv1 (by omega) (by omega)
  have o02:Ac S.next S s2:=⟨by omega,fun j hj=>by rw[hf2 j (by omega) (by simp),o1.2 j hj]⟩
  have lv2:=AX (P:=Tryz.prog) (t:=27) (o:=0+3) Nw ((o02.2 pA h.lA).trans h.gA) rfl
  simp only[W1,Yo,Xd,Ij,lv,happ2,Qa,Qb,Qc,Qd,Qe,Qf,Qg,Qh,Qi,Qj,Qk,Ql,Qm,Qn,true_and,and_true,Qo,Qp,Qq,Qr,Qs,Qt,Qu,Qv,Qw,Qx,Qy,Qz,Ra,Rb,Rc,Rd,Re,Rf,Rg,Rh,Ri,Rj,Rk,Rm,Rn,Ro,Rp,Rq,Rs,Ya,Yb,Yc,Rt,Ru,Za,Yd,Ye,Rx,Ry,Rz,Wa,Wb,Wc,Wd]
  refine⟨Aa (by simp only[Qa,Qb,Qc,Qd,Qe,Qf,Qg,Qh,Qi,Qj,Qk,Ql,Qm,Qn,true_and,and_true,Qo,Qp,Qq,Qr,Qs,Qt,Qu,Qv,Qw,Qx,Qy,Qz,Ra,Rb,Rc,Rd,Re,Rf,Rg,Rh,Ri,Rj,Rk,Rm,Rn,Ro,Rp,Rq,Rs,Ya,Yb,Yc,Rt,Ru,Za,Yd,Ye,Rx,Ry,Rz,Wa,Wb,Wc,Wd];exact lv2) (by simp only[Qa,Qb,Qc,Qd,Qe,Qf,Qg,Qh,Qi,Qj,Qk,Ql,Qm,Qn,true_and,and_true,Qo,Qp,Qq,Qr,Qs,Qt,Qu,Qv,Qw,Qx,Qy,Qz,Ra,Rb,Rc,Rd,Re,Rf,Rg,Rh,Ri,Rj,Rk,Rm,Rn,Ro,Rp,Rq,Rs,Ya,Yb,Yc,Rt,Ru,Za,Yd,Ye,Rx,Ry,Rz,Wa,Wb,Wc,Wd];exact Bb _ _ _),?_⟩
  obtain⟨v3,s3,O3,happ3,hd3,hn3,hf3,hO3⟩:=J7 (cap:=kva) Jn ((hcA.old o02 (nl _)).mono o02.1) (by omega) (by omega)
  simp only[happ3,Qa,Qb,Qc,Qd,Qe,Qf,Qg,Qh,Qi,Qj,Qk,Ql,Qm,Qn,true_and,and_true,Qo,Qp,Qq,Qr,Qs,Qt,Qu,Qv,Qw,Qx,Qy,Qz,Ra,Rb,Rc,Rd,Re,Rf,Rg,Rh,Ri,Rj,Rk,Rm,Rn,Ro,Rp,Rq,Rs,Ya,Yb,Yc,Rt,Ru,Za,Yd,Ye,Rx,Ry,Rz,Wa,Wb,Wc,Wd]
  obtain⟨a',cap',rfl,hc'⟩:=hd3.cells
  have e:0+vars.length+vs1.length=(vars++vs1).length:=by rw[oI];omega
  rw[e]
  refine hK s3 a' cap' ⟨by omega,fun j hj=>?_⟩ ?_ (fun n hn=>?_) (by rw[oI];omega)
  · rw [hf3 j (by omega) (fun h' => ?_), o02.2 j hj]
    rcases hO2 j h' with h' | h'
    · simp at h'
    · omega
  · rw[List.map_append];simpa using hc'
  · rcases List.mem_append.1 hn with hn | hn
    · exact h.iv' n hn
    · exact hiA n hn
end
theorem B2.cons{s:AD}{a a':Option (Nat×Nat)}{cs:List Rat}{k:Nat}{cells:List AV}{x:Bool}{b d:Option (Nat×Nat)}{n m:Nat}{c e:Option Nat}{q:Rat}(h:B2 s a cs k cells)(hq:QI s (.agg [.bool x,.slice b n c,.slice d m e]) q k)
  (hc:AZ s.next s a' ([.bool x,.slice b n c,.slice d m e]++cells)):B2 s a' (q::cs) k ([.bool x,.slice b n c,.slice d m e]++cells):=by
 refine⟨by rw[oI,h.len];show 3+cs.length * 3=(cs.length+1) * 3;omega,hc,fun i r hi=>?_⟩
 cases i with
 | zero =>
  injection hi with hi
  subst hi
  exact hq
 | succ i =>
  rw[show(i+1) * 3=[AV.bool x,.slice b n c,.slice d m e].length+i * 3 by show _=3+_;omega,List.drop_append,oo (by omega),qP,Nat.add_sub_cancel_left]
  exact h.rat i r hi
section
variable{E:CP}{s:AD}
theorem lU(hE:C5 E){S:AD}{pA pB pP pQ:Nat}{ca cb cp cq:List AV}{C1:Rat}{vs1:List Int}{cs1:List Rat}{C2:Rat}{vs2:List Int}{cs2:List Rat}{vars:List Int}{wals:List Rat}{av ac:Option (Nat×Nat)}{cv cc:Option Nat}{cells:List AV}
    (h:Pl S pA pB pP pQ ca cb cp cq C1 vs1 cs1 C2 vs2 cs2 vars wals av ac cv cc cells) {all:List Int} {aa:Option (Nat×Nat)} {capa:Option Nat} (hall:AZ S.next S aa (all.map iv)) {i:Nat} {n:Int} (hi:all[i]? = some n) (hn:i64 n)
    {y0 y3 y4 y7 y8 y9 y12 y13 y14 y15 y16 y17 y18 y19:AV} {K:List AV→AD→Prop}
    (hK:∀S' pZ x a m c b d e,Ac S.next S S'→pZ<S'.next→S'.heap.get pZ=some (BQ x (.slice a m c) (.slice b d e))→QI S' (.agg [.bool x,.slice a m c,.slice b d e]) (C1+Bu (DF (n::vars) ((C2+Bu (DF vars wals) vs2 cs2)::wals)) vs1 cs1) 160000 →
      K [y0,.slice av vars.length cv,.slice ac wals.length cc,y3,y4,.ptr (some (pA,0)),.ptr (some (pB,0)),y7,y8,y9,.slice aa all.length capa,iv (i:Int),.ptr (some (pZ,0)),y13,y14,y15,y16,y17,y18,y19] S'):
    Qb E W3 K [] [y0,.slice av vars.length cv,.slice ac wals.length cc,y3,y4,.ptr (some (pA,0)),.ptr (some (pB,0)),y7,y8,y9,.slice aa all.length capa,iv (i:Int),y12,y13,y14,y15,y16,y17,y18,y19] S:=by
  have hvl:=h.vl
  have hA:=h.hA
  have hB:=h.hB
  obtain⟨xa,aa',na,ka,ba,ma,da,va,nva,kva,wa,nwa,kwa,ea⟩:=hA.shape
  injection ea with ea
  obtain⟨xb,ab,nb,kb,bb,mb,db,vb,nvb,kvb,wb,nwb,kwb,eb⟩:=hB.shape
  injection eb with eb
  subst ea;subst eb
  have lA:=AE (P:=Tryz.prog) (t:=30) DD Cs h.gA rfl
  have lB:=AE (P:=Tryz.prog) (t:=30) DD Cs h.gB rfl
  have hil:i<all.length:=by
    rcases nm i all.length with h' | h'
    · exact h'
    · rw[oF h']at hi;cases hi
  obtain⟨i0,o,rfl,hi0,ld⟩:=En hall hi
  have ix:=An (cap:=capa) (i:=i0) (o:=o) (n:=1) Tryz.underlying27 S9 hil
  obtain⟨n1,o1,g1⟩:=Bj S ZQ
  simp only[W3,lA,lB,ix,ld,BU,Xb,Qa,Qb,Qc,Qd,Qe,Qf,Qg,Qh,Qi,Qj,Qk,Ql,Qm,Qn,true_and,and_true,Qo,Qp,Qq,Qr,Qs,Qt,Qu,Qv,Qw,Qx,Qy,Qz,Ra,Rb,Rc,Rd,Re,Rf,Rg,Rh,Ri,Rj,Rk,Rm,Rn,Ro,Rp,Rq,Rs,Ya,Yb,Yc,Rt,Ru,Za,Yd,Ye,Rx,Ry,Rz,Wa,Wb,Wc,Wd]
  generalize newObj S ZQ=s1 at *
  have h1:=h.old o1
  have hMA:min cs1.length vs1.length≤8:=by have:=h.mA;omega
  have hMB:min cs2.length vs2.length≤8:=by have:=h.mB;omega
  have b1:(min cs1.length vs1.length+1) * (3+2)≤9 * (3+2):=oC _ (by omega)
  have b2:(min cs2.length vs2.length+1) * (3+(1+(min cs1.length vs1.length+1) * (3+2))+1)≤9 * (3+(1+9 * (3+2))+1):=oq (by omega) (by omega)
  refine jg hE hn h1.hA h1.hB (by decide) (by decide) rfl rfl rfl rfl (by omega) fun s2 w T0 C' T o2 hw t0 hput hC hT hnd hnd0=>?_
  have h2:=h1.old o2
  have hTl:T.length≤16:=by
    have u1:=t0.len
    simp only[pG]at u1
    rcases hput with⟨_,_,rfl⟩ | ⟨_,_,t2⟩
    · omega
    · have u2 := t2.len
      have u3:=Sb n T0
      omega
  have hwl:LI s2 w _ _ _ 500:=hw.li (hC.le (by omega)) fun p hp=>(Ji (by omega) hT p hp).le (by omega)
  simp only[Qa,Qb,Qc,Qd,Qe,Qf,Qg,Qh,Qi,Qj,Qk,Ql,Qm,Qn,true_and,and_true,Qo,Qp,Qq,Qr,Qs,Qt,Qu,Qv,Qw,Qx,Qy,Qz,Ra,Rb,Rc,Rd,Re,Rf,Rg,Rh,Ri,Rj,Rk,Rm,Rn,Ro,Rp,Rq,Rs,Ya,Yb,Yc,Rt,Ru,Za,Yd,Ye,Rx,Ry,Rz,Wa,Wb,Wc,Wd]
  refine Ps hE hwl (Jj hTl) h2.hv (h2.hr.le (by decide)) (by omega) fun s3 z o3 hz hqz=>?_
  rw[iE t0 hnd0 hput hnd]at hz hqz
  obtain⟨xz,az,nz,kz,bz,mz,dz,rfl⟩:=hz.shape
  have o13:Ac s1.next s1 s3:=o2.trans (o3.mono o2.1)
  have g3:s3.heap.get S.next=some ZQ:=(o13.2 _ (by omega)).trans g1
  obtain⟨st4,_⟩:=BS (cs0:=[.bool false,.slice none 0 (some 0),.slice none 0 (some 0)]) rfl (x:=xz) (a:=az) (n:=nz) (c:=kz) (b:=bz) (m:=mz) (d:=dz) g3
  simp only[st4,Xx,Xz,Qa,Qb,Qc,Qd,Qe,Qf,Qg,Qh,Qi,Qj,Qk,Ql,Qm,Qn,true_and,and_true,Qo,Qp,Qq,Qr,Qs,Qt,Qu,Qv,Qw,Qx,Qy,Qz,Ra,Rb,Rc,Rd,Re,Rf,Rg,Rh,Ri,Rj,Rk,Rm,Rn,Ro,Rp,Rq,Rs,Ya,Yb,Yc,Rt,Ru,Za,Yd,Ye,Rx,Ry,Rz,Wa,Wb,Wc,Wd]
  have o03:Ac S.next S s3:=o1.trans (o13.mono o1.1)
  have hs13:=o13.1
  refine hK _ S.next _ _ _ _ _ _ _ (o03.set (nl _) _) (by show S.next<s3.next;omega) (Wv ..) ?_
  exact(hz.set (by have:=o2.1;omega) _).qi hqz
theorem lV(hE:C5 E){S:AD}{pA pB pP pQ:Nat}{ca cb cp cq:List AV}{C1:Rat}{vs1:List Int}{cs1:List Rat}{C2:Rat}{vs2:List Int}{cs2:List Rat}{vars:List Int}{wals:List Rat}{av ac:Option (Nat×Nat)}{cv cc:Option Nat}{cells:List AV}
  (h:Pl S pA pB pP pQ ca cb cp cq C1 vs1 cs1 C2 vs2 cs2 vars wals av ac cv cc cells) {all:List Int} {aa:Option (Nat×Nat)} {capa:Option Nat} (hall:AZ S.next S aa (all.map iv)) {i:Nat} {n:Int} (hi:all[i]? = some n) (hn:i64 n)
  {y0 y3 y4 y6 y7 y9 y12 y13 y14 y15 y16 y17 y18 y19:AV} {K:List AV→AD→Prop}
  (hK:∀S' pZ x a m c b d e,Ac S.next S S'→pZ<S'.next→S'.heap.get pZ=some (BQ x (.slice a m c) (.slice b d e))→QI S' (.agg [.bool x,.slice a m c,.slice b d e]) (C1+Bu (DF (n::vars) ((C2+Bu (DF vars wals) vs2 cs2)::wals)) vs1 cs1) 160000 →
   K [y0,.slice av vars.length cv,.slice ac wals.length cc,y3,y4,.ptr (some (pA,0)),y6,y7,.ptr (some (pQ,0)),y9,.slice aa all.length capa,iv (i:Int),y12,.ptr (some (pZ,0)),y14,y15,y16,y17,y18,y19] S'):
  Qb E W4 K [] [y0,.slice av vars.length cv,.slice ac wals.length cc,y3,y4,.ptr (some (pA,0)),y6,y7,.ptr (some (pQ,0)),y9,.slice aa all.length capa,iv (i:Int),y12,y13,y14,y15,y16,y17,y18,y19] S:=by
 have hvl:=h.vl
 have hwl:=h.wl
 have hA:=h.hA
 have hQ:=h.hQ
 obtain⟨xa,aa',na,ka,ba,ma,da,va,nva,kva,wa,nwa,kwa,ea⟩:=hA.shape
 injection ea with ea
 obtain⟨xq,aq,nq,kq,bq,mq,dq,eq⟩:=hQ.shape
 injection eq with eq
 subst ea;subst eq
 have lA:=AE (P:=Tryz.prog) (t:=30) DD Cs h.gA rfl
 have hil:i<all.length:=by
  rcases nm i all.length with h' | h'
  ·exact h'
  ·rw[oF h']at hi;cases hi
 obtain⟨i0,o,rfl,hi0,ld⟩:=En hall hi
 have ix:=An (cap:=capa) (i:=i0) (o:=o) (n:=1) Tryz.underlying27 S9 hil
 obtain⟨n1,o1,g1⟩:=Bj S (R 3 1 false [iv n])
 simp only[W4,lA,ix,ld,IN,Xd,Qa,Qb,Qc,Qd,Qe,Qf,Qg,Qh,Qi,Qj,Qk,Ql,Qm,Qn,true_and,and_true,Qo,Qp,Qq,Qr,Qs,Qt,Qu,Qv,Qw,Qx,Qy,Qz,Ra,Rb,Rc,Rd,Re,Rf,Rg,Rh,Ri,Rj,Rk,Rm,Rn,Ro,Rp,Rq,Rs,Ya,Yb,Yc,Rt,Ru,Za,Yd,Ye,Rx,Ry,Rz,Wa,Wb,Wc,Wd]
 generalize newObj S (R 3 1 false [iv n])=s1 at *
 have h1:=h.old o1
 have lQ:=AE (P:=Tryz.prog) (t:=26) A9 Ar h1.gQ rfl
 obtain⟨n2,o2,g2⟩:=Bj s1 (R 26 3 false [.bool xq,.slice aq nq kq,.slice bq mq dq])
 simp only[lQ,FN,Xd,Qa,Qb,Qc,Qd,Qe,Qf,Qg,Qh,Qi,Qj,Qk,Ql,Qm,Qn,true_and,and_true,Qo,Qp,Qq,Qr,Qs,Qt,Qu,Qv,Qw,Qx,Qy,Qz,Ra,Rb,Rc,Rd,Re,Rf,Rg,Rh,Ri,Rj,Rk,Rm,Rn,Ro,Rp,Rq,Rs,Ya,Yb,Yc,Rt,Ru,Za,Yd,Ye,Rx,Ry,Rz,Wa,Wb,Wc,Wd]
 generalize newObj s1 (R 26 3 false [.bool xq,.slice aq nq kq,.slice bq mq dq])=s2 at *
 obtain⟨n3,o3,g3⟩:=Bj s2 ZQ
 simp only[BU,Xb,Qa,Qb,Qc,Qd,Qe,Qf,Qg,Qh,Qi,Qj,Qk,Ql,Qm,Qn,true_and,and_true,Qo,Qp,Qq,Qr,Qs,Qt,Qu,Qv,Qw,Qx,Qy,Qz,Ra,Rb,Rc,Rd,Re,Rf,Rg,Rh,Ri,Rj,Rk,Rm,Rn,Ro,Rp,Rq,Rs,Ya,Yb,Yc,Rt,Ru,Za,Yd,Ye,Rx,Ry,Rz,Wa,Wb,Wc,Wd]
 generalize newObj s2 ZQ=s3 at *
 have o13:Ac s1.next s1 s3:=o2.trans (o3.mono o2.1)
 have o03:Ac S.next S s3:=o1.trans (o13.mono o1.1)
 have h3:=h.old o03
 have HN:B9 3 s3 (.slice (some (S.next,0)) 1 (some 1)) 1 1 [iv n] []:=B9.row (by omega) ((o13.2 _ (by omega)).trans g1) rfl
 obtain⟨v4,s4,O4,happ4,hd4,hn4,hf4,hO4⟩:=J7 (cap:=cv) HN h3.hv (by omega) (by omega)
 have o34:Ac s3.next s3 s4:=⟨hn4,fun j hj=>hf4 j hj (by simp)⟩
 have h4:=h3.old o34
 have lQ4:=AE (P:=Tryz.prog) (t:=26) A9 Ar h4.gQ rfl
 have lA4:=AE (P:=Tryz.prog) (t:=30) DD Cs h4.gA rfl
 simp only[happ4,Qa,Qb,Qc,Qd,Qe,Qf,Qg,Qh,Qi,Qj,Qk,Ql,Qm,Qn,true_and,and_true,Qo,Qp,Qq,Qr,Qs,Qt,Qu,Qv,Qw,Qx,Qy,Qz,Ra,Rb,Rc,Rd,Re,Rf,Rg,Rh,Ri,Rj,Rk,Rm,Rn,Ro,Rp,Rq,Rs,Ya,Yb,Yc,Rt,Ru,Za,Yd,Ye,Rx,Ry,Rz,Wa,Wb,Wc,Wd]
 refine⟨⟨Aa (by simp only[Qa,Qb,Qc,Qd,Qe,Qf,Qg,Qh,Qi,Qj,Qk,Ql,Qm,Qn,true_and,and_true,Qo,Qp,Qq,Qr,Qs,Qt,Qu,Qv,Qw,Qx,Qy,Qz,Ra,Rb,Rc,Rd,Re,Rf,Rg,Rh,Ri,Rj,Rk,Rm,Rn,Ro,Rp,Rq,Rs,Ya,Yb,Yc,Rt,Ru,Za,Yd,Ye,Rx,Ry,Rz,Wa,Wb,Wc,Wd];exact lQ4) (BK ..),Aa (by simp only[Qa,Qb,Qc,Qd,Qe,Qf,Qg,Qh,Qi,Qj,Qk,Ql,Qm,Qn,true_and,and_true,Qo,Qp,Qq,Qr,Qs,Qt,Qu,Qv,Qw,Qx,Qy,Qz,Ra,Rb,Rc,Rd,Re,Rf,Rg,Rh,Ri,Rj,Rk,Rm,Rn,Ro,Rp,Rq,Rs,Ya,Yb,Yc,Rt,Ru,Za,Yd,Ye,Rx,Ry,Rz,Wa,Wb,Wc,Wd];exact lA4) (Ei ..)⟩,?_⟩
 have Jn:B9 26 s4 (.slice (some (s1.next,0)) 1 (some 1)) 1 3 [.bool xq,.slice aq nq kq,.slice bq mq dq] []:=B9.row (by omega) ((o34.2 _ (by omega)).trans ((o3.2 _ (by omega)).trans g2)) rfl
 obtain⟨v5,s5,O5,happ5,hd5,hn5,hf5,hO5⟩:=UP (cap:=cc) Jn h4.hr (by omega) (by omega)
 have o45:Ac s4.next s4 s5:=⟨hn5,fun j hj=>hf5 j hj (by simp)⟩
 have h5:=h4.old o45
 have lA5:=AE (P:=Tryz.prog) (t:=30) DD Cs h5.gA rfl
 simp only[happ5,Qa,Qb,Qc,Qd,Qe,Qf,Qg,Qh,Qi,Qj,Qk,Ql,Qm,Qn,true_and,and_true,Qo,Qp,Qq,Qr,Qs,Qt,Qu,Qv,Qw,Qx,Qy,Qz,Ra,Rb,Rc,Rd,Re,Rf,Rg,Rh,Ri,Rj,Rk,Rm,Rn,Ro,Rp,Rq,Rs,Ya,Yb,Yc,Rt,Ru,Za,Yd,Ye,Rx,Ry,Rz,Wa,Wb,Wc,Wd]
 refine⟨Aa (by simp only[Qa,Qb,Qc,Qd,Qe,Qf,Qg,Qh,Qi,Qj,Qk,Ql,Qm,Qn,true_and,and_true,Qo,Qp,Qq,Qr,Qs,Qt,Qu,Qv,Qw,Qx,Qy,Qz,Ra,Rb,Rc,Rd,Re,Rf,Rg,Rh,Ri,Rj,Rk,Rm,Rn,Ro,Rp,Rq,Rs,Ya,Yb,Yc,Rt,Ru,Za,Yd,Ye,Rx,Ry,Rz,Wa,Wb,Wc,Wd];exact lA5) (Ei ..),?_⟩
 obtain⟨a4,cap4,rfl,hc4⟩:=hd4.cells
 obtain⟨a5,cap5,rfl,hc5⟩:=hd5.cells
 have e4:1+vars.length=(n::vars).length:=by rw[oV];omega
 have e5:1+wals.length=((C2+Bu (DF vars wals) vs2 cs2)::wals).length:=by rw[oV];omega
 rw[e4,e5]
 have hrc:=(h5.hr.le (by decide:3≤500)).cons h5.hQ hc5
 have hcc:AZ s5.next s5 a4 ((n::vars).map iv):=(hc4.old o45 (nl _)).mono o45.1
 refine Ps hE (h5.hA.le (by decide)) (by have:=h.mA;omega) hcc hrc (by rw[oV];omega) fun s6 z o6 hz hqz=>?_
 obtain⟨xz,az,nz,kz,bz,mz,dz,rfl⟩:=hz.shape
 have hs4:=o34.1
 have hs5:=o45.1
 have hs6:=o6.1
 have g6:s6.heap.get s2.next=some ZQ:=(o6.2 _ (by omega)).trans ((o45.2 _ (by omega)).trans ((o34.2 _ (by omega)).trans g3))
 obtain⟨st7,_⟩:=BS (cs0:=[.bool false,.slice none 0 (some 0),.slice none 0 (some 0)]) rfl (x:=xz) (a:=az) (n:=nz) (c:=kz) (b:=bz) (m:=mz) (d:=dz) g6
 simp only[st7,Xx,Xz,Qa,Qb,Qc,Qd,Qe,Qf,Qg,Qh,Qi,Qj,Qk,Ql,Qm,Qn,true_and,and_true,Qo,Qp,Qq,Qr,Qs,Qt,Qu,Qv,Qw,Qx,Qy,Qz,Ra,Rb,Rc,Rd,Re,Rf,Rg,Rh,Ri,Rj,Rk,Rm,Rn,Ro,Rp,Rq,Rs,Ya,Yb,Yc,Rt,Ru,Za,Yd,Ye,Rx,Ry,Rz,Wa,Wb,Wc,Wd]
 have o04:Ac S.next S s4:=o03.trans (o34.mono o03.1)
 have o05:Ac S.next S s5:=o04.trans (o45.mono o04.1)
 have o06:Ac S.next S s6:=o05.trans (o6.mono o05.1)
 refine hK _ s2.next _ _ _ _ _ _ _ (o06.set (by omega) _) (by show s2.next<s6.next;omega) (Wv ..) ?_
 exact(hz.set (by omega) _).qi hqz
end
theorem X6(i o:Nat):AM Tryz.prog 31 (.ptr (some (i,o))) (.int .i64 0)=some (.ptr (some (i,o+0))):=by kernel_rfl
theorem X7(i o:Nat):AM Tryz.prog 31 (.ptr (some (i,o))) (.int .i64 1)=some (.ptr (some (i,o+5))):=by kernel_rfl
section
variable{E:CP}{s:AD}
theorem lW(hE:C5 E){S:AD}{pA pB pP pQ:Nat}{ca cb cp cq:List AV}{C1:Rat}{vs1:List Int}{cs1:List Rat}{C2:Rat}{vs2:List Int}{cs2:List Rat}{vars:List Int}{wals:List Rat}{av ac:Option (Nat×Nat)}{cv cc:Option Nat}{cells:List AV}
  (h:Pl S pA pB pP pQ ca cb cp cq C1 vs1 cs1 C2 vs2 cs2 vars wals av ac cv cc cells) {all:List Int} {aa:Option (Nat×Nat)} {capa:Option Nat} (hall:AZ S.next S aa (all.map iv)) {i:Nat} {n:Int} (hi:all[i]? = some n) (hn:i64 n)
  {pX pY:Nat} {x1 x2:Bool} {a1 b1 a2 b2:Option (Nat×Nat)} {n1 m1 n2 m2:Nat} {k1 d1 k2 d2:Option Nat} {V:Rat}
  (gX:S.heap.get pX=some (BQ x1 (.slice a1 n1 k1) (.slice b1 m1 d1))) (hX:QI S (.agg [.bool x1,.slice a1 n1 k1,.slice b1 m1 d1]) V 160000) (gY:S.heap.get pY=some (BQ x2 (.slice a2 n2 k2) (.slice b2 m2 d2))) (hY:QI S (.agg [.bool x2,.slice a2 n2 k2,.slice b2 m2 d2]) V 160000)
  {y0 y1 y2 y3 y4 y5 y6 y8 y9 y14 y15 y16 y17 y18 y19:AV} {K:List AV→AD→Prop}
  (hK:∀S',Ac S.next S S'→K [y0,y1,y2,y3,y4,y5,y6,.ptr (some (pP,0)),y8,y9,.slice aa all.length capa,iv (i:Int),.ptr (some (pX,0)),.ptr (some (pY,0)),y14,y15,y16,y17,y18,.bool false] S'):
  Qb E W5 K [] [y0,y1,y2,y3,y4,y5,y6,.ptr (some (pP,0)),y8,y9,.slice aa all.length capa,iv (i:Int),.ptr (some (pX,0)),.ptr (some (pY,0)),y14,y15,y16,y17,y18,y19] S:=by
 have hpP:=h.hP
 obtain⟨xp,ap,np,kp,bp,mp,dp,ep⟩:=hpP.shape
 injection ep with ep
 subst ep
 have lX:=AE (P:=Tryz.prog) (t:=26) A9 Ar gX rfl
 have lY:=AE (P:=Tryz.prog) (t:=26) A9 Ar gY rfl
 have hil:i<all.length:=by
  rcases nm i all.length with h' | h'
  ·exact h'
  ·rw[oF h']at hi;cases hi
 obtain⟨i0,o,rfl,hi0,ld⟩:=En hall hi
 have ix:=An (cap:=capa) (i:=i0) (o:=o) (n:=1) Tryz.underlying27 S9 hil
 simp only[W5,lX,lY,Qa,Qb,Qc,Qd,Qe,Qf,Qg,Qh,Qi,Qj,Qk,Ql,Qm,Qn,true_and,and_true,Qo,Qp,Qq,Qr,Qs,Qt,Qu,Qv,Qw,Qx,Qy,Qz,Ra,Rb,Rc,Rd,Re,Rf,Rg,Rh,Ri,Rj,Rk,Rm,Rn,Ro,Rp,Rq,Rs,Ya,Yb,Yc,Rt,Ru,Za,Yd,Ye,Rx,Ry,Rz,Wa,Wb,Wc,Wd]
 refine Hs hE.toGoodN hX hY rfl (by decide) (by decide) (by decide) fun s1 o1=>?_
 have h1:=h.old o1
 have ld1:=Gi j4 o1 hi0 ld
 obtain⟨m2',o2,g2⟩:=Bj s1 (R 3 1 false [iv n])
 simp only[Wc,show decide ((0:Int)≠0)=false from rfl,ix,ld1,IN,Xd,Qa,Qb,Qc,Qd,Qe,Qf,Qg,Qh,Qi,Qj,Qk,Ql,Qm,Qn,true_and,and_true,Qo,Qp,Qq,Qr,Qs,Qt,Qu,Qv,Qw,Qx,Qy,Qz,Ra,Rb,Rc,Rd,Re,Rf,Rg,Rh,Ri,Rj,Rk,Rm,Rn,Ro,Rp,Rq,Rs,Ya,Yb,Yc,Rt,Ru,Za,Yd,Ye,Rx,Ry,Rz,Wa,Wb,Wc,Wd]
 generalize newObj s1 (R 3 1 false [iv n])=s2 at *
 have h2:=h1.old o2
 have lP2:=AE (P:=Tryz.prog) (t:=26) A9 Ar h2.gP rfl
 obtain⟨m3',o3,g3⟩:=Bj s2 (R 26 3 false [.bool xp,.slice ap np kp,.slice bp mp dp])
 simp only[lP2,FN,Xd,Qa,Qb,Qc,Qd,Qe,Qf,Qg,Qh,Qi,Qj,Qk,Ql,Qm,Qn,true_and,and_true,Qo,Qp,Qq,Qr,Qs,Qt,Qu,Qv,Qw,Qx,Qy,Qz,Ra,Rb,Rc,Rd,Re,Rf,Rg,Rh,Ri,Rj,Rk,Rm,Rn,Ro,Rp,Rq,Rs,Ya,Yb,Yc,Rt,Ru,Za,Yd,Ye,Rx,Ry,Rz,Wa,Wb,Wc,Wd]
 generalize newObj s2 (R 26 3 false [.bool xp,.slice ap np kp,.slice bp mp dp])=s3 at *
 have h3:=h2.old o3
 have lP3:=AE (P:=Tryz.prog) (t:=26) A9 Ar h3.gP rfl
 simp only[lP3,Qa,Qb,Qc,Qd,Qe,Qf,Qg,Qh,Qi,Qj,Qk,Ql,Qm,Qn,true_and,and_true,Qo,Qp,Qq,Qr,Qs,Qt,Qu,Qv,Qw,Qx,Qy,Qz,Ra,Rb,Rc,Rd,Re,Rf,Rg,Rh,Ri,Rj,Rk,Rm,Rn,Ro,Rp,Rq,Rs,Ya,Yb,Yc,Rt,Ru,Za,Yd,Ye,Rx,Ry,Rz,Wa,Wb,Wc,Wd]
 have o12:=o1.trans (o2.mono o1.1)
 have o13:=o12.trans (o3.mono o12.1)
 refine jq hE.toGoodN hn fun s4 w o4 hw=>?_
 have h4:=h3.old o4
 have lP4:=AE (P:=Tryz.prog) (t:=26) A9 Ar h4.gP rfl
 have o14:=o13.trans (o4.mono o13.1)
 have ld4:=Gi j4 o14 hi0 ld
 refine⟨⟨Aa (by simp only[Qa,Qb,Qc,Qd,Qe,Qf,Qg,Qh,Qi,Qj,Qk,Ql,Qm,Qn,true_and,and_true,Qo,Qp,Qq,Qr,Qs,Qt,Qu,Qv,Qw,Qx,Qy,Qz,Ra,Rb,Rc,Rd,Re,Rf,Rg,Rh,Ri,Rj,Rk,Rm,Rn,Ro,Rp,Rq,Rs,Ya,Yb,Yc,Rt,Ru,Za,Yd,Ye,Rx,Ry,Rz,Wa,Wb,Wc,Wd];exact lP4) (BK ..),Aa (by simp only[Qa,Qb,Qc,Qd,Qe,Qf,Qg,Qh,Qi,Qj,Qk,Ql,Qm,Qn,true_and,and_true,Qo,Qp,Qq,Qr,Qs,Qt,Qu,Qv,Qw,Qx,Qy,Qz,Ra,Rb,Rc,Rd,Re,Rf,Rg,Rh,Ri,Rj,Rk,Rm,Rn,Ro,Rp,Rq,Rs,Ya,Yb,Yc,Rt,Ru,Za,Yd,Ye,Rx,Ry,Rz,Wa,Wb,Wc,Wd];exact lP4) (BK ..),Aa (by simp only[Qa,Qb,Qc,Qd,Qe,Qf,Qg,Qh,Qi,Qj,Qk,Ql,Qm,Qn,true_and,and_true,Qo,Qp,Qq,Qr,Qs,Qt,Qu,Qv,Qw,Qx,Qy,Qz,Ra,Rb,Rc,Rd,Re,Rf,Rg,Rh,Ri,Rj,Rk,Rm,Rn,Ro,Rp,Rq,Rs,Ya,Yb,Yc,Rt,Ru,Za,Yd,Ye,Rx,Ry,Rz,Wa,Wb,Wc,Wd];exact ld4) (KS _),trivial⟩,?_⟩
 have hs1:=o1.1
 have hs2:=o2.1
 have hs3:=o3.1
 have hs4:=o4.1
 have hcv:AZ s4.next s4 (some (s1.next,0)) ([n].map iv):=by
  have g:=(o4.2 s1.next (by omega)).trans ((o3.2 s1.next (by omega)).trans g2)
  exact Ew g (by omega)
 have hrr:B2 s4 (some (s2.next,0)) [C1+Bu (DF vars wals) vs1 cs1] 500 ([.bool xp,.slice ap np kp,.slice bp mp dp]++[]):=by
  have g:=(o4.2 s2.next (by omega)).trans g3
  refine B2.cons (a:=none) ⟨rfl,AZ.nil,fun i q hi=>?_⟩ h4.hP (Ew g (by omega))
  simp at hi
 simp only[Qa,Qb,Qc,Qd,Qe,Qf,Qg,Qh,Qi,Qj,Qk,Ql,Qm,Qn,true_and,and_true,Qo,Qp,Qq,Qr,Qs,Qt,Qu,Qv,Qw,Qx,Qy,Qz,Ra,Rb,Rc,Rd,Re,Rf,Rg,Rh,Ri,Rj,Rk,Rm,Rn,Ro,Rp,Rq,Rs,Ya,Yb,Yc,Rt,Ru,Za,Yd,Ye,Rx,Ry,Rz,Wa,Wb,Wc,Wd]
 refine Ms (vars:=[n]) (wals:=[C1+Bu (DF vars wals) vs1 cs1]) hE (hw.le (by decide)) (by show min 1 1≤16;decide) hcv hrr (by show 1≤1000000000;decide) fun s5 z o5 hz=>?_
 have h5:=h4.old o5
 have lP5:=AE (P:=Tryz.prog) (t:=26) A9 Ar h5.gP rfl
 refine⟨⟨Aa (by simp only[Qa,Qb,Qc,Qd,Qe,Qf,Qg,Qh,Qi,Qj,Qk,Ql,Qm,Qn,true_and,and_true,Qo,Qp,Qq,Qr,Qs,Qt,Qu,Qv,Qw,Qx,Qy,Qz,Ra,Rb,Rc,Rd,Re,Rf,Rg,Rh,Ri,Rj,Rk,Rm,Rn,Ro,Rp,Rq,Rs,Ya,Yb,Yc,Rt,Ru,Za,Yd,Ye,Rx,Ry,Rz,Wa,Wb,Wc,Wd];exact lP5) (BK ..),trivial⟩,?_⟩
 simp only[Qa,Qb,Qc,Qd,Qe,Qf,Qg,Qh,Qi,Qj,Qk,Ql,Qm,Qn,true_and,and_true,Qo,Qp,Qq,Qr,Qs,Qt,Qu,Qv,Qw,Qx,Qy,Qz,Ra,Rb,Rc,Rd,Re,Rf,Rg,Rh,Ri,Rj,Rk,Rm,Rn,Ro,Rp,Rq,Rs,Ya,Yb,Yc,Rt,Ru,Za,Yd,Ye,Rx,Ry,Rz,Wa,Wb,Wc,Wd]
 refine Hs hE.toGoodN hz h5.hP (iG n _) (by decide) (by decide) (by decide) fun s6 o6=>?_
 simp only[Wc,show decide ((0:Int)≠0)=false from rfl,Rt,Qa,Qb,Qc,Qd,Qe,Qf,Qg,Qh,Qi,Qj,Qk,Ql,Qm,Qn,true_and,and_true,Qo,Qp,Qq,Qr,Qs,Qt,Qu,Qv,Qw,Qx,Qy,Qz,Ra,Rb,Rc,Rd,Re,Rf,Rg,Rh,Ri,Rj,Rk,Rm,Rn,Ro,Rp,Rq,Rs,Ya,Yb,Yc,Rt,Ru,Za,Yd,Ye,Rx,Ry,Rz,Wa,Wb,Wc,Wd]
 have o15:=o14.trans (o5.mono o14.1)
 exact hK s6 (o15.trans (o6.mono o15.1))
theorem RM(hE:C5 E){s0:AD}{pA pB pP pQ:Nat}{ca cb cp cq:List AV}{C1:Rat}{vs1:List Int}{cs1:List Rat}{C2:Rat}{vs2:List Int}{cs2:List Rat}{vars:List Int}{wals:List Rat}{av ac:Option (Nat×Nat)}{cv cc:Option Nat}{cells:List AV}
  (h:Pl s0 pA pB pP pQ ca cb cp cq C1 vs1 cs1 C2 vs2 cs2 vars wals av ac cv cc cells) {y0 y3 y4 y10 y11 y12 y13 y14 y15 y18 y19:AV} {Q:A5→Prop}
  (hq:∀S' y9 y16 y17,Ac s0.next s0 S'→Q ⟨.exit 0,[y0,.slice av vars.length cv,.slice ac wals.length cc,y3,y4,.ptr (some (pA,0)),.ptr (some (pB,0)),.ptr (some (pP,0)),.ptr (some (pQ,0)),y9,y10,y11,y12,y13,y14,y15,y16,y17,y18,y19],[],S'⟩):
  ∀ (r i:Nat) (S:AD) (y16 y17:AV),wals.length - i=r→i≤wals.length→Ac s0.next s0 S→WC E none (.loop OG) Q [y0,.slice av vars.length cv,.slice ac wals.length cc,y3,y4,.ptr (some (pA,0)),.ptr (some (pB,0)),.ptr (some (pP,0)),.ptr (some (pQ,0)),iv (i:Int),y10,y11,y12,y13,y14,y15,y16,y17,y18,y19] [] S:=by
 intro r
 induction r with
 | zero =>
  intro i S y16 y17 hi hl o
  have dd:decide ((i:Int)<(wals.length:Int))=false:=decide_eq_false (by omega)
  refine WC.loop' ?_
  simp only[OG,iP,AU Tryz.underlying28,Rx,dd,Qa,Qb,Qc,Qd,Qe,Qf,Qg,Qh,Qi,Qj,Qk,Ql,Qm,Qn,true_and,and_true,Qo,Qp,Qq,Qr,Qs,Qt,Qu,Qv,Qw,Qx,Qy,Qz,Ra,Rb,Rc,Rd,Re,Rf,Rg,Rh,Ri,Rj,Rk,Rm,Rn,Ro,Rp,Rq,Rs,Ya,Yb,Yc,Rt,Ru,Za,Yd,Ye,Rx,Ry,Rz,Wa,Wb,Wc,Wd]
  exact hq S _ _ _ o
 | succ r ih =>
  intro i S y16 y17 hi hl o
  have hwl:=h.wl
  have dd:decide ((i:Int)<(wals.length:Int))=true:=decide_eq_true (by omega)
  have e17:=Bh Tryz.prog 3 (i:Int) 1 ⟨by omega,by omega⟩
  have e17':((i:Int)+1)=((i+1:Nat):Int):=by omega
  refine WC.loop' ?_
  generalize hW:WC E none (Af.loop OG) Q=WW
  simp only[OG,iP,AU Tryz.underlying28,Rx,dd,Qa,Qb,Qc,Qd,Qe,Qf,Qg,Qh,Qi,Qj,Qk,Ql,Qm,Qn,true_and,and_true,Qo,Qp,Qq,Qr,Qs,Qt,Qu,Qv,Qw,Qx,Qy,Qz,Ra,Rb,Rc,Rd,Re,Rf,Rg,Rh,Ri,Rj,Rk,Rm,Rn,Ro,Rp,Rq,Rs,Ya,Yb,Yc,Rt,Ru,Za,Yd,Ye,Rx,Ry,Rz,Wa,Wb,Wc,Wd]
  refine lR hE (h.old o) (by omega) fun S' o1=>?_
  simp only[fA,e17,e17',Qa,Qb,Qc,Qd,Qe,Qf,Qg,Qh,Qi,Qj,Qk,Ql,Qm,Qn,true_and,and_true,Qo,Qp,Qq,Qr,Qs,Qt,Qu,Qv,Qw,Qx,Qy,Qz,Ra,Rb,Rc,Rd,Re,Rf,Rg,Rh,Ri,Rj,Rk,Rm,Rn,Ro,Rp,Rq,Rs,Ya,Yb,Yc,Rt,Ru,Za,Yd,Ye,Rx,Ry,Rz,Wa,Wb,Wc,Wd]
  rw[← hW]
  exact ih (i+1) S' _ _ (by omega) (by omega) (o.trans (o1.mono o.1))
theorem YZ(hE:C5 E){s0:AD}{pA pB pP pQ:Nat}{ca cb cp cq:List AV}{C1:Rat}{vs1:List Int}{cs1:List Rat}{C2:Rat}{vs2:List Int}{cs2:List Rat}{vars:List Int}{wals:List Rat}{av ac:Option (Nat×Nat)}{cv cc:Option Nat}{cells:List AV}
  (h:Pl s0 pA pB pP pQ ca cb cp cq C1 vs1 cs1 C2 vs2 cs2 vars wals av ac cv cc cells) {all:List Int} {aa:Option (Nat×Nat)} {capa:Option Nat} (hall:AZ s0.next s0 aa (all.map iv)) (hi64:∀n∈all,i64 n) (hal:all.length≤16)
  {y0 y3 y4 y9 y14 y15 y16 y17:AV} {Q:A5→Prop}
  (hq:∀S' y11 y12 y13 y18 y19,Ac s0.next s0 S'→Q ⟨.exit 2,[y0,.slice av vars.length cv,.slice ac wals.length cc,y3,y4,.ptr (some (pA,0)),.ptr (some (pB,0)),.ptr (some (pP,0)),.ptr (some (pQ,0)),y9,.slice aa all.length capa,y11,y12,y13,y14,y15,y16,y17,y18,y19],[],S'⟩):
  ∀ (r i:Nat) (S:AD) (y12 y13 y18 y19:AV),all.length - i=r→i≤all.length→Ac s0.next s0 S→WC E none (.loop OH) Q [y0,.slice av vars.length cv,.slice ac wals.length cc,y3,y4,.ptr (some (pA,0)),.ptr (some (pB,0)),.ptr (some (pP,0)),.ptr (some (pQ,0)),y9,.slice aa all.length capa,iv (i:Int),y12,y13,y14,y15,y16,y17,y18,y19] [] S:=by
 intro r
 induction r with
 | zero =>
  intro i S y12 y13 y18 y19 hi hl o
  have dd:decide ((i:Int)<(all.length:Int))=false:=decide_eq_false (by omega)
  refine WC.loop' ?_
  simp only[OH,W2,AU Tryz.underlying27,Rx,dd,Qa,Qb,Qc,Qd,Qe,Qf,Qg,Qh,Qi,Qj,Qk,Ql,Qm,Qn,true_and,and_true,Qo,Qp,Qq,Qr,Qs,Qt,Qu,Qv,Qw,Qx,Qy,Qz,Ra,Rb,Rc,Rd,Re,Rf,Rg,Rh,Ri,Rj,Rk,Rm,Rn,Ro,Rp,Rq,Rs,Ya,Yb,Yc,Rt,Ru,Za,Yd,Ye,Rx,Ry,Rz,Wa,Wb,Wc,Wd]
  exact hq S _ _ _ _ _ o
 | succ r ih =>
  intro i S y12 y13 y18 y19 hi hl o
  have dd:decide ((i:Int)<(all.length:Int))=true:=decide_eq_true (by omega)
  have e17:=Bh Tryz.prog 3 (i:Int) 1 ⟨by omega,by omega⟩
  have e17':((i:Int)+1)=((i+1:Nat):Int):=by omega
  have hlt:i<all.length:=by omega
  have hget:all[i]? = some all[i]:=nr hlt
  have hn:=hi64 all[i] (List.getElem_mem hlt)
  have ho:=h.old o
  have hc:=(hall.old o (nl _)).mono o.1
  refine WC.loop' ?_
  generalize hW:WC E none (Af.loop OH) Q=WW
  simp only[OH,W2,AU Tryz.underlying27,Rx,dd,Qa,Qb,Qc,Qd,Qe,Qf,Qg,Qh,Qi,Qj,Qk,Ql,Qm,Qn,true_and,and_true,Qo,Qp,Qq,Qr,Qs,Qt,Qu,Qv,Qw,Qx,Qy,Qz,Ra,Rb,Rc,Rd,Re,Rf,Rg,Rh,Ri,Rj,Rk,Rm,Rn,Ro,Rp,Rq,Rs,Ya,Yb,Yc,Rt,Ru,Za,Yd,Ye,Rx,Ry,Rz,Wa,Wb,Wc,Wd]
  refine lU hE ho hc hget hn fun S1 pX x1 a1 m1 k1 b1 d1 e1 o1 lX gX hX=>?_
  have h1:=ho.old o1
  have hc1:=(hc.old o1 (nl _)).mono o1.1
  refine lV hE h1 hc1 hget hn fun S2 pY x2 a2 m2 k2 b2 d2 e2 o2 lY gY hY=>?_
  refine lW hE (h1.old o2) ((hc1.old o2 (nl _)).mono o2.1) hget hn ((o2.2 pX lX).trans gX) (hX.old o2) gY hY fun S3 o3=>?_
  simp only[fC,e17,e17',Qa,Qb,Qc,Qd,Qe,Qf,Qg,Qh,Qi,Qj,Qk,Ql,Qm,Qn,true_and,and_true,Qo,Qp,Qq,Qr,Qs,Qt,Qu,Qv,Qw,Qx,Qy,Qz,Ra,Rb,Rc,Rd,Re,Rf,Rg,Rh,Ri,Rj,Rk,Rm,Rn,Ro,Rp,Rq,Rs,Ya,Yb,Yc,Rt,Ru,Za,Yd,Ye,Rx,Ry,Rz,Wa,Wb,Wc,Wd]
  rw[← hW]
  have o02:=o1.trans (o2.mono o1.1)
  have o03:=o02.trans (o3.mono o02.1)
  exact ih (i+1) S3 _ _ _ _ (by omega) (by omega) (o.trans (o03.mono o.1))
end
theorem LA.shape{s:AD}{v:AV}(h:LA s v):∃x a n c b m d av nv capv ac nc capc,v=.agg [.bool x,.slice a n c,.slice b m d,.slice av nv capv,.slice ac nc capc]:=by
 obtain⟨x,a,n,c,b,m,d,av,vs,capv,ac,nc,capc,cells,h1,h2⟩:=h
 exact⟨_,_,_,_,_,_,_,_,_,_,_,_,_,h1⟩
section
variable{E:CP}{s:AD}
theorem Ts(hE:C5 E){ca cb:List AV}(hA:LA s (.agg ca))(hB:LA s (.agg cb)){av:Option (Nat×Nat)}{cv:Option Nat}{vars0:List Int}(hv:AZ s.next s av (vars0.map iv))(hvi:∀n∈vars0,i64 n)(hvz:Fz 1 s av cv vars0.length){ac:Option (Nat×Nat)}{nc:Nat}{cc:Option Nat}{cells:List AV}(hr:Ft s ac nc cells)
  {K:AV→AD→Prop} (hK:∀s',Ac s.next s s'→K (.bool true) s'):WF E 6 [.agg (ca++cb),.slice av vars0.length cv,.slice ac nc cc] K s:=by
 obtain⟨xa,aa,na,ka,ba,ma,da,va,nva,kva,wa,nwa,kwa,ea⟩:=hA.shape
 injection ea with ea
 obtain⟨xb,ab,nb,kb,bb,mb,db,vb,nvb,kvb,wb,nwb,kwb,eb⟩:=hB.shape
 injection eb with eb
 subst ea;subst eb
 refine hE.go lG (by decide) rfl ?_
 obtain⟨n1,o1,g1⟩:=Bj s (R 31 0 false ([.bool xa,.slice aa na ka,.slice ba ma da,.slice va nva kva,.slice wa nwa kwa]++[.bool xb,.slice ab nb kb,.slice bb mb db,.slice vb nvb kvb,.slice wb nwb kwb]))
 simp only[c6,kR,kS,Wz,Xg,Xb,Qa,Qb,Qc,Qd,Qe,Qf,Qg,Qh,Qi,Qj,Qk,Ql,Qm,Qn,true_and,and_true,Qo,Qp,Qq,Qr,Qs,Qt,Qu,Qv,Qw,Qx,Qy,Qz,Ra,Rb,Rc,Rd,Re,Rf,Rg,Rh,Ri,Rj,Rk,Rm,Rn,Ro,Rp,Rq,Rs,Ya,Yb,Yc,Rt,Ru,Za,Yd,Ye,Rx,Ry,Rz,Wa,Wb,Wc,Wd]
 generalize newObj s _=s1 at *
 refine WF.nat (hE.wk s1) ?_
 have l1:AC Tryz.prog s1 30 (.ptr (some (s.next,0+0)))=some (.agg [.bool xa,.slice aa na ka,.slice ba ma da,.slice va nva kva,.slice wa nwa kwa]):=Au (o:=0) (n:=5) DD Cs g1 (by simp)
 have l2:AC Tryz.prog s1 30 (.ptr (some (s.next,0+5)))=some (.agg [.bool xb,.slice ab nb kb,.slice bb mb db,.slice vb nvb kvb,.slice wb nwb kwb]):=Au (o:=5) (n:=5) DD Cs g1 (by simp)
 obtain⟨n3,o3,g3,g4⟩:=Eu s1 ZL ZL
 simp only[kV,X6,X7,l1,l2,E4,Xb,Aq,Qa,Qb,Qc,Qd,Qe,Qf,Qg,Qh,Qi,Qj,Qk,Ql,Qm,Qn,true_and,and_true,Qo,Qp,Qq,Qr,Qs,Qt,Qu,Qv,Qw,Qx,Qy,Qz,Ra,Rb,Rc,Rd,Re,Rf,Rg,Rh,Ri,Rj,Rk,Rm,Rn,Ro,Rp,Rq,Rs,Ya,Yb,Yc,Rt,Ru,Za,Yd,Ye,Rx,Ry,Rz,Wa,Wb,Wc,Wd]
 generalize newObj (newObj s1 ZL) ZL=s3 at *
 have o13:Ac s.next s s3:=o1.trans (o3.mono o1.1)
 refine Xr hE.toGoodN o13 hA fun s4 w4 C1 vs1 cs1 o4 hw4 nA mA=>?_
 have o14:Ac s.next s s4:=o13.trans (o4.mono o13.1)
 have l2':AC Tryz.prog s4 30 (.ptr (some (s.next,0+5)))=some (.agg [.bool xb,.slice ab nb kb,.slice bb mb db,.slice vb nvb kvb,.slice wb nwb kwb]):=Au (o:=5) (n:=5) DD Cs ((o4.2 s.next (by omega)).trans ((o3.2 s.next (by omega)).trans g1)) (by simp)
 refine⟨⟨Aa (by simp only[Qa,Qb,Qc,Qd,Qe,Qf,Qg,Qh,Qi,Qj,Qk,Ql,Qm,Qn,true_and,and_true,Qo,Qp,Qq,Qr,Qs,Qt,Qu,Qv,Qw,Qx,Qy,Qz,Ra,Rb,Rc,Rd,Re,Rf,Rg,Rh,Ri,Rj,Rk,Rm,Rn,Ro,Rp,Rq,Rs,Ya,Yb,Yc,Rt,Ru,Za,Yd,Ye,Rx,Ry,Rz,Wa,Wb,Wc,Wd];exact l2') (Ei ..),trivial⟩,?_⟩
 simp only[Qa,Qb,Qc,Qd,Qe,Qf,Qg,Qh,Qi,Qj,Qk,Ql,Qm,Qn,true_and,and_true,Qo,Qp,Qq,Qr,Qs,Qt,Qu,Qv,Qw,Qx,Qy,Qz,Ra,Rb,Rc,Rd,Re,Rf,Rg,Rh,Ri,Rj,Rk,Rm,Rn,Ro,Rp,Rq,Rs,Ya,Yb,Yc,Rt,Ru,Za,Yd,Ye,Rx,Ry,Rz,Wa,Wb,Wc,Wd]
 refine Xr hE.toGoodN o14 hB fun s5 w5 C2 vs2 cs2 o5 hw5 nB mB=>?_
 have hw4':=hw4 s4 (nl _) fun _ _ _=>rfl
 have hw5':=hw5 s5 (nl _) fun _ _ _=>rfl
 obtain⟨x4,a4,m4,c4,b4,l4,d4,av4,nv4,cv4,ac4,nc4,cc4,rfl⟩:=hw4'.shape
 obtain⟨x5,a5,m5,c5,b5,l5,d5,av5,nv5,cv5,ac5,nc5,cc5,rfl⟩:=hw5'.shape
 have hs4:=o4.1
 have hs5:=o5.1
 have o35:Ac s3.next s3 s5:=o4.trans (o5.mono o4.1)
 obtain⟨st6,_⟩:=C7 (cs0:=[.bool false,.slice none 0 (some 0),.slice none 0 (some 0),.slice none 0 (some 0),.slice none 0 (some 0)]) rfl (x:=x4) (a:=a4) (n:=m4) (c:=c4) (b:=b4) (m:=l4) (d:=d4) (av:=av4) (nv:=nv4) (cv:=cv4) (ac:=ac4) (nc:=nc4) (cc:=cc4) ((o35.2 s1.next (by omega)).trans g3)
 generalize hs6:setObj s5 s1.next (BL x4 (.slice a4 m4 c4) (.slice b4 l4 d4) (.slice av4 nv4 cv4) (.slice ac4 nc4 cc4))=s6 at st6
 have g6:s6.heap.get s1.next=some (BL x4 (.slice a4 m4 c4) (.slice b4 l4 d4) (.slice av4 nv4 cv4) (.slice ac4 nc4 cc4)):=by rw[← hs6,Wv]
 have f6:∀j,j≠s1.next→s6.heap.get j=s5.heap.get j:=fun j hj=>by rw[← hs6,Ww _ hj]
 have n6:s6.next=s5.next:=by rw[← hs6];rfl
 obtain⟨st7,_⟩:=C7 (cs0:=[.bool false,.slice none 0 (some 0),.slice none 0 (some 0),.slice none 0 (some 0),.slice none 0 (some 0)]) rfl (x:=x5) (a:=a5) (n:=m5) (c:=c5) (b:=b5) (m:=l5) (d:=d5) (av:=av5) (nv:=nv5) (cv:=cv5) (ac:=ac5) (nc:=nc5) (cc:=cc5) ((f6 (s1.next+1) (by omega)).trans ((o35.2 (s1.next+1) (by omega)).trans g4))
 generalize hs7:setObj s6 (s1.next+1) (BL x5 (.slice a5 m5 c5) (.slice b5 l5 d5) (.slice av5 nv5 cv5) (.slice ac5 nc5 cc5))=s7 at st7
 have g7B:s7.heap.get (s1.next+1)=some (BL x5 (.slice a5 m5 c5) (.slice b5 l5 d5) (.slice av5 nv5 cv5) (.slice ac5 nc5 cc5)):=by rw[← hs7,Wv]
 have f7:∀j,j≠s1.next+1→s7.heap.get j=s6.heap.get j:=fun j hj=>by rw[← hs7,Ww _ hj]
 have g7A:=(f7 s1.next (by omega)).trans g6
 have n7:s7.next=s6.next:=by rw[← hs7];rfl
 have hs3:=o3.1
 have f57:∀j,j≠s1.next→j≠s1.next+1→s7.heap.get j=s5.heap.get j:=fun j h1 h2=>by rw[f7 j h2,f6 j h1]
 have hw4s:=hw4 s7 (by omega) fun j hj h=>by rw[f57 j (by omega) (by omega),o5.2 j hj]
 have hw5s:=hw5 s7 (by omega) fun j hj h=>f57 j (by omega) (by omega)
 simp only[st6,st7,Xx,Xz,Qa,Qb,Qc,Qd,Qe,Qf,Qg,Qh,Qi,Qj,Qk,Ql,Qm,Qn,true_and,and_true,Qo,Qp,Qq,Qr,Qs,Qt,Qu,Qv,Qw,Qx,Qy,Qz,Ra,Rb,Rc,Rd,Re,Rf,Rg,Rh,Ri,Rj,Rk,Rm,Rn,Ro,Rp,Rq,Rs,Ya,Yb,Yc,Rt,Ru,Za,Yd,Ye,Rx,Ry,Rz,Wa,Wb,Wc,Wd]
 have o07:Ac s.next s s7:=⟨by omega,fun j hj=>by rw[f7 j (by omega),f6 j (by omega),o5.2 j (by omega),o14.2 j hj]⟩
 have cut:=OT Tryz.underlying27 S9 (by decide) (hvz.old o07) (show min vars0.length 8≤vars0.length by omega)
 have mm:B3 false (iv (vars0.length:Int)) [.int .i64 8]=some (iv ((min vars0.length 8:Nat):Int)):=Kt vars0.length 8
 simp only[kW,AU Tryz.underlying27,mm,cut,Qa,Qb,Qc,Qd,Qe,Qf,Qg,Qh,Qi,Qj,Qk,Ql,Qm,Qn,true_and,and_true,Qo,Qp,Qq,Qr,Qs,Qt,Qu,Qv,Qw,Qx,Qy,Qz,Ra,Rb,Rc,Rd,Re,Rf,Rg,Rh,Ri,Rj,Rk,Rm,Rn,Ro,Rp,Rq,Rs,Ya,Yb,Yc,Rt,Ru,Za,Yd,Ye,Rx,Ry,Rz,Wa,Wb,Wc,Wd]
 refine au hE.toGoodN o07 hr fun s8 a8 cap8 wals cells8 o8 hr8 hz8 hwl=>?_
 have cut8:=OT Tryz.underlying27 S9 (by decide) (hvz.old (o07.trans (o8.mono o07.1))) (show min vars0.length 8≤vars0.length by omega)
 refine⟨⟨?_,?_,trivial⟩,?_⟩
 ·simp only[Gc,cut8,Ds,Bb,Qa,Qb,Qc,Qd,Qe,Qf,Qg,Qh,Qi,Qj,Qk,Ql,Qm,Qn,true_and,and_true,Qo,Qp,Qq,Qr,Qs,Qt,Qu,Qv,Qw,Qx,Qy,Qz,Ra,Rb,Rc,Rd,Re,Rf,Rg,Rh,Ri,Rj,Rk,Rm,Rn,Ro,Rp,Rq,Rs,Ya,Yb,Yc,Rt,Ru,Za,Yd,Ye,Rx,Ry,Rz,Wa,Wb,Wc,Wd]
 ·simp only[Gc,AU Tryz.underlying27,Ds,KS,Qa,Qb,Qc,Qd,Qe,Qf,Qg,Qh,Qi,Qj,Qk,Ql,Qm,Qn,true_and,and_true,Qo,Qp,Qq,Qr,Qs,Qt,Qu,Qv,Qw,Qx,Qy,Qz,Ra,Rb,Rc,Rd,Re,Rf,Rg,Rh,Ri,Rj,Rk,Rm,Rn,Ro,Rp,Rq,Rs,Ya,Yb,Yc,Rt,Ru,Za,Yd,Ye,Rx,Ry,Rz,Wa,Wb,Wc,Wd]
 have hlen:(vars0.take 8).length=min vars0.length 8:=by rw[oO];omega
 rw[← hlen]
 have o08:Ac s.next s s8:=o07.trans (o8.mono o07.1)
 have hv8:AZ s8.next s8 av ((vars0.take 8).map iv):=by
  rw[List.map_take]
  exact KP ((hv.old o08 (nl _)).mono o08.1) 8
 have hv8i:∀n∈vars0.take 8,i64 n:=fun n hn=>hvi n (List.take_subset _ _ hn)
 have hvl:(vars0.take 8).length≤8:=by omega
 generalize vars0.take 8=vars at hv8 hv8i hvl
 have h8:=o8.1
 have gA8:=(o8.2 s1.next (by omega)).trans g7A
 have gB8:=(o8.2 (s1.next+1) (by omega)).trans g7B
 have lA8:=AE (P:=Tryz.prog) (t:=30) DD Cs gA8 rfl
 have lB8:=AE (P:=Tryz.prog) (t:=30) DD Cs gB8 rfl
 obtain⟨n10,o10,g10,g10'⟩:=Eu s8 ZQ ZQ
 simp only[kX,lA8,lB8,BU,Xb,Aq,Qa,Qb,Qc,Qd,Qe,Qf,Qg,Qh,Qi,Qj,Qk,Ql,Qm,Qn,true_and,and_true,Qo,Qp,Qq,Qr,Qs,Qt,Qu,Qv,Qw,Qx,Qy,Qz,Ra,Rb,Rc,Rd,Re,Rf,Rg,Rh,Ri,Rj,Rk,Rm,Rn,Ro,Rp,Rq,Rs,Ya,Yb,Yc,Rt,Ru,Za,Yd,Ye,Rx,Ry,Rz,Wa,Wb,Wc,Wd]
 generalize newObj (newObj s8 ZQ) ZQ=s10 at *
 have o710:Ac s7.next s7 s10:=o8.trans (o10.mono h8)
 have hrA:=hw4s.old o710
 have hv10:=(hv8.old o10 (nl _)).mono o10.1
 refine US hE hrA (by omega) hv10 (hr8.old o10) (by omega) fun s11 p o11 hp hpq=>?_
 have h11:=o11.1
 have lB11:=AE (P:=Tryz.prog) (t:=30) DD Cs ((o11.2 (s1.next+1) (by omega)).trans ((o10.2 (s1.next+1) (by omega)).trans gB8)) rfl
 refine⟨⟨Aa (by simp only[Qa,Qb,Qc,Qd,Qe,Qf,Qg,Qh,Qi,Qj,Qk,Ql,Qm,Qn,true_and,and_true,Qo,Qp,Qq,Qr,Qs,Qt,Qu,Qv,Qw,Qx,Qy,Qz,Ra,Rb,Rc,Rd,Re,Rf,Rg,Rh,Ri,Rj,Rk,Rm,Rn,Ro,Rp,Rq,Rs,Ya,Yb,Yc,Rt,Ru,Za,Yd,Ye,Rx,Ry,Rz,Wa,Wb,Wc,Wd];exact lB11) (Ei ..),trivial⟩,?_⟩
 have o711:Ac s7.next s7 s11:=o710.trans (o11.mono o710.1)
 have hrB:=hw5s.old o711
 simp only[Qa,Qb,Qc,Qd,Qe,Qf,Qg,Qh,Qi,Qj,Qk,Ql,Qm,Qn,true_and,and_true,Qo,Qp,Qq,Qr,Qs,Qt,Qu,Qv,Qw,Qx,Qy,Qz,Ra,Rb,Rc,Rd,Re,Rf,Rg,Rh,Ri,Rj,Rk,Rm,Rn,Ro,Rp,Rq,Rs,Ya,Yb,Yc,Rt,Ru,Za,Yd,Ye,Rx,Ry,Rz,Wa,Wb,Wc,Wd]
 refine US hE hrB (by omega) ((hv10.old o11 (nl _)).mono h11) ((hr8.old o10).old o11) (by omega) fun s12 q o12 hq hqq=>?_
 have h12:=o12.1
 obtain⟨xp,ap,np,kp,bp,mp,dp,rfl⟩:=hp.shape
 obtain⟨xq,aq,nq,kq,bq,mq,dq,rfl⟩:=hq.shape
 have gP:=(o12.2 s8.next (by omega)).trans ((o11.2 s8.next (by omega)).trans g10)
 have gQ:=(o12.2 (s8.next+1) (by omega)).trans ((o11.2 (s8.next+1) (by omega)).trans g10')
 obtain⟨st13,_⟩:=BS (cs0:=[.bool false,.slice none 0 (some 0),.slice none 0 (some 0)]) rfl (x:=xp) (a:=ap) (n:=np) (c:=kp) (b:=bp) (m:=mp) (d:=dp) gP
 generalize hs13:setObj s12 s8.next (BQ xp (.slice ap np kp) (.slice bp mp dp))=s13 at st13
 have f13:∀j,j≠s8.next→s13.heap.get j=s12.heap.get j:=fun j hj=>by rw[← hs13,Ww _ hj]
 have n13:s13.next=s12.next:=by rw[← hs13];rfl
 have gP13:s13.heap.get s8.next=some (BQ xp (.slice ap np kp) (.slice bp mp dp)):=by rw[← hs13,Wv]
 obtain⟨st14,_⟩:=BS (cs0:=[.bool false,.slice none 0 (some 0),.slice none 0 (some 0)]) rfl (x:=xq) (a:=aq) (n:=nq) (c:=kq) (b:=bq) (m:=mq) (d:=dq) ((f13 (s8.next+1) (by omega)).trans gQ)
 generalize hs14:setObj s13 (s8.next+1) (BQ xq (.slice aq nq kq) (.slice bq mq dq))=s14 at st14
 have f14:∀j,j≠s8.next+1→s14.heap.get j=s13.heap.get j:=fun j hj=>by rw[← hs14,Ww _ hj]
 have n14:s14.next=s13.next:=by rw[← hs14];rfl
 have gQ14:s14.heap.get (s8.next+1)=some (BQ xq (.slice aq nq kq) (.slice bq mq dq)):=by rw[← hs14,Wv]
 simp only[st13,st14,Xx,Xz,Qa,Qb,Qc,Qd,Qe,Qf,Qg,Qh,Qi,Qj,Qk,Ql,Qm,Qn,true_and,and_true,Qo,Qp,Qq,Qr,Qs,Qt,Qu,Qv,Qw,Qx,Qy,Qz,Ra,Rb,Rc,Rd,Re,Rf,Rg,Rh,Ri,Rj,Rk,Rm,Rn,Ro,Rp,Rq,Rs,Ya,Yb,Yc,Rt,Ru,Za,Yd,Ye,Rx,Ry,Rz,Wa,Wb,Wc,Wd]
 have o814:Ac s8.next s8 s14:=⟨by omega,fun j hj=>by rw[f14 j (by omega),f13 j (by omega),o12.2 j (by omega),o11.2 j (by omega),o10.2 j hj]⟩
 have o714:Ac s7.next s7 s14:=o8.trans (o814.mono h8)
 have hp14:=(((hp.old o12).set (show s8.next<s10.next by omega) (BQ xp (.slice ap np kp) (.slice bp mp dp))).set (show s8.next+1<s10.next by omega) (BQ xq (.slice aq nq kq) (.slice bq mq dq))).qi hpq
 have hq14:=((hq.set (show s8.next<s11.next by omega) (BQ xp (.slice ap np kp) (.slice bp mp dp))).set (show s8.next+1<s11.next by omega) (BQ xq (.slice aq nq kq) (.slice bq mq dq))).qi hqq
 rw[hs13,hs14]at hp14 hq14
 have hPl:Pl s14 s1.next (s1.next+1) s8.next (s8.next+1) _ _ _ _ C1 vs1 cs1 C2 vs2 cs2 vars wals av a8 cv cap8 cells8:=
  ⟨(o814.2 _ (by omega)).trans gA8,(o814.2 _ (by omega)).trans gB8,(f14 _ (by omega)).trans gP13,gQ14,by omega,by omega,by omega,by omega,hw4s.old o714,hw5s.old o714,hp14,hq14,mA,nA,mB,nB,(hv8.old o814 (nl _)).mono o814.1,hv8i,hvl,hr8.old o814,hwl⟩
 refine mN hE hPl fun s15 o15=>?_
 have hPl15:=hPl.old o15
 simp only[kY,Qa,Qb,Qc,Qd,Qe,Qf,Qg,Qh,Qi,Qj,Qk,Ql,Qm,Qn,true_and,and_true,Qo,Qp,Qq,Qr,Qs,Qt,Qu,Qv,Qw,Qx,Qy,Qz,Ra,Rb,Rc,Rd,Re,Rf,Rg,Rh,Ri,Rj,Rk,Rm,Rn,Ro,Rp,Rq,Rs,Ya,Yb,Yc,Rt,Ru,Za,Yd,Ye,Rx,Ry,Rz,Wa,Wb,Wc,Wd]
 refine RM hE hPl15 (fun s16 y9 y16 y17 o16=>?_) wals.length 0 s15 _ _ rfl (oB _) (Ac.refl _ _)
 have hPl16:=hPl15.old o16
 simp only[if_true,Qa,Qb,Qc,Qd,Qe,Qf,Qg,Qh,Qi,Qj,Qk,Ql,Qm,Qn,true_and,and_true,Qo,Qp,Qq,Qr,Qs,Qt,Qu,Qv,Qw,Qx,Qy,Qz,Ra,Rb,Rc,Rd,Re,Rf,Rg,Rh,Ri,Rj,Rk,Rm,Rn,Ro,Rp,Rq,Rs,Ya,Yb,Yc,Rt,Ru,Za,Yd,Ye,Rx,Ry,Rz,Wa,Wb,Wc,Wd]
 refine lT hE hPl16 fun s17 a17 cap17 o17 hall hall64 hall16=>?_
 have hPl17:=hPl16.old o17
 simp only[fB,Qa,Qb,Qc,Qd,Qe,Qf,Qg,Qh,Qi,Qj,Qk,Ql,Qm,Qn,true_and,and_true,Qo,Qp,Qq,Qr,Qs,Qt,Qu,Qv,Qw,Qx,Qy,Qz,Ra,Rb,Rc,Rd,Re,Rf,Rg,Rh,Ri,Rj,Rk,Rm,Rn,Ro,Rp,Rq,Rs,Ya,Yb,Yc,Rt,Ru,Za,Yd,Ye,Rx,Ry,Rz,Wa,Wb,Wc,Wd]
 refine YZ hE hPl17 hall hall64 hall16 (fun s18 y11 y12 y13 y18 y19 o18=>?_) (vars++vs1).length 0 s17 _ _ _ _ rfl (oB _) (Ac.refl _ _)
 simp only[fD,if_true,Qa,Qb,Qc,Qd,Qe,Qf,Qg,Qh,Qi,Qj,Qk,Ql,Qm,Qn,true_and,and_true,Qo,Qp,Qq,Qr,Qs,Qt,Qu,Qv,Qw,Qx,Qy,Qz,Ra,Rb,Rc,Rd,Re,Rf,Rg,Rh,Ri,Rj,Rk,Rm,Rn,Ro,Rp,Rq,Rs,Ya,Yb,Yc,Rt,Ru,Za,Yd,Ye,Rx,Ry,Rz,Wa,Wb,Wc,Wd]
 have o014:Ac s.next s s14:=o07.trans (o714.mono o07.1)
 have o015:=o014.trans (o15.mono o014.1)
 have o016:=o015.trans (o16.mono o015.1)
 have o017:=o016.trans (o17.mono o016.1)
 exact hK s18 (o017.trans (o18.mono o017.1))
end
theorem ZR{t e:TypeId}{n:Nat}(ht:Tryz.prog.underlying t=some (.array n e)){W:World}{base:Nat}{v:Value}(h:Value.okWide Tryz.prog W .any base t v){ρ:BA}{us:List AV}(hr:AP ρ us v.cells.toList):AW ρ (.agg us) v:=by
 unfold Value.okWide at h
 rw[ht]at h
 obtain⟨cs,rfl,_⟩:=h
 exact .agg hr
theorem XN{P:Program}{W:World}{base:Nat}{u:TypeId}{a:Addr}(h:Cell.okWide P W .any base u (.slice (some a) 0 0)):0<W.heap.size:=by
 unfold Cell.okWide at h
 have h':Cell.ok P W .any base u (.slice (some a) 0 0):=by
  split at h<;>first | exact h | (rename_i e;cases e) | skip
 unfold Cell.ok at h'
 split at h'<;>first | (exact h'.elim) | skip
 all_goals (rename_i e1 e2;first | (cases e2;done) | skip)
 all_goals (first | (injection e2 with q1 q2 q3;injection q1 with q1;subst q1) | skip)
 all_goals
  obtain⟨_,_,_,_,row,cells,hs,_⟩:=h'
  unfold World.shape? at hs
  cases hb:W.heap[a.block]? with
  | none=>rw[hb]at hs;cases hs
  | some o =>
   rcases nm a.block W.heap.size with h' | h'
   ·omega
   ·rw[Array.getElem?_eq_none h']at hb;cases hb
theorem ZO{t e:TypeId}{n:Nat}(ht:Tryz.prog.underlying t=some (.array n e)){W:World}{base:Nat}{v:Value}(h:Value.okWide Tryz.prog W .any base t v)(a:Addr)(ha:.slice (some a) 0 0∈v.cells.toList):0<W.heap.size:=by
 unfold Value.okWide at h
 rw[ht]at h
 obtain⟨cs,rfl,_,ts,_,_,h5⟩:=h
 obtain⟨i,hi⟩:=List.getElem?_of_mem ha
 have hi':cs[i]? = some (.slice (some a) 0 0):=by
  have:cs.toList[i]? = some (.slice (some a) 0 0):=hi
  simpa using this
 obtain⟨u,_,hu⟩:=h5 i _ hi'
 exact XN hu
def pU(_:AD)(us:List AV)(x:Nat):Prop:=us=[Bf x]∧x<LB
theorem je(s s':AD)(us:List AV)(x:Nat)(h:pU s us x)(_:Ac s.next s s'):pU s' us x:=h
def pJ(_:AD)(us:List AV)(x:Int):Prop:=us=[iv x]∧i64 x
theorem YR(s s':AD)(us:List AV)(x:Int)(h:pJ s us x)(_:Ac s.next s s'):pJ s' us x:=h
def pQ(s:AD)(us:List AV)(_:Unit):Prop:=QA s (.agg us)
theorem YS(s s':AD)(us:List AV)(x:Unit)(h:pQ s us x)(o:Ac s.next s s'):pQ s' us x:=QA.old h o
def pL(s:AD)(us:List AV)(_:Unit):Prop:=LA s (.agg us)
theorem Zi{s:AD}{a:Option (Nat×Nat)}{cap:Option Nat}{n sz:Nat}(h:bE s a cap n sz):Fz sz s a cap n:=by
 rcases h with h | ⟨rfl,rfl,i,r,h3,h4,h5,h6⟩
 ·exact .inl h
 ·exact .inr ⟨rfl,i,0,r,h3,h4,h5,h6,by omega⟩
theorem MV{α:Type}{p:AD→List AV→α→Prop}{s:AD}{us:List AV}{xs:List α}(h:FU p 1 s us xs)(f:α→AV)(hp:∀vs x,p s vs x→vs=[f x]):
  ∃a cap,us=[.slice a xs.length cap]∧Fz 1 s a cap xs.length∧AZ s.next s a (xs.map f):=by
 obtain⟨a,cap,h1,h2,h3,h4⟩:=h
 refine⟨a,cap,h1,Zi h3,fun k u hu=>?_⟩
 rw[pH]at hu
 cases hx:xs[k]? with
 | none=>rw[hx]at hu;cases hu
 | some x =>
  rw[hx]at hu
  injection hu with hu
  subst hu
  obtain⟨i,o,vs,g1,g2,_,g4,g5⟩:=h4 k x hx
  rw[hp _ _ g5]at g4
  have:=g4 0 _ rfl
  simp only[oD,oM]at this
  exact⟨i,o,g1,g2,this⟩
theorem MW{α:Type}{p:AD→List AV→α→Prop}{s:AD}{us:List AV}{xs:List α}{sz:Nat}(h:FU p sz s us xs){x:α}(hx:x∈xs):∃vs,p s vs x:=by
 obtain⟨a,cap,h1,h2,h3,h4⟩:=h
 obtain⟨k,hk⟩:=List.mem_iff_getElem?.1 hx
 obtain⟨i,o,vs,_,_,_,_,g5⟩:=h4 k x hk
 exact⟨vs,g5⟩
theorem Ol{s:AD}{us:List AV}{xs:List Nat}(h:FU pU 1 s us xs):∃v,us=[v]∧Cv s v xs∧Bl xs:=by
  obtain⟨a,cap,rfl,h1,h2⟩:=MV h Bf fun vs x hx=>hx.1
  refine⟨_,rfl,⟨a,cap,rfl,?_,h2⟩,fun x hx=>?_⟩
  · rcases h1 with h1 | ⟨h1, i, o, r, h3, h4, h5, h6, h7⟩
    · exact .inl h1
    · exact .inr ⟨h1,i,o,r,h3,h4,h5,h6,by omega⟩
  · obtain⟨vs,hv⟩:=MW h hx
    exact hv.2
theorem ints_at{s:AD}{us:List AV}{xs:List Int}(h:FU pJ 1 s us xs):∃a cap,us=[.slice a xs.length cap]∧Fz 1 s a cap xs.length∧AZ s.next s a (xs.map iv)∧∀n∈xs,i64 n:=by
 obtain⟨a,cap,rfl,h1,h2⟩:=MV h iv fun vs x hx=>hx.1
 exact⟨a,cap,rfl,h1,h2,fun x hx=>by obtain⟨vs,hv⟩:=MW h hx;exact hv.2⟩
theorem Sz{s:AD}{us:List AV}{xs:List Unit}(h:FU pQ 3 s us xs):∃a cap cells,us=[.slice a xs.length cap]∧Ft s a xs.length cells:=by
 obtain⟨a,cap,h1,h2,h3,h4⟩:=h
 have key:∀k,∃vs:List AV,k<xs.length→vs.length=3∧QA s (.agg vs)∧∃i o,a=some (i,o)∧i<s.next∧∀j u,vs[j]? = some u→CW s i (o+k * 3+j)=some u:=by
  intro k
  by_cases hk:k<xs.length
  ·obtain⟨i,o,vs,g1,g2,g3,g4,g5⟩:=h4 k xs[k] (nr hk)
   exact⟨vs,fun _=>⟨g3,g5,i,o,g1,g2,g4⟩⟩
  ·exact⟨[],fun h=>absurd h hk⟩
 let f:Nat→List AV:=fun k=>Classical.choose (key k)
 have hf:∀k,k<xs.length→(f k).length=3∧QA s (.agg (f k))∧∃i o,a=some (i,o)∧i<s.next∧∀j u,(f k)[j]? = some u→CW s i (o+k * 3+j)=some u:=fun k=>Classical.choose_spec (key k)
 let D:List Br:=(List.range xs.length).map fun k=>((0:Int),(0:Rat),AV.agg (f k))
 have hD:∀t∈D,t.2.2.cells.length=3:=fun t ht=>by
  obtain⟨k,hk,rfl⟩:=List.mem_map.1 ht
  exact(hf k (List.mem_range.1 hk)).1
 obtain⟨p1,p2⟩:=Gp D hD
 have hDk:∀k,k<xs.length→D[k]? = some ((0:Int),(0:Rat),AV.agg (f k)):=fun k hk=>by
  show((List.range xs.length).map _)[k]? = _
  rw[pH,qR hk];rfl
 have hDl:D.length=xs.length:=by show((List.range xs.length).map _).length=_;simp
 have hpt:∀k,k<xs.length→((Cw D).drop (k * 3)).take 3=f k:=fun k hk=>p2 k _ (hDk k hk)
 refine⟨a,cap,Cw D,h1,by rw[p1,hDl],fun j u hj=>?_,fun k hk=>by rw[hpt k hk];exact(hf k hk).2.1⟩
 have hjl:j<xs.length * 3:=by
  rcases nm j (Cw D).length with h' | h'
  ·rw[p1,hDl]at h';exact h'
  ·rw[oF h']at hj;cases hj
 have hk:j / 3<xs.length:=by omega
 obtain⟨_,_,i,o,e1,e2,e3⟩:=hf (j / 3) hk
 have hg:(f (j / 3))[j % 3]? = some u:=by
  rw[← hpt (j / 3) hk,pV (by omega),pW,show j / 3 * 3+j % 3=j by omega]
  exact hj
 have:=e3 _ _ hg
 rw[show o+j / 3 * 3+j % 3=o+j by omega]at this
 exact⟨i,o,e1,e2,this⟩
section
variable{H:Type}{enc:TypeId×Value→H}{w:World}{held:Bool}
theorem coU:Tryz.prog.cellsOf 76=1:=by kernel_rfl
theorem lF:Tryz.prog.cellsOf 22=1:=by kernel_rfl
theorem coB:Tryz.prog.cellsOf 4=1:=by kernel_rfl
theorem nj:Tryz.prog.cellsOf 3=1:=by kernel_rfl
theorem mH:Tryz.prog.cellsOf 27=1:=by kernel_rfl
theorem coI:Tryz.prog.cellsOf 24=2:=by kernel_rfl
theorem ln:Tryz.prog.cellsOf 26=3:=by kernel_rfl
theorem mK:Tryz.prog.cellsOf 28=1:=by kernel_rfl
theorem mI:Tryz.prog.cellsOf 30=5:=by kernel_rfl
theorem mJ:Tryz.prog.cellsOf 31=10:=by kernel_rfl
theorem Tb(n:Nat)(cs:List Value)(y:DataW H×List MemPlace)
  (h:DataW.trod enc Tryz.prog w 0 (fun _=>true) held n 76 cs=some y) (ρ:BA) (s:AD) (hd:E9 Tryz.prog w ρ s):I7 Tryz.prog w pU cs ρ s:=by
 obtain⟨m,rfl,_,h3⟩:=DataW.trod_int Tryz.underlying76 h
 simp only[Lit.wf,Bool.and_eq_true,decide_eq_true_eq]at h3
 have h1:0≤m:=h3.1
 have h2:m≤4294967295:=h3.2
 obtain⟨k,rfl⟩:∃k:Nat,m=k:=⟨m.toNat,by omega⟩
 exact⟨ρ,s,[.int .u32 k],k,hd,BA.le_refl ρ,Ac.refl _ _,.cons (.int .u32 _) .nil,rfl,by show k<4294967296;omega⟩
theorem Lz(n:Nat)(cs:List Value)(y:DataW H×List MemPlace)
  (h:DataW.trod enc Tryz.prog w 0 (fun _=>true) held n 3 cs=some y) (ρ:BA) (s:AD) (hd:E9 Tryz.prog w ρ s):I7 Tryz.prog w pJ cs ρ s:=by
 obtain⟨m,rfl,_,h3⟩:=DataW.trod_int Tryz.underlying3 h
 refine⟨ρ,s,[.int .i64 m],m,hd,BA.le_refl ρ,Ac.refl _ _,.cons (.int .i64 m) .nil,rfl,?_⟩
 simp only[Lit.wf,Bool.and_eq_true,decide_eq_true_eq]at h3
 have h1:-9223372036854775808≤m:=h3.1
 have h2:m≤9223372036854775807:=h3.2
 exact⟨h1,by omega⟩
theorem JD{n:Nat}{cs:List Value}{y:DataW H×List MemPlace}(h:DataW.trod enc Tryz.prog w 0 (fun _=>true) held n 22 cs=some y)(hw:∀a,.slice (some a) 0 0∈cs→0<w.heap.size){ρ:BA}{s:AD}(hd:E9 Tryz.prog w ρ s):I7 Tryz.prog w (FU pU 1) cs ρ s:=
 D4 je Tryz.underlying22 coU (by decide) (fun _ n cs y h _=>Tb n cs y h) h (fun a ha=>hw a (by rw[ha];exact List.mem_singleton.2 rfl)) hd
theorem Ih{n:Nat}{cs:List Value}{y:DataW H×List MemPlace}(h:DataW.trod enc Tryz.prog w 0 (fun _=>true) held n 26 cs=some y)(hw:∀a,.slice (some a) 0 0∈cs→0<w.heap.size){ρ:BA}{s:AD}(hd:E9 Tryz.prog w ρ s):I7 Tryz.prog w pQ cs ρ s:=by
 obtain⟨xs,m,_,rfl,h3,h4,h5⟩:=DataW.trod_struct Tryz.underlying26 h
 rw[ln]at h3
 have h4:xs.length=2:=h4
 match cs,h3,hw,h5 with
 | [c0,c1,c2],_,hw,h5 =>
  have e0:DataW.trod enc Tryz.prog w 0 (fun _=>true) held m 24 (([c0,c1,c2].drop 0).take (Tryz.prog.cellsOf 24))=xs[0]? := h5 0 _ rfl
  have e1:DataW.trod enc Tryz.prog w 0 (fun _=>true) held m 22 (([c0,c1,c2].drop 2).take (Tryz.prog.cellsOf 22))=xs[1]? := h5 1 _ rfl
  rw[coI,nr (show 0<xs.length by omega)]at e0
  rw[lF,nr (show 1<xs.length by omega)]at e1
  obtain⟨ys,m',_,_,k3,k4,k5⟩:=DataW.trod_struct Tryz.underlying24 e0
  have k4:ys.length=2:=k4
  have f0:DataW.trod enc Tryz.prog w 0 (fun _=>true) held m' 4 (([c0,c1].drop 0).take (Tryz.prog.cellsOf 4))=ys[0]? := k5 0 _ rfl
  have f1:DataW.trod enc Tryz.prog w 0 (fun _=>true) held m' 22 (([c0,c1].drop 1).take (Tryz.prog.cellsOf 22))=ys[1]? := k5 1 _ rfl
  rw[coB,nr (show 0<ys.length by omega)]at f0
  rw[lF,nr (show 1<ys.length by omega)]at f1
  obtain⟨b,q0,_⟩:=DataW.trod_bool Tryz.underlying4 f0
  injection q0 with q0
  subst q0
  obtain⟨ρ1,s1,us1,l1,g1,g2,g3,g4,g5⟩:=JD (cs:=[c1]) f1 (fun a ha=>hw a (by simp at ha;simp[ha])) hd
  obtain⟨ρ2,s2,us2,l2,t1,t2,t3,t4,t5⟩:=JD (cs:=[c2]) e1 (fun a ha=>hw a (by simp at ha;simp[ha])) g1
  obtain⟨u1,rfl,n1,sm1⟩:=Ol g5
  obtain⟨u2,rfl,n2,sm2⟩:=Ol t5
  refine⟨ρ2,s2,[.bool b,u1,u2],(),t1,BA.le_trans g2 t2,g3.trans (t3.mono g3.1),.cons (.bool b) ?_,b,u1,u2,l1,l2,rfl,n1.old t3,n2,sm1,sm2⟩
  cases g4 with
  | cons q1 _=>exact .cons (q1.mono t2) t4
theorem L0        {n : Nat} {cs : List Value} {y : DataW H × List MemPlace} (h : DataW.trod enc Tryz.prog w 0 (fun _ => true) held n 30 cs = some y) (hw : ∀ a, .slice (some a) 0 0 ∈ cs → 0 < w.heap.size) {ρ : BA}  {s : AD}  (hd : E9   Tryz.prog w ρ s) : I7    Tryz.prog w pL cs ρ s := by
  obtain⟨xs,m,_,rfl,h3,h4,h5⟩:=DataW.trod_struct Tryz.underlying30 h
  rw[mI]at h3
  have h4:xs.length=3:=h4
  match cs,h3,hw,h5 with
  | [c0,c1,c2,c3,c4],_,hw,h5 =>
    have e0:DataW.trod enc Tryz.prog w 0 (fun _=>true) held m 26 (([c0,c1,c2,c3,c4].drop 0).take (Tryz.prog.cellsOf 26))=xs[0]? := h5 0 _ rfl
    have e1:DataW.trod enc Tryz.prog w 0 (fun _=>true) held m 27 (([c0,c1,c2,c3,c4].drop 3).take (Tryz.prog.cellsOf 27))=xs[1]? := h5 1 _ rfl
    have e2:DataW.trod enc Tryz.prog w 0 (fun _=>true) held m 28 (([c0,c1,c2,c3,c4].drop 4).take (Tryz.prog.cellsOf 28))=xs[2]? := h5 2 _ rfl
    rw[ln,nr (show 0<xs.length by omega)]at e0
    rw[mH,nr (show 1<xs.length by omega)]at e1
    rw[mK,nr (show 2<xs.length by omega)]at e2
    obtain⟨ρ1,s1,us1,x1,g1,g2,g3,g4,g5⟩:=Ih (cs:=[c0,c1,c2]) e0 (fun a ha=>hw a (by simp at ha;rcases ha with ha | ha | ha<;>simp[ha])) hd
    obtain⟨ρ2,s2,us2,l2,t1,t2,t3,t4,t5⟩:=D4 (cs:=[c3]) YR Tryz.underlying27 nj (by decide) (fun _ n cs y h _=>Lz n cs y h) e1 (fun a ha=>hw a (by simp at ha;simp[ha])) g1
    obtain⟨ρ3,s3,us3,l3,r1,r2,r3,r4,r5⟩:=D4 (cs:=[c4]) YS Tryz.underlying28 ln (by decide) (fun hpos n cs y h _ ρ s hd=>Ih h (fun _ _=>hpos) hd) e2 (fun a ha=>hw a (by simp at ha;simp[ha])) t1
    obtain⟨neg,mm,dd,lm,ld,e,q1,q2,q3,q4⟩:=g5
    injection e with e
    subst e
    obtain⟨av,capv,rfl,z1,z2,z3⟩:=ints_at t5
    obtain⟨ac,capc,cells,rfl,hra⟩:=Sz r5
    obtain⟨xa,na,ka,ea⟩:=q1.shape
    obtain⟨xb,nb,kb,eb⟩:=q2.shape
    subst ea;subst eb
    have o23:Ac s1.next s1 s3:=t3.trans (r3.mono t3.1)
    refine⟨ρ3,s3,[.bool neg,.slice xa na ka,.slice xb nb kb,.slice av l2.length capv,.slice ac l3.length capc],(),r1,BA.le_trans g2 (BA.le_trans t2 r2),g3.trans (o23.mono g3.1),?_,?_⟩
    · cases g4 with
      | cons w1 w2 =>
      cases w2 with
      | cons w2 w3 =>
      cases w3 with
      | cons w3 w4 =>
      cases t4 with
      | cons w5 _ =>
        have h23:=BA.le_trans t2 r2
        exact .cons (w1.mono h23) (.cons (w2.mono h23) (.cons (w3.mono h23) (.cons (w5.mono r2) r4)))
    · exact⟨neg,xa,na,ka,xb,nb,kb,av,l2,capv,ac,l3.length,capc,cells,rfl,⟨neg,_,_,lm,ld,rfl,q1.old o23,q2.old o23,q3,q4⟩,(z2.old r3 (nl _)).mono r3.1,z3,z1.old r3,hra⟩
theorem OV{n:Nat}{cs:List Value}{y:DataW H×List MemPlace}(h:DataW.trod enc Tryz.prog w 0 (fun _=>true) held n 31 cs=some y)(hw:∀a,.slice (some a) 0 0∈cs→0<w.heap.size){ρ:BA}{s:AD}(hd:E9 Tryz.prog w ρ s):
  ∃ρ' s' ca cb,E9 Tryz.prog w ρ' s'∧ρ.le ρ'∧Ac s.next s s'∧AP ρ' (ca++cb) cs∧LA s' (.agg ca)∧LA s' (.agg cb):=by
 obtain⟨xs,m,_,rfl,h3,h4,h5⟩:=DataW.trod_array Tryz.underlying31 h
 rw[mJ]at h3
 have e0:=h5 0 (by omega)
 have e1:=h5 1 (by omega)
 rw[mI,nr (show 0<xs.length by omega)]at e0
 rw[mI,nr (show 1<xs.length by omega)]at e1
 rw[pO,pC]at e0
 rw[pN]at e1
 have hsplit:cs=cs.take 5++(cs.drop 5).take 5:=by
  have:(cs.drop 5).take 5=cs.drop 5:=List.take_of_length_le (by rw[oh];omega)
  rw[this];exact(pn 5 cs).symm
 obtain⟨ρ1,s1,us1,x1,g1,g2,g3,g4,g5⟩:=L0 e0 (fun a ha=>hw a (List.take_subset _ _ ha)) hd
 obtain⟨ρ2,s2,us2,x2,t1,t2,t3,t4,t5⟩:=L0 e1 (fun a ha=>hw a (List.drop_subset _ _ (List.take_subset _ _ ha))) g1
 refine⟨ρ2,s2,us1,us2,t1,BA.le_trans g2 t2,g3.trans (t3.mono g3.1),?_,LA.old g5 t3,t5⟩
 rw[hsplit]
 exact(g4.mono t2).append t4
end
section
variable{H:Type}{enc:TypeId×Value→H}{W:World}{base:Nat}
theorem places4_true{v0 v1 v2:Value}(h0:Value.okWide Tryz.prog W .any base 31 v0)(h1:Value.okWide Tryz.prog W .any base 27 v1)(h2:Value.okWide Tryz.prog W .any base 28 v2)
  {d0 d1 d2:DataW H} {p0 p1 p2:List MemPlace} (t0:DataW.Trod enc Tryz.prog W 0 (fun _=>true) true 31 v0 d0 p0) (t1:DataW.Trod enc Tryz.prog W 0 (fun _=>true) true 27 v1 d1 p1) (t2:DataW.Trod enc Tryz.prog W 0 (fun _=>true) true 28 v2 d2 p2):
  Calls Tryz.prog 6 #[v0,v1,v2] W fun e W'=>e=.returned (.bool true)∧Ml W W':=by
 obtain⟨n0,t0⟩:=t0
 obtain⟨n1,t1⟩:=t1
 obtain⟨n2,t2⟩:=t2
 obtain⟨ρ1,s1,ca,cb,g1,g2,g3,g4,gA,gB⟩:=OV t0 (fun a ha=>ZO Tryz.underlying31 h0 a ha) (lK Tryz.prog W)
 obtain⟨ρ2,s2,us1,l1,k1,k2,k3,k4,k5⟩:=D4 YR Tryz.underlying27 nj (by decide) (fun _ n cs y h _=>Lz n cs y h) t1 (fun a ha=>PW Tryz.underlying27 h1 a ha) g1
 obtain⟨ρ3,s3,us2,l2,m1,m2,m3,m4,m5⟩:=D4 YS Tryz.underlying28 ln (by decide) (fun hpos n cs y h _ ρ s hd=>Ih h (fun _ _=>hpos) hd) t2 (fun a ha=>PW Tryz.underlying28 h2 a ha) k1
 obtain⟨av,capv,rfl,z1,z2,z3⟩:=ints_at k5
 obtain⟨ac,capc,cells,rfl,hra⟩:=Sz m5
 have o13:Ac s1.next s1 s3:=k3.trans (m3.mono k3.1)
 have h13:=BA.le_trans k2 m2
 exact TT m1 (.cons (ZR Tryz.underlying31 h0 (g4.mono h13)) (.cons (R8 Tryz.underlying27 h1 (k4.mono m2)) (.cons (R8 Tryz.underlying28 h2 m4) .nil)))
  (Ts lL (gA.old o13) (gB.old o13) ((z2.old m3 (nl _)).mono m3.1) z3 (z1.old m3) hra fun _ _=>rfl)
end
end
end Go.Proofs.YtjnkfbpadpmakaaGreatDoor.Am
