/- Package litmusref01: div, walked; conditions: none. -/
import Derived.Test.YtjnkfbpadpmakaaGreatDoorAmM11
set_option linter.unusedVariables false
set_option linter.unusedSimpArgs false
set_option maxRecDepth 16000
namespace Go.Proofs.YtjnkfbpadpmakaaGreatDoor.Am
open Go Go.Proofs
noncomputable section
theorem B9.capZ{e n sz:Nat}{s:AE}{v:AV}{cs:List AV}{O:List Nat}(h:B9 e s v n sz cs O)(a:Option (Nat×Nat))(cap:Option Nat)(hv:v=.slice a n cap):EB sz s a cap n:=by
 rcases h with⟨a',e1,_,_,h4,_⟩ | ⟨i,p,e1,h6,_⟩
 ·rw[hv]at e1
  injection e1 with e1 _ e2
  subst e1;subst e2
  exact .inl ⟨n,rfl,zU _,h4⟩
 ·have hl:=h6.len
  rw[hv]at e1
  injection e1 with e1 _ e2
  subst e1;subst e2
  rcases h6.ex with⟨e',_⟩ | ⟨_,_,k2,_,r,k4,k5,_,_,k8,_⟩
  ·rw[hv]at e';cases e'
  ·exact .inr ⟨rfl,i,0,r,rfl,k2,k4,k8,by rw[k5.1,hl];omega⟩
theorem uq(n:Nat):Nd [AV.bool false] n=G0 (List.replicate n false):=by
 induction n with
 | zero=>rfl
 | succ n ih=>show [AV.bool false]++Nd [AV.bool false] n=_;rw[ih];rfl
theorem UT(n:Nat)(h:n≤100000000000):Bb Tryz.prog 124 (iv (n:Int)) (iv (n:Int))=some (R 4 1 false (G0 (List.replicate n false)),.slice n):=by
 have e:Bb Tryz.prog 124 (.int .i64 (.ofNat n)) (.int .i64 (.ofNat n))=some (GH 4 1 (Nd [AV.bool false] n),.slice n):=by
  simp[Bb,Tryz.underlying124,xZ,TB,zr4,AQ,CU (show n≤1099511627776 by omega),AV.cells]
 rw[uq]at e
 exact e
theorem ip(l:List Bool)(k:Nat)(x:Bool):(G0 l).set k (.bool x)=G0 (l.set k x):=by simp[G0,List.map_set]
theorem Yh:∀ {l:List Bool}{k:Nat},l[k]? = some false→bv (l.set k true)=bv l+2 ^ k
 | y::l,0,h=>by
  injection h with h
  subst h
  show 1+2 * bv l=0+2 * bv l+1
  omega
 | y::l,k+1,h=>by
  show y.toNat+2 * bv (l.set k true)=y.toNat+2 * bv l+2 ^ (k+1)
  rw[Yh (l:=l) (k:=k) h,zy];omega
theorem sf(n:Nat):bv (List.replicate n false)=0:=by
 induction n with
 | zero=>rfl
 | succ n ih=>show 0+2 * bv (List.replicate n false)=0;rw[ih]
theorem im(l:List Bool):Aq (G0 l)=true:=by
 induction l with
 | nil=>rfl
 | cons x l ih=>show((AV.bool x).isCell && Aq (G0 l))=true;rw[ih];rfl
structure Wu(a b:List Bool)(i:Nat)(qs:List Bool)(p:Nat):Prop where
 len:qs.length=a.length
 low:∀k,k<i→qs[k]? = some false
 lt:p<bv b
 val:∃m,bv qs=2 ^ i * m∧m * bv b+p=bv (a.drop i)
theorem Wu.step{a b:List Bool}{i:Nat}{qs:List Bool}{p:Nat}(h:Wu a b (i+1) qs p){x:Bool}(hx:a[i]? = some x):
  (x.toNat+2 * p<bv b→Wu a b i qs (x.toNat+2 * p))∧(bv b≤x.toNat+2 * p→Wu a b i (qs.set i true) (x.toNat+2 * p - bv b)):=by
 have hlt:i<a.length:=by
  rcases zX i a.length with h' | h'
  ·exact h'
  ·rw[zj h']at hx;cases hx
 have hda:bv (a.drop i)=x.toNat+2 * bv (a.drop (i+1)):=by
  rw[A0M hlt]
  rw[zW hlt]at hx
  injection hx with hx
  rw[hx];rfl
 obtain⟨m,h1,h2⟩:=h.val
 have hb:=LE x
 have hlt':=h.lt
 refine⟨fun hc=>⟨h.len,fun k hk=>h.low k (by omega),hc,2 * m,by rw[h1,zy,zu],by rw[hda,← h2,zu,zp];omega⟩,fun hc=>⟨by rw[A0j];exact h.len,fun k hk=>?_,by omega,2 * m+1,?_,?_⟩⟩
 ·rw[A1A (by omega)];exact h.low k (by omega)
 ·rw[Yh (h.low i (by omega)),h1,zy,zu,zp,zf]
 ·rw[hda,← h2,A0A,zu,zp,A0S];omega
section
variable{E:CR}{s:AE}
theorem Xr(hE:GoodN E){q:Nat}{aa:Option (Nat×Nat)}{ca:Option Nat}{a b:List Bool}{vb:AV}(hcca:AS q s aa (G0 a))(hb:Df s vb b)(hbq:∀j,B6 vb=some j→j≠q)(hqs:q<s.next)(hal:a.length≤100000000)(hbl:b.length≤100000000){Q:Az→Prop}{y2 y3:AV}
  (hq:∀S v qs p y6 y7 y8,s.next≤S.next→(∀j,j<s.next→j≠q→S.heap.get j=s.heap.get j)→Ck S q (G0 qs) none→Df S v (Av p)→Wu a b 0 qs p→Q ⟨.exit 0,[.slice aa a.length ca,vb,y2,y3,.slice (some (q,0)) a.length (some a.length),v,y6,y7,y8],[],S⟩):
  ∀ (i:Nat) (S:AE) (v:AV) (qs:List Bool) (p:Nat) (y7 y8:AV),i≤a.length→s.next≤S.next→(∀j,j<s.next→j≠q→S.heap.get j=s.heap.get j)→Ck S q (G0 qs) none→Df S v (Av p)→(∀j,B6 v=some j→j≠q)→Wu a b i qs p→WC E none (.loop I7) Q [.slice aa a.length ca,vb,y2,y3,.slice (some (q,0)) a.length (some a.length),v,iv ((i:Int) - 1),y7,y8] [] S:=by
 intro i
 induction i with
 | zero =>
  intro S v qs p y7 y8 _ hn hf ho hv hvq hI
  refine WC.loop' ?_
  simp only[I7,TS,Wb,show decide ((((0:Nat):Int) - 1)≥0)=false from rfl,Qa,Qb,Qc,Qd,Qf,Qh,Qi,Qj,Qm,Qo,true_and,Qp,Qq,Qr,Qs,Qt,Qv,Ra,Rb,Rd,Re,Wb]
  exact hq S v qs p _ _ _ hn hf ho hv hI
 | succ i ih =>
  intro S v qs p y7 y8 hi hn hf ho hv hvq hI
  have e0:(((i+1:Nat):Int) - 1)=(i:Int):=by omega
  rw[e0]
  have hlt:i<a.length:=by omega
  have d0:decide ((i:Int)≥0)=true:=decide_eq_true (by omega)
  have es:=CT Tryz.prog 3 (i:Int) 1 ⟨by omega,by omega⟩
  have hx:a[i]? = some a[i]:=zW hlt
  generalize a[i]=x at hx
  obtain⟨st1,st2⟩:=hI.step hx
  obtain⟨ia,oa,rfl,hia,ga⟩:=hcca i _ (LF hx)
  have lda:AB Tryz.prog S 4 (.ptr (some (ia,oa+i * 1)))=some (.bool x):=Bq Gz (by rw[zf,CS (hf ia (by omega) (by omega))];exact ga)
  have ixa:=AX (cap:=ca) (i:=ia) (o:=oa) (n:=1) Tryz.underlying124 TB hlt
  have hpl:(Av p).length≤b.length:=FR (Nat.lt_trans hI.lt (Ej b))
  obtain⟨n1,o1,g1⟩:=Bs S (R 4 1 false [.bool x])
  obtain⟨ar,cr,rfl,hcr,hccr⟩:=hv
  generalize hs1:newObj S (R 4 1 false [.bool x])=s1 at *
  have IJ:B9 4 s1 (.slice (some (S.next,0)) 1 (some 1)) 1 1 [.bool x] []:=B9.row (by omega) g1 rfl
  obtain⟨v2,s2,O2,happ,Kh,hn2,_,hf2,_,hsl2⟩:=IJ.append (st:=124) (xt:=124) Tryz.underlying124 TB xZ (by decide) S8 Wt (H7 (e:=4) (sz:=1) (cap:=cr) (n:=(Av p).length) ((hccr.old o1 (zU _)).mono o1.1) (by rw[Ow,zf]) (by decide)) (by rw[Ow,zf]) (im _) (by omega) (by omega)
  have o2:Aa s1.next s1 s2:=⟨hn2,fun j hj=>hf2 j hj (by simp)⟩
  have hbr:Df s2 v2 (x::Av p):=by
   have hz:=Kh.capZ
   obtain⟨a2,cap2,rfl,hc2⟩:=Kh.cells
   have el:1+(Av p).length=(x::Av p).length:=by rw[A0G];omega
   rw[el]at hz ⊢
   exact⟨a2,cap2,rfl,hz a2 cap2 rfl,hc2⟩
  have hbvx:bv (x::Av p)=x.toNat+2 * p:=by show x.toNat+2 * bv (Av p)=_;rw[BK]
  have o02:Aa S.next S s2:=o1.trans (o2.mono o1.1)
  refine WC.loop' ?_
  generalize hW:WC E none (Ac.loop I7) Q=WW
  simp only[I7,TS,ZA,Wb,d0,ixa,lda,M6,Xe,hs1,happ,Qa,Qb,Qc,Qd,Qf,Qh,Qi,Qj,Qk,Qm,Qo,true_and,Qp,Qq,Qr,Qs,Qt,Qv,Qz,Rb,Rd,Re,Yc,Wb,A1v,A1m,A1t,A1u,A1p]
  refine KQ hE hbr (by rw[A0G];omega) fun w hw hwsl=>?_
  rw[hbvx]at hw
  have hwq:∀j,B6 w=some j→S.next≤j:=fun j hj=>by
   rcases hsl2 j (hwsl j hj)with h | h
   ·injection h with h;omega
   ·omega
  have hwl:(Av (x.toNat+2 * p)).length≤200000000:=zY (FR (k:=b.length+1) (by
   have h1:=Ej b
   have h2:=hI.lt
   have h3:=LE x
   rw[zy];omega)) (by omega)
  have hbS:Df S vb b:=hb.keep hn fun j hj hl=>hf j hl (hbq j hj)
  have hf02:∀j,j<s.next→j≠q→s2.heap.get j=s.heap.get j:=fun j hj hne=>by rw[o02.2 j (by omega),hf j hj hne]
  have ho2:=ho.keep (o02.2 q (by omega))
  have hn02:=o02.1
  simp only[ZB,Qb,Qc,Qd,Qf,Qh,Qj,Qk,Qo,true_and,Qp,Qq,Qr,Qs,Qt,Qv,A1u]
  refine JX hE hw (hbS.old o02) (by omega) (by omega) ?_
  rw[BK]
  by_cases hc:x.toNat+2 * p<bv b
  ·simp only[decide_eq_true hc,We,Bool.not_true,TT,es,Qb,Qc,Qd,Qf,Qh,Qi,Qj,Qk,Qm,Qo,true_and,Qp,Qq,Qr,Qs,Qt,Qv,Ra,Ya,We,A1t,A1p]
   rw[← hW]
   exact ih s2 w qs _ _ _ (by omega) (by omega) hf02 ho2 hw (fun j hj=>by have:=hwq j hj;omega) (st1 hc)
  ·simp only[decide_eq_false hc,We,Bool.not_false,ZC,Qb,Qc,Qd,Qf,Qh,Qj,Qk,Qm,Qo,true_and,Qp,Qq,Qr,Qs,Qt,Qv,Qz,Yb,We,A1t,A1u,A1p]
   refine Sf hE hw (hbS.old o02) (by omega) (by rw[BK];omega) fun s3 w3 o3 hw3 hsl3=>?_
   rw[BK]at hw3
   have h3:=o3.1
   have ho3:=ho2.keep (o3.2 q (by omega))
   have ixq:=AX (cap:=some a.length) (i:=q) (o:=0) (n:=1) (len:=a.length) (k:=i) Tryz.underlying124 TB hlt
   obtain⟨S',e1,e2,e3,e4⟩:=Ec (P:=Tryz.prog) (t:=4) (o:=0+i * 1) (v:=.bool true) TB ho3 (by rw[Ow,hI.len];omega) rfl
   rw[show 0+i * 1=i by omega,ip]at e2
   simp only[ZD,ixq,e1,TT,es,Xy,Za,Qb,Qc,Qd,Qf,Qh,Qi,Qj,Qk,Qm,Qo,true_and,Qp,Qq,Qr,Qs,Qt,Qv,A1v,A1t,A1p]
   rw[← hW]
   refine ih S' w3 (qs.set i true) _ _ _ (by omega) (by omega) (fun j hj hne=>by rw[e4 j hne (by simp),o3.2 j (by omega),hf02 j hj hne]) e2 (hw3.keep (by omega) fun j hj hl=>e4 j (by have:=hsl3 j hj;omega) (by simp)) (fun j hj=>by have:=hsl3 j hj;omega) (st2 (by omega))
theorem WQ(hE:GoodN E){va vb:AV}{a b:List Bool}(ha:Df s va a)(hb:Df s vb b)(hal:a.length≤100000000)(hbl:b.length≤100000000)(hb0:bv b≠0){K:AV→AE→Prop}(hK:∀s' w w',Aa s.next s s'→Df s' w (Av (bv a / bv b))→Df s' w' (Av (bv a % bv b))→K (.tuple [w,w']) s'):WF E 105 [va,vb] K s:=by
 obtain⟨aa,ca,rfl,_,hca⟩:=ha
 refine hE.go jI (by decide) rfl ?_
 have hmk:=UT a.length (by omega)
 obtain⟨n1,o1,g1⟩:=Bs s (R 4 1 false (G0 (List.replicate a.length false)))
 have hown:Ck (newObj s (R 4 1 false (G0 (List.replicate a.length false)))) s.next (G0 (List.replicate a.length false)) none:=Ck.of_R g1
 have es:=CT Tryz.prog 3 (a.length:Int) 1 ⟨by omega,by omega⟩
 simp only[vQ,Y6,Y7,Y8,Y9,AH Tryz.underlying124,Xy,hmk,Xe,es,Qa,Qb,Qc,Qd,Qf,Qh,Qi,Qj,Qk,Ql,Qm,Qo,true_and,Qp,Qq,Qr,Qt,Qv,Rb,Rh,Rk,Rm,Rp,Yc,A1p,A1s]
 generalize newObj s (R 4 1 false (G0 (List.replicate a.length false)))=s1 at *
 have hsb:∀j,B6 vb=some j→j≠s.next∨b=[]:=fun j hj=>by
  obtain⟨a',cap',rfl,h2,h3⟩:=hb
  cases b with
  | nil=>exact .inr rfl
  | cons y l =>
   obtain⟨i,o,rfl,hi,_⟩:=h3 0 _ rfl
   injection hj with hj
   exact .inl (by omega)
 have hbne:b≠[]:=fun h=>hb0 (by rw[h];rfl)
 refine Xr (s:=s1) (q:=s.next) hE (hca.old o1 (zU _)) (hb.old o1) (fun j hj=>(hsb j hj).resolve_right hbne) (by omega) hal hbl (fun S v qs p y6 y7 y8 hn hf ho hv hI=>?_) a.length s1 _ (List.replicate a.length false) 0 _ _ (zU _) (zU _) (fun _ _ _=>rfl) hown (by rw[CD];exact Df.nil _) (fun j hj=>by cases hj) ⟨by simp,fun k hk=>by rw[List.getElem?_replicate,if_pos hk],by omega,0,by rw[sf,A0F],by rw[A0D (zU _),A0b];rfl⟩
 obtain⟨m,h1,h2⟩:=hI.val
 rw[Nat.pow_zero,A0S]at h1
 rw[A0d]at h2
 have hlt:=hI.lt
 have hql:qs.length=a.length:=hI.len
 have hqr:Df S (.slice (some (s.next,0)) a.length (some a.length)) qs:=⟨some (s.next,0),some a.length,by rw[hql],.inl ⟨a.length,rfl,by omega,fun h=>by cases h⟩,Hn ho (by omega)⟩
 have hq1:bv a / bv b=m:=by
  rw[← h2,A0s,Nat.add_mul_div_right _ _ (by omega),A0n hlt,zk]
 have hq2:bv a % bv b=p:=by
  rw[← h2,A0s,Nat.add_mul_mod_self_right,A0I hlt]
 simp only[VR,if_true,Qb,Qc,Qd,Qf,Qh,Qj,Qk,Qm,Qo,true_and,Qr,Qs,Qt,Qv,Rb,Rd,Rg,Rj,A1u,A1p]
 refine GM hE hqr (by omega) fun w hw=>?_
 simp only[Qd,Qo,true_and,Qp,Qq,Qr,Qs]
 rw[h1,← hq1]at hw
 rw[← hq2]at hv
 exact hK S w v ⟨by omega,fun j hj=>by rw[hf j (by omega) (by omega),o1.2 j hj]⟩ hw hv
end
end
end Go.Proofs.YtjnkfbpadpmakaaGreatDoor.Am
set_option linter.unusedVariables false
set_option linter.unusedSimpArgs false
set_option maxRecDepth 100000
namespace Go.Proofs.YtjnkfbpadpmakaaGreatDoor.Am
open Go Go.Proofs
noncomputable section
def Zl:List AA:=[
 A1q 24 (.var 0) 1,
 A1r 24 2]
def Zm:List AA:=[
 A1n 24 1 (.var 1),
 A1m 22 (.loc 0),
 A1u 127 [.loc 0],
 A1p (.loc 0) 3]
def TX:List AA:=[
 A1n 24 0 (.var 1),
 A1m 4 (.loc 0),
 ⟨(some ((.loc 0),true)),.p1 some,[.var 3],.push,[]⟩,
 ⟨(some ((.loc 1),true)),.r (fun s l=>match l with | [x]=>Ay Tryz.prog s 22 x | _=>none),[.loc 0],.push,[]⟩,
 ⟨(some ((.loc 2),true)),.p2 (AN Tryz.prog .gtr 3),[(.loc 0),(.const (.int .i64 (0)))],.push,[]⟩,
 ⟨none,.p Ru,[(.loc 3),(.loc 0),(.const (.bool false))],.push,[]⟩,
 ⟨none,.p (fun l=>Be Tryz.prog 24 (zipIdx [0,1] l)),[.loc 0,.var 3],.push,[]⟩,
 A1o 24 (.var 2) (.loc 0)]
def vf:Ah:=⟨1,4,(.seq (.ops Zl) (.seq (.ops Zm) (.seq (.ops TX) .ret))),[((.var 2),some 24)]⟩
def ql:List AA:=[
 A1q 24 (.var 0) 2,
 A1q 24 (.var 1) 3,
 A1r 24 4]
def qm:List AA:=[
 A1n 24 0 (.var 2),
 A1m 4 (.loc 0),
 A1n 24 0 (.var 3),
 A1m 4 (.loc 0),
 A1w .neq 4 (.loc 2) (.loc 0),
 A1n 24 1 (.var 2),
 A1m 22 (.loc 0),
 A1n 24 1 (.var 3),
 A1m 22 (.loc 0),
 ⟨none,.call 56,[.loc 2,.loc 0],.push,[⟨none,.r1 (fun s a=>AB Tryz.prog s 4 a),[.loc 7],(.loc 6)⟩,⟨none,.r1 (fun s a=>AB Tryz.prog s 4 a),[.loc 9],(.loc 8)⟩]⟩,
 ⟨none,.p (fun l=>Be Tryz.prog 24 (zipIdx [0,1] l)),[.loc 5,.loc 0],.push,[]⟩,
 A1u 122 [.loc 0],
 A1o 24 (.var 4) (.loc 0)]
def zK:Ah:=⟨2,5,(.seq (.ops ql) (.seq (.ops qm) .ret)),[((.var 4),some 24)]⟩
def qW:List AA:=[
 A1q 24 (.var 0) 2,
 A1q 24 (.var 1) 3,
 A1r 24 4]
def qX:List AA:=[
 A1m 24 (.var 2),
 A1u 122 [.loc 0],
 A1o 24 (.var 2) (.loc 0)]
def qY:List AA:=[
 A1m 24 (.var 3),
 A1u 122 [.loc 0],
 A1o 24 (.var 3) (.loc 0)]
def qZ:List AA:=[
 A1n 24 0 (.var 2),
 A1m 4 (.loc 0),
 A1n 24 0 (.var 3),
 A1m 4 (.loc 0),
 A1x .eql 4 (.loc 2) (.loc 0) 7]
def qd:List AA:=[
 A1n 24 0 (.var 2),
 A1m 4 (.loc 0),
 A1n 24 1 (.var 2),
 A1m 22 (.loc 0),
 A1n 24 1 (.var 3),
 A1m 22 (.loc 0),
 ⟨none,.call 124,[.loc 2,.loc 0],.push,[⟨none,.r1 (fun s a=>AB Tryz.prog s 4 a),[.loc 6],(.loc 5)⟩]⟩,
 ⟨none,.p (fun l=>Be Tryz.prog 24 (zipIdx [0,1] l)),[.loc 5,.loc 0],.push,[]⟩,
 A1u 122 [.loc 0],
 A1o 24 (.var 4) (.loc 0)]
def qe:List AA:=[
 A1n 24 1 (.var 2),
 A1m 22 (.loc 0),
 A1n 24 1 (.var 3),
 A1m 22 (.loc 0),
 A1u 125 [.loc 2,.loc 0],
 ⟨none,.p2 (AN Tryz.prog .lss 3),[(.loc 0),(.const (.int .i64 (0)))],(.set 8),[]⟩]
def qf:List AA:=[
 A1n 24 1 (.var 3),
 A1m 22 (.loc 0),
 A1n 24 1 (.var 2),
 A1m 22 (.loc 0),
 A1u 126 [.loc 2,.loc 0],
 ⟨none,.p1 (fun x=>Zb x 0),[.loc 0],.push,[]⟩,
 ⟨none,.p1 (fun x=>Zb x 1),[.loc 1],.push,[]⟩,
 A1p (.loc 1) 5,
 A1t (.loc 0)]
def qg:List AA:=[
 A1n 24 0 (.var 3),
 A1m 4 (.loc 0),
 ⟨none,.p (fun l=>Be Tryz.prog 24 (zipIdx [0,1] l)),[.loc 0,.var 5],.push,[]⟩,
 A1u 122 [.loc 0],
 A1o 24 (.var 4) (.loc 0)]
def qj:List AA:=[
 A1n 24 1 (.var 2),
 A1m 22 (.loc 0),
 A1n 24 1 (.var 3),
 A1m 22 (.loc 0),
 A1u 126 [.loc 2,.loc 0],
 ⟨none,.p1 (fun x=>Zb x 0),[.loc 0],.push,[]⟩,
 ⟨none,.p1 (fun x=>Zb x 1),[.loc 1],.push,[]⟩,
 A1p (.loc 1) 6,
 A1t (.loc 0)]
def qk:List AA:=[
 A1n 24 0 (.var 2),
 A1m 4 (.loc 0),
 ⟨none,.p (fun l=>Be Tryz.prog 24 (zipIdx [0,1] l)),[.loc 0,.var 6],.push,[]⟩,
 A1u 122 [.loc 0],
 A1o 24 (.var 4) (.loc 0)]
def zJ:Ah:=⟨2,9,(.seq (.ops qW) (.seq (.ops qX) (.seq (.ops qY) (.seq (.seq (.ops qZ) (.cond (.var 7)
 (.seq (.ops qd) .ret)
 .skip)) (.seq (.seq (.ops qe) (.cond (.var 8)
 (.seq (.ops qf) (.seq (.ops qg) .ret))
 .skip)) (.seq (.ops qj) (.seq (.ops qk) .ret))))))),[((.var 4),some 24)]⟩
def Zi:List AA:=[
 A1q 24 (.var 0) 1,
 A1r 24 2]
def Zj:List AA:=[
 A1m 24 (.var 1),
 A1u 122 [.loc 0],
 A1o 24 (.var 1) (.loc 0)]
def Zk:List AA:=[
 A1n 24 0 (.var 1),
 A1m 4 (.loc 0),
 ⟨none,.p1 (Sy Tryz.prog Go.UnOp.not),[.loc 0],.push,[]⟩,
 A1n 24 1 (.var 1),
 A1m 22 (.loc 0),
 ⟨none,.p (fun l=>Be Tryz.prog 24 (zipIdx [0,1] l)),[.loc 2,.loc 0],.push,[]⟩,
 A1u 122 [.loc 0],
 A1o 24 (.var 2) (.loc 0)]
def ve:Ah:=⟨1,3,(.seq (.ops Zi) (.seq (.ops Zj) (.seq (.ops Zk) .ret))),[((.var 2),some 24)]⟩
def qP:List AA:=[
 A1q 24 (.var 0) 2,
 A1q 24 (.var 1) 3,
 A1r 26 4]
def qQ:List AA:=[
 A1m 24 (.var 2),
 A1u 122 [.loc 0],
 A1o 24 (.var 2) (.loc 0)]
def qR:List AA:=[
 A1m 24 (.var 3),
 A1u 122 [.loc 0],
 A1o 24 (.var 3) (.loc 0)]
def qS:List AA:=[
 A1n 24 1 (.var 2),
 A1m 22 (.loc 0),
 A1n 24 1 (.var 3),
 A1m 22 (.loc 0),
 A1u 57 [.loc 2,.loc 0],
 A1p (.loc 0) 5]
def qT:List AA:=[
 A1n 24 1 (.var 2),
 A1m 22 (.loc 0),
 A1u 123 [.loc 0,.var 5],
 ⟨none,.p1 (fun x=>Zb x 0),[.loc 0],.push,[]⟩,
 ⟨none,.p1 (fun x=>Zb x 1),[.loc 1],.push,[]⟩,
 ⟨none,.p1 (fun x=>Zb x 2),[.loc 2],.push,[]⟩,
 A1p (.loc 2) 6,
 A1t (.loc 1),
 A1t (.loc 1)]
def qU:List AA:=[
 A1n 24 1 (.var 3),
 A1m 22 (.loc 0),
 A1u 123 [.loc 0,.var 5],
 ⟨none,.p1 (fun x=>Zb x 0),[.loc 0],.push,[]⟩,
 ⟨none,.p1 (fun x=>Zb x 1),[.loc 1],.push,[]⟩,
 ⟨none,.p1 (fun x=>Zb x 2),[.loc 2],.push,[]⟩,
 A1p (.loc 2) 7,
 A1t (.loc 1),
 A1t (.loc 1)]
def qV:List AA:=[
 A1n 24 0 (.var 2),
 A1m 4 (.loc 0),
 A1n 24 0 (.var 3),
 A1m 4 (.loc 0),
 A1w .neq 4 (.loc 2) (.loc 0),
 ⟨none,.p (fun l=>Be Tryz.prog 24 (zipIdx [0,1] l)),[.loc 0,.var 6],.push,[]⟩,
 A1u 122 [.loc 0],
 ⟨none,.p (fun l=>Be Tryz.prog 26 (zipIdx [0,1] l)),[.loc 0,.var 7],.push,[]⟩,
 A1o 26 (.var 4) (.loc 0)]
def zI:Ah:=⟨2,8,(.seq (.ops qP) (.seq (.ops qQ) (.seq (.ops qR) (.seq (.ops qS) (.seq (.ops qT) (.seq (.ops qU) (.seq (.ops qV) .ret))))))),[((.var 4),some 26)]⟩
def qn:List AA:=[
 A1q 26 (.var 0) 1,
 A1r 24 2]
def qo:List AA:=[
 A1n 26 1 (.var 1),
 A1m 22 (.loc 0),
 A1u 127 [.loc 0],
 A1p (.loc 0) 3]
def eF:List AA:=[
 A1s 22 (.var 3),
 ⟨none,.p2 (AN Tryz.prog .eql 3),[(.loc 0),(.const (.int .i64 (0)))],(.set 4),[]⟩]
def qp:List AA:=[
 ⟨none,.mk (fun l=>(Ad Tryz.prog 22 1 (zipIdx [0] l)).bind fun r=>some (r,.slice 1)),[(.const (.int .u32 (1)))],.push,[]⟩,
 A1p (.loc 0) 3]
def eG:List AA:=[
 ⟨none,.p (fun l=>Be Tryz.prog 24 (zipIdx [1] l)),[.var 3],.push,[]⟩,
 A1o 24 (.var 2) (.loc 0)]
def zL:Ah:=⟨1,5,(.seq (.ops qn) (.seq (.ops qo) (.seq (.seq (.ops eF) (.cond (.var 4)
 (.ops qp)
 .skip)) (.seq (.ops eG) .ret)))),[((.var 2),some 24)]⟩
def qD:List AA:=[
 A1q 26 (.var 0) 1,
 A1r 26 2]
def qE:List AA:=[
 A1n 26 0 (.var 1),
 A1m 24 (.loc 0),
 A1m 26 (.var 1),
 ⟨none,.call 83,[.loc 0],.push,[⟨none,.r1 (fun s a=>AB Tryz.prog s 24 a),[.loc 3],(.loc 2)⟩]⟩,
 A1u 80 [.loc 2,.loc 0],
 A1o 26 (.var 2) (.loc 0)]
def zD:Ah:=⟨1,3,(.seq (.ops qD) (.seq (.ops qE) .ret)),[((.var 2),some 26)]⟩
def qF:List AA:=[
 A1q 26 (.var 0) 1,
 A1r 26 2]
def qG:List AA:=[
 A1n 26 0 (.var 1),
 A1m 24 (.loc 0),
 A1m 26 (.var 1),
 ⟨none,.call 118,[.loc 1],.push,[⟨none,.r1 (fun s a=>AB Tryz.prog s 26 a),[.var 1],(.loc 1)⟩]⟩,
 A1u 83 [.loc 1],
 A1u 80 [.loc 1,.loc 0],
 A1o 26 (.var 2) (.loc 0)]
def zE:Ah:=⟨1,3,(.seq (.ops qF) (.seq (.ops qG) .ret)),[((.var 2),some 26)]⟩
def nr:List AA:=[
 A1q 26 (.var 0) 2,
 A1q 26 (.var 1) 3,
 A1r 26 4]
def ny:List AA:=[
 A1n 26 0 (.var 2),
 A1m 24 (.loc 0),
 A1m 26 (.var 3),
 A1n 26 0 (.var 3),
 A1m 24 (.loc 0),
 A1m 26 (.var 2),
 A1m 26 (.var 2),
 A1m 26 (.var 3),
 ⟨none,.call 83,[.loc 5],.push,[⟨none,.r1 (fun s a=>AB Tryz.prog s 26 a),[.var 3],(.loc 1)⟩,⟨none,.r1 (fun s a=>AB Tryz.prog s 26 a),[.var 2],(.loc 2)⟩,⟨none,.r1 (fun s a=>AB Tryz.prog s 26 a),[.var 2],(.loc 3)⟩,⟨none,.r1 (fun s a=>AB Tryz.prog s 24 a),[.loc 5],(.loc 4)⟩,⟨none,.r1 (fun s a=>AB Tryz.prog s 24 a),[.loc 8],(.loc 7)⟩]⟩,
 ⟨none,.call 82,[.loc 7,.loc 0],.push,[⟨none,.r1 (fun s a=>AB Tryz.prog s 26 a),[.var 3],(.loc 2)⟩,⟨none,.r1 (fun s a=>AB Tryz.prog s 26 a),[.var 2],(.loc 3)⟩,⟨none,.r1 (fun s a=>AB Tryz.prog s 26 a),[.var 2],(.loc 4)⟩,⟨none,.r1 (fun s a=>AB Tryz.prog s 24 a),[.loc 6],(.loc 5)⟩]⟩,
 ⟨none,.call 83,[.loc 4],.push,[⟨none,.r1 (fun s a=>AB Tryz.prog s 26 a),[.var 3],(.loc 3)⟩,⟨none,.r1 (fun s a=>AB Tryz.prog s 26 a),[.var 2],(.loc 4)⟩,⟨none,.r1 (fun s a=>AB Tryz.prog s 24 a),[.loc 7],(.loc 6)⟩]⟩,
 ⟨none,.call 82,[.loc 6,.loc 0],.push,[⟨none,.r1 (fun s a=>AB Tryz.prog s 26 a),[.var 3],(.loc 4)⟩,⟨none,.r1 (fun s a=>AB Tryz.prog s 26 a),[.var 2],(.loc 5)⟩]⟩,
 ⟨none,.call 81,[.loc 2,.loc 0],.push,[⟨none,.r1 (fun s a=>AB Tryz.prog s 26 a),[.var 3],(.loc 5)⟩,⟨none,.r1 (fun s a=>AB Tryz.prog s 26 a),[.var 2],(.loc 6)⟩]⟩,
 ⟨none,.call 83,[.loc 6],.push,[⟨none,.r1 (fun s a=>AB Tryz.prog s 26 a),[.var 3],(.loc 6)⟩]⟩,
 A1u 83 [.loc 6],
 A1u 82 [.loc 1,.loc 0],
 A1u 80 [.loc 3,.loc 0],
 A1o 26 (.var 4) (.loc 0)]
def yf:Ah:=⟨2,5,(.seq (.ops nr) (.seq (.ops ny) .ret)),[((.var 4),some 26)]⟩
def nz:List AA:=[
 A1q 26 (.var 0) 2,
 A1q 26 (.var 1) 3,
 A1r 26 4]
def oA:List AA:=[
 A1n 26 0 (.var 2),
 A1m 24 (.loc 0),
 A1n 26 0 (.var 3),
 A1m 24 (.loc 0),
 A1m 26 (.var 2),
 A1m 26 (.var 3),
 ⟨none,.call 82,[.loc 4,.loc 2],.push,[⟨none,.r1 (fun s a=>AB Tryz.prog s 26 a),[.var 3],(.loc 1)⟩,⟨none,.r1 (fun s a=>AB Tryz.prog s 26 a),[.var 2],(.loc 2)⟩]⟩,
 ⟨none,.call 83,[.loc 2],.push,[⟨none,.r1 (fun s a=>AB Tryz.prog s 26 a),[.var 3],(.loc 2)⟩]⟩,
 A1u 83 [.loc 2],
 A1u 82 [.loc 1,.loc 0],
 A1u 80 [.loc 3,.loc 0],
 A1o 26 (.var 4) (.loc 0)]
def yg:Ah:=⟨2,5,(.seq (.ops nz) (.seq (.ops oA) .ret)),[((.var 4),some 26)]⟩
def Yn:List AA:=[
 A1q 26 (.var 0) 1,
 A1p (.const (.bool false)) 2]
def Yo:List AA:=[
 A1n 26 0 (.var 1),
 A1n 24 1 (.loc 0),
 A1m 22 (.loc 0),
 A1u 127 [.loc 0],
 A1s 22 (.loc 0),
 ⟨none,.p2 (AN Tryz.prog .eql 3),[(.loc 0),(.const (.int .i64 (0)))],.push,[]⟩,
 A1p (.loc 0) 2]
def vM:Ah:=⟨1,3,(.seq (.ops Yn) (.seq (.ops Yo) .ret)),[((.var 2),none)]⟩
def oo:List AA:=[
 A1q 26 (.var 0) 1,
 A1p (.const (.int .i64 (0))) 2]
def oq:List AA:=[
 A1m 26 (.var 1),
 ⟨none,.call 101,[.loc 0],(.set 3),[]⟩]
def ot:List AA:=[
 A1p (.const (.int .i64 (0))) 2]
def dc:List AA:=[
 A1n 26 0 (.var 1),
 A1n 24 0 (.loc 0),
 ⟨none,.r1 (fun s a=>AB Tryz.prog s 4 a),[.loc 0],(.set 4),[]⟩]
def ou:List AA:=[
 A1p (.const (.int .i64 (-1))) 2]
def ov:List AA:=[
 A1p (.const (.int .i64 (1))) 2]
def yq:Ah:=⟨1,5,(.seq (.ops oo) (.seq (.seq (.ops oq) (.cond (.var 3)
 (.seq (.ops ot) .ret)
 .skip)) (.seq (.seq (.ops dc) (.cond (.var 4)
 (.seq (.ops ou) .ret)
 .skip)) (.seq (.ops ov) .ret)))),[((.var 2),none)]⟩
def ng:List AA:=[
 A1q 30 (.var 0) 1,
 A1r 30 2]
def nh:List AA:=[
 A1n 30 0 (.var 1),
 A1m 26 (.loc 0),
 A1u 74 [.loc 0],
 ⟨none,.p (fun l=>Be Tryz.prog 30 (zipIdx [0] l)),[.loc 0],.push,[]⟩,
 A1r 30 3,
 A1o 30 (.var 3) (.loc 0)]
def ni:List AA:=[
 A1n 30 1 (.var 1),
 A1m 27 (.loc 0),
 A1s 27 (.loc 0),
 A1n 30 2 (.var 1),
 A1m 28 (.loc 0),
 A1s 28 (.loc 0),
 ⟨none,.p (fun l=>match l with | v::l=>Ch false v l | []=>none),[.loc 3,.loc 0],.push,[]⟩,
 A1p (.loc 0) 4]
def nj:List AA:=[
 A1p (.const (.int .i64 (0))) 5]
def dC:List AA:=[
 A1x .lss 3 (.var 5) (.var 4) 12]
def nk:List AA:=[
 A1n 30 1 (.var 1),
 A1m 27 (.loc 0),
 A1v 27 (.loc 0) (.var 5),
 A1m 3 (.loc 0),
 A1p (.loc 0) 6]
def nl:List AA:=[
 A1p (.const (.bool false)) 7]
def np:List AA:=[
 A1p (.const (.int .i64 (0))) 8]
def Vg:List AA:=[
 A1x .lss 3 (.var 8) (.var 5) 13]
def dD:List AA:=[
 A1t (.var 7),
 ⟨(some ((.loc 0),false)),.p1 (fun x=>AC Tryz.prog 30 x 1),[.var 1],.push,[]⟩,
 ⟨(some ((.loc 1),false)),.r1 (fun s a=>AB Tryz.prog s 27 a),[.loc 0],.push,[]⟩,
 ⟨(some ((.loc 2),false)),.p1 some,[.var 8],.push,[]⟩,
 ⟨(some ((.loc 3),false)),.p2 (AJ Tryz.prog 27),[.loc 1,.loc 0],.push,[]⟩,
 ⟨(some ((.loc 4),false)),.r1 (fun s a=>AB Tryz.prog s 3 a),[.loc 0],.push,[]⟩,
 ⟨(some ((.loc 5),false)),.p1 some,[.var 6],.push,[]⟩,
 ⟨(some ((.loc 6),false)),.p2 (AN Tryz.prog .eql 3),[.loc 1,.loc 0],.push,[]⟩,
 ⟨none,.p Ru,[(.loc 7),(.const (.bool true)),(.loc 0)],.push,[]⟩,
 A1p (.loc 0) 7]
def Tn:List AA:=[
 A1t (.var 8),
 ⟨none,.p2 (AN Tryz.prog .add 3),[(.loc 0),(.const (.int .i64 (1)))],.push,[]⟩,
 A1p (.loc 0) 8]
def Jv:Ac:=(.seq (.seq (.ops Vg) (.cond (.var 13)
 .skip
 (.exit 2))) (.seq (.block 3 (.ops dD)) (.ops Tn)))
def To:List AA:=[
 A1p (.var 7) 14]
def ck:List AA:=[
 ⟨none,.p (fun l=>Be Tryz.prog 26 (zipIdx [] l)),[],.push,[]⟩,
 A1u 74 [.loc 0],
 A1r 26 9,
 A1o 26 (.var 9) (.loc 0)]
def cl:List AA:=[
 A1p (.var 5) 10]
def PL:List AA:=[
 A1x .lss 3 (.var 10) (.var 4) 15]
def Tp:List AA:=[
 A1n 30 1 (.var 1),
 A1m 27 (.loc 0),
 A1v 27 (.loc 0) (.var 10),
 A1m 3 (.loc 0),
 A1x .eql 3 (.loc 0) (.var 6) 16]
def cn:List AA:=[
 A1m 26 (.var 9),
 A1n 30 2 (.var 1),
 A1m 28 (.loc 0),
 A1v 28 (.loc 0) (.var 10),
 A1m 26 (.loc 0),
 A1u 44 [.loc 4,.loc 0],
 A1o 26 (.var 9) (.loc 0)]
def Tq:List AA:=[
 A1t (.var 10),
 ⟨none,.p2 (AN Tryz.prog .add 3),[(.loc 0),(.const (.int .i64 (1)))],.push,[]⟩,
 A1p (.loc 0) 10]
def Jw:Ac:=(.seq (.seq (.ops PL) (.cond (.var 15)
 .skip
 (.exit 4))) (.seq (.block 5 (.seq (.ops Tp) (.cond (.var 16)
 (.ops cn)
 .skip))) (.ops Tq)))
def cy:List AA:=[
 A1m 26 (.var 9),
 A1u 54 [.loc 0],
 ⟨none,.p2 (AN Tryz.prog .eql 3),[(.loc 0),(.const (.int .i64 (0)))],(.set 17),[]⟩]
def dA:List AA:=[
 A1p (.const (.int .i64 (0))) 11]
def PM:List AA:=[
 A1n 30 1 (.var 3),
 A1m 27 (.loc 0),
 A1s 27 (.loc 0),
 A1w .lss 3 (.var 11) (.loc 0),
 ⟨(some ((.loc 0),true)),.p1 (fun x=>AC Tryz.prog 30 x 1),[.var 3],.push,[]⟩,
 ⟨(some ((.loc 1),true)),.r1 (fun s a=>AB Tryz.prog s 27 a),[.loc 0],.push,[]⟩,
 ⟨(some ((.loc 2),true)),.p1 some,[.var 11],.push,[]⟩,
 ⟨(some ((.loc 3),true)),.p2 (AJ Tryz.prog 27),[.loc 1,.loc 0],.push,[]⟩,
 ⟨(some ((.loc 4),true)),.r1 (fun s a=>AB Tryz.prog s 3 a),[.loc 0],.push,[]⟩,
 ⟨(some ((.loc 5),true)),.p1 some,[.var 6],.push,[]⟩,
 ⟨(some ((.loc 6),true)),.p2 (AN Tryz.prog .lss 3),[.loc 1,.loc 0],.push,[]⟩,
 ⟨none,.p Ru,[(.loc 7),(.loc 0),(.const (.bool false))],(.set 18),[]⟩]
def Tr:List AA:=[
 A1t (.var 11),
 ⟨none,.p2 (AN Tryz.prog .add 3),[(.loc 0),(.const (.int .i64 (1)))],.push,[]⟩,
 A1p (.loc 0) 11]
def Jx:Ac:=(.seq (.seq (.ops PM) (.cond (.var 18)
 .skip
 (.exit 6))) (.block 7 (.ops Tr)))
def Ts:List AA:=[
 ⟨none,.mk (fun l=>(Ad Tryz.prog 27 0 (zipIdx [] l)).bind fun r=>some (r,.slice 0)),[],.push,[]⟩,
 A1n 30 1 (.var 3),
 A1m 27 (.loc 0),
 ⟨none,.r (At Tryz.prog 27 false true false),[.loc 0,.var 11],.push,[]⟩,
 ⟨none,.mk (fun l=>(Ad Tryz.prog 27 1 (zipIdx [0] l)).bind fun r=>some (r,.slice 1)),[.var 6],.push,[]⟩,
 A1n 30 1 (.var 3),
 A1m 27 (.loc 0),
 ⟨none,.r (At Tryz.prog 27 true false false),[.loc 0,.var 11],.push,[]⟩,
 ⟨none,.e (fun s l=>Aj Tryz.prog s [27,27] l),[.loc 7,.loc 4],.push,[⟨none,.r (At Tryz.prog 27 true false false),[.loc 2,.var 11],(.loc 1)⟩,⟨none,.r1 (fun s a=>AB Tryz.prog s 27 a),[.loc 3],(.loc 2)⟩]⟩,
 ⟨none,.e (fun s l=>Aj Tryz.prog s [27,27] l),[.loc 0,.loc 4],.push,[⟨none,.r (At Tryz.prog 27 true false false),[.loc 3,.var 11],(.loc 2)⟩,⟨none,.r1 (fun s a=>AB Tryz.prog s 27 a),[.loc 4],(.loc 3)⟩]⟩,
 ⟨none,.e (fun s l=>Aj Tryz.prog s [27,27] l),[.loc 0,.loc 2],.push,[]⟩,
 A1n 30 1 (.var 3),
 A1o 27 (.loc 0) (.loc 1)]
def Tt:List AA:=[
 ⟨none,.mk (fun l=>(Ad Tryz.prog 28 0 (zipIdx [] l)).bind fun r=>some (r,.slice 0)),[],.push,[]⟩,
 A1n 30 2 (.var 3),
 A1m 28 (.loc 0),
 ⟨none,.r (At Tryz.prog 28 false true false),[.loc 0,.var 11],.push,[]⟩,
 A1m 26 (.var 9),
 ⟨none,.mk (fun l=>(Ad Tryz.prog 28 1 (zipIdx [0] l)).bind fun r=>some (r,.slice 1)),[.loc 0],.push,[]⟩,
 A1n 30 2 (.var 3),
 A1m 28 (.loc 0),
 ⟨none,.r (At Tryz.prog 28 true false false),[.loc 0,.var 11],.push,[]⟩,
 ⟨none,.e (fun s l=>Aj Tryz.prog s [28,28] l),[.loc 8,.loc 5],.push,[⟨none,.r (At Tryz.prog 28 true false false),[.loc 2,.var 11],(.loc 1)⟩,⟨none,.r1 (fun s a=>AB Tryz.prog s 28 a),[.loc 3],(.loc 2)⟩,⟨none,.r1 (fun s a=>AB Tryz.prog s 26 a),[.var 9],(.loc 5)⟩]⟩,
 ⟨none,.e (fun s l=>Aj Tryz.prog s [28,28] l),[.loc 0,.loc 4],.push,[⟨none,.r (At Tryz.prog 28 true false false),[.loc 3,.var 11],(.loc 2)⟩,⟨none,.r1 (fun s a=>AB Tryz.prog s 28 a),[.loc 4],(.loc 3)⟩]⟩,
 ⟨none,.e (fun s l=>Aj Tryz.prog s [28,28] l),[.loc 0,.loc 2],.push,[]⟩,
 A1n 30 2 (.var 3),
 A1o 28 (.loc 0) (.loc 1)]
def PN:List AA:=[
 A1t (.var 5),
 ⟨none,.p2 (AN Tryz.prog .add 3),[(.loc 0),(.const (.int .i64 (1)))],.push,[]⟩,
 A1p (.loc 0) 5]
def Lx:Ac:=(.seq (.seq (.ops dC) (.cond (.var 12)
 .skip
 (.exit 0))) (.seq (.block 1 (.seq (.ops nk) (.seq (.ops nl) (.seq (.seq (.ops np) (.block 2 (.loop Jv))) (.seq (.seq (.ops To) (.cond (.var 14)
 (.exit 1)
 .skip)) (.seq (.ops ck) (.seq (.seq (.ops cl) (.block 4 (.loop Jw))) (.seq (.seq (.ops cy) (.cond (.var 17)
 (.exit 1)
 .skip)) (.seq (.ops dA) (.seq (.block 6 (.loop Jx)) (.seq (.ops Ts) (.ops Tt)))))))))))) (.ops PN)))
def dB:List AA:=[
 A1m 30 (.var 3),
 A1o 30 (.var 2) (.loc 0)]
def ye:Ah:=⟨1,19,(.seq (.ops ng) (.seq (.ops nh) (.seq (.ops ni) (.seq (.seq (.ops nj) (.block 0 (.loop Lx))) (.seq (.ops dB) .ret))))),[((.var 2),some 30)]⟩
def qH:List AA:=[
 A1r 26 0]
def qI:List AA:=[
 ⟨none,.mk (fun l=>(Ad Tryz.prog 22 1 (zipIdx [0] l)).bind fun r=>some (r,.slice 1)),[(.const (.int .u32 (1)))],.push,[]⟩,
 ⟨none,.p (fun l=>Be Tryz.prog 24 (zipIdx [1] l)),[.loc 0],.push,[]⟩,
 ⟨none,.p (fun l=>Be Tryz.prog 26 (zipIdx [0] l)),[.loc 0],.push,[]⟩,
 A1u 74 [.loc 0],
 A1o 26 (.var 0) (.loc 0)]
def zF:Ah:=⟨0,1,(.seq (.ops qH) (.seq (.ops qI) .ret)),[((.var 0),some 26)]⟩
def nI:List AA:=[
 A1r 30 1]
def nJ:List AA:=[
 ⟨none,.p (fun l=>Be Tryz.prog 26 (zipIdx [] l)),[],.push,[]⟩,
 A1u 74 [.loc 0],
 ⟨none,.mk (fun l=>(Ad Tryz.prog 27 1 (zipIdx [0] l)).bind fun r=>some (r,.slice 1)),[.var 0],.push,[]⟩,
 A1u 76 [],
 ⟨none,.mk (fun l=>(Ad Tryz.prog 28 1 (zipIdx [0] l)).bind fun r=>some (r,.slice 1)),[.loc 0],.push,[]⟩,
 ⟨none,.p (fun l=>Be Tryz.prog 30 (zipIdx [0,1,2] l)),[.loc 3,.loc 2,.loc 0],.push,[]⟩,
 A1o 30 (.var 1) (.loc 0)]
def yW:Ah:=⟨1,2,(.seq (.ops nI) (.seq (.ops nJ) .ret)),[((.var 1),some 30)]⟩
def nK:List AA:=[
 A1q 30 (.var 0) 2,
 A1q 30 (.var 1) 3,
 A1r 30 4]
def nL:List AA:=[
 A1m 30 (.var 2),
 A1u 43 [.loc 0],
 A1o 30 (.var 2) (.loc 0)]
def nM:List AA:=[
 A1m 30 (.var 3),
 A1u 43 [.loc 0],
 A1o 30 (.var 3) (.loc 0)]
def nN:List AA:=[
 A1n 30 0 (.var 2),
 A1m 26 (.loc 0),
 A1n 30 0 (.var 3),
 A1m 26 (.loc 0),
 ⟨none,.mk (fun l=>(Ad Tryz.prog 27 0 (zipIdx [] l)).bind fun r=>some (r,.slice 0)),[],.push,[]⟩,
 A1n 30 1 (.var 2),
 A1m 27 (.loc 0),
 A1n 30 1 (.var 3),
 A1m 27 (.loc 0),
 ⟨none,.mk (fun l=>(Ad Tryz.prog 28 0 (zipIdx [] l)).bind fun r=>some (r,.slice 0)),[],.push,[]⟩,
 A1n 30 2 (.var 2),
 A1m 28 (.loc 0),
 A1n 30 2 (.var 3),
 A1m 28 (.loc 0),
 ⟨none,.call 44,[.loc 12,.loc 10],.push,[⟨none,.r1 (fun s a=>AB Tryz.prog s 28 a),[.loc 2],(.loc 1)⟩,⟨none,.r1 (fun s a=>AB Tryz.prog s 28 a),[.loc 4],(.loc 3)⟩,⟨none,.r1 (fun s a=>AB Tryz.prog s 27 a),[.loc 7],(.loc 6)⟩,⟨none,.r1 (fun s a=>AB Tryz.prog s 27 a),[.loc 9],(.loc 8)⟩]⟩,
 ⟨none,.e (fun s l=>Aj Tryz.prog s [27,27] l),[.loc 10,.loc 8],.push,[⟨none,.r1 (fun s a=>AB Tryz.prog s 28 a),[.loc 3],(.loc 2)⟩,⟨none,.r1 (fun s a=>AB Tryz.prog s 28 a),[.loc 5],(.loc 4)⟩,⟨none,.r1 (fun s a=>AB Tryz.prog s 27 a),[.loc 8],(.loc 7)⟩]⟩,
 ⟨none,.e (fun s l=>Aj Tryz.prog s [27,27] l),[.loc 0,.loc 7],.push,[⟨none,.r1 (fun s a=>AB Tryz.prog s 28 a),[.loc 4],(.loc 3)⟩,⟨none,.r1 (fun s a=>AB Tryz.prog s 28 a),[.loc 6],(.loc 5)⟩]⟩,
 ⟨none,.e (fun s l=>Aj Tryz.prog s [28,28] l),[.loc 7,.loc 5],.push,[⟨none,.r1 (fun s a=>AB Tryz.prog s 28 a),[.loc 5],(.loc 4)⟩]⟩,
 ⟨none,.e (fun s l=>Aj Tryz.prog s [28,28] l),[.loc 0,.loc 4],.push,[]⟩,
 ⟨none,.p (fun l=>Be Tryz.prog 30 (zipIdx [0,1,2] l)),[.loc 4,.loc 2,.loc 0],.push,[]⟩,
 A1u 43 [.loc 0],
 A1o 30 (.var 4) (.loc 0)]
def yX:Ah:=⟨2,5,(.seq (.ops nK) (.seq (.ops nL) (.seq (.ops nM) (.seq (.ops nN) .ret)))),[((.var 4),some 30)]⟩
def mz:List AA:=[
 A1q 30 (.var 0) 2,
 A1q 26 (.var 1) 3,
 A1r 30 4]
def nC:List AA:=[
 A1m 30 (.var 2),
 A1u 43 [.loc 0],
 A1o 30 (.var 2) (.loc 0)]
def nD:List AA:=[
 A1n 30 0 (.var 2),
 A1m 26 (.loc 0),
 A1m 26 (.var 3),
 A1n 30 1 (.var 2),
 A1m 27 (.loc 0),
 A1r 30 5,
 ⟨none,.call 45,[.loc 3,.loc 2],.push,[⟨none,.r1 (fun s a=>AB Tryz.prog s 27 a),[.loc 2],(.loc 1)⟩]⟩,
 ⟨none,.p (fun l=>Be Tryz.prog 30 (zipIdx [0,1] l)),[.loc 0,.loc 1],.push,[]⟩,
 A1o 30 (.var 5) (.loc 0)]
def nE:List AA:=[
 A1p (.const (.int .i64 (0))) 6]
def cV:List AA:=[
 A1n 30 2 (.var 2),
 A1m 28 (.loc 0),
 A1s 28 (.loc 0),
 A1x .lss 3 (.var 6) (.loc 0) 7]
def nF:List AA:=[
 A1n 30 2 (.var 5),
 A1m 28 (.loc 0),
 A1n 30 2 (.var 2),
 A1m 28 (.loc 0),
 A1v 28 (.loc 0) (.var 6),
 A1m 26 (.loc 0),
 A1m 26 (.var 3),
 ⟨none,.call 45,[.loc 1,.loc 0],.push,[⟨none,.r1 (fun s a=>AB Tryz.prog s 28 a),[.loc 7],(.loc 6)⟩]⟩,
 ⟨none,.mk (fun l=>(Ad Tryz.prog 28 1 (zipIdx [0] l)).bind fun r=>some (r,.slice 1)),[.loc 0],.push,[]⟩,
 ⟨none,.e (fun s l=>Aj Tryz.prog s [28,28] l),[.loc 7,.loc 0],.push,[]⟩,
 A1n 30 2 (.var 5),
 A1o 28 (.loc 0) (.loc 1)]
def nG:List AA:=[
 A1t (.var 6),
 ⟨none,.p2 (AN Tryz.prog .add 3),[(.loc 0),(.const (.int .i64 (1)))],.push,[]⟩,
 A1p (.loc 0) 6]
def RA:Ac:=(.seq (.seq (.ops cV) (.cond (.var 7)
 .skip
 (.exit 0))) (.seq (.block 1 (.ops nF)) (.ops nG)))
def nH:List AA:=[
 A1m 30 (.var 5),
 A1u 43 [.loc 0],
 A1o 30 (.var 4) (.loc 0)]
def yV:Ah:=⟨2,8,(.seq (.ops mz) (.seq (.ops nC) (.seq (.ops nD) (.seq (.seq (.ops nE) (.block 0 (.loop RA))) (.seq (.ops nH) .ret))))),[((.var 4),some 30)]⟩
def mu:List AA:=[
 A1q 30 (.var 0) 2,
 A1q 30 (.var 1) 3,
 A1r 30 4]
def my:List AA:=[
 A1m 30 (.var 2),
 A1m 30 (.var 3),
 ⟨none,.call 76,[],.push,[⟨none,.r1 (fun s a=>AB Tryz.prog s 30 a),[.var 3],(.loc 1)⟩,⟨none,.r1 (fun s a=>AB Tryz.prog s 30 a),[.var 2],(.loc 2)⟩]⟩,
 ⟨none,.call 75,[.loc 0],.push,[⟨none,.r1 (fun s a=>AB Tryz.prog s 30 a),[.var 3],(.loc 2)⟩,⟨none,.r1 (fun s a=>AB Tryz.prog s 30 a),[.var 2],(.loc 3)⟩]⟩,
 ⟨none,.call 37,[.loc 2,.loc 0],.push,[⟨none,.r1 (fun s a=>AB Tryz.prog s 30 a),[.var 2],(.loc 4)⟩]⟩,
 A1u 39 [.loc 4,.loc 0],
 A1o 30 (.var 4) (.loc 0)]
def yU:Ah:=⟨2,5,(.seq (.ops mu) (.seq (.ops my) .ret)),[((.var 4),some 30)]⟩
def mo:List AA:=[
 A1q 30 (.var 0) 2,
 A1r 26 3]
def mp:List AA:=[
 A1m 30 (.var 2),
 A1u 43 [.loc 0],
 A1o 30 (.var 2) (.loc 0)]
def mq:List AA:=[
 A1p (.const (.int .i64 (0))) 4]
def Ve:List AA:=[
 A1n 30 1 (.var 2),
 A1m 27 (.loc 0),
 A1s 27 (.loc 0),
 A1x .lss 3 (.var 4) (.loc 0) 5]
def cU:List AA:=[
 A1n 30 1 (.var 2),
 A1m 27 (.loc 0),
 A1v 27 (.loc 0) (.var 4),
 A1m 3 (.loc 0),
 A1x .eql 3 (.loc 0) (.var 1) 6]
def mr:List AA:=[
 A1n 30 2 (.var 2),
 A1m 28 (.loc 0),
 A1v 28 (.loc 0) (.var 4),
 A1m 26 (.loc 0),
 A1o 26 (.var 3) (.loc 0)]
def ms:List AA:=[
 A1t (.var 4),
 ⟨none,.p2 (AN Tryz.prog .add 3),[(.loc 0),(.const (.int .i64 (1)))],.push,[]⟩,
 A1p (.loc 0) 4]
def Nm:Ac:=(.seq (.seq (.ops Ve) (.cond (.var 5)
 .skip
 (.exit 0))) (.seq (.block 1 (.seq (.ops cU) (.cond (.var 6)
 (.seq (.ops mr) .ret)
 .skip))) (.ops ms)))
def mt:List AA:=[
 ⟨none,.p (fun l=>Be Tryz.prog 26 (zipIdx [] l)),[],.push,[]⟩,
 A1u 74 [.loc 0],
 A1o 26 (.var 3) (.loc 0)]
def yT:Ah:=⟨2,7,(.seq (.ops mo) (.seq (.ops mp) (.seq (.seq (.ops mq) (.block 0 (.loop Nm))) (.seq (.ops mt) .ret)))),[((.var 3),some 26)]⟩
def lP:List AA:=[
 A1q 30 (.var 0) 3,
 A1q 30 (.var 2) 4,
 A1r 30 5]
def lQ:List AA:=[
 A1m 30 (.var 3),
 A1u 35 [.loc 0,.var 1],
 A1r 26 6,
 A1o 26 (.var 6) (.loc 0)]
def lR:List AA:=[
 A1m 30 (.var 3),
 A1m 26 (.var 6),
 A1r 30 7,
 ⟨none,.call 38,[.var 1],.push,[⟨none,.r1 (fun s a=>AB Tryz.prog s 26 a),[.var 6],(.loc 1)⟩,⟨none,.r1 (fun s a=>AB Tryz.prog s 30 a),[.var 3],(.loc 2)⟩]⟩,
 ⟨none,.call 37,[.loc 0,.loc 1],.push,[⟨none,.r1 (fun s a=>AB Tryz.prog s 30 a),[.var 3],(.loc 3)⟩]⟩,
 A1u 36 [.loc 3,.loc 0],
 A1o 30 (.var 7) (.loc 0)]
def lT:List AA:=[
 A1m 30 (.var 7),
 A1m 30 (.var 4),
 A1m 26 (.var 6),
 ⟨none,.call 37,[.loc 1,.loc 0],.push,[⟨none,.r1 (fun s a=>AB Tryz.prog s 30 a),[.var 7],(.loc 3)⟩]⟩,
 A1u 39 [.loc 3,.loc 0],
 A1o 30 (.var 5) (.loc 0)]
def yJ:Ah:=⟨3,8,(.seq (.ops lP) (.seq (.ops lQ) (.seq (.ops lR) (.seq (.ops lT) .ret)))),[((.var 5),some 30)]⟩
def lu:List AA:=[
 A1q 30 (.var 0) 3,
 A1r 26 4]
def lz:List AA:=[
 A1m 30 (.var 3),
 A1u 43 [.loc 0],
 A1o 30 (.var 3) (.loc 0)]
def mC:List AA:=[
 A1n 30 0 (.var 3),
 A1m 26 (.loc 0),
 A1r 26 5,
 A1o 26 (.var 5) (.loc 0)]
def mD:List AA:=[
 A1p (.const (.int .i64 (0))) 6]
def bJ:List AA:=[
 A1n 30 1 (.var 3),
 A1m 27 (.loc 0),
 A1s 27 (.loc 0),
 A1x .lss 3 (.var 6) (.loc 0) 8]
def mE:List AA:=[
 A1p (.const (.int .i64 (0))) 7]
def Q4:List AA:=[
 A1s 27 (.var 1),
 A1w .lss 3 (.var 7) (.loc 0),
 ⟨(some ((.loc 0),true)),.p1 some,[.var 7],.push,[]⟩,
 ⟨(some ((.loc 1),true)),.p1 some,[.var 2],.push,[]⟩,
 ⟨(some ((.loc 2),true)),.r (fun s l=>match l with | [x]=>Ay Tryz.prog s 28 x | _=>none),[.loc 0],.push,[]⟩,
 ⟨(some ((.loc 3),true)),.p2 (AN Tryz.prog .lss 3),[.loc 2,.loc 0],.push,[]⟩,
 ⟨none,.p Ru,[(.loc 4),(.loc 0),(.const (.bool false))],(.set 9),[]⟩]
def bK:List AA:=[
 A1v 27 (.var 1) (.var 7),
 A1m 3 (.loc 0),
 A1n 30 1 (.var 3),
 A1m 27 (.loc 0),
 A1v 27 (.loc 0) (.var 6),
 A1m 3 (.loc 0),
 A1x .eql 3 (.loc 4) (.loc 0) 10]
def mF:List AA:=[
 A1m 26 (.var 5),
 A1n 30 2 (.var 3),
 A1m 28 (.loc 0),
 A1v 28 (.loc 0) (.var 6),
 A1m 26 (.loc 0),
 A1v 28 (.var 2) (.var 7),
 A1m 26 (.loc 0),
 ⟨none,.call 45,[.loc 2,.loc 0],.push,[⟨none,.r1 (fun s a=>AB Tryz.prog s 26 a),[.var 5],(.loc 7)⟩]⟩,
 A1u 44 [.loc 7,.loc 0],
 A1o 26 (.var 5) (.loc 0)]
def mG:List AA:=[
 A1t (.var 7),
 ⟨none,.p2 (AN Tryz.prog .add 3),[(.loc 0),(.const (.int .i64 (1)))],.push,[]⟩,
 A1p (.loc 0) 7]
def Ia:Ac:=(.seq (.seq (.ops Q4) (.cond (.var 9)
 .skip
 (.exit 2))) (.seq (.block 3 (.seq (.ops bK) (.cond (.var 10)
 (.seq (.ops mF) (.exit 2))
 .skip))) (.ops mG)))
def bH:List AA:=[
 A1t (.var 6),
 ⟨none,.p2 (AN Tryz.prog .add 3),[(.loc 0),(.const (.int .i64 (1)))],.push,[]⟩,
 A1p (.loc 0) 6]
def Lv:Ac:=(.seq (.seq (.ops bJ) (.cond (.var 8)
 .skip
 (.exit 0))) (.seq (.block 1 (.seq (.ops mE) (.block 2 (.loop Ia)))) (.ops bH)))
def bI:List AA:=[
 A1m 26 (.var 5),
 A1o 26 (.var 4) (.loc 0)]
def yM:Ah:=⟨3,11,(.seq (.ops lu) (.seq (.ops lz) (.seq (.ops mC) (.seq (.seq (.ops mD) (.block 0 (.loop Lv))) (.seq (.ops bI) .ret))))),[((.var 4),some 26)]⟩
def wM:List AA:=[
 A1q 31 (.var 0) 3,
 A1p (.const (.bool false)) 4]
def wN:List AA:=[
 ⟨none,.p2 (AJ Tryz.prog 31),[(.var 3),(.const (.int .i64 (0)))],.push,[]⟩,
 A1m 30 (.loc 0),
 ⟨none,.p2 (AJ Tryz.prog 31),[(.var 3),(.const (.int .i64 (1)))],.push,[]⟩,
 A1m 30 (.loc 0),
 A1r 30 5,
 A1r 30 6,
 ⟨none,.call 7,[.loc 2],.push,[⟨none,.r1 (fun s a=>AB Tryz.prog s 30 a),[.loc 2],(.loc 1)⟩]⟩,
 A1u 7 [.loc 1],
 A1o 30 (.var 5) (.loc 1),
 A1o 30 (.var 6) (.loc 1)]
def wO:List AA:=[
 A1t (.var 1),
 A1t (.var 1),
 A1s 27 (.loc 0),
 ⟨none,.p (fun l=>match l with | v::l=>Ch false v l | []=>none),[(.loc 0),(.const (.int .i64 (8)))],.push,[]⟩,
 ⟨none,.r (At Tryz.prog 27 false true false),[.loc 3,.loc 0],.push,[]⟩,
 A1t (.var 2),
 ⟨none,.call 8,[.loc 0],.push,[⟨none,.r (At Tryz.prog 27 false true false),[.loc 6,.loc 3],(.loc 2)⟩,⟨none,.r (fun s l=>match l with | [x]=>Ay Tryz.prog s 27 x | _=>none),[.loc 5],(.loc 4)⟩]⟩,
 A1p (.loc 2) 1,
 A1p (.loc 0) 2]
def tC:List AA:=[
 ⟨none,.mk (fun l=>(Ad Tryz.prog 27 0 (zipIdx [] l)).bind fun r=>some (r,.slice 0)),[],.push,[]⟩,
 A1n 30 1 (.var 5),
 A1m 27 (.loc 0),
 ⟨none,.e (fun s l=>Aj Tryz.prog s [27,27] l),[.loc 2,.var 1],.push,[⟨none,.r1 (fun s a=>AB Tryz.prog s 27 a),[.loc 2],(.loc 1)⟩]⟩,
 ⟨none,.e (fun s l=>Aj Tryz.prog s [27,27] l),[.loc 0,.loc 1],.push,[]⟩,
 A1p (.loc 0) 7]
def wP:List AA:=[
 A1p (.const (.int .i64 (0))) 8]
def tD:List AA:=[
 A1s 27 (.var 7),
 A1x .lss 3 (.var 8) (.loc 0) 9]
def wQ:List AA:=[
 A1m 30 (.var 5),
 A1v 27 (.var 7) (.var 8),
 A1m 3 (.loc 0),
 A1m 30 (.var 6),
 A1m 30 (.var 5),
 A1v 27 (.var 7) (.var 8),
 A1m 3 (.loc 0),
 A1m 30 (.var 6),
 ⟨none,.call 10,[.loc 7,.loc 5,.loc 4],.push,[⟨none,.r1 (fun s a=>AB Tryz.prog s 30 a),[.var 6],(.loc 1)⟩,⟨none,.r1 (fun s a=>AB Tryz.prog s 3 a),[.loc 3],(.loc 2)⟩,⟨none,.r1 (fun s a=>AB Tryz.prog s 30 a),[.var 5],(.loc 4)⟩]⟩,
 A1u 11 [.loc 4,.loc 2,.loc 1],
 A1u 9 [.loc 1,.loc 0],
 ⟨none,.p1 (Sy Tryz.prog Go.UnOp.not),[.loc 0],(.set 10),[]⟩]
def xe:List AA:=[
 A1p (.const (.bool false)) 4]
def wR:List AA:=[
 A1t (.var 8),
 ⟨none,.p2 (AN Tryz.prog .add 3),[(.loc 0),(.const (.int .i64 (1)))],.push,[]⟩,
 A1p (.loc 0) 8]
def cW:Ac:=(.seq (.seq (.ops tD) (.cond (.var 9)
 .skip
 (.exit 0))) (.seq (.block 1 (.seq (.ops wQ) (.cond (.var 10)
 (.seq (.ops xe) .ret)
 .skip))) (.ops wR)))
def nO:List AA:=[
 A1m 30 (.var 5),
 A1m 30 (.var 5),
 ⟨none,.call 13,[.loc 1,.var 1,.var 2],.push,[⟨none,.r1 (fun s a=>AB Tryz.prog s 30 a),[.var 5],(.loc 1)⟩]⟩,
 A1u 14 [.loc 1,.var 1,.var 2],
 A1u 12 [.loc 1,.loc 0],
 ⟨(some ((.loc 0),true)),.r1 (fun s a=>AB Tryz.prog s 30 a),[.var 5],.push,[]⟩,
 ⟨(some ((.loc 1),true)),.p1 (fun x=>AC Tryz.prog 30 x 1),[.var 5],.push,[]⟩,
 ⟨(some ((.loc 2),true)),.r1 (fun s a=>AB Tryz.prog s 27 a),[.loc 0],.push,[]⟩,
 ⟨(some ((.loc 3),true)),.p1 some,[.var 2],.push,[]⟩,
 ⟨(some ((.loc 4),true)),.r1 (fun s a=>AB Tryz.prog s 30 a),[.var 5],.push,[]⟩,
 ⟨(some ((.loc 5),true)),.p1 (fun x=>AC Tryz.prog 30 x 1),[.var 5],.push,[]⟩,
 ⟨(some ((.loc 6),true)),.r1 (fun s a=>AB Tryz.prog s 27 a),[.loc 0],.push,[]⟩,
 ⟨(some ((.loc 7),true)),.p1 some,[.var 2],.push,[]⟩,
 ⟨(some ((.loc 8),true)),.call 13,[.loc 7,.loc 5,.loc 4],.push,[⟨(some ((.loc 9),true)),.r1 (fun s a=>AB Tryz.prog s 27 a),[.loc 3],(.loc 2)⟩,⟨(some ((.loc 9),true)),.r1 (fun s a=>AB Tryz.prog s 30 a),[.var 5],(.loc 4)⟩]⟩,
 ⟨(some ((.loc 9),true)),.call 14,[.loc 4,.loc 2,.loc 1],.push,[]⟩,
 ⟨(some ((.loc 10),true)),.call 12,[.loc 1,.loc 0],.push,[]⟩,
 ⟨none,.p Ru,[(.loc 11),(.loc 0),(.const (.bool false))],.push,[]⟩,
 ⟨(some ((.loc 0),true)),.call 15,[],.push,[]⟩,
 ⟨none,.p Ru,[(.loc 1),(.loc 0),(.const (.bool false))],.push,[]⟩,
 A1p (.loc 0) 4]
def c3:Ah:=⟨3,11,(.seq (.ops wM) (.seq (.ops wN) (.seq (.ops wO) (.seq (.ops tC) (.seq (.seq (.ops wP) (.block 0 (.loop cW))) (.seq (.ops nO) .ret)))))),[((.var 4),none)]⟩
theorem jT:AL Tryz.prog 122=some vf:=by kernel_rfl
theorem uL:AL Tryz.prog 82=some zK:=by kernel_rfl
theorem uK:AL Tryz.prog 81=some zJ:=by kernel_rfl
theorem jS:AL Tryz.prog 118=some ve:=by kernel_rfl
theorem uJ:AL Tryz.prog 80=some zI:=by kernel_rfl
theorem uM:AL Tryz.prog 83=some zL:=by kernel_rfl
theorem uE:AL Tryz.prog 74=some zD:=by kernel_rfl
theorem uF:AL Tryz.prog 75=some zE:=by kernel_rfl
theorem tf:AL Tryz.prog 44=some yf:=by kernel_rfl
theorem tg:AL Tryz.prog 45=some yg:=by kernel_rfl
theorem jE:AL Tryz.prog 101=some vM:=by kernel_rfl
theorem tt:AL Tryz.prog 54=some yq:=by kernel_rfl
theorem td:AL Tryz.prog 43=some ye:=by kernel_rfl
theorem uG:AL Tryz.prog 76=some zF:=by kernel_rfl
theorem tX:AL Tryz.prog 38=some yW:=by kernel_rfl
theorem tY:AL Tryz.prog 39=some yX:=by kernel_rfl
theorem tW:AL Tryz.prog 37=some yV:=by kernel_rfl
theorem tV:AL Tryz.prog 36=some yU:=by kernel_rfl
theorem tU:AL Tryz.prog 35=some yT:=by kernel_rfl
theorem tK:AL Tryz.prog 11=some yJ:=by kernel_rfl
theorem tN:AL Tryz.prog 14=some yM:=by kernel_rfl
theorem xA:AL Tryz.prog 3=some c3:=by kernel_rfl
end
end Go.Proofs.YtjnkfbpadpmakaaGreatDoor.Am
set_option linter.unusedVariables false
set_option linter.unusedSimpArgs false
set_option maxRecDepth 16000
namespace Go.Proofs.YtjnkfbpadpmakaaGreatDoor.Am
open Go Go.Proofs
noncomputable section
theorem CA{n k:Nat}(h:n<LB ^ k):(Av n).length≤32 * k:=by
 rw[Oi]at h
 exact FR h
theorem Cn{l:List Nat}{k:Nat}(hs:Bi l)(hl:l.length≤k):AG l<LB ^ k:=zZ (CQ hs) (A0K BY hl)
section
variable{E:CR}{s:AE}
theorem OL(hE:GoodN E){v:AV}{l:List Nat}(hv:By s v l)(hs:Bi l)(hl:l.length≤3000000){K:AV→AE→Prop}(hK:∀s' w,Aa s.next s s'→By s' w (AR (AG l))→(∀j,B6 w=some j→s.next≤j∧j<s'.next)→K w s'):WF E 127 [v] K s:=by
 refine hE.go jY (by decide) rfl ?_
 simp only[vt,Z2,Z3,Qa,Qb,Qc,Qd,Qe,Qf,Qg,Qh,Qi,Qj,Qk,Ql,Qm,Qo,true_and,and_true,Qp,Qq,Qr,Qs,Qt,Qu,Qv,Qw,Qx,Qy,Qz,Ra,Rb,Rc,Rd,Re,Rf,Rg,Rh,Ri,Rj,Rk,Rm,Rn,Ro,Rp,Rq,Rs,Rt,Ya,Yb,Yc,Ru,Rw,Zb,Yd,Ye,Ry,Rz,Wa,Wb,Wc,Wd,We,A1p,A1u]
 refine Ce hE hv hs (by omega) fun s1 w1 o1 h1=>?_
 have hb:=CA (Cn hs hl)
 simp only[Qa,Qb,Qc,Qd,Qe,Qf,Qg,Qh,Qi,Qj,Qk,Ql,Qm,Qo,true_and,and_true,Qp,Qq,Qr,Qs,Qt,Qu,Qv,Qw,Qx,Qy,Qz,Ra,Rb,Rc,Rd,Re,Rf,Rg,Rh,Ri,Rj,Rk,Rm,Rn,Ro,Rp,Rq,Rs,Rt,Ya,Yb,Yc,Ru,Rw,Zb,Yd,Ye,Ry,Rz,Wa,Wb,Wc,Wd,We]
 refine Ie hE h1 (by omega) fun s2 w2 o2 h2 b2=>?_
 rw[BK]at h2
 simp only[Qa,Qb,Qc,Qd,Qe,Qf,Qg,Qh,Qi,Qj,Qk,Ql,Qm,Qo,true_and,and_true,Qp,Qq,Qr,Qs,Qt,Qu,Qv,Qw,Qx,Qy,Qz,Ra,Rb,Rc,Rd,Re,Rf,Rg,Rh,Ri,Rj,Rk,Rm,Rn,Ro,Rp,Rq,Rs,Rt,Ya,Yb,Yc,Ru,Rw,Zb,Yd,Ye,Ry,Rz,Wa,Wb,Wc,Wd,We]
 exact hK s2 w2 (o1.trans (o2.mono o1.1)) h2 fun j hj=>⟨zY o1.1 (b2 j hj).1,(b2 j hj).2⟩
theorem Sa(hE:GoodN E){v:AV}{l:List Nat}(hv:By s v l)(hs:Bi l)(hl:l.length≤3000000){K:AV→AE→Prop}(hK:∀s' w,Aa s.next s s'→By s' w (AR (AG l))→K w s'):WF E 127 [v] K s:=OL hE hv hs hl fun s' w o h _=>hK s' w o h
theorem kM(hE:GoodN E){va vb:AV}{la lb:List Nat}(ha:By s va la)(hb:By s vb lb)(hsa:Bi la)(hsb:Bi lb)(hla:la.length≤3000000)(hlb:lb.length≤3000000){K:AV→AE→Prop}(hK:∀s' w,Aa s.next s s'→By s' w (AR (AG la+AG lb))→K w s'):WF E 124 [va,vb] K s:=by
 refine hE.go jV (by decide) rfl ?_
 simp only[vh,Zr,Zs,Qa,Qb,Qc,Qd,Qe,Qf,Qg,Qh,Qi,Qj,Qk,Ql,Qm,Qo,true_and,and_true,Qp,Qq,Qr,Qs,Qt,Qu,Qv,Qw,Qx,Qy,Qz,Ra,Rb,Rc,Rd,Re,Rf,Rg,Rh,Ri,Rj,Rk,Rm,Rn,Ro,Rp,Rq,Rs,Rt,Ya,Yb,Yc,Ru,Rw,Zb,Yd,Ye,Ry,Rz,Wa,Wb,Wc,Wd,We,A1p,A1u]
 refine Ce hE ha hsa (by omega) fun s1 w1 o1 h1=>?_
 simp only[Qa,Qb,Qc,Qd,Qe,Qf,Qg,Qh,Qi,Qj,Qk,Ql,Qm,Qo,true_and,and_true,Qp,Qq,Qr,Qs,Qt,Qu,Qv,Qw,Qx,Qy,Qz,Ra,Rb,Rc,Rd,Re,Rf,Rg,Rh,Ri,Rj,Rk,Rm,Rn,Ro,Rp,Rq,Rs,Rt,Ya,Yb,Yc,Ru,Rw,Zb,Yd,Ye,Ry,Rz,Wa,Wb,Wc,Wd,We]
 refine Ce hE (hb.old o1) hsb (by omega) fun s2 w2 o2 h2=>?_
 have q1:=CA (Cn hsa hla)
 have q2:=CA (Cn hsb hlb)
 simp only[Qa,Qb,Qc,Qd,Qe,Qf,Qg,Qh,Qi,Qj,Qk,Ql,Qm,Qo,true_and,and_true,Qp,Qq,Qr,Qs,Qt,Qu,Qv,Qw,Qx,Qy,Qz,Ra,Rb,Rc,Rd,Re,Rf,Rg,Rh,Ri,Rj,Rk,Rm,Rn,Ro,Rp,Rq,Rs,Rt,Ya,Yb,Yc,Ru,Rw,Zb,Yd,Ye,Ry,Rz,Wa,Wb,Wc,Wd,We]
 refine kR hE (h1.old o2) h2 (by omega) (by omega) fun s3 w3 out o3 h3 hl3 hv3=>?_
 rw[BK,BK]at hv3
 simp only[Qa,Qb,Qc,Qd,Qe,Qf,Qg,Qh,Qi,Qj,Qk,Ql,Qm,Qo,true_and,and_true,Qp,Qq,Qr,Qs,Qt,Qu,Qv,Qw,Qx,Qy,Qz,Ra,Rb,Rc,Rd,Re,Rf,Rg,Rh,Ri,Rj,Rk,Rm,Rn,Ro,Rp,Rq,Rs,Rt,Ya,Yb,Yc,Ru,Rw,Zb,Yd,Ye,Ry,Rz,Wa,Wb,Wc,Wd,We]
 refine GC hE h3 (by omega) fun s4 w4 o4 h4=>?_
 rw[hv3]at h4
 simp only[Qa,Qb,Qc,Qd,Qe,Qf,Qg,Qh,Qi,Qj,Qk,Ql,Qm,Qo,true_and,and_true,Qp,Qq,Qr,Qs,Qt,Qu,Qv,Qw,Qx,Qy,Qz,Ra,Rb,Rc,Rd,Re,Rf,Rg,Rh,Ri,Rj,Rk,Rm,Rn,Ro,Rp,Rq,Rs,Rt,Ya,Yb,Yc,Ru,Rw,Zb,Yd,Ye,Ry,Rz,Wa,Wb,Wc,Wd,We]
 have o12:=o1.trans (o2.mono o1.1)
 have o13:=o12.trans (o3.mono o12.1)
 exact hK s4 w4 (o13.trans (o4.mono o13.1)) h4
theorem kQ(hE:GoodN E){va vb:AV}{la lb:List Nat}(ha:By s va la)(hb:By s vb lb)(hsa:Bi la)(hsb:Bi lb)(hla:la.length≤3000000)(hlb:lb.length≤3000000){K:AV→AE→Prop}(hK:∀s' w,Aa s.next s s'→By s' w (AR (AG la * AG lb))→K w s'):WF E 56 [va,vb] K s:=by
 refine hE.go tu (by decide) rfl ?_
 simp only[yr,ow,oz,Qa,Qb,Qc,Qd,Qe,Qf,Qg,Qh,Qi,Qj,Qk,Ql,Qm,Qo,true_and,and_true,Qp,Qq,Qr,Qs,Qt,Qu,Qv,Qw,Qx,Qy,Qz,Ra,Rb,Rc,Rd,Re,Rf,Rg,Rh,Ri,Rj,Rk,Rm,Rn,Ro,Rp,Rq,Rs,Rt,Ya,Yb,Yc,Ru,Rw,Zb,Yd,Ye,Ry,Rz,Wa,Wb,Wc,Wd,We,A1p,A1u]
 refine Ce hE ha hsa (by omega) fun s1 w1 o1 h1=>?_
 simp only[Qa,Qb,Qc,Qd,Qe,Qf,Qg,Qh,Qi,Qj,Qk,Ql,Qm,Qo,true_and,and_true,Qp,Qq,Qr,Qs,Qt,Qu,Qv,Qw,Qx,Qy,Qz,Ra,Rb,Rc,Rd,Re,Rf,Rg,Rh,Ri,Rj,Rk,Rm,Rn,Ro,Rp,Rq,Rs,Rt,Ya,Yb,Yc,Ru,Rw,Zb,Yd,Ye,Ry,Rz,Wa,Wb,Wc,Wd,We]
 refine Ce hE (hb.old o1) hsb (by omega) fun s2 w2 o2 h2=>?_
 have q1:=CA (Cn hsa hla)
 have q2:=CA (Cn hsb hlb)
 simp only[Qa,Qb,Qc,Qd,Qe,Qf,Qg,Qh,Qi,Qj,Qk,Ql,Qm,Qo,true_and,and_true,Qp,Qq,Qr,Qs,Qt,Qu,Qv,Qw,Qx,Qy,Qz,Ra,Rb,Rc,Rd,Re,Rf,Rg,Rh,Ri,Rj,Rk,Rm,Rn,Ro,Rp,Rq,Rs,Rt,Ya,Yb,Yc,Ru,Rw,Zb,Yd,Ye,Ry,Rz,Wa,Wb,Wc,Wd,We]
 refine kT hE (h1.old o2) h2 (by omega) (by omega) fun s3 w3 o3 h3=>?_
 rw[BK,BK]at h3
 have q3:=CA (n:=AG la * AG lb) (k:=la.length+lb.length) (by rw[A1G];exact Nat.mul_lt_mul'' (CQ hsa) (CQ hsb))
 simp only[Qa,Qb,Qc,Qd,Qe,Qf,Qg,Qh,Qi,Qj,Qk,Ql,Qm,Qo,true_and,and_true,Qp,Qq,Qr,Qs,Qt,Qu,Qv,Qw,Qx,Qy,Qz,Ra,Rb,Rc,Rd,Re,Rf,Rg,Rh,Ri,Rj,Rk,Rm,Rn,Ro,Rp,Rq,Rs,Rt,Ya,Yb,Yc,Ru,Rw,Zb,Yd,Ye,Ry,Rz,Wa,Wb,Wc,Wd,We]
 refine GC hE h3 (by omega) fun s4 w4 o4 h4=>?_
 rw[BK]at h4
 simp only[Qa,Qb,Qc,Qd,Qe,Qf,Qg,Qh,Qi,Qj,Qk,Ql,Qm,Qo,true_and,and_true,Qp,Qq,Qr,Qs,Qt,Qu,Qv,Qw,Qx,Qy,Qz,Ra,Rb,Rc,Rd,Re,Rf,Rg,Rh,Ri,Rj,Rk,Rm,Rn,Ro,Rp,Rq,Rs,Rt,Ya,Yb,Yc,Ru,Rw,Zb,Yd,Ye,Ry,Rz,Wa,Wb,Wc,Wd,We]
 have o12:=o1.trans (o2.mono o1.1)
 have o13:=o12.trans (o3.mono o12.1)
 exact hK s4 w4 (o13.trans (o4.mono o13.1)) h4
theorem WO(hE:GoodN E){va vb:AV}{la lb:List Nat}(ha:By s va la)(hb:By s vb lb)(hsa:Bi la)(hsb:Bi lb)(hla:la.length≤3000000)(hlb:lb.length≤3000000)(hle:AG lb≤AG la){K:AV→AE→Prop}(hK:∀s' w,Aa s.next s s'→By s' w (AR (AG la - AG lb))→K (.tuple [w,.bool true]) s'):WF E 126 [va,vb] K s:=by
 refine hE.go jX (by decide) rfl ?_
 have q1:=CA (Cn hsa hla)
 have q2:=CA (Cn hsb hlb)
 simp only[vk,Zz,Z0,Qa,Qb,Qc,Qd,Qe,Qf,Qg,Qh,Qi,Qj,Qk,Ql,Qm,Qo,true_and,and_true,Qp,Qq,Qr,Qs,Qt,Qu,Qv,Qw,Qx,Qy,Qz,Ra,Rb,Rc,Rd,Re,Rf,Rg,Rh,Ri,Rj,Rk,Rm,Rn,Ro,Rp,Rq,Rs,Rt,Ya,Yb,Yc,Ru,Rw,Zb,Yd,Ye,Ry,Rz,Wa,Wb,Wc,Wd,We,A1p,A1u]
 refine Ce hE ha hsa (by omega) fun s1 w1 o1 h1=>?_
 simp only[Qa,Qb,Qc,Qd,Qe,Qf,Qg,Qh,Qi,Qj,Qk,Ql,Qm,Qo,true_and,and_true,Qp,Qq,Qr,Qs,Qt,Qu,Qv,Qw,Qx,Qy,Qz,Ra,Rb,Rc,Rd,Re,Rf,Rg,Rh,Ri,Rj,Rk,Rm,Rn,Ro,Rp,Rq,Rs,Rt,Ya,Yb,Yc,Ru,Rw,Zb,Yd,Ye,Ry,Rz,Wa,Wb,Wc,Wd,We]
 refine Ce hE (hb.old o1) hsb (by omega) fun s2 w2 o2 h2=>?_
 simp only[Qa,Qb,Qc,Qd,Qe,Qf,Qg,Qh,Qi,Qj,Qk,Ql,Qm,Qo,true_and,and_true,Qp,Qq,Qr,Qs,Qt,Qu,Qv,Qw,Qx,Qy,Qz,Ra,Rb,Rc,Rd,Re,Rf,Rg,Rh,Ri,Rj,Rk,Rm,Rn,Ro,Rp,Rq,Rs,Rt,Ya,Yb,Yc,Ru,Rw,Zb,Yd,Ye,Ry,Rz,Wa,Wb,Wc,Wd,We]
 refine JX hE (h1.old o2) h2 (by omega) (by omega) ?_
 have o12:=o1.trans (o2.mono o1.1)
 rw[BK,BK,decide_eq_false (by omega)]
 simp only[Z1,Qa,Qb,Qc,Qd,Qe,Qf,Qg,Qh,Qi,Qj,Qk,Ql,Qm,Qo,true_and,and_true,Qp,Qq,Qr,Qs,Qt,Qu,Qv,Qw,Qx,Qy,Qz,Ra,Rb,Rc,Rd,Re,Rf,Rg,Rh,Ri,Rj,Rk,Rm,Rn,Ro,Rp,Rq,Rs,Rt,Ya,Yb,Yc,Ru,Rw,Zb,Yd,Ye,Ry,Rz,Wa,Wb,Wc,Wd,We,A1u,A1p]
 refine Ce hE (ha.old o12) hsa (by omega) fun s3 w3 o3 h3=>?_
 have o13:=o12.trans (o3.mono o12.1)
 simp only[Qa,Qb,Qc,Qd,Qe,Qf,Qg,Qh,Qi,Qj,Qk,Ql,Qm,Qo,true_and,and_true,Qp,Qq,Qr,Qs,Qt,Qu,Qv,Qw,Qx,Qy,Qz,Ra,Rb,Rc,Rd,Re,Rf,Rg,Rh,Ri,Rj,Rk,Rm,Rn,Ro,Rp,Rq,Rs,Rt,Ya,Yb,Yc,Ru,Rw,Zb,Yd,Ye,Ry,Rz,Wa,Wb,Wc,Wd,We]
 refine Ce hE (hb.old o13) hsb (by omega) fun s4 w4 o4 h4=>?_
 have o14:=o13.trans (o4.mono o13.1)
 simp only[Qa,Qb,Qc,Qd,Qe,Qf,Qg,Qh,Qi,Qj,Qk,Ql,Qm,Qo,true_and,and_true,Qp,Qq,Qr,Qs,Qt,Qu,Qv,Qw,Qx,Qy,Qz,Ra,Rb,Rc,Rd,Re,Rf,Rg,Rh,Ri,Rj,Rk,Rm,Rn,Ro,Rp,Rq,Rs,Rt,Ya,Yb,Yc,Ru,Rw,Zb,Yd,Ye,Ry,Rz,Wa,Wb,Wc,Wd,We]
 refine kW hE (h3.old o4) h4 (by omega) (by rw[BK,BK];exact hle) fun s5 w5 o5 h5=>?_
 rw[BK,BK]at h5
 have o15:=o14.trans (o5.mono o14.1)
 have q5:=CA (n:=AG la - AG lb) (k:=la.length) (A0J (Nat.sub_le _ _) (CQ hsa))
 simp only[Qa,Qb,Qc,Qd,Qe,Qf,Qg,Qh,Qi,Qj,Qk,Ql,Qm,Qo,true_and,and_true,Qp,Qq,Qr,Qs,Qt,Qu,Qv,Qw,Qx,Qy,Qz,Ra,Rb,Rc,Rd,Re,Rf,Rg,Rh,Ri,Rj,Rk,Rm,Rn,Ro,Rp,Rq,Rs,Rt,Ya,Yb,Yc,Ru,Rw,Zb,Yd,Ye,Ry,Rz,Wa,Wb,Wc,Wd,We]
 refine GC hE h5 (by omega) fun s6 w6 o6 h6=>?_
 rw[BK]at h6
 simp only[Qa,Qb,Qc,Qd,Qe,Qf,Qg,Qh,Qi,Qj,Qk,Ql,Qm,Qo,true_and,and_true,Qp,Qq,Qr,Qs,Qt,Qu,Qv,Qw,Qx,Qy,Qz,Ra,Rb,Rc,Rd,Re,Rf,Rg,Rh,Ri,Rj,Rk,Rm,Rn,Ro,Rp,Rq,Rs,Rt,Ya,Yb,Yc,Ru,Rw,Zb,Yd,Ye,Ry,Rz,Wa,Wb,Wc,Wd,We]
 exact hK s6 w6 (o15.trans (o6.mono o15.1)) h6
theorem SX(hE:GoodN E){va vb:AV}{la lb:List Nat}(ha:By s va la)(hb:By s vb lb)(hsa:Bi la)(hsb:Bi lb)(hla:la.length≤3000000)(hlb:lb.length≤3000000)(hb0:AG lb≠0){K:AV→AE→Prop}(hK:∀s' w w',Aa s.next s s'→By s' w (AR (AG la / AG lb))→(∀j,B6 w=some j→s.next≤j∧j<s'.next)→K (.tuple [w,w',iv 0]) s'):WF E 123 [va,vb] K s:=by
 refine hE.go jU (by decide) rfl ?_
 have q1:=CA (Cn hsa hla)
 have q2:=CA (Cn hsb hlb)
 simp only[vg,Zn,Zo,Qa,Qb,Qc,Qd,Qe,Qf,Qg,Qh,Qi,Qj,Qk,Ql,Qm,Qo,true_and,and_true,Qp,Qq,Qr,Qs,Qt,Qu,Qv,Qw,Qx,Qy,Qz,Ra,Rb,Rc,Rd,Re,Rf,Rg,Rh,Ri,Rj,Rk,Rm,Rn,Ro,Rp,Rq,Rs,Rt,Ya,Yb,Yc,Ru,Rw,Zb,Yd,Ye,Ry,Rz,Wa,Wb,Wc,Wd,We,A1p,A1u,A1s]
 refine Ce hE hb hsb (by omega) fun s1 w1 o1 h1=>?_
 obtain⟨a1,c1,rfl,_⟩:=h1
 have d0:decide (((Av (AG lb)).length:Int)=0)=false:=decide_eq_false (by
  have:=List.length_pos_iff.2 (I2 hb0)
  omega)
 simp only[AH Tryz.underlying124,Wc,d0,Zp,Qa,Qb,Qc,Qd,Qe,Qf,Qg,Qh,Qi,Qj,Qk,Ql,Qm,Qo,true_and,and_true,Qp,Qq,Qr,Qs,Qt,Qu,Qv,Qw,Qx,Qy,Qz,Ra,Rb,Rc,Rd,Re,Rf,Rg,Rh,Ri,Rj,Rk,Rm,Rn,Ro,Rp,Rq,Rs,Rt,Ya,Yb,Yc,Ru,Rw,Zb,Yd,Ye,Ry,Rz,Wa,Wb,Wc,Wd,We,A1u,A1p]
 refine Ce hE (ha.old o1) hsa (by omega) fun s3 w3 o3 h3=>?_
 have o13:=o1.trans (o3.mono o1.1)
 simp only[Qa,Qb,Qc,Qd,Qe,Qf,Qg,Qh,Qi,Qj,Qk,Ql,Qm,Qo,true_and,and_true,Qp,Qq,Qr,Qs,Qt,Qu,Qv,Qw,Qx,Qy,Qz,Ra,Rb,Rc,Rd,Re,Rf,Rg,Rh,Ri,Rj,Rk,Rm,Rn,Ro,Rp,Rq,Rs,Rt,Ya,Yb,Yc,Ru,Rw,Zb,Yd,Ye,Ry,Rz,Wa,Wb,Wc,Wd,We]
 refine Ce hE (hb.old o13) hsb (by omega) fun s4 w4 o4 h4=>?_
 have o14:=o13.trans (o4.mono o13.1)
 simp only[Qa,Qb,Qc,Qd,Qe,Qf,Qg,Qh,Qi,Qj,Qk,Ql,Qm,Qo,true_and,and_true,Qp,Qq,Qr,Qs,Qt,Qu,Qv,Qw,Qx,Qy,Qz,Ra,Rb,Rc,Rd,Re,Rf,Rg,Rh,Ri,Rj,Rk,Rm,Rn,Ro,Rp,Rq,Rs,Rt,Ya,Yb,Yc,Ru,Rw,Zb,Yd,Ye,Ry,Rz,Wa,Wb,Wc,Wd,We]
 refine WQ hE (h3.old o4) h4 (by omega) (by omega) (by rw[BK];exact hb0) fun s5 w5 w5' o5 h5 h5'=>?_
 rw[BK,BK]at h5 h5'
 have o15:=o14.trans (o5.mono o14.1)
 have q5:=CA (n:=AG la / AG lb) (k:=la.length) (A0J (A0Y _ _) (CQ hsa))
 have q6:=CA (n:=AG la % AG lb) (k:=lb.length) (Nat.lt_trans (A0E _ (by omega)) (CQ hsb))
 simp only[Zq,Qa,Qb,Qc,Qd,Qe,Qf,Qg,Qh,Qi,Qj,Qk,Ql,Qm,Qo,true_and,and_true,Qp,Qq,Qr,Qs,Qt,Qu,Qv,Qw,Qx,Qy,Qz,Ra,Rb,Rc,Rd,Re,Rf,Rg,Rh,Ri,Rj,Rk,Rm,Rn,Ro,Rp,Rq,Rs,Rt,Ya,Yb,Yc,Ru,Rw,Zb,Yd,Ye,Ry,Rz,Wa,Wb,Wc,Wd,We,A1u,A1p]
 refine Ie hE h5 (by omega) fun s6 w6 o6 h6 b6=>?_
 rw[BK]at h6
 simp only[Qa,Qb,Qc,Qd,Qe,Qf,Qg,Qh,Qi,Qj,Qk,Ql,Qm,Qo,true_and,and_true,Qp,Qq,Qr,Qs,Qt,Qu,Qv,Qw,Qx,Qy,Qz,Ra,Rb,Rc,Rd,Re,Rf,Rg,Rh,Ri,Rj,Rk,Rm,Rn,Ro,Rp,Rq,Rs,Rt,Ya,Yb,Yc,Ru,Rw,Zb,Yd,Ye,Ry,Rz,Wa,Wb,Wc,Wd,We]
 refine GC hE (h5'.old o6) (by omega) fun s7 w7 o7 h7=>?_
 simp only[Qa,Qb,Qc,Qd,Qe,Qf,Qg,Qh,Qi,Qj,Qk,Ql,Qm,Qo,true_and,and_true,Qp,Qq,Qr,Qs,Qt,Qu,Qv,Qw,Qx,Qy,Qz,Ra,Rb,Rc,Rd,Re,Rf,Rg,Rh,Ri,Rj,Rk,Rm,Rn,Ro,Rp,Rq,Rs,Rt,Ya,Yb,Yc,Ru,Rw,Zb,Yd,Ye,Ry,Rz,Wa,Wb,Wc,Wd,We]
 have o16:=o15.trans (o6.mono o15.1)
 exact hK s7 w6 w7 (o16.trans (o7.mono o16.1)) (h6.old o7) fun j hj=>⟨zY o15.1 (b6 j hj).1,zZ (b6 j hj).2 o7.1⟩
theorem kO(hE:GoodN E){va vb:AV}{la lb:List Nat}(ha:By s va la)(hb:By s vb lb)(hsa:Bi la)(hsb:Bi lb)(hla:la.length≤3000000)(hlb:lb.length≤3000000)(hb0:AG lb≠0){K:AV→AE→Prop}(hK:∀s' w w',Aa s.next s s'→By s' w (AR (AG la / AG lb))→K (.tuple [w,w',iv 0]) s'):WF E 123 [va,vb] K s:=SX hE ha hb hsa hsb hla hlb hb0 fun s' w w' o h _=>hK s' w w' o h
theorem kN(hE:GoodN E){va vb:AV}{la lb:List Nat}(ha:By s va la)(hb:By s vb lb)(hsa:Bi la)(hsb:Bi lb)(hla:la.length≤3000000)(hlb:lb.length≤3000000){K:AV→AE→Prop}(hK:∀s' z,Aa s.next s s'→(z<0↔AG la<AG lb)→K (iv z) s'):WF E 125 [va,vb] K s:=by
 refine hE.go jW (by decide) rfl ?_
 have q1:=CA (Cn hsa hla)
 have q2:=CA (Cn hsb hlb)
 simp only[vj,Zt,Zu,Qa,Qb,Qc,Qd,Qe,Qf,Qg,Qh,Qi,Qj,Qk,Ql,Qm,Qo,true_and,and_true,Qp,Qq,Qr,Qs,Qt,Qu,Qv,Qw,Qx,Qy,Qz,Ra,Rb,Rc,Rd,Re,Rf,Rg,Rh,Ri,Rj,Rk,Rm,Rn,Ro,Rp,Rq,Rs,Rt,Ya,Yb,Yc,Ru,Rw,Zb,Yd,Ye,Ry,Rz,Wa,Wb,Wc,Wd,We,A1p,A1u]
 refine Ce hE ha hsa (by omega) fun s1 w1 o1 h1=>?_
 simp only[Qa,Qb,Qc,Qd,Qe,Qf,Qg,Qh,Qi,Qj,Qk,Ql,Qm,Qo,true_and,and_true,Qp,Qq,Qr,Qs,Qt,Qu,Qv,Qw,Qx,Qy,Qz,Ra,Rb,Rc,Rd,Re,Rf,Rg,Rh,Ri,Rj,Rk,Rm,Rn,Ro,Rp,Rq,Rs,Rt,Ya,Yb,Yc,Ru,Rw,Zb,Yd,Ye,Ry,Rz,Wa,Wb,Wc,Wd,We]
 refine Ce hE (hb.old o1) hsb (by omega) fun s2 w2 o2 h2=>?_
 simp only[Qa,Qb,Qc,Qd,Qe,Qf,Qg,Qh,Qi,Qj,Qk,Ql,Qm,Qo,true_and,and_true,Qp,Qq,Qr,Qs,Qt,Qu,Qv,Qw,Qx,Qy,Qz,Ra,Rb,Rc,Rd,Re,Rf,Rg,Rh,Ri,Rj,Rk,Rm,Rn,Ro,Rp,Rq,Rs,Rt,Ya,Yb,Yc,Ru,Rw,Zb,Yd,Ye,Ry,Rz,Wa,Wb,Wc,Wd,We]
 refine JX hE (h1.old o2) h2 (by omega) (by omega) ?_
 have o12:=o1.trans (o2.mono o1.1)
 rw[BK,BK]
 by_cases hlt:AG la<AG lb
 ·simp only[decide_eq_true hlt,Zv,Qa,Qb,Qc,Qd,Qe,Qf,Qg,Qh,Qi,Qj,Qk,Ql,Qm,Qo,true_and,and_true,Qp,Qq,Qr,Qs,Qt,Qu,Qv,Qw,Qx,Qy,Qz,Ra,Rb,Rc,Rd,Re,Rf,Rg,Rh,Ri,Rj,Rk,Rm,Rn,Ro,Rp,Rq,Rs,Rt,Ya,Yb,Yc,Ru,Rw,Zb,Yd,Ye,Ry,Rz,Wa,Wb,Wc,Wd,We,A1p]
  exact hK s2 (-1) o12 ⟨fun _=>hlt,fun _=>by decide⟩
 ·simp only[decide_eq_false hlt,Zw,Qa,Qb,Qc,Qd,Qe,Qf,Qg,Qh,Qi,Qj,Qk,Ql,Qm,Qo,true_and,and_true,Qp,Qq,Qr,Qs,Qt,Qu,Qv,Qw,Qx,Qy,Qz,Ra,Rb,Rc,Rd,Re,Rf,Rg,Rh,Ri,Rj,Rk,Rm,Rn,Ro,Rp,Rq,Rs,Rt,Ya,Yb,Yc,Ru,Rw,Zb,Yd,Ye,Ry,Rz,Wa,Wb,Wc,Wd,We,A1u]
  refine Ce hE (hb.old o12) hsb (by omega) fun s3 w3 o3 h3=>?_
  have o13:=o12.trans (o3.mono o12.1)
  simp only[Qa,Qb,Qc,Qd,Qe,Qf,Qg,Qh,Qi,Qj,Qk,Ql,Qm,Qo,true_and,and_true,Qp,Qq,Qr,Qs,Qt,Qu,Qv,Qw,Qx,Qy,Qz,Ra,Rb,Rc,Rd,Re,Rf,Rg,Rh,Ri,Rj,Rk,Rm,Rn,Ro,Rp,Rq,Rs,Rt,Ya,Yb,Yc,Ru,Rw,Zb,Yd,Ye,Ry,Rz,Wa,Wb,Wc,Wd,We]
  refine Ce hE (ha.old o13) hsa (by omega) fun s4 w4 o4 h4=>?_
  have o14:=o13.trans (o4.mono o13.1)
  simp only[Qa,Qb,Qc,Qd,Qe,Qf,Qg,Qh,Qi,Qj,Qk,Ql,Qm,Qo,true_and,and_true,Qp,Qq,Qr,Qs,Qt,Qu,Qv,Qw,Qx,Qy,Qz,Ra,Rb,Rc,Rd,Re,Rf,Rg,Rh,Ri,Rj,Rk,Rm,Rn,Ro,Rp,Rq,Rs,Rt,Ya,Yb,Yc,Ru,Rw,Zb,Yd,Ye,Ry,Rz,Wa,Wb,Wc,Wd,We]
  refine JX hE (h3.old o4) h4 (by omega) (by omega) ?_
  rw[BK,BK]
  by_cases hgt:AG lb<AG la
  ·simp only[decide_eq_true hgt,Zx,Qa,Qb,Qc,Qd,Qe,Qf,Qg,Qh,Qi,Qj,Qk,Ql,Qm,Qo,true_and,and_true,Qp,Qq,Qr,Qs,Qt,Qu,Qv,Qw,Qx,Qy,Qz,Ra,Rb,Rc,Rd,Re,Rf,Rg,Rh,Ri,Rj,Rk,Rm,Rn,Ro,Rp,Rq,Rs,Rt,Ya,Yb,Yc,Ru,Rw,Zb,Yd,Ye,Ry,Rz,Wa,Wb,Wc,Wd,We,A1p]
   exact hK s4 1 o14 ⟨fun h=>(by cases h),fun h=>absurd h hlt⟩
  ·simp only[decide_eq_false hgt,Zy,Qa,Qb,Qc,Qd,Qe,Qf,Qg,Qh,Qi,Qj,Qk,Ql,Qm,Qo,true_and,and_true,Qp,Qq,Qr,Qs,Qt,Qu,Qv,Qw,Qx,Qy,Qz,Ra,Rb,Rc,Rd,Re,Rf,Rg,Rh,Ri,Rj,Rk,Rm,Rn,Ro,Rp,Rq,Rs,Rt,Ya,Yb,Yc,Ru,Rw,Zb,Yd,Ye,Ry,Rz,Wa,Wb,Wc,Wd,We,A1p]
   exact hK s4 0 o14 ⟨fun h=>(by cases h),fun h=>absurd h hlt⟩
theorem Xm        (hE : GoodN E) {s0 : AE}  {n0 m0 : Nat} (B : Nat) (hB : B ≤ 100000000) {Q : Az   → Prop} {y0 y1 y2 : AV}
    (hq:∀S v x4 x5 x6,Aa s0.next s0 S→Df S v (Av (Nat.gcd n0 m0))→Q ⟨.exit 0,[y0,y1,y2,v,x4,x5,x6],[],S⟩):
    ∀ (m n:Nat) (S:AE) (v w x5 x6:AV),Nat.gcd n m=Nat.gcd n0 m0→(Av n).length≤B→(Av m).length≤B→Aa s0.next s0 S→Df S v (Av n)→Df S w (Av m)→WC E none (.loop RE) Q [y0,y1,y2,v,w,x5,x6] [] S:=by
  intro m
  induction m using Nat.strongRecOn with
  | _ m ih =>
    intro n S v w x5 x6 hg hn hm ho hv hw
    have hw0:=hw
    obtain⟨aw,cw,rfl,_⟩:=hw
    refine WC.loop' ?_
    generalize hW:WC E none (Ac.loop RE) Q=WW
    by_cases h0:m=0
    · subst h0
      have d0:decide (((Av 0).length:Int) > 0)=false:=by rw[CD];rfl
      simp only[RE,df,AH Tryz.underlying124,Rz,d0,Qa,Qb,Qc,Qd,Qe,Qf,Qg,Qh,Qi,Qj,Qk,Ql,Qm,Qo,true_and,and_true,Qp,Qq,Qr,Qs,Qt,Qu,Qv,Qw,Qx,Qy,Qz,Ra,Rb,Rc,Rd,Re,Rf,Rg,Rh,Ri,Rj,Rk,Rm,Rn,Ro,Rp,Rq,Rs,Rt,Ya,Yb,Yc,Ru,Rw,Zb,Yd,Ye,Ry,Rz,Wa,Wb,Wc,Wd,We,A1s]
      rw[Nat.gcd_zero_right]at hg
      rw[hg]at hv
      exact hq S v _ _ _ ho hv
    · have d0:decide (((Av m).length:Int) > 0)=true:=decide_eq_true (by
        have:=List.length_pos_iff.2 (I2 h0)
        omega)
      simp only[RE,df,pE,AH Tryz.underlying124,Rz,d0,Qa,Qb,Qc,Qd,Qe,Qf,Qg,Qh,Qi,Qj,Qk,Ql,Qm,Qo,true_and,and_true,Qp,Qq,Qr,Qs,Qt,Qu,Qv,Qw,Qx,Qy,Qz,Ra,Rb,Rc,Rd,Re,Rf,Rg,Rh,Ri,Rj,Rk,Rm,Rn,Ro,Rp,Rq,Rs,Rt,Ya,Yb,Yc,Ru,Rw,Zb,Yd,Ye,Ry,Rz,Wa,Wb,Wc,Wd,We,A1s,A1u,A1t,A1p]
      refine WQ hE hv hw0 (by omega) (by omega) (by rw[BK];exact h0) fun S' q r o' hq' hr'=>?_
      rw[BK,BK]at hr'
      simp only[pF,pG,Qa,Qb,Qc,Qd,Qe,Qf,Qg,Qh,Qi,Qj,Qk,Ql,Qm,Qo,true_and,and_true,Qp,Qq,Qr,Qs,Qt,Qu,Qv,Qw,Qx,Qy,Qz,Ra,Rb,Rc,Rd,Re,Rf,Rg,Rh,Ri,Rj,Rk,Rm,Rn,Ro,Rp,Rq,Rs,Rt,Ya,Yb,Yc,Ru,Rw,Zb,Yd,Ye,Ry,Rz,Wa,Wb,Wc,Wd,We,A1p]
      rw[← hW]
      have hlt:n % m<m:=A0E _ (by omega)
      refine ih (n % m) hlt m S' _ r _ _ ?_ hm ?_ (ho.trans (o'.mono ho.1)) (hw0.old o') hr'
      · rw[← hg,A1S m (n % m),← Nat.gcd_rec,A1S]
      · refine zY (FR (k:=(Av m).length) ?_) hm
        have h1:=Ej (Av m)
        rw[BK]at h1
        omega
theorem kP(hE:GoodN E){va vb:AV}{la lb:List Nat}(ha:By s va la)(hb:By s vb lb)(hsa:Bi la)(hsb:Bi lb)(hla:la.length≤3000000)(hlb:lb.length≤3000000){K:AV→AE→Prop}(hK:∀s' w,Aa s.next s s'→By s' w (AR (Nat.gcd (AG la) (AG lb)))→K w s'):WF E 57 [va,vb] K s:=by
  refine hE.go tv (by decide) rfl ?_
  have q1:=CA (Cn hsa hla)
  have q2:=CA (Cn hsb hlb)
  simp only[yt,pC,pD,Qa,Qb,Qc,Qd,Qe,Qf,Qg,Qh,Qi,Qj,Qk,Ql,Qm,Qo,true_and,and_true,Qp,Qq,Qr,Qs,Qt,Qu,Qv,Qw,Qx,Qy,Qz,Ra,Rb,Rc,Rd,Re,Rf,Rg,Rh,Ri,Rj,Rk,Rm,Rn,Ro,Rp,Rq,Rs,Rt,Ya,Yb,Yc,Ru,Rw,Zb,Yd,Ye,Ry,Rz,Wa,Wb,Wc,Wd,We,A1p,A1u]
  refine Ce hE ha hsa (by omega) fun s1 w1 o1 h1=>?_
  simp only[Qa,Qb,Qc,Qd,Qe,Qf,Qg,Qh,Qi,Qj,Qk,Ql,Qm,Qo,true_and,and_true,Qp,Qq,Qr,Qs,Qt,Qu,Qv,Qw,Qx,Qy,Qz,Ra,Rb,Rc,Rd,Re,Rf,Rg,Rh,Ri,Rj,Rk,Rm,Rn,Ro,Rp,Rq,Rs,Rt,Ya,Yb,Yc,Ru,Rw,Zb,Yd,Ye,Ry,Rz,Wa,Wb,Wc,Wd,We]
  refine Ce hE (hb.old o1) hsb (by omega) fun s2 w2 o2 h2=>?_
  simp only[Qa,Qb,Qc,Qd,Qe,Qf,Qg,Qh,Qi,Qj,Qk,Ql,Qm,Qo,true_and,and_true,Qp,Qq,Qr,Qs,Qt,Qu,Qv,Qw,Qx,Qy,Qz,Ra,Rb,Rc,Rd,Re,Rf,Rg,Rh,Ri,Rj,Rk,Rm,Rn,Ro,Rp,Rq,Rs,Rt,Ya,Yb,Yc,Ru,Rw,Zb,Yd,Ye,Ry,Rz,Wa,Wb,Wc,Wd,We]
  have o12:=o1.trans (o2.mono o1.1)
  refine Xm hE (s0:=s2) (n0:=AG la) (m0:=AG lb) 100000000 (by decide) (fun S v x4 x5 x6 ho hv=>?_) (AG lb) (AG la) s2 _ _ _ _ rfl (by omega) (by omega) (Aa.refl _ _) (h1.old o2) h2
  have q3:(Av (Nat.gcd (AG la) (AG lb))).length≤1000000000:=by
    by_cases h0:AG la=0
    · rw[h0,Nat.gcd_zero_left];omega
    · have := Nat.gcd_le_left (AG   lb) (Nat.pos_of_ne_zero h0)
      have:=CA (n:=Nat.gcd (AG la) (AG lb)) (k:=la.length) (A0J this (Cn hsa (zU _)))
      omega
  simp only[pH,if_true,Qa,Qb,Qc,Qd,Qe,Qf,Qg,Qh,Qi,Qj,Qk,Ql,Qm,Qo,true_and,and_true,Qp,Qq,Qr,Qs,Qt,Qu,Qv,Qw,Qx,Qy,Qz,Ra,Rb,Rc,Rd,Re,Rf,Rg,Rh,Ri,Rj,Rk,Rm,Rn,Ro,Rp,Rq,Rs,Rt,Ya,Yb,Yc,Ru,Rw,Zb,Yd,Ye,Ry,Rz,Wa,Wb,Wc,Wd,We,A1u,A1p]
  refine GC hE hv q3 fun s4 w4 o4 h4=>?_
  rw[BK]at h4
  simp only[Qa,Qb,Qc,Qd,Qe,Qf,Qg,Qh,Qi,Qj,Qk,Ql,Qm,Qo,true_and,and_true,Qp,Qq,Qr,Qs,Qt,Qu,Qv,Qw,Qx,Qy,Qz,Ra,Rb,Rc,Rd,Re,Rf,Rg,Rh,Ri,Rj,Rk,Rm,Rn,Ro,Rp,Rq,Rs,Rt,Ya,Yb,Yc,Ru,Rw,Zb,Yd,Ye,Ry,Rz,Wa,Wb,Wc,Wd,We]
  have o1S:=o12.trans (ho.mono o12.1)
  exact hK s4 w4 (o1S.trans (o4.mono o1S.1)) h4
end
def BC(s:AE)(v:AV)(z:Int):Prop:=∃m,v=.agg [.bool (decide (z<0)),m]∧By s m (AR z.natAbs)
theorem BC.old{s s':AE}{v:AV}{z:Int}(h:BC s v z)(o:Aa s.next s s'):BC s' v z:=by
 obtain⟨m,h1,h2⟩:=h
 exact⟨m,h1,h2.old o⟩
theorem BC.bi{s:AE}{v:AV}{z:Int}{k:Nat}(h:BC s v z)(hz:z.natAbs<LB ^ k):BI s v z k:=by
 obtain⟨m,h1,h2⟩:=h
 exact⟨_,m,_,h1,h2,AT _,A9 hz,by rw[AY,F9]⟩
theorem BI.mk{s:AE}{neg:Bool}{m:AV}{n k:Nat}(h:By s m (AR n))(hk:n<LB ^ k):BI s (.agg [.bool neg,m]) (Bw neg n) k:=⟨neg,m,_,rfl,h,AT _,A9 hk,by rw[AY]⟩
def Kq:AV→Bool
 | .int _ _=>false
 | _=>true
theorem By.box  {s : AE}  {v : AV} {l : List Nat} {p e : Nat} {sp : Bool} {cs : List AV} {o : BF}   (h : By  s v l) (hg : s.heap.get p = some (R e 0 sp cs)) (hc : cs.all Kq    = true) : By  (setObj s p o) v l := by
  obtain⟨a,cap,rfl,h2,h3⟩:=h
  refine⟨a,cap,rfl,?_,fun k u hu=>?_⟩
  · rcases h2 with h2 | ⟨g1, i, o', r, rfl, g3, g4, g5, g6⟩
    · exact .inl h2
    · refine .inr ⟨g1, i, o', r, rfl, g3, ?_, g5, g6⟩
      rw[Wx _ (by
        rintro rfl
        rw[hg]at g4
        injection g4 with g4
        injection g4 with g4
        rw[← g4]at g5
        cases g5)]
      exact g4
  · obtain⟨i,o',rfl,g2,g3⟩:=h3 k u hu
    refine⟨i,o',rfl,g2,?_⟩
    have hne:i≠p:=by
      rintro rfl
      rw[Fh,hg,Wo]at g3
      have h5:=List.all_eq_true.1 hc u (zw g3)
      have h6:u∈us l:=zw hu
      obtain⟨x,_,rfl⟩:=List.mem_map.1 h6
      cases h5
    rw[CS (Wx _ hne)]
    exact g3
theorem BC.box{s:AE}{v:AV}{z:Int}{p e:Nat}{sp:Bool}{cs:List AV}{o:BF}(h:BC s v z)(hg:s.heap.get p=some (R e 0 sp cs))(hc:cs.all Kq=true):BC (setObj s p o) v z:=by
 obtain⟨m,h1,h2⟩:=h
 exact⟨m,h1,h2.box hg hc⟩
theorem BC.shape{s:AE}{v:AV}{z:Int}(h:BC s v z):∃a n c,v=.agg [.bool (decide (z<0)),.slice a n c]:=by
 obtain⟨m,rfl,h2⟩:=h
 obtain⟨a,n,c,rfl⟩:=h2.shape
 exact⟨_,_,_,rfl⟩
section
variable{E:CR}{s:AE}
theorem MM(hE:GoodN E){v:AV}{z:Int}{k:Nat}(hv:BI s v z k)(hk:k≤3000000){K:AV→AE→Prop}(hK:∀s' w,Aa s.next s s'→BC s' w z→(∀x m j,w=.agg [x,m]→B6 m=some j→s.next≤j∧j<s'.next)→K w s'):WF E 122 [v] K s:=by
 obtain⟨neg,m,l,rfl,hm,hs,hl,rfl⟩:=hv
 obtain⟨a,n,c,rfl⟩:=hm.shape
 refine hE.go jT (by decide) rfl ?_
 obtain⟨n1,o1,g1,g2⟩:=EK s (BX neg (.slice a n c)) ZI
 simp only[vf,Zl,Zm,Xa,Xh,DO,Xc,Ak,CZ,Qa,Qb,Qc,Qd,Qf,Qh,Qj,Qk,Ql,Qm,Qo,true_and,Qp,Qq,Qr,Qs,Qt,Qv,Rb,Rh,Rj,A1q,A1r,A1n,A1m,A1u,A1p]
 generalize newObj (newObj s (BX neg (.slice a n c))) ZI=s1 at *
 have l2:=AI (P:=Tryz.prog) (t:=22) (o:=0+1) Cq g1 rfl
 simp only[l2,Qm]
 refine OL hE (hm.old o1) hs (by omega) fun s2 v2 o2 r2 b2=>?_
 have g3:=(o2.2 (s.next+1) (by omega)).trans g2
 have l1:=AI (P:=Tryz.prog) (t:=4) (o:=0+0) Gz ((o2.2 s.next (by omega)).trans g1) rfl
 have r2':=r2
 obtain⟨a2,c2,e2,_⟩:=r2'
 have hz:=V7 neg (AG l)
 rw[← Ft]at hz
 have o12:=o1.trans (o2.mono o1.1)
 have fin:∀x,x=decide (Bw neg (AG l)<0)→K (.agg [.bool x,v2]) (setObj s2 (s.next+1) (R 24 0 false [.bool x,v2])):=fun x hx=>by
  subst hx
  refine hK _ _ (o12.set (by omega) _) ⟨v2,rfl,?_⟩ fun x m j e hj=>by
   injection e with e
   injection e with _ e
   injection e with e _
   subst e
   have:=b2 j hj
   refine⟨by omega,?_⟩
   show j<s2.next
   omega
  rw[CJ]
  exact r2.box g3 rfl
 have st:∀x,AO Tryz.prog s2 24 (.ptr (some (s.next+1,0))) (.agg [.bool x,.slice a2 (AR (AG l)).length c2])=some (setObj s2 (s.next+1) (R 24 0 false [.bool x,.slice a2 (AR (AG l)).length c2])):=fun x=>Ai CO g3 rfl rfl rfl (by simp)
 have ld:∀x,AB Tryz.prog (setObj s2 (s.next+1) (R 24 0 false [.bool x,.slice a2 (AR (AG l)).length c2])) 24 (.ptr (some (s.next+1,0)))=some (.agg [.bool x,.slice a2 (AR (AG l)).length c2]):=fun x=>AK DN CO (Ww _ _ _) rfl
 subst e2
 cases neg with
 | true =>
  rw[Bool.true_and]at hz
  simp only[TX,l1,CY,AH Tryz.underlying22,Rz,Ru,Dq,st,ld,AM,Xy,Za,Qb,Qc,Qd,Qf,Qg,Qh,Qi,Qj,Qk,Qm,Qo,true_and,Qp,Qq,Qr,Qs,Qt,Qv,Qw,Qx,Rk,Rn,Rs,Yc,Ru,Rw,Rz,A1n,A1m,A1o]
  exact fin _ hz.symm
 | false =>
  rw[Bool.false_and]at hz
  simp only[TX,l1,CY,Ru,Dq,st,ld,AM,Xy,Za,Qb,Qc,Qd,Qf,Qg,Qh,Qi,Qj,Qk,Qm,Qo,true_and,Qp,Qq,Qr,Qs,Qt,Qu,Qv,Qw,Qx,Rk,Rn,Rs,Yc,Ru,Rw,A1n,A1m,A1o]
  exact fin _ hz.symm
theorem Dz(hE:GoodN E){v:AV}{z:Int}{k:Nat}(hv:BI s v z k)(hk:k≤3000000){K:AV→AE→Prop}(hK:∀s' w,Aa s.next s s'→BC s' w z→K w s'):WF E 122 [v] K s:=MM hE hv hk fun s' w o h _=>hK s' w o h
theorem F5(hE:GoodN E){va vb:AV}{x y:Int}{ka kb:Nat}(ha:BI s va x ka)(hb:BI s vb y kb)(hk:ka+kb≤3000000){K:AV→AE→Prop}(hK:∀s' w,Aa s.next s s'→BC s' w (x * y)→K w s'):WF E 82 [va,vb] K s:=by
 obtain⟨na,ma,la,rfl,hma,hsa,hla,rfl⟩:=ha
 obtain⟨nb,mb,lb,rfl,hmb,hsb,hlb,rfl⟩:=hb
 obtain⟨aa,an,ac,rfl⟩:=hma.shape
 obtain⟨ba,bn,bc,rfl⟩:=hmb.shape
 refine hE.go uL (by decide) rfl ?_
 obtain⟨n1,o1,g1,g2,g3⟩:=HV s (BX na (.slice aa an ac)) (BX nb (.slice ba bn bc)) ZI
 simp only[zK,ql,qm,Xa,Xh,DO,Xc,Ak,CY,CZ,Qa,Qb,Qc,Qd,Qf,Qh,Qj,Qk,Ql,Qm,Qo,true_and,Qp,Qq,Qr,Qs,Qt,Qv,Rb,Rh,Rj,A1q,A1r,A1n,A1m,A1w,A1u,A1o]
 generalize newObj (newObj (newObj s (BX na (.slice aa an ac))) (BX nb (.slice ba bn bc))) ZI=s1 at *
 have l1:=AI (P:=Tryz.prog) (t:=4) (o:=0+0) Gz g1 rfl
 have l2:=AI (P:=Tryz.prog) (t:=22) (o:=0+1) Cq g1 rfl
 have l3:=AI (P:=Tryz.prog) (t:=4) (o:=0+0) Gz g2 rfl
 have l4:=AI (P:=Tryz.prog) (t:=22) (o:=0+1) Cq g2 rfl
 simp only[l1,l2,l3,l4,Ep,Qm]
 refine kQ hE (hma.old o1) (hmb.old o1) hsa hsb (by omega) (by omega) fun s2 v2 o2 r2=>?_
 have f1:=(o2.2 s.next (by omega)).trans g1
 have f2:=(o2.2 (s.next+1) (by omega)).trans g2
 have f3:=(o2.2 (s.next+1+1) (by omega)).trans g3
 refine⟨⟨Au (by simp only[Qk,Qr,Qs];exact AI (o:=0+0) Gz f2 rfl) (El _),Au (by simp only[Qk,Qr,Qs];exact AI (o:=0+0) Gz f1 rfl) (El _),trivial⟩,?_⟩
 have hbi:BI s2 (.agg [.bool (na != nb),v2]) (Bw na (AG la) * Bw nb (AG lb)) (ka+kb):=by
  rw[← R3]
  exact BI.mk r2 (B3 (DI hsa hla) (DI hsb hlb))
 obtain⟨am,nm,cm,rfl⟩:=r2.shape
 simp only[Dq,Qm,Qr,Qs]
 refine Dz hE hbi hk fun s3 v3 o3 r3=>?_
 have q3:=(o3.2 (s.next+1+1) (by have:=o2.1;omega)).trans f3
 obtain⟨a3,n3,c3,rfl⟩:=r3.shape
 obtain⟨st,ld⟩:=Dr (s1:=s) (x:=decide (Bw na (AG la) * Bw nb (AG lb)<0)) (a:=a3) (n:=n3) (c:=c3) q3
 simp only[st,ld,AM,Xy,Za,Qd,Qj,Qm,Qo,true_and,Qr,Qs,Rk,Rn,Yc]
 have h2:=o2.1
 exact hK _ _ ((o1.trans ((o2.trans (o3.mono h2)).mono o1.1)).set (by omega) _) (r3.box q3 rfl)
theorem fV(hE:GoodN E){v:AV}{z:Int}{k:Nat}(hv:BI s v z k)(hk:k≤3000000){K:AV→AE→Prop}(hK:∀s' w,Aa s.next s s'→BC s' w (-z)→K w s'):WF E 118 [v] K s:=by
 have zb:=hv.abs
 obtain⟨x,a,n,c,rfl⟩:=hv.shape
 refine hE.go jS (by decide) rfl ?_
 obtain⟨n1,o1,g1,g2⟩:=EK s (BX x (.slice a n c)) ZI
 simp only[ve,Zi,Zj,Xa,Xh,DO,Xc,Ak,Qa,Qb,Qc,Qd,Qf,Qh,Qj,Qk,Ql,Qm,Qo,true_and,Qp,Qq,Qr,Qs,Qt,Qv,Rb,Rh,Rj,A1q,A1r,A1m,A1u,A1o]
 generalize newObj (newObj s (BX x (.slice a n c))) ZI=s1 at *
 have l1:=AK (P:=Tryz.prog) (t:=24) DN CO g1 rfl
 simp only[l1,Qm]
 refine Dz hE (hv.old o1) hk fun s2 v2 o2 r2=>?_
 have f1:=(o2.2 s.next (by omega)).trans g1
 have f2:=(o2.2 (s.next+1) (by omega)).trans g2
 obtain⟨a2,n2,c2,rfl⟩:=r2.shape
 have st:=Ai (P:=Tryz.prog) (t:=24) (cs:=[.bool (decide (z<0)),.slice a2 n2 c2]) CO f1 rfl rfl rfl (by simp)
 generalize hs3:setObj s2 s.next (R 24 0 false [.bool (decide (z<0)),.slice a2 n2 c2])=s3 at st
 have n3:s3.next=s2.next:=by rw[← hs3];rfl
 have o3:Aa s.next s s3:=by rw[← hs3];exact(o1.trans (o2.mono o1.1)).set (zU _) _
 have k1:s3.heap.get s.next=some (BX (decide (z<0)) (.slice a2 n2 c2)):=by rw[← hs3,Ww]
 have k2:s3.heap.get (s.next+1)=some ZI:=by rw[← hs3,Wx _ (by omega)];exact f2
 have w2:BC s3 (.agg [.bool (decide (z<0)),.slice a2 n2 c2]) z:=by rw[← hs3];exact r2.box f1 rfl
 have l3:=AI (P:=Tryz.prog) (t:=4) (o:=0+0) Gz k1 rfl
 have l4:=AI (P:=Tryz.prog) (t:=22) (o:=0+1) Cq k1 rfl
 simp only[Zk,st,l3,l4,CY,CZ,We,Dq,Xy,Za,Qb,Qc,Qd,Qf,Qh,Qj,Qk,Qm,Qo,true_and,Qr,Qs,Qt,Qv,We,A1n,A1m,A1u,A1o]
 have hneg:BI s3 (.agg [.bool (!decide (z<0)),.slice a2 n2 c2]) (-z) k:=by
  obtain⟨m',e',h'⟩:=w2
  injection e' with e'
  injection e' with _ e'
  injection e' with e' _
  subst e'
  have h4:=BI.mk (neg:=!decide (z<0)) h' zb
  rw[show Bw (!decide (z<0)) z.natAbs=-z from by
   unfold Bw
   by_cases h:z<0
   ·rw[decide_eq_true h,if_neg (by decide)];omega
   ·rw[decide_eq_false h,if_pos (by decide)];omega]at h4
  exact h4
 refine Dz hE hneg hk fun s4 v4 o4 r4=>?_
 have h2:=o2.1
 have q4:=(o4.2 (s.next+1) (by omega)).trans k2
 obtain⟨a4,n4,c4,rfl⟩:=r4.shape
 obtain⟨st,ld⟩:=Dr (s1:=s) (x:=decide (-z<0)) (a:=a4) (n:=n4) (c:=c4) q4
 simp only[st,ld,AM,Qd,Qj,Qm,Qo,true_and,Qr,Qs,Rk,Rn,Yc]
 exact hK _ _ ((o3.trans (o4.mono o3.1)).set (by omega) _) (r4.box q4 rfl)
theorem Mx(hE:GoodN E){s0 s2:AE}{p k:Nat}{neg:Bool}{v2:AV}{n:Nat}{z:Int}(hp:s0.next≤p)(o2:Aa s0.next s0 s2)(hp2:p<s2.next)(hg:s2.heap.get p=some ZI)(hv:By s2 v2 (AR n))(hn:n<LB ^ k)(hk:k≤3000000)(hz:Bw neg n=z){K K2:AV→AE→Prop}(hK:∀s' w,Aa s0.next s0 s'→BC s' w z→K w s')
  (hK2:∀s3 a3 n3 c3,AO Tryz.prog s3 24 (.ptr (some (p,0))) (.agg [.bool (decide (z<0)),.slice a3 n3 c3])=some (setObj s3 p (BX (decide (z<0)) (.slice a3 n3 c3)))→AB Tryz.prog (setObj s3 p (BX (decide (z<0)) (.slice a3 n3 c3))) 24 (.ptr (some (p,0)))=some (.agg [.bool (decide (z<0)),.slice a3 n3 c3])→K (.agg [.bool (decide (z<0)),.slice a3 n3 c3]) (setObj s3 p (BX (decide (z<0)) (.slice a3 n3 c3)))→K2 (.agg [.bool (decide (z<0)),.slice a3 n3 c3]) s3):WF E 122 [.agg [.bool neg,v2]] K2 s2:=by
 subst hz
 refine Dz hE (BI.mk hv hn) hk fun s3 v3 o3 r3=>?_
 have q3:=(o3.2 p hp2).trans hg
 obtain⟨a3,n3,c3,rfl⟩:=r3.shape
 obtain⟨st,ld⟩:=Dr (s1:=s0) (x:=decide (Bw neg n<0)) (a:=a3) (n:=n3) (c:=c3) q3
 exact hK2 _ _ _ _ st ld (hK _ _ ((o2.trans (o3.mono o2.1)).set hp _) (r3.box q3 rfl))
theorem fW(hE:GoodN E){va vb:AV}{x y:Int}{ka kb:Nat}(ha:BI s va x ka)(hb:BI s vb y kb)(hk:ka+kb+1≤3000000){K:AV→AE→Prop}(hK:∀s' w,Aa s.next s s'→BC s' w (x+y)→K w s'):WF E 81 [va,vb] K s:=by
 have xb:=ha.abs
 have yb:=hb.abs
 have xk:x.natAbs<LB ^ (ka+kb):=DC xb (by omega)
 have yk:y.natAbs<LB ^ (ka+kb):=DC yb (by omega)
 obtain⟨na,aa,an,ac,rfl⟩:=ha.shape
 obtain⟨nb,ba,bn,bc,rfl⟩:=hb.shape
 refine hE.go uK (by decide) rfl ?_
 obtain⟨n1,o1,g1,g2,g3⟩:=HV s (BX na (.slice aa an ac)) (BX nb (.slice ba bn bc)) ZI
 simp only[zJ,qW,qX,Xa,Xh,DO,Xc,Ak,Qa,Qb,Qc,Qd,Qf,Qh,Qj,Qk,Ql,Qm,Qo,true_and,Qp,Qq,Qr,Qs,Qt,Qv,Rb,Rc,Rh,A1q,A1r,A1m,A1u,A1o]
 generalize newObj (newObj (newObj s (BX na (.slice aa an ac))) (BX nb (.slice ba bn bc))) ZI=s1 at *
 have l1:=AK (P:=Tryz.prog) (t:=24) DN CO g1 rfl
 simp only[l1,Qm]
 refine Dz hE (ha.old o1) (by omega) fun s2 v2 o2 r2=>?_
 have h2:=o2.1
 have f1:=(o2.2 s.next (by omega)).trans g1
 have f2:=(o2.2 (s.next+1) (by omega)).trans g2
 have f3:=(o2.2 (s.next+1+1) (by omega)).trans g3
 obtain⟨a2,n2,c2,rfl⟩:=r2.shape
 have st:=Ai (P:=Tryz.prog) (t:=24) (cs:=[.bool (decide (x<0)),.slice a2 n2 c2]) CO f1 rfl rfl rfl (by simp)
 generalize hs3:setObj s2 s.next (R 24 0 false [.bool (decide (x<0)),.slice a2 n2 c2])=s3 at st
 have n3:s3.next=s2.next:=by rw[← hs3];rfl
 have o3:Aa s.next s s3:=by rw[← hs3];exact(o1.trans (o2.mono o1.1)).set (zU _) _
 have k1:s3.heap.get s.next=some (BX (decide (x<0)) (.slice a2 n2 c2)):=by rw[← hs3,Ww]
 have k2:s3.heap.get (s.next+1)=some (BX nb (.slice ba bn bc)):=by rw[← hs3,Wx _ (by omega)];exact f2
 have k3:s3.heap.get (s.next+1+1)=some ZI:=by rw[← hs3,Wx _ (by omega)];exact f3
 have w2:BC s3 (.agg [.bool (decide (x<0)),.slice a2 n2 c2]) x:=by rw[← hs3];exact r2.box f1 rfl
 have l2:=AK (P:=Tryz.prog) (t:=24) DN CO k2 rfl
 simp only[qY,st,l2,Xy,Za,Qb,Qc,Qd,Qf,Qh,Qj,Qk,Qm,Qo,true_and,Qr,Qs,Qt,Qv,A1m,A1u,A1o]
 refine Dz hE (hb.old o3) (by omega) fun s4 v4 o4 r4=>?_
 have h4:=o4.1
 have m1:=(o4.2 s.next (by omega)).trans k1
 have m2:=(o4.2 (s.next+1) (by omega)).trans k2
 have m3:=(o4.2 (s.next+1+1) (by omega)).trans k3
 have w4:=w2.old o4
 obtain⟨a4,n4,c4,rfl⟩:=r4.shape
 have st:=Ai (P:=Tryz.prog) (t:=24) (cs:=[.bool (decide (y<0)),.slice a4 n4 c4]) CO m2 rfl rfl rfl (by simp)
 generalize hs5:setObj s4 (s.next+1) (R 24 0 false [.bool (decide (y<0)),.slice a4 n4 c4])=s5 at st
 have n5:s5.next=s4.next:=by rw[← hs5];rfl
 have o5:Aa s.next s s5:=by rw[← hs5];exact(o3.trans (o4.mono o3.1)).set (by omega) _
 have p1:s5.heap.get s.next=some (BX (decide (x<0)) (.slice a2 n2 c2)):=by rw[← hs5,Wx _ (by omega)];exact m1
 have p2:s5.heap.get (s.next+1)=some (BX (decide (y<0)) (.slice a4 n4 c4)):=by rw[← hs5,Ww]
 have p3:s5.heap.get (s.next+1+1)=some ZI:=by rw[← hs5,Wx _ (by omega)];exact m3
 have wx:BC s5 (.agg [.bool (decide (x<0)),.slice a2 n2 c2]) x:=by rw[← hs5];exact w4.box m2 rfl
 have wy:BC s5 (.agg [.bool (decide (y<0)),.slice a4 n4 c4]) y:=by rw[← hs5];exact r4.box m2 rfl
 have hx:By s5 (.slice a2 n2 c2) (AR x.natAbs):=by
  obtain⟨m',e',h'⟩:=wx
  injection e' with e'
  injection e' with _ e'
  injection e' with e' _
  rw[e'];exact h'
 have hy:By s5 (.slice a4 n4 c4) (AR y.natAbs):=by
  obtain⟨m',e',h'⟩:=wy
  injection e' with e'
  injection e' with _ e'
  injection e' with e' _
  rw[e'];exact h'
 have lx:=A9 xk
 have ly:=A9 yk
 have l3:=AI (P:=Tryz.prog) (t:=4) (o:=0+0) Gz p1 rfl
 have l4:=AI (P:=Tryz.prog) (t:=22) (o:=0+1) Cq p1 rfl
 have l5:=AI (P:=Tryz.prog) (t:=4) (o:=0+0) Gz p2 rfl
 have l6:=AI (P:=Tryz.prog) (t:=22) (o:=0+1) Cq p2 rfl
 simp only[qZ,st,l3,l5,CY,JD,Qb,Qc,Qd,Qf,Qh,Qj,Qk,Qm,Qo,true_and,Qp,Qq,Qr,Qs,Qt,Qv,A1n,A1m,A1x]
 by_cases hs:decide (x<0)=decide (y<0)
 ·simp only[hs,beq_self_eq_true,Qm,Qz,Rj]
  rw[hs]at l3
  simp only[qd,l3,l4,l6,CY,CZ,Qb,Qc,Qd,Qf,Qh,Qj,Qk,Qm,Qo,true_and,Qr,Qs,Qt,Qv,A1n,A1m,A1u,A1o]
  refine kM hE hx hy (AT _) (AT _) (by omega) (by omega) fun s6 v6 o6 r6=>?_
  have h6:=o6.1
  rw[AY,AY]at r6
  have q1:=(o6.2 s.next (by omega)).trans p1
  rw[hs]at q1
  refine⟨⟨Au (by simp only[Qk,Qr,Qs];exact AI (o:=0+0) Gz q1 rfl) (El _),trivial⟩,?_⟩
  obtain⟨am,nm,cm,rfl⟩:=r6.shape
  simp only[Dq,Qm,Qr,Qs]
  refine Mx (k:=ka+kb+1) hE (s0:=s) (p:=s.next+1+1) (z:=x+y) (by omega) (o5.trans (o6.mono o5.1)) (by omega) ((o6.2 _ (by omega)).trans p3) r6 (FZ xk yk) hk (by rw[← hs];exact St hs) hK fun s7 a7 n7 c7 st ld hend=>?_
  simp only[st,ld,AM,Xy,Za,Qd,Qj,Qm,Qo,true_and,Qr,Qs,Rk,Rn,Yc]
  exact hend
 ·have hs':(decide (x<0) == decide (y<0))=false:=by simpa using hs
  simp only[hs',qe,l4,l6,CZ,Qb,Qc,Qd,Qf,Qh,Qi,Qj,Qk,Qm,Qo,true_and,Qr,Qs,Qt,Qv,Ra,A1n,A1m,A1u]
  refine kN hE hx hy (AT _) (AT _) (by omega) (by omega) fun s6 z6 o6 hz6=>?_
  have h6:=o6.1
  rw[AY,AY]at hz6
  have q1:=(o6.2 s.next (by omega)).trans p1
  have q2:=(o6.2 (s.next+1) (by omega)).trans p2
  have q3:=(o6.2 (s.next+1+1) (by omega)).trans p3
  have l3:=AI (P:=Tryz.prog) (t:=4) (o:=0+0) Gz q1 rfl
  have l4:=AI (P:=Tryz.prog) (t:=22) (o:=0+1) Cq q1 rfl
  have l6:=AI (P:=Tryz.prog) (t:=22) (o:=0+1) Cq q2 rfl
  have o56:=o5.trans (o6.mono o5.1)
  by_cases hlt:x.natAbs<y.natAbs
  ·simp only[Ry,decide_eq_true (hz6.2 hlt),qf,l4,l6,CZ,Qb,Qc,Qd,Qf,Qh,Qj,Qk,Qm,Qo,true_and,Qp,Qq,Qr,Qs,Qt,Qv,Qz,Rj,Zb,Ry,A1n,A1m,A1u,A1p,A1t]
   refine WO hE (hy.old o6) (hx.old o6) (AT _) (AT _) (by omega) (by omega) (by rw[AY,AY];omega) fun s7 v7 o7 r7=>?_
   have h7:=o7.1
   rw[AY,AY]at r7
   have l5:=AI (P:=Tryz.prog) (t:=4) (o:=0+0) Gz ((o7.2 (s.next+1) (by omega)).trans q2) rfl
   obtain⟨am,nm,cm,rfl⟩:=r7.shape
   simp only[qg,l5,CY,Dq,Qb,Qc,Qd,Qf,Qh,Qj,Qk,Qm,Qo,true_and,Qp,Qq,Qr,Qs,Qt,Qv,Yd,Ye,A1n,A1m,A1u,A1o]
   refine Mx (k:=ka+kb) hE (s0:=s) (p:=s.next+1+1) (z:=x+y) (by omega) (o56.trans (o7.mono o56.1)) (by omega) ((o7.2 _ (by omega)).trans q3) r7 (by omega) (by omega) (by rw[Int.add_comm];exact Jf (fun e=>hs e.symm) (by omega)) hK fun s8 a8 n8 c8 st ld hend=>?_
   simp only[st,ld,AM,Xy,Za,Qd,Qj,Qm,Qo,true_and,Qr,Qs,Rk,Rn,Yc]
   exact hend
  ·simp only[Ry,decide_eq_false (fun h=>hlt (hz6.1 h)),qj,l4,l6,CZ,Qb,Qc,Qd,Qf,Qh,Qj,Qk,Qm,Qo,true_and,Qp,Qq,Qr,Qs,Qt,Qv,Ra,Rj,Zb,Ry,A1n,A1m,A1u,A1p,A1t]
   refine WO hE (hx.old o6) (hy.old o6) (AT _) (AT _) (by omega) (by omega) (by rw[AY,AY];omega) fun s7 v7 o7 r7=>?_
   have h7:=o7.1
   rw[AY,AY]at r7
   have l5:=AI (P:=Tryz.prog) (t:=4) (o:=0+0) Gz ((o7.2 s.next (by omega)).trans q1) rfl
   obtain⟨am,nm,cm,rfl⟩:=r7.shape
   simp only[qk,l5,CY,Dq,Qb,Qc,Qd,Qf,Qh,Qj,Qk,Qm,Qo,true_and,Qp,Qq,Qr,Qs,Qt,Qv,Yd,Ye,A1n,A1m,A1u,A1o]
   refine Mx (k:=ka+kb) hE (s0:=s) (p:=s.next+1+1) (z:=x+y) (by omega) (o56.trans (o7.mono o56.1)) (by omega) ((o7.2 _ (by omega)).trans q3) r7 (by omega) (by omega) (Jf hs (by omega)) hK fun s8 a8 n8 c8 st ld hend=>?_
   simp only[st,ld,AM,Xy,Za,Qd,Qj,Qm,Qo,true_and,Qr,Qs,Rk,Rn,Yc]
   exact hend
end
abbrev TD:=Bool×List Nat×List Nat
def QX(s:AE)(v:AV)(x:TD):Prop:=∃m d,v=.agg [.bool x.1,m,d]∧By s m x.2.1∧By s d x.2.2∧x.2.1.length≤1000000000∧x.2.2.length≤1000000000
theorem QX.keep{s s':AE}{v:AV}{x:TD}(h:QX s v x)(hn:s.next≤s'.next)(hf:∀j,j∈Dg v→j<s.next→s'.heap.get j=s.heap.get j):QX s' v x:=by
 obtain⟨m,d,rfl,h1,h2,h3⟩:=h
 exact⟨m,d,rfl,h1.keep hn fun j hj hl=>hf j ((Cb rfl).2 (.inl hj)) hl,h2.keep hn fun j hj hl=>hf j ((Cb rfl).2 (.inr hj)) hl,h3⟩
theorem QX.old{s s':AE}{v:AV}{x:TD}(h:QX s v x)(o:Aa s.next s s'):QX s' v x:=h.keep o.1 fun j _ hj=>o.2 j hj
def LX(s:AE)(v:AV)(X:TD)(vs:List Int)(Q:List TD):Prop:=∃a n c b m d av cv ac cc cells,
 v=.agg [.bool X.1,.slice a n c,.slice b m d,.slice av vs.length cv,.slice ac Q.length cc]∧QX s (.agg [.bool X.1,.slice a n c,.slice b m d]) X∧AS s.next s av (vs.map iv)∧cells.length=Q.length * 3∧AS s.next s ac cells ∧
  ∀ (i:Nat) (x:TD),Q[i]? = some x→QX s (.agg ((cells.drop (i * 3)).take 3)) x
theorem LX.old{s s':AE}{v:AV}{X:TD}{vs:List Int}{Q:List TD}(h:LX s v X vs Q)(o:Aa s.next s s'):LX s' v X vs Q:=by
 obtain⟨a,n,c,b,m,d,av,cv,ac,cc,cells,h1,h2,h3,h4,h5,h6⟩:=h
 exact⟨a,n,c,b,m,d,av,cv,ac,cc,cells,h1,h2.old o,(h3.old o (zU _)).mono o.1,h4,(h5.old o (zU _)).mono o.1,fun i x hi=>(h6 i x hi).old o⟩
theorem xM(P:Program)(t:TypeId)(k:IntKind)(a:Nat):AN P .neq t (.int k (a:Int)) (.int k (a:Int))=some (.bool false):=by
 have:∀k,CC k k=true:=fun k=>by cases k<;>rfl
 show AQ (CC k k) (some (AV.bool (!NX (a:Int) (a:Int))))=_
 rw[this,Ev]
 simp[AQ]
theorem SB{s:AE}{ac:Option (Nat×Nat)}{cells:List AV}(h:AS s.next s ac cells){i n:Nat}(hl:cells.length=n * 3)(hi:i<n):∃i0 o,ac=some (i0,o)∧i0<s.next∧AB Tryz.prog s 26 (.ptr (some (i0,o+i * 3)))=some (.agg ((cells.drop (i * 3)).take 3)):=by
 have h3:((cells.drop (i * 3)).take 3).length=3:=by rw[zo,A0C];omega
 have hget:∀j,j<3→((cells.drop (i * 3)).take 3)[j]? = cells[i * 3+j]? := fun j hj=>by rw[A0m hj,A0Z]
 have h0:cells[i * 3]? = some cells[i * 3]:=zW (by omega)
 obtain⟨i0,o,rfl,hlt,_⟩:=h (i * 3) _ h0
 refine⟨i0,o,rfl,hlt,?_⟩
 have:=JM (o:=s.heap.get i0) ((cells.drop (i * 3)).take 3) (o+i * 3) (fun j u hj=>by
  have hj3:j<3:=by
   rcases zX j 3 with h' | h'
   ·exact h'
   ·rw[zj (by omega)]at hj;cases hj
  rw[hget j hj3]at hj
  obtain⟨i',o',e,_,g⟩:=h _ u hj
  injection e with e
  injection e with e1 e2
  subst e1;subst e2
  rw[Fh]at g
  rw[A0H];exact g) (by intro e;rw[e]at h3;cases h3)
 rw[h3]at this
 rw[Wg BZ,Aw,Option.bind_some,this]
 rfl
section
variable{E:CR}{s:AE}
theorem Sg{a b:Option (Nat×Nat)}{ca cb:Option Nat}{l:List Nat}(ha:AS s.next s a (us l))(hb:AS s.next s b (us l))(hl:l.length≤1000000000){Q:Az→Prop}(y2 y4:AV)
  (hq:∀y3 y5 y6,Q ⟨.exit 0,[.slice a l.length ca,.slice b l.length cb,y2,y3,y4,y5,y6],[],s⟩):
  ∀ (r i:Nat) (x5 x6:AV),l.length - i=r→i≤l.length→WC E none (.loop RC) Q [.slice a l.length ca,.slice b l.length cb,y2,iv (i:Int),y4,x5,x6] [] s:=by
 intro r
 induction r with
 | zero =>
  intro i x5 x6 hi hle
  have dd:decide ((i:Int)<(l.length:Int))=false:=decide_eq_false (by omega)
  refine WC.loop' ?_
  simp only[RC,cX,AH Tryz.underlying22,Ry,dd,Qa,Qb,Qc,Qd,Qf,Qh,Qj,Qk,Qm,Qo,true_and,Qp,Qq,Qr,Qs,Qt,Qv,Ra,Rb,Rc,Rd,Re,Rf,Ry,A1s,A1x]
  exact hq _ _ _
 | succ r ih =>
  intro i x5 x6 hi hle
  have hlt:i<l.length:=by omega
  have dd:decide ((i:Int)<(l.length:Int))=true:=decide_eq_true (by omega)
  have e17:=Ax Tryz.prog 3 (i:Int) 1 ⟨by omega,by omega⟩
  have e17':((i:Int)+1)=((i+1:Nat):Int):=by omega
  have hx:l[i]? = some l[i]:=zW hlt
  obtain⟨ia,oa,rfl,_,ga⟩:=ha i _ (DG hx)
  obtain⟨ib,ob,rfl,_,gb⟩:=hb i _ (DG hx)
  have ixa:=AX (cap:=ca) (i:=ia) (o:=oa) Tryz.underlying22 C5 hlt
  have ixb:=AX (cap:=cb) (i:=ib) (o:=ob) Tryz.underlying22 C5 hlt
  have la:AB Tryz.prog s 76 (.ptr (some (ia,oa+i * 1)))=some (A6 l[i]):=Bq G5 (by rw[zf];exact ga)
  have lb:AB Tryz.prog s 76 (.ptr (some (ib,ob+i * 1)))=some (A6 l[i]):=Bq G5 (by rw[zf];exact gb)
  have hne:AN Tryz.prog .neq 76 (A6 l[i]) (A6 l[i])=some (.bool false):=xM _ _ _ _
  refine WC.loop' ?_
  generalize hW:WC E none (Ac.loop RC) Q=WW
  simp only[RC,cX,nS,nT,AH Tryz.underlying22,Ry,dd,ixa,ixb,la,lb,hne,e17,e17',Qa,Qb,Qc,Qd,Qf,Qh,Qi,Qj,Qk,Qm,Qo,true_and,Qp,Qq,Qr,Qs,Qt,Qv,Qz,Ra,Rb,Rc,Rd,Re,Rf,Ry,A1s,A1x,A1v,A1m,A1t,A1p]
  rw[← hW]
  exact ih (i+1) _ _ (by omega) (by omega)
theorem ON(hE:GoodN E){va vb:AV}{l:List Nat}(ha:By s va l)(hb:By s vb l)(hl:l.length≤1000000000){K:AV→AE→Prop}(hK:K (.bool true) s):WF E 40 [va,vb] K s:=by
 obtain⟨a,ca,rfl,_,hca⟩:=ha
 obtain⟨b,cb,rfl,_,hcb⟩:=hb
 refine hE.go tZ (by decide) rfl ?_
 simp only[yY,nP,nQ,nR,AH Tryz.underlying22,Wd,show decide ((l.length:Int)≠(l.length:Int))=false from by simp,Qa,Qb,Qc,Qd,Qf,Qh,Qi,Qj,Qk,Ql,Qm,Qo,true_and,Qp,Qq,Qr,Qs,Qt,Qv,Ra,Rb,Rc,Rh,Rk,Rm,Rn,Yc,Wd,A1p,A1s,A1x]
 refine Sg hca hcb hl _ _ (fun y3 y5 y6=>?_) l.length 0 _ _ rfl (ze _)
 simp only[nU,if_true,Qb,Qc,Qd,Qf,Qh,Qi,Qm,Qo,true_and,Qp,Qq,Qr,Qs,Qt,Qv,Rb,Rd,Rg,Rj,A1p]
 exact hK
theorem KR(hE:GoodN E){va vb:AV}{x:TD}(ha:QX s va x)(hb:QX s vb x){K:AV→AE→Prop}(hK:∀s',Aa s.next s s'→K (.bool true) s'):WF E 12 [va,vb] K s:=by
 obtain⟨m,d,rfl,h1,h2,h3,h4⟩:=ha
 obtain⟨m',d',rfl,k1,k2,_,_⟩:=hb
 obtain⟨a1,n1,c1,rfl⟩:=h1.shape
 obtain⟨a2,n2,c2,rfl⟩:=h2.shape
 obtain⟨b1,m1,d1,rfl⟩:=k1.shape
 obtain⟨b2,m2,d2,rfl⟩:=k2.shape
 refine hE.go tL (by decide) rfl ?_
 obtain⟨n3,o1,g1,g2⟩:=EK s (BQ x.1 (.slice a1 n1 c1) (.slice a2 n2 c2)) (BQ x.1 (.slice b1 m1 d1) (.slice b2 m2 d2))
 simp only[yK,lU,Xa,Xh,Xc,Ak,Qa,Qb,Qc,Qd,Qf,Qh,Qi,Qj,Ql,Qm,Qo,true_and,Qp,Qq,Qr,Qs,Qt,Qv,Rb,Rh,Rj,Rk,Rm,Rn,Yc,A1q,A1p]
 generalize newObj (newObj s (BQ x.1 (.slice a1 n1 c1) (.slice a2 n2 c2))) (BQ x.1 (.slice b1 m1 d1) (.slice b2 m2 d2))=s1 at *
 have lx:=AI (P:=Tryz.prog) (t:=4) (o:=0+0+0) Gz g1 rfl
 have ly:=AI (P:=Tryz.prog) (t:=4) (o:=0+0+0) Gz g2 rfl
 have lm:=AI (P:=Tryz.prog) (t:=22) (o:=0+0+1) Cq g1 rfl
 have lm':=AI (P:=Tryz.prog) (t:=22) (o:=0+0+1) Cq g2 rfl
 have ld:=AI (P:=Tryz.prog) (t:=22) (o:=0+2) Cq g1 rfl
 have ld':=AI (P:=Tryz.prog) (t:=22) (o:=0+2) Cq g2 rfl
 simp only[lV,lx,ly,lm,lm',EE,CY,CZ,JD,beq_self_eq_true,Qb,Qc,Qd,Qf,Qg,Qh,Qi,Qj,Qk,Qm,Qo,true_and,Qr,Qs,Qt,Qv,Qw,Qx,Rs,Ru,Rw,A1n,A1m,A1w,A1p]
 refine ON hE (h1.old o1) (k1.old o1) h3 ?_
 simp only[ld,ld',J6,Qc,Qd,Qm,Qo,true_and,Qr,Qs,Qt,Qx,Rs]
 refine ON hE (h2.old o1) (k2.old o1) h4 ?_
 simp only[Qd,Qm,Qo,true_and,Qp,Qq,Qr,Qs]
 exact hK s1 o1
theorem YJ{pa pb:Nat}{A1 A2 B1 B2:AV}{x y:Bool}{av bv:Option (Nat×Nat)}{ca cb:Option Nat}{A5 B5:AV}{vs:List Int}(ga:s.heap.get pa=some (R 30 0 false [.bool x,A1,A2,.slice av vs.length ca,A5]))(gb:s.heap.get pb=some (R 30 0 false [.bool y,B1,B2,.slice bv vs.length cb,B5]))(ha:AS s.next s av (vs.map iv))(hb:AS s.next s bv (vs.map iv))(hl:vs.length≤1000000000){Q:Az→Prop}{y0 y1 y4 y6 y7 y10 y11:AV}
  (hq:∀y5 y8 y9,Q ⟨.exit 0,[y0,y1,.ptr (some (pa,0)),.ptr (some (pb,0)),y4,y5,y6,y7,y8,y9,y10,y11],[],s⟩):
  ∀ (r i:Nat) (x8 x9:AV),vs.length - i=r→i≤vs.length→WC E none (.loop eU) Q [y0,y1,.ptr (some (pa,0)),.ptr (some (pb,0)),y4,iv (i:Int),y6,y7,x8,x9,y10,y11] [] s:=by
 have la:=AI (P:=Tryz.prog) (t:=27) (o:=0+3) D6 ga rfl
 have lb:=AI (P:=Tryz.prog) (t:=27) (o:=0+3) D6 gb rfl
 intro r
 induction r with
 | zero =>
  intro i x8 x9 hi hle
  have dd:decide ((i:Int)<(vs.length:Int))=false:=decide_eq_false (by omega)
  refine WC.loop' ?_
  simp only[eU,tG,la,CE,AH Tryz.underlying27,Ry,dd,Qa,Qb,Qc,Qd,Qf,Qh,Qj,Qk,Qm,Qo,true_and,Qp,Qq,Qr,Qs,Qt,Qv,Ra,Rb,Rc,Rd,Re,Rf,Ry,A1n,A1m,A1s,A1x]
  exact hq _ _ _
 | succ r ih =>
  intro i x8 x9 hi hle
  have hlt:i<vs.length:=by omega
  have dd:decide ((i:Int)<(vs.length:Int))=true:=decide_eq_true (by omega)
  have e17:=Ax Tryz.prog 3 (i:Int) 1 ⟨by omega,by omega⟩
  have e17':((i:Int)+1)=((i+1:Nat):Int):=by omega
  have hx:vs[i]? = some vs[i]:=zW hlt
  obtain⟨ia,oa,rfl,_,lda⟩:=Cm ha hx
  obtain⟨ib,ob,rfl,_,ldb⟩:=Cm hb hx
  have ixa:=AX (cap:=ca) (i:=ia) (o:=oa) (n:=1) Tryz.underlying27 Jm hlt
  have ixb:=AX (cap:=cb) (i:=ib) (o:=ob) (n:=1) Tryz.underlying27 Jm hlt
  refine WC.loop' ?_
  generalize hW:WC E none (Ac.loop eU) Q=WW
  simp only[eU,tG,wv,ww,la,lb,CE,AH Tryz.underlying27,Ry,dd,ixa,ixb,lda,ldb,Wd,show decide (vs[i]≠vs[i])=false from by simp,e17,e17',Qa,Qb,Qc,Qd,Qf,Qh,Qi,Qj,Qk,Qm,Qo,true_and,Qp,Qq,Qr,Qs,Qt,Qv,Qz,Ra,Rb,Rc,Rd,Re,Rf,Ry,Wd,A1n,A1m,A1s,A1x,A1v,A1t,A1p]
  rw[← hW]
  exact ih (i+1) _ _ (by omega) (by omega)
theorem YK(hE:GoodN E){s0:AE}{pa pb:Nat}{A1 A2 B1 B2 A4 B4:AV}{x y:Bool}{ac bc:Option (Nat×Nat)}{ca cb:Option Nat}{Q0:List TD}{cells cells':List AV}(ga:s0.heap.get pa=some (R 30 0 false [.bool x,A1,A2,A4,.slice ac Q0.length ca]))(gb:s0.heap.get pb=some (R 30 0 false [.bool y,B1,B2,B4,.slice bc Q0.length cb]))
  (hpa:pa<s0.next) (hpb:pb<s0.next) (hcl:cells.length=Q0.length * 3) (hcl':cells'.length=Q0.length * 3) (ha:AS s0.next s0 ac cells) (hb:AS s0.next s0 bc cells') (hqa:∀ (i:Nat) (x:TD),Q0[i]? = some x→QX s0 (.agg ((cells.drop (i * 3)).take 3)) x) (hqb:∀ (i:Nat) (x:TD),Q0[i]? = some x→QX s0 (.agg ((cells'.drop (i * 3)).take 3)) x)
  (hl:Q0.length≤1000000000) {Q:Az→Prop} {y0 y1 y4 y5 y7 y8 y9:AV}
  (hq:∀S y6 y10 y11,Aa s0.next s0 S→Q ⟨.exit 2,[y0,y1,.ptr (some (pa,0)),.ptr (some (pb,0)),y4,y5,y6,y7,y8,y9,y10,y11],[],S⟩):
  ∀ (r i:Nat) (S:AE) (x10 x11:AV),Q0.length - i=r→i≤Q0.length→Aa s0.next s0 S→WC E none (.loop RL) Q [y0,y1,.ptr (some (pa,0)),.ptr (some (pb,0)),y4,y5,iv (i:Int),y7,y8,y9,x10,x11] [] S:=by
 intro r
 induction r with
 | zero =>
  intro i S x10 x11 hi hle ho
  have la:=AI (P:=Tryz.prog) (t:=28) (o:=0+4) EN ((ho.2 pa hpa).trans ga) rfl
  have dd:decide ((i:Int)<(Q0.length:Int))=false:=decide_eq_false (by omega)
  refine WC.loop' ?_
  simp only[RL,eV,la,DE,AH Tryz.underlying28,Ry,dd,Qa,Qb,Qc,Qd,Qf,Qh,Qj,Qk,Qm,Qo,true_and,Qp,Qq,Qr,Qs,Qt,Qv,Ra,Rb,Rc,Rd,Re,Rf,Ry,A1n,A1m,A1s,A1x]
  exact hq S _ _ _ ho
 | succ r ih =>
  intro i S x10 x11 hi hle ho
  have la:=AI (P:=Tryz.prog) (t:=28) (o:=0+4) EN ((ho.2 pa hpa).trans ga) rfl
  have lb:=AI (P:=Tryz.prog) (t:=28) (o:=0+4) EN ((ho.2 pb hpb).trans gb) rfl
  have hlt:i<Q0.length:=by omega
  have dd:decide ((i:Int)<(Q0.length:Int))=true:=decide_eq_true (by omega)
  have e17:=Ax Tryz.prog 3 (i:Int) 1 ⟨by omega,by omega⟩
  have e17':((i:Int)+1)=((i+1:Nat):Int):=by omega
  have hx:Q0[i]? = some Q0[i]:=zW hlt
  obtain⟨ia,oa,rfl,hia,lda⟩:=SB ha hcl hlt
  obtain⟨ib,ob,rfl,hib,ldb⟩:=SB hb hcl' hlt
  have ixa:=AX (cap:=ca) (i:=ia) (o:=oa) (n:=3) Tryz.underlying28 Aw hlt
  have ixb:=AX (cap:=cb) (i:=ib) (o:=ob) (n:=3) Tryz.underlying28 Aw hlt
  have lda':=Ci BZ ho hia lda
  have ldb':=Ci BZ ho hib ldb
  refine WC.loop' ?_
  generalize hW:WC E none (Ac.loop RL) Q=WW
  simp only[RL,eV,rv,la,lb,DE,AH Tryz.underlying28,Ry,dd,ixa,ixb,lda',ldb',Qa,Qb,Qc,Qd,Qf,Qh,Qj,Qk,Qm,Qo,true_and,Qp,Qq,Qr,Qs,Qt,Qv,Qz,Rb,Rc,Rd,Re,Rf,Ry,A1n,A1m,A1s,A1x,A1v,A1u]
  refine KR hE ((hqa i _ hx).old ho) ((hqb i _ hx).old ho) fun S' o'=>?_
  simp only[We,Bool.not_true,sC,e17,e17',Qb,Qc,Qd,Qf,Qh,Qi,Qj,Qk,Qm,Qo,true_and,Qp,Qq,Qr,Qs,Qt,Qv,Ra,Ya,We,A1t,A1p]
  rw[← hW]
  exact ih (i+1) S' _ _ (by omega) (by omega) (ho.trans (o'.mono ho.1))
theorem YL(hE:GoodN E){va vb:AV}{X:TD}{vs:List Int}{Q:List TD}(ha:LX s va X vs Q)(hb:LX s vb X vs Q)(hvl:vs.length≤1000000000)(hQl:Q.length≤1000000000){K:AV→AE→Prop}(hK:∀s',Aa s.next s s'→K (.bool true) s'):WF E 9 [va,vb] K s:=by
 obtain⟨a1,n1,c1,b1,m1,d1,av,cv,ac,cc,cells,rfl,hX,hv,hcl,hc,hq⟩:=ha
 obtain⟨a2,n2,c2,b2,m2,d2,av',cv',ac',cc',cells',rfl,hX',hv',hcl',hc',hq'⟩:=hb
 refine hE.go xD (by decide) rfl ?_
 obtain⟨n3,o1,g1,g2⟩:=EK s (BL X.1 (.slice a1 n1 c1) (.slice b1 m1 d1) (.slice av vs.length cv) (.slice ac Q.length cc)) (BL X.1 (.slice a2 n2 c2) (.slice b2 m2 d2) (.slice av' vs.length cv') (.slice ac' Q.length cc'))
 simp only[c9,wq,Xa,Xh,Xc,Ak,Qa,Qb,Qc,Qd,Qf,Qh,Qi,Qj,Ql,Qm,Qo,true_and,Qp,Qq,Qr,Qs,Qt,Qv,Rb,Rc,Rh,Rk,Rm,Rn,Yc,A1q,A1p]
 generalize newObj (newObj s (BL X.1 (.slice a1 n1 c1) (.slice b1 m1 d1) (.slice av vs.length cv) (.slice ac Q.length cc))) (BL X.1 (.slice a2 n2 c2) (.slice b2 m2 d2) (.slice av' vs.length cv') (.slice ac' Q.length cc'))=s1 at *
 have lc:AB Tryz.prog s1 26 (.ptr (some (s.next,0+0)))=some (.agg [.bool X.1,.slice a1 n1 c1,.slice b1 m1 d1]):=Al (o:=0) (n:=3) BZ Aw g1 (by simp)
 have lc':AB Tryz.prog s1 26 (.ptr (some (s.next+1,0+0)))=some (.agg [.bool X.1,.slice a2 n2 c2,.slice b2 m2 d2]):=Al (o:=0) (n:=3) BZ Aw g2 (by simp)
 simp only[ws,lc,lc',HJ,Qb,Qc,Qd,Qf,Qg,Qh,Qi,Qj,Qk,Qm,Qo,true_and,Qr,Qs,Qt,Qv,Qw,Ru,Rw,A1n,A1m,A1u]
 refine KR hE (hX.old o1) (hX'.old o1) fun s2 o2=>?_
 have h1:=o1.1
 have o02:=o1.trans (o2.mono h1)
 have k1:=(o2.2 s.next (by omega)).trans g1
 have k2:=(o2.2 (s.next+1) (by omega)).trans g2
 have la:=AI (P:=Tryz.prog) (t:=27) (o:=0+3) D6 k1 rfl
 have lb:=AI (P:=Tryz.prog) (t:=27) (o:=0+3) D6 k2 rfl
 have lra:=AI (P:=Tryz.prog) (t:=28) (o:=0+4) EN k1 rfl
 have lrb:=AI (P:=Tryz.prog) (t:=28) (o:=0+4) EN k2 rfl
 simp only[We,Bool.not_true,la,lb,lra,lrb,CE,DE,AH Tryz.underlying27,AH Tryz.underlying28,Wd,show decide ((vs.length:Int)≠(vs.length:Int))=false from by simp,show decide ((Q.length:Int)≠(Q.length:Int))=false from by simp,wu,Qb,Qc,Qd,Qf,Qh,Qi,Qm,Qo,true_and,Qp,Qq,Qr,Qs,Qt,Qv,Qx,Ra,Rt,Ya,Yb,Wd,We,A1p]
 have h2:=o2.1
 refine YJ k1 k2 ((hv.old o02 (zU _)).mono o02.1) ((hv'.old o02 (zU _)).mono o02.1) hvl (fun y5 y8 y9=>?_) vs.length 0 _ _ rfl (ze _)
 simp only[wz,if_true,Qb,Qc,Qd,Qf,Qh,Qi,Qm,Qo,true_and,Qp,Qq,Qt,Qv,Rb,Rd,Rg,A1p]
 refine YK hE k1 k2 (by omega) (by omega) hcl hcl' ((hc.old o02 (zU _)).mono o02.1) ((hc'.old o02 (zU _)).mono o02.1) (fun i x hi=>(hq i x hi).old o02) (fun i x hi=>(hq' i x hi).old o02) hQl (fun S y6 y10 y11 oS=>?_) Q.length 0 s2 _ _ rfl (ze _) (Aa.refl _ _)
 simp only[sD,if_true,Qb,Qc,Qd,Qf,Qh,Qi,Qm,Qo,true_and,Qp,Qq,Qr,Qs,Qt,Qv,Rb,Rd,Rg,Rj,A1p]
 exact hK S (o02.trans (oS.mono o02.1))
end
def QC(s:AE)(v:AV)(q:Rat):Prop:=∃m d,v=.agg [.bool (decide (q.num<0)),m,d]∧By s m (AR q.num.natAbs)∧By s d (AR q.den)
theorem QC.old{s s':AE}{v:AV}{q:Rat}(h:QC s v q)(o:Aa s.next s s'):QC s' v q:=by
 obtain⟨m,d,h1,h2,h3⟩:=h
 exact⟨m,d,h1,h2.old o,h3.old o⟩
theorem QC.box{s:AE}{v:AV}{q:Rat}{p e:Nat}{sp:Bool}{cs:List AV}{o:BF}(h:QC s v q)(hg:s.heap.get p=some (R e 0 sp cs))(hc:cs.all Kq=true):QC (setObj s p o) v q:=by
 obtain⟨m,d,h1,h2,h3⟩:=h
 exact⟨m,d,h1,h2.box hg hc,h3.box hg hc⟩
theorem QC.shape{s:AE}{v:AV}{q:Rat}(h:QC s v q):∃a n c b m d,v=.agg [.bool (decide (q.num<0)),.slice a n c,.slice b m d]:=by
 obtain⟨m,d,rfl,h2,h3⟩:=h
 obtain⟨a,n,c,rfl⟩:=h2.shape
 obtain⟨b,m,d,rfl⟩:=h3.shape
 exact⟨_,_,_,_,_,_,rfl⟩
theorem QC.qi{s:AE}{v:AV}{q:Rat}{k:Nat}(h:QC s v q)(hq:QH q k):QI s v q k:=by
 obtain⟨m,d,h1,h2,h3⟩:=h
 exact⟨_,m,d,_,_,h1,h2,h3,AT _,AT _,A9 hq.1,A9 hq.2,by rw[AY,AY];exact Wq q⟩
theorem QR.qc{b:Nat}{s:AE}{v:AV}{q:Rat}(h:QR b s v q):QC s v q:=by
 obtain⟨m,d,h1,h2,h3,_⟩:=h
 exact⟨m,d,h1,h2.n32,h3.n32⟩
def qx(q:Rat):TD:=(decide (q.num<0),AR q.num.natAbs,AR q.den)
theorem QC.qx{s:AE}{v:AV}{q:Rat}{k:Nat}(h:QC s v q)(hq:QH q k)(hk:k≤1000000000):QX s v (qx q):=by
 obtain⟨m,d,h1,h2,h3⟩:=h
 exact⟨m,d,h1,h2,h3,zY (A9 hq.1) hk,zY (A9 hq.2) hk⟩
theorem BC.parts{s:AE}{x:Bool}{v:AV}{z:Int}(h:BC s (.agg [.bool x,v]) z):x=decide (z<0)∧By s v (AR z.natAbs):=by
 obtain⟨m',e',h'⟩:=h
 injection e' with e'
 injection e' with e1 e'
 injection e1 with e1
 injection e' with e' _
 subst e'
 exact⟨e1,h'⟩
theorem WH{s:AE}{i:Nat}(hi:i<s.next)(hg:s.heap.get i=some (R 76 1 false [.int .u32 1])):By s (.slice (some (i,0)) 1 (some 1)) [1]:=by
 refine⟨_,_,rfl,.inl ⟨1,rfl,zU _,fun h=>(by cases h)⟩,fun k u hu=>?_⟩
 refine⟨i,0,rfl,hi,?_⟩
 rw[Fh,hg,Wo,zk]
 exact hu
theorem XO:AR 1=[1]:=by rw[EV (by decide),show 1 / LB=0 from rfl,BN];rfl
section
variable{E:CR}{s:AE}
theorem V0(hE:GoodN E){vn vd:AV}{z:Int}{D kn kd:Nat}(hn:BI s vn z kn)(hd:BI s vd (D:Int) kd)(hD:D≠0)(hkn:kn≤3000000)(hkd:kd≤3000000){K:AV→AE→Prop}(hK:∀s' w,Aa s.next s s'→QC s' w (mkRat z D)→(∀j∈Dg w,s.next≤j∧j<s'.next)→K w s'):WF E 80 [vn,vd] K s:=by
  have zb:=hn.abs
  have db:=hd.abs
  rw[A1L]at db
  obtain⟨na,aa,an,ac,rfl⟩:=hn.shape
  obtain⟨nb,ba,bn,bc,rfl⟩:=hd.shape
  refine hE.go uJ (by decide) rfl ?_
  obtain⟨n1,o1,g1,g2,g3⟩:=HV s (BX na (.slice aa an ac)) (BX nb (.slice ba bn bc)) ZQ
  simp only[zI,qP,qQ,Xa,Xh,Bh,Xc,Ak,Qa,Qb,Qc,Qd,Qf,Qh,Qj,Qk,Ql,Qm,Qo,true_and,Qp,Qq,Qr,Qs,Qt,Qv,Rb,Rh,Rj,A1q,A1r,A1m,A1u,A1o]
  generalize newObj (newObj (newObj s (BX na (.slice aa an ac))) (BX nb (.slice ba bn bc))) ZQ=s1 at *
  have l1:=AK (P:=Tryz.prog) (t:=24) DN CO g1 rfl
  simp only[l1,Qm]
  refine Dz hE (hn.old o1) (by omega) fun s2 v2 o2 r2=>?_
  have h2:=o2.1
  have f1:=(o2.2 s.next (by omega)).trans g1
  have f2:=(o2.2 (s.next+1) (by omega)).trans g2
  have f3:=(o2.2 (s.next+1+1) (by omega)).trans g3
  obtain⟨a2,n2,c2,rfl⟩:=r2.shape
  have st:=Ai (P:=Tryz.prog) (t:=24) (cs:=[.bool (decide (z<0)),.slice a2 n2 c2]) CO f1 rfl rfl rfl (by simp)
  generalize hs3:setObj s2 s.next (R 24 0 false [.bool (decide (z<0)),.slice a2 n2 c2])=s3 at st
  have n3:s3.next=s2.next:=by rw[← hs3];rfl
  have o3:Aa s.next s s3:=by rw[← hs3];exact(o1.trans (o2.mono o1.1)).set (zU _) _
  have k1:s3.heap.get s.next=some (BX (decide (z<0)) (.slice a2 n2 c2)):=by rw[← hs3,Ww]
  have k2:s3.heap.get (s.next+1)=some (BX nb (.slice ba bn bc)):=by rw[← hs3,Wx _ (by omega)];exact f2
  have k3:s3.heap.get (s.next+1+1)=some ZQ:=by rw[← hs3,Wx _ (by omega)];exact f3
  have w2:BC s3 (.agg [.bool (decide (z<0)),.slice a2 n2 c2]) z:=by rw[← hs3];exact r2.box f1 rfl
  have l2:=AK (P:=Tryz.prog) (t:=24) DN CO k2 rfl
  simp only[qR,st,l2,Xy,Za,Qb,Qc,Qd,Qf,Qh,Qj,Qk,Qm,Qo,true_and,Qr,Qs,Qt,Qv,A1m,A1u,A1o]
  refine Dz hE (hd.old o3) (by omega) fun s4 v4 o4 r4=>?_
  have h4:=o4.1
  have m1:=(o4.2 s.next (by omega)).trans k1
  have m2:=(o4.2 (s.next+1) (by omega)).trans k2
  have m3:=(o4.2 (s.next+1+1) (by omega)).trans k3
  have w4:=w2.old o4
  obtain⟨a4,n4,c4,rfl⟩:=r4.shape
  rw[decide_eq_false (show ¬ ((D:Nat):Int)<0 by omega)]at r4
  rw[decide_eq_false (show ¬ ((D:Nat):Int)<0 by omega)]
  have st:=Ai (P:=Tryz.prog) (t:=24) (cs:=[.bool false,.slice a4 n4 c4]) CO m2 rfl rfl rfl (by simp)
  generalize hs5:setObj s4 (s.next+1) (R 24 0 false [.bool false,.slice a4 n4 c4])=s5 at st
  have n5:s5.next=s4.next:=by rw[← hs5];rfl
  have o5:Aa s.next s s5:=by rw[← hs5];exact(o3.trans (o4.mono o3.1)).set (by omega) _
  have p1:s5.heap.get s.next=some (BX (decide (z<0)) (.slice a2 n2 c2)):=by rw[← hs5,Wx _ (by omega)];exact m1
  have p2:s5.heap.get (s.next+1)=some (BX false (.slice a4 n4 c4)):=by rw[← hs5,Ww]
  have p3:s5.heap.get (s.next+1+1)=some ZQ:=by rw[← hs5,Wx _ (by omega)];exact m3
  have hx:By s5 (.slice a2 n2 c2) (AR z.natAbs):=by rw[← hs5];exact(w4.parts.2).box m2 rfl
  have hy:By s5 (.slice a4 n4 c4) (AR D):=by
    have:=r4.parts.2
    rw[A1L]at this
    rw[← hs5];exact this.box m2 rfl
  have lx:=A9 zb
  have ly:=A9 db
  have l4:=AI (P:=Tryz.prog) (t:=22) (o:=0+1) Cq p1 rfl
  have l6:=AI (P:=Tryz.prog) (t:=22) (o:=0+1) Cq p2 rfl
  simp only[qS,st,l4,l6,CZ,Qb,Qc,Qd,Qf,Qh,Qj,Qk,Qm,Qo,true_and,Qr,Qs,Qt,Qv,A1n,A1m,A1u,A1p]
  refine kP hE hx hy (AT _) (AT _) (by omega) (by omega) fun s6 v6 o6 r6=>?_
  have h6:=o6.1
  rw[AY,AY]at r6
  have q1:=(o6.2 s.next (by omega)).trans p1
  have q2:=(o6.2 (s.next+1) (by omega)).trans p2
  have q3:=(o6.2 (s.next+1+1) (by omega)).trans p3
  have o56:=o5.trans (o6.mono o5.1)
  have hg0:z.natAbs.gcd D≠0:=fun e=>hD (A1l e)
  have lg:(AR (z.natAbs.gcd D)).length≤3000000:=zY (E9 (Nat.gcd_le_right _ (by omega))) (by omega)
  have l4:=AI (P:=Tryz.prog) (t:=22) (o:=0+1) Cq q1 rfl
  simp only[qT,l4,CZ,Qb,Qc,Qd,Qf,Qh,Qj,Qk,Qm,Qo,true_and,Qp,Qq,Qr,Qs,Qt,Qv,Zb,A1n,A1m,A1u,A1p,A1t]
  refine kO hE (hx.old o6) r6 (AT _) (AT _) (by omega) lg (by rw[AY];exact hg0) fun s7 v7 v7' o7 r7=>?_
  have h7:=o7.1
  rw[AY,AY]at r7
  have q1:=(o7.2 s.next (by omega)).trans q1
  have q2:=(o7.2 (s.next+1) (by omega)).trans q2
  have q3:=(o7.2 (s.next+1+1) (by omega)).trans q3
  have o57:=o56.trans (o7.mono o56.1)
  have l6:=AI (P:=Tryz.prog) (t:=22) (o:=0+1) Cq q2 rfl
  simp only[qU,Zb,l6,CZ,Qb,Qc,Qd,Qf,Qh,Qj,Qk,Qm,Qo,true_and,Qp,Qq,Qr,Qs,Qt,Qv,Zb,Yd,Ye,A1n,A1m,A1u,A1p,A1t]
  refine SX hE ((hy.old o6).old o7) (r6.old o7) (AT _) (AT _) (by omega) lg (by rw[AY];exact hg0) fun s8 v8 v8' o8 r8 b8=>?_
  have h8:=o8.1
  rw[AY,AY]at r8
  have q1:=(o8.2 s.next (by omega)).trans q1
  have q2:=(o8.2 (s.next+1) (by omega)).trans q2
  have q3:=(o8.2 (s.next+1+1) (by omega)).trans q3
  have o58:=o57.trans (o8.mono o57.1)
  have l3:=AI (P:=Tryz.prog) (t:=4) (o:=0+0) Gz q1 rfl
  have l5:=AI (P:=Tryz.prog) (t:=4) (o:=0+0) Gz q2 rfl
  have r7':=r7.old o8
  obtain⟨a7,n7,c7,rfl⟩:=r7'.shape
  obtain⟨a8,n8,c8,rfl⟩:=r8.shape
  simp only[qV,l3,l5,CY,Ep,Dq,Qb,Qc,Qd,Qf,Qh,Qj,Qk,Qm,Qo,true_and,Qp,Qq,Qr,Qs,Qt,Qv,Yd,Ye,A1n,A1m,A1w,A1u,A1o]
  have hbi:BI s8 (.agg [.bool (decide (z<0) != false),.slice a7 n7 c7]) (Bw (decide (z<0)) (z.natAbs / z.natAbs.gcd D)) kn:=by
    rw[show(decide (z<0) != false)=decide (z<0) by cases decide (z<0)<;>rfl]
    exact BI.mk r7' (A0J (A0Y _ _) zb)
  refine MM hE hbi (by omega) fun s9 v9 o9 r9 b9=>?_
  have q9:=(o9.2 (s.next+1+1) (by omega)).trans q3
  rw[← Mg z hD]at r9
  rw[← Pk z hD]at r8
  have r8':=r8.old o9
  obtain⟨a9,n9,c9,rfl⟩:=r9.shape
  obtain⟨st,ld⟩:=BM (cs0:=[.bool false,.slice none 0 (some 0),.slice none 0 (some 0)]) rfl (x:=decide ((mkRat z D).num<0)) (a:=a9) (n:=n9) (c:=c9) (b:=a8) (m:=n8) (d:=c8) q9
  simp only[VD,st,ld,AM,Xy,Za,Qd,Qj,Qm,Qo,true_and,Qr,Qs,Rk,Rn,Yc]
  have hq:QC s9 (.agg [.bool (decide ((mkRat z D).num<0)),.slice a9 n9 c9,.slice a8 n8 c8]) (mkRat z D):=⟨_,_,rfl,r9.parts.2,r8'⟩
  exact hK _ _ ((o58.trans (o9.mono o58.1)).set (by omega) _) (hq.box q9 rfl) fun j hj=>by
    show s.next≤j∧j<s9.next
    rcases(Cb rfl).1 hj with hj | hj
    · have := b9 _ _ j rfl hj
      have:=o58.1
      omega
    · have := b8 j hj
      have:=o57.1
      have:=o9.1
      omega
theorem UC(hE:GoodN E){vn vd:AV}{z:Int}{D kn kd:Nat}(hn:BI s vn z kn)(hd:BI s vd (D:Int) kd)(hD:D≠0)(hkn:kn≤3000000)(hkd:kd≤3000000){K:AV→AE→Prop}(hK:∀s' w,Aa s.next s s'→QC s' w (mkRat z D)→K w s'):WF E 80 [vn,vd] K s:=V0 hE hn hd hD hkn hkd fun s' w o h _=>hK s' w o h
theorem En(hE:GoodN E){x:Bool}{m d:AV}{ld:List Nat}(hm:∃a n c,m=.slice a n c)(hd:By s d ld)(hs:Bi ld)(hl:ld.length≤3000000){K:AV→AE→Prop}(hK:∀s' w,Aa s.next s s'→BC s' w (Cw (AG ld):Nat)→K w s'):WF E 83 [.agg [.bool x,m,d]] K s:=by
  obtain⟨am,nm,cm,rfl⟩:=hm
  obtain⟨a,n,c,rfl⟩:=hd.shape
  refine hE.go uM (by decide) rfl ?_
  obtain⟨n1,o1,g1,g2⟩:=EK s (BQ x (.slice am nm cm) (.slice a n c)) ZI
  simp only[zL,qn,qo,Xa,Xh,DO,Xc,Ak,J6,Qa,Qb,Qc,Qd,Qf,Qh,Qj,Qk,Ql,Qm,Qo,true_and,Qp,Qq,Qr,Qs,Qt,Qv,Rb,Rh,A1q,A1r,A1n,A1m,A1u,A1p]
  generalize newObj (newObj s (BQ x (.slice am nm cm) (.slice a n c))) ZI=s1 at *
  have l2:=AI (P:=Tryz.prog) (t:=22) (o:=0+2) Cq g1 rfl
  simp only[l2,Qm]
  refine Sa hE (hd.old o1) hs (by omega) fun s2 v2 o2 r2=>?_
  have h2:=o2.1
  have g3:=(o2.2 (s.next+1) (by omega)).trans g2
  have o12:=o1.trans (o2.mono o1.1)
  have hneg:∀n:Nat,decide ((n:Int)<0)=false:=fun n=>decide_eq_false (by omega)
  have e3:AN Tryz.prog .eql 3 (iv ((AR (AG ld)).length:Int)) (iv 0)=some (.bool (decide (((AR (AG ld)).length:Int)=0))):=Wc ..
  have r2':=r2
  obtain⟨a2,c2,rfl,_⟩:=r2'
  by_cases h0:AG ld=0
  · have e4 : (AR    (AG   ld)).length = 0 := by rw [h0, BN];         rfl
    have d1:decide (((AR (AG ld)).length:Int)=0)=true:=decide_eq_true (by omega)
    simp only[eF,qp,AH Tryz.underlying22,e3,d1,Qb,Qc,Qd,Qf,Qh,Qi,Qj,Qk,Qm,Qo,true_and,Qp,Qq,Qr,Qs,Qt,Qv,Qz,Rj,A1s,A1p]
    have er:Ad Tryz.prog 22 1 (zipIdx [0] [.int .u32 1])=some (R 76 1 false [A6 1]):=Ui 1
    obtain⟨n5,o5,g5⟩:=Bs s2 (R 76 1 false [A6 1])
    simp only[er,Xe,Qm,Yc]
    generalize newObj s2 (R 76 1 false [A6 1])=s5 at *
    have q3:=(o5.2 (s.next+1) (by omega)).trans g3
    obtain⟨st,ld'⟩:=Dr (s1:=s) (x:=false) (a:=some (s2.next,0)) (n:=1) (c:=some 1) q3
    simp only[eG,Lm,st,ld',AM,Xy,Za,Qb,Qc,Qd,Qf,Qh,Qj,Qk,Qm,Qo,true_and,Qr,Qs,Qt,Qv,Rk,Rn,Yc,A1o]
    have hb:By s5 (.slice (some (s2.next,0)) 1 (some 1)) (AR 1):=by rw[XO];exact WH (i:=s2.next) (by omega) g5
    refine hK _ _ ((o12.trans (o5.mono o12.1)).set (by omega) _) ⟨_,by rw[hneg],?_⟩
    rw[h0]
    exact hb.box q3 rfl
  · have e4 := List.length_pos_iff.2 (Cz       h0)
    have d1:decide (((AR (AG ld)).length:Int)=0)=false:=decide_eq_false (by omega)
    obtain⟨st,ld'⟩:=Dr (s1:=s) (x:=false) (a:=a2) (n:=(AR (AG ld)).length) (c:=c2) g3
    simp only[eF,eG,AH Tryz.underlying22,e3,d1,Lm,st,ld',AM,Xy,Za,Qb,Qc,Qd,Qf,Qh,Qi,Qj,Qk,Qm,Qo,true_and,Qp,Qq,Qr,Qs,Qt,Qv,Ra,Rj,Rk,Rn,Yc,A1s,A1o]
    refine hK _ _ (o12.set (by omega) _) ⟨_,by rw[hneg],?_⟩
    rw[A1L,show Cw (AG ld)=AG ld by unfold Cw;rw[if_neg h0]]
    exact r2.box g3 rfl
theorem Qn.bi{s:AE}{neg:Bool}{m:AV}{lm:List Nat}{k:Nat}(hm:By s m lm)(hs:Bi lm)(hl:lm.length≤k):BI s (.agg [.bool neg,m]) (Bw neg (AG lm)) k:=⟨neg,m,lm,rfl,hm,hs,hl,rfl⟩
theorem Hp{ld:List Nat}{k:Nat}(hs:Bi ld)(hl:ld.length≤k)(hk:1≤k):Cw (AG ld)<LB ^ k:=by
 unfold Cw
 split
 ·exact DC (j:=1) (by decide) hk
 ·exact DI hs hl
theorem BC.nat{s:AE}{v:AV}{n k:Nat}(h:BC s v (n:Int))(hn:n<LB ^ k):BI s v (n:Int) k:=h.bi (by rw[A1L];exact hn)
theorem HI(hE:GoodN E){v:AV}{q:Rat}{k:Nat}(hv:QI s v q k)(hk1:1≤k)(hk:k≤3000000){K:AV→AE→Prop}(hK:∀s' w,Aa s.next s s'→QC s' w q→K w s'):WF E 74 [v] K s:=by
 obtain⟨neg,m,d,lm,ld,rfl,hm,hd,hsm,hsd,hlm,hld,rfl⟩:=hv
 obtain⟨a,n,c,rfl⟩:=hm.shape
 obtain⟨b,nd,cd,rfl⟩:=hd.shape
 refine hE.go uE (by decide) rfl ?_
 obtain⟨n1,o1,g1,g2⟩:=EK s (BQ neg (.slice a n c) (.slice b nd cd)) ZQ
 simp only[zD,qD,qE,Xa,Xh,Bh,Xc,Ak,EE,Qa,Qb,Qc,Qd,Qf,Qh,Qj,Qk,Ql,Qm,Qo,true_and,Qp,Qq,Qr,Qs,Qt,Qv,Rb,Rh,Rj,A1q,A1r,A1n,A1m,A1u,A1o]
 generalize newObj (newObj s (BQ neg (.slice a n c) (.slice b nd cd))) ZQ=s1 at *
 have l1:AB Tryz.prog s1 24 (.ptr (some (s.next,0+0)))=some (.agg [.bool neg,.slice a n c]):=Al (o:=0) (n:=2) DN CO g1 (by simp)
 have l2:=AK (P:=Tryz.prog) (t:=26) BZ Aw g1 rfl
 simp only[l1,l2,Qm]
 refine En hE ⟨_,_,_,rfl⟩ (hd.old o1) hsd (by omega) fun s2 v2 o2 r2=>?_
 have h2:=o2.1
 have f1:=(o2.2 s.next (by omega)).trans g1
 have f2:=(o2.2 (s.next+1) (by omega)).trans g2
 have o12:=o1.trans (o2.mono o1.1)
 refine⟨⟨Au (by simp only[Qk,Qr,Qs];exact Al (o:=0) (n:=2) DN CO f1 (by simp)) (by simp only[Qk,Qr,Qs];exact Em _ _ _ _),trivial⟩,?_⟩
 simp only[Qr,Qs]
 refine UC hE ((Qn.bi hm hsm hlm).old o12) (r2.nat (Hp hsd hld hk1)) (Cx _) (by omega) (by omega) fun s3 v3 o3 r3=>?_
 have f3:=(o3.2 (s.next+1) (by omega)).trans f2
 obtain⟨a3,n3,c3,b3,m3,d3,rfl⟩:=r3.shape
 obtain⟨st,ld'⟩:=BM (cs0:=[.bool false,.slice none 0 (some 0),.slice none 0 (some 0)]) rfl (x:=decide ((mkRat (Bw neg (AG lm)) (Cw (AG ld))).num<0)) (a:=a3) (n:=n3) (c:=c3) (b:=b3) (m:=m3) (d:=d3) f3
 simp only[st,ld',AM,Xy,Za,Qd,Qj,Qm,Qo,true_and,Qr,Qs,Rk,Rn,Yc]
 exact hK _ _ ((o12.trans (o3.mono o12.1)).set (by omega) _) (r3.box f3 rfl)
theorem jy(hE:GoodN E){v:AV}{q:Rat}{k:Nat}(hv:QI s v q k)(hk1:1≤k)(hk:k≤3000000){K:AV→AE→Prop}(hK:∀s' w,Aa s.next s s'→QC s' w (-q)→K w s'):WF E 75 [v] K s:=by
 obtain⟨neg,m,d,lm,ld,rfl,hm,hd,hsm,hsd,hlm,hld,rfl⟩:=hv
 obtain⟨a,n,c,rfl⟩:=hm.shape
 obtain⟨b,nd,cd,rfl⟩:=hd.shape
 refine hE.go uF (by decide) rfl ?_
 obtain⟨n1,o1,g1,g2⟩:=EK s (BQ neg (.slice a n c) (.slice b nd cd)) ZQ
 simp only[zE,qF,qG,Xa,Xh,Bh,Xc,Ak,EE,Qa,Qb,Qc,Qd,Qf,Qh,Qj,Qk,Ql,Qm,Qo,true_and,Qp,Qq,Qr,Qs,Qt,Qv,Rb,Rh,Rj,A1q,A1r,A1n,A1m,A1u,A1o]
 generalize newObj (newObj s (BQ neg (.slice a n c) (.slice b nd cd))) ZQ=s1 at *
 have l1:AB Tryz.prog s1 24 (.ptr (some (s.next,0+0)))=some (.agg [.bool neg,.slice a n c]):=Al (o:=0) (n:=2) DN CO g1 (by simp)
 have l2:=AK (P:=Tryz.prog) (t:=26) BZ Aw g1 rfl
 simp only[l1,l2,Qm]
 refine fV hE ((Qn.bi hm hsm hlm).old o1) (by omega) fun s2 v2 o2 r2=>?_
 have h2:=o2.1
 have f1:=(o2.2 s.next (by omega)).trans g1
 have f2:=(o2.2 (s.next+1) (by omega)).trans g2
 have o12:=o1.trans (o2.mono o1.1)
 refine⟨⟨Au (by simp only[Qj,Qk,Qr,Qs];exact AK BZ Aw f1 rfl) (by simp only[Qk,Qr,Qs];exact CI _ _ _ _ _ _ _),trivial⟩,?_⟩
 simp only[Qr,Qs]
 refine En hE ⟨_,_,_,rfl⟩ (hd.old o12) hsd (by omega) fun s3 v3 o3 r3=>?_
 have h3:=o3.1
 have f2:=(o3.2 (s.next+1) (by omega)).trans f2
 have o13:=o12.trans (o3.mono o12.1)
 simp only[Qd,Qo,true_and,Qr,Qs]
 refine UC hE ((r2.old o3).bi (k:=k) (by rw[Int.natAbs_neg,CJ];exact DI hsm hlm)) (r3.nat (Hp hsd hld hk1)) (Cx _) (by omega) (by omega) fun s4 v4 o4 r4=>?_
 have f4:=(o4.2 (s.next+1) (by omega)).trans f2
 rw[show mkRat (-Bw neg (AG lm)) (Cw (AG ld))=-Fe neg (AG lm) (AG ld)from(Rat.neg_mkRat _ _).symm]at r4
 obtain⟨a3,n3,c3,b3,m3,d3,rfl⟩:=r4.shape
 obtain⟨st,ld'⟩:=BM (cs0:=[.bool false,.slice none 0 (some 0),.slice none 0 (some 0)]) rfl (x:=decide ((-Fe neg (AG lm) (AG ld)).num<0)) (a:=a3) (n:=n3) (c:=c3) (b:=b3) (m:=m3) (d:=d3) f4
 simp only[st,ld',AM,Xy,Za,Qd,Qj,Qm,Qo,true_and,Qr,Qs,Rk,Rn,Yc]
 exact hK _ _ ((o13.trans (o4.mono o13.1)).set (by omega) _) (r4.box f4 rfl)
theorem fR       (hE : GoodN E) {v : AV} {q : Rat} {k : Nat} (hv : QI s v q k) (hk : k ≤ 3000000) {K : AV → AE  → Prop} (hK : ∀ s', Aa  s.next s s' → K (.bool (decide (q.num = 0))) s') : WF E 101 [v] K s := by
  obtain⟨neg,m,d,lm,ld,rfl,hm,hd,hsm,hsd,hlm,hld,rfl⟩:=hv
  obtain⟨a,n,c,rfl⟩:=hm.shape
  obtain⟨b,nd,cd,rfl⟩:=hd.shape
  refine hE.go jE (by decide) rfl ?_
  obtain⟨n1,o1,g1⟩:=Bs s (BQ neg (.slice a n c) (.slice b nd cd))
  simp only[vM,Yn,Yo,Xa,Xh,Xc,EE,CZ,Qa,Qb,Qc,Qd,Qf,Qh,Qi,Qj,Qk,Ql,Qm,Qo,true_and,Qp,Qq,Qr,Qs,Qt,Qv,Rb,Rh,Rj,Rk,Rm,Rn,Yc,A1q,A1p,A1n,A1m,A1u,A1s]
  generalize newObj s (BQ neg (.slice a n c) (.slice b nd cd))=s1 at *
  have l1:=AI (P:=Tryz.prog) (t:=22) (o:=0+0+1) Cq g1 rfl
  simp only[l1,Qm]
  refine Sa hE (hm.old o1) hsm (by omega) fun s2 v2 o2 r2=>?_
  obtain⟨a2,c2,rfl,_⟩:=r2
  have hz:decide (((AR (AG lm)).length:Int)=0)=decide ((Fe neg (AG lm) (AG ld)).num=0):=by
    have e:((AR (AG lm)).length:Int)=0↔(Fe neg (AG lm) (AG ld)).num=0:=by
      rw[Rat.num_eq_zero]
      unfold Fe
      rw[Rat.mkRat_eq_zero (Cx _)]
      constructor
      · intro h
        have h0:AG lm=0:=Classical.byContradiction fun h'=>absurd (List.length_pos_iff.2 (Cz h')) (by omega)
        rw[h0];cases neg<;>rfl
      · intro h
        have h0:AG lm=0:=by rw[← CJ neg (AG lm),h];rfl
        rw[h0,BN];rfl
    exact decide_eq_decide.2 e
  simp only[AH Tryz.underlying22,Wc,hz,Qd,Qm,Qo,true_and,Qp,Qq,Qr,Qs,Wc]
  exact hK s2 (o1.trans (o2.mono o1.1))
theorem fQ(hE:GoodN E){v:AV}{q:Rat}{k:Nat}(hv:QC s v q)(hq:QH q k)(hk:k≤3000000){K:AV→AE→Prop}(hK:∀s',Aa s.next s s'→K (iv (Hf q.num)) s'):WF E 54 [v] K s:=by
  have hqi:=hv.qi hq
  obtain⟨a,n,c,b,nd,cd,rfl⟩:=hv.shape
  refine hE.go tt (by decide) rfl ?_
  obtain⟨n1,o1,g1⟩:=Bs s (BQ (decide (q.num<0)) (.slice a n c) (.slice b nd cd))
  simp only[yq,oo,oq,Xa,Xh,Xc,Qa,Qb,Qc,Qd,Qf,Qh,Qi,Qj,Qk,Ql,Qm,Qo,true_and,Qp,Qq,Qr,Qs,Qt,Qv,Rb,Rc,Rh,Rk,Rm,Rn,Yc,A1q,A1p,A1m]
  generalize newObj s (BQ (decide (q.num<0)) (.slice a n c) (.slice b nd cd))=s1 at *
  have l1:=AK (P:=Tryz.prog) (t:=26) BZ Aw g1 rfl
  simp only[l1,Qm]
  refine fR hE (hqi.old o1) hk fun s2 o2=>?_
  have f1:=(o2.2 s.next (by omega)).trans g1
  have l2:=AI (P:=Tryz.prog) (t:=4) (o:=0+0+0) Gz f1 rfl
  have hend:=hK s2 (o1.trans (o2.mono o1.1))
  unfold Hf at hend
  by_cases h0:q.num=0
  · rw[if_neg (by omega),if_neg (by omega)]at hend
    simp only[decide_eq_true h0,ot,Qb,Qc,Qd,Qf,Qh,Qi,Qm,Qo,true_and,Qp,Qq,Qr,Qs,Qt,Qv,Qz,Rj,A1p]
    exact hend
  · by_cases h1 : q.num < 0
    · rw [if_pos h1] at hend
      rw[decide_eq_true h1]at l2
      simp only[decide_eq_false h0,dc,ou,l2,EE,CY,Qb,Qc,Qd,Qf,Qh,Qi,Qj,Qk,Qm,Qo,true_and,Qp,Qq,Qr,Qs,Qt,Qv,Qz,Ra,Rj,A1n,A1p]
      exact hend
    · rw [if_neg h1, if_pos (by omega)] at hend
      rw[decide_eq_false h1]at l2
      simp only[decide_eq_false h0,dc,ov,l2,EE,CY,Qb,Qc,Qd,Qf,Qh,Qi,Qj,Qk,Qm,Qo,true_and,Qp,Qq,Qr,Qs,Qt,Qv,Ra,Rj,A1n,A1p]
      exact hend
end
end
end Go.Proofs.YtjnkfbpadpmakaaGreatDoor.Am
