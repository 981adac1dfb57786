/- Package litmusref01: div, walked; conditions: none. -/
import Derived.Test.YtjnkfbpadpmakaaGreatDoorAmM11
import Derived.Test.YtjnkfbpadpmakaaGreatDoorAmM10
set_option linter.unusedVariables false
set_option linter.unusedSimpArgs false
set_option maxRecDepth 16000
namespace Go.Proofs.YtjnkfbpadpmakaaGreatDoor.Am
open Go Go.Proofs
noncomputable section
theorem CM.capZ{e n sz:Nat}{s:AE}{v:AV}{cs:List AV}{O:List Nat}(h:CM e s v n sz cs O)(a:Option (Nat×Nat))(cap:Option Nat)(hv:v=.slice a n cap):EC sz s a cap n:=by
 rcases h with⟨a',e1,_,_,h4,_⟩ | ⟨i,p,e1,h6,_⟩
 ·rw[hv]at e1
  injection e1 with e1 _ e2
  subst e1;subst e2
  exact .inl ⟨n,rfl,xZ _,h4⟩
 ·have hl:=h6.len
  rw[hv]at e1
  injection e1 with e1 _ e2
  subst e1;subst e2
  rcases h6.ex with⟨e',_⟩ | ⟨_,_,k2,_,r,k4,k5,_,_,k8,_⟩
  ·rw[hv]at e';cases e'
  ·exact .inr ⟨rfl,i,0,r,rfl,k2,k4,k8,by rw[k5.1,hl];omega⟩
theorem tW(n:Nat):NL [AV.bool false] n=Gj (List.replicate n false):=by
 induction n with
 | zero=>rfl
 | succ n ih=>show [AV.bool false]++NL [AV.bool false] n=_;rw[ih];rfl
theorem UW(n:Nat)(h:n≤100000000000):BV Tryz.prog 124 (iv (n:Int)) (iv (n:Int))=some (R 4 1 false (Gj (List.replicate n false)),.slice n):=by
 have e:BV Tryz.prog 124 (.int .i64 (.ofNat n)) (.int .i64 (.ofNat n))=some (F2 4 1 (NL [AV.bool false] n),.slice n):=by
  simp[BV,Tryz.underlying124,vf,TB,zr4,AP,CQ (show n≤1099511627776 by omega),AV.cells]
 rw[tW]at e
 exact e
theorem iV(l:List Bool)(k:Nat)(x:Bool):(Gj l).set k (.bool x)=Gj (l.set k x):=by simp[Gj,List.map_set]
theorem YY:∀ {l:List Bool}{k:Nat},l[k]? = some false→bv (l.set k true)=bv l+2 ^ k
 | y::l,0,h=>by
  injection h with h
  subst h
  show 1+2 * bv l=0+2 * bv l+1
  omega
 | y::l,k+1,h=>by
  show y.toNat+2 * bv (l.set k true)=y.toNat+2 * bv l+2 ^ (k+1)
  rw[YY (l:=l) (k:=k) h,yJ];omega
theorem rF(n:Nat):bv (List.replicate n false)=0:=by
 induction n with
 | zero=>rfl
 | succ n ih=>show 0+2 * bv (List.replicate n false)=0;rw[ih]
theorem iU(l:List Bool):An (Gj l)=true:=by
 induction l with
 | nil=>rfl
 | cons x l ih=>show((AV.bool x).isCell && An (Gj l))=true;rw[ih];rfl
structure Wq(a b:List Bool)(i:Nat)(qs:List Bool)(p:Nat):Prop where
 len:qs.length=a.length
 low:∀k,k<i→qs[k]? = some false
 lt:p<bv b
 val:∃m,bv qs=2 ^ i * m∧m * bv b+p=bv (a.drop i)
theorem Wq.step{a b:List Bool}{i:Nat}{qs:List Bool}{p:Nat}(h:Wq a b (i+1) qs p){x:Bool}(hx:a[i]? = some x):
  (x.toNat+2 * p<bv b→Wq a b i qs (x.toNat+2 * p))∧(bv b≤x.toNat+2 * p→Wq a b i (qs.set i true) (x.toNat+2 * p - bv b)):=by
 have hlt:i<a.length:=by
  rcases xf i a.length with h' | h'
  ·exact h'
  ·rw[xr h']at hx;cases hx
 have hda:bv (a.drop i)=x.toNat+2 * bv (a.drop (i+1)):=by
  rw[yV hlt]
  rw[xe hlt]at hx
  injection hx with hx
  rw[hx];rfl
 obtain⟨m,h1,h2⟩:=h.val
 have hb:=Ky x
 have hlt':=h.lt
 refine⟨fun hc=>⟨h.len,fun k hk=>h.low k (by omega),hc,2 * m,by rw[h1,yJ,xw],by rw[hda,← h2,xw,yB];omega⟩,fun hc=>⟨by rw[yz];exact h.len,fun k hk=>?_,by omega,2 * m+1,?_,?_⟩⟩
 ·rw[zR (by omega)];exact h.low k (by omega)
 ·rw[YY (h.low i (by omega)),h1,yJ,xw,yB,xj]
 ·rw[hda,← h2,yH,xw,yB,ye];omega
section
variable{E:CU}{s:AE}
theorem Xr(hE:GoodN E){q:Nat}{aa:Option (Nat×Nat)}{ca:Option Nat}{a b:List Bool}{vb:AV}(hcca:AU q s aa (Gj a))(hb:Da s vb b)(hbq:∀j,By vb=some j→j≠q)(hqs:q<s.next)(hal:a.length≤100000000)(hbl:b.length≤100000000){Q:Ay→Prop}{y2 y3:AV}
  (hq:∀S v qs p y6 y7 y8,s.next≤S.next→(∀j,j<s.next→j≠q→S.heap.get j=s.heap.get j)→Cf S q (Gj qs) none→Da S v (Au p)→Wq a b 0 qs p→Q ⟨.exit 0,[.slice aa a.length ca,vb,y2,y3,.slice (some (q,0)) a.length (some a.length),v,y6,y7,y8],[],S⟩):
  ∀ (i:Nat) (S:AE) (v:AV) (qs:List Bool) (p:Nat) (y7 y8:AV),i≤a.length→s.next≤S.next→(∀j,j<s.next→j≠q→S.heap.get j=s.heap.get j)→Cf S q (Gj qs) none→Da S v (Au p)→(∀j,By v=some j→j≠q)→Wq a b i qs p→WC E none (.loop Iw) Q [.slice aa a.length ca,vb,y2,y3,.slice (some (q,0)) a.length (some a.length),v,iv ((i:Int) - 1),y7,y8] [] S:=by
 intro i
 induction i with
 | zero =>
  intro S v qs p y7 y8 _ hn hf ho hv hvq hI
  refine WC.loop' ?_
  simp only[Iw,TS,Wb,show decide ((((0:Nat):Int) - 1)≥0)=false from rfl,Qa,Qb,Qc,Qd,Qf,Qh,Qi,Qj,Qm,Qo,true_and,Qp,Qq,Qr,Qs,Qt,Qv,Ra,Rb,Rd,Re,Wb]
  exact hq S v qs p _ _ _ hn hf ho hv hI
 | succ i ih =>
  intro S v qs p y7 y8 hi hn hf ho hv hvq hI
  have e0:(((i+1:Nat):Int) - 1)=(i:Int):=by omega
  rw[e0]
  have hlt:i<a.length:=by omega
  have d0:decide ((i:Int)≥0)=true:=decide_eq_true (by omega)
  have es:=CP Tryz.prog 3 (i:Int) 1 ⟨by omega,by omega⟩
  have hx:a[i]? = some a[i]:=xe hlt
  generalize a[i]=x at hx
  obtain⟨st1,st2⟩:=hI.step hx
  obtain⟨ia,oa,rfl,hia,ga⟩:=hcca i _ (Kz hx)
  have lda:AC Tryz.prog S 4 (.ptr (some (ia,oa+i * 1)))=some (.bool x):=Bd Gp (by rw[xj,B6 (hf ia (by omega) (by omega))];exact ga)
  have ixa:=Ae (cap:=ca) (i:=ia) (o:=oa) (n:=1) Tryz.underlying124 TB hlt
  have hpl:(Au p).length≤b.length:=FI (zr hI.lt (Ec b))
  obtain⟨n1,o1,g1⟩:=CC S (R 4 1 false [.bool x])
  obtain⟨ar,cr,rfl,hcr,hccr⟩:=hv
  generalize hs1:newObj S (R 4 1 false [.bool x])=s1 at *
  have H4:CM 4 s1 (.slice (some (S.next,0)) 1 (some 1)) 1 1 [.bool x] []:=CM.row (by omega) g1 rfl
  obtain⟨v2,s2,O2,happ,LD,hn2,_,hf2,_,hsl2⟩:=H4.append (st:=124) (xt:=124) Tryz.underlying124 TB vf (by decide) S9 Wn (KG (e:=4) (sz:=1) (cap:=cr) (n:=(Au p).length) ((hccr.old o1 (xZ _)).mono o1.1) (by rw[Oj,xj]) (by decide)) (by rw[Oj,xj]) (iU _) (by omega) (by omega)
  have o2:Af s1.next s1 s2:=⟨hn2,fun j hj=>hf2 j hj (by simp)⟩
  have hbr:Da s2 v2 (x::Au p):=by
   have hz:=LD.capZ
   obtain⟨a2,cap2,rfl,hc2⟩:=LD.cells
   have el:1+(Au p).length=(x::Au p).length:=by rw[yU];omega
   rw[el]at hz ⊢
   exact⟨a2,cap2,rfl,hz a2 cap2 rfl,hc2⟩
  have hbvx:bv (x::Au p)=x.toNat+2 * p:=by show x.toNat+2 * bv (Au p)=_;rw[BH]
  have o02:Af S.next S s2:=o1.trans (o2.mono o1.1)
  refine WC.loop' ?_
  generalize hW:WC E none (Aa.loop Iw) Q=WW
  simp only[Iw,TS,Y6,Wb,d0,ixa,lda,Mv,Xe,hs1,happ,Qa,Qb,Qc,Qd,Qf,Qh,Qi,Qj,Qk,Qm,Qo,true_and,Qp,Qq,Qr,Qs,Qt,Qv,Qz,Rb,Rd,Re,Yc,Wb]
  refine KC hE hbr (by rw[yU];omega) fun w hw hwsl=>?_
  rw[hbvx]at hw
  have hwq:∀j,By w=some j→S.next≤j:=fun j hj=>by
   rcases hsl2 j (hwsl j hj)with h | h
   ·injection h with h;omega
   ·omega
  have hwl:(Au (x.toNat+2 * p)).length≤200000000:=xh (FI (k:=b.length+1) (by
   have h1:=Ec b
   have h2:=hI.lt
   have h3:=Ky x
   rw[yJ];omega)) (by omega)
  have hbS:Da S vb b:=hb.keep hn fun j hj hl=>hf j hl (hbq j hj)
  have hf02:∀j,j<s.next→j≠q→s2.heap.get j=s.heap.get j:=fun j hj hne=>by rw[o02.2 j (by omega),hf j hj hne]
  have ho2:=ho.keep (o02.2 q (by omega))
  have hn02:=o02.1
  simp only[Y7,Qb,Qc,Qd,Qf,Qh,Qj,Qk,Qo,true_and,Qp,Qq,Qr,Qs,Qt,Qv]
  refine JO hE hw (hbS.old o02) (by omega) (by omega) ?_
  rw[BH]
  by_cases hc:x.toNat+2 * p<bv b
  ·simp only[decide_eq_true hc,We,Bool.not_true,TT,es,Qb,Qc,Qd,Qf,Qh,Qi,Qj,Qk,Qm,Qo,true_and,Qp,Qq,Qr,Qs,Qt,Qv,Ra,Ya,We]
   rw[← hW]
   exact ih s2 w qs _ _ _ (by omega) (by omega) hf02 ho2 hw (fun j hj=>by have:=hwq j hj;omega) (st1 hc)
  ·simp only[decide_eq_false hc,We,Bool.not_false,Y8,Qb,Qc,Qd,Qf,Qh,Qj,Qk,Qm,Qo,true_and,Qp,Qq,Qr,Qs,Qt,Qv,Qz,Yb,We]
   refine Sf hE hw (hbS.old o02) (by omega) (by rw[BH];omega) fun s3 w3 o3 hw3 hsl3=>?_
   rw[BH]at hw3
   have h3:=o3.1
   have ho3:=ho2.keep (o3.2 q (by omega))
   have ixq:=Ae (cap:=some a.length) (i:=q) (o:=0) (n:=1) (len:=a.length) (k:=i) Tryz.underlying124 TB hlt
   obtain⟨S',e1,e2,e3,e4⟩:=EU (P:=Tryz.prog) (t:=4) (o:=0+i * 1) (v:=.bool true) TB ho3 (by rw[Oj,hI.len];omega) rfl
   rw[show 0+i * 1=i by omega,iV]at e2
   simp only[Y9,ixq,e1,TT,es,Xy,Za,Qb,Qc,Qd,Qf,Qh,Qi,Qj,Qk,Qm,Qo,true_and,Qp,Qq,Qr,Qs,Qt,Qv]
   rw[← hW]
   refine ih S' w3 (qs.set i true) _ _ _ (by omega) (by omega) (fun j hj hne=>by rw[e4 j hne (by simp),o3.2 j (by omega),hf02 j hj hne]) e2 (hw3.keep (by omega) fun j hj hl=>e4 j (by have:=hsl3 j hj;omega) (by simp)) (fun j hj=>by have:=hsl3 j hj;omega) (st2 (by omega))
theorem WM(hE:GoodN E){va vb:AV}{a b:List Bool}(ha:Da s va a)(hb:Da s vb b)(hal:a.length≤100000000)(hbl:b.length≤100000000)(hb0:bv b≠0){K:AV→AE→Prop}(hK:∀s' w w',Af s.next s s'→Da s' w (Au (bv a / bv b))→Da s' w' (Au (bv a % bv b))→K (.tuple [w,w']) s'):WF E 105 [va,vb] K s:=by
 obtain⟨aa,ca,rfl,_,hca⟩:=ha
 refine hE.go iw (by decide) rfl ?_
 have hmk:=UW a.length (by omega)
 obtain⟨n1,o1,g1⟩:=CC s (R 4 1 false (Gj (List.replicate a.length false)))
 have hown:Cf (newObj s (R 4 1 false (Gj (List.replicate a.length false)))) s.next (Gj (List.replicate a.length false)) none:=Cf.of_R g1
 have es:=CP Tryz.prog 3 (a.length:Int) 1 ⟨by omega,by omega⟩
 simp only[uG,Y2,Y3,Y4,Y5,AH Tryz.underlying124,Xy,hmk,Xe,es,Qa,Qb,Qc,Qd,Qf,Qh,Qi,Qj,Qk,Ql,Qm,Qo,true_and,Qp,Qq,Qr,Qt,Qv,Rb,Rh,Rk,Rm,Rp,Yc]
 generalize newObj s (R 4 1 false (Gj (List.replicate a.length false)))=s1 at *
 have hsb:∀j,By vb=some j→j≠s.next∨b=[]:=fun j hj=>by
  obtain⟨a',cap',rfl,h2,h3⟩:=hb
  cases b with
  | nil=>exact .inr rfl
  | cons y l =>
   obtain⟨i,o,rfl,hi,_⟩:=h3 0 _ rfl
   injection hj with hj
   exact .inl (by omega)
 have hbne:b≠[]:=fun h=>hb0 (by rw[h];rfl)
 refine Xr (s:=s1) (q:=s.next) hE (hca.old o1 (xZ _)) (hb.old o1) (fun j hj=>(hsb j hj).resolve_right hbne) (by omega) hal hbl (fun S v qs p y6 y7 y8 hn hf ho hv hI=>?_) a.length s1 _ (List.replicate a.length false) 0 _ _ (xZ _) (xZ _) (fun _ _ _=>rfl) hown (by rw[B8];exact Da.nil _) (fun j hj=>by cases hj) ⟨by simp,fun k hk=>by rw[List.getElem?_replicate,if_pos hk],by omega,0,by rw[rF,yO],by rw[yQ (xZ _),yo];rfl⟩
 obtain⟨m,h1,h2⟩:=hI.val
 rw[Nat.pow_zero,ye]at h1
 rw[yx]at h2
 have hlt:=hI.lt
 have hql:qs.length=a.length:=hI.len
 have hqr:Da S (.slice (some (s.next,0)) a.length (some a.length)) qs:=⟨some (s.next,0),some a.length,by rw[hql],.inl ⟨a.length,rfl,by omega,fun h=>by cases h⟩,Hc ho (by omega)⟩
 have hq1:bv a / bv b=m:=by
  rw[← h2,zI,Nat.add_mul_div_right _ _ (by omega),zE hlt,xu]
 have hq2:bv a % bv b=p:=by
  rw[← h2,zI,Nat.add_mul_mod_self_right,yS hlt]
 simp only[VS,if_true,Qb,Qc,Qd,Qf,Qh,Qj,Qk,Qm,Qo,true_and,Qr,Qs,Qt,Qv,Rb,Rd,Rg,Rj]
 refine F8 hE hqr (by omega) fun w hw=>?_
 simp only[Qd,Qo,true_and,Qp,Qq,Qr,Qs]
 rw[h1,← hq1]at hw
 rw[← hq2]at hv
 exact hK S w v ⟨by omega,fun j hj=>by rw[hf j (by omega) (by omega),o1.2 j hj]⟩ hw hv
end
end
end Go.Proofs.YtjnkfbpadpmakaaGreatDoor.Am
set_option linter.unusedVariables false
set_option linter.unusedSimpArgs false
set_option maxRecDepth 100000
namespace Go.Proofs.YtjnkfbpadpmakaaGreatDoor.Am
open Go Go.Proofs
noncomputable section
def Zd:List AA:=[
 ⟨none,.mk (fun l=>match l with | [v]=>Bf 24 v | _=>none),[.var 0],(.set 1),[]⟩,
 ⟨none,.mk (fun l=>match l with | []=>Ag Tryz.prog 24 | _=>none),[],(.set 2),[]⟩]
def Ze:List AA:=[
 ⟨none,.p1 (fun x=>AB Tryz.prog 24 x 1),[.var 1],.push,[]⟩,
 ⟨none,.r1 (fun s a=>AC Tryz.prog s 22 a),[.loc 0],.push,[]⟩,
 ⟨none,.call 127,[.loc 0],.push,[]⟩,
 ⟨none,.p1 some,[.loc 0],(.set 3),[]⟩]
def TX:List AA:=[
 ⟨none,.p1 (fun x=>AB Tryz.prog 24 x 0),[.var 1],.push,[]⟩,
 ⟨none,.r1 (fun s a=>AC Tryz.prog s 4 a),[.loc 0],.push,[]⟩,
 ⟨(some ((.loc 0),true)),.p1 some,[.var 3],.push,[]⟩,
 ⟨(some ((.loc 1),true)),.r (fun s l=>match l with | [x]=>A6 Tryz.prog s 22 x | _=>none),[.loc 0],.push,[]⟩,
 ⟨(some ((.loc 2),true)),.p2 (AL Tryz.prog .gtr 3),[(.loc 0),(.const (.int .i64 (0)))],.push,[]⟩,
 ⟨none,.p Ru,[(.loc 3),(.loc 0),(.const (.bool false))],.push,[]⟩,
 ⟨none,.p (fun l=>BT Tryz.prog 24 (zipIdx [0,1] l)),[.loc 0,.var 3],.push,[]⟩,
 ⟨none,.e (fun s=>Xy (fun a x=>Za (AS Tryz.prog s 24 a x))),[.var 2,.loc 0],.push,[]⟩]
def uQ:Ah:=⟨1,4,(.seq (.ops Zd) (.seq (.ops Ze) (.seq (.ops TX) .ret))),[((.var 2),some 24)]⟩
def pS:List AA:=[
 ⟨none,.mk (fun l=>match l with | [v]=>Bf 24 v | _=>none),[.var 0],(.set 2),[]⟩,
 ⟨none,.mk (fun l=>match l with | [v]=>Bf 24 v | _=>none),[.var 1],(.set 3),[]⟩,
 ⟨none,.mk (fun l=>match l with | []=>Ag Tryz.prog 24 | _=>none),[],(.set 4),[]⟩]
def pT:List AA:=[
 ⟨none,.p1 (fun x=>AB Tryz.prog 24 x 0),[.var 2],.push,[]⟩,
 ⟨none,.r1 (fun s a=>AC Tryz.prog s 4 a),[.loc 0],.push,[]⟩,
 ⟨none,.p1 (fun x=>AB Tryz.prog 24 x 0),[.var 3],.push,[]⟩,
 ⟨none,.r1 (fun s a=>AC Tryz.prog s 4 a),[.loc 0],.push,[]⟩,
 ⟨none,.p2 (AL Tryz.prog .neq 4),[.loc 2,.loc 0],.push,[]⟩,
 ⟨none,.p1 (fun x=>AB Tryz.prog 24 x 1),[.var 2],.push,[]⟩,
 ⟨none,.r1 (fun s a=>AC Tryz.prog s 22 a),[.loc 0],.push,[]⟩,
 ⟨none,.p1 (fun x=>AB Tryz.prog 24 x 1),[.var 3],.push,[]⟩,
 ⟨none,.r1 (fun s a=>AC Tryz.prog s 22 a),[.loc 0],.push,[]⟩,
 ⟨none,.call 56,[.loc 2,.loc 0],.push,[⟨none,.r1 (fun s a=>AC Tryz.prog s 4 a),[.loc 7],(.loc 6)⟩,⟨none,.r1 (fun s a=>AC Tryz.prog s 4 a),[.loc 9],(.loc 8)⟩]⟩,
 ⟨none,.p (fun l=>BT Tryz.prog 24 (zipIdx [0,1] l)),[.loc 5,.loc 0],.push,[]⟩,
 ⟨none,.call 122,[.loc 0],.push,[]⟩,
 ⟨none,.e (fun s=>Xy (fun a x=>Za (AS Tryz.prog s 24 a x))),[.var 4,.loc 0],.push,[]⟩]
def xP:Ah:=⟨2,5,(.seq (.ops pS) (.seq (.ops pT) .ret)),[((.var 4),some 24)]⟩
def pF:List AA:=[
 ⟨none,.mk (fun l=>match l with | [v]=>Bf 24 v | _=>none),[.var 0],(.set 2),[]⟩,
 ⟨none,.mk (fun l=>match l with | [v]=>Bf 24 v | _=>none),[.var 1],(.set 3),[]⟩,
 ⟨none,.mk (fun l=>match l with | []=>Ag Tryz.prog 24 | _=>none),[],(.set 4),[]⟩]
def pG:List AA:=[
 ⟨none,.r1 (fun s a=>AC Tryz.prog s 24 a),[.var 2],.push,[]⟩,
 ⟨none,.call 122,[.loc 0],.push,[]⟩,
 ⟨none,.e (fun s=>Xy (fun a x=>Za (AS Tryz.prog s 24 a x))),[.var 2,.loc 0],.push,[]⟩]
def pH:List AA:=[
 ⟨none,.r1 (fun s a=>AC Tryz.prog s 24 a),[.var 3],.push,[]⟩,
 ⟨none,.call 122,[.loc 0],.push,[]⟩,
 ⟨none,.e (fun s=>Xy (fun a x=>Za (AS Tryz.prog s 24 a x))),[.var 3,.loc 0],.push,[]⟩]
def pI:List AA:=[
 ⟨none,.p1 (fun x=>AB Tryz.prog 24 x 0),[.var 2],.push,[]⟩,
 ⟨none,.r1 (fun s a=>AC Tryz.prog s 4 a),[.loc 0],.push,[]⟩,
 ⟨none,.p1 (fun x=>AB Tryz.prog 24 x 0),[.var 3],.push,[]⟩,
 ⟨none,.r1 (fun s a=>AC Tryz.prog s 4 a),[.loc 0],.push,[]⟩,
 ⟨none,.p2 (AL Tryz.prog .eql 4),[.loc 2,.loc 0],(.set 7),[]⟩]
def pK:List AA:=[
 ⟨none,.p1 (fun x=>AB Tryz.prog 24 x 0),[.var 2],.push,[]⟩,
 ⟨none,.r1 (fun s a=>AC Tryz.prog s 4 a),[.loc 0],.push,[]⟩,
 ⟨none,.p1 (fun x=>AB Tryz.prog 24 x 1),[.var 2],.push,[]⟩,
 ⟨none,.r1 (fun s a=>AC Tryz.prog s 22 a),[.loc 0],.push,[]⟩,
 ⟨none,.p1 (fun x=>AB Tryz.prog 24 x 1),[.var 3],.push,[]⟩,
 ⟨none,.r1 (fun s a=>AC Tryz.prog s 22 a),[.loc 0],.push,[]⟩,
 ⟨none,.call 124,[.loc 2,.loc 0],.push,[⟨none,.r1 (fun s a=>AC Tryz.prog s 4 a),[.loc 6],(.loc 5)⟩]⟩,
 ⟨none,.p (fun l=>BT Tryz.prog 24 (zipIdx [0,1] l)),[.loc 5,.loc 0],.push,[]⟩,
 ⟨none,.call 122,[.loc 0],.push,[]⟩,
 ⟨none,.e (fun s=>Xy (fun a x=>Za (AS Tryz.prog s 24 a x))),[.var 4,.loc 0],.push,[]⟩]
def pM:List AA:=[
 ⟨none,.p1 (fun x=>AB Tryz.prog 24 x 1),[.var 2],.push,[]⟩,
 ⟨none,.r1 (fun s a=>AC Tryz.prog s 22 a),[.loc 0],.push,[]⟩,
 ⟨none,.p1 (fun x=>AB Tryz.prog 24 x 1),[.var 3],.push,[]⟩,
 ⟨none,.r1 (fun s a=>AC Tryz.prog s 22 a),[.loc 0],.push,[]⟩,
 ⟨none,.call 125,[.loc 2,.loc 0],.push,[]⟩,
 ⟨none,.p2 (AL Tryz.prog .lss 3),[(.loc 0),(.const (.int .i64 (0)))],(.set 8),[]⟩]
def pN:List AA:=[
 ⟨none,.p1 (fun x=>AB Tryz.prog 24 x 1),[.var 3],.push,[]⟩,
 ⟨none,.r1 (fun s a=>AC Tryz.prog s 22 a),[.loc 0],.push,[]⟩,
 ⟨none,.p1 (fun x=>AB Tryz.prog 24 x 1),[.var 2],.push,[]⟩,
 ⟨none,.r1 (fun s a=>AC Tryz.prog s 22 a),[.loc 0],.push,[]⟩,
 ⟨none,.call 126,[.loc 2,.loc 0],.push,[]⟩,
 ⟨none,.p1 (fun x=>Zb x 0),[.loc 0],.push,[]⟩,
 ⟨none,.p1 (fun x=>Zb x 1),[.loc 1],.push,[]⟩,
 ⟨none,.p1 some,[.loc 1],(.set 5),[]⟩,
 ⟨none,.p1 some,[.loc 0],.push,[]⟩]
def pO:List AA:=[
 ⟨none,.p1 (fun x=>AB Tryz.prog 24 x 0),[.var 3],.push,[]⟩,
 ⟨none,.r1 (fun s a=>AC Tryz.prog s 4 a),[.loc 0],.push,[]⟩,
 ⟨none,.p (fun l=>BT Tryz.prog 24 (zipIdx [0,1] l)),[.loc 0,.var 5],.push,[]⟩,
 ⟨none,.call 122,[.loc 0],.push,[]⟩,
 ⟨none,.e (fun s=>Xy (fun a x=>Za (AS Tryz.prog s 24 a x))),[.var 4,.loc 0],.push,[]⟩]
def pP:List AA:=[
 ⟨none,.p1 (fun x=>AB Tryz.prog 24 x 1),[.var 2],.push,[]⟩,
 ⟨none,.r1 (fun s a=>AC Tryz.prog s 22 a),[.loc 0],.push,[]⟩,
 ⟨none,.p1 (fun x=>AB Tryz.prog 24 x 1),[.var 3],.push,[]⟩,
 ⟨none,.r1 (fun s a=>AC Tryz.prog s 22 a),[.loc 0],.push,[]⟩,
 ⟨none,.call 126,[.loc 2,.loc 0],.push,[]⟩,
 ⟨none,.p1 (fun x=>Zb x 0),[.loc 0],.push,[]⟩,
 ⟨none,.p1 (fun x=>Zb x 1),[.loc 1],.push,[]⟩,
 ⟨none,.p1 some,[.loc 1],(.set 6),[]⟩,
 ⟨none,.p1 some,[.loc 0],.push,[]⟩]
def pR:List AA:=[
 ⟨none,.p1 (fun x=>AB Tryz.prog 24 x 0),[.var 2],.push,[]⟩,
 ⟨none,.r1 (fun s a=>AC Tryz.prog s 4 a),[.loc 0],.push,[]⟩,
 ⟨none,.p (fun l=>BT Tryz.prog 24 (zipIdx [0,1] l)),[.loc 0,.var 6],.push,[]⟩,
 ⟨none,.call 122,[.loc 0],.push,[]⟩,
 ⟨none,.e (fun s=>Xy (fun a x=>Za (AS Tryz.prog s 24 a x))),[.var 4,.loc 0],.push,[]⟩]
def xO:Ah:=⟨2,9,(.seq (.ops pF) (.seq (.ops pG) (.seq (.ops pH) (.seq (.seq (.ops pI) (.cond (.var 7)
 (.seq (.ops pK) .ret)
 .skip)) (.seq (.seq (.ops pM) (.cond (.var 8)
 (.seq (.ops pN) (.seq (.ops pO) .ret))
 .skip)) (.seq (.ops pP) (.seq (.ops pR) .ret))))))),[((.var 4),some 24)]⟩
def ow:List AA:=[
 ⟨none,.mk (fun l=>match l with | [v]=>Bf 24 v | _=>none),[.var 0],(.set 2),[]⟩,
 ⟨none,.mk (fun l=>match l with | [v]=>Bf 24 v | _=>none),[.var 1],(.set 3),[]⟩,
 ⟨none,.mk (fun l=>match l with | []=>Ag Tryz.prog 26 | _=>none),[],(.set 4),[]⟩]
def oz:List AA:=[
 ⟨none,.r1 (fun s a=>AC Tryz.prog s 24 a),[.var 2],.push,[]⟩,
 ⟨none,.call 122,[.loc 0],.push,[]⟩,
 ⟨none,.e (fun s=>Xy (fun a x=>Za (AS Tryz.prog s 24 a x))),[.var 2,.loc 0],.push,[]⟩]
def pA:List AA:=[
 ⟨none,.r1 (fun s a=>AC Tryz.prog s 24 a),[.var 3],.push,[]⟩,
 ⟨none,.call 122,[.loc 0],.push,[]⟩,
 ⟨none,.e (fun s=>Xy (fun a x=>Za (AS Tryz.prog s 24 a x))),[.var 3,.loc 0],.push,[]⟩]
def pB:List AA:=[
 ⟨none,.p1 (fun x=>AB Tryz.prog 24 x 1),[.var 2],.push,[]⟩,
 ⟨none,.r1 (fun s a=>AC Tryz.prog s 22 a),[.loc 0],.push,[]⟩,
 ⟨none,.p1 (fun x=>AB Tryz.prog 24 x 1),[.var 3],.push,[]⟩,
 ⟨none,.r1 (fun s a=>AC Tryz.prog s 22 a),[.loc 0],.push,[]⟩,
 ⟨none,.call 57,[.loc 2,.loc 0],.push,[]⟩,
 ⟨none,.p1 some,[.loc 0],(.set 5),[]⟩]
def pC:List AA:=[
 ⟨none,.p1 (fun x=>AB Tryz.prog 24 x 1),[.var 2],.push,[]⟩,
 ⟨none,.r1 (fun s a=>AC Tryz.prog s 22 a),[.loc 0],.push,[]⟩,
 ⟨none,.call 123,[.loc 0,.var 5],.push,[]⟩,
 ⟨none,.p1 (fun x=>Zb x 0),[.loc 0],.push,[]⟩,
 ⟨none,.p1 (fun x=>Zb x 1),[.loc 1],.push,[]⟩,
 ⟨none,.p1 (fun x=>Zb x 2),[.loc 2],.push,[]⟩,
 ⟨none,.p1 some,[.loc 2],(.set 6),[]⟩,
 ⟨none,.p1 some,[.loc 1],.push,[]⟩,
 ⟨none,.p1 some,[.loc 1],.push,[]⟩]
def pD:List AA:=[
 ⟨none,.p1 (fun x=>AB Tryz.prog 24 x 1),[.var 3],.push,[]⟩,
 ⟨none,.r1 (fun s a=>AC Tryz.prog s 22 a),[.loc 0],.push,[]⟩,
 ⟨none,.call 123,[.loc 0,.var 5],.push,[]⟩,
 ⟨none,.p1 (fun x=>Zb x 0),[.loc 0],.push,[]⟩,
 ⟨none,.p1 (fun x=>Zb x 1),[.loc 1],.push,[]⟩,
 ⟨none,.p1 (fun x=>Zb x 2),[.loc 2],.push,[]⟩,
 ⟨none,.p1 some,[.loc 2],(.set 7),[]⟩,
 ⟨none,.p1 some,[.loc 1],.push,[]⟩,
 ⟨none,.p1 some,[.loc 1],.push,[]⟩]
def pE:List AA:=[
 ⟨none,.p1 (fun x=>AB Tryz.prog 24 x 0),[.var 2],.push,[]⟩,
 ⟨none,.r1 (fun s a=>AC Tryz.prog s 4 a),[.loc 0],.push,[]⟩,
 ⟨none,.p1 (fun x=>AB Tryz.prog 24 x 0),[.var 3],.push,[]⟩,
 ⟨none,.r1 (fun s a=>AC Tryz.prog s 4 a),[.loc 0],.push,[]⟩,
 ⟨none,.p2 (AL Tryz.prog .neq 4),[.loc 2,.loc 0],.push,[]⟩,
 ⟨none,.p (fun l=>BT Tryz.prog 24 (zipIdx [0,1] l)),[.loc 0,.var 6],.push,[]⟩,
 ⟨none,.call 122,[.loc 0],.push,[]⟩,
 ⟨none,.p (fun l=>BT Tryz.prog 26 (zipIdx [0,1] l)),[.loc 0,.var 7],.push,[]⟩,
 ⟨none,.e (fun s=>Xy (fun a x=>Za (AS Tryz.prog s 26 a x))),[.var 4,.loc 0],.push,[]⟩]
def xN:Ah:=⟨2,8,(.seq (.ops ow) (.seq (.ops oz) (.seq (.ops pA) (.seq (.ops pB) (.seq (.ops pC) (.seq (.ops pD) (.seq (.ops pE) .ret))))))),[((.var 4),some 26)]⟩
def pV:List AA:=[
 ⟨none,.mk (fun l=>match l with | [v]=>Bf 26 v | _=>none),[.var 0],(.set 1),[]⟩,
 ⟨none,.mk (fun l=>match l with | []=>Ag Tryz.prog 24 | _=>none),[],(.set 2),[]⟩]
def pW:List AA:=[
 ⟨none,.p1 (fun x=>AB Tryz.prog 26 x 1),[.var 1],.push,[]⟩,
 ⟨none,.r1 (fun s a=>AC Tryz.prog s 22 a),[.loc 0],.push,[]⟩,
 ⟨none,.call 127,[.loc 0],.push,[]⟩,
 ⟨none,.p1 some,[.loc 0],(.set 3),[]⟩]
def dx:List AA:=[
 ⟨none,.r (fun s l=>match l with | [x]=>A6 Tryz.prog s 22 x | _=>none),[.var 3],.push,[]⟩,
 ⟨none,.p2 (AL Tryz.prog .eql 3),[(.loc 0),(.const (.int .i64 (0)))],(.set 4),[]⟩]
def pX:List AA:=[
 ⟨none,.mk (fun l=>(Ad Tryz.prog 22 1 (zipIdx [0] l)).bind fun r=>some (r,.slice 1)),[(.const (.int .u32 (1)))],.push,[]⟩,
 ⟨none,.p1 some,[.loc 0],(.set 3),[]⟩]
def dy:List AA:=[
 ⟨none,.p (fun l=>BT Tryz.prog 24 (zipIdx [1] l)),[.var 3],.push,[]⟩,
 ⟨none,.e (fun s=>Xy (fun a x=>Za (AS Tryz.prog s 24 a x))),[.var 2,.loc 0],.push,[]⟩]
def xQ:Ah:=⟨1,5,(.seq (.ops pV) (.seq (.ops pW) (.seq (.seq (.ops dx) (.cond (.var 4)
 (.ops pX)
 .skip)) (.seq (.ops dy) .ret)))),[((.var 2),some 24)]⟩
def og:List AA:=[
 ⟨none,.mk (fun l=>match l with | [v]=>Bf 26 v | _=>none),[.var 0],(.set 1),[]⟩,
 ⟨none,.mk (fun l=>match l with | []=>Ag Tryz.prog 26 | _=>none),[],(.set 2),[]⟩]
def oh:List AA:=[
 ⟨none,.p1 (fun x=>AB Tryz.prog 26 x 0),[.var 1],.push,[]⟩,
 ⟨none,.r1 (fun s a=>AC Tryz.prog s 24 a),[.loc 0],.push,[]⟩,
 ⟨none,.r1 (fun s a=>AC Tryz.prog s 26 a),[.var 1],.push,[]⟩,
 ⟨none,.call 83,[.loc 0],.push,[⟨none,.r1 (fun s a=>AC Tryz.prog s 24 a),[.loc 3],(.loc 2)⟩]⟩,
 ⟨none,.call 80,[.loc 2,.loc 0],.push,[]⟩,
 ⟨none,.e (fun s=>Xy (fun a x=>Za (AS Tryz.prog s 26 a x))),[.var 2,.loc 0],.push,[]⟩]
def xK:Ah:=⟨1,3,(.seq (.ops og) (.seq (.ops oh) .ret)),[((.var 2),some 26)]⟩
def md:List AA:=[
 ⟨none,.mk (fun l=>match l with | [v]=>Bf 26 v | _=>none),[.var 0],(.set 2),[]⟩,
 ⟨none,.mk (fun l=>match l with | [v]=>Bf 26 v | _=>none),[.var 1],(.set 3),[]⟩,
 ⟨none,.mk (fun l=>match l with | []=>Ag Tryz.prog 26 | _=>none),[],(.set 4),[]⟩]
def me:List AA:=[
 ⟨none,.p1 (fun x=>AB Tryz.prog 26 x 0),[.var 2],.push,[]⟩,
 ⟨none,.r1 (fun s a=>AC Tryz.prog s 24 a),[.loc 0],.push,[]⟩,
 ⟨none,.r1 (fun s a=>AC Tryz.prog s 26 a),[.var 3],.push,[]⟩,
 ⟨none,.p1 (fun x=>AB Tryz.prog 26 x 0),[.var 3],.push,[]⟩,
 ⟨none,.r1 (fun s a=>AC Tryz.prog s 24 a),[.loc 0],.push,[]⟩,
 ⟨none,.r1 (fun s a=>AC Tryz.prog s 26 a),[.var 2],.push,[]⟩,
 ⟨none,.r1 (fun s a=>AC Tryz.prog s 26 a),[.var 2],.push,[]⟩,
 ⟨none,.r1 (fun s a=>AC Tryz.prog s 26 a),[.var 3],.push,[]⟩,
 ⟨none,.call 83,[.loc 5],.push,[⟨none,.r1 (fun s a=>AC Tryz.prog s 26 a),[.var 3],(.loc 1)⟩,⟨none,.r1 (fun s a=>AC Tryz.prog s 26 a),[.var 2],(.loc 2)⟩,⟨none,.r1 (fun s a=>AC Tryz.prog s 26 a),[.var 2],(.loc 3)⟩,⟨none,.r1 (fun s a=>AC Tryz.prog s 24 a),[.loc 5],(.loc 4)⟩,⟨none,.r1 (fun s a=>AC Tryz.prog s 24 a),[.loc 8],(.loc 7)⟩]⟩,
 ⟨none,.call 82,[.loc 7,.loc 0],.push,[⟨none,.r1 (fun s a=>AC Tryz.prog s 26 a),[.var 3],(.loc 2)⟩,⟨none,.r1 (fun s a=>AC Tryz.prog s 26 a),[.var 2],(.loc 3)⟩,⟨none,.r1 (fun s a=>AC Tryz.prog s 26 a),[.var 2],(.loc 4)⟩,⟨none,.r1 (fun s a=>AC Tryz.prog s 24 a),[.loc 6],(.loc 5)⟩]⟩,
 ⟨none,.call 83,[.loc 4],.push,[⟨none,.r1 (fun s a=>AC Tryz.prog s 26 a),[.var 3],(.loc 3)⟩,⟨none,.r1 (fun s a=>AC Tryz.prog s 26 a),[.var 2],(.loc 4)⟩,⟨none,.r1 (fun s a=>AC Tryz.prog s 24 a),[.loc 7],(.loc 6)⟩]⟩,
 ⟨none,.call 82,[.loc 6,.loc 0],.push,[⟨none,.r1 (fun s a=>AC Tryz.prog s 26 a),[.var 3],(.loc 4)⟩,⟨none,.r1 (fun s a=>AC Tryz.prog s 26 a),[.var 2],(.loc 5)⟩]⟩,
 ⟨none,.call 81,[.loc 2,.loc 0],.push,[⟨none,.r1 (fun s a=>AC Tryz.prog s 26 a),[.var 3],(.loc 5)⟩,⟨none,.r1 (fun s a=>AC Tryz.prog s 26 a),[.var 2],(.loc 6)⟩]⟩,
 ⟨none,.call 83,[.loc 6],.push,[⟨none,.r1 (fun s a=>AC Tryz.prog s 26 a),[.var 3],(.loc 6)⟩]⟩,
 ⟨none,.call 83,[.loc 6],.push,[]⟩,
 ⟨none,.call 82,[.loc 1,.loc 0],.push,[]⟩,
 ⟨none,.call 80,[.loc 3,.loc 0],.push,[]⟩,
 ⟨none,.e (fun s=>Xy (fun a x=>Za (AS Tryz.prog s 26 a x))),[.var 4,.loc 0],.push,[]⟩]
def wl:Ah:=⟨2,5,(.seq (.ops md) (.seq (.ops me) .ret)),[((.var 4),some 26)]⟩
def mf:List AA:=[
 ⟨none,.mk (fun l=>match l with | [v]=>Bf 26 v | _=>none),[.var 0],(.set 2),[]⟩,
 ⟨none,.mk (fun l=>match l with | [v]=>Bf 26 v | _=>none),[.var 1],(.set 3),[]⟩,
 ⟨none,.mk (fun l=>match l with | []=>Ag Tryz.prog 26 | _=>none),[],(.set 4),[]⟩]
def mh:List AA:=[
 ⟨none,.p1 (fun x=>AB Tryz.prog 26 x 0),[.var 2],.push,[]⟩,
 ⟨none,.r1 (fun s a=>AC Tryz.prog s 24 a),[.loc 0],.push,[]⟩,
 ⟨none,.p1 (fun x=>AB Tryz.prog 26 x 0),[.var 3],.push,[]⟩,
 ⟨none,.r1 (fun s a=>AC Tryz.prog s 24 a),[.loc 0],.push,[]⟩,
 ⟨none,.r1 (fun s a=>AC Tryz.prog s 26 a),[.var 2],.push,[]⟩,
 ⟨none,.r1 (fun s a=>AC Tryz.prog s 26 a),[.var 3],.push,[]⟩,
 ⟨none,.call 82,[.loc 4,.loc 2],.push,[⟨none,.r1 (fun s a=>AC Tryz.prog s 26 a),[.var 3],(.loc 1)⟩,⟨none,.r1 (fun s a=>AC Tryz.prog s 26 a),[.var 2],(.loc 2)⟩]⟩,
 ⟨none,.call 83,[.loc 2],.push,[⟨none,.r1 (fun s a=>AC Tryz.prog s 26 a),[.var 3],(.loc 2)⟩]⟩,
 ⟨none,.call 83,[.loc 2],.push,[]⟩,
 ⟨none,.call 82,[.loc 1,.loc 0],.push,[]⟩,
 ⟨none,.call 80,[.loc 3,.loc 0],.push,[]⟩,
 ⟨none,.e (fun s=>Xy (fun a x=>Za (AS Tryz.prog s 26 a x))),[.var 4,.loc 0],.push,[]⟩]
def wo:Ah:=⟨2,5,(.seq (.ops mf) (.seq (.ops mh) .ret)),[((.var 4),some 26)]⟩
def Yj:List AA:=[
 ⟨none,.mk (fun l=>match l with | [v]=>Bf 26 v | _=>none),[.var 0],(.set 1),[]⟩,
 ⟨none,.p1 some,[(.const (.bool false))],(.set 2),[]⟩]
def Yk:List AA:=[
 ⟨none,.p1 (fun x=>AB Tryz.prog 26 x 0),[.var 1],.push,[]⟩,
 ⟨none,.p1 (fun x=>AB Tryz.prog 24 x 1),[.loc 0],.push,[]⟩,
 ⟨none,.r1 (fun s a=>AC Tryz.prog s 22 a),[.loc 0],.push,[]⟩,
 ⟨none,.call 127,[.loc 0],.push,[]⟩,
 ⟨none,.r (fun s l=>match l with | [x]=>A6 Tryz.prog s 22 x | _=>none),[.loc 0],.push,[]⟩,
 ⟨none,.p2 (AL Tryz.prog .eql 3),[(.loc 0),(.const (.int .i64 (0)))],.push,[]⟩,
 ⟨none,.p1 some,[.loc 0],(.set 2),[]⟩]
def uC:Ah:=⟨1,3,(.seq (.ops Yj) (.seq (.ops Yk) .ret)),[((.var 2),none)]⟩
def nP:List AA:=[
 ⟨none,.mk (fun l=>match l with | [v]=>Bf 26 v | _=>none),[.var 0],(.set 1),[]⟩,
 ⟨none,.p1 some,[(.const (.int .i64 (0)))],(.set 2),[]⟩]
def nQ:List AA:=[
 ⟨none,.r1 (fun s a=>AC Tryz.prog s 26 a),[.var 1],.push,[]⟩,
 ⟨none,.call 101,[.loc 0],(.set 3),[]⟩]
def nR:List AA:=[
 ⟨none,.p1 some,[(.const (.int .i64 (0)))],(.set 2),[]⟩]
def dX:List AA:=[
 ⟨none,.p1 (fun x=>AB Tryz.prog 26 x 0),[.var 1],.push,[]⟩,
 ⟨none,.p1 (fun x=>AB Tryz.prog 24 x 0),[.loc 0],.push,[]⟩,
 ⟨none,.r1 (fun s a=>AC Tryz.prog s 4 a),[.loc 0],(.set 4),[]⟩]
def nS:List AA:=[
 ⟨none,.p1 some,[(.const (.int .i64 (-1)))],(.set 2),[]⟩]
def nT:List AA:=[
 ⟨none,.p1 some,[(.const (.int .i64 (1)))],(.set 2),[]⟩]
def ww:Ah:=⟨1,5,(.seq (.ops nP) (.seq (.seq (.ops nQ) (.cond (.var 3)
 (.seq (.ops nR) .ret)
 .skip)) (.seq (.seq (.ops dX) (.cond (.var 4)
 (.seq (.ops nS) .ret)
 .skip)) (.seq (.ops nT) .ret)))),[((.var 2),none)]⟩
def mU:List AA:=[
 ⟨none,.mk (fun l=>match l with | [v]=>Bf 30 v | _=>none),[.var 0],(.set 1),[]⟩,
 ⟨none,.mk (fun l=>match l with | []=>Ag Tryz.prog 30 | _=>none),[],(.set 2),[]⟩]
def mV:List AA:=[
 ⟨none,.p1 (fun x=>AB Tryz.prog 30 x 0),[.var 1],.push,[]⟩,
 ⟨none,.r1 (fun s a=>AC Tryz.prog s 26 a),[.loc 0],.push,[]⟩,
 ⟨none,.call 74,[.loc 0],.push,[]⟩,
 ⟨none,.p (fun l=>BT Tryz.prog 30 (zipIdx [0] l)),[.loc 0],.push,[]⟩,
 ⟨none,.mk (fun l=>match l with | []=>Ag Tryz.prog 30 | _=>none),[],(.set 3),[]⟩,
 ⟨none,.e (fun s=>Xy (fun a x=>Za (AS Tryz.prog s 30 a x))),[.var 3,.loc 0],.push,[]⟩]
def mW:List AA:=[
 ⟨none,.p1 (fun x=>AB Tryz.prog 30 x 1),[.var 1],.push,[]⟩,
 ⟨none,.r1 (fun s a=>AC Tryz.prog s 27 a),[.loc 0],.push,[]⟩,
 ⟨none,.r (fun s l=>match l with | [x]=>A6 Tryz.prog s 27 x | _=>none),[.loc 0],.push,[]⟩,
 ⟨none,.p1 (fun x=>AB Tryz.prog 30 x 2),[.var 1],.push,[]⟩,
 ⟨none,.r1 (fun s a=>AC Tryz.prog s 28 a),[.loc 0],.push,[]⟩,
 ⟨none,.r (fun s l=>match l with | [x]=>A6 Tryz.prog s 28 x | _=>none),[.loc 0],.push,[]⟩,
 ⟨none,.p (fun l=>match l with | v::l=>Ct false v l | []=>none),[.loc 3,.loc 0],.push,[]⟩,
 ⟨none,.p1 some,[.loc 0],(.set 4),[]⟩]
def mX:List AA:=[
 ⟨none,.p1 some,[(.const (.int .i64 (0)))],(.set 5),[]⟩]
def cn:List AA:=[
 ⟨none,.p2 (AL Tryz.prog .lss 3),[.var 5,.var 4],(.set 12),[]⟩]
def mY:List AA:=[
 ⟨none,.p1 (fun x=>AB Tryz.prog 30 x 1),[.var 1],.push,[]⟩,
 ⟨none,.r1 (fun s a=>AC Tryz.prog s 27 a),[.loc 0],.push,[]⟩,
 ⟨none,.p2 (AM Tryz.prog 27),[.loc 0,.var 5],.push,[]⟩,
 ⟨none,.r1 (fun s a=>AC Tryz.prog s 3 a),[.loc 0],.push,[]⟩,
 ⟨none,.p1 some,[.loc 0],(.set 6),[]⟩]
def mZ:List AA:=[
 ⟨none,.p1 some,[(.const (.bool false))],(.set 7),[]⟩]
def mc:List AA:=[
 ⟨none,.p1 some,[(.const (.int .i64 (0)))],(.set 8),[]⟩]
def Vf:List AA:=[
 ⟨none,.p2 (AL Tryz.prog .lss 3),[.var 8,.var 5],(.set 13),[]⟩]
def dA:List AA:=[
 ⟨none,.p1 some,[.var 7],.push,[]⟩,
 ⟨(some ((.loc 0),false)),.p1 (fun x=>AB Tryz.prog 30 x 1),[.var 1],.push,[]⟩,
 ⟨(some ((.loc 1),false)),.r1 (fun s a=>AC Tryz.prog s 27 a),[.loc 0],.push,[]⟩,
 ⟨(some ((.loc 2),false)),.p1 some,[.var 8],.push,[]⟩,
 ⟨(some ((.loc 3),false)),.p2 (AM Tryz.prog 27),[.loc 1,.loc 0],.push,[]⟩,
 ⟨(some ((.loc 4),false)),.r1 (fun s a=>AC Tryz.prog s 3 a),[.loc 0],.push,[]⟩,
 ⟨(some ((.loc 5),false)),.p1 some,[.var 6],.push,[]⟩,
 ⟨(some ((.loc 6),false)),.p2 (AL Tryz.prog .eql 3),[.loc 1,.loc 0],.push,[]⟩,
 ⟨none,.p Ru,[(.loc 7),(.const (.bool true)),(.loc 0)],.push,[]⟩,
 ⟨none,.p1 some,[.loc 0],(.set 7),[]⟩]
def To:List AA:=[
 ⟨none,.p1 some,[.var 8],.push,[]⟩,
 ⟨none,.p2 (AL Tryz.prog .add 3),[(.loc 0),(.const (.int .i64 (1)))],.push,[]⟩,
 ⟨none,.p1 some,[.loc 0],(.set 8),[]⟩]
def Jn:Aa:=(.seq (.seq (.ops Vf) (.cond (.var 13)
 .skip
 (.exit 2))) (.seq (.block 3 (.ops dA)) (.ops To)))
def Tp:List AA:=[
 ⟨none,.p1 some,[.var 7],(.set 14),[]⟩]
def cW:List AA:=[
 ⟨none,.p (fun l=>BT Tryz.prog 26 (zipIdx [] l)),[],.push,[]⟩,
 ⟨none,.call 74,[.loc 0],.push,[]⟩,
 ⟨none,.mk (fun l=>match l with | []=>Ag Tryz.prog 26 | _=>none),[],(.set 9),[]⟩,
 ⟨none,.e (fun s=>Xy (fun a x=>Za (AS Tryz.prog s 26 a x))),[.var 9,.loc 0],.push,[]⟩]
def cX:List AA:=[
 ⟨none,.p1 some,[.var 5],(.set 10),[]⟩]
def O9:List AA:=[
 ⟨none,.p2 (AL Tryz.prog .lss 3),[.var 10,.var 4],(.set 15),[]⟩]
def Tq:List AA:=[
 ⟨none,.p1 (fun x=>AB Tryz.prog 30 x 1),[.var 1],.push,[]⟩,
 ⟨none,.r1 (fun s a=>AC Tryz.prog s 27 a),[.loc 0],.push,[]⟩,
 ⟨none,.p2 (AM Tryz.prog 27),[.loc 0,.var 10],.push,[]⟩,
 ⟨none,.r1 (fun s a=>AC Tryz.prog s 3 a),[.loc 0],.push,[]⟩,
 ⟨none,.p2 (AL Tryz.prog .eql 3),[.loc 0,.var 6],(.set 16),[]⟩]
def cY:List AA:=[
 ⟨none,.r1 (fun s a=>AC Tryz.prog s 26 a),[.var 9],.push,[]⟩,
 ⟨none,.p1 (fun x=>AB Tryz.prog 30 x 2),[.var 1],.push,[]⟩,
 ⟨none,.r1 (fun s a=>AC Tryz.prog s 28 a),[.loc 0],.push,[]⟩,
 ⟨none,.p2 (AM Tryz.prog 28),[.loc 0,.var 10],.push,[]⟩,
 ⟨none,.r1 (fun s a=>AC Tryz.prog s 26 a),[.loc 0],.push,[]⟩,
 ⟨none,.call 44,[.loc 4,.loc 0],.push,[]⟩,
 ⟨none,.e (fun s=>Xy (fun a x=>Za (AS Tryz.prog s 26 a x))),[.var 9,.loc 0],.push,[]⟩]
def Tr:List AA:=[
 ⟨none,.p1 some,[.var 10],.push,[]⟩,
 ⟨none,.p2 (AL Tryz.prog .add 3),[(.loc 0),(.const (.int .i64 (1)))],.push,[]⟩,
 ⟨none,.p1 some,[.loc 0],(.set 10),[]⟩]
def Jo:Aa:=(.seq (.seq (.ops O9) (.cond (.var 15)
 .skip
 (.exit 4))) (.seq (.block 5 (.seq (.ops Tq) (.cond (.var 16)
 (.ops cY)
 .skip))) (.ops Tr)))
def cZ:List AA:=[
 ⟨none,.r1 (fun s a=>AC Tryz.prog s 26 a),[.var 9],.push,[]⟩,
 ⟨none,.call 54,[.loc 0],.push,[]⟩,
 ⟨none,.p2 (AL Tryz.prog .eql 3),[(.loc 0),(.const (.int .i64 (0)))],(.set 17),[]⟩]
def ck:List AA:=[
 ⟨none,.p1 some,[(.const (.int .i64 (0)))],(.set 11),[]⟩]
def PA:List AA:=[
 ⟨none,.p1 (fun x=>AB Tryz.prog 30 x 1),[.var 3],.push,[]⟩,
 ⟨none,.r1 (fun s a=>AC Tryz.prog s 27 a),[.loc 0],.push,[]⟩,
 ⟨none,.r (fun s l=>match l with | [x]=>A6 Tryz.prog s 27 x | _=>none),[.loc 0],.push,[]⟩,
 ⟨none,.p2 (AL Tryz.prog .lss 3),[.var 11,.loc 0],.push,[]⟩,
 ⟨(some ((.loc 0),true)),.p1 (fun x=>AB Tryz.prog 30 x 1),[.var 3],.push,[]⟩,
 ⟨(some ((.loc 1),true)),.r1 (fun s a=>AC Tryz.prog s 27 a),[.loc 0],.push,[]⟩,
 ⟨(some ((.loc 2),true)),.p1 some,[.var 11],.push,[]⟩,
 ⟨(some ((.loc 3),true)),.p2 (AM Tryz.prog 27),[.loc 1,.loc 0],.push,[]⟩,
 ⟨(some ((.loc 4),true)),.r1 (fun s a=>AC Tryz.prog s 3 a),[.loc 0],.push,[]⟩,
 ⟨(some ((.loc 5),true)),.p1 some,[.var 6],.push,[]⟩,
 ⟨(some ((.loc 6),true)),.p2 (AL Tryz.prog .lss 3),[.loc 1,.loc 0],.push,[]⟩,
 ⟨none,.p Ru,[(.loc 7),(.loc 0),(.const (.bool false))],(.set 18),[]⟩]
def Ts:List AA:=[
 ⟨none,.p1 some,[.var 11],.push,[]⟩,
 ⟨none,.p2 (AL Tryz.prog .add 3),[(.loc 0),(.const (.int .i64 (1)))],.push,[]⟩,
 ⟨none,.p1 some,[.loc 0],(.set 11),[]⟩]
def Jp:Aa:=(.seq (.seq (.ops PA) (.cond (.var 18)
 .skip
 (.exit 6))) (.block 7 (.ops Ts)))
def Tt:List AA:=[
 ⟨none,.mk (fun l=>(Ad Tryz.prog 27 0 (zipIdx [] l)).bind fun r=>some (r,.slice 0)),[],.push,[]⟩,
 ⟨none,.p1 (fun x=>AB Tryz.prog 30 x 1),[.var 3],.push,[]⟩,
 ⟨none,.r1 (fun s a=>AC Tryz.prog s 27 a),[.loc 0],.push,[]⟩,
 ⟨none,.r (At Tryz.prog 27 false true false),[.loc 0,.var 11],.push,[]⟩,
 ⟨none,.mk (fun l=>(Ad Tryz.prog 27 1 (zipIdx [0] l)).bind fun r=>some (r,.slice 1)),[.var 6],.push,[]⟩,
 ⟨none,.p1 (fun x=>AB Tryz.prog 30 x 1),[.var 3],.push,[]⟩,
 ⟨none,.r1 (fun s a=>AC Tryz.prog s 27 a),[.loc 0],.push,[]⟩,
 ⟨none,.r (At Tryz.prog 27 true false false),[.loc 0,.var 11],.push,[]⟩,
 ⟨none,.e (fun s l=>Ar Tryz.prog s [27,27] l),[.loc 7,.loc 4],.push,[⟨none,.r (At Tryz.prog 27 true false false),[.loc 2,.var 11],(.loc 1)⟩,⟨none,.r1 (fun s a=>AC Tryz.prog s 27 a),[.loc 3],(.loc 2)⟩]⟩,
 ⟨none,.e (fun s l=>Ar Tryz.prog s [27,27] l),[.loc 0,.loc 4],.push,[⟨none,.r (At Tryz.prog 27 true false false),[.loc 3,.var 11],(.loc 2)⟩,⟨none,.r1 (fun s a=>AC Tryz.prog s 27 a),[.loc 4],(.loc 3)⟩]⟩,
 ⟨none,.e (fun s l=>Ar Tryz.prog s [27,27] l),[.loc 0,.loc 2],.push,[]⟩,
 ⟨none,.p1 (fun x=>AB Tryz.prog 30 x 1),[.var 3],.push,[]⟩,
 ⟨none,.e (fun s=>Xy (fun a x=>Za (AS Tryz.prog s 27 a x))),[.loc 0,.loc 1],.push,[]⟩]
def Tu:List AA:=[
 ⟨none,.mk (fun l=>(Ad Tryz.prog 28 0 (zipIdx [] l)).bind fun r=>some (r,.slice 0)),[],.push,[]⟩,
 ⟨none,.p1 (fun x=>AB Tryz.prog 30 x 2),[.var 3],.push,[]⟩,
 ⟨none,.r1 (fun s a=>AC Tryz.prog s 28 a),[.loc 0],.push,[]⟩,
 ⟨none,.r (At Tryz.prog 28 false true false),[.loc 0,.var 11],.push,[]⟩,
 ⟨none,.r1 (fun s a=>AC Tryz.prog s 26 a),[.var 9],.push,[]⟩,
 ⟨none,.mk (fun l=>(Ad Tryz.prog 28 1 (zipIdx [0] l)).bind fun r=>some (r,.slice 1)),[.loc 0],.push,[]⟩,
 ⟨none,.p1 (fun x=>AB Tryz.prog 30 x 2),[.var 3],.push,[]⟩,
 ⟨none,.r1 (fun s a=>AC Tryz.prog s 28 a),[.loc 0],.push,[]⟩,
 ⟨none,.r (At Tryz.prog 28 true false false),[.loc 0,.var 11],.push,[]⟩,
 ⟨none,.e (fun s l=>Ar Tryz.prog s [28,28] l),[.loc 8,.loc 5],.push,[⟨none,.r (At Tryz.prog 28 true false false),[.loc 2,.var 11],(.loc 1)⟩,⟨none,.r1 (fun s a=>AC Tryz.prog s 28 a),[.loc 3],(.loc 2)⟩,⟨none,.r1 (fun s a=>AC Tryz.prog s 26 a),[.var 9],(.loc 5)⟩]⟩,
 ⟨none,.e (fun s l=>Ar Tryz.prog s [28,28] l),[.loc 0,.loc 4],.push,[⟨none,.r (At Tryz.prog 28 true false false),[.loc 3,.var 11],(.loc 2)⟩,⟨none,.r1 (fun s a=>AC Tryz.prog s 28 a),[.loc 4],(.loc 3)⟩]⟩,
 ⟨none,.e (fun s l=>Ar Tryz.prog s [28,28] l),[.loc 0,.loc 2],.push,[]⟩,
 ⟨none,.p1 (fun x=>AB Tryz.prog 30 x 2),[.var 3],.push,[]⟩,
 ⟨none,.e (fun s=>Xy (fun a x=>Za (AS Tryz.prog s 28 a x))),[.loc 0,.loc 1],.push,[]⟩]
def PB:List AA:=[
 ⟨none,.p1 some,[.var 5],.push,[]⟩,
 ⟨none,.p2 (AL Tryz.prog .add 3),[(.loc 0),(.const (.int .i64 (1)))],.push,[]⟩,
 ⟨none,.p1 some,[.loc 0],(.set 5),[]⟩]
def Ll:Aa:=(.seq (.seq (.ops cn) (.cond (.var 12)
 .skip
 (.exit 0))) (.seq (.block 1 (.seq (.ops mY) (.seq (.ops mZ) (.seq (.seq (.ops mc) (.block 2 (.loop Jn))) (.seq (.seq (.ops Tp) (.cond (.var 14)
 (.exit 1)
 .skip)) (.seq (.ops cW) (.seq (.seq (.ops cX) (.block 4 (.loop Jo))) (.seq (.seq (.ops cZ) (.cond (.var 17)
 (.exit 1)
 .skip)) (.seq (.ops ck) (.seq (.block 6 (.loop Jp)) (.seq (.ops Tt) (.ops Tu)))))))))))) (.ops PB)))
def cl:List AA:=[
 ⟨none,.r1 (fun s a=>AC Tryz.prog s 30 a),[.var 3],.push,[]⟩,
 ⟨none,.e (fun s=>Xy (fun a x=>Za (AS Tryz.prog s 30 a x))),[.var 2,.loc 0],.push,[]⟩]
def wj:Ah:=⟨1,19,(.seq (.ops mU) (.seq (.ops mV) (.seq (.ops mW) (.seq (.seq (.ops mX) (.block 0 (.loop Ll))) (.seq (.ops cl) .ret))))),[((.var 2),some 30)]⟩
def nU:List AA:=[
 ⟨none,.mk (fun l=>match l with | [v]=>Bf 26 v | _=>none),[.var 0],(.set 1),[]⟩,
 ⟨none,.mk (fun l=>match l with | []=>Ag Tryz.prog 30 | _=>none),[],(.set 2),[]⟩]
def nW:List AA:=[
 ⟨none,.r1 (fun s a=>AC Tryz.prog s 26 a),[.var 1],.push,[]⟩,
 ⟨none,.call 74,[.loc 0],.push,[]⟩,
 ⟨none,.p (fun l=>BT Tryz.prog 30 (zipIdx [0] l)),[.loc 0],.push,[]⟩,
 ⟨none,.e (fun s=>Xy (fun a x=>Za (AS Tryz.prog s 30 a x))),[.var 2,.loc 0],.push,[]⟩]
def wz:Ah:=⟨1,3,(.seq (.ops nU) (.seq (.ops nW) .ret)),[((.var 2),some 30)]⟩
def mF:List AA:=[
 ⟨none,.mk (fun l=>match l with | [v]=>Bf 30 v | _=>none),[.var 0],(.set 2),[]⟩,
 ⟨none,.mk (fun l=>match l with | [v]=>Bf 26 v | _=>none),[.var 1],(.set 3),[]⟩,
 ⟨none,.mk (fun l=>match l with | []=>Ag Tryz.prog 30 | _=>none),[],(.set 4),[]⟩]
def mG:List AA:=[
 ⟨none,.r1 (fun s a=>AC Tryz.prog s 30 a),[.var 2],.push,[]⟩,
 ⟨none,.call 43,[.loc 0],.push,[]⟩,
 ⟨none,.e (fun s=>Xy (fun a x=>Za (AS Tryz.prog s 30 a x))),[.var 2,.loc 0],.push,[]⟩]
def mH:List AA:=[
 ⟨none,.p1 (fun x=>AB Tryz.prog 30 x 0),[.var 2],.push,[]⟩,
 ⟨none,.r1 (fun s a=>AC Tryz.prog s 26 a),[.loc 0],.push,[]⟩,
 ⟨none,.r1 (fun s a=>AC Tryz.prog s 26 a),[.var 3],.push,[]⟩,
 ⟨none,.p1 (fun x=>AB Tryz.prog 30 x 1),[.var 2],.push,[]⟩,
 ⟨none,.r1 (fun s a=>AC Tryz.prog s 27 a),[.loc 0],.push,[]⟩,
 ⟨none,.mk (fun l=>match l with | []=>Ag Tryz.prog 30 | _=>none),[],(.set 5),[]⟩,
 ⟨none,.call 45,[.loc 3,.loc 2],.push,[⟨none,.r1 (fun s a=>AC Tryz.prog s 27 a),[.loc 2],(.loc 1)⟩]⟩,
 ⟨none,.p (fun l=>BT Tryz.prog 30 (zipIdx [0,1] l)),[.loc 0,.loc 1],.push,[]⟩,
 ⟨none,.e (fun s=>Xy (fun a x=>Za (AS Tryz.prog s 30 a x))),[.var 5,.loc 0],.push,[]⟩]
def mI:List AA:=[
 ⟨none,.p1 some,[(.const (.int .i64 (0)))],(.set 6),[]⟩]
def cU:List AA:=[
 ⟨none,.p1 (fun x=>AB Tryz.prog 30 x 2),[.var 2],.push,[]⟩,
 ⟨none,.r1 (fun s a=>AC Tryz.prog s 28 a),[.loc 0],.push,[]⟩,
 ⟨none,.r (fun s l=>match l with | [x]=>A6 Tryz.prog s 28 x | _=>none),[.loc 0],.push,[]⟩,
 ⟨none,.p2 (AL Tryz.prog .lss 3),[.var 6,.loc 0],(.set 7),[]⟩]
def mJ:List AA:=[
 ⟨none,.p1 (fun x=>AB Tryz.prog 30 x 2),[.var 5],.push,[]⟩,
 ⟨none,.r1 (fun s a=>AC Tryz.prog s 28 a),[.loc 0],.push,[]⟩,
 ⟨none,.p1 (fun x=>AB Tryz.prog 30 x 2),[.var 2],.push,[]⟩,
 ⟨none,.r1 (fun s a=>AC Tryz.prog s 28 a),[.loc 0],.push,[]⟩,
 ⟨none,.p2 (AM Tryz.prog 28),[.loc 0,.var 6],.push,[]⟩,
 ⟨none,.r1 (fun s a=>AC Tryz.prog s 26 a),[.loc 0],.push,[]⟩,
 ⟨none,.r1 (fun s a=>AC Tryz.prog s 26 a),[.var 3],.push,[]⟩,
 ⟨none,.call 45,[.loc 1,.loc 0],.push,[⟨none,.r1 (fun s a=>AC Tryz.prog s 28 a),[.loc 7],(.loc 6)⟩]⟩,
 ⟨none,.mk (fun l=>(Ad Tryz.prog 28 1 (zipIdx [0] l)).bind fun r=>some (r,.slice 1)),[.loc 0],.push,[]⟩,
 ⟨none,.e (fun s l=>Ar Tryz.prog s [28,28] l),[.loc 7,.loc 0],.push,[]⟩,
 ⟨none,.p1 (fun x=>AB Tryz.prog 30 x 2),[.var 5],.push,[]⟩,
 ⟨none,.e (fun s=>Xy (fun a x=>Za (AS Tryz.prog s 28 a x))),[.loc 0,.loc 1],.push,[]⟩]
def mK:List AA:=[
 ⟨none,.p1 some,[.var 6],.push,[]⟩,
 ⟨none,.p2 (AL Tryz.prog .add 3),[(.loc 0),(.const (.int .i64 (1)))],.push,[]⟩,
 ⟨none,.p1 some,[.loc 0],(.set 6),[]⟩]
def Q2:Aa:=(.seq (.seq (.ops cU) (.cond (.var 7)
 .skip
 (.exit 0))) (.seq (.block 1 (.ops mJ)) (.ops mK)))
def mL:List AA:=[
 ⟨none,.r1 (fun s a=>AC Tryz.prog s 30 a),[.var 5],.push,[]⟩,
 ⟨none,.call 43,[.loc 0],.push,[]⟩,
 ⟨none,.e (fun s=>Xy (fun a x=>Za (AS Tryz.prog s 30 a x))),[.var 4,.loc 0],.push,[]⟩]
def we:Ah:=⟨2,8,(.seq (.ops mF) (.seq (.ops mG) (.seq (.ops mH) (.seq (.seq (.ops mI) (.block 0 (.loop Q2))) (.seq (.ops mL) .ret))))),[((.var 4),some 30)]⟩
def kp:List AA:=[
 ⟨none,.mk (fun l=>match l with | [v]=>Bf 30 v | _=>none),[.var 0],(.set 1),[]⟩,
 ⟨none,.mk (fun l=>match l with | []=>Ag Tryz.prog 30 | _=>none),[],(.set 2),[]⟩]
def kq:List AA:=[
 ⟨none,.r1 (fun s a=>AC Tryz.prog s 30 a),[.var 1],.push,[]⟩,
 ⟨none,.call 43,[.loc 0],.push,[]⟩,
 ⟨none,.e (fun s=>Xy (fun a x=>Za (AS Tryz.prog s 30 a x))),[.var 1,.loc 0],.push,[]⟩]
def ku:List AA:=[
 ⟨none,.p1 (fun x=>AB Tryz.prog 30 x 1),[.var 1],.push,[]⟩,
 ⟨none,.r1 (fun s a=>AC Tryz.prog s 27 a),[.loc 0],.push,[]⟩,
 ⟨none,.r (fun s l=>match l with | [x]=>A6 Tryz.prog s 27 x | _=>none),[.loc 0],.push,[]⟩,
 ⟨none,.p2 (AL Tryz.prog .eql 3),[(.loc 0),(.const (.int .i64 (0)))],(.set 8),[]⟩]
def kw:List AA:=[
 ⟨none,.p1 (fun x=>AB Tryz.prog 30 x 0),[.var 1],.push,[]⟩,
 ⟨none,.r1 (fun s a=>AC Tryz.prog s 26 a),[.loc 0],.push,[]⟩,
 ⟨none,.call 54,[.loc 0],.push,[]⟩,
 ⟨none,.p1 some,[.loc 0],(.set 3),[]⟩]
def Ve:List AA:=[
 ⟨none,.p2 (AL Tryz.prog .lss 3),[(.var 3),(.const (.int .i64 (0)))],.push,[]⟩,
 ⟨none,.p2 (AL Tryz.prog .mul 3),[.var 3,.var 3],.push,[]⟩,
 ⟨none,.r1 (fun s x=>Ax Tryz.prog s 3 76 x),[.loc 0],.push,[]⟩,
 ⟨none,.mk (fun l=>(Ad Tryz.prog 22 1 (zipIdx [0] l)).bind fun r=>some (r,.slice 1)),[.loc 0],.push,[]⟩,
 ⟨none,.p (fun l=>BT Tryz.prog 24 (zipIdx [0,1] l)),[.loc 3,.loc 0],.push,[]⟩,
 ⟨none,.p (fun l=>BT Tryz.prog 26 (zipIdx [0] l)),[.loc 0],.push,[]⟩,
 ⟨none,.call 55,[.loc 0],.push,[]⟩,
 ⟨none,.e (fun s=>Xy (fun a x=>Za (AS Tryz.prog s 30 a x))),[.var 2,.loc 0],.push,[]⟩]
def kz:List AA:=[
 ⟨none,.mk (fun l=>(Ad Tryz.prog 22 1 (zipIdx [0] l)).bind fun r=>some (r,.slice 1)),[(.const (.int .u32 (1)))],.push,[]⟩,
 ⟨none,.p1 some,[.loc 0],(.set 4),[]⟩]
def lA:List AA:=[
 ⟨none,.p1 some,[(.const (.int .i64 (0)))],(.set 5),[]⟩]
def cG:List AA:=[
 ⟨none,.p1 (fun x=>AB Tryz.prog 30 x 2),[.var 1],.push,[]⟩,
 ⟨none,.r1 (fun s a=>AC Tryz.prog s 28 a),[.loc 0],.push,[]⟩,
 ⟨none,.r (fun s l=>match l with | [x]=>A6 Tryz.prog s 28 x | _=>none),[.loc 0],.push,[]⟩,
 ⟨none,.p2 (AL Tryz.prog .lss 3),[.var 5,.loc 0],(.set 9),[]⟩]
def lD:List AA:=[
 ⟨none,.p1 some,[.var 4],.push,[]⟩,
 ⟨none,.p1 (fun x=>AB Tryz.prog 30 x 2),[.var 1],.push,[]⟩,
 ⟨none,.r1 (fun s a=>AC Tryz.prog s 28 a),[.loc 0],.push,[]⟩,
 ⟨none,.p2 (AM Tryz.prog 28),[.loc 0,.var 5],.push,[]⟩,
 ⟨none,.p1 (fun x=>AB Tryz.prog 26 x 1),[.loc 0],.push,[]⟩,
 ⟨none,.r1 (fun s a=>AC Tryz.prog s 22 a),[.loc 0],.push,[]⟩,
 ⟨none,.call 56,[.loc 5,.loc 0],.push,[]⟩,
 ⟨none,.p1 some,[.loc 0],(.set 4),[]⟩]
def lE:List AA:=[
 ⟨none,.p1 some,[.var 5],.push,[]⟩,
 ⟨none,.p2 (AL Tryz.prog .add 3),[(.loc 0),(.const (.int .i64 (1)))],.push,[]⟩,
 ⟨none,.p1 some,[.loc 0],(.set 5),[]⟩]
def Li:Aa:=(.seq (.seq (.ops cG) (.cond (.var 9)
 .skip
 (.exit 0))) (.seq (.block 1 (.ops lD)) (.ops lE)))
def bs:List AA:=[
 ⟨none,.r1 (fun s a=>AC Tryz.prog s 30 a),[.var 1],.push,[]⟩,
 ⟨none,.p (fun l=>BT Tryz.prog 24 (zipIdx [1] l)),[.var 4],.push,[]⟩,
 ⟨none,.p (fun l=>BT Tryz.prog 26 (zipIdx [0] l)),[.loc 0],.push,[]⟩,
 ⟨none,.call 37,[.loc 2,.loc 0],.push,[]⟩,
 ⟨none,.e (fun s=>Xy (fun a x=>Za (AS Tryz.prog s 30 a x))),[.var 1,.loc 0],.push,[]⟩]
def bw:List AA:=[
 ⟨none,.p1 some,[(.const (.slice none 0 (some 0)))],(.set 6),[]⟩]
def bz:List AA:=[
 ⟨none,.p1 some,[(.const (.int .i64 (0)))],(.set 7),[]⟩]
def Tk:List AA:=[
 ⟨none,.p1 (fun x=>AB Tryz.prog 30 x 2),[.var 1],.push,[]⟩,
 ⟨none,.r1 (fun s a=>AC Tryz.prog s 28 a),[.loc 0],.push,[]⟩,
 ⟨none,.r (fun s l=>match l with | [x]=>A6 Tryz.prog s 28 x | _=>none),[.loc 0],.push,[]⟩,
 ⟨none,.p2 (AL Tryz.prog .lss 3),[.var 7,.loc 0],(.set 10),[]⟩]
def cC:List AA:=[
 ⟨none,.p1 some,[.var 6],.push,[]⟩,
 ⟨none,.p1 (fun x=>AB Tryz.prog 30 x 2),[.var 1],.push,[]⟩,
 ⟨none,.r1 (fun s a=>AC Tryz.prog s 28 a),[.loc 0],.push,[]⟩,
 ⟨none,.p2 (AM Tryz.prog 28),[.loc 0,.var 7],.push,[]⟩,
 ⟨none,.p1 (fun x=>AB Tryz.prog 26 x 0),[.loc 0],.push,[]⟩,
 ⟨none,.p1 (fun x=>AB Tryz.prog 24 x 1),[.loc 0],.push,[]⟩,
 ⟨none,.r1 (fun s a=>AC Tryz.prog s 22 a),[.loc 0],.push,[]⟩,
 ⟨none,.call 57,[.loc 6,.loc 0],.push,[]⟩,
 ⟨none,.p1 some,[.loc 0],(.set 6),[]⟩]
def cE:List AA:=[
 ⟨none,.p1 some,[.var 7],.push,[]⟩,
 ⟨none,.p2 (AL Tryz.prog .add 3),[(.loc 0),(.const (.int .i64 (1)))],.push,[]⟩,
 ⟨none,.p1 some,[.loc 0],(.set 7),[]⟩]
def Lj:Aa:=(.seq (.seq (.ops Tk) (.cond (.var 10)
 .skip
 (.exit 2))) (.seq (.block 3 (.ops cC)) (.ops cE)))
def cF:List AA:=[
 ⟨none,.r1 (fun s a=>AC Tryz.prog s 30 a),[.var 1],.push,[]⟩,
 ⟨none,.mk (fun l=>(Ad Tryz.prog 22 1 (zipIdx [0] l)).bind fun r=>some (r,.slice 1)),[(.const (.int .u32 (1)))],.push,[]⟩,
 ⟨none,.p (fun l=>BT Tryz.prog 24 (zipIdx [1] l)),[.loc 0],.push,[]⟩,
 ⟨none,.p (fun l=>BT Tryz.prog 26 (zipIdx [0,1] l)),[.loc 0,.var 6],.push,[]⟩,
 ⟨none,.call 37,[.loc 3,.loc 0],.push,[]⟩,
 ⟨none,.e (fun s=>Xy (fun a x=>Za (AS Tryz.prog s 30 a x))),[.var 2,.loc 0],.push,[]⟩]
def wR:Ah:=⟨1,11,(.seq (.ops kp) (.seq (.ops kq) (.seq (.seq (.ops ku) (.cond (.var 8)
 (.seq (.ops kw) (.seq (.ops Ve) .ret))
 .skip)) (.seq (.ops kz) (.seq (.seq (.ops lA) (.block 0 (.loop Li))) (.seq (.ops bs) (.seq (.ops bw) (.seq (.seq (.ops bz) (.block 2 (.loop Lj))) (.seq (.ops cF) .ret))))))))),[((.var 2),some 30)]⟩
def ul:List AA:=[
 ⟨none,.mk (fun l=>match l with | [v]=>Bf 30 v | _=>none),[.var 0],(.set 1),[]⟩,
 ⟨none,.p1 some,[(.const (.bool false))],(.set 2),[]⟩]
def um:List AA:=[
 ⟨none,.r1 (fun s a=>AC Tryz.prog s 30 a),[.var 1],.push,[]⟩,
 ⟨none,.call 7,[.loc 0],.push,[]⟩,
 ⟨none,.e (fun s=>Xy (fun a x=>Za (AS Tryz.prog s 30 a x))),[.var 1,.loc 0],.push,[]⟩]
def un:List AA:=[
 ⟨none,.r1 (fun s a=>AC Tryz.prog s 30 a),[.var 1],.push,[]⟩,
 ⟨none,.r1 (fun s a=>AC Tryz.prog s 30 a),[.var 1],.push,[]⟩,
 ⟨none,.call 16,[.loc 1],.push,[⟨none,.r1 (fun s a=>AC Tryz.prog s 30 a),[.var 1],(.loc 1)⟩]⟩,
 ⟨none,.call 17,[.loc 1],.push,[]⟩,
 ⟨none,.call 9,[.loc 1,.loc 0],.push,[]⟩,
 ⟨(some ((.loc 0),true)),.call 15,[],.push,[]⟩,
 ⟨none,.p Ru,[(.loc 1),(.loc 0),(.const (.bool false))],.push,[]⟩,
 ⟨none,.p1 some,[.loc 0],(.set 2),[]⟩]
def c4:Ah:=⟨1,3,(.seq (.ops ul) (.seq (.ops um) (.seq (.ops un) .ret))),[((.var 2),none)]⟩
theorem jD:AO Tryz.prog 122=some uQ:=by kernel_rfl
theorem sj:AO Tryz.prog 82=some xP:=by kernel_rfl
theorem si:AO Tryz.prog 81=some xO:=by kernel_rfl
theorem sf:AO Tryz.prog 80=some xN:=by kernel_rfl
theorem sk:AO Tryz.prog 83=some xQ:=by kernel_rfl
theorem sb:AO Tryz.prog 74=some xK:=by kernel_rfl
theorem sF:AO Tryz.prog 44=some wl:=by kernel_rfl
theorem sG:AO Tryz.prog 45=some wo:=by kernel_rfl
theorem im:AO Tryz.prog 101=some uC:=by kernel_rfl
theorem sN:AO Tryz.prog 54=some ww:=by kernel_rfl
theorem sE:AO Tryz.prog 43=some wj:=by kernel_rfl
theorem sO:AO Tryz.prog 55=some wz:=by kernel_rfl
theorem rv:AO Tryz.prog 37=some we:=by kernel_rfl
theorem rV:AO Tryz.prog 17=some wR:=by kernel_rfl
theorem vA:AO Tryz.prog 4=some c4:=by kernel_rfl
end
end Go.Proofs.YtjnkfbpadpmakaaGreatDoor.Am
set_option linter.unusedVariables false
set_option linter.unusedSimpArgs false
set_option maxRecDepth 16000
namespace Go.Proofs.YtjnkfbpadpmakaaGreatDoor.Am
open Go Go.Proofs
noncomputable section
theorem B3{n k:Nat}(h:n<LB ^ k):(Au n).length≤32 * k:=by
 rw[OX]at h
 exact FI h
theorem Cj{l:List Nat}{k:Nat}(hs:Be l)(hl:l.length≤k):AG l<LB ^ k:=xi (CN hs) (yT BO hl)
section
variable{E:CU}{s:AE}
theorem N6(hE:GoodN E){v:AV}{l:List Nat}(hv:Bo s v l)(hs:Be l)(hl:l.length≤3000000){K:AV→AE→Prop}(hK:∀s' w,Af s.next s s'→Bo s' w (AJ (AG l))→(∀j,By w=some j→s.next≤j∧j<s'.next)→K w s'):WF E 127 [v] K s:=by
 refine hE.go jI (by decide) rfl ?_
 simp only[uV,Zu,Zv,Qa,Qb,Qc,Qd,Qe,Qf,Qg,Qh,Qi,Qj,Qk,Ql,Qm,Qo,true_and,and_true,Qp,Qq,Qr,Qs,Qt,Qu,Qv,Qw,Qx,Qy,Qz,Ra,Rb,Rc,Rd,Re,Rf,Rg,Rh,Ri,Rj,Rk,Rm,Rn,Ro,Rp,Rq,Rs,Rt,Ya,Yb,Yc,Ru,Rw,Zb,Yd,Ye,Ry,Rz,Wa,Wb,Wc,Wd,We]
 refine CZ hE hv hs (by omega) fun s1 w1 o1 h1=>?_
 have hb:=B3 (Cj hs hl)
 simp only[Qa,Qb,Qc,Qd,Qe,Qf,Qg,Qh,Qi,Qj,Qk,Ql,Qm,Qo,true_and,and_true,Qp,Qq,Qr,Qs,Qt,Qu,Qv,Qw,Qx,Qy,Qz,Ra,Rb,Rc,Rd,Re,Rf,Rg,Rh,Ri,Rj,Rk,Rm,Rn,Ro,Rp,Rq,Rs,Rt,Ya,Yb,Yc,Ru,Rw,Zb,Yd,Ye,Ry,Rz,Wa,Wb,Wc,Wd,We]
 refine IR hE h1 (by omega) fun s2 w2 o2 h2 b2=>?_
 rw[BH]at h2
 simp only[Qa,Qb,Qc,Qd,Qe,Qf,Qg,Qh,Qi,Qj,Qk,Ql,Qm,Qo,true_and,and_true,Qp,Qq,Qr,Qs,Qt,Qu,Qv,Qw,Qx,Qy,Qz,Ra,Rb,Rc,Rd,Re,Rf,Rg,Rh,Ri,Rj,Rk,Rm,Rn,Ro,Rp,Rq,Rs,Rt,Ya,Yb,Yc,Ru,Rw,Zb,Yd,Ye,Ry,Rz,Wa,Wb,Wc,Wd,We]
 exact hK s2 w2 (o1.trans (o2.mono o1.1)) h2 fun j hj=>⟨xh o1.1 (b2 j hj).1,(b2 j hj).2⟩
theorem SY(hE:GoodN E){v:AV}{l:List Nat}(hv:Bo s v l)(hs:Be l)(hl:l.length≤3000000){K:AV→AE→Prop}(hK:∀s' w,Af s.next s s'→Bo s' w (AJ (AG l))→K w s'):WF E 127 [v] K s:=N6 hE hv hs hl fun s' w o h _=>hK s' w o h
theorem j5(hE:GoodN E){va vb:AV}{la lb:List Nat}(ha:Bo s va la)(hb:Bo s vb lb)(hsa:Be la)(hsb:Be lb)(hla:la.length≤3000000)(hlb:lb.length≤3000000){K:AV→AE→Prop}(hK:∀s' w,Af s.next s s'→Bo s' w (AJ (AG la+AG lb))→K w s'):WF E 124 [va,vb] K s:=by
 refine hE.go jF (by decide) rfl ?_
 simp only[uS,Zj,Zk,Qa,Qb,Qc,Qd,Qe,Qf,Qg,Qh,Qi,Qj,Qk,Ql,Qm,Qo,true_and,and_true,Qp,Qq,Qr,Qs,Qt,Qu,Qv,Qw,Qx,Qy,Qz,Ra,Rb,Rc,Rd,Re,Rf,Rg,Rh,Ri,Rj,Rk,Rm,Rn,Ro,Rp,Rq,Rs,Rt,Ya,Yb,Yc,Ru,Rw,Zb,Yd,Ye,Ry,Rz,Wa,Wb,Wc,Wd,We]
 refine CZ hE ha hsa (by omega) fun s1 w1 o1 h1=>?_
 simp only[Qa,Qb,Qc,Qd,Qe,Qf,Qg,Qh,Qi,Qj,Qk,Ql,Qm,Qo,true_and,and_true,Qp,Qq,Qr,Qs,Qt,Qu,Qv,Qw,Qx,Qy,Qz,Ra,Rb,Rc,Rd,Re,Rf,Rg,Rh,Ri,Rj,Rk,Rm,Rn,Ro,Rp,Rq,Rs,Rt,Ya,Yb,Yc,Ru,Rw,Zb,Yd,Ye,Ry,Rz,Wa,Wb,Wc,Wd,We]
 refine CZ hE (hb.old o1) hsb (by omega) fun s2 w2 o2 h2=>?_
 have q1:=B3 (Cj hsa hla)
 have q2:=B3 (Cj hsb hlb)
 simp only[Qa,Qb,Qc,Qd,Qe,Qf,Qg,Qh,Qi,Qj,Qk,Ql,Qm,Qo,true_and,and_true,Qp,Qq,Qr,Qs,Qt,Qu,Qv,Qw,Qx,Qy,Qz,Ra,Rb,Rc,Rd,Re,Rf,Rg,Rh,Ri,Rj,Rk,Rm,Rn,Ro,Rp,Rq,Rs,Rt,Ya,Yb,Yc,Ru,Rw,Zb,Yd,Ye,Ry,Rz,Wa,Wb,Wc,Wd,We]
 refine j8 hE (h1.old o2) h2 (by omega) (by omega) fun s3 w3 out o3 h3 hl3 hv3=>?_
 rw[BH,BH]at hv3
 simp only[Qa,Qb,Qc,Qd,Qe,Qf,Qg,Qh,Qi,Qj,Qk,Ql,Qm,Qo,true_and,and_true,Qp,Qq,Qr,Qs,Qt,Qu,Qv,Qw,Qx,Qy,Qz,Ra,Rb,Rc,Rd,Re,Rf,Rg,Rh,Ri,Rj,Rk,Rm,Rn,Ro,Rp,Rq,Rs,Rt,Ya,Yb,Yc,Ru,Rw,Zb,Yd,Ye,Ry,Rz,Wa,Wb,Wc,Wd,We]
 refine Fy hE h3 (by omega) fun s4 w4 o4 h4=>?_
 rw[hv3]at h4
 simp only[Qa,Qb,Qc,Qd,Qe,Qf,Qg,Qh,Qi,Qj,Qk,Ql,Qm,Qo,true_and,and_true,Qp,Qq,Qr,Qs,Qt,Qu,Qv,Qw,Qx,Qy,Qz,Ra,Rb,Rc,Rd,Re,Rf,Rg,Rh,Ri,Rj,Rk,Rm,Rn,Ro,Rp,Rq,Rs,Rt,Ya,Yb,Yc,Ru,Rw,Zb,Yd,Ye,Ry,Rz,Wa,Wb,Wc,Wd,We]
 have o12:=o1.trans (o2.mono o1.1)
 have o13:=o12.trans (o3.mono o12.1)
 exact hK s4 w4 (o13.trans (o4.mono o13.1)) h4
theorem WK(hE:GoodN E){va vb:AV}{la lb:List Nat}(ha:Bo s va la)(hb:Bo s vb lb)(hsa:Be la)(hsb:Be lb)(hla:la.length≤3000000)(hlb:lb.length≤3000000){K:AV→AE→Prop}(hK:∀s' w,Af s.next s s'→Bo s' w (AJ (AG la * AG lb))→K w s'):WF E 56 [va,vb] K s:=by
 refine hE.go sP (by decide) rfl ?_
 simp only[w8,nX,nY,Qa,Qb,Qc,Qd,Qe,Qf,Qg,Qh,Qi,Qj,Qk,Ql,Qm,Qo,true_and,and_true,Qp,Qq,Qr,Qs,Qt,Qu,Qv,Qw,Qx,Qy,Qz,Ra,Rb,Rc,Rd,Re,Rf,Rg,Rh,Ri,Rj,Rk,Rm,Rn,Ro,Rp,Rq,Rs,Rt,Ya,Yb,Yc,Ru,Rw,Zb,Yd,Ye,Ry,Rz,Wa,Wb,Wc,Wd,We]
 refine CZ hE ha hsa (by omega) fun s1 w1 o1 h1=>?_
 simp only[Qa,Qb,Qc,Qd,Qe,Qf,Qg,Qh,Qi,Qj,Qk,Ql,Qm,Qo,true_and,and_true,Qp,Qq,Qr,Qs,Qt,Qu,Qv,Qw,Qx,Qy,Qz,Ra,Rb,Rc,Rd,Re,Rf,Rg,Rh,Ri,Rj,Rk,Rm,Rn,Ro,Rp,Rq,Rs,Rt,Ya,Yb,Yc,Ru,Rw,Zb,Yd,Ye,Ry,Rz,Wa,Wb,Wc,Wd,We]
 refine CZ hE (hb.old o1) hsb (by omega) fun s2 w2 o2 h2=>?_
 have q1:=B3 (Cj hsa hla)
 have q2:=B3 (Cj hsb hlb)
 simp only[Qa,Qb,Qc,Qd,Qe,Qf,Qg,Qh,Qi,Qj,Qk,Ql,Qm,Qo,true_and,and_true,Qp,Qq,Qr,Qs,Qt,Qu,Qv,Qw,Qx,Qy,Qz,Ra,Rb,Rc,Rd,Re,Rf,Rg,Rh,Ri,Rj,Rk,Rm,Rn,Ro,Rp,Rq,Rs,Rt,Ya,Yb,Yc,Ru,Rw,Zb,Yd,Ye,Ry,Rz,Wa,Wb,Wc,Wd,We]
 refine kB hE (h1.old o2) h2 (by omega) (by omega) fun s3 w3 o3 h3=>?_
 rw[BH,BH]at h3
 have q3:=B3 (n:=AG la * AG lb) (k:=la.length+lb.length) (by rw[zO];exact Nat.mul_lt_mul'' (CN hsa) (CN hsb))
 simp only[Qa,Qb,Qc,Qd,Qe,Qf,Qg,Qh,Qi,Qj,Qk,Ql,Qm,Qo,true_and,and_true,Qp,Qq,Qr,Qs,Qt,Qu,Qv,Qw,Qx,Qy,Qz,Ra,Rb,Rc,Rd,Re,Rf,Rg,Rh,Ri,Rj,Rk,Rm,Rn,Ro,Rp,Rq,Rs,Rt,Ya,Yb,Yc,Ru,Rw,Zb,Yd,Ye,Ry,Rz,Wa,Wb,Wc,Wd,We]
 refine Fy hE h3 (by omega) fun s4 w4 o4 h4=>?_
 rw[BH]at h4
 simp only[Qa,Qb,Qc,Qd,Qe,Qf,Qg,Qh,Qi,Qj,Qk,Ql,Qm,Qo,true_and,and_true,Qp,Qq,Qr,Qs,Qt,Qu,Qv,Qw,Qx,Qy,Qz,Ra,Rb,Rc,Rd,Re,Rf,Rg,Rh,Ri,Rj,Rk,Rm,Rn,Ro,Rp,Rq,Rs,Rt,Ya,Yb,Yc,Ru,Rw,Zb,Yd,Ye,Ry,Rz,Wa,Wb,Wc,Wd,We]
 have o12:=o1.trans (o2.mono o1.1)
 have o13:=o12.trans (o3.mono o12.1)
 exact hK s4 w4 (o13.trans (o4.mono o13.1)) h4
theorem WL(hE:GoodN E){va vb:AV}{la lb:List Nat}(ha:Bo s va la)(hb:Bo s vb lb)(hsa:Be la)(hsb:Be lb)(hla:la.length≤3000000)(hlb:lb.length≤3000000)(hle:AG lb≤AG la){K:AV→AE→Prop}(hK:∀s' w,Af s.next s s'→Bo s' w (AJ (AG la - AG lb))→K (.tuple [w,.bool true]) s'):WF E 126 [va,vb] K s:=by
 refine hE.go jH (by decide) rfl ?_
 have q1:=B3 (Cj hsa hla)
 have q2:=B3 (Cj hsb hlb)
 simp only[uU,Zr,Zs,Qa,Qb,Qc,Qd,Qe,Qf,Qg,Qh,Qi,Qj,Qk,Ql,Qm,Qo,true_and,and_true,Qp,Qq,Qr,Qs,Qt,Qu,Qv,Qw,Qx,Qy,Qz,Ra,Rb,Rc,Rd,Re,Rf,Rg,Rh,Ri,Rj,Rk,Rm,Rn,Ro,Rp,Rq,Rs,Rt,Ya,Yb,Yc,Ru,Rw,Zb,Yd,Ye,Ry,Rz,Wa,Wb,Wc,Wd,We]
 refine CZ hE ha hsa (by omega) fun s1 w1 o1 h1=>?_
 simp only[Qa,Qb,Qc,Qd,Qe,Qf,Qg,Qh,Qi,Qj,Qk,Ql,Qm,Qo,true_and,and_true,Qp,Qq,Qr,Qs,Qt,Qu,Qv,Qw,Qx,Qy,Qz,Ra,Rb,Rc,Rd,Re,Rf,Rg,Rh,Ri,Rj,Rk,Rm,Rn,Ro,Rp,Rq,Rs,Rt,Ya,Yb,Yc,Ru,Rw,Zb,Yd,Ye,Ry,Rz,Wa,Wb,Wc,Wd,We]
 refine CZ hE (hb.old o1) hsb (by omega) fun s2 w2 o2 h2=>?_
 simp only[Qa,Qb,Qc,Qd,Qe,Qf,Qg,Qh,Qi,Qj,Qk,Ql,Qm,Qo,true_and,and_true,Qp,Qq,Qr,Qs,Qt,Qu,Qv,Qw,Qx,Qy,Qz,Ra,Rb,Rc,Rd,Re,Rf,Rg,Rh,Ri,Rj,Rk,Rm,Rn,Ro,Rp,Rq,Rs,Rt,Ya,Yb,Yc,Ru,Rw,Zb,Yd,Ye,Ry,Rz,Wa,Wb,Wc,Wd,We]
 refine JO hE (h1.old o2) h2 (by omega) (by omega) ?_
 have o12:=o1.trans (o2.mono o1.1)
 rw[BH,BH,decide_eq_false (by omega)]
 simp only[Zt,Qa,Qb,Qc,Qd,Qe,Qf,Qg,Qh,Qi,Qj,Qk,Ql,Qm,Qo,true_and,and_true,Qp,Qq,Qr,Qs,Qt,Qu,Qv,Qw,Qx,Qy,Qz,Ra,Rb,Rc,Rd,Re,Rf,Rg,Rh,Ri,Rj,Rk,Rm,Rn,Ro,Rp,Rq,Rs,Rt,Ya,Yb,Yc,Ru,Rw,Zb,Yd,Ye,Ry,Rz,Wa,Wb,Wc,Wd,We]
 refine CZ hE (ha.old o12) hsa (by omega) fun s3 w3 o3 h3=>?_
 have o13:=o12.trans (o3.mono o12.1)
 simp only[Qa,Qb,Qc,Qd,Qe,Qf,Qg,Qh,Qi,Qj,Qk,Ql,Qm,Qo,true_and,and_true,Qp,Qq,Qr,Qs,Qt,Qu,Qv,Qw,Qx,Qy,Qz,Ra,Rb,Rc,Rd,Re,Rf,Rg,Rh,Ri,Rj,Rk,Rm,Rn,Ro,Rp,Rq,Rs,Rt,Ya,Yb,Yc,Ru,Rw,Zb,Yd,Ye,Ry,Rz,Wa,Wb,Wc,Wd,We]
 refine CZ hE (hb.old o13) hsb (by omega) fun s4 w4 o4 h4=>?_
 have o14:=o13.trans (o4.mono o13.1)
 simp only[Qa,Qb,Qc,Qd,Qe,Qf,Qg,Qh,Qi,Qj,Qk,Ql,Qm,Qo,true_and,and_true,Qp,Qq,Qr,Qs,Qt,Qu,Qv,Qw,Qx,Qy,Qz,Ra,Rb,Rc,Rd,Re,Rf,Rg,Rh,Ri,Rj,Rk,Rm,Rn,Ro,Rp,Rq,Rs,Rt,Ya,Yb,Yc,Ru,Rw,Zb,Yd,Ye,Ry,Rz,Wa,Wb,Wc,Wd,We]
 refine kE hE (h3.old o4) h4 (by omega) (by rw[BH,BH];exact hle) fun s5 w5 o5 h5=>?_
 rw[BH,BH]at h5
 have o15:=o14.trans (o5.mono o14.1)
 have q5:=B3 (n:=AG la - AG lb) (k:=la.length) (yM (Nat.sub_le _ _) (CN hsa))
 simp only[Qa,Qb,Qc,Qd,Qe,Qf,Qg,Qh,Qi,Qj,Qk,Ql,Qm,Qo,true_and,and_true,Qp,Qq,Qr,Qs,Qt,Qu,Qv,Qw,Qx,Qy,Qz,Ra,Rb,Rc,Rd,Re,Rf,Rg,Rh,Ri,Rj,Rk,Rm,Rn,Ro,Rp,Rq,Rs,Rt,Ya,Yb,Yc,Ru,Rw,Zb,Yd,Ye,Ry,Rz,Wa,Wb,Wc,Wd,We]
 refine Fy hE h5 (by omega) fun s6 w6 o6 h6=>?_
 rw[BH]at h6
 simp only[Qa,Qb,Qc,Qd,Qe,Qf,Qg,Qh,Qi,Qj,Qk,Ql,Qm,Qo,true_and,and_true,Qp,Qq,Qr,Qs,Qt,Qu,Qv,Qw,Qx,Qy,Qz,Ra,Rb,Rc,Rd,Re,Rf,Rg,Rh,Ri,Rj,Rk,Rm,Rn,Ro,Rp,Rq,Rs,Rt,Ya,Yb,Yc,Ru,Rw,Zb,Yd,Ye,Ry,Rz,Wa,Wb,Wc,Wd,We]
 exact hK s6 w6 (o15.trans (o6.mono o15.1)) h6
theorem SV(hE:GoodN E){va vb:AV}{la lb:List Nat}(ha:Bo s va la)(hb:Bo s vb lb)(hsa:Be la)(hsb:Be lb)(hla:la.length≤3000000)(hlb:lb.length≤3000000)(hb0:AG lb≠0){K:AV→AE→Prop}(hK:∀s' w w',Af s.next s s'→Bo s' w (AJ (AG la / AG lb))→(∀j,By w=some j→s.next≤j∧j<s'.next)→K (.tuple [w,w',iv 0]) s'):WF E 123 [va,vb] K s:=by
 refine hE.go jE (by decide) rfl ?_
 have q1:=B3 (Cj hsa hla)
 have q2:=B3 (Cj hsb hlb)
 simp only[uR,Zf,Zg,Qa,Qb,Qc,Qd,Qe,Qf,Qg,Qh,Qi,Qj,Qk,Ql,Qm,Qo,true_and,and_true,Qp,Qq,Qr,Qs,Qt,Qu,Qv,Qw,Qx,Qy,Qz,Ra,Rb,Rc,Rd,Re,Rf,Rg,Rh,Ri,Rj,Rk,Rm,Rn,Ro,Rp,Rq,Rs,Rt,Ya,Yb,Yc,Ru,Rw,Zb,Yd,Ye,Ry,Rz,Wa,Wb,Wc,Wd,We]
 refine CZ hE hb hsb (by omega) fun s1 w1 o1 h1=>?_
 obtain⟨a1,c1,rfl,_⟩:=h1
 have d0:decide (((Au (AG lb)).length:Int)=0)=false:=decide_eq_false (by
  have:=List.length_pos_iff.2 (Ir hb0)
  omega)
 simp only[AH Tryz.underlying124,Wc,d0,Zh,Qa,Qb,Qc,Qd,Qe,Qf,Qg,Qh,Qi,Qj,Qk,Ql,Qm,Qo,true_and,and_true,Qp,Qq,Qr,Qs,Qt,Qu,Qv,Qw,Qx,Qy,Qz,Ra,Rb,Rc,Rd,Re,Rf,Rg,Rh,Ri,Rj,Rk,Rm,Rn,Ro,Rp,Rq,Rs,Rt,Ya,Yb,Yc,Ru,Rw,Zb,Yd,Ye,Ry,Rz,Wa,Wb,Wc,Wd,We]
 refine CZ hE (ha.old o1) hsa (by omega) fun s3 w3 o3 h3=>?_
 have o13:=o1.trans (o3.mono o1.1)
 simp only[Qa,Qb,Qc,Qd,Qe,Qf,Qg,Qh,Qi,Qj,Qk,Ql,Qm,Qo,true_and,and_true,Qp,Qq,Qr,Qs,Qt,Qu,Qv,Qw,Qx,Qy,Qz,Ra,Rb,Rc,Rd,Re,Rf,Rg,Rh,Ri,Rj,Rk,Rm,Rn,Ro,Rp,Rq,Rs,Rt,Ya,Yb,Yc,Ru,Rw,Zb,Yd,Ye,Ry,Rz,Wa,Wb,Wc,Wd,We]
 refine CZ hE (hb.old o13) hsb (by omega) fun s4 w4 o4 h4=>?_
 have o14:=o13.trans (o4.mono o13.1)
 simp only[Qa,Qb,Qc,Qd,Qe,Qf,Qg,Qh,Qi,Qj,Qk,Ql,Qm,Qo,true_and,and_true,Qp,Qq,Qr,Qs,Qt,Qu,Qv,Qw,Qx,Qy,Qz,Ra,Rb,Rc,Rd,Re,Rf,Rg,Rh,Ri,Rj,Rk,Rm,Rn,Ro,Rp,Rq,Rs,Rt,Ya,Yb,Yc,Ru,Rw,Zb,Yd,Ye,Ry,Rz,Wa,Wb,Wc,Wd,We]
 refine WM hE (h3.old o4) h4 (by omega) (by omega) (by rw[BH];exact hb0) fun s5 w5 w5' o5 h5 h5'=>?_
 rw[BH,BH]at h5 h5'
 have o15:=o14.trans (o5.mono o14.1)
 have q5:=B3 (n:=AG la / AG lb) (k:=la.length) (yM (yj _ _) (CN hsa))
 have q6:=B3 (n:=AG la % AG lb) (k:=lb.length) (zr (yP _ (by omega)) (CN hsb))
 simp only[Zi,Qa,Qb,Qc,Qd,Qe,Qf,Qg,Qh,Qi,Qj,Qk,Ql,Qm,Qo,true_and,and_true,Qp,Qq,Qr,Qs,Qt,Qu,Qv,Qw,Qx,Qy,Qz,Ra,Rb,Rc,Rd,Re,Rf,Rg,Rh,Ri,Rj,Rk,Rm,Rn,Ro,Rp,Rq,Rs,Rt,Ya,Yb,Yc,Ru,Rw,Zb,Yd,Ye,Ry,Rz,Wa,Wb,Wc,Wd,We]
 refine IR hE h5 (by omega) fun s6 w6 o6 h6 b6=>?_
 rw[BH]at h6
 simp only[Qa,Qb,Qc,Qd,Qe,Qf,Qg,Qh,Qi,Qj,Qk,Ql,Qm,Qo,true_and,and_true,Qp,Qq,Qr,Qs,Qt,Qu,Qv,Qw,Qx,Qy,Qz,Ra,Rb,Rc,Rd,Re,Rf,Rg,Rh,Ri,Rj,Rk,Rm,Rn,Ro,Rp,Rq,Rs,Rt,Ya,Yb,Yc,Ru,Rw,Zb,Yd,Ye,Ry,Rz,Wa,Wb,Wc,Wd,We]
 refine Fy hE (h5'.old o6) (by omega) fun s7 w7 o7 h7=>?_
 simp only[Qa,Qb,Qc,Qd,Qe,Qf,Qg,Qh,Qi,Qj,Qk,Ql,Qm,Qo,true_and,and_true,Qp,Qq,Qr,Qs,Qt,Qu,Qv,Qw,Qx,Qy,Qz,Ra,Rb,Rc,Rd,Re,Rf,Rg,Rh,Ri,Rj,Rk,Rm,Rn,Ro,Rp,Rq,Rs,Rt,Ya,Yb,Yc,Ru,Rw,Zb,Yd,Ye,Ry,Rz,Wa,Wb,Wc,Wd,We]
 have o16:=o15.trans (o6.mono o15.1)
 exact hK s7 w6 w7 (o16.trans (o7.mono o16.1)) (h6.old o7) fun j hj=>⟨xh o15.1 (b6 j hj).1,xi (b6 j hj).2 o7.1⟩
theorem j7(hE:GoodN E){va vb:AV}{la lb:List Nat}(ha:Bo s va la)(hb:Bo s vb lb)(hsa:Be la)(hsb:Be lb)(hla:la.length≤3000000)(hlb:lb.length≤3000000)(hb0:AG lb≠0){K:AV→AE→Prop}(hK:∀s' w w',Af s.next s s'→Bo s' w (AJ (AG la / AG lb))→K (.tuple [w,w',iv 0]) s'):WF E 123 [va,vb] K s:=SV hE ha hb hsa hsb hla hlb hb0 fun s' w w' o h _=>hK s' w w' o h
theorem j6(hE:GoodN E){va vb:AV}{la lb:List Nat}(ha:Bo s va la)(hb:Bo s vb lb)(hsa:Be la)(hsb:Be lb)(hla:la.length≤3000000)(hlb:lb.length≤3000000){K:AV→AE→Prop}(hK:∀s' z,Af s.next s s'→(z<0↔AG la<AG lb)→K (iv z) s'):WF E 125 [va,vb] K s:=by
 refine hE.go jG (by decide) rfl ?_
 have q1:=B3 (Cj hsa hla)
 have q2:=B3 (Cj hsb hlb)
 simp only[uT,Zl,Zm,Qa,Qb,Qc,Qd,Qe,Qf,Qg,Qh,Qi,Qj,Qk,Ql,Qm,Qo,true_and,and_true,Qp,Qq,Qr,Qs,Qt,Qu,Qv,Qw,Qx,Qy,Qz,Ra,Rb,Rc,Rd,Re,Rf,Rg,Rh,Ri,Rj,Rk,Rm,Rn,Ro,Rp,Rq,Rs,Rt,Ya,Yb,Yc,Ru,Rw,Zb,Yd,Ye,Ry,Rz,Wa,Wb,Wc,Wd,We]
 refine CZ hE ha hsa (by omega) fun s1 w1 o1 h1=>?_
 simp only[Qa,Qb,Qc,Qd,Qe,Qf,Qg,Qh,Qi,Qj,Qk,Ql,Qm,Qo,true_and,and_true,Qp,Qq,Qr,Qs,Qt,Qu,Qv,Qw,Qx,Qy,Qz,Ra,Rb,Rc,Rd,Re,Rf,Rg,Rh,Ri,Rj,Rk,Rm,Rn,Ro,Rp,Rq,Rs,Rt,Ya,Yb,Yc,Ru,Rw,Zb,Yd,Ye,Ry,Rz,Wa,Wb,Wc,Wd,We]
 refine CZ hE (hb.old o1) hsb (by omega) fun s2 w2 o2 h2=>?_
 simp only[Qa,Qb,Qc,Qd,Qe,Qf,Qg,Qh,Qi,Qj,Qk,Ql,Qm,Qo,true_and,and_true,Qp,Qq,Qr,Qs,Qt,Qu,Qv,Qw,Qx,Qy,Qz,Ra,Rb,Rc,Rd,Re,Rf,Rg,Rh,Ri,Rj,Rk,Rm,Rn,Ro,Rp,Rq,Rs,Rt,Ya,Yb,Yc,Ru,Rw,Zb,Yd,Ye,Ry,Rz,Wa,Wb,Wc,Wd,We]
 refine JO hE (h1.old o2) h2 (by omega) (by omega) ?_
 have o12:=o1.trans (o2.mono o1.1)
 rw[BH,BH]
 by_cases hlt:AG la<AG lb
 ·simp only[decide_eq_true hlt,Zn,Qa,Qb,Qc,Qd,Qe,Qf,Qg,Qh,Qi,Qj,Qk,Ql,Qm,Qo,true_and,and_true,Qp,Qq,Qr,Qs,Qt,Qu,Qv,Qw,Qx,Qy,Qz,Ra,Rb,Rc,Rd,Re,Rf,Rg,Rh,Ri,Rj,Rk,Rm,Rn,Ro,Rp,Rq,Rs,Rt,Ya,Yb,Yc,Ru,Rw,Zb,Yd,Ye,Ry,Rz,Wa,Wb,Wc,Wd,We]
  exact hK s2 (-1) o12 ⟨fun _=>hlt,fun _=>by decide⟩
 ·simp only[decide_eq_false hlt,Zo,Qa,Qb,Qc,Qd,Qe,Qf,Qg,Qh,Qi,Qj,Qk,Ql,Qm,Qo,true_and,and_true,Qp,Qq,Qr,Qs,Qt,Qu,Qv,Qw,Qx,Qy,Qz,Ra,Rb,Rc,Rd,Re,Rf,Rg,Rh,Ri,Rj,Rk,Rm,Rn,Ro,Rp,Rq,Rs,Rt,Ya,Yb,Yc,Ru,Rw,Zb,Yd,Ye,Ry,Rz,Wa,Wb,Wc,Wd,We]
  refine CZ hE (hb.old o12) hsb (by omega) fun s3 w3 o3 h3=>?_
  have o13:=o12.trans (o3.mono o12.1)
  simp only[Qa,Qb,Qc,Qd,Qe,Qf,Qg,Qh,Qi,Qj,Qk,Ql,Qm,Qo,true_and,and_true,Qp,Qq,Qr,Qs,Qt,Qu,Qv,Qw,Qx,Qy,Qz,Ra,Rb,Rc,Rd,Re,Rf,Rg,Rh,Ri,Rj,Rk,Rm,Rn,Ro,Rp,Rq,Rs,Rt,Ya,Yb,Yc,Ru,Rw,Zb,Yd,Ye,Ry,Rz,Wa,Wb,Wc,Wd,We]
  refine CZ hE (ha.old o13) hsa (by omega) fun s4 w4 o4 h4=>?_
  have o14:=o13.trans (o4.mono o13.1)
  simp only[Qa,Qb,Qc,Qd,Qe,Qf,Qg,Qh,Qi,Qj,Qk,Ql,Qm,Qo,true_and,and_true,Qp,Qq,Qr,Qs,Qt,Qu,Qv,Qw,Qx,Qy,Qz,Ra,Rb,Rc,Rd,Re,Rf,Rg,Rh,Ri,Rj,Rk,Rm,Rn,Ro,Rp,Rq,Rs,Rt,Ya,Yb,Yc,Ru,Rw,Zb,Yd,Ye,Ry,Rz,Wa,Wb,Wc,Wd,We]
  refine JO hE (h3.old o4) h4 (by omega) (by omega) ?_
  rw[BH,BH]
  by_cases hgt:AG lb<AG la
  ·simp only[decide_eq_true hgt,Zp,Qa,Qb,Qc,Qd,Qe,Qf,Qg,Qh,Qi,Qj,Qk,Ql,Qm,Qo,true_and,and_true,Qp,Qq,Qr,Qs,Qt,Qu,Qv,Qw,Qx,Qy,Qz,Ra,Rb,Rc,Rd,Re,Rf,Rg,Rh,Ri,Rj,Rk,Rm,Rn,Ro,Rp,Rq,Rs,Rt,Ya,Yb,Yc,Ru,Rw,Zb,Yd,Ye,Ry,Rz,Wa,Wb,Wc,Wd,We]
   exact hK s4 1 o14 ⟨fun h=>(by cases h),fun h=>absurd h hlt⟩
  ·simp only[decide_eq_false hgt,Zq,Qa,Qb,Qc,Qd,Qe,Qf,Qg,Qh,Qi,Qj,Qk,Ql,Qm,Qo,true_and,and_true,Qp,Qq,Qr,Qs,Qt,Qu,Qv,Qw,Qx,Qy,Qz,Ra,Rb,Rc,Rd,Re,Rf,Rg,Rh,Ri,Rj,Rk,Rm,Rn,Ro,Rp,Rq,Rs,Rt,Ya,Yb,Yc,Ru,Rw,Zb,Yd,Ye,Ry,Rz,Wa,Wb,Wc,Wd,We]
   exact hK s4 0 o14 ⟨fun h=>(by cases h),fun h=>absurd h hlt⟩
theorem Xm        (hE : GoodN E) {s0 : AE}  {n0 m0 : Nat} (B : Nat) (hB : B ≤ 100000000) {Q : Ay   → Prop} {y0 y1 y2 : AV}
    (hq:∀S v x4 x5 x6,Af s0.next s0 S→Da S v (Au (Nat.gcd n0 m0))→Q ⟨.exit 0,[y0,y1,y2,v,x4,x5,x6],[],S⟩):
    ∀ (m n:Nat) (S:AE) (v w x5 x6:AV),Nat.gcd n m=Nat.gcd n0 m0→(Au n).length≤B→(Au m).length≤B→Af s0.next s0 S→Da S v (Au n)→Da S w (Au m)→WC E none (.loop Q5) Q [y0,y1,y2,v,w,x5,x6] [] S:=by
  intro m
  induction m using Nat.strongRecOn with
  | _ m ih =>
    intro n S v w x5 x6 hg hn hm ho hv hw
    have hw0:=hw
    obtain⟨aw,cw,rfl,_⟩:=hw
    refine WC.loop' ?_
    generalize hW:WC E none (Aa.loop Q5) Q=WW
    by_cases h0:m=0
    · subst h0
      have d0:decide (((Au 0).length:Int) > 0)=false:=by rw[B8];rfl
      simp only[Q5,dY,AH Tryz.underlying124,Rz,d0,Qa,Qb,Qc,Qd,Qe,Qf,Qg,Qh,Qi,Qj,Qk,Ql,Qm,Qo,true_and,and_true,Qp,Qq,Qr,Qs,Qt,Qu,Qv,Qw,Qx,Qy,Qz,Ra,Rb,Rc,Rd,Re,Rf,Rg,Rh,Ri,Rj,Rk,Rm,Rn,Ro,Rp,Rq,Rs,Rt,Ya,Yb,Yc,Ru,Rw,Zb,Yd,Ye,Ry,Rz,Wa,Wb,Wc,Wd,We]
      rw[Nat.gcd_zero_right]at hg
      rw[hg]at hv
      exact hq S v _ _ _ ho hv
    · have d0:decide (((Au m).length:Int) > 0)=true:=decide_eq_true (by
        have:=List.length_pos_iff.2 (Ir h0)
        omega)
      simp only[Q5,dY,nf,AH Tryz.underlying124,Rz,d0,Qa,Qb,Qc,Qd,Qe,Qf,Qg,Qh,Qi,Qj,Qk,Ql,Qm,Qo,true_and,and_true,Qp,Qq,Qr,Qs,Qt,Qu,Qv,Qw,Qx,Qy,Qz,Ra,Rb,Rc,Rd,Re,Rf,Rg,Rh,Ri,Rj,Rk,Rm,Rn,Ro,Rp,Rq,Rs,Rt,Ya,Yb,Yc,Ru,Rw,Zb,Yd,Ye,Ry,Rz,Wa,Wb,Wc,Wd,We]
      refine WM hE hv hw0 (by omega) (by omega) (by rw[BH];exact h0) fun S' q r o' hq' hr'=>?_
      rw[BH,BH]at hr'
      simp only[nh,ni,Qa,Qb,Qc,Qd,Qe,Qf,Qg,Qh,Qi,Qj,Qk,Ql,Qm,Qo,true_and,and_true,Qp,Qq,Qr,Qs,Qt,Qu,Qv,Qw,Qx,Qy,Qz,Ra,Rb,Rc,Rd,Re,Rf,Rg,Rh,Ri,Rj,Rk,Rm,Rn,Ro,Rp,Rq,Rs,Rt,Ya,Yb,Yc,Ru,Rw,Zb,Yd,Ye,Ry,Rz,Wa,Wb,Wc,Wd,We]
      rw[← hW]
      have hlt:n % m<m:=yP _ (by omega)
      refine ih (n % m) hlt m S' _ r _ _ ?_ hm ?_ (ho.trans (o'.mono ho.1)) (hw0.old o') hr'
      · rw[← hg,zv m (n % m),← Nat.gcd_rec,zv]
      · refine xh (FI (k:=(Au m).length) ?_) hm
        have h1:=Ec (Au m)
        rw[BH]at h1
        omega
theorem WJ(hE:GoodN E){va vb:AV}{la lb:List Nat}(ha:Bo s va la)(hb:Bo s vb lb)(hsa:Be la)(hsb:Be lb)(hla:la.length≤3000000)(hlb:lb.length≤3000000){K:AV→AE→Prop}(hK:∀s' w,Af s.next s s'→Bo s' w (AJ (Nat.gcd (AG la) (AG lb)))→K w s'):WF E 57 [va,vb] K s:=by
  refine hE.go sQ (by decide) rfl ?_
  have q1:=B3 (Cj hsa hla)
  have q2:=B3 (Cj hsb hlb)
  simp only[xA,nZ,ne,Qa,Qb,Qc,Qd,Qe,Qf,Qg,Qh,Qi,Qj,Qk,Ql,Qm,Qo,true_and,and_true,Qp,Qq,Qr,Qs,Qt,Qu,Qv,Qw,Qx,Qy,Qz,Ra,Rb,Rc,Rd,Re,Rf,Rg,Rh,Ri,Rj,Rk,Rm,Rn,Ro,Rp,Rq,Rs,Rt,Ya,Yb,Yc,Ru,Rw,Zb,Yd,Ye,Ry,Rz,Wa,Wb,Wc,Wd,We]
  refine CZ hE ha hsa (by omega) fun s1 w1 o1 h1=>?_
  simp only[Qa,Qb,Qc,Qd,Qe,Qf,Qg,Qh,Qi,Qj,Qk,Ql,Qm,Qo,true_and,and_true,Qp,Qq,Qr,Qs,Qt,Qu,Qv,Qw,Qx,Qy,Qz,Ra,Rb,Rc,Rd,Re,Rf,Rg,Rh,Ri,Rj,Rk,Rm,Rn,Ro,Rp,Rq,Rs,Rt,Ya,Yb,Yc,Ru,Rw,Zb,Yd,Ye,Ry,Rz,Wa,Wb,Wc,Wd,We]
  refine CZ hE (hb.old o1) hsb (by omega) fun s2 w2 o2 h2=>?_
  simp only[Qa,Qb,Qc,Qd,Qe,Qf,Qg,Qh,Qi,Qj,Qk,Ql,Qm,Qo,true_and,and_true,Qp,Qq,Qr,Qs,Qt,Qu,Qv,Qw,Qx,Qy,Qz,Ra,Rb,Rc,Rd,Re,Rf,Rg,Rh,Ri,Rj,Rk,Rm,Rn,Ro,Rp,Rq,Rs,Rt,Ya,Yb,Yc,Ru,Rw,Zb,Yd,Ye,Ry,Rz,Wa,Wb,Wc,Wd,We]
  have o12:=o1.trans (o2.mono o1.1)
  refine Xm hE (s0:=s2) (n0:=AG la) (m0:=AG lb) 100000000 (by decide) (fun S v x4 x5 x6 ho hv=>?_) (AG lb) (AG la) s2 _ _ _ _ rfl (by omega) (by omega) (Af.refl _ _) (h1.old o2) h2
  have q3:(Au (Nat.gcd (AG la) (AG lb))).length≤1000000000:=by
    by_cases h0:AG la=0
    · rw[h0,Nat.gcd_zero_left];omega
    · have := Nat.gcd_le_left (AG   lb) (A0M                h0)
      have:=B3 (n:=Nat.gcd (AG la) (AG lb)) (k:=la.length) (yM this (Cj hsa (xZ _)))
      omega
  simp only[nj,if_true,Qa,Qb,Qc,Qd,Qe,Qf,Qg,Qh,Qi,Qj,Qk,Ql,Qm,Qo,true_and,and_true,Qp,Qq,Qr,Qs,Qt,Qu,Qv,Qw,Qx,Qy,Qz,Ra,Rb,Rc,Rd,Re,Rf,Rg,Rh,Ri,Rj,Rk,Rm,Rn,Ro,Rp,Rq,Rs,Rt,Ya,Yb,Yc,Ru,Rw,Zb,Yd,Ye,Ry,Rz,Wa,Wb,Wc,Wd,We]
  refine Fy hE hv q3 fun s4 w4 o4 h4=>?_
  rw[BH]at h4
  simp only[Qa,Qb,Qc,Qd,Qe,Qf,Qg,Qh,Qi,Qj,Qk,Ql,Qm,Qo,true_and,and_true,Qp,Qq,Qr,Qs,Qt,Qu,Qv,Qw,Qx,Qy,Qz,Ra,Rb,Rc,Rd,Re,Rf,Rg,Rh,Ri,Rj,Rk,Rm,Rn,Ro,Rp,Rq,Rs,Rt,Ya,Yb,Yc,Ru,Rw,Zb,Yd,Ye,Ry,Rz,Wa,Wb,Wc,Wd,We]
  have o1S:=o12.trans (ho.mono o12.1)
  exact hK s4 w4 (o1S.trans (o4.mono o1S.1)) h4
end
def BC(s:AE)(v:AV)(z:Int):Prop:=∃m,v=.agg [.bool (decide (z<0)),m]∧Bo s m (AJ z.natAbs)
theorem BC.old{s s':AE}{v:AV}{z:Int}(h:BC s v z)(o:Af s.next s s'):BC s' v z:=by
 obtain⟨m,h1,h2⟩:=h
 exact⟨m,h1,h2.old o⟩
theorem BC.bi{s:AE}{v:AV}{z:Int}{k:Nat}(h:BC s v z)(hz:z.natAbs<LB ^ k):BI s v z k:=by
 obtain⟨m,h1,h2⟩:=h
 exact⟨_,m,_,h1,h2,AK _,Ai hz,by rw[AR,Fu]⟩
theorem BI.mk{s:AE}{neg:Bool}{m:AV}{n k:Nat}(h:Bo s m (AJ n))(hk:n<LB ^ k):BI s (.agg [.bool neg,m]) (Bx neg n) k:=⟨neg,m,_,rfl,h,AK _,Ai hk,by rw[AR]⟩
def Kd:AV→Bool
 | .int _ _=>false
 | _=>true
theorem Bo.box  {s : AE}  {v : AV} {l : List Nat} {p e : Nat} {sp : Bool} {cs : List AV} {o : BD}   (h : Bo  s v l) (hg : s.heap.get p = some (R e 0 sp cs)) (hc : cs.all Kd    = true) : Bo  (setObj s p o) v l := by
  obtain⟨a,cap,rfl,h2,h3⟩:=h
  refine⟨a,cap,rfl,?_,fun k u hu=>?_⟩
  · rcases h2 with h2 | ⟨g1, i, o', r, rfl, g3, g4, g5, g6⟩
    · exact .inl h2
    · refine .inr ⟨g1, i, o', r, rfl, g3, ?_, g5, g6⟩
      rw[Wx _ (by
        rintro rfl
        rw[hg]at g4
        injection g4 with g4
        injection g4 with g4
        rw[← g4]at g5
        cases g5)]
      exact g4
  · obtain⟨i,o',rfl,g2,g3⟩:=h3 k u hu
    refine⟨i,o',rfl,g2,?_⟩
    have hne:i≠p:=by
      rintro rfl
      rw[E2,hg,Wo]at g3
      have h5:=List.all_eq_true.1 hc u (yG g3)
      have h6:u∈us l:=yG hu
      obtain⟨x,_,rfl⟩:=List.mem_map.1 h6
      cases h5
    rw[B6 (Wx _ hne)]
    exact g3
theorem BC.box{s:AE}{v:AV}{z:Int}{p e:Nat}{sp:Bool}{cs:List AV}{o:BD}(h:BC s v z)(hg:s.heap.get p=some (R e 0 sp cs))(hc:cs.all Kd=true):BC (setObj s p o) v z:=by
 obtain⟨m,h1,h2⟩:=h
 exact⟨m,h1,h2.box hg hc⟩
theorem BC.shape{s:AE}{v:AV}{z:Int}(h:BC s v z):∃a n c,v=.agg [.bool (decide (z<0)),.slice a n c]:=by
 obtain⟨m,rfl,h2⟩:=h
 obtain⟨a,n,c,rfl⟩:=h2.shape
 exact⟨_,_,_,rfl⟩
section
variable{E:CU}{s:AE}
theorem MA(hE:GoodN E){v:AV}{z:Int}{k:Nat}(hv:BI s v z k)(hk:k≤3000000){K:AV→AE→Prop}(hK:∀s' w,Af s.next s s'→BC s' w z→(∀x m j,w=.agg [x,m]→By m=some j→s.next≤j∧j<s'.next)→K w s'):WF E 122 [v] K s:=by
 obtain⟨neg,m,l,rfl,hm,hs,hl,rfl⟩:=hv
 obtain⟨a,n,c,rfl⟩:=hm.shape
 refine hE.go jD (by decide) rfl ?_
 obtain⟨n1,o1,g1,g2⟩:=EO s (BX neg (.slice a n c)) ZI
 simp only[uQ,Zd,Ze,Xa,Xh,Dc,Xc,Aq,CR,Qa,Qb,Qc,Qd,Qf,Qh,Qj,Qk,Ql,Qm,Qo,true_and,Qp,Qq,Qr,Qs,Qt,Qv,Rb,Rh,Rj]
 generalize newObj (newObj s (BX neg (.slice a n c))) ZI=s1 at *
 have l2:=AI (P:=Tryz.prog) (t:=22) (o:=0+1) CA g1 rfl
 simp only[l2,Qm]
 refine N6 hE (hm.old o1) hs (by omega) fun s2 v2 o2 r2 b2=>?_
 have g3:=(o2.2 (s.next+1) (by omega)).trans g2
 have l1:=AI (P:=Tryz.prog) (t:=4) (o:=0+0) Gp ((o2.2 s.next (by omega)).trans g1) rfl
 have r2':=r2
 obtain⟨a2,c2,e2,_⟩:=r2'
 have hz:=V4 neg (AG l)
 rw[← Ff]at hz
 have o12:=o1.trans (o2.mono o1.1)
 have fin:∀x,x=decide (Bx neg (AG l)<0)→K (.agg [.bool x,v2]) (setObj s2 (s.next+1) (R 24 0 false [.bool x,v2])):=fun x hx=>by
  subst hx
  refine hK _ _ (o12.set (by omega) _) ⟨v2,rfl,?_⟩ fun x m j e hj=>by
   injection e with e
   injection e with _ e
   injection e with e _
   subst e
   have:=b2 j hj
   refine⟨by omega,?_⟩
   show j<s2.next
   omega
  rw[CO]
  exact r2.box g3 rfl
 have st:∀x,AS Tryz.prog s2 24 (.ptr (some (s.next+1,0))) (.agg [.bool x,.slice a2 (AJ (AG l)).length c2])=some (setObj s2 (s.next+1) (R 24 0 false [.bool x,.slice a2 (AJ (AG l)).length c2])):=fun x=>Ak CS g3 rfl rfl rfl (by simp)
 have ld:∀x,AC Tryz.prog (setObj s2 (s.next+1) (R 24 0 false [.bool x,.slice a2 (AJ (AG l)).length c2])) 24 (.ptr (some (s.next+1,0)))=some (.agg [.bool x,.slice a2 (AJ (AG l)).length c2]):=fun x=>AT Db CS (Ww _ _ _) rfl
 subst e2
 cases neg with
 | true =>
  rw[Bool.true_and]at hz
  simp only[TX,l1,Cd,AH Tryz.underlying22,Rz,Ru,Dm,st,ld,AQ,Xy,Za,Qb,Qc,Qd,Qf,Qg,Qh,Qi,Qj,Qk,Qm,Qo,true_and,Qp,Qq,Qr,Qs,Qt,Qv,Qw,Qx,Rk,Rn,Rs,Yc,Ru,Rw,Rz]
  exact fin _ hz.symm
 | false =>
  rw[Bool.false_and]at hz
  simp only[TX,l1,Cd,Ru,Dm,st,ld,AQ,Xy,Za,Qb,Qc,Qd,Qf,Qg,Qh,Qi,Qj,Qk,Qm,Qo,true_and,Qp,Qq,Qr,Qs,Qt,Qu,Qv,Qw,Qx,Rk,Rn,Rs,Yc,Ru,Rw]
  exact fin _ hz.symm
theorem E9(hE:GoodN E){v:AV}{z:Int}{k:Nat}(hv:BI s v z k)(hk:k≤3000000){K:AV→AE→Prop}(hK:∀s' w,Af s.next s s'→BC s' w z→K w s'):WF E 122 [v] K s:=MA hE hv hk fun s' w o h _=>hK s' w o h
theorem Fq(hE:GoodN E){va vb:AV}{x y:Int}{ka kb:Nat}(ha:BI s va x ka)(hb:BI s vb y kb)(hk:ka+kb≤3000000){K:AV→AE→Prop}(hK:∀s' w,Af s.next s s'→BC s' w (x * y)→K w s'):WF E 82 [va,vb] K s:=by
 obtain⟨na,ma,la,rfl,hma,hsa,hla,rfl⟩:=ha
 obtain⟨nb,mb,lb,rfl,hmb,hsb,hlb,rfl⟩:=hb
 obtain⟨aa,an,ac,rfl⟩:=hma.shape
 obtain⟨ba,bn,bc,rfl⟩:=hmb.shape
 refine hE.go sj (by decide) rfl ?_
 obtain⟨n1,o1,g1,g2,g3⟩:=J5 s (BX na (.slice aa an ac)) (BX nb (.slice ba bn bc)) ZI
 simp only[xP,pS,pT,Xa,Xh,Dc,Xc,Aq,Cd,CR,Qa,Qb,Qc,Qd,Qf,Qh,Qj,Qk,Ql,Qm,Qo,true_and,Qp,Qq,Qr,Qs,Qt,Qv,Rb,Rh,Rj]
 generalize newObj (newObj (newObj s (BX na (.slice aa an ac))) (BX nb (.slice ba bn bc))) ZI=s1 at *
 have l1:=AI (P:=Tryz.prog) (t:=4) (o:=0+0) Gp g1 rfl
 have l2:=AI (P:=Tryz.prog) (t:=22) (o:=0+1) CA g1 rfl
 have l3:=AI (P:=Tryz.prog) (t:=4) (o:=0+0) Gp g2 rfl
 have l4:=AI (P:=Tryz.prog) (t:=22) (o:=0+1) CA g2 rfl
 simp only[l1,l2,l3,l4,Ef,Qm]
 refine WK hE (hma.old o1) (hmb.old o1) hsa hsb (by omega) (by omega) fun s2 v2 o2 r2=>?_
 have f1:=(o2.2 s.next (by omega)).trans g1
 have f2:=(o2.2 (s.next+1) (by omega)).trans g2
 have f3:=(o2.2 (s.next+1+1) (by omega)).trans g3
 refine⟨⟨As (by simp only[Qk,Qr,Qs];exact AI (o:=0+0) Gp f2 rfl) (Ed _),As (by simp only[Qk,Qr,Qs];exact AI (o:=0+0) Gp f1 rfl) (Ed _),trivial⟩,?_⟩
 have hbi:BI s2 (.agg [.bool (na != nb),v2]) (Bx na (AG la) * Bx nb (AG lb)) (ka+kb):=by
  rw[← RZ]
  exact BI.mk r2 (Bq (DX hsa hla) (DX hsb hlb))
 obtain⟨am,nm,cm,rfl⟩:=r2.shape
 simp only[Dm,Qm,Qr,Qs]
 refine E9 hE hbi hk fun s3 v3 o3 r3=>?_
 have q3:=(o3.2 (s.next+1+1) (by have:=o2.1;omega)).trans f3
 obtain⟨a3,n3,c3,rfl⟩:=r3.shape
 obtain⟨st,ld⟩:=D6 (s1:=s) (x:=decide (Bx na (AG la) * Bx nb (AG lb)<0)) (a:=a3) (n:=n3) (c:=c3) q3
 simp only[st,ld,AQ,Xy,Za,Qd,Qj,Qm,Qo,true_and,Qr,Qs,Rk,Rn,Yc]
 have h2:=o2.1
 exact hK _ _ ((o1.trans ((o2.trans (o3.mono h2)).mono o1.1)).set (by omega) _) (r3.box q3 rfl)
theorem Mn(hE:GoodN E){s0 s2:AE}{p k:Nat}{neg:Bool}{v2:AV}{n:Nat}{z:Int}(hp:s0.next≤p)(o2:Af s0.next s0 s2)(hp2:p<s2.next)(hg:s2.heap.get p=some ZI)(hv:Bo s2 v2 (AJ n))(hn:n<LB ^ k)(hk:k≤3000000)(hz:Bx neg n=z){K K2:AV→AE→Prop}(hK:∀s' w,Af s0.next s0 s'→BC s' w z→K w s')
  (hK2:∀s3 a3 n3 c3,AS Tryz.prog s3 24 (.ptr (some (p,0))) (.agg [.bool (decide (z<0)),.slice a3 n3 c3])=some (setObj s3 p (BX (decide (z<0)) (.slice a3 n3 c3)))→AC Tryz.prog (setObj s3 p (BX (decide (z<0)) (.slice a3 n3 c3))) 24 (.ptr (some (p,0)))=some (.agg [.bool (decide (z<0)),.slice a3 n3 c3])→K (.agg [.bool (decide (z<0)),.slice a3 n3 c3]) (setObj s3 p (BX (decide (z<0)) (.slice a3 n3 c3)))→K2 (.agg [.bool (decide (z<0)),.slice a3 n3 c3]) s3):WF E 122 [.agg [.bool neg,v2]] K2 s2:=by
 subst hz
 refine E9 hE (BI.mk hv hn) hk fun s3 v3 o3 r3=>?_
 have q3:=(o3.2 p hp2).trans hg
 obtain⟨a3,n3,c3,rfl⟩:=r3.shape
 obtain⟨st,ld⟩:=D6 (s1:=s0) (x:=decide (Bx neg n<0)) (a:=a3) (n:=n3) (c:=c3) q3
 exact hK2 _ _ _ _ st ld (hK _ _ ((o2.trans (o3.mono o2.1)).set hp _) (r3.box q3 rfl))
theorem fN(hE:GoodN E){va vb:AV}{x y:Int}{ka kb:Nat}(ha:BI s va x ka)(hb:BI s vb y kb)(hk:ka+kb+1≤3000000){K:AV→AE→Prop}(hK:∀s' w,Af s.next s s'→BC s' w (x+y)→K w s'):WF E 81 [va,vb] K s:=by
 have xb:=ha.abs
 have yb:=hb.abs
 have xk:x.natAbs<LB ^ (ka+kb):=DB xb (by omega)
 have yk:y.natAbs<LB ^ (ka+kb):=DB yb (by omega)
 obtain⟨na,aa,an,ac,rfl⟩:=ha.shape
 obtain⟨nb,ba,bn,bc,rfl⟩:=hb.shape
 refine hE.go si (by decide) rfl ?_
 obtain⟨n1,o1,g1,g2,g3⟩:=J5 s (BX na (.slice aa an ac)) (BX nb (.slice ba bn bc)) ZI
 simp only[xO,pF,pG,Xa,Xh,Dc,Xc,Aq,Qa,Qb,Qc,Qd,Qf,Qh,Qj,Qk,Ql,Qm,Qo,true_and,Qp,Qq,Qr,Qs,Qt,Qv,Rb,Rc,Rh]
 generalize newObj (newObj (newObj s (BX na (.slice aa an ac))) (BX nb (.slice ba bn bc))) ZI=s1 at *
 have l1:=AT (P:=Tryz.prog) (t:=24) Db CS g1 rfl
 simp only[l1,Qm]
 refine E9 hE (ha.old o1) (by omega) fun s2 v2 o2 r2=>?_
 have h2:=o2.1
 have f1:=(o2.2 s.next (by omega)).trans g1
 have f2:=(o2.2 (s.next+1) (by omega)).trans g2
 have f3:=(o2.2 (s.next+1+1) (by omega)).trans g3
 obtain⟨a2,n2,c2,rfl⟩:=r2.shape
 have st:=Ak (P:=Tryz.prog) (t:=24) (cs:=[.bool (decide (x<0)),.slice a2 n2 c2]) CS f1 rfl rfl rfl (by simp)
 generalize hs3:setObj s2 s.next (R 24 0 false [.bool (decide (x<0)),.slice a2 n2 c2])=s3 at st
 have n3:s3.next=s2.next:=by rw[← hs3];rfl
 have o3:Af s.next s s3:=by rw[← hs3];exact(o1.trans (o2.mono o1.1)).set (xZ _) _
 have k1:s3.heap.get s.next=some (BX (decide (x<0)) (.slice a2 n2 c2)):=by rw[← hs3,Ww]
 have k2:s3.heap.get (s.next+1)=some (BX nb (.slice ba bn bc)):=by rw[← hs3,Wx _ (by omega)];exact f2
 have k3:s3.heap.get (s.next+1+1)=some ZI:=by rw[← hs3,Wx _ (by omega)];exact f3
 have w2:BC s3 (.agg [.bool (decide (x<0)),.slice a2 n2 c2]) x:=by rw[← hs3];exact r2.box f1 rfl
 have l2:=AT (P:=Tryz.prog) (t:=24) Db CS k2 rfl
 simp only[pH,st,l2,Xy,Za,Qb,Qc,Qd,Qf,Qh,Qj,Qk,Qm,Qo,true_and,Qr,Qs,Qt,Qv]
 refine E9 hE (hb.old o3) (by omega) fun s4 v4 o4 r4=>?_
 have h4:=o4.1
 have m1:=(o4.2 s.next (by omega)).trans k1
 have m2:=(o4.2 (s.next+1) (by omega)).trans k2
 have m3:=(o4.2 (s.next+1+1) (by omega)).trans k3
 have w4:=w2.old o4
 obtain⟨a4,n4,c4,rfl⟩:=r4.shape
 have st:=Ak (P:=Tryz.prog) (t:=24) (cs:=[.bool (decide (y<0)),.slice a4 n4 c4]) CS m2 rfl rfl rfl (by simp)
 generalize hs5:setObj s4 (s.next+1) (R 24 0 false [.bool (decide (y<0)),.slice a4 n4 c4])=s5 at st
 have n5:s5.next=s4.next:=by rw[← hs5];rfl
 have o5:Af s.next s s5:=by rw[← hs5];exact(o3.trans (o4.mono o3.1)).set (by omega) _
 have p1:s5.heap.get s.next=some (BX (decide (x<0)) (.slice a2 n2 c2)):=by rw[← hs5,Wx _ (by omega)];exact m1
 have p2:s5.heap.get (s.next+1)=some (BX (decide (y<0)) (.slice a4 n4 c4)):=by rw[← hs5,Ww]
 have p3:s5.heap.get (s.next+1+1)=some ZI:=by rw[← hs5,Wx _ (by omega)];exact m3
 have wx:BC s5 (.agg [.bool (decide (x<0)),.slice a2 n2 c2]) x:=by rw[← hs5];exact w4.box m2 rfl
 have wy:BC s5 (.agg [.bool (decide (y<0)),.slice a4 n4 c4]) y:=by rw[← hs5];exact r4.box m2 rfl
 have hx:Bo s5 (.slice a2 n2 c2) (AJ x.natAbs):=by
  obtain⟨m',e',h'⟩:=wx
  injection e' with e'
  injection e' with _ e'
  injection e' with e' _
  rw[e'];exact h'
 have hy:Bo s5 (.slice a4 n4 c4) (AJ y.natAbs):=by
  obtain⟨m',e',h'⟩:=wy
  injection e' with e'
  injection e' with _ e'
  injection e' with e' _
  rw[e'];exact h'
 have lx:=Ai xk
 have ly:=Ai yk
 have l3:=AI (P:=Tryz.prog) (t:=4) (o:=0+0) Gp p1 rfl
 have l4:=AI (P:=Tryz.prog) (t:=22) (o:=0+1) CA p1 rfl
 have l5:=AI (P:=Tryz.prog) (t:=4) (o:=0+0) Gp p2 rfl
 have l6:=AI (P:=Tryz.prog) (t:=22) (o:=0+1) CA p2 rfl
 simp only[pI,st,l3,l5,Cd,I3,Qb,Qc,Qd,Qf,Qh,Qj,Qk,Qm,Qo,true_and,Qp,Qq,Qr,Qs,Qt,Qv]
 by_cases hs:decide (x<0)=decide (y<0)
 ·simp only[hs,beq_self_eq_true,Qm,Qz,Rj]
  rw[hs]at l3
  simp only[pK,l3,l4,l6,Cd,CR,Qb,Qc,Qd,Qf,Qh,Qj,Qk,Qm,Qo,true_and,Qr,Qs,Qt,Qv]
  refine j5 hE hx hy (AK _) (AK _) (by omega) (by omega) fun s6 v6 o6 r6=>?_
  have h6:=o6.1
  rw[AR,AR]at r6
  have q1:=(o6.2 s.next (by omega)).trans p1
  rw[hs]at q1
  refine⟨⟨As (by simp only[Qk,Qr,Qs];exact AI (o:=0+0) Gp q1 rfl) (Ed _),trivial⟩,?_⟩
  obtain⟨am,nm,cm,rfl⟩:=r6.shape
  simp only[Dm,Qm,Qr,Qs]
  refine Mn (k:=ka+kb+1) hE (s0:=s) (p:=s.next+1+1) (z:=x+y) (by omega) (o5.trans (o6.mono o5.1)) (by omega) ((o6.2 _ (by omega)).trans p3) r6 (FO xk yk) hk (by rw[← hs];exact St hs) hK fun s7 a7 n7 c7 st ld hend=>?_
  simp only[st,ld,AQ,Xy,Za,Qd,Qj,Qm,Qo,true_and,Qr,Qs,Rk,Rn,Yc]
  exact hend
 ·have hs':(decide (x<0) == decide (y<0))=false:=by simpa using hs
  simp only[hs',pM,l4,l6,CR,Qb,Qc,Qd,Qf,Qh,Qi,Qj,Qk,Qm,Qo,true_and,Qr,Qs,Qt,Qv,Ra]
  refine j6 hE hx hy (AK _) (AK _) (by omega) (by omega) fun s6 z6 o6 hz6=>?_
  have h6:=o6.1
  rw[AR,AR]at hz6
  have q1:=(o6.2 s.next (by omega)).trans p1
  have q2:=(o6.2 (s.next+1) (by omega)).trans p2
  have q3:=(o6.2 (s.next+1+1) (by omega)).trans p3
  have l3:=AI (P:=Tryz.prog) (t:=4) (o:=0+0) Gp q1 rfl
  have l4:=AI (P:=Tryz.prog) (t:=22) (o:=0+1) CA q1 rfl
  have l6:=AI (P:=Tryz.prog) (t:=22) (o:=0+1) CA q2 rfl
  have o56:=o5.trans (o6.mono o5.1)
  by_cases hlt:x.natAbs<y.natAbs
  ·simp only[Ry,decide_eq_true (hz6.2 hlt),pN,l4,l6,CR,Qb,Qc,Qd,Qf,Qh,Qj,Qk,Qm,Qo,true_and,Qp,Qq,Qr,Qs,Qt,Qv,Qz,Rj,Zb,Ry]
   refine WL hE (hy.old o6) (hx.old o6) (AK _) (AK _) (by omega) (by omega) (by rw[AR,AR];omega) fun s7 v7 o7 r7=>?_
   have h7:=o7.1
   rw[AR,AR]at r7
   have l5:=AI (P:=Tryz.prog) (t:=4) (o:=0+0) Gp ((o7.2 (s.next+1) (by omega)).trans q2) rfl
   obtain⟨am,nm,cm,rfl⟩:=r7.shape
   simp only[pO,l5,Cd,Dm,Qb,Qc,Qd,Qf,Qh,Qj,Qk,Qm,Qo,true_and,Qp,Qq,Qr,Qs,Qt,Qv,Yd,Ye]
   refine Mn (k:=ka+kb) hE (s0:=s) (p:=s.next+1+1) (z:=x+y) (by omega) (o56.trans (o7.mono o56.1)) (by omega) ((o7.2 _ (by omega)).trans q3) r7 (by omega) (by omega) (by rw[Int.add_comm];exact JX (fun e=>hs e.symm) (by omega)) hK fun s8 a8 n8 c8 st ld hend=>?_
   simp only[st,ld,AQ,Xy,Za,Qd,Qj,Qm,Qo,true_and,Qr,Qs,Rk,Rn,Yc]
   exact hend
  ·simp only[Ry,decide_eq_false (fun h=>hlt (hz6.1 h)),pP,l4,l6,CR,Qb,Qc,Qd,Qf,Qh,Qj,Qk,Qm,Qo,true_and,Qp,Qq,Qr,Qs,Qt,Qv,Ra,Rj,Zb,Ry]
   refine WL hE (hx.old o6) (hy.old o6) (AK _) (AK _) (by omega) (by omega) (by rw[AR,AR];omega) fun s7 v7 o7 r7=>?_
   have h7:=o7.1
   rw[AR,AR]at r7
   have l5:=AI (P:=Tryz.prog) (t:=4) (o:=0+0) Gp ((o7.2 s.next (by omega)).trans q1) rfl
   obtain⟨am,nm,cm,rfl⟩:=r7.shape
   simp only[pR,l5,Cd,Dm,Qb,Qc,Qd,Qf,Qh,Qj,Qk,Qm,Qo,true_and,Qp,Qq,Qr,Qs,Qt,Qv,Yd,Ye]
   refine Mn (k:=ka+kb) hE (s0:=s) (p:=s.next+1+1) (z:=x+y) (by omega) (o56.trans (o7.mono o56.1)) (by omega) ((o7.2 _ (by omega)).trans q3) r7 (by omega) (by omega) (JX hs (by omega)) hK fun s8 a8 n8 c8 st ld hend=>?_
   simp only[st,ld,AQ,Xy,Za,Qd,Qj,Qm,Qo,true_and,Qr,Qs,Rk,Rn,Yc]
   exact hend
end
abbrev TD:=Bool×List Nat×List Nat
def QX(s:AE)(v:AV)(x:TD):Prop:=∃m d,v=.agg [.bool x.1,m,d]∧Bo s m x.2.1∧Bo s d x.2.2∧x.2.1.length≤1000000000∧x.2.2.length≤1000000000
theorem QX.keep{s s':AE}{v:AV}{x:TD}(h:QX s v x)(hn:s.next≤s'.next)(hf:∀j,j∈Dd v→j<s.next→s'.heap.get j=s.heap.get j):QX s' v x:=by
 obtain⟨m,d,rfl,h1,h2,h3⟩:=h
 exact⟨m,d,rfl,h1.keep hn fun j hj hl=>hf j ((CW rfl).2 (.inl hj)) hl,h2.keep hn fun j hj hl=>hf j ((CW rfl).2 (.inr hj)) hl,h3⟩
theorem QX.old{s s':AE}{v:AV}{x:TD}(h:QX s v x)(o:Af s.next s s'):QX s' v x:=h.keep o.1 fun j _ hj=>o.2 j hj
def LX(s:AE)(v:AV)(X:TD)(vs:List Int)(Q:List TD):Prop:=∃a n c b m d av cv ac cc cells,
 v=.agg [.bool X.1,.slice a n c,.slice b m d,.slice av vs.length cv,.slice ac Q.length cc]∧QX s (.agg [.bool X.1,.slice a n c,.slice b m d]) X∧AU s.next s av (vs.map iv)∧cells.length=Q.length * 3∧AU s.next s ac cells ∧
  ∀ (i:Nat) (x:TD),Q[i]? = some x→QX s (.agg ((cells.drop (i * 3)).take 3)) x
theorem LX.old{s s':AE}{v:AV}{X:TD}{vs:List Int}{Q:List TD}(h:LX s v X vs Q)(o:Af s.next s s'):LX s' v X vs Q:=by
 obtain⟨a,n,c,b,m,d,av,cv,ac,cc,cells,h1,h2,h3,h4,h5,h6⟩:=h
 exact⟨a,n,c,b,m,d,av,cv,ac,cc,cells,h1,h2.old o,(h3.old o (xZ _)).mono o.1,h4,(h5.old o (xZ _)).mono o.1,fun i x hi=>(h6 i x hi).old o⟩
theorem vO(P:Program)(t:TypeId)(k:IntKind)(a:Nat):AL P .neq t (.int k (a:Int)) (.int k (a:Int))=some (.bool false):=by
 have:∀k,B7 k k=true:=fun k=>by cases k<;>rfl
 show AP (B7 k k) (some (AV.bool (!NF (a:Int) (a:Int))))=_
 rw[this,Em]
 simp[AP]
theorem R9{s:AE}{ac:Option (Nat×Nat)}{cells:List AV}(h:AU s.next s ac cells){i n:Nat}(hl:cells.length=n * 3)(hi:i<n):∃i0 o,ac=some (i0,o)∧i0<s.next∧AC Tryz.prog s 26 (.ptr (some (i0,o+i * 3)))=some (.agg ((cells.drop (i * 3)).take 3)):=by
 have h3:((cells.drop (i * 3)).take 3).length=3:=by rw[xz,yL];omega
 have hget:∀j,j<3→((cells.drop (i * 3)).take 3)[j]? = cells[i * 3+j]? := fun j hj=>by rw[yy hj,yn]
 have h0:cells[i * 3]? = some cells[i * 3]:=xe (by omega)
 obtain⟨i0,o,rfl,hlt,_⟩:=h (i * 3) _ h0
 refine⟨i0,o,rfl,hlt,?_⟩
 have:=JA (o:=s.heap.get i0) ((cells.drop (i * 3)).take 3) (o+i * 3) (fun j u hj=>by
  have hj3:j<3:=by
   rcases xf j 3 with h' | h'
   ·exact h'
   ·rw[xr (by omega)]at hj;cases hj
  rw[hget j hj3]at hj
  obtain⟨i',o',e,_,g⟩:=h _ u hj
  injection e with e
  injection e with e1 e2
  subst e1;subst e2
  rw[E2]at g
  rw[yR];exact g) (by intro e;rw[e]at h3;cases h3)
 rw[h3]at this
 rw[Wg Bt,A9,Option.bind_some,this]
 rfl
section
variable{E:CU}{s:AE}
theorem Sg{a b:Option (Nat×Nat)}{ca cb:Option Nat}{l:List Nat}(ha:AU s.next s a (us l))(hb:AU s.next s b (us l))(hl:l.length≤1000000000){Q:Ay→Prop}(y2 y4:AV)
  (hq:∀y3 y5 y6,Q ⟨.exit 0,[.slice a l.length ca,.slice b l.length cb,y2,y3,y4,y5,y6],[],s⟩):
  ∀ (r i:Nat) (x5 x6:AV),l.length - i=r→i≤l.length→WC E none (.loop Q3) Q [.slice a l.length ca,.slice b l.length cb,y2,iv (i:Int),y4,x5,x6] [] s:=by
 intro r
 induction r with
 | zero =>
  intro i x5 x6 hi hle
  have dd:decide ((i:Int)<(l.length:Int))=false:=decide_eq_false (by omega)
  refine WC.loop' ?_
  simp only[Q3,cV,AH Tryz.underlying22,Ry,dd,Qa,Qb,Qc,Qd,Qf,Qh,Qj,Qk,Qm,Qo,true_and,Qp,Qq,Qr,Qs,Qt,Qv,Ra,Rb,Rc,Rd,Re,Rf,Ry]
  exact hq _ _ _
 | succ r ih =>
  intro i x5 x6 hi hle
  have hlt:i<l.length:=by omega
  have dd:decide ((i:Int)<(l.length:Int))=true:=decide_eq_true (by omega)
  have e17:=Az Tryz.prog 3 (i:Int) 1 ⟨by omega,by omega⟩
  have e17':((i:Int)+1)=((i+1:Nat):Int):=by omega
  have hx:l[i]? = some l[i]:=xe hlt
  obtain⟨ia,oa,rfl,_,ga⟩:=ha i _ (DE hx)
  obtain⟨ib,ob,rfl,_,gb⟩:=hb i _ (DE hx)
  have ixa:=Ae (cap:=ca) (i:=ia) (o:=oa) Tryz.underlying22 Cx hlt
  have ixb:=Ae (cap:=cb) (i:=ib) (o:=ob) Tryz.underlying22 Cx hlt
  have la:AC Tryz.prog s 76 (.ptr (some (ia,oa+i * 1)))=some (Aw l[i]):=Bd Gq (by rw[xj];exact ga)
  have lb:AC Tryz.prog s 76 (.ptr (some (ib,ob+i * 1)))=some (Aw l[i]):=Bd Gq (by rw[xj];exact gb)
  have hne:AL Tryz.prog .neq 76 (Aw l[i]) (Aw l[i])=some (.bool false):=vO _ _ _ _
  refine WC.loop' ?_
  generalize hW:WC E none (Aa.loop Q3) Q=WW
  simp only[Q3,cV,mP,mQ,AH Tryz.underlying22,Ry,dd,ixa,ixb,la,lb,hne,e17,e17',Qa,Qb,Qc,Qd,Qf,Qh,Qi,Qj,Qk,Qm,Qo,true_and,Qp,Qq,Qr,Qs,Qt,Qv,Qz,Ra,Rb,Rc,Rd,Re,Rf,Ry]
  rw[← hW]
  exact ih (i+1) _ _ (by omega) (by omega)
theorem N9(hE:GoodN E){va vb:AV}{l:List Nat}(ha:Bo s va l)(hb:Bo s vb l)(hl:l.length≤1000000000){K:AV→AE→Prop}(hK:K (.bool true) s):WF E 40 [va,vb] K s:=by
 obtain⟨a,ca,rfl,_,hca⟩:=ha
 obtain⟨b,cb,rfl,_,hcb⟩:=hb
 refine hE.go sC (by decide) rfl ?_
 simp only[wg,mM,mN,mO,AH Tryz.underlying22,Wd,show decide ((l.length:Int)≠(l.length:Int))=false from by simp,Qa,Qb,Qc,Qd,Qf,Qh,Qi,Qj,Qk,Ql,Qm,Qo,true_and,Qp,Qq,Qr,Qs,Qt,Qv,Ra,Rb,Rc,Rh,Rk,Rm,Rn,Yc,Wd]
 refine Sg hca hcb hl _ _ (fun y3 y5 y6=>?_) l.length 0 _ _ rfl (xg _)
 simp only[mR,if_true,Qb,Qc,Qd,Qf,Qh,Qi,Qm,Qo,true_and,Qp,Qq,Qr,Qs,Qt,Qv,Rb,Rd,Rg,Rj]
 exact hK
theorem OA(hE:GoodN E){va vb:AV}{x:TD}(ha:QX s va x)(hb:QX s vb x){K:AV→AE→Prop}(hK:∀s',Af s.next s s'→K (.bool true) s'):WF E 12 [va,vb] K s:=by
 obtain⟨m,d,rfl,h1,h2,h3,h4⟩:=ha
 obtain⟨m',d',rfl,k1,k2,_,_⟩:=hb
 obtain⟨a1,n1,c1,rfl⟩:=h1.shape
 obtain⟨a2,n2,c2,rfl⟩:=h2.shape
 obtain⟨b1,m1,d1,rfl⟩:=k1.shape
 obtain⟨b2,m2,d2,rfl⟩:=k2.shape
 refine hE.go rT (by decide) rfl ?_
 obtain⟨n3,o1,g1,g2⟩:=EO s (BQ x.1 (.slice a1 n1 c1) (.slice a2 n2 c2)) (BQ x.1 (.slice b1 m1 d1) (.slice b2 m2 d2))
 simp only[wP,kX,Xa,Xh,Xc,Aq,Qa,Qb,Qc,Qd,Qf,Qh,Qi,Qj,Ql,Qm,Qo,true_and,Qp,Qq,Qr,Qs,Qt,Qv,Rb,Rh,Rj,Rk,Rm,Rn,Yc]
 generalize newObj (newObj s (BQ x.1 (.slice a1 n1 c1) (.slice a2 n2 c2))) (BQ x.1 (.slice b1 m1 d1) (.slice b2 m2 d2))=s1 at *
 have lx:=AI (P:=Tryz.prog) (t:=4) (o:=0+0+0) Gp g1 rfl
 have ly:=AI (P:=Tryz.prog) (t:=4) (o:=0+0+0) Gp g2 rfl
 have lm:=AI (P:=Tryz.prog) (t:=22) (o:=0+0+1) CA g1 rfl
 have lm':=AI (P:=Tryz.prog) (t:=22) (o:=0+0+1) CA g2 rfl
 have ld:=AI (P:=Tryz.prog) (t:=22) (o:=0+2) CA g1 rfl
 have ld':=AI (P:=Tryz.prog) (t:=22) (o:=0+2) CA g2 rfl
 simp only[kY,lx,ly,lm,lm',Dr,Cd,CR,I3,beq_self_eq_true,Qb,Qc,Qd,Qf,Qg,Qh,Qi,Qj,Qk,Qm,Qo,true_and,Qr,Qs,Qt,Qv,Qw,Qx,Rs,Ru,Rw]
 refine N9 hE (h1.old o1) (k1.old o1) h3 ?_
 simp only[ld,ld',G5,Qc,Qd,Qm,Qo,true_and,Qr,Qs,Qt,Qx,Rs]
 refine N9 hE (h2.old o1) (k2.old o1) h4 ?_
 simp only[Qd,Qm,Qo,true_and,Qp,Qq,Qr,Qs]
 exact hK s1 o1
theorem YM{pa pb:Nat}{A1 A2 B1 B2:AV}{x y:Bool}{av bv:Option (Nat×Nat)}{ca cb:Option Nat}{A5 B5:AV}{vs:List Int}(ga:s.heap.get pa=some (R 30 0 false [.bool x,A1,A2,.slice av vs.length ca,A5]))(gb:s.heap.get pb=some (R 30 0 false [.bool y,B1,B2,.slice bv vs.length cb,B5]))(ha:AU s.next s av (vs.map iv))(hb:AU s.next s bv (vs.map iv))(hl:vs.length≤1000000000){Q:Ay→Prop}{y0 y1 y4 y6 y7 y10 y11:AV}
  (hq:∀y5 y8 y9,Q ⟨.exit 0,[y0,y1,.ptr (some (pa,0)),.ptr (some (pb,0)),y4,y5,y6,y7,y8,y9,y10,y11],[],s⟩):
  ∀ (r i:Nat) (x8 x9:AV),vs.length - i=r→i≤vs.length→WC E none (.loop eP) Q [y0,y1,.ptr (some (pa,0)),.ptr (some (pb,0)),y4,iv (i:Int),y6,y7,x8,x9,y10,y11] [] s:=by
 have la:=AI (P:=Tryz.prog) (t:=27) (o:=0+3) Fc ga rfl
 have lb:=AI (P:=Tryz.prog) (t:=27) (o:=0+3) Fc gb rfl
 intro r
 induction r with
 | zero =>
  intro i x8 x9 hi hle
  have dd:decide ((i:Int)<(vs.length:Int))=false:=decide_eq_false (by omega)
  refine WC.loop' ?_
  simp only[eP,rR,la,Cz,AH Tryz.underlying27,Ry,dd,Qa,Qb,Qc,Qd,Qf,Qh,Qj,Qk,Qm,Qo,true_and,Qp,Qq,Qr,Qs,Qt,Qv,Ra,Rb,Rc,Rd,Re,Rf,Ry]
  exact hq _ _ _
 | succ r ih =>
  intro i x8 x9 hi hle
  have hlt:i<vs.length:=by omega
  have dd:decide ((i:Int)<(vs.length:Int))=true:=decide_eq_true (by omega)
  have e17:=Az Tryz.prog 3 (i:Int) 1 ⟨by omega,by omega⟩
  have e17':((i:Int)+1)=((i+1:Nat):Int):=by omega
  have hx:vs[i]? = some vs[i]:=xe hlt
  obtain⟨ia,oa,rfl,_,lda⟩:=D9 ha hx
  obtain⟨ib,ob,rfl,_,ldb⟩:=D9 hb hx
  have ixa:=Ae (cap:=ca) (i:=ia) (o:=oa) (n:=1) Tryz.underlying27 OJ hlt
  have ixb:=Ae (cap:=cb) (i:=ib) (o:=ob) (n:=1) Tryz.underlying27 OJ hlt
  refine WC.loop' ?_
  generalize hW:WC E none (Aa.loop eP) Q=WW
  simp only[eP,rR,u4,u5,la,lb,Cz,AH Tryz.underlying27,Ry,dd,ixa,ixb,lda,ldb,Wd,show decide (vs[i]≠vs[i])=false from by simp,e17,e17',Qa,Qb,Qc,Qd,Qf,Qh,Qi,Qj,Qk,Qm,Qo,true_and,Qp,Qq,Qr,Qs,Qt,Qv,Qz,Ra,Rb,Rc,Rd,Re,Rf,Ry,Wd]
  rw[← hW]
  exact ih (i+1) _ _ (by omega) (by omega)
theorem YN(hE:GoodN E){s0:AE}{pa pb:Nat}{A1 A2 B1 B2 A4 B4:AV}{x y:Bool}{ac bc:Option (Nat×Nat)}{ca cb:Option Nat}{Q0:List TD}{cells cells':List AV}(ga:s0.heap.get pa=some (R 30 0 false [.bool x,A1,A2,A4,.slice ac Q0.length ca]))(gb:s0.heap.get pb=some (R 30 0 false [.bool y,B1,B2,B4,.slice bc Q0.length cb]))
  (hpa:pa<s0.next) (hpb:pb<s0.next) (hcl:cells.length=Q0.length * 3) (hcl':cells'.length=Q0.length * 3) (ha:AU s0.next s0 ac cells) (hb:AU s0.next s0 bc cells') (hqa:∀ (i:Nat) (x:TD),Q0[i]? = some x→QX s0 (.agg ((cells.drop (i * 3)).take 3)) x) (hqb:∀ (i:Nat) (x:TD),Q0[i]? = some x→QX s0 (.agg ((cells'.drop (i * 3)).take 3)) x)
  (hl:Q0.length≤1000000000) {Q:Ay→Prop} {y0 y1 y4 y5 y7 y8 y9:AV}
  (hq:∀S y6 y10 y11,Af s0.next s0 S→Q ⟨.exit 2,[y0,y1,.ptr (some (pa,0)),.ptr (some (pb,0)),y4,y5,y6,y7,y8,y9,y10,y11],[],S⟩):
  ∀ (r i:Nat) (S:AE) (x10 x11:AV),Q0.length - i=r→i≤Q0.length→Af s0.next s0 S→WC E none (.loop RD) Q [y0,y1,.ptr (some (pa,0)),.ptr (some (pb,0)),y4,y5,iv (i:Int),y7,y8,y9,x10,x11] [] S:=by
 intro r
 induction r with
 | zero =>
  intro i S x10 x11 hi hle ho
  have la:=AI (P:=Tryz.prog) (t:=28) (o:=0+4) Eb ((ho.2 pa hpa).trans ga) rfl
  have dd:decide ((i:Int)<(Q0.length:Int))=false:=decide_eq_false (by omega)
  refine WC.loop' ?_
  simp only[RD,eQ,la,C0,AH Tryz.underlying28,Ry,dd,Qa,Qb,Qc,Qd,Qf,Qh,Qj,Qk,Qm,Qo,true_and,Qp,Qq,Qr,Qs,Qt,Qv,Ra,Rb,Rc,Rd,Re,Rf,Ry]
  exact hq S _ _ _ ho
 | succ r ih =>
  intro i S x10 x11 hi hle ho
  have la:=AI (P:=Tryz.prog) (t:=28) (o:=0+4) Eb ((ho.2 pa hpa).trans ga) rfl
  have lb:=AI (P:=Tryz.prog) (t:=28) (o:=0+4) Eb ((ho.2 pb hpb).trans gb) rfl
  have hlt:i<Q0.length:=by omega
  have dd:decide ((i:Int)<(Q0.length:Int))=true:=decide_eq_true (by omega)
  have e17:=Az Tryz.prog 3 (i:Int) 1 ⟨by omega,by omega⟩
  have e17':((i:Int)+1)=((i+1:Nat):Int):=by omega
  have hx:Q0[i]? = some Q0[i]:=xe hlt
  obtain⟨ia,oa,rfl,hia,lda⟩:=R9 ha hcl hlt
  obtain⟨ib,ob,rfl,hib,ldb⟩:=R9 hb hcl' hlt
  have ixa:=Ae (cap:=ca) (i:=ia) (o:=oa) (n:=3) Tryz.underlying28 A9 hlt
  have ixb:=Ae (cap:=cb) (i:=ib) (o:=ob) (n:=3) Tryz.underlying28 A9 hlt
  have lda':=EL Bt ho hia lda
  have ldb':=EL Bt ho hib ldb
  refine WC.loop' ?_
  generalize hW:WC E none (Aa.loop RD) Q=WW
  simp only[RD,eQ,qZ,la,lb,C0,AH Tryz.underlying28,Ry,dd,ixa,ixb,lda',ldb',Qa,Qb,Qc,Qd,Qf,Qh,Qj,Qk,Qm,Qo,true_and,Qp,Qq,Qr,Qs,Qt,Qv,Qz,Rb,Rc,Rd,Re,Rf,Ry]
  refine OA hE ((hqa i _ hx).old ho) ((hqb i _ hx).old ho) fun S' o'=>?_
  simp only[We,Bool.not_true,qd,e17,e17',Qb,Qc,Qd,Qf,Qh,Qi,Qj,Qk,Qm,Qo,true_and,Qp,Qq,Qr,Qs,Qt,Qv,Ra,Ya,We]
  rw[← hW]
  exact ih (i+1) S' _ _ (by omega) (by omega) (ho.trans (o'.mono ho.1))
theorem YO(hE:GoodN E){va vb:AV}{X:TD}{vs:List Int}{Q:List TD}(ha:LX s va X vs Q)(hb:LX s vb X vs Q)(hvl:vs.length≤1000000000)(hQl:Q.length≤1000000000){K:AV→AE→Prop}(hK:∀s',Af s.next s s'→K (.bool true) s'):WF E 9 [va,vb] K s:=by
 obtain⟨a1,n1,c1,b1,m1,d1,av,cv,ac,cc,cells,rfl,hX,hv,hcl,hc,hq⟩:=ha
 obtain⟨a2,n2,c2,b2,m2,d2,av',cv',ac',cc',cells',rfl,hX',hv',hcl',hc',hq'⟩:=hb
 refine hE.go vC (by decide) rfl ?_
 obtain⟨n3,o1,g1,g2⟩:=EO s (BL X.1 (.slice a1 n1 c1) (.slice b1 m1 d1) (.slice av vs.length cv) (.slice ac Q.length cc)) (BL X.1 (.slice a2 n2 c2) (.slice b2 m2 d2) (.slice av' vs.length cv') (.slice ac' Q.length cc'))
 simp only[c9,uw,Xa,Xh,Xc,Aq,Qa,Qb,Qc,Qd,Qf,Qh,Qi,Qj,Ql,Qm,Qo,true_and,Qp,Qq,Qr,Qs,Qt,Qv,Rb,Rc,Rh,Rk,Rm,Rn,Yc]
 generalize newObj (newObj s (BL X.1 (.slice a1 n1 c1) (.slice b1 m1 d1) (.slice av vs.length cv) (.slice ac Q.length cc))) (BL X.1 (.slice a2 n2 c2) (.slice b2 m2 d2) (.slice av' vs.length cv') (.slice ac' Q.length cc'))=s1 at *
 have lc:AC Tryz.prog s1 26 (.ptr (some (s.next,0+0)))=some (.agg [.bool X.1,.slice a1 n1 c1,.slice b1 m1 d1]):=Av (o:=0) (n:=3) Bt A9 g1 (by simp)
 have lc':AC Tryz.prog s1 26 (.ptr (some (s.next+1,0+0)))=some (.agg [.bool X.1,.slice a2 n2 c2,.slice b2 m2 d2]):=Av (o:=0) (n:=3) Bt A9 g2 (by simp)
 simp only[ux,lc,lc',IP,Qb,Qc,Qd,Qf,Qg,Qh,Qi,Qj,Qk,Qm,Qo,true_and,Qr,Qs,Qt,Qv,Qw,Ru,Rw]
 refine OA hE (hX.old o1) (hX'.old o1) fun s2 o2=>?_
 have h1:=o1.1
 have o02:=o1.trans (o2.mono h1)
 have k1:=(o2.2 s.next (by omega)).trans g1
 have k2:=(o2.2 (s.next+1) (by omega)).trans g2
 have la:=AI (P:=Tryz.prog) (t:=27) (o:=0+3) Fc k1 rfl
 have lb:=AI (P:=Tryz.prog) (t:=27) (o:=0+3) Fc k2 rfl
 have lra:=AI (P:=Tryz.prog) (t:=28) (o:=0+4) Eb k1 rfl
 have lrb:=AI (P:=Tryz.prog) (t:=28) (o:=0+4) Eb k2 rfl
 simp only[We,Bool.not_true,la,lb,lra,lrb,Cz,C0,AH Tryz.underlying27,AH Tryz.underlying28,Wd,show decide ((vs.length:Int)≠(vs.length:Int))=false from by simp,show decide ((Q.length:Int)≠(Q.length:Int))=false from by simp,uz,Qb,Qc,Qd,Qf,Qh,Qi,Qm,Qo,true_and,Qp,Qq,Qr,Qs,Qt,Qv,Qx,Ra,Rt,Ya,Yb,Wd,We]
 have h2:=o2.1
 refine YM k1 k2 ((hv.old o02 (xZ _)).mono o02.1) ((hv'.old o02 (xZ _)).mono o02.1) hvl (fun y5 y8 y9=>?_) vs.length 0 _ _ rfl (xg _)
 simp only[u7,if_true,Qb,Qc,Qd,Qf,Qh,Qi,Qm,Qo,true_and,Qp,Qq,Qt,Qv,Rb,Rd,Rg]
 refine YN hE k1 k2 (by omega) (by omega) hcl hcl' ((hc.old o02 (xZ _)).mono o02.1) ((hc'.old o02 (xZ _)).mono o02.1) (fun i x hi=>(hq i x hi).old o02) (fun i x hi=>(hq' i x hi).old o02) hQl (fun S y6 y10 y11 oS=>?_) Q.length 0 s2 _ _ rfl (xg _) (Af.refl _ _)
 simp only[qe,if_true,Qb,Qc,Qd,Qf,Qh,Qi,Qm,Qo,true_and,Qp,Qq,Qr,Qs,Qt,Qv,Rb,Rd,Rg,Rj]
 exact hK S (o02.trans (oS.mono o02.1))
end
def QC(s:AE)(v:AV)(q:Rat):Prop:=∃m d,v=.agg [.bool (decide (q.num<0)),m,d]∧Bo s m (AJ q.num.natAbs)∧Bo s d (AJ q.den)
theorem QC.old{s s':AE}{v:AV}{q:Rat}(h:QC s v q)(o:Af s.next s s'):QC s' v q:=by
 obtain⟨m,d,h1,h2,h3⟩:=h
 exact⟨m,d,h1,h2.old o,h3.old o⟩
theorem QC.box{s:AE}{v:AV}{q:Rat}{p e:Nat}{sp:Bool}{cs:List AV}{o:BD}(h:QC s v q)(hg:s.heap.get p=some (R e 0 sp cs))(hc:cs.all Kd=true):QC (setObj s p o) v q:=by
 obtain⟨m,d,h1,h2,h3⟩:=h
 exact⟨m,d,h1,h2.box hg hc,h3.box hg hc⟩
theorem QC.shape{s:AE}{v:AV}{q:Rat}(h:QC s v q):∃a n c b m d,v=.agg [.bool (decide (q.num<0)),.slice a n c,.slice b m d]:=by
 obtain⟨m,d,rfl,h2,h3⟩:=h
 obtain⟨a,n,c,rfl⟩:=h2.shape
 obtain⟨b,m,d,rfl⟩:=h3.shape
 exact⟨_,_,_,_,_,_,rfl⟩
theorem QC.qi{s:AE}{v:AV}{q:Rat}{k:Nat}(h:QC s v q)(hq:QH q k):QI s v q k:=by
 obtain⟨m,d,h1,h2,h3⟩:=h
 exact⟨_,m,d,_,_,h1,h2,h3,AK _,AK _,Ai hq.1,Ai hq.2,by rw[AR,AR];exact Wl q⟩
theorem QR.qc{b:Nat}{s:AE}{v:AV}{q:Rat}(h:QR b s v q):QC s v q:=by
 obtain⟨m,d,h1,h2,h3,_⟩:=h
 exact⟨m,d,h1,h2.n32,h3.n32⟩
def qx(q:Rat):TD:=(decide (q.num<0),AJ q.num.natAbs,AJ q.den)
theorem QC.qx{s:AE}{v:AV}{q:Rat}{k:Nat}(h:QC s v q)(hq:QH q k)(hk:k≤1000000000):QX s v (qx q):=by
 obtain⟨m,d,h1,h2,h3⟩:=h
 exact⟨m,d,h1,h2,h3,xh (Ai hq.1) hk,xh (Ai hq.2) hk⟩
theorem BC.parts{s:AE}{x:Bool}{v:AV}{z:Int}(h:BC s (.agg [.bool x,v]) z):x=decide (z<0)∧Bo s v (AJ z.natAbs):=by
 obtain⟨m',e',h'⟩:=h
 injection e' with e'
 injection e' with e1 e'
 injection e1 with e1
 injection e' with e' _
 subst e'
 exact⟨e1,h'⟩
theorem Pd{s:AE}{i:Nat}(hi:i<s.next)(hg:s.heap.get i=some (R 76 1 false [.int .u32 1])):Bo s (.slice (some (i,0)) 1 (some 1)) [1]:=by
 refine⟨_,_,rfl,.inl ⟨1,rfl,xZ _,fun h=>(by cases h)⟩,fun k u hu=>?_⟩
 refine⟨i,0,rfl,hi,?_⟩
 rw[E2,hg,Wo,xu]
 exact hu
theorem Nt:AJ 1=[1]:=by rw[EK (by decide),show 1 / LB=0 from rfl,A8];rfl
section
variable{E:CU}{s:AE}
theorem Vy(hE:GoodN E){vn vd:AV}{z:Int}{D kn kd:Nat}(hn:BI s vn z kn)(hd:BI s vd (D:Int) kd)(hD:D≠0)(hkn:kn≤3000000)(hkd:kd≤3000000){K:AV→AE→Prop}(hK:∀s' w,Af s.next s s'→QC s' w (mkRat z D)→(∀j∈Dd w,s.next≤j∧j<s'.next)→K w s'):WF E 80 [vn,vd] K s:=by
  have zb:=hn.abs
  have db:=hd.abs
  rw[zg]at db
  obtain⟨na,aa,an,ac,rfl⟩:=hn.shape
  obtain⟨nb,ba,bn,bc,rfl⟩:=hd.shape
  refine hE.go sf (by decide) rfl ?_
  obtain⟨n1,o1,g1,g2,g3⟩:=J5 s (BX na (.slice aa an ac)) (BX nb (.slice ba bn bc)) ZQ
  simp only[xN,ow,oz,Xa,Xh,CE,Xc,Aq,Qa,Qb,Qc,Qd,Qf,Qh,Qj,Qk,Ql,Qm,Qo,true_and,Qp,Qq,Qr,Qs,Qt,Qv,Rb,Rh,Rj]
  generalize newObj (newObj (newObj s (BX na (.slice aa an ac))) (BX nb (.slice ba bn bc))) ZQ=s1 at *
  have l1:=AT (P:=Tryz.prog) (t:=24) Db CS g1 rfl
  simp only[l1,Qm]
  refine E9 hE (hn.old o1) (by omega) fun s2 v2 o2 r2=>?_
  have h2:=o2.1
  have f1:=(o2.2 s.next (by omega)).trans g1
  have f2:=(o2.2 (s.next+1) (by omega)).trans g2
  have f3:=(o2.2 (s.next+1+1) (by omega)).trans g3
  obtain⟨a2,n2,c2,rfl⟩:=r2.shape
  have st:=Ak (P:=Tryz.prog) (t:=24) (cs:=[.bool (decide (z<0)),.slice a2 n2 c2]) CS f1 rfl rfl rfl (by simp)
  generalize hs3:setObj s2 s.next (R 24 0 false [.bool (decide (z<0)),.slice a2 n2 c2])=s3 at st
  have n3:s3.next=s2.next:=by rw[← hs3];rfl
  have o3:Af s.next s s3:=by rw[← hs3];exact(o1.trans (o2.mono o1.1)).set (xZ _) _
  have k1:s3.heap.get s.next=some (BX (decide (z<0)) (.slice a2 n2 c2)):=by rw[← hs3,Ww]
  have k2:s3.heap.get (s.next+1)=some (BX nb (.slice ba bn bc)):=by rw[← hs3,Wx _ (by omega)];exact f2
  have k3:s3.heap.get (s.next+1+1)=some ZQ:=by rw[← hs3,Wx _ (by omega)];exact f3
  have w2:BC s3 (.agg [.bool (decide (z<0)),.slice a2 n2 c2]) z:=by rw[← hs3];exact r2.box f1 rfl
  have l2:=AT (P:=Tryz.prog) (t:=24) Db CS k2 rfl
  simp only[pA,st,l2,Xy,Za,Qb,Qc,Qd,Qf,Qh,Qj,Qk,Qm,Qo,true_and,Qr,Qs,Qt,Qv]
  refine E9 hE (hd.old o3) (by omega) fun s4 v4 o4 r4=>?_
  have h4:=o4.1
  have m1:=(o4.2 s.next (by omega)).trans k1
  have m2:=(o4.2 (s.next+1) (by omega)).trans k2
  have m3:=(o4.2 (s.next+1+1) (by omega)).trans k3
  have w4:=w2.old o4
  obtain⟨a4,n4,c4,rfl⟩:=r4.shape
  rw[decide_eq_false (show ¬ ((D:Nat):Int)<0 by omega)]at r4
  rw[decide_eq_false (show ¬ ((D:Nat):Int)<0 by omega)]
  have st:=Ak (P:=Tryz.prog) (t:=24) (cs:=[.bool false,.slice a4 n4 c4]) CS m2 rfl rfl rfl (by simp)
  generalize hs5:setObj s4 (s.next+1) (R 24 0 false [.bool false,.slice a4 n4 c4])=s5 at st
  have n5:s5.next=s4.next:=by rw[← hs5];rfl
  have o5:Af s.next s s5:=by rw[← hs5];exact(o3.trans (o4.mono o3.1)).set (by omega) _
  have p1:s5.heap.get s.next=some (BX (decide (z<0)) (.slice a2 n2 c2)):=by rw[← hs5,Wx _ (by omega)];exact m1
  have p2:s5.heap.get (s.next+1)=some (BX false (.slice a4 n4 c4)):=by rw[← hs5,Ww]
  have p3:s5.heap.get (s.next+1+1)=some ZQ:=by rw[← hs5,Wx _ (by omega)];exact m3
  have hx:Bo s5 (.slice a2 n2 c2) (AJ z.natAbs):=by rw[← hs5];exact(w4.parts.2).box m2 rfl
  have hy:Bo s5 (.slice a4 n4 c4) (AJ D):=by
    have:=r4.parts.2
    rw[zg]at this
    rw[← hs5];exact this.box m2 rfl
  have lx:=Ai zb
  have ly:=Ai db
  have l4:=AI (P:=Tryz.prog) (t:=22) (o:=0+1) CA p1 rfl
  have l6:=AI (P:=Tryz.prog) (t:=22) (o:=0+1) CA p2 rfl
  simp only[pB,st,l4,l6,CR,Qb,Qc,Qd,Qf,Qh,Qj,Qk,Qm,Qo,true_and,Qr,Qs,Qt,Qv]
  refine WJ hE hx hy (AK _) (AK _) (by omega) (by omega) fun s6 v6 o6 r6=>?_
  have h6:=o6.1
  rw[AR,AR]at r6
  have q1:=(o6.2 s.next (by omega)).trans p1
  have q2:=(o6.2 (s.next+1) (by omega)).trans p2
  have q3:=(o6.2 (s.next+1+1) (by omega)).trans p3
  have o56:=o5.trans (o6.mono o5.1)
  have hg0:z.natAbs.gcd D≠0:=fun e=>hD (A0O e)
  have lg:(AJ (z.natAbs.gcd D)).length≤3000000:=xh (E0 (Nat.gcd_le_right _ (by omega))) (by omega)
  have l4:=AI (P:=Tryz.prog) (t:=22) (o:=0+1) CA q1 rfl
  simp only[pC,l4,CR,Qb,Qc,Qd,Qf,Qh,Qj,Qk,Qm,Qo,true_and,Qp,Qq,Qr,Qs,Qt,Qv,Zb]
  refine j7 hE (hx.old o6) r6 (AK _) (AK _) (by omega) lg (by rw[AR];exact hg0) fun s7 v7 v7' o7 r7=>?_
  have h7:=o7.1
  rw[AR,AR]at r7
  have q1:=(o7.2 s.next (by omega)).trans q1
  have q2:=(o7.2 (s.next+1) (by omega)).trans q2
  have q3:=(o7.2 (s.next+1+1) (by omega)).trans q3
  have o57:=o56.trans (o7.mono o56.1)
  have l6:=AI (P:=Tryz.prog) (t:=22) (o:=0+1) CA q2 rfl
  simp only[pD,Zb,l6,CR,Qb,Qc,Qd,Qf,Qh,Qj,Qk,Qm,Qo,true_and,Qp,Qq,Qr,Qs,Qt,Qv,Zb,Yd,Ye]
  refine SV hE ((hy.old o6).old o7) (r6.old o7) (AK _) (AK _) (by omega) lg (by rw[AR];exact hg0) fun s8 v8 v8' o8 r8 b8=>?_
  have h8:=o8.1
  rw[AR,AR]at r8
  have q1:=(o8.2 s.next (by omega)).trans q1
  have q2:=(o8.2 (s.next+1) (by omega)).trans q2
  have q3:=(o8.2 (s.next+1+1) (by omega)).trans q3
  have o58:=o57.trans (o8.mono o57.1)
  have l3:=AI (P:=Tryz.prog) (t:=4) (o:=0+0) Gp q1 rfl
  have l5:=AI (P:=Tryz.prog) (t:=4) (o:=0+0) Gp q2 rfl
  have r7':=r7.old o8
  obtain⟨a7,n7,c7,rfl⟩:=r7'.shape
  obtain⟨a8,n8,c8,rfl⟩:=r8.shape
  simp only[pE,l3,l5,Cd,Ef,Dm,Qb,Qc,Qd,Qf,Qh,Qj,Qk,Qm,Qo,true_and,Qp,Qq,Qr,Qs,Qt,Qv,Yd,Ye]
  have hbi:BI s8 (.agg [.bool (decide (z<0) != false),.slice a7 n7 c7]) (Bx (decide (z<0)) (z.natAbs / z.natAbs.gcd D)) kn:=by
    rw[show(decide (z<0) != false)=decide (z<0) by cases decide (z<0)<;>rfl]
    exact BI.mk r7' (yM (yj _ _) zb)
  refine MA hE hbi (by omega) fun s9 v9 o9 r9 b9=>?_
  have q9:=(o9.2 (s.next+1+1) (by omega)).trans q3
  rw[← MU z hD]at r9
  rw[← Pb z hD]at r8
  have r8':=r8.old o9
  obtain⟨a9,n9,c9,rfl⟩:=r9.shape
  obtain⟨st,ld⟩:=CG (cs0:=[.bool false,.slice none 0 (some 0),.slice none 0 (some 0)]) rfl (x:=decide ((mkRat z D).num<0)) (a:=a9) (n:=n9) (c:=c9) (b:=a8) (m:=n8) (d:=c8) q9
  simp only[Kx,st,ld,AQ,Xy,Za,Qd,Qj,Qm,Qo,true_and,Qr,Qs,Rk,Rn,Yc]
  have hq:QC s9 (.agg [.bool (decide ((mkRat z D).num<0)),.slice a9 n9 c9,.slice a8 n8 c8]) (mkRat z D):=⟨_,_,rfl,r9.parts.2,r8'⟩
  exact hK _ _ ((o58.trans (o9.mono o58.1)).set (by omega) _) (hq.box q9 rfl) fun j hj=>by
    show s.next≤j∧j<s9.next
    rcases(CW rfl).1 hj with hj | hj
    · have := b9 _ _ j rfl hj
      have:=o58.1
      omega
    · have := b8 j hj
      have:=o57.1
      have:=o9.1
      omega
theorem fJ(hE:GoodN E){vn vd:AV}{z:Int}{D kn kd:Nat}(hn:BI s vn z kn)(hd:BI s vd (D:Int) kd)(hD:D≠0)(hkn:kn≤3000000)(hkd:kd≤3000000){K:AV→AE→Prop}(hK:∀s' w,Af s.next s s'→QC s' w (mkRat z D)→K w s'):WF E 80 [vn,vd] K s:=Vy hE hn hd hD hkn hkd fun s' w o h _=>hK s' w o h
theorem FK(hE:GoodN E){x:Bool}{m d:AV}{ld:List Nat}(hm:∃a n c,m=.slice a n c)(hd:Bo s d ld)(hs:Be ld)(hl:ld.length≤3000000){K:AV→AE→Prop}(hK:∀s' w,Af s.next s s'→BC s' w (Ci (AG ld):Nat)→K w s'):WF E 83 [.agg [.bool x,m,d]] K s:=by
  obtain⟨am,nm,cm,rfl⟩:=hm
  obtain⟨a,n,c,rfl⟩:=hd.shape
  refine hE.go sk (by decide) rfl ?_
  obtain⟨n1,o1,g1,g2⟩:=EO s (BQ x (.slice am nm cm) (.slice a n c)) ZI
  simp only[xQ,pV,pW,Xa,Xh,Dc,Xc,Aq,G5,Qa,Qb,Qc,Qd,Qf,Qh,Qj,Qk,Ql,Qm,Qo,true_and,Qp,Qq,Qr,Qs,Qt,Qv,Rb,Rh]
  generalize newObj (newObj s (BQ x (.slice am nm cm) (.slice a n c))) ZI=s1 at *
  have l2:=AI (P:=Tryz.prog) (t:=22) (o:=0+2) CA g1 rfl
  simp only[l2,Qm]
  refine SY hE (hd.old o1) hs (by omega) fun s2 v2 o2 r2=>?_
  have h2:=o2.1
  have g3:=(o2.2 (s.next+1) (by omega)).trans g2
  have o12:=o1.trans (o2.mono o1.1)
  have hneg:∀n:Nat,decide ((n:Int)<0)=false:=fun n=>decide_eq_false (by omega)
  have e3:AL Tryz.prog .eql 3 (iv ((AJ (AG ld)).length:Int)) (iv 0)=some (.bool (decide (((AJ (AG ld)).length:Int)=0))):=Wc ..
  have r2':=r2
  obtain⟨a2,c2,rfl,_⟩:=r2'
  by_cases h0:AG ld=0
  · have e4 : (AJ    (AG   ld)).length = 0 := by rw [h0, A8];         rfl
    have d1:decide (((AJ (AG ld)).length:Int)=0)=true:=decide_eq_true (by omega)
    simp only[dx,pX,AH Tryz.underlying22,e3,d1,Qb,Qc,Qd,Qf,Qh,Qi,Qj,Qk,Qm,Qo,true_and,Qp,Qq,Qr,Qs,Qt,Qv,Qz,Rj]
    have er:Ad Tryz.prog 22 1 (zipIdx [0] [.int .u32 1])=some (R 76 1 false [Aw 1]):=Pu 1
    obtain⟨n5,o5,g5⟩:=CC s2 (R 76 1 false [Aw 1])
    simp only[er,Xe,Qm,Yc]
    generalize newObj s2 (R 76 1 false [Aw 1])=s5 at *
    have q3:=(o5.2 (s.next+1) (by omega)).trans g3
    obtain⟨st,ld'⟩:=D6 (s1:=s) (x:=false) (a:=some (s2.next,0)) (n:=1) (c:=some 1) q3
    simp only[dy,Gy,st,ld',AQ,Xy,Za,Qb,Qc,Qd,Qf,Qh,Qj,Qk,Qm,Qo,true_and,Qr,Qs,Qt,Qv,Rk,Rn,Yc]
    have hb:Bo s5 (.slice (some (s2.next,0)) 1 (some 1)) (AJ 1):=by rw[Nt];exact Pd (i:=s2.next) (by omega) g5
    refine hK _ _ ((o12.trans (o5.mono o12.1)).set (by omega) _) ⟨_,by rw[hneg],?_⟩
    rw[h0]
    exact hb.box q3 rfl
  · have e4 := List.length_pos_iff.2 (Br       h0)
    have d1:decide (((AJ (AG ld)).length:Int)=0)=false:=decide_eq_false (by omega)
    obtain⟨st,ld'⟩:=D6 (s1:=s) (x:=false) (a:=a2) (n:=(AJ (AG ld)).length) (c:=c2) g3
    simp only[dx,dy,AH Tryz.underlying22,e3,d1,Gy,st,ld',AQ,Xy,Za,Qb,Qc,Qd,Qf,Qh,Qi,Qj,Qk,Qm,Qo,true_and,Qp,Qq,Qr,Qs,Qt,Qv,Ra,Rj,Rk,Rn,Yc]
    refine hK _ _ (o12.set (by omega) _) ⟨_,by rw[hneg],?_⟩
    rw[zg,show Ci (AG ld)=AG ld by unfold Ci;rw[if_neg h0]]
    exact r2.box g3 rfl
theorem Qn.bi{s:AE}{neg:Bool}{m:AV}{lm:List Nat}{k:Nat}(hm:Bo s m lm)(hs:Be lm)(hl:lm.length≤k):BI s (.agg [.bool neg,m]) (Bx neg (AG lm)) k:=⟨neg,m,lm,rfl,hm,hs,hl,rfl⟩
theorem I2{ld:List Nat}{k:Nat}(hs:Be ld)(hl:ld.length≤k)(hk:1≤k):Ci (AG ld)<LB ^ k:=by
 unfold Ci
 split
 ·exact DB (j:=1) (by decide) hk
 ·exact DX hs hl
theorem BC.nat{s:AE}{v:AV}{n k:Nat}(h:BC s v (n:Int))(hn:n<LB ^ k):BI s v (n:Int) k:=h.bi (by rw[zg];exact hn)
theorem L6(hE:GoodN E){v:AV}{q:Rat}{k:Nat}(hv:QI s v q k)(hk1:1≤k)(hk:k≤3000000){K:AV→AE→Prop}(hK:∀s' w,Af s.next s s'→QC s' w q→K w s'):WF E 74 [v] K s:=by
 obtain⟨neg,m,d,lm,ld,rfl,hm,hd,hsm,hsd,hlm,hld,rfl⟩:=hv
 obtain⟨a,n,c,rfl⟩:=hm.shape
 obtain⟨b,nd,cd,rfl⟩:=hd.shape
 refine hE.go sb (by decide) rfl ?_
 obtain⟨n1,o1,g1,g2⟩:=EO s (BQ neg (.slice a n c) (.slice b nd cd)) ZQ
 simp only[xK,og,oh,Xa,Xh,CE,Xc,Aq,Dr,Qa,Qb,Qc,Qd,Qf,Qh,Qj,Qk,Ql,Qm,Qo,true_and,Qp,Qq,Qr,Qs,Qt,Qv,Rb,Rh,Rj]
 generalize newObj (newObj s (BQ neg (.slice a n c) (.slice b nd cd))) ZQ=s1 at *
 have l1:AC Tryz.prog s1 24 (.ptr (some (s.next,0+0)))=some (.agg [.bool neg,.slice a n c]):=Av (o:=0) (n:=2) Db CS g1 (by simp)
 have l2:=AT (P:=Tryz.prog) (t:=26) Bt A9 g1 rfl
 simp only[l1,l2,Qm]
 refine FK hE ⟨_,_,_,rfl⟩ (hd.old o1) hsd (by omega) fun s2 v2 o2 r2=>?_
 have h2:=o2.1
 have f1:=(o2.2 s.next (by omega)).trans g1
 have f2:=(o2.2 (s.next+1) (by omega)).trans g2
 have o12:=o1.trans (o2.mono o1.1)
 refine⟨⟨As (by simp only[Qk,Qr,Qs];exact Av (o:=0) (n:=2) Db CS f1 (by simp)) (by simp only[Qk,Qr,Qs];exact Ee _ _ _ _),trivial⟩,?_⟩
 simp only[Qr,Qs]
 refine fJ hE ((Qn.bi hm hsm hlm).old o12) (r2.nat (I2 hsd hld hk1)) (C9 _) (by omega) (by omega) fun s3 v3 o3 r3=>?_
 have f3:=(o3.2 (s.next+1) (by omega)).trans f2
 obtain⟨a3,n3,c3,b3,m3,d3,rfl⟩:=r3.shape
 obtain⟨st,ld'⟩:=CG (cs0:=[.bool false,.slice none 0 (some 0),.slice none 0 (some 0)]) rfl (x:=decide ((mkRat (Bx neg (AG lm)) (Ci (AG ld))).num<0)) (a:=a3) (n:=n3) (c:=c3) (b:=b3) (m:=m3) (d:=d3) f3
 simp only[st,ld',AQ,Xy,Za,Qd,Qj,Qm,Qo,true_and,Qr,Qs,Rk,Rn,Yc]
 exact hK _ _ ((o12.trans (o3.mono o12.1)).set (by omega) _) (r3.box f3 rfl)
theorem fK       (hE : GoodN E) {v : AV} {q : Rat} {k : Nat} (hv : QI s v q k) (hk : k ≤ 3000000) {K : AV → AE  → Prop} (hK : ∀ s', Af  s.next s s' → K (.bool (decide (q.num = 0))) s') : WF E 101 [v] K s := by
  obtain⟨neg,m,d,lm,ld,rfl,hm,hd,hsm,hsd,hlm,hld,rfl⟩:=hv
  obtain⟨a,n,c,rfl⟩:=hm.shape
  obtain⟨b,nd,cd,rfl⟩:=hd.shape
  refine hE.go im (by decide) rfl ?_
  obtain⟨n1,o1,g1⟩:=CC s (BQ neg (.slice a n c) (.slice b nd cd))
  simp only[uC,Yj,Yk,Xa,Xh,Xc,Dr,CR,Qa,Qb,Qc,Qd,Qf,Qh,Qi,Qj,Qk,Ql,Qm,Qo,true_and,Qp,Qq,Qr,Qs,Qt,Qv,Rb,Rh,Rj,Rk,Rm,Rn,Yc]
  generalize newObj s (BQ neg (.slice a n c) (.slice b nd cd))=s1 at *
  have l1:=AI (P:=Tryz.prog) (t:=22) (o:=0+0+1) CA g1 rfl
  simp only[l1,Qm]
  refine SY hE (hm.old o1) hsm (by omega) fun s2 v2 o2 r2=>?_
  obtain⟨a2,c2,rfl,_⟩:=r2
  have hz:decide (((AJ (AG lm)).length:Int)=0)=decide ((Cb neg (AG lm) (AG ld)).num=0):=by
    have e:((AJ (AG lm)).length:Int)=0↔(Cb neg (AG lm) (AG ld)).num=0:=by
      rw[Rat.num_eq_zero]
      unfold Cb
      rw[Rat.mkRat_eq_zero (C9 _)]
      constructor
      · intro h
        have h0:AG lm=0:=Classical.byContradiction fun h'=>absurd (List.length_pos_iff.2 (Br h')) (by omega)
        rw[h0];cases neg<;>rfl
      · intro h
        have h0:AG lm=0:=by rw[← CO neg (AG lm),h];rfl
        rw[h0,A8];rfl
    exact decide_eq_decide.2 e
  simp only[AH Tryz.underlying22,Wc,hz,Qd,Qm,Qo,true_and,Qp,Qq,Qr,Qs,Wc]
  exact hK s2 (o1.trans (o2.mono o1.1))
theorem RT(hE:GoodN E){v:AV}{q:Rat}{k:Nat}(hv:QC s v q)(hq:QH q k)(hk:k≤3000000){K:AV→AE→Prop}(hK:∀s',Af s.next s s'→K (iv (ES q.num)) s'):WF E 54 [v] K s:=by
  have hqi:=hv.qi hq
  obtain⟨a,n,c,b,nd,cd,rfl⟩:=hv.shape
  refine hE.go sN (by decide) rfl ?_
  obtain⟨n1,o1,g1⟩:=CC s (BQ (decide (q.num<0)) (.slice a n c) (.slice b nd cd))
  simp only[ww,nP,nQ,Xa,Xh,Xc,Qa,Qb,Qc,Qd,Qf,Qh,Qi,Qj,Qk,Ql,Qm,Qo,true_and,Qp,Qq,Qr,Qs,Qt,Qv,Rb,Rc,Rh,Rk,Rm,Rn,Yc]
  generalize newObj s (BQ (decide (q.num<0)) (.slice a n c) (.slice b nd cd))=s1 at *
  have l1:=AT (P:=Tryz.prog) (t:=26) Bt A9 g1 rfl
  simp only[l1,Qm]
  refine fK hE (hqi.old o1) hk fun s2 o2=>?_
  have f1:=(o2.2 s.next (by omega)).trans g1
  have l2:=AI (P:=Tryz.prog) (t:=4) (o:=0+0+0) Gp f1 rfl
  have hend:=hK s2 (o1.trans (o2.mono o1.1))
  unfold ES at hend
  by_cases h0:q.num=0
  · rw[if_neg (by omega),if_neg (by omega)]at hend
    simp only[decide_eq_true h0,nR,Qb,Qc,Qd,Qf,Qh,Qi,Qm,Qo,true_and,Qp,Qq,Qr,Qs,Qt,Qv,Qz,Rj]
    exact hend
  · by_cases h1 : q.num < 0
    · rw [if_pos h1] at hend
      rw[decide_eq_true h1]at l2
      simp only[decide_eq_false h0,dX,nS,l2,Dr,Cd,Qb,Qc,Qd,Qf,Qh,Qi,Qj,Qk,Qm,Qo,true_and,Qp,Qq,Qr,Qs,Qt,Qv,Qz,Ra,Rj]
      exact hend
    · rw [if_neg h1, if_pos (by omega)] at hend
      rw[decide_eq_false h1]at l2
      simp only[decide_eq_false h0,dX,nT,l2,Dr,Cd,Qb,Qc,Qd,Qf,Qh,Qi,Qj,Qk,Qm,Qo,true_and,Qp,Qq,Qr,Qs,Qt,Qv,Ra,Rj]
      exact hend
end
theorem C7{s:AE}{loc var:List AV}(f:AE→AV→Option AV)(x a:CX):Fd s loc var ⟨none,.r1 f,[x],a⟩=OB (f s (DK loc var x)) (DK loc var a):=rfl
theorem Dx{S:AE}{p:Nat}{x:Bool}{a b:Option (Nat×Nat)}{n m:Nat}{c d:Option Nat}(g:S.heap.get p=some (BQ x (.slice a n c) (.slice b m d))):
  AC Tryz.prog S 26 (.ptr (some (p,0)))=some (.agg [.bool x,.slice a n c,.slice b m d])∧AC Tryz.prog S 24 (.ptr (some (p,0+0)))=some (.agg [.bool x,.slice a n c]):=
 ⟨AT Bt A9 g rfl,Av (o:=0) (n:=2) Db CS g (by simp)⟩
section
variable{E:CU}{s:AE}
theorem jb(hE:GoodN E){va vb:AV}{x y:Rat}{ka kb:Nat}(ha:QI s va x ka)(hb:QI s vb y kb)(hka:1≤ka)(hkb:1≤kb)(hk:2 * (ka+kb)+1≤3000000){K:AV→AE→Prop}(hK:∀s' w,Af s.next s s'→QC s' w (x+y)→K w s'):WF E 44 [va,vb] K s:=by
 obtain⟨neg,m,d,lm,ld,rfl,hm,hd,hsm,hsd,hlm,hld,rfl⟩:=ha
 obtain⟨neg',m',d',lm',ld',rfl,hm',hd',hsm',hsd',hlm',hld',rfl⟩:=hb
 obtain⟨a,n,c,rfl⟩:=hm.shape
 obtain⟨b,nd,cd,rfl⟩:=hd.shape
 obtain⟨a',n',c',rfl⟩:=hm'.shape
 obtain⟨b',nd',cd',rfl⟩:=hd'.shape
 refine hE.go sF (by decide) rfl ?_
 obtain⟨n1,o1,g1,g2,g3⟩:=J5 s (BQ neg (.slice a n c) (.slice b nd cd)) (BQ neg' (.slice a' n' c') (.slice b' nd' cd')) ZQ
 simp only[wl,md,me,Xa,Xh,CE,Xc,Aq,Dr,Qa,Qb,Qc,Qd,Qf,Qh,Qj,Qk,Ql,Qm,Qo,true_and,Qp,Qq,Qr,Qs,Qt,Qv,Rb,Rh,Rj]
 generalize newObj (newObj (newObj s (BQ neg (.slice a n c) (.slice b nd cd))) (BQ neg' (.slice a' n' c') (.slice b' nd' cd'))) ZQ=s1 at *
 have L:∀S,Af s1.next s1 S→_:=fun S o=>(Dx ((o.2 s.next (by omega)).trans g1)).1
 have L':∀S,Af s1.next s1 S→_:=fun S o=>(Dx ((o.2 (s.next+1) (by omega)).trans g2)).1
 have M:∀S,Af s1.next s1 S→_:=fun S o=>(Dx ((o.2 s.next (by omega)).trans g1)).2
 have M':∀S,Af s1.next s1 S→_:=fun S o=>(Dx ((o.2 (s.next+1) (by omega)).trans g2)).2
 have dl:=I2 hsd hld hka
 have dl':=I2 hsd' hld' hkb
 simp only[L s1 (Af.refl _ _),L' s1 (Af.refl _ _),M s1 (Af.refl _ _),M' s1 (Af.refl _ _),Qm]
 refine FK hE ⟨_,_,_,rfl⟩ (hd'.old o1) hsd' (by omega) fun s2 v2 o2 r2=>?_
 refine⟨by simp only[C7,L s2 o2,L' s2 o2,M s2 o2,M' s2 o2,BY,Cr,Ee,Qj,Qk,Qo,and_true,Qr,Qs],?_⟩
 have o12:=o1.trans (o2.mono o1.1)
 simp only[Qr,Qs]
 refine Fq hE ((Qn.bi hm hsm hlm).old o12) (r2.nat dl') (by omega) fun s3 v3 o3 r3=>?_
 have o23:=o2.trans (o3.mono o2.1)
 refine⟨by simp only[C7,L s3 o23,L' s3 o23,M' s3 o23,BY,Cr,Ee,Qj,Qk,Qo,and_true,Qr,Qs],?_⟩
 have o13:=o12.trans (o3.mono o12.1)
 simp only[Qr,Qs]
 refine FK hE ⟨_,_,_,rfl⟩ (hd.old o13) hsd (by omega) fun s4 v4 o4 r4=>?_
 have o24:=o23.trans (o4.mono o23.1)
 refine⟨by simp only[C7,L s4 o24,L' s4 o24,M' s4 o24,BY,Cr,Ee,Qj,Qk,Qo,and_true,Qr,Qs],?_⟩
 have o14:=o13.trans (o4.mono o13.1)
 simp only[Qr,Qs]
 refine Fq hE ((Qn.bi hm' hsm' hlm').old o14) (r4.nat dl) (by omega) fun s5 v5 o5 r5=>?_
 have o25:=o24.trans (o5.mono o24.1)
 refine⟨by simp only[C7,L s5 o25,L' s5 o25,BY,Cr,Qj,Qk,Qo,and_true,Qr,Qs],?_⟩
 have o15:=o14.trans (o5.mono o14.1)
 have b3:(Bx neg (AG lm) * ((Ci (AG ld'):Nat):Int)).natAbs<LB ^ (ka+kb):=by
  rw[zf,CO,zg]
  exact Bq (DX hsm hlm) dl'
 have b5:(Bx neg' (AG lm') * ((Ci (AG ld):Nat):Int)).natAbs<LB ^ (ka+kb):=by
  rw[zf,CO,zg,zI ka kb]
  exact Bq (DX hsm' hlm') dl
 simp only[Qr,Qs]
 refine fN hE (((r3.old o4).old o5).bi b3) (r5.bi b5) (by omega) fun s6 v6 o6 r6=>?_
 have o26:=o25.trans (o6.mono o25.1)
 refine⟨by simp only[C7,L s6 o26,L' s6 o26,BY,Cr,Qj,Qk,Qo,and_true,Qr,Qs],?_⟩
 have o16:=o15.trans (o6.mono o15.1)
 simp only[Qr,Qs]
 refine FK hE ⟨_,_,_,rfl⟩ (hd.old o16) hsd (by omega) fun s7 v7 o7 r7=>?_
 have o27:=o26.trans (o7.mono o26.1)
 refine⟨by simp only[C7,L' s7 o27,BY,Cr,Qj,Qk,Qo,and_true,Qr,Qs],?_⟩
 have o17:=o16.trans (o7.mono o16.1)
 simp only[Qr,Qs]
 refine FK hE ⟨_,_,_,rfl⟩ (hd'.old o17) hsd' (by omega) fun s8 v8 o8 r8=>?_
 have o18:=o17.trans (o8.mono o17.1)
 simp only[Qd,Qo,true_and,Qr,Qs]
 refine Fq hE ((r7.old o8).nat dl) (r8.nat dl') (by omega) fun s9 v9 o9 r9=>?_
 have o19:=o18.trans (o9.mono o18.1)
 rw[← zz]at r9
 simp only[Qd,Qo,true_and,Qr,Qs]
 have b6:(Bx neg (AG lm) * ((Ci (AG ld'):Nat):Int)+Bx neg' (AG lm') * ((Ci (AG ld):Nat):Int)).natAbs<LB ^ (ka+kb+1):=by
  refine yM (Int.natAbs_add_le _ _) (FO b3 b5)
 refine fJ hE ((((r6.old o7).old o8).old o9).bi b6) (r9.nat (k:=ka+kb) (Bq dl dl')) (zL (C9 _) (C9 _)) (by omega) (by omega) fun s10 v10 o10 r10=>?_
 rw[← ff (C9 _) (C9 _)]at r10
 have o28:=o27.trans (o8.mono o27.1)
 have o29:=o28.trans (o9.mono o28.1)
 have o2a:=o29.trans (o10.mono o29.1)
 have f4:=(o2a.2 (s.next+1+1) (by omega)).trans g3
 change QC s10 v10 (Cb neg (AG lm) (AG ld)+Cb neg' (AG lm') (AG ld'))at r10
 obtain⟨a3,n3,c3,b3,m3,d3,rfl⟩:=r10.shape
 obtain⟨st,ld'⟩:=CG (cs0:=[.bool false,.slice none 0 (some 0),.slice none 0 (some 0)]) rfl (x:=decide ((Cb neg (AG lm) (AG ld)+Cb neg' (AG lm') (AG ld')).num<0)) (a:=a3) (n:=n3) (c:=c3) (b:=b3) (m:=m3) (d:=d3) f4
 simp only[st,ld',AQ,Xy,Za,Qd,Qj,Qm,Qo,true_and,Qr,Qs,Rk,Rn,Yc]
 exact hK _ _ ((o19.trans (o10.mono o19.1)).set (by omega) _) (r10.box f4 rfl)
theorem RS(hE:GoodN E){va vb:AV}{x y:Rat}{ka kb:Nat}(ha:QI s va x ka)(hb:QI s vb y kb)(hka:1≤ka)(hkb:1≤kb)(hk:2 * (ka+kb)+1≤3000000){K:AV→AE→Prop}(hK:∀s' w,Af s.next s s'→QC s' w (x * y)→(∀j∈Dd w,s.next≤j∧j<s'.next)→K w s'):WF E 45 [va,vb] K s:=by
 obtain⟨neg,m,d,lm,ld,rfl,hm,hd,hsm,hsd,hlm,hld,rfl⟩:=ha
 obtain⟨neg',m',d',lm',ld',rfl,hm',hd',hsm',hsd',hlm',hld',rfl⟩:=hb
 obtain⟨a,n,c,rfl⟩:=hm.shape
 obtain⟨b,nd,cd,rfl⟩:=hd.shape
 obtain⟨a',n',c',rfl⟩:=hm'.shape
 obtain⟨b',nd',cd',rfl⟩:=hd'.shape
 refine hE.go sG (by decide) rfl ?_
 obtain⟨n1,o1,g1,g2,g3⟩:=J5 s (BQ neg (.slice a n c) (.slice b nd cd)) (BQ neg' (.slice a' n' c') (.slice b' nd' cd')) ZQ
 simp only[wo,mf,mh,Xa,Xh,CE,Xc,Aq,Dr,Qa,Qb,Qc,Qd,Qf,Qh,Qj,Qk,Ql,Qm,Qo,true_and,Qp,Qq,Qr,Qs,Qt,Qv,Rb,Rh,Rj]
 generalize newObj (newObj (newObj s (BQ neg (.slice a n c) (.slice b nd cd))) (BQ neg' (.slice a' n' c') (.slice b' nd' cd'))) ZQ=s1 at *
 have L:∀S,Af s1.next s1 S→_:=fun S o=>(Dx ((o.2 s.next (by omega)).trans g1)).1
 have L':∀S,Af s1.next s1 S→_:=fun S o=>(Dx ((o.2 (s.next+1) (by omega)).trans g2)).1
 have M:∀S,Af s1.next s1 S→_:=fun S o=>(Dx ((o.2 s.next (by omega)).trans g1)).2
 have M':∀S,Af s1.next s1 S→_:=fun S o=>(Dx ((o.2 (s.next+1) (by omega)).trans g2)).2
 have dl:=I2 hsd hld hka
 have dl':=I2 hsd' hld' hkb
 simp only[L s1 (Af.refl _ _),L' s1 (Af.refl _ _),M s1 (Af.refl _ _),M' s1 (Af.refl _ _),Qm]
 refine Fq hE ((Qn.bi hm hsm hlm).old o1) ((Qn.bi hm' hsm' hlm').old o1) (by omega) fun s3 v3 o3 r3=>?_
 refine⟨by simp only[C7,L s3 o3,L' s3 o3,BY,Cr,Qj,Qk,Qo,and_true,Qr,Qs],?_⟩
 have o13:=o1.trans (o3.mono o1.1)
 simp only[Qr,Qs]
 refine FK hE ⟨_,_,_,rfl⟩ (hd.old o13) hsd (by omega) fun s7 v7 o7 r7=>?_
 have o37:=o3.trans (o7.mono o3.1)
 refine⟨by simp only[C7,L' s7 o37,BY,Cr,Qj,Qk,Qo,and_true,Qr,Qs],?_⟩
 have o17:=o13.trans (o7.mono o13.1)
 simp only[Qr,Qs]
 refine FK hE ⟨_,_,_,rfl⟩ (hd'.old o17) hsd' (by omega) fun s8 v8 o8 r8=>?_
 have o18:=o17.trans (o8.mono o17.1)
 simp only[Qd,Qo,true_and,Qr,Qs]
 refine Fq hE ((r7.old o8).nat dl) (r8.nat dl') (by omega) fun s9 v9 o9 r9=>?_
 have o19:=o18.trans (o9.mono o18.1)
 rw[← zz]at r9
 simp only[Qd,Qo,true_and,Qr,Qs]
 have b6:(Bx neg (AG lm) * Bx neg' (AG lm')).natAbs<LB ^ (ka+kb):=by
  rw[zf,CO,CO]
  exact Bq (DX hsm hlm) (DX hsm' hlm')
 refine Vy hE ((((r3.old o7).old o8).old o9).bi b6) (r9.nat (k:=ka+kb) (Bq dl dl')) (zL (C9 _) (C9 _)) (by omega) (by omega) fun s10 v10 o10 r10 b10=>?_
 rw[← fg]at r10
 have o38:=o37.trans (o8.mono o37.1)
 have o39:=o38.trans (o9.mono o38.1)
 have o3a:=o39.trans (o10.mono o39.1)
 have f4:=(o3a.2 (s.next+1+1) (by omega)).trans g3
 change QC s10 v10 (Cb neg (AG lm) (AG ld) * Cb neg' (AG lm') (AG ld'))at r10
 obtain⟨a3,n3,c3,b3,m3,d3,rfl⟩:=r10.shape
 obtain⟨st,ld'⟩:=CG (cs0:=[.bool false,.slice none 0 (some 0),.slice none 0 (some 0)]) rfl (x:=decide ((Cb neg (AG lm) (AG ld) * Cb neg' (AG lm') (AG ld')).num<0)) (a:=a3) (n:=n3) (c:=c3) (b:=b3) (m:=m3) (d:=d3) f4
 simp only[st,ld',AQ,Xy,Za,Qd,Qj,Qm,Qo,true_and,Qr,Qs,Rk,Rn,Yc]
 exact hK _ _ ((o19.trans (o10.mono o19.1)).set (by omega) _) (r10.box f4 rfl) fun j hj=>⟨xh o19.1 (b10 j hj).1,(b10 j hj).2⟩
end
def dl(n m:Int):Rat:=if m=n then 1 else 0
theorem PE(n:Int):dl n n=1:=if_pos rfl
theorem Nc{n m:Int}(h:m≠n):dl n m=0:=if_neg h
theorem PH{n:Int}:∀ {L:List (Int×Rat)},(∀p∈L,p.1≠n)→Eg (dl n) L=0
 | [],_=>rfl
 | p::L,h=>by
  show p.2 * dl n p.1+Eg (dl n) L=0
  rw[Nc (h p (yC ..)),PH fun q hq=>h q (yK _ hq),Rat.mul_zero,Rat.add_zero]
def Can(L:List (Int×Rat)):Prop:=(L.map (·.1)).Pairwise (·<·)∧∀p∈L,p.2≠0
theorem Can.tail{p:Int×Rat}{L:List (Int×Rat)}(h:Can (p::L)):Can L∧∀q∈L,p.1<q.1:=by
 obtain⟨h1,h2⟩:=h
 rw[yw,List.pairwise_cons]at h1
 exact⟨⟨h1.2,fun q hq=>h2 q (yK _ hq)⟩,fun q hq=>h1.1 q.1 (List.mem_map.2 ⟨q,hq,rfl⟩)⟩
theorem Can.head{p:Int×Rat}{L:List (Int×Rat)}(h:Can (p::L)):Eg (dl p.1) (p::L)=p.2:=by
 show p.2 * dl p.1 p.1+Eg (dl p.1) L=p.2
 rw[PE,PH fun q hq=>by have:=h.tail.2 q hq;omega,Rat.mul_one,Rat.add_zero]
theorem Can.below{p:Int×Rat}{L:List (Int×Rat)}(h:Can (p::L)){n:Int}(hn:n<p.1):Eg (dl n) (p::L)=0:=
 PH fun q hq=>by
  rcases List.mem_cons.1 hq with rfl | hq
  ·omega
  ·have:=h.tail.2 q hq
   omega
theorem Lx       : ∀ {L M : List (Int × Rat)}, Can L → Can M → (∀ n, Eg  (dl n) L = Eg  (dl n) M) → L = M
  | [],[],_,_,_=>rfl
  | [],q::M,_,hM,h=>by
    have h1:=h q.1
    rw[hM.head]at h1
    exact absurd h1.symm (hM.2 q (yC ..))
  | p::L,[],hL,_,h=>by
    have h1:=h p.1
    rw[hL.head]at h1
    exact absurd h1 (hL.2 p (yC ..))
  | p::L,q::M,hL,hM,h=>by
    have hpq:p.1=q.1:=by
      rcases Int.lt_trichotomy p.1 q.1 with h1 | h1 | h1
      · have h2:=h p.1
        rw[hL.head,hM.below h1]at h2
        exact absurd h2 (hL.2 p (yC ..))
      · exact h1
      · have h2:=h q.1
        rw[hM.head,hL.below h1]at h2
        exact absurd h2.symm (hM.2 q (yC ..))
    have hq2:p.2=q.2:=by
      have h2:=h p.1
      rw[hL.head,hpq,hM.head]at h2
      exact h2
    have e:p=q:=Prod.ext hpq hq2
    subst e
    congr 1
    refine Lx hL.tail.1 hM.tail.1 fun n=>?_
    have h3:=h n
    have h4:p.2 * dl n p.1+Eg (dl n) L=p.2 * dl n p.1+Eg (dl n) M:=h3
    generalize Eg (dl n) L=x at h4 ⊢
    generalize Eg (dl n) M=y at h4 ⊢
    grind
theorem OG:∀ {l:List Int},l.Pairwise (·≤·)→l.Nodup→l.Pairwise (·<·)
 | [],_,_=>List.Pairwise.nil
 | x::l,h,hn=>by
  obtain⟨h1,h2⟩:=List.pairwise_cons.1 h
  obtain⟨n1,n2⟩:=List.nodup_cons.1 hn
  refine List.pairwise_cons.2 ⟨fun y hy=>?_,OG h2 n2⟩
  have:=h1 y hy
  rcases Int.lt_or_eq_of_le this with h | rfl
  ·exact h
  ·exact absurd hy n1
theorem Lv{T:List Co}(h:(BM T).Nodup):Can (Bu T):=by
  constructor
  · have h1 : ((Di    (BM    T)).map fun n => (n, Cy   n T)).map (·.1) = Di    (BM    T) := by rw [yr];           exact List.map_id _
    have h2:((Bu T).map (·.1)).Sublist (Di (BM T)):=by
      have:=(List.filter_sublist (l:=(Di (BM T)).map fun n=>(n,Cy n T)) (p:=fun p=>decide (p.2≠0))).map (·.1)
      rw[h1]at this
      exact this
    exact(OG (GT _) (KY h)).sublist h2
  · intro p hp
    have:=(List.mem_filter.1 hp).2
    simpa using this
theorem VA:∀ (vs:List Int)(cs:List Rat)(T:List Co),(BM T).Nodup→∃T',Gs 1 vs cs T T'∧(BM T').Nodup
 | [],cs,T,h=>⟨T,.nil1 cs T,h⟩
 | n::vs,[],T,h=>⟨T,.nil2 _ T,h⟩
 | n::vs,c::cs,T,h=>by
  obtain⟨T',h1,h2⟩:=VA vs cs (Dv n (Cy n T+c * 1) (.bool false) T) (J6 h)
  exact⟨T',.cons (.bool false) h1,h2⟩
theorem rS{L:List (Int×Rat)}{vs:List Int}{cs:List Rat}(hc:Can L)(h:∀n,Eg (dl n) L=Cq (dl n) vs cs)(a:Int→Rat):Eg a L=Cq a vs cs:=by
 obtain⟨T,h1,h2⟩:=VA vs cs [] (by simp[BM])
 have e:L=Bu T:=Lx hc (Lv h2) fun n=>by
  rw[h n,K6 (dl n) h2,h1.ev]
  show _=0+_ * 1
  rw[Rat.mul_one,Rat.zero_add]
 rw[e,K6 a h2,h1.ev]
 show 0+_ * 1=_
 rw[Rat.mul_one,Rat.zero_add]
theorem Lw{L M:List (Int×Rat)}(h1:Can L)(h2:Can M)(h:∀a,Eg a L=Eg a M):L=M:=Lx h1 h2 fun n=>h _
theorem ic      {L : List (Int × Rat)} (h : Can L) {v : Int} {c : Rat} (hc : c ≠ 0) (hv : ∀ p ∈ L, p.1 ≠ v) {k : Nat} (h1 : ∀ j p, j < k → L[j]? = some p → p.1 < v) (h2 : ∀ p, L[k]? = some p → ¬ p.1 < v) : Can (L.take k ++ (v, c) :: L.drop k) := by
  have hs:((L.take k).map (·.1)++(L.drop k).map (·.1)).Pairwise (·<·):=by
    rw[← zj,zB];exact h.1
  obtain⟨s1,s2,s3⟩:=List.pairwise_append.1 hs
  have hlo:∀x∈(L.take k).map (·.1),x<v:=fun x hx=>by
    obtain⟨p,hp,rfl⟩:=List.mem_map.1 hx
    obtain⟨j,hj,e⟩:=List.getElem_of_mem hp
    have hjk:j<k:=by rw[xz]at hj;omega
    rw[List.getElem_take]at e
    exact h1 j p hjk (by rw[← e];exact xe _)
  have hhi:∀x∈(L.drop k).map (·.1),v<x:=fun x hx=>by
    obtain⟨p,hp,rfl⟩:=List.mem_map.1 hx
    have hne:=hv p (A0B hp)
    cases hd:L.drop k with
    | nil=>rw[hd]at hp;cases hp
    | cons q M =>
      have hq:L[k]? = some q:=by
        have:(L.drop k)[0]? = some q:=by rw[hd];rfl
        rw[yn]at this
        exact this
      have hq2:=h2 q hq
      rw[hd]at hp s2
      have hqv:v<q.1:=by have:=hv q (yG hq);omega
      rcases List.mem_cons.1 hp with rfl | hp
      · exact hqv
      · rw[yw,List.pairwise_cons]at s2
        have:=s2.1 p.1 (List.mem_map.2 ⟨p,hp,rfl⟩)
        omega
  constructor
  · rw [zj,              yw]
    refine List.pairwise_append.2 ⟨s1,List.pairwise_cons.2 ⟨hhi,s2⟩,fun x hx y hy=>?_⟩
    rcases List.mem_cons.1 hy with rfl | hy
    · exact hlo x hx
    · exact s3 x hx y hy
  · intro p hp
    rcases zx.1 hp with hp | hp
    · exact h.2 p (A0K hp)
    · rcases List.mem_cons.1 hp with rfl | hp
      · exact hc
      · exact h.2 p (A0B hp)
theorem ja(a:Int→Rat)(L:List (Int×Rat))(v:Int)(c:Rat)(k:Nat):Eg a (L.take k++(v,c)::L.drop k)=Eg a L+c * a v:=by
 have h:=IM a (L.take k) (L.drop k)
 rw[zB]at h
 rw[IM,h]
 show Eg a (L.take k)+(c * a v+Eg a (L.drop k))=_
 grind
structure Cg(s:AE)(a:Option (Nat×Nat))(cs:List Rat)(cells:List AV):Prop where
 len:cells.length=cs.length * 3
 rd:AU s.next s a cells
 rat:∀ (i:Nat) (q:Rat),cs[i]? = some q→QC s (.agg ((cells.drop (i * 3)).take 3)) q
theorem Cg.old{s s':AE}{a:Option (Nat×Nat)}{cs:List Rat}{cells:List AV}(h:Cg s a cs cells)(o:Af s.next s s'):Cg s' a cs cells:=
 ⟨h.len,(h.rd.old o (xZ _)).mono o.1,fun i q hi=>(h.rat i q hi).old o⟩
theorem Cg.at{s:AE}{a:Option (Nat×Nat)}{cs:List Rat}{cells:List AV}{k:Nat}(h:Cg s a cs cells)(hk:∀q∈cs,QH q k):Ej s a cs k cells:=
 ⟨h.len,h.rd,fun i q hi=>(h.rat i q hi).qi (hk q (yG hi))⟩
theorem qv:∀cs:List Rat,∃k,∀q∈cs,QH q k
 | []=>⟨0,fun q h=>by cases h⟩
 | x::cs=>by
  obtain⟨k,hk⟩:=qv cs
  have h2:∀n:Nat,n<LB ^ n:=fun n=>Nat.lt_pow_self (by decide)
  refine⟨k+(x.num.natAbs+x.den),fun q hq=>?_⟩
  rcases List.mem_cons.1 hq with rfl | hq
  ·exact⟨DB (h2 _) (by omega),DB (h2 _) (by omega)⟩
  ·exact(hk q hq).le (by omega)
theorem Cg.nil(s:AE):Cg s none [] []:=⟨rfl,AU.nil,fun i q h=>by cases h⟩
def qg(a:Option (Nat×Nat))(cap:Option Nat)(k sz:Nat):Option (Nat×Nat):=match a with
 | none=>none
 | some (i,o)=>match cap with
  | some c=>bif Nat.beq c k then some (i,o)else some (i,o+k * sz)
  | none=>some (i,o+k * sz)
def tt(cap:Option Nat)(k:Nat):Option Nat:=match cap with
 | some c=>some (c - k)
 | none=>none
theorem Jt{t e sz:Nat}(ht:Tryz.prog.underlying t=some (.slice e))(hs:BG Tryz.prog e=some sz)(hz:0<sz){s:AE}{a:Option (Nat×Nat)}{cap:Option Nat}{n k:Nat}(hc:EC sz s a cap n)(hk:k≤n):
    At Tryz.prog t true false false s [.slice a n cap,iv (k:Int)]=some (.slice (qg a cap k sz) (n - k) (tt cap k)):=by
  show Bj Tryz.prog s t (.slice a n cap) (some (iv (k:Int))) none none=_
  have hb:Bi (iv (k:Int)) n=some k:=by simp[Bi,Ft,AP,CQ hk,Dz]
  rcases hc with⟨c,rfl,h1,h2⟩ | ⟨rfl,i,o,r,rfl,h3,h4,h5,h6⟩
  · cases a with
    | none=>simp[Bj,ht,hs,hb,qg,tt]
    | some io=>obtain⟨i,o⟩:=io;cases hb2:Nat.beq c k<;>simp[Bj,ht,hs,hb,hb2,qg,tt]
  · have hrow : rowAt s i = some r := by unfold rowAt; rw [h4]
    have hsz:Nat.beq sz r.sz=true:=Fe h5.symm
    have ho:o≤r.n:=by have:0≤n * sz:=xg _;omega
    simp only[Bj,ht,hs,hrow,hsz,AP,hb,CQ ho,Dl (show sz≠0 by omega),Option.bind_some,Bool.true_and,Bool.and_true,Bool.not_false,cond_true]
    simp[qg,tt]
theorem R8{sz:Nat}{s:AE}{a:Option (Nat×Nat)}{cap:Option Nat}{n k:Nat}{cs:List AV}(hc:EC sz s a cap n)(hk:k≤n)(h:AU s.next s a cs)(hl:cs.length=n * sz):AU s.next s (qg a cap k sz) (cs.drop (k * sz)):=by
  intro j u hj
  rw[yn]at hj
  obtain⟨i,o,rfl,hi,g⟩:=h _ u hj
  have hlt:k * sz+j<n * sz:=by
    rcases xf (k * sz+j) cs.length with h' | h'
    · omega
    · rw[xr h']at hj;cases hj
  have hne:∀c,cap=some c→Nat.beq c k=false:=fun c e=>by
    rcases hc with⟨c',e',h1,_⟩ | ⟨e',_⟩
    · rw[e]at e'
      injection e' with e'
      subst e'
      refine Dl fun e2=>?_
      have:n=k:=by omega
      rw[this]at hlt
      omega
    · rw[e]at e';cases e'
  refine⟨i,o+k * sz,?_,hi,by rw[yR];exact g⟩
  unfold qg
  cases cap with
  | none=>rfl
  | some c =>
    show(bif Nat.beq c k then some (i,o)else some (i,o+k * sz))=_
    rw[hne c rfl];rfl
theorem Jh{s:AE}{v:AV}{n:Nat}{cs:List AV}{O:List Nat}(hd:CM 3 s v n 1 cs O){a:Option (Nat×Nat)}{cap:Option Nat}{m:Nat}{l:List Int}(h:AU s.next s a (l.map iv))(hm:l.length=m)(hn:n≤1000000)(hl:m≤1000000):
  ∃v' s' O',Ar Tryz.prog s [27,27] [v,.slice a m cap]=some (v',s')∧CM 3 s' v' (n+m) 1 (cs++l.map iv) O'∧s.next≤s'.next∧(∀j,j<s.next→j ∉ O→s'.heap.get j=s.heap.get j)∧(∀j∈O',j∈O∨s.next≤j)∧(∀j,By v'=some j→By v=some j∨s.next≤j):=by
 subst hm
 obtain⟨v',s',O',h1,h2,h3,_,h5,h6,h7⟩:=hd.append Tryz.underlying27 OJ ve (by decide) Wm iB (KG (e:=3) (sz:=1) (cap:=cap) (n:=l.length) h (by simp) (by decide)) (by simp) (jh l) (by omega) (by omega)
 exact⟨v',s',O',h1,h2,h3,h5,h6,h7⟩
theorem HX{s:AE}{v:AV}{n:Nat}{cs:List AV}{O:List Nat}(hd:CM 26 s v n 3 cs O){a:Option (Nat×Nat)}{cap:Option Nat}{m:Nat}{l:List Rat}{cells:List AV}(h:Cg s a l cells)(hm:l.length=m)(hn:n≤1000000)(hl:m≤1000000):
  ∃v' s' O',Ar Tryz.prog s [28,28] [v,.slice a m cap]=some (v',s')∧CM 26 s' v' (n+m) 3 (cs++cells) O'∧s.next≤s'.next∧(∀j,j<s.next→j ∉ O→s'.heap.get j=s.heap.get j)∧(∀j∈O',j∈O∨s.next≤j)∧(∀j,By v'=some j→By v=some j∨s.next≤j):=by
 subst hm
 obtain⟨k,hk⟩:=qv l
 obtain⟨v',s',O',h1,h2,h3,_,h5,h6,h7⟩:=hd.append Tryz.underlying28 A9 rG (by decide) P4 U2 (KG (e:=26) (sz:=3) (cap:=cap) (n:=l.length) h.rd h.len (by decide)) h.len (Xq (h.at hk)) (by omega) (by omega)
 exact⟨v',s',O',h1,h2,h3,h5,h6,h7⟩
structure LP(s:AE)(av:Option (Nat×Nat))(capv:Option Nat)(ac:Option (Nat×Nat))(capc:Option Nat)(cells:List AV)(vs:List Int)(cs:List Rat):Prop where
 vc:AU s.next s av (vs.map iv)
 vi:∀n∈vs,i64 n
 vz:EC 1 s av capv vs.length
 rs:Cg s ac cs cells
 cz:EC 3 s ac capc cs.length
theorem LP.old{s s':AE}{av ac:Option (Nat×Nat)}{capv capc:Option Nat}{cells:List AV}{vs:List Int}{cs:List Rat}(h:LP s av capv ac capc cells vs cs)(o:Af s.next s s'):LP s' av capv ac capc cells vs cs:=
 ⟨(h.vc.old o (xZ _)).mono o.1,h.vi,h.vz.old o,h.rs.old o,h.cz.old o⟩
def LC(bb:Nat)(s:AE)(v:AV)(C:Rat)(L:List (Int×Rat)):Prop:=∃x a n c b m d av capv ac capc cells,
 v=.agg [.bool x,.slice a n c,.slice b m d,.slice av (L.map (·.1)).length capv,.slice ac (L.map (·.2)).length capc]∧QC s (.agg [.bool x,.slice a n c,.slice b m d]) C∧LP s av capv ac capc cells (L.map (·.1)) (L.map (·.2))∧(∀i q,av=some (i,q)→bb≤i)∧(∀i q,ac=some (i,q)→bb≤i)
theorem LC.mono{bb b':Nat}{s:AE}{v:AV}{C:Rat}{L:List (Int×Rat)}(h:LC bb s v C L)(hb:b'≤bb):LC b' s v C L:=by
 obtain⟨x,a,n,c,b,m,d,av,capv,ac,capc,cells,h1,h2,h3,h4,h5⟩:=h
 exact⟨x,a,n,c,b,m,d,av,capv,ac,capc,cells,h1,h2,h3,fun i q h=>xh hb (h4 i q h),fun i q h=>xh hb (h5 i q h)⟩
theorem LC.shape{bb:Nat}{s:AE}{v:AV}{C:Rat}{L:List (Int×Rat)}(h:LC bb s v C L):∃x a n c b m d av capv ac capc,v=.agg [.bool x,.slice a n c,.slice b m d,.slice av (L.map (·.1)).length capv,.slice ac (L.map (·.2)).length capc]:=by
 obtain⟨x,a,n,c,b,m,d,av,capv,ac,capc,cells,h1,h2⟩:=h
 exact⟨_,_,_,_,_,_,_,_,_,_,_,h1⟩
theorem LC.li{bb:Nat}{s:AE}{v:AV}{C:Rat}{L:List (Int×Rat)}{k:Nat}(h:LC bb s v C L)(hC:QH C k)(hL:∀p∈L,QH p.2 k):LI s v C (L.map (·.1)) (L.map (·.2)) k:=by
 obtain⟨x,a,n,c,b,m,d,av,capv,ac,capc,cells,h1,h2,h3,_⟩:=h
 exact⟨x,a,n,c,b,m,d,av,capv,ac,capc,cells,h1,h2.qi hC,h3.vc,h3.vi,h3.rs.at (fun q hq=>by obtain⟨p,hp,rfl⟩:=List.mem_map.1 hq;exact hL p hp),h3.vz,h3.cz⟩
theorem LC.lx{bb:Nat}{s:AE}{v:AV}{C:Rat}{L:List (Int×Rat)}{k:Nat}(h:LC bb s v C L)(hC:QH C k)(hL:∀p∈L,QH p.2 k)(hk:k≤1000000000):LX s v (qx C) (L.map (·.1)) (L.map fun p=>qx p.2):=by
 obtain⟨x,a,n,c,b,m,d,av,capv,ac,capc,cells,rfl,h2,h3,_⟩:=h
 have h2':=h2
 obtain⟨_,_,e,_⟩:=h2'
 injection e with e
 injection e with e _
 injection e with e
 subst e
 refine⟨a,n,c,b,m,d,av,capv,ac,capc,cells,by rw[yE,yE,yE];rfl,h2.qx hC hk,h3.vc,by rw[h3.rs.len,yE,yE],h3.rs.rd,fun i x hi=>?_⟩
 rw[yY]at hi
 cases hp:L[i]? with
 | none=>rw[hp]at hi;cases hi
 | some p =>
  rw[hp]at hi
  injection hi with hi
  subst hi
  exact(h3.rs.rat i p.2 (by rw[yY,hp];rfl)).qx (hL p (yG hp)) hk
end
end Go.Proofs.YtjnkfbpadpmakaaGreatDoor.Am
