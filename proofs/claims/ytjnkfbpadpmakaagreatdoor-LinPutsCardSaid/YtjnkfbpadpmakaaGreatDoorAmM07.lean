/- Package nat: Sub, walked; conditions: none. -/
import Derived.Test.YtjnkfbpadpmakaaGreatDoorAmM06
import Derived.Test.YtjnkfbpadpmakaaGreatDoorAmM01
import Derived.Test.YtjnkfbpadpmakaaGreatDoorAmM04
set_option linter.unusedVariables false
set_option linter.unusedSimpArgs false
set_option maxRecDepth 16000
namespace Go.Proofs.YtjnkfbpadpmakaaGreatDoor.Am
open Go Go.Proofs
noncomputable section
theorem NO:∀ (P:List (Nat×Nat))(c:Nat),(Fy P c).1.length=P.length
 | [],_=>rfl
 | p::P,c=>by show(Fy P _).1.length+1=P.length+1;rw[NO P]
theorem Iv:∀ (P:List (Nat×Nat))(c:Nat),Bi (Fy P c).1
 | [],_=>fun x hx=>by cases hx
 | p::P,c=>fun x hx=>by
  rcases List.mem_cons.1 (show x∈(p.1+LB - p.2 - c) % LB::(Fy P (if p.1<p.2+c then 1 else 0)).1 from hx)with e | e
  ·rw[e];exact A0E _ BY
  ·exact Iv P _ x e
theorem hY{a b:List Nat}(ha:Bi a)(hb:Bi b)(h:AG b≤AG a):AG (Fy (CM a b) 0).1=AG a - AG b:=by
 have h1:=Ss (CM a b) 0 (XZ ha hb) (ze _)
 have h2:=CQ (Iv (CM a b) 0)
 rw[Wi,Wk,zv]at h1
 rw[NO]at h2
 generalize AG (Fy (CM a b) 0).1=z at *
 generalize (Fy (CM a b) 0).2=c at *
 cases c with
 | zero=>rw[A0F]at h1;omega
 | succ c =>
  rw[Nat.mul_succ]at h1
  generalize LB ^ (CM a b).length=w at *
  generalize w * c=q at *
  omega
theorem Vl(a b:Nat):decide (IE a b<0)=decide (a<b):=by
 unfold IE
 by_cases h:a<b
 ·rw[if_pos h];simp[h]
 ·rw[if_neg h]
  split<;>simp[h]
section
variable{E:CR}{s:AE}
theorem hZ     (hE : GoodN E) {va vb : AV} {la lb : List Nat} (ha : By  s va la) (hb : By  s vb lb) (hla : la.length ≤ 1000000000) (hlb : lb.length ≤ 1000000000) (hsa : Bi  la) (hsb : Bi  lb) {K : AV → AE  → Prop}
    (hK0:AG la<AG lb→∀s',Aa s.next s s'→K (.tuple [.slice none 0 (some 0),.bool false]) s')
    (hK1:AG lb≤AG la→∀s' v,Aa s.next s s'→NR s.next s' v (AR (AG la - AG lb))→K (.tuple [v,.bool true]) s'):WF E 154 [va,vb] K s:=by
  refine hE.go jj (by decide) rfl ?_
  simp only[wI,bP,bQ,Qa,Qb,Qc,Qd,Qf,Qh,Qi,Qj,Qk,Ql,Qm,Qo,true_and,Qp,Qq,Qr,Qs,Qt,Qv,Rb,Rc,Rh,Rk,Rm,Rp,Yc,A1p,A1u]
  refine ef hE ha hb (by omega) (by omega) hsa hsb fun S oS=>?_
  by_cases hlt:AG la<AG lb
  · have d1:decide (AG la<AG lb)=true:=decide_eq_true hlt
    simp only[bR,Ry,Vl,d1,Qb,Qc,Qd,Qf,Qh,Qi,Qm,Qo,true_and,Qp,Qq,Qr,Qs,Qt,Qv,Qz,Rj,Ry,A1p]
    exact hK0 hlt S oS
  · have d1 : decide (AG   la < AG   lb) = false := decide_eq_false hlt
    have hNa:=ha.old oS
    have hNb:=hb.old oS
    have hSn:=oS.1
    generalize hn0:S.next=n0 at *
    have za:Ag Tryz.prog 22=some (R 22 0 false [.slice none 0 (some 0)],.ptr):=by kernel_rfl
    have zc:Ag Tryz.prog 69=some (R 69 0 false [.int .u64 0],.ptr):=by kernel_rfl
    generalize hS1:newObj S (R 22 0 false [.slice none 0 (some 0)])=S1
    have n1:S1.next=n0+1:=by rw[← hS1,← hn0];rfl
    have o1:∀j,j<n0→S1.heap.get j=S.heap.get j:=fun j hj=>by rw[← hS1,AU,if_neg (by omega)]
    have g1:S1.heap.get n0=some (R 22 0 false [.slice none 0 (some 0)]):=by rw[← hS1,AU,if_pos hn0.symm]
    generalize hS2:newObj S1 (R 69 0 false [.int .u64 0])=S2
    have n2:S2.next=n0+2:=by rw[← hS2];show S1.next+1=_;omega
    have g2:S2.heap.get (n0+1)=some (R 69 0 false [.int .u64 0]):=by rw[← hS2,AU,if_pos n1.symm]
    have o2:∀j,j<n0+1→S2.heap.get j=S1.heap.get j:=fun j hj=>by rw[← hS2,AU,if_neg (by omega)]
    have st:=CN (P:=Tryz.prog) (t:=69) (o:=0) (v:=.int .u64 0) iC g2 (by simp) rfl
    simp only[A0p]at st
    generalize hS3:setObj S2 (n0+1) (R 69 0 false [.int .u64 0])=S3 at st
    have n3:S3.next=n0+2:=by rw[← hS3];exact n2
    have g3:S3.heap.get (n0+1)=some (R 69 0 false [An 0]):=by rw[← hS3,Ww];rfl
    have o3:∀j,j<n0+1→S3.heap.get j=S1.heap.get j:=fun j hj=>by rw[← hS3,Wx _ (by omega),o2 j hj]
    obtain⟨aA,cA,eA,hcapA,hcA⟩:=hNa
    obtain⟨aB,cB,eB,hcapB,hcB⟩:=hNb
    simp only[bS,bT,bU,Ry,Vl,d1,za,zc,Xc,hn0,hS1,n1,hS2,st,Xy,Za,Qb,Qc,Qd,Qf,Qh,Qi,Qj,Qm,Qo,true_and,Qp,Qq,Qr,Qs,Qt,Qv,Ra,Ry,A1r]
    refine SS hE (by rw[eA];rfl) (by rw[eB];rfl) fun S4 n4 f4 b1 b2 b3=>?_
    rw[n3]at n4 f4 b1 b2 b3 ⊢
    subst eA;subst eB
    simp only[Qd,Qo,true_and,Qp,Qq]
    refine WC.range rfl ?_
    rw[show S4.next=n0+5 by omega]
    show WF E 188 [.yield (n0+6),.ptr (some (n0+2,0)),.ptr (some (n0+2+1,0)),.ptr (some (n0+2+2,0))] _ (newObj (newObj S4 .mark) (.loop (Ma _ _ _ _ _ _ _ _ n0 _ _)))
    generalize hlo:Ma _ _ _ _ _ _ _ _ n0 _ _=lo
    have hm1:(newObj S4 .mark).next=n0+6:=by show S4.next+1=_;omega
    generalize hs0:newObj (newObj S4 .mark) (.loop lo)=s0
    have n0':s0.next=n0+7:=by rw[← hs0];show S4.next+1+1=_;omega
    have f0:∀j,j<n0+5→s0.heap.get j=S4.heap.get j:=fun j hj=>by rw[← hs0,AU,if_neg (by omega),AU,if_neg (by omega)]
    have hmk0:s0.heap.get (n0+5)=some .mark:=by rw[← hs0,AU,if_neg (by omega),AU,if_pos (by omega)]
    have hlp0:Ba s0 (n0+6)=some lo:=by
      unfold Ba
      rw[← hs0,AU,if_pos hm1.symm]
    have o0:Aa n0 S s0:=⟨by omega,fun j hj=>by rw[f0 j (by omega),f4 j (by omega),o3 j (by omega),o1 j hj]⟩
    have hPl:=Mt la lb
    have hPv:=hY hsa hsb (by omega)
    have hPs:=Iv (CM la lb) 0
    have hPn:=NO (CM la lb) 0
    refine OG hE (s0:=s0) (n0:=n0) (p:=n0+2) (l:=n0+6) (la:=la) (lb:=lb) (ca:=cA) (cb:=cB) (a:=aA) (b:=aB) (by omega) (by omega) hsa hsb ((hcA.old o0 (A0L hn0)).mono (A0L hn0)) ((hcB.old o0 (A0L hn0)).mono (A0L hn0)) ((f0 _ (by omega)).trans b1) ((f0 _ (by omega)).trans b2) ((f0 _ (by omega)).trans b3)
      (sZ n0 s0 lo (CM la lb) (Fy (CM la lb) 0)) (fun k s h=>h.pk) (fun k s K hk hI hK=>by
        subst hlo
        exact X3 hE (by rw[hPl];omega) (Ms hk) (Hr hsa k) (Hr hsb k) hI hK)
      ⟨PK.refl _ _ _,by omega,hlp0,hmk0,_,[],[],0,?_,?_,B9.nil s0 1,fun j hj=>(by cases hj),fun j hj=>(by cases hj),rfl,by omega,rfl⟩ (fun v s' hI=>?_)
    · rw[f0 n0 (by omega),f4 n0 (by omega),o3 n0 (by omega)];exact g1
    · rw[f0 (n0+1) (by omega),f4 (n0+1) (by omega)];exact g3
    obtain⟨pk,hlt',hlp,hmk,vo,d,O,c,k1,k2,hD,hO,hsl,hdl,hc,hT⟩:=hI
    rw[A0D (by rw[hPl];omega)]at hT
    simp only[Fy,A1C]at hT
    rw[← hT]at hPv hPs hPn
    simp only at hPv hPs hPn
    refine⟨lo,hlp,by rw[← hlo];rfl,?_⟩
    have hpd:lo.pending=none:=by rw[← hlo];rfl
    rw[hpd]
    generalize hs6:setObj s' (n0+5+1) _=s6
    have n6:s6.next=s'.next:=by rw[← hs6];rfl
    have f6:∀j,j≠n0+6→s6.heap.get j=s'.heap.get j:=fun j hj=>by rw[← hs6,Wx _ (by omega)]
    have hD6:B9 76 s6 vo d.length 1 (us d) O:=hD.frame (A0L n6.symm) (fun j hj=>f6 j (by have:=hsl j hj;omega))
    have ld1:AB Tryz.prog s6 22 (.ptr (some (n0,0)))=some vo:=AI Cq ((f6 n0 (by omega)).trans k1) rfl
    simp only[Lf,VY,ld1,Qb,Qc,Qd,Qf,Qh,Qi,Qj,Qk,Qm,Qo,true_and,Qr,Qs,Qt,Qv,Rb,Re,A1m,A1u,A1p]
    have hN:By s6 vo d:=B9.n32 hD6
    refine C8 hE hN (by rw[hdl];omega) fun s7 v7 o7 r7=>?_
    rw[B8 hPs,hPv]at r7
    have g7:=o7.1
    obtain⟨s8,u1,u2,u3⟩:=GQ [n0+5] s7 (by simp) (fun m h=>by
      rw[A1d.1 h,o7.2 _ (by omega),f6 _ (by omega)];exact hmk)
    simp only[u1,Qd,Qm,Qo,true_and,Qp,Qq,Qr,Qs]
    refine hK1 (by omega) s8 v7 ⟨by omega,fun j hj=>?_⟩ ((r7.keep (by omega) (fun j hj=>u3 j (fun h=>?_))).mono (by omega))
    · rw[u3 j (fun h=>by rw[A1d.1 h]at hj;omega),o7.2 j (by omega),f6 j (by omega),pk.low j (by omega),o0.2 j (by omega),oS.2 j hj]
    · obtain⟨O,_,_,q,_⟩:=r7
      have:=q j hj
      rw[A1d.1 h]at this
      omega
end
end
end Go.Proofs.YtjnkfbpadpmakaaGreatDoor.Am
set_option linter.unusedVariables false
set_option linter.unusedSimpArgs false
set_option maxRecDepth 100000
namespace Go.Proofs.YtjnkfbpadpmakaaGreatDoor.Am
open Go Go.Proofs
noncomputable section
theorem CO:BJ Tryz.prog 24=some 2:=by kernel_rfl
theorem DN:EO Tryz.prog 24=some true:=by kernel_rfl
theorem CY(i o:Nat):AC Tryz.prog 24 (.ptr (some (i,o))) 0=some (.ptr (some (i,o+0))):=by kernel_rfl
theorem CZ(i o:Nat):AC Tryz.prog 24 (.ptr (some (i,o))) 1=some (.ptr (some (i,o+1))):=by kernel_rfl
def TU:List AA:=[
 A1r 24 2]
def TV:List AA:=[
 A1t (.var 1),
 A1u 92 [.loc 0],
 A1p (.loc 0) 1]
def Ls:List AA:=[
 ⟨(some ((.var 0),true)),.p1 some,[.var 1],.push,[]⟩,
 ⟨(some ((.var 0),true)),.r (fun s l=>match l with | [x]=>Ay Tryz.prog s 22 x | _=>none),[.loc 0],.push,[]⟩,
 ⟨(some ((.var 0),true)),.p2 (AN Tryz.prog .gtr 3),[(.loc 0),(.const (.int .i64 (0)))],.push,[]⟩,
 ⟨none,.p Ru,[(.var 0),(.loc 0),(.const (.bool false))],.push,[]⟩,
 ⟨none,.p (fun l=>Be Tryz.prog 24 (zipIdx [0,1] l)),[.loc 0,.var 1],.push,[]⟩,
 A1o 24 (.var 2) (.loc 0)]
def sj:Ah:=⟨2,3,(.seq (.ops TU) (.seq (.ops TV) (.seq (.ops Ls) .ret))),[((.var 2),some 24)]⟩
def Z4:List AA:=[
 A1q 24 (.var 0) 1,
 A1r 24 2]
def Z5:List AA:=[
 A1n 24 0 (.var 1),
 A1m 4 (.loc 0),
 A1n 24 1 (.var 1),
 A1m 22 (.loc 0),
 A1u 107 [.loc 2,.loc 0],
 A1o 24 (.var 2) (.loc 0)]
def wA:Ah:=⟨1,3,(.seq (.ops Z4) (.seq (.ops Z5) .ret)),[((.var 2),some 24)]⟩
def aq:List AA:=[
 A1q 24 (.var 0) 2,
 A1q 24 (.var 1) 3,
 A1r 24 4]
def au:List AA:=[
 A1m 24 (.var 2),
 A1m 24 (.var 3),
 ⟨none,.call 132,[.loc 1],.push,[⟨none,.r1 (fun s a=>AB Tryz.prog s 24 a),[.var 3],(.loc 1)⟩]⟩,
 A1u 132 [.loc 1],
 A1o 24 (.var 2) (.loc 1),
 A1o 24 (.var 3) (.loc 1)]
def Td:List AA:=[
 A1n 24 0 (.var 2),
 A1m 4 (.loc 0),
 A1n 24 0 (.var 3),
 A1m 4 (.loc 0),
 A1x .eql 4 (.loc 2) (.loc 0) 8]
def ay:List AA:=[
 A1n 24 0 (.var 2),
 A1m 4 (.loc 0),
 A1n 24 1 (.var 2),
 A1m 22 (.loc 0),
 A1n 24 1 (.var 3),
 A1m 22 (.loc 0),
 ⟨none,.call 153,[.loc 2,.loc 0],.push,[⟨none,.r1 (fun s a=>AB Tryz.prog s 4 a),[.loc 6],(.loc 5)⟩]⟩,
 A1u 107 [.loc 5,.loc 0],
 A1o 24 (.var 4) (.loc 0)]
def az:List AA:=[
 A1n 24 1 (.var 2),
 A1m 22 (.loc 0),
 A1n 24 1 (.var 3),
 A1m 22 (.loc 0),
 A1u 154 [.loc 2,.loc 0],
 ⟨none,.p1 (fun x=>Zb x 0),[.loc 0],.push,[]⟩,
 ⟨none,.p1 (fun x=>Zb x 1),[.loc 1],.push,[]⟩,
 A1p (.loc 1) 5,
 A1p (.loc 0) 6]
def Te:List AA:=[
 A1p (.var 6) 9]
def bA:List AA:=[
 A1n 24 0 (.var 2),
 A1m 4 (.loc 0),
 A1u 107 [.loc 0,.var 5],
 A1o 24 (.var 4) (.loc 0)]
def bB:List AA:=[
 A1n 24 1 (.var 3),
 A1m 22 (.loc 0),
 A1n 24 1 (.var 2),
 A1m 22 (.loc 0),
 A1u 154 [.loc 2,.loc 0],
 ⟨none,.p1 (fun x=>Zb x 0),[.loc 0],.push,[]⟩,
 ⟨none,.p1 (fun x=>Zb x 1),[.loc 1],.push,[]⟩,
 A1p (.loc 1) 7,
 A1t (.loc 0)]
def bC:List AA:=[
 A1n 24 0 (.var 3),
 A1m 4 (.loc 0),
 A1u 107 [.loc 0,.var 7],
 A1o 24 (.var 4) (.loc 0)]
def wF:Ah:=⟨2,10,(.seq (.ops aq) (.seq (.ops au) (.seq (.seq (.ops Td) (.cond (.var 8)
 (.seq (.ops ay) .ret)
 .skip)) (.seq (.seq (.ops az) (.seq (.ops Te) (.cond (.var 9)
 (.seq (.ops bA) .ret)
 .skip))) (.seq (.ops bB) (.seq (.ops bC) .ret)))))),[((.var 4),some 24)]⟩
def Zg:List AA:=[
 A1q 24 (.var 0) 2,
 A1q 24 (.var 1) 3,
 A1r 24 4]
def Zh:List AA:=[
 A1n 24 0 (.var 2),
 A1m 4 (.loc 0),
 A1n 24 0 (.var 3),
 A1m 4 (.loc 0),
 A1w .neq 4 (.loc 2) (.loc 0),
 A1n 24 1 (.var 2),
 A1m 22 (.loc 0),
 A1n 24 1 (.var 3),
 A1m 22 (.loc 0),
 ⟨none,.call 51,[.loc 2,.loc 0],.push,[⟨none,.r1 (fun s a=>AB Tryz.prog s 4 a),[.loc 7],(.loc 6)⟩,⟨none,.r1 (fun s a=>AB Tryz.prog s 4 a),[.loc 9],(.loc 8)⟩]⟩,
 A1u 107 [.loc 5,.loc 0],
 A1o 24 (.var 4) (.loc 0)]
def vZ:Ah:=⟨2,5,(.seq (.ops Zg) (.seq (.ops Zh) .ret)),[((.var 4),some 24)]⟩
def ZY:List AA:=[
 A1q 24 (.var 0) 3,
 A1r 24 4]
def ZZ:List AA:=[
 A1p (.var 1) 6,
 ⟨none,.r (fun s l=>match l with | [x]=>Ay Tryz.prog s 134 x | _=>none),[.var 6],(.set 7),[]⟩,
 A1p (.const (.int .i64 (0))) 8]
def TW:List AA:=[
 A1x .lss 3 (.var 8) (.var 7) 9]
def Zc:List AA:=[
 A1v 134 (.var 6) (.var 8),
 A1m 24 (.loc 0),
 A1r 24 5,
 A1o 24 (.var 5) (.loc 0)]
def Zd:List AA:=[
 A1m 24 (.var 3),
 A1m 24 (.var 5),
 ⟨none,.callv,[.var 2,.loc 1,.loc 0],.push,[]⟩,
 A1o 24 (.var 3) (.loc 0)]
def Ze:List AA:=[
 ⟨none,.p2 (AN Tryz.prog .add 3),[(.var 8),(.const (.int .i64 (1)))],.push,[]⟩,
 A1p (.loc 0) 8]
def Js:Ac:=(.seq (.ops TW) (.seq (.cond (.var 9)
 .skip
 (.exit 0)) (.seq (.block 1 (.seq (.ops Zc) (.ops Zd))) (.ops Ze))))
def Zf:List AA:=[
 A1m 24 (.var 3),
 A1o 24 (.var 4) (.loc 0)]
def vY:Ah:=⟨3,10,(.seq (.ops ZY) (.seq (.seq (.ops ZZ) (.block 0 (.loop Js))) (.seq (.ops Zf) .ret))),[((.var 4),some 24)]⟩
def ZU:List AA:=[
 A1r 24 1]
def ZV:List AA:=[
 ⟨none,.p (fun l=>Be Tryz.prog 24 (zipIdx [] l)),[],.push,[]⟩,
 ⟨none,.call 116,[(.loc 0),(.var 0),(.const (.func 141 [] []))],.push,[]⟩,
 A1o 24 (.var 1) (.loc 0)]
def vW:Ah:=⟨1,2,(.seq (.ops ZU) (.seq (.ops ZV) .ret)),[((.var 1),some 24)]⟩
def p4:List AA:=[
 A1r 24 1]
def p6:List AA:=[
 A1u 60 [(.const (.int .i64 (1)))],
 ⟨none,.call 116,[(.loc 0),(.var 0),(.const (.func 117 [] []))],.push,[]⟩,
 A1o 24 (.var 1) (.loc 0)]
def zA:Ah:=⟨1,2,(.seq (.ops p4) (.seq (.ops p6) .ret)),[((.var 1),some 24)]⟩
def Yi:List AA:=[
 A1q 24 (.var 0) 1,
 A1p (.const (.int .i64 (0))) 2]
def Yj:List AA:=[
 A1m 24 (.var 1),
 A1u 132 [.loc 0],
 A1o 24 (.var 1) (.loc 0)]
def Ox:List AA:=[
 A1n 24 0 (.var 1),
 A1m 4 (.loc 0),
 A1p (.loc 0) 3]
def Yk:List AA:=[
 A1p (.const (.int .i64 (-1))) 2]
def TK:List AA:=[
 A1n 24 1 (.var 1),
 A1m 22 (.loc 0),
 A1s 22 (.loc 0),
 ⟨none,.p2 (AN Tryz.prog .gtr 3),[(.loc 0),(.const (.int .i64 (0)))],.push,[]⟩,
 A1p (.loc 0) 4]
def Yl:List AA:=[
 A1p (.const (.int .i64 (1))) 2]
def Ym:List AA:=[
 A1p (.const (.int .i64 (0))) 2]
def vL:Ah:=⟨1,5,(.seq (.ops Yi) (.seq (.seq (.ops Yj) (.block 0 (.seq (.ops Ox) (.cond (.var 3)
 (.seq (.ops Yk) .ret)
 (.seq (.ops TK) (.cond (.var 4)
 (.seq (.ops Yl) .ret)
 .skip)))))) (.seq (.ops Ym) .ret))),[((.var 2),none)]⟩
def dg:List AA:=[
 A1r 24 1]
def dh:List AA:=[
 ⟨none,.r1 (fun s x=>A7 Tryz.prog s 2 69 x),[.var 0],.push,[]⟩,
 A1p (.loc 0) 2]
def di:List AA:=[
 ⟨none,.p2 (AN Tryz.prog .lss 2),[(.var 0),(.const (.int .i64 (0)))],(.set 3),[]⟩]
def pI:List AA:=[
 A1t (.var 2),
 ⟨none,.p1 (Sy Tryz.prog Go.UnOp.neg),[.loc 0],.push,[]⟩,
 A1p (.loc 0) 2]
def dk:List AA:=[
 ⟨none,.p2 (AN Tryz.prog .lss 2),[(.var 0),(.const (.int .i64 (0)))],.push,[]⟩,
 ⟨none,.r1 (fun s x=>A7 Tryz.prog s 69 76 x),[.var 2],.push,[]⟩,
 ⟨none,.p2 (AN Tryz.prog .shr 69),[(.var 2),(.const (.int .u64 (32)))],.push,[]⟩,
 ⟨none,.r1 (fun s x=>A7 Tryz.prog s 69 76 x),[.loc 0],.push,[]⟩,
 ⟨none,.mk (fun l=>(Ad Tryz.prog 22 2 (zipIdx [0,1] l)).bind fun r=>some (r,.slice 2)),[.loc 2,.loc 0],.push,[]⟩,
 A1u 107 [.loc 4,.loc 0],
 A1o 24 (.var 1) (.loc 0)]
def xf:Ah:=⟨1,4,(.seq (.ops dg) (.seq (.ops dh) (.seq (.seq (.ops di) (.cond (.var 3)
 (.ops pI)
 .skip)) (.seq (.ops dk) .ret)))),[((.var 1),some 24)]⟩
theorem Vn:AL Tryz.prog 107=some sj:=by kernel_rfl
theorem jZ:AL Tryz.prog 132=some wA:=by kernel_rfl
theorem je:AL Tryz.prog 141=some wF:=by kernel_rfl
theorem jR:AL Tryz.prog 117=some vZ:=by kernel_rfl
theorem jQ:AL Tryz.prog 116=some vY:=by kernel_rfl
theorem jO:AL Tryz.prog 113=some vW:=by kernel_rfl
theorem uB:AL Tryz.prog 71=some zA:=by kernel_rfl
theorem jD:AL Tryz.prog 100=some vL:=by kernel_rfl
theorem tw:AL Tryz.prog 60=some xf:=by kernel_rfl
end
end Go.Proofs.YtjnkfbpadpmakaaGreatDoor.Am
set_option linter.unusedVariables false
namespace Go.Proofs.YtjnkfbpadpmakaaGreatDoor.Am
noncomputable section
def Bw(neg:Bool)(m:Nat):Int:=if neg=true then -(m:Int)else (m:Int)
def Cw(d:Nat):Nat:=if d=0 then 1 else d
def Fe(neg:Bool)(m d:Nat):Rat:=mkRat (Bw neg m) (Cw d)
theorem Cx(d:Nat):Cw d≠0:=by unfold Cw;split<;>omega
theorem CJ(neg:Bool)(m:Nat):(Bw neg m).natAbs=m:=by unfold Bw;split<;>omega
theorem M1(neg:Bool)(m d:Nat):(Fe neg m d).num=Bw neg m / ((m.gcd (Cw d):Nat):Int):=by
 unfold Fe
 rw[Rat.num_mkRat,if_neg (Cx d),A1S]
 simp[CJ]
theorem Sb(neg:Bool)(m d:Nat):(Fe neg m d).den=Cw d / m.gcd (Cw d):=by
 unfold Fe
 rw[Rat.den_mkRat,if_neg (Cx d)]
 simp[CJ,A1S]
theorem Pr{n:Int}{d:Nat}(hd:d≠0)(neg:Bool)(m:Nat)(hn:Bw neg m=n):Fe neg m d=mkRat n d:=by
 unfold Fe Cw
 rw[if_neg hd,hn]
theorem fy{n1 n2:Int}{d1 d2:Nat}(h1:d1≠0)(h2:d2≠0):mkRat n1 d1+mkRat n2 d2=mkRat (n1 * d2+n2 * d1) (d1 * d2):=Rat.mkRat_add_mkRat n1 n2 h1 h2
theorem fz(n1 n2:Int)(d1 d2:Nat):mkRat n1 d1 * mkRat n2 d2=mkRat (n1 * n2) (d1 * d2):=Rat.mkRat_mul_mkRat n1 n2 d1 d2
structure Wr where
 neg:Bool
 num:Nat
 den:Nat
def u7(q:Rat):Wr:=⟨decide (q.num<0),q.num.natAbs,q.den⟩
theorem Wq(q:Rat):Fe (u7 q).neg (u7 q).num (u7 q).den=q:=by
 have hd:(u7 q).den≠0:=q.den_nz
 have hn:Bw (u7 q).neg (u7 q).num=q.num:=by
  unfold Bw u7
  by_cases h:q.num<0
  ·simp[h];omega
  ·simp[h];omega
 rw[Pr hd _ _ hn]
 exact Rat.mkRat_self q
end
end Go.Proofs.YtjnkfbpadpmakaaGreatDoor.Am
set_option linter.unusedVariables false
set_option linter.unusedSimpArgs false
set_option maxRecDepth 16000
namespace Go.Proofs.YtjnkfbpadpmakaaGreatDoor.Am
open Go Go.Proofs
noncomputable section
section
variable{P:Program}{s:AE}{i e sz t n:Nat}{sp:Bool}{cs cs0:List AV}
theorem AK(ht:EO P t=some true)(hs:BJ P t=some n)(hg:s.heap.get i=some (R e sz sp cs))(hl:cs.length=n):AB P s t (.ptr (some (i,0)))=some (.agg cs):=by
 subst hl
 rw[Wg ht,hs,Option.bind_some,hg,Wp (by omega)]
 simp
theorem Up{a b:List AV}(h:a.length=b.length):EI a 0 b=b:=by
 refine List.ext_getElem? fun k=>?_
 rw[NJ _ _ _ _ (by omega)]
 rcases zX k b.length with h' | h'
 ·rw[if_pos ⟨ze _,by omega⟩];rfl
 ·rw[if_neg (by omega),zj (by omega),zj h']
theorem Ai(hs:BJ P t=some n)(hg:s.heap.get i=some (R e sz sp cs0))(hl0:cs0.length=n)(hl:cs.length=n)(ha:Aq cs=true)(hn:cs≠[]):AO P s t (.ptr (some (i,0))) (.agg cs)=some (setObj s i (R e sz sp cs)):=by
 rw[Wh,hs]
 show AQ (decide (cs.length=n)) (C3 s i 0 cs)=_
 rw[NL hg (by omega) ha,Up (by omega),decide_eq_true hl]
 cases cs with
 | nil=>exact absurd rfl hn
 | cons c cs=>rfl
theorem AM(P:Program)(s:AE)(v:List AV)(x:CX)(t:TypeId)(l:List (CX×Option TypeId)):CB P s v ((x,some t)::l)=(AB P s t (C9 [] v x)).bind fun u=>(CB P s v l).bind fun r=>some (u::r):=rfl
end
theorem NR.set{b i:Nat}{s:AE}{v:AV}{l:List Nat}(h:NR b s v l)(hi:i<b)(o:BF):NR b (setObj s i o) v l:=
 h.keep (zU _) fun j hj=>Wx _ (by obtain⟨O,_,_,q,_⟩:=h;have:=q j hj;omega)
theorem Aa.set{b i:Nat}{s s':AE}(h:Aa b s s')(hi:b≤i)(o:BF):Aa b s (setObj s' i o):=⟨h.1,fun j hj=>(Wx _ (by omega)).trans (h.2 j hj)⟩
theorem By.shape{s:AE}{v:AV}{l:List Nat}(h:By s v l):∃a n c,v=.slice a n c:=by obtain⟨a,c,rfl,_⟩:=h;exact⟨_,_,_,rfl⟩
theorem Dq(x:Bool)(a:Option (Nat×Nat))(n:Nat)(c:Option Nat):Be Tryz.prog 24 (zipIdx [0,1] [.bool x,.slice a n c])=some (.agg [.bool x,.slice a n c]):=by kernel_rfl
theorem DO:Ag Tryz.prog 24=some (R 24 0 false [.bool false,.slice none 0 (some 0)],.ptr):=by kernel_rfl
theorem Em(x:Bool)(a:Option (Nat×Nat))(n:Nat)(c:Option Nat):Fs (.agg [.bool x,.slice a n c]) (.agg [.bool x,.slice a n c])=true:=by
 cases a<;>cases c<;>cases x<;>simp[Fs,Fs.eqAs]
theorem El(x:Bool):Fs (.bool x) (.bool x)=true:=by cases x<;>rfl
def BI(s:AE)(v:AV)(z:Int)(k:Nat):Prop:=∃neg m l,v=.agg [.bool neg,m]∧By s m l∧Bi l∧l.length≤k∧Bw neg (AG l)=z
def BR(b:Nat)(s:AE)(v:AV)(z:Int):Prop:=∃m,v=.agg [.bool (decide (z<0)),m]∧NR b s m (AR z.natAbs)
theorem BI.old{s s':AE}{v:AV}{z:Int}{k:Nat}(h:BI s v z k)(o:Aa s.next s s'):BI s' v z k:=by
 obtain⟨neg,m,l,h1,h2,h3⟩:=h
 exact⟨neg,m,l,h1,h2.old o,h3⟩
theorem BR.old{b:Nat}{s s':AE}{v:AV}{z:Int}(h:BR b s v z)(o:Aa s.next s s'):BR b s' v z:=by
 obtain⟨m,h1,h2⟩:=h
 exact⟨m,h1,h2.old o⟩
theorem BR.mono{b b':Nat}{s:AE}{v:AV}{z:Int}(h:BR b s v z)(k:b'≤b):BR b' s v z:=by
 obtain⟨m,h1,h2⟩:=h
 exact⟨m,h1,h2.mono k⟩
theorem BR.set{b i:Nat}{s:AE}{v:AV}{z:Int}(h:BR b s v z)(hi:i<b)(o:BF):BR b (setObj s i o) v z:=by
 obtain⟨m,h1,h2⟩:=h
 exact⟨m,h1,h2.set hi o⟩
theorem A9{n k:Nat}(h:n<LB ^ k):(AR n).length≤k:=by
 rcases zX k (AR n).length with h' | h'
 ·exfalso
  have h0:n≠0:=by
   rintro rfl
   rw[BN]at h'
   simp at h'
  have:=MU n h0
  have h2:LB ^ k≤LB ^ ((AR n).length - 1):=A0K BY (by omega)
  omega
 ·exact h'
theorem F9(z:Int):Bw (decide (z<0)) z.natAbs=z:=by
 unfold Bw
 by_cases h:z<0
 ·rw[if_pos (decide_eq_true h)];omega
 ·rw[if_neg (by simpa using h)];omega
theorem BR.bi{b k:Nat}{s:AE}{v:AV}{z:Int}(h:BR b s v z)(hz:z.natAbs<LB ^ k):BI s v z k:=by
 obtain⟨m,h1,h2⟩:=h
 exact⟨_,m,_,h1,h2.n32,AT _,A9 hz,by rw[AY,F9]⟩
theorem BI.abs{s:AE}{v:AV}{z:Int}{k:Nat}(h:BI s v z k):z.natAbs<LB ^ k:=by
 obtain⟨neg,m,l,h1,h2,h3,h4,rfl⟩:=h
 rw[CJ]
 exact zZ (CQ h3) (A0K BY h4)
theorem Ft(n:Nat):decide ((0:Int)<((AR n).length:Int))=decide (n≠0):=by
 by_cases h:n=0
 ·subst h;rw[BN];rfl
 ·have:=List.length_pos_iff.2 (Cz h)
  rw[decide_eq_true (show(0:Int)<((AR n).length:Int) by omega),decide_eq_true h]
theorem V7(neg:Bool)(n:Nat):decide (Bw neg n<0)=(neg && decide (n≠0)):=by
 unfold Bw
 cases neg with
 | false=>rw[if_neg (by decide),Bool.false_and];exact decide_eq_false (by omega)
 | true =>
  rw[if_pos rfl,Bool.true_and]
  by_cases h:n=0
  ·rw[decide_eq_false (show ¬ (-(n:Int)<0) by omega),decide_eq_false (by simpa using h)]
  ·rw[decide_eq_true (show -(n:Int)<0 by omega),decide_eq_true h]
section
variable{E:CR}{s:AE}
theorem IZ(hE:GoodN E){neg:Bool}{m:AV}{l:List Nat}(hm:By s m l)(hl:l.length≤1000000000)(hs:Bi l){K:AV→AE→Prop}
  (hK:∀s' v,Aa s.next s s'→BR s.next s' v (Bw neg (AG l))→K v s'):WF E 107 [.bool neg,m] K s:=by
 refine hE.go Vn (by decide) rfl ?_
 have o1:=Aa.new s (R 24 0 false [.bool false,.slice none 0 (some 0)])
 have g1:(newObj s (R 24 0 false [.bool false,.slice none 0 (some 0)])).heap.get s.next=some (R 24 0 false [.bool false,.slice none 0 (some 0)]):=by rw[AU,if_pos rfl]
 have n1:(newObj s (R 24 0 false [.bool false,.slice none 0 (some 0)])).next=s.next+1:=rfl
 simp only[sj,TU,TV,DO,Xc,Qa,Qb,Qc,Qd,Qf,Qh,Qj,Qk,Ql,Qm,Qo,true_and,Qp,Qq,Qr,Qs,Qt,Qv,Rb,Rh,Rj,A1r,A1t,A1u,A1p]
 generalize newObj s (R 24 0 false [.bool false,.slice none 0 (some 0)])=s1 at *
 refine C8 hE (hm.old o1) (by omega) fun s2 v2 o2 r2=>?_
 rw[B8 hs]at r2
 have g2:=(o2.2 s.next (by omega)).trans g1
 obtain⟨a,c,e2,_⟩:=r2.n32
 have hz:=V7 neg (AG l)
 rw[← Ft]at hz
 have fin:∀x,x=decide (Bw neg (AG l)<0)→K (.agg [.bool x,v2]) (setObj s2 s.next (R 24 0 false [.bool x,v2])):=fun x hx=>by
  subst hx
  refine hK _ _ ((o1.trans (o2.mono o1.1)).set (zU _) _) (BR.mono (b:=s1.next) ⟨v2,rfl,?_⟩ (by omega))
  rw[CJ]
  exact r2.set (by omega) _
 have st:∀x,AO Tryz.prog s2 24 (.ptr (some (s.next,0))) (.agg [.bool x,.slice a (AR (AG l)).length c])=some (setObj s2 s.next (R 24 0 false [.bool x,.slice a (AR (AG l)).length c])):=fun x=>Ai CO g2 rfl rfl rfl (by simp)
 have ld:∀x,AB Tryz.prog (setObj s2 s.next (R 24 0 false [.bool x,.slice a (AR (AG l)).length c])) 24 (.ptr (some (s.next,0)))=some (.agg [.bool x,.slice a (AR (AG l)).length c]):=fun x=>AK DN CO (Ww _ _ _) rfl
 subst e2
 cases neg with
 | true =>
  rw[Bool.true_and]at hz
  simp only[Ls,AH Tryz.underlying22,Rz,Ru,Dq,st,ld,AM,Xy,Za,Qb,Qc,Qd,Qf,Qg,Qh,Qi,Qj,Qk,Qm,Qo,true_and,Qp,Qq,Qr,Qs,Qt,Qv,Qw,Qx,Rk,Rn,Rs,Yc,Ru,Rw,Rz,A1o]
  exact fin _ hz.symm
 | false =>
  rw[Bool.false_and]at hz
  simp only[Ls,Ru,Dq,st,ld,AM,Xy,Za,Qb,Qc,Qd,Qf,Qg,Qh,Qi,Qj,Qk,Qm,Qo,true_and,Qp,Qq,Qr,Qs,Qt,Qu,Qv,Qw,Qx,Rk,Rn,Rs,Yc,Ru,Rw,A1o]
  exact fin _ hz.symm
theorem ig(hE:GoodN E){neg:Bool}{K:AV→AE→Prop}(hK:∀s',Aa s.next s s'→s'.next=s.next+1→K (.agg [.bool false,.slice none 0 (some 0)]) s'):WF E 107 [.bool neg,.slice none 0 (some 0)] K s:=by
 refine hE.go Vn (by decide) rfl ?_
 have o1:=Aa.new s (R 24 0 false [.bool false,.slice none 0 (some 0)])
 have g1:(newObj s (R 24 0 false [.bool false,.slice none 0 (some 0)])).heap.get s.next=some (R 24 0 false [.bool false,.slice none 0 (some 0)]):=by rw[AU,if_pos rfl]
 have n1:(newObj s (R 24 0 false [.bool false,.slice none 0 (some 0)])).next=s.next+1:=rfl
 simp only[sj,TU,TV,DO,Xc,Qa,Qb,Qc,Qd,Qf,Qh,Qj,Qk,Ql,Qm,Qo,true_and,Qp,Qq,Qr,Qs,Qt,Qv,Rb,Rh,Rj,A1r,A1t,A1u,A1p]
 generalize newObj s (R 24 0 false [.bool false,.slice none 0 (some 0)])=s1 at *
 refine iE hE ?_
 have st:=Ai (P:=Tryz.prog) (t:=24) (cs:=[.bool false,.slice none 0 (some 0)]) CO g1 rfl rfl rfl (by simp)
 have ld:=AK (P:=Tryz.prog) (t:=24) (s:=setObj s1 s.next (R 24 0 false [.bool false,.slice none 0 (some 0)])) (i:=s.next) DN CO (Ww _ _ _) rfl
 have dd:decide ((0:Int)<((0:Nat):Int))=false:=rfl
 cases neg with
 | true =>
  simp only[Ls,AH Tryz.underlying22,Rz,dd,Ru,Dq,st,ld,AM,Xy,Za,Qb,Qc,Qd,Qf,Qg,Qh,Qi,Qj,Qk,Qm,Qo,true_and,Qp,Qq,Qr,Qs,Qt,Qv,Qw,Qx,Rk,Rn,Rs,Yc,Ru,Rw,Rz,A1o]
  exact hK _ (o1.set (zU _) _) n1
 | false =>
  simp only[Ls,Ru,Dq,st,ld,AM,Xy,Za,Qb,Qc,Qd,Qf,Qg,Qh,Qi,Qj,Qk,Qm,Qo,true_and,Qp,Qq,Qr,Qs,Qt,Qu,Qv,Qw,Qx,Rk,Rn,Rs,Yc,Ru,Rw,A1o]
  exact hK _ (o1.set (zU _) _) n1
theorem ii(hE:GoodN E){neg:Bool}{m:AV}{l:List Nat}(hm:By s m l)(hl:l.length≤1000000000)(hs:Bi l){K:AV→AE→Prop}
  (hK:∀s' v,Aa s.next s s'→BR s.next s' v (Bw neg (AG l))→(m=.slice none 0 (some 0)→v=.agg [.bool false,.slice none 0 (some 0)])→K v s'):WF E 107 [.bool neg,m] K s:=by
 by_cases h:m=.slice none 0 (some 0)
 ·subst h
  refine ig hE fun s' o _=>hK s' _ o ?_ fun _=>rfl
  obtain⟨a,c,e,_⟩:=hm
  injection e with _ e2 _
  have hl0:l=[]:=List.length_eq_zero_iff.1 e2.symm
  subst hl0
  have hz:Bw neg (AG [])=0:=by cases neg<;>rfl
  rw[hz]
  exact⟨_,rfl,by show NR s.next s' _ (AR 0);rw[BN];exact NR.nil _ _⟩
 ·exact IZ hE hm hl hs fun s' v o r=>hK s' v o r fun e=>absurd e h
end
theorem Ak(s:AE)(o:BF):(newObj s o).next=s.next+1:=rfl
theorem Bs(s:AE)(A:BF):(newObj s A).next=s.next+1∧Aa s.next s (newObj s A)∧(newObj s A).heap.get s.next=some A:=⟨rfl,Aa.new s A,by rw[AU,if_pos rfl]⟩
theorem EK(s:AE)(A B:BF):(newObj (newObj s A) B).next=s.next+2∧Aa s.next s (newObj (newObj s A) B)∧(newObj (newObj s A) B).heap.get s.next=some A∧(newObj (newObj s A) B).heap.get (s.next+1)=some B:=by
 refine⟨rfl,(Aa.new s A).trans ((Aa.new (newObj s A) B).mono (A0X _)),?_,?_⟩
 ·rw[AU,if_neg (by rw[Ak];omega),AU,if_pos rfl]
 ·rw[AU,if_pos (by rw[Ak])]
theorem HV(s:AE)(A B C:BF):(newObj (newObj (newObj s A) B) C).next=s.next+3∧Aa s.next s (newObj (newObj (newObj s A) B) C)∧(newObj (newObj (newObj s A) B) C).heap.get s.next=some A∧(newObj (newObj (newObj s A) B) C).heap.get (s.next+1)=some B∧(newObj (newObj (newObj s A) B) C).heap.get (s.next+2)=some C:=by
 obtain⟨h1,h2,h3,h4⟩:=EK s A B
 refine⟨rfl,h2.trans ((Aa.new (newObj (newObj s A) B) C).mono (by omega)),?_,?_,?_⟩
 ·rw[AU,if_neg (by omega)];exact h3
 ·rw[AU,if_neg (by omega)];exact h4
 ·rw[AU,if_pos (by omega)]
abbrev ZI:BF:=R 24 0 false [.bool false,.slice none 0 (some 0)]
abbrev BX(x:Bool)(m:AV):BF:=R 24 0 false [.bool x,m]
section
variable{E:CR}{s:AE}
theorem Lo(hE:GoodN E){v:AV}{z:Int}{k:Nat}(hv:BI s v z k)(hk:k≤1000000000){K:AV→AE→Prop}(hK:∀s' v,Aa s.next s s'→BR s.next s' v z→K v s'):WF E 132 [v] K s:=by
 obtain⟨neg,m,l,rfl,hm,hs,hl,rfl⟩:=hv
 obtain⟨a,n,c,rfl⟩:=hm.shape
 refine hE.go jZ (by decide) rfl ?_
 obtain⟨n1,o1,g1,g2⟩:=EK s (BX neg (.slice a n c)) ZI
 simp only[wA,Z4,Z5,Xa,Xh,DO,Xc,Ak,CY,CZ,Qa,Qb,Qc,Qd,Qf,Qh,Qj,Qk,Ql,Qm,Qo,true_and,Qp,Qq,Qr,Qs,Qt,Qv,Rb,Rh,Rj,A1q,A1r,A1n,A1m,A1u,A1o]
 generalize newObj (newObj s (BX neg (.slice a n c))) ZI=s1 at *
 have l1:=AI (P:=Tryz.prog) (t:=4) (o:=0+0) Gz g1 rfl
 have l2:=AI (P:=Tryz.prog) (t:=22) (o:=0+1) Cq g1 rfl
 simp only[l1,l2,Qm]
 refine IZ hE (hm.old o1) (by omega) hs fun s2 v2 o2 r2=>?_
 have g3:=(o2.2 (s.next+1) (by omega)).trans g2
 obtain⟨m2,rfl,r2⟩:=r2
 obtain⟨a2,n2,c2,rfl⟩:=r2.n32.shape
 have st:=Ai (P:=Tryz.prog) (t:=24) (cs:=[.bool (decide (Bw neg (AG l)<0)),.slice a2 n2 c2]) CO g3 rfl rfl rfl (by simp)
 have ld:=AK (P:=Tryz.prog) (t:=24) (s:=setObj s2 (s.next+1) (R 24 0 false [.bool (decide (Bw neg (AG l)<0)),.slice a2 n2 c2])) (i:=s.next+1) DN CO (Ww _ _ _) rfl
 simp only[st,ld,AM,Xy,Za,Qd,Qj,Qm,Qo,true_and,Qr,Qs,Rk,Rn,Yc]
 exact hK _ _ ((o1.trans (o2.mono o1.1)).set (by omega) _) (BR.mono (b:=s1.next) ⟨_,rfl,r2.set (by omega) _⟩ (by omega))
def Hf(z:Int):Int:=if z<0 then -1 else if 0<z then 1 else 0
theorem Yg(hE:GoodN E){v:AV}{z:Int}{k:Nat}(hv:BI s v z k)(hk:k≤1000000000){K:AV→AE→Prop}(hK:∀s',Aa s.next s s'→K (iv (Hf z)) s'):WF E 100 [v] K s:=by
 have hv0:=hv
 obtain⟨neg,m,l,rfl,hm,hs,hl,hz⟩:=hv
 obtain⟨a,n,c,rfl⟩:=hm.shape
 refine hE.go jD (by decide) rfl ?_
 obtain⟨n1,o1,g1⟩:=Bs s (BX neg (.slice a n c))
 simp only[vL,Yi,Yj,Xa,Xh,Xc,Qa,Qb,Qc,Qd,Qf,Qh,Qi,Qj,Qk,Ql,Qm,Qo,true_and,Qp,Qq,Qr,Qs,Qt,Qv,Rb,Rc,Re,Rf,Rh,Rk,Rm,Rn,Yc,A1q,A1p,A1m,A1u,A1o]
 generalize newObj s (BX neg (.slice a n c))=s1 at *
 have l1:=AK (P:=Tryz.prog) (t:=24) DN CO g1 rfl
 simp only[l1,Qm]
 refine Lo hE (hv0.old o1) hk fun s2 v2 o2 r2=>?_
 have g2:=(o2.2 s.next (by omega)).trans g1
 obtain⟨m2,rfl,r2⟩:=r2
 obtain⟨a2,c2,rfl,_⟩:=r2.n32
 have st:=Ai (P:=Tryz.prog) (t:=24) (cs:=[.bool (decide (z<0)),.slice a2 (AR z.natAbs).length c2]) CO g2 rfl rfl rfl (by simp)
 have l2:=AI (P:=Tryz.prog) (t:=4) (s:=setObj s2 s.next (R 24 0 false [.bool (decide (z<0)),.slice a2 (AR z.natAbs).length c2])) (i:=s.next) (o:=0+0) Gz (Ww _ _ _) rfl
 have l3:=AI (P:=Tryz.prog) (t:=22) (s:=setObj s2 s.next (R 24 0 false [.bool (decide (z<0)),.slice a2 (AR z.natAbs).length c2])) (i:=s.next) (o:=0+1) Cq (Ww _ _ _) rfl
 have hend:=hK (setObj s2 s.next (R 24 0 false [.bool (decide (z<0)),.slice a2 (AR z.natAbs).length c2])) ((o1.trans (o2.mono o1.1)).set (zU _) _)
 have hp:=Ft z.natAbs
 unfold Hf at hend
 by_cases h1:z<0
 ·have d1:decide (z<0)=true:=decide_eq_true h1
  rw[if_pos h1]at hend
  simp only[d1]at *
  simp only[st,l2,CY,Ox,Yk,Xy,Za,Qb,Qc,Qd,Qf,Qh,Qi,Qj,Qk,Qm,Qo,true_and,Qp,Qq,Qr,Qs,Qt,Qv,Qz,Rj,A1n,A1m,A1p]
  exact hend
 ·have d1:decide (z<0)=false:=decide_eq_false h1
  rw[if_neg h1]at hend
  by_cases h2:0<z
  ·have d2:decide (z.natAbs≠0)=true:=decide_eq_true (by omega)
   rw[if_pos h2]at hend
   rw[d2]at hp
   simp only[d1]at *
   simp only[st,l2,l3,CY,CZ,AH Tryz.underlying22,Rz,hp,Ox,TK,Yl,Xy,Za,Qb,Qc,Qd,Qf,Qh,Qi,Qj,Qk,Qm,Qo,true_and,Qp,Qq,Qr,Qs,Qt,Qv,Qz,Ra,Rj,Rz,A1n,A1m,A1p,A1s]
   exact hend
  ·have d2:decide (z.natAbs≠0)=false:=decide_eq_false (by omega)
   rw[if_neg h2]at hend
   rw[d2]at hp
   simp only[d1]at *
   simp only[st,l2,l3,CY,CZ,AH Tryz.underlying22,Rz,hp,Ox,TK,Ym,Xy,Za,Qb,Qc,Qd,Qf,Qh,Qi,Qj,Qk,Qm,Qo,true_and,Qp,Qq,Qr,Qs,Qt,Qv,Ra,Rj,Rz,A1n,A1m,A1p,A1s]
   exact hend
end
theorem Ep(x y:Bool):AN Tryz.prog .neq 4 (.bool x) (.bool y)=some (.bool (x != y)):=by cases x<;>cases y<;>kernel_rfl
theorem JD(x y:Bool):AN Tryz.prog .eql 4 (.bool x) (.bool y)=some (.bool (x == y)):=by cases x<;>cases y<;>kernel_rfl
theorem R3(x y:Bool)(a b:Nat):Bw (x != y) (a * b)=Bw x a * Bw y b:=by
 unfold Bw
 cases x<;>cases y<;>simp[Int.neg_mul,Int.mul_neg]
theorem B3{a b j k:Nat}(ha:a<LB ^ j)(hb:b<LB ^ k):a * b<LB ^ (j+k):=by
 rw[A1G]
 exact Nat.mul_lt_mul'' ha hb
theorem FZ{a b k:Nat}(ha:a<LB ^ k)(hb:b<LB ^ k):a+b<LB ^ (k+1):=by
 rw[zy]
 have:LB ^ k * 2≤LB ^ k * LB:=A0P _ (by decide)
 omega
theorem DC{a j k:Nat}(ha:a<LB ^ j)(h:j≤k):a<LB ^ k:=zZ ha (A0K BY h)
theorem DI{l:List Nat}{k:Nat}(hs:Bi l)(h:l.length≤k):AG l<LB ^ k:=DC (CQ hs) h
section
variable{E:CR}{s:AE}
theorem Dr{s1 s2:AE}{p:Nat}{x:Bool}{a:Option (Nat×Nat)}{n:Nat}{c:Option Nat}(hg:s2.heap.get p=some ZI):
  AO Tryz.prog s2 24 (.ptr (some (p,0))) (.agg [.bool x,.slice a n c])=some (setObj s2 p (BX x (.slice a n c)))∧AB Tryz.prog (setObj s2 p (BX x (.slice a n c))) 24 (.ptr (some (p,0)))=some (.agg [.bool x,.slice a n c]):=
 ⟨Ai CO hg rfl rfl rfl (by simp),AK DN CO (Ww _ _ _) rfl⟩
theorem Q1(hE:GoodN E){va vb:AV}{x y:Int}{ka kb:Nat}(ha:BI s va x ka)(hb:BI s vb y kb)(hk:ka+kb≤1000000000){K:AV→AE→Prop}(hK:∀s' v,Aa s.next s s'→BR s.next s' v (x * y)→K v s'):WF E 117 [va,vb] K s:=by
 obtain⟨na,ma,la,rfl,hma,hsa,hla,rfl⟩:=ha
 obtain⟨nb,mb,lb,rfl,hmb,hsb,hlb,rfl⟩:=hb
 obtain⟨aa,an,ac,rfl⟩:=hma.shape
 obtain⟨ba,bn,bc,rfl⟩:=hmb.shape
 refine hE.go jR (by decide) rfl ?_
 obtain⟨n1,o1,g1,g2,g3⟩:=HV s (BX na (.slice aa an ac)) (BX nb (.slice ba bn bc)) ZI
 simp only[vZ,Zg,Zh,Xa,Xh,DO,Xc,Ak,CY,CZ,Qa,Qb,Qc,Qd,Qf,Qh,Qj,Qk,Ql,Qm,Qo,true_and,Qp,Qq,Qr,Qs,Qt,Qv,Rb,Rh,Rj,A1q,A1r,A1n,A1m,A1w,A1u,A1o]
 generalize newObj (newObj (newObj s (BX na (.slice aa an ac))) (BX nb (.slice ba bn bc))) ZI=s1 at *
 have l1:=AI (P:=Tryz.prog) (t:=4) (o:=0+0) Gz g1 rfl
 have l2:=AI (P:=Tryz.prog) (t:=22) (o:=0+1) Cq g1 rfl
 have l3:=AI (P:=Tryz.prog) (t:=4) (o:=0+0) Gz g2 rfl
 have l4:=AI (P:=Tryz.prog) (t:=22) (o:=0+1) Cq g2 rfl
 simp only[l1,l2,l3,l4,Ep,Qm]
 refine UV hE (hma.old o1) (hmb.old o1) (by omega) (by omega) hsa hsb fun s2 v2 o2 r2=>?_
 have f1:=(o2.2 s.next (by omega)).trans g1
 have f2:=(o2.2 (s.next+1) (by omega)).trans g2
 have f3:=(o2.2 (s.next+1+1) (by omega)).trans g3
 refine⟨⟨Au (by simp only[Qk,Qr,Qs];exact AI (o:=0+0) Gz f2 rfl) (El _),Au (by simp only[Qk,Qr,Qs];exact AI (o:=0+0) Gz f1 rfl) (El _),trivial⟩,?_⟩
 have hlen:(AR (AG la * AG lb)).length≤1000000000:=zY (A9 (B3 (DI hsa hla) (DI hsb hlb))) hk
 simp only[Qr,Qs]
 refine IZ hE r2.n32 hlen (AT _) fun s3 v3 o3 r3=>?_
 rw[AY,R3]at r3
 have q3:=(o3.2 (s.next+1+1) (by have:=o2.1;omega)).trans f3
 obtain⟨m3,rfl,r3⟩:=r3
 obtain⟨a3,n3,c3,rfl⟩:=r3.n32.shape
 obtain⟨st,ld⟩:=Dr (s1:=s) (x:=decide (Bw na (AG la) * Bw nb (AG lb)<0)) (a:=a3) (n:=n3) (c:=c3) q3
 simp only[st,ld,AM,Xy,Za,Qd,Qj,Qm,Qo,true_and,Qr,Qs,Rk,Rn,Yc]
 have h2:=o2.1
 exact hK _ _ ((o1.trans ((o2.trans (o3.mono h2)).mono o1.1)).set (by omega) _) (BR.mono (b:=s2.next) ⟨_,rfl,r3.set (by omega) _⟩ (by omega))
end
theorem St{x y:Int}(h:decide (x<0)=decide (y<0)):Bw (decide (x<0)) (x.natAbs+y.natAbs)=x+y:=by
 unfold Bw
 by_cases hx:x<0
 ·have hy:y<0:=by rw[decide_eq_true hx]at h;exact of_decide_eq_true h.symm
  rw[if_pos (decide_eq_true hx)];omega
 ·have hy:¬ y<0:=by rw[decide_eq_false hx]at h;exact of_decide_eq_false h.symm
  rw[if_neg (by simpa using hx)];omega
theorem Jf{x y:Int}(h:decide (x<0)≠decide (y<0))(hl:y.natAbs≤x.natAbs):Bw (decide (x<0)) (x.natAbs - y.natAbs)=x+y:=by
 unfold Bw
 by_cases hx:x<0
 ·have hy:¬ y<0:=fun hy=>h (by rw[decide_eq_true hx,decide_eq_true hy])
  rw[if_pos (decide_eq_true hx)];omega
 ·have hy:y<0:=Classical.byContradiction fun hy=>h (by rw[decide_eq_false hx,decide_eq_false hy])
  rw[if_neg (by simpa using hx)];omega
section
variable{E:CR}{s:AE}
theorem QT       (hE : GoodN E) {va vb : AV} {x y : Int} {ka kb : Nat} (ha : BI s va x ka) (hb : BI s vb y kb) (hk : ka + kb + 1 ≤ 1000000000) {K : AV → AE  → Prop} (hK : ∀ s' v, Aa  s.next s s' → BR s.next s' v (x + y) → K v s') : WF E 141 [va, vb] K s := by
  have ha0:=ha
  have hb0:=hb
  have xb:=ha.abs
  have yb:=hb.abs
  obtain⟨na,ma,la,rfl,hma,hsa,hla,hxa⟩:=ha
  obtain⟨nb,mb,lb,rfl,hmb,hsb,hlb,hyb⟩:=hb
  obtain⟨aa,an,ac,rfl⟩:=hma.shape
  obtain⟨ba,bn,bc,rfl⟩:=hmb.shape
  refine hE.go je (by decide) rfl ?_
  obtain⟨n1,o1,g1,g2,g3⟩:=HV s (BX na (.slice aa an ac)) (BX nb (.slice ba bn bc)) ZI
  simp only[wF,aq,au,Xa,Xh,DO,Xc,Ak,Qa,Qb,Qc,Qd,Qf,Qh,Qj,Qk,Ql,Qm,Qo,true_and,Qp,Qq,Qr,Qs,Qt,Qv,Rb,Rc,Rh,A1q,A1r,A1m,A1u,A1o]
  generalize newObj (newObj (newObj s (BX na (.slice aa an ac))) (BX nb (.slice ba bn bc))) ZI=s1 at *
  have l1:=AK (P:=Tryz.prog) (t:=24) DN CO g1 rfl
  have l2:=AK (P:=Tryz.prog) (t:=24) DN CO g2 rfl
  simp only[l1,l2,Qm]
  refine Lo hE (ha0.old o1) (by omega) fun s2 v2 o2 r2=>?_
  have f1:=(o2.2 s.next (by omega)).trans g1
  have f2:=(o2.2 (s.next+1) (by omega)).trans g2
  have f3:=(o2.2 (s.next+1+1) (by omega)).trans g3
  refine⟨⟨Au (by simp only[Qj,Qk,Qr,Qs];exact AK DN CO f2 rfl) (Em _ _ _ _),trivial⟩,?_⟩
  simp only[Qr,Qs]
  have h2:=o2.1
  refine Lo hE (hb0.old (o1.trans (o2.mono o1.1))) (by omega) fun s3 v3 o3 r3=>?_
  have h3:=o3.1
  have e1:=(o3.2 s.next (by omega)).trans f1
  have e2:=(o3.2 (s.next+1) (by omega)).trans f2
  have e3:=(o3.2 (s.next+1+1) (by omega)).trans f3
  have r2':=r2.old o3
  obtain⟨m2,rfl,q2⟩:=r2'
  obtain⟨m3,rfl,q3⟩:=r3
  obtain⟨a2,n2,c2,rfl⟩:=q2.n32.shape
  obtain⟨a3,n3,c3,rfl⟩:=q3.n32.shape
  have st1:=Ai (P:=Tryz.prog) (t:=24) (cs:=[.bool (decide (x<0)),.slice a2 n2 c2]) CO e1 rfl rfl rfl (by simp)
  generalize hs4:setObj s3 s.next (BX (decide (x<0)) (.slice a2 n2 c2))=s4 at st1
  have e2':s4.heap.get (s.next+1)=some (BX nb (.slice ba bn bc)):=by rw[← hs4,Wx _ (by omega)];exact e2
  have st2:=Ai (P:=Tryz.prog) (t:=24) (cs:=[.bool (decide (y<0)),.slice a3 n3 c3]) CO e2' rfl rfl rfl (by simp)
  generalize hs5:setObj s4 (s.next+1) (BX (decide (y<0)) (.slice a3 n3 c3))=s5 at st2
  have k1:s5.heap.get s.next=some (BX (decide (x<0)) (.slice a2 n2 c2)):=by rw[← hs5,Wx _ (by omega),← hs4,Ww]
  have k2:s5.heap.get (s.next+1)=some (BX (decide (y<0)) (.slice a3 n3 c3)):=by rw[← hs5,Ww]
  have k3:s5.heap.get (s.next+1+1)=some ZI:=by rw[← hs5,Wx _ (by omega),← hs4,Wx _ (by omega)];exact e3
  have n5:s5.next=s3.next:=by rw[← hs5,← hs4];rfl
  have o5:Aa s.next s s5:=by
    rw[← hs5,← hs4]
    exact((o1.trans ((o2.trans (o3.mono h2)).mono o1.1)).set (zU _) _).set (by omega) _
  have w2:NR s1.next s5 (.slice a2 n2 c2) (AR x.natAbs):=by rw[← hs5,← hs4];exact(q2.set (by omega) _).set (by omega) _
  have w3:NR s2.next s5 (.slice a3 n3 c3) (AR y.natAbs):=by rw[← hs5,← hs4];exact(q3.set (by omega) _).set (by omega) _
  have l1:=AI (P:=Tryz.prog) (t:=4) (o:=0+0) Gz k1 rfl
  have l2:=AI (P:=Tryz.prog) (t:=22) (o:=0+1) Cq k1 rfl
  have l3:=AI (P:=Tryz.prog) (t:=4) (o:=0+0) Gz k2 rfl
  have l4:=AI (P:=Tryz.prog) (t:=22) (o:=0+1) Cq k2 rfl
  have xl:=A9 xb
  have yl:=A9 yb
  have vx:=AY x.natAbs
  have vy:=AY y.natAbs
  have fin:∀ (sg:Bool) (s6:AE) (v6:AV) (L:Nat),Aa s5.next s5 s6→NR s5.next s6 v6 (AR L)→L<LB ^ (ka+kb+1)→Bw sg L=x+y→∀K2:AV→AE→Prop,
      (∀s7 x7 a7 n7 c7,AO Tryz.prog s7 24 (.ptr (some (s.next+1+1,0))) (.agg [.bool x7,.slice a7 n7 c7])=some (setObj s7 (s.next+1+1) (BX x7 (.slice a7 n7 c7))) →
        AB Tryz.prog (setObj s7 (s.next+1+1) (BX x7 (.slice a7 n7 c7))) 24 (.ptr (some (s.next+1+1,0)))=some (.agg [.bool x7,.slice a7 n7 c7]) →
        K (.agg [.bool x7,.slice a7 n7 c7]) (setObj s7 (s.next+1+1) (BX x7 (.slice a7 n7 c7)))→K2 (.agg [.bool x7,.slice a7 n7 c7]) s7)→WF E 107 [.bool sg,v6] K2 s6:=by
    intro sg s6 v6 L o6 r6 hL hsg K2 hK2
    refine IZ hE r6.n32 (zY (A9 hL) hk) (AT _) fun s7 v7 o7 r7=>?_
    rw[AY,hsg]at r7
    have h6:=o6.1
    have g7:s7.heap.get (s.next+1+1)=some ZI:=by rw[o7.2 _ (by omega),o6.2 _ (by omega)];exact k3
    obtain⟨m7,rfl,r7⟩:=r7
    obtain⟨a7,n7,c7,rfl⟩:=r7.n32.shape
    obtain⟨st,ld⟩:=Dr (s1:=s) (x:=decide (x+y<0)) (a:=a7) (n:=n7) (c:=c7) g7
    refine hK2 _ _ _ _ _ st ld (hK _ _ ((o5.trans ((o6.trans (o7.mono h6)).mono o5.1)).set (by omega) _) (BR.mono (b:=s6.next) ⟨_,rfl,r7.set (by omega) _⟩ (by omega)))
  have hm1:x.natAbs+y.natAbs<LB ^ (ka+kb+1):=FZ (DC xb (by omega)) (DC yb (by omega))
  by_cases hsg:decide (x<0)=decide (y<0)
  · have db:(decide (x<0) == decide (y<0))=true:=by rw[hsg];simp
    simp only[Td,ay,st1,st2,l1,l2,l3,l4,CY,CZ,JD,db,Xy,Za,Qb,Qc,Qd,Qf,Qh,Qj,Qk,Qm,Qo,true_and,Qp,Qq,Qr,Qs,Qt,Qv,Qz,Rj,A1n,A1m,A1x,A1u,A1o]
    refine sb hE w2.n32 w3.n32 (by omega) (by omega) (AT _) (AT _) fun s6 v6 o6 r6=>?_
    rw[vx,vy]at r6
    refine⟨⟨Au (by simp only[Qk,Qr,Qs];exact AI (o:=0+0) Gz ((o6.2 s.next (by omega)).trans k1) rfl) (El _),trivial⟩,?_⟩
    simp only[Qr,Qs]
    refine fin _ s6 v6 _ o6 r6 hm1 (St hsg) _ fun s7 x7 a7 n7 c7 st ld hk=>?_
    simp only[st,ld,AM,Qd,Qj,Qm,Qo,true_and,Qr,Qs,Rk,Rn,Yc]
    exact hk
  · have db:(decide (x<0) == decide (y<0))=false:=by simpa using hsg
    simp only[Td,az,st1,st2,l1,l2,l3,l4,CY,CZ,JD,db,Xy,Za,Qb,Qc,Qd,Qf,Qh,Qj,Qk,Qm,Qo,true_and,Qp,Qq,Qr,Qs,Qt,Qv,Ra,Zb,A1n,A1m,A1x,A1u,A1p]
    refine hZ hE w2.n32 w3.n32 (by omega) (by omega) (AT _) (AT _) (fun hlt s6 o6=>?_) (fun hge s6 v6 o6 r6=>?_)
    · rw[vx,vy]at hlt
      have h6:=o6.1
      have u1:=(o6.2 s.next (by omega)).trans k1
      have u2:=(o6.2 (s.next+1) (by omega)).trans k2
      have l1:=AI (P:=Tryz.prog) (t:=4) (o:=0+0) Gz u1 rfl
      have l2:=AI (P:=Tryz.prog) (t:=22) (o:=0+1) Cq u1 rfl
      have l3:=AI (P:=Tryz.prog) (t:=4) (o:=0+0) Gz u2 rfl
      have l4:=AI (P:=Tryz.prog) (t:=22) (o:=0+1) Cq u2 rfl
      simp only[Te,bB,Zb,l2,l4,CZ,Qb,Qc,Qd,Qf,Qh,Qj,Qk,Qm,Qo,true_and,Qp,Qq,Qr,Qs,Qt,Qv,Ra,Rj,Zb,Yd,Ye,A1p,A1n,A1m,A1u,A1t]
      refine hZ hE (w3.n32.old o6) (w2.n32.old o6) (by omega) (by omega) (AT _) (AT _) (fun h=>by rw[vx,vy]at h;omega) (fun _ s7 v7 o7 r7=>?_)
      rw[vx,vy]at r7
      have l5:=AI (P:=Tryz.prog) (t:=4) (o:=0+0) Gz ((o7.2 (s.next+1) (by omega)).trans u2) rfl
      simp only[bC,l5,CY,Qb,Qc,Qd,Qf,Qh,Qj,Qk,Qm,Qo,true_and,Qp,Qq,Qr,Qs,Qt,Qv,Yd,Ye,A1n,A1m,A1u,A1o]
      refine fin _ s7 v7 _ (o6.trans (o7.mono h6)) (r7.mono h6) (A0J (by omega) hm1) ?_ _ fun s7 x7 a7 n7 c7 st ld hk=>?_
      · rw[Int.add_comm x y];exact Jf (fun e=>hsg e.symm) (by omega)
      · simp only[st,ld,AM,Xy,Za,Qd,Qj,Qm,Qo,true_and,Qr,Qs,Rk,Rn,Yc]
        exact hk
    · rw[vx,vy]at hge r6
      have u1:=(o6.2 s.next (by omega)).trans k1
      have l1:=AI (P:=Tryz.prog) (t:=4) (o:=0+0) Gz u1 rfl
      simp only[Te,bA,l1,CY,Qb,Qc,Qd,Qf,Qh,Qj,Qk,Qm,Qo,true_and,Qp,Qq,Qr,Qs,Qt,Qv,Qz,Rj,Yd,Ye,A1p,A1n,A1m,A1u,A1o]
      refine fin _ s6 v6 _ o6 r6 (A0J (by omega) hm1) (Jf hsg hge) _ fun s7 x7 a7 n7 c7 st ld hk=>?_
      simp only[st,ld,AM,Xy,Za,Qd,Qj,Qm,Qo,true_and,Qr,Qs,Rk,Rn,Yc]
      exact hk
end
theorem W3{n:Int}(h:n=0∨n=1∨n=-1)(s:AE):∃m:Nat,m=n.natAbs ∧
  ((decide (n<0)=false∧A7 Tryz.prog s 2 69 (iv n)=some (An m))∨(decide (n<0)=true∧A7 Tryz.prog s 2 69 (iv n)=some (.int .u64 18446744073709551615)∧Sy Tryz.prog Go.UnOp.neg (.int .u64 18446744073709551615)=some (An m))):=by
 rcases h with rfl | rfl | rfl
 ·exact⟨0,rfl,.inl ⟨rfl,by kernel_rfl⟩⟩
 ·exact⟨1,rfl,.inl ⟨rfl,by kernel_rfl⟩⟩
 ·exact⟨1,rfl,.inr ⟨rfl,by kernel_rfl,by kernel_rfl⟩⟩
section
variable{E:CR}{s:AE}
theorem QV       (hE : GoodN E) {n : Int} (h : n = 0 ∨ n = 1 ∨ n = -1) {K : AV → AE  → Prop} (hK : ∀ s' v, Aa  s.next s s' → BR s.next s' v n → K v s') : WF E 60 [iv n] K s := by
  refine hE.go tw (by decide) rfl ?_
  obtain⟨n1,o1,g1⟩:=Bs s ZI
  have hn:=W3 h (newObj s ZI)
  obtain⟨m,hm,hcase⟩:=hn
  have hm1:m≤1:=by rcases h with rfl | rfl | rfl<;>simp at hm<;>omega
  have e3:AN Tryz.prog .shr 69 (An m) (.int .u64 32)=some (An (m / 4294967296)):=Jh Tryz.prog 69 (k:=.u64) (n:=32) (by decide)
  have e4:m / 4294967296=0:=by omega
  have e5:m % 4294967296=m:=by omega
  rw[e4]at e3
  have key:∀neg:Bool,neg=decide (n<0)→∀ (K2:AV→AE→Prop),(∀s7 x7 a7 n7 c7,AO Tryz.prog s7 24 (.ptr (some (s.next,0))) (.agg [.bool x7,.slice a7 n7 c7])=some (setObj s7 s.next (BX x7 (.slice a7 n7 c7))) →
        AB Tryz.prog (setObj s7 s.next (BX x7 (.slice a7 n7 c7))) 24 (.ptr (some (s.next,0)))=some (.agg [.bool x7,.slice a7 n7 c7]) →
        K (.agg [.bool x7,.slice a7 n7 c7]) (setObj s7 s.next (BX x7 (.slice a7 n7 c7)))→K2 (.agg [.bool x7,.slice a7 n7 c7]) s7) →
      WF E 107 [.bool neg,.slice (some ((newObj s ZI).next,0)) 2 (some 2)] K2 (newObj (newObj s ZI) (R 76 1 false [A6 m,A6 0])):=by
    intro neg hneg K2 hK2
    obtain⟨n2,o2,g2⟩:=Bs (newObj s ZI) (R 76 1 false [A6 m,A6 0])
    generalize newObj (newObj s ZI) (R 76 1 false [A6 m,A6 0])=s2 at *
    generalize newObj s ZI=s1 at *
    have hN:By s2 (.slice (some (s1.next,0)) 2 (some 2)) [m,0]:=⟨some (s1.next,0),some 2,rfl,.inl ⟨2,rfl,zU _,fun e=>by cases e⟩,Gc g2 (by omega)⟩
    refine IZ hE hN (by simp) (fun x hx=>?_) fun s7 v7 o7 r7=>?_
    · rcases List.mem_cons.1 hx with rfl | hx
      · exact A0J hm1 (by decide)
      · rw[A1d.1 hx];exact(by decide)
    have hv:Bw neg (AG [m,0])=n:=by
      have:AG [m,0]=n.natAbs:=by rw[← hm];simp[AG]
      rw[this,hneg]
      exact F9 n
    rw[hv]at r7
    have g7:s7.heap.get s.next=some ZI:=by rw[o7.2 _ (by omega),o2.2 _ (by omega)];exact g1
    obtain⟨m7,rfl,r7⟩:=r7
    obtain⟨a7,n7,c7,rfl⟩:=r7.n32.shape
    obtain⟨st,ld⟩:=Dr (s1:=s) (x:=decide (n<0)) (a:=a7) (n:=n7) (c:=c7) g7
    have h2:=o2.1
    refine hK2 _ _ _ _ _ st ld (hK _ _ ((o1.trans ((o2.trans (o7.mono h2)).mono o1.1)).set (by omega) _) (BR.mono (b:=s2.next) ⟨_,rfl,r7.set (by omega) _⟩ (by omega)))
  rcases hcase with⟨d,c1⟩ | ⟨d,c1,c2⟩
  · simp only[xf,dg,dh,di,dk,DO,Xc,c1,Ry,d,CP,e3,e5,Nat.zero_mod,P0,Xe,Qa,Qb,Qc,Qd,Qf,Qh,Qi,Qj,Qk,Ql,Qm,Qo,true_and,Qp,Qq,Qr,Qs,Qt,Qv,Ra,Rb,Rh,Rj,Yc,Ry,A1r,A1p,A1u,A1o]
    refine key false d.symm _ fun s7 x7 a7 n7 c7 st ld hk=>?_
    simp only[st,ld,AM,Xy,Za,Qd,Qj,Qm,Qo,true_and,Qr,Qs,Rk,Rn,Yc]
    exact hk
  · simp only[xf,dg,dh,di,pI,dk,DO,Xc,c1,c2,Ry,d,CP,e3,e5,Nat.zero_mod,P0,Xe,Qa,Qb,Qc,Qd,Qf,Qh,Qi,Qj,Qk,Ql,Qm,Qo,true_and,Qp,Qq,Qr,Qs,Qt,Qv,Qz,Rb,Rh,Rj,Yc,Ry,A1r,A1p,A1t,A1u,A1o]
    refine key true d.symm _ fun s7 x7 a7 n7 c7 st ld hk=>?_
    simp only[st,ld,AM,Xy,Za,Qd,Qj,Qm,Qo,true_and,Qr,Qs,Rk,Rn,Yc]
    exact hk
end
theorem Al{P:Program}{s:AE}{i e sz t n o:Nat}{sp:Bool}{cs:List AV}(ht:EO P t=some true)(hs:BJ P t=some n)(hg:s.heap.get i=some (R e sz sp cs))(hl:o+n≤cs.length):AB P s t (.ptr (some (i,o)))=some (.agg ((cs.drop o).take n)):=by
 rw[Wg ht,hs,Option.bind_some,hg,Wp hl]
 rfl
theorem BI.shape{s:AE}{v:AV}{z:Int}{k:Nat}(h:BI s v z k):∃x a n c,v=.agg [.bool x,.slice a n c]:=by
 obtain⟨neg,m,l,rfl,hm,_⟩:=h
 obtain⟨a,n,c,rfl⟩:=hm.shape
 exact⟨_,_,_,_,rfl⟩
section
variable{E:CR}{s:AE}
theorem Nz{S:AE}{p i:Nat}(hi:i<2){f:FuncId}{x0:Bool}{a0:Option (Nat×Nat)}{n0:Nat}{c0:Option Nat}{x1:Bool}{a1:Option (Nat×Nat)}{n1:Nat}{c1:Option Nat}{ri:Nat}
  (hp:p+1<S.next) (hb:S.heap.get p=some (BX x0 (.slice a0 n0 c0))) (hel:AB Tryz.prog S 24 (.ptr (some (ri,0+i * 2)))=some (.agg [.bool x1,.slice a1 n1 c1])) {r:Int}
  (hf:∀ (s:AE) (K:AV→AE→Prop),Aa S.next S s→(∀s' v,Aa s.next s s'→BR s.next s' v r→K v s')→WF E f [.agg [.bool x0,.slice a0 n0 c0],.agg [.bool x1,.slice a1 n1 c1]] K s)
  {Q:Az→Prop} {y0 y1 y5 y9:AV}
  (hgo:∀ (s':AE) (x2:Bool) (a2:Option (Nat×Nat)) (n2:Nat) (c2:Option Nat) (y5 y9:AV),S.next≤s'.next→(∀j,j<S.next→j≠p→s'.heap.get j=S.heap.get j)→s'.heap.get p=some (BX x2 (.slice a2 n2 c2))→BR S.next s' (.agg [.bool x2,.slice a2 n2 c2]) r →
   WC E none (.loop Js) Q [y0,y1,.func f [] [],.ptr (some (p,0)),.ptr (some (p+1,0)),y5,.slice (some (ri,0)) 2 (some 2),iv 2,iv ((i+1:Nat):Int),y9] [] s'):
  WC E none (.loop Js) Q [y0,y1,.func f [] [],.ptr (some (p,0)),.ptr (some (p+1,0)),y5,.slice (some (ri,0)) 2 (some 2),iv 2,iv (i:Int),y9] [] S:=by
 have dd:decide ((i:Int)<2)=true:=decide_eq_true (by omega)
 have e1:=AX (cap:=some 2) (i:=ri) (o:=0) (n:=2) Tryz.underlying134 CO (show i<2 from hi)
 have e17:=Ax Tryz.prog 3 (i:Int) 1 ⟨by omega,by omega⟩
 have e17':((i:Int)+1)=((i+1:Nat):Int):=by omega
 refine WC.loop' ?_
 generalize hW:WC E none (Ac.loop Js) Q=WW
 obtain⟨m1,o1,g1⟩:=Bs S ZI
 simp only[Js,TW,Zc,Ry,dd,e1,hel,DO,Xc,Qa,Qb,Qc,Qd,Qf,Qh,Qj,Qk,Qm,Qo,true_and,Qp,Qq,Qr,Qs,Qt,Qv,Qz,Rb,Rd,Re,Ry,A1x,A1v,A1m,A1r,A1o]
 generalize hs1:newObj S ZI=s1 at *
 have st:=Ai (P:=Tryz.prog) (t:=24) (cs:=[.bool x1,.slice a1 n1 c1]) CO g1 rfl rfl rfl (by simp)
 generalize hs2:setObj s1 S.next (R 24 0 false [.bool x1,.slice a1 n1 c1])=s2 at st
 have o2:Aa S.next S s2:=by rw[← hs2];exact o1.set (zU _) _
 have n2:s2.next=S.next+1:=by rw[← hs2];exact m1
 have k1:s2.heap.get p=some (BX x0 (.slice a0 n0 c0)):=(o2.2 p (by omega)).trans hb
 have k2:s2.heap.get S.next=some (R 24 0 false [.bool x1,.slice a1 n1 c1]):=by rw[← hs2,Ww]
 have l1:=AK (P:=Tryz.prog) (t:=24) DN CO k1 rfl
 have l2:=AK (P:=Tryz.prog) (t:=24) DN CO k2 rfl
 simp only[Zd,st,l1,l2,Xy,Za,Qb,Qc,Qd,Qe,Qf,Qh,Qj,Qk,Qm,Qo,true_and,Qr,Qs,Qt,Qv,A1m,A1o]
 refine hf s2 _ o2 fun s3 v3 o3 r3=>?_
 have k3:s3.heap.get p=some (BX x0 (.slice a0 n0 c0)):=(o3.2 p (by omega)).trans k1
 obtain⟨m3,rfl,r3'⟩:=r3
 obtain⟨a3,n3,c3,rfl⟩:=r3'.n32.shape
 have st3:=Ai (P:=Tryz.prog) (t:=24) (cs:=[.bool (decide (r<0)),.slice a3 n3 c3]) CO k3 rfl rfl rfl (by simp)
 simp only[st3,Ze,e17,e17',Qb,Qc,Qd,Qf,Qh,Qi,Qj,Qk,Qm,Qo,true_and,Qp,Qq,Qr,Qs,Qt,Qv,A1p]
 rw[← hW]
 have h3:=o3.1
 refine hgo _ (decide (r<0)) a3 n3 c3 _ _ ?_ (fun j hj hne=>?_) (Ww _ _ _) (BR.mono (b:=s2.next) ⟨_,rfl,r3'.set (by omega) _⟩ (by omega))
 ·show S.next≤s3.next;omega
 ·rw[Wx _ hne,o3.2 j (by omega),o2.2 j hj]
theorem V2(hE:GoodN E){f:FuncId}{v0 vx vy:AV}{z0 x y r:Int}{k0 kx ky ri:Nat}(h0:BI s v0 z0 k0)(hx:BI s vx x kx)(hy:BI s vy y ky){xc yc:List AV}(hxc:vx=.agg xc)(hyc:vy=.agg yc)(hri:ri<s.next)(hrow:s.heap.get ri=some (R 24 2 false (xc++yc)))
  (h1:∀ (s:AE) (va vb:AV) (K:AV→AE→Prop),BI s va z0 k0→BI s vb x kx→(∀s' v,Aa s.next s s'→BR s.next s' v x→K v s')→WF E f [va,vb] K s)
  (h2:∀ (s:AE) (va vb:AV) (K:AV→AE→Prop),BI s va x kx→BI s vb y ky→(∀s' v,Aa s.next s s'→BR s.next s' v r→K v s')→WF E f [va,vb] K s)
  {K:AV→AE→Prop} (hK:∀s' v,Aa s.next s s'→BR s.next s' v r→K v s'):WF E 116 [v0,.slice (some (ri,0)) 2 (some 2),.func f [] []] K s:=by
 have xabs:=hx.abs
 obtain⟨x0,a0,n0,c0,rfl⟩:=h0.shape
 obtain⟨x1,a1,m1,c1,e1⟩:=hx.shape
 obtain⟨x2,a2,m2,c2,e2⟩:=hy.shape
 rw[hxc]at e1;rw[hyc]at e2
 injection e1 with e1;injection e2 with e2
 subst e1;subst e2;subst hxc;subst hyc
 refine hE.go jQ (by decide) rfl ?_
 obtain⟨n1,o1,g1,g2⟩:=EK s (BX x0 (.slice a0 n0 c0)) ZI
 simp only[vY,ZY,ZZ,Xa,Xh,DO,Xc,Ak,AH Tryz.underlying134,Qa,Qb,Qc,Qd,Qf,Qh,Qi,Qj,Ql,Qm,Qo,true_and,Qp,Qq,Qr,Qs,Qt,Qv,Rb,Rh,A1q,A1r,A1p]
 generalize newObj (newObj s (BX x0 (.slice a0 n0 c0))) ZI=s1 at *
 have hr1:=(o1.2 ri hri).trans hrow
 have el0:AB Tryz.prog s1 24 (.ptr (some (ri,0+0 * 2)))=some (.agg [.bool x1,.slice a1 m1 c1]):=Al (o:=0) (n:=2) DN CO hr1 (by simp)
 refine Nz (S:=s1) (p:=s.next) (i:=0) (by omega) (by omega) g1 el0 (fun s2 K2 o2 hk=>h1 s2 _ _ K2 (h0.old (o1.trans (o2.mono o1.1))) (hx.old (o1.trans (o2.mono o1.1))) hk) fun s2 x3 a3 n3 c3 y5 y9 q1 q2 q3 q4=>?_
 have o12:Aa s.next s s2:=⟨by have:=o1.1;omega,fun j hj=>by rw[q2 j (by omega) (by omega),o1.2 j hj]⟩
 have hr2:=(o12.2 ri hri).trans hrow
 have el1:AB Tryz.prog s2 24 (.ptr (some (ri,0+1 * 2)))=some (.agg [.bool x2,.slice a2 m2 c2]):=Al (o:=2) (n:=2) DN CO hr2 (by simp)
 refine Nz (S:=s2) (p:=s.next) (i:=0+1) (by omega) (by omega) q3 el1 (fun s3 K3 o3 hk=>h2 s3 _ _ K3 ((q4.bi xabs).old o3) (hy.old (o12.trans (o3.mono o12.1))) hk) fun s3 x4 a4 n4 c4 y5 y9 w1 w2 w3 w4=>?_
 have o13:Aa s.next s s3:=⟨by have:=o12.1;omega,fun j hj=>by rw[w2 j (by have:=o12.1;omega) (by omega),o12.2 j hj]⟩
 have dd:decide (((0+1+1:Nat):Int)<2)=false:=rfl
 refine WC.loop' ?_
 have l1:=AK (P:=Tryz.prog) (t:=24) DN CO w3 rfl
 have g3:s3.heap.get (s.next+1)=some ZI:=by rw[w2 _ (by omega) (by omega),q2 _ (by omega) (by omega)];exact g2
 obtain⟨st,ld⟩:=Dr (s1:=s) (x:=x4) (a:=a4) (n:=n4) (c:=c4) g3
 simp only[Js,TW,Zf,Ry,dd,l1,st,ld,if_true,AM,Xy,Za,Qa,Qb,Qc,Qd,Qf,Qh,Qj,Qk,Qm,Qo,true_and,Qp,Qq,Qr,Qs,Qt,Qv,Ra,Rb,Rd,Re,Rg,Rj,Rk,Rn,Yc,Ry,A1x,A1m,A1o]
 exact hK _ _ (o13.set (by omega) _) ((w4.set (by omega) _).mono (by have:=o12.1;omega))
theorem KP(x y:Bool)(a b:Option (Nat×Nat))(n m:Nat)(c d:Option Nat):Ad Tryz.prog 134 2 (zipIdx [0,1] [.agg [.bool x,.slice a n c],.agg [.bool y,.slice b m d]])=some (R 24 2 false [.bool x,.slice a n c,.bool y,.slice b m d]):=by kernel_rfl
theorem iZ(s:AE):BI s (.agg [.bool false,.slice none 0 (some 0)]) 0 0:=⟨false,_,[],rfl,(NR.nil 0 s).n32,fun x hx=>(by cases hx),zU _,rfl⟩
theorem iX(hE:GoodN E){vx vy:AV}{x y:Int}{kx ky ri:Nat}(hx:BI s vx x kx)(hy:BI s vy y ky)(hk:kx+ky+1≤1000000000){xc yc:List AV}(hxc:vx=.agg xc)(hyc:vy=.agg yc)(hri:ri<s.next)(hrow:s.heap.get ri=some (R 24 2 false (xc++yc)))
  {K:AV→AE→Prop} (hK:∀s' v,Aa s.next s s'→BR s.next s' v (x+y)→K v s'):WF E 113 [.slice (some (ri,0)) 2 (some 2)] K s:=by
 refine hE.go jO (by decide) rfl ?_
 have hbz:Be Tryz.prog 24 (zipIdx [] [])=some (.agg [.bool false,.slice none 0 (some 0)]):=by kernel_rfl
 obtain⟨n1,o1,g1⟩:=Bs s ZI
 simp only[vW,ZU,ZV,DO,Xc,hbz,Qa,Qb,Qc,Qd,Qf,Qh,Qi,Qj,Qk,Ql,Qm,Qo,true_and,Qp,Qq,Qr,Qt,Qv,Rb,Rh,Rj,A1r,A1o]
 generalize newObj s ZI=s1 at *
 refine V2 hE (iZ s1) (hx.old o1) (hy.old o1) hxc hyc (by omega) ((o1.2 ri hri).trans hrow) (r:=x+y)
  (fun s va vb K ha hb hk'=>QT hE ha hb (by omega) (by rw[Int.zero_add];exact hk')) (fun s va vb K ha hb hk'=>QT hE ha hb hk hk') fun s2 v2 o2 r2=>?_
 obtain⟨m2,rfl,q2⟩:=r2
 obtain⟨a2,n2,c2,rfl⟩:=q2.n32.shape
 obtain⟨st,ld⟩:=Dr (s1:=s) (x:=decide (x+y<0)) (a:=a2) (n:=n2) (c:=c2) ((o2.2 s.next (by omega)).trans g1)
 simp only[st,ld,AM,Xy,Za,Qd,Qj,Qm,Qo,true_and,Qr,Qs,Rk,Rn,Yc]
 exact hK _ _ ((o1.trans (o2.mono o1.1)).set (zU _) _) (BR.mono (b:=s1.next) ⟨_,rfl,q2.set (by omega) _⟩ (by omega))
theorem VE(hE:GoodN E){vx vy:AV}{x y:Int}{kx ky ri:Nat}(hx:BI s vx x kx)(hy:BI s vy y ky)(hk:kx+ky+1≤1000000000){xc yc:List AV}(hxc:vx=.agg xc)(hyc:vy=.agg yc)(hri:ri<s.next)(hrow:s.heap.get ri=some (R 24 2 false (xc++yc)))
  {K:AV→AE→Prop} (hK:∀s' v,Aa s.next s s'→BR s.next s' v (x * y)→K v s'):WF E 71 [.slice (some (ri,0)) 2 (some 2)] K s:=by
 refine hE.go uB (by decide) rfl ?_
 obtain⟨n1,o1,g1⟩:=Bs s ZI
 simp only[zA,p4,p6,DO,Xc,Qa,Qb,Qc,Qd,Qf,Qh,Qi,Qj,Qk,Ql,Qm,Qo,true_and,Qp,Qq,Qt,Qv,Rb,Rh,Rj,A1r,A1u,A1o]
 generalize newObj s ZI=s1 at *
 refine QV hE (n:=1) (.inr (.inl rfl)) fun s2 v2 o2 r2=>?_
 have h12:=o1.trans (o2.mono o1.1)
 simp only[Qd,Qo,true_and,Qr]
 refine V2 hE (r2.bi (k:=1) (by decide)) (hx.old h12) (hy.old h12) hxc hyc (by have:=h12.1;omega) ((h12.2 ri hri).trans hrow) (r:=x * y)
  (fun s va vb K ha hb hk'=>Q1 hE ha hb (by omega) (by rw[Int.one_mul];exact hk')) (fun s va vb K ha hb hk'=>Q1 hE ha hb (by omega) hk') fun s3 v3 o3 r3=>?_
 have h2:=o2.1
 obtain⟨m3,rfl,q3⟩:=r3
 obtain⟨a3,n3,c3,rfl⟩:=q3.n32.shape
 obtain⟨st,ld⟩:=Dr (s1:=s) (x:=decide (x * y<0)) (a:=a3) (n:=n3) (c:=c3) ((o3.2 s.next (by omega)).trans ((o2.2 s.next (by omega)).trans g1))
 simp only[st,ld,AM,Xy,Za,Qd,Qj,Qm,Qo,true_and,Qr,Qs,Rk,Rn,Yc]
 exact hK _ _ ((h12.trans (o3.mono h12.1)).set (zU _) _) (BR.mono (b:=s2.next) ⟨_,rfl,q3.set (by omega) _⟩ (by omega))
end
theorem NF(z:Int):(z<0∧Hf z=-1)∨(z=0∧Hf z=0)∨(0<z∧Hf z=1):=by
  unfold Hf
  by_cases h1:z<0
  · exact .inl ⟨h1,if_pos h1⟩
  · by_cases h2 : 0 < z
    · exact .inr (.inr ⟨h2,by rw[if_neg h1,if_pos h2]⟩)
    · exact .inr (.inl ⟨by omega,by rw[if_neg h1,if_neg h2]⟩)
section
variable{E:CR}{s:AE}
end
end
end Go.Proofs.YtjnkfbpadpmakaaGreatDoor.Am
set_option linter.unusedVariables false
set_option linter.unusedSimpArgs false
set_option maxRecDepth 100000
namespace Go.Proofs.YtjnkfbpadpmakaaGreatDoor.Am
open Go Go.Proofs
noncomputable section
theorem Aw:BJ Tryz.prog 26=some 3:=by kernel_rfl
theorem si:DP Tryz.prog 26=some 56:=by kernel_rfl
theorem BZ:EO Tryz.prog 26=some true:=by kernel_rfl
theorem yF:EM Tryz.prog 26=some (.agg [(.bool false),(.slice none 0 (some 0)),(.slice none 0 (some 0))]):=by kernel_rfl
theorem EE(i o:Nat):AC Tryz.prog 26 (.ptr (some (i,o))) 0=some (.ptr (some (i,o+0))):=by kernel_rfl
theorem J6(i o:Nat):AC Tryz.prog 26 (.ptr (some (i,o))) 1=some (.ptr (some (i,o+2))):=by kernel_rfl
theorem ke:BJ Tryz.prog 28=some 1:=by kernel_rfl
theorem EN:EO Tryz.prog 28=some false:=by kernel_rfl
def ZW:List AA:=[
 A1p (.const (.slice none 0 (some 0))) 0]
def ZX:List AA:=[
 A1u 48 [(.const (.int .u64 (1)))],
 A1p (.loc 0) 0]
def vX:Ah:=⟨0,1,(.seq (.ops ZW) (.seq (.ops ZX) .ret)),[((.var 0),none)]⟩
def pm:List AA:=[
 A1q 24 (.var 0) 2,
 A1r 26 3]
def pn:List AA:=[
 A1n 24 0 (.var 2),
 A1m 4 (.loc 0),
 A1n 24 1 (.var 2),
 A1m 22 (.loc 0),
 A1u 107 [.loc 2,.loc 0],
 A1o 24 (.var 2) (.loc 0)]
def pr:List AA:=[
 A1n 24 1 (.var 2),
 A1m 22 (.loc 0),
 A1u 49 [.loc 0,.var 1],
 A1p (.loc 0) 4]
def px:List AA:=[
 A1n 24 1 (.var 2),
 A1m 22 (.loc 0),
 A1u 50 [.loc 0,.var 4],
 ⟨none,.p1 (fun x=>Zb x 0),[.loc 0],.push,[]⟩,
 ⟨none,.p1 (fun x=>Zb x 1),[.loc 1],.push,[]⟩,
 ⟨none,.p1 (fun x=>Zb x 2),[.loc 2],.push,[]⟩,
 A1p (.loc 2) 5,
 A1t (.loc 1),
 A1t (.loc 1)]
def py:List AA:=[
 A1u 50 [.var 1,.var 4],
 ⟨none,.p1 (fun x=>Zb x 0),[.loc 0],.push,[]⟩,
 ⟨none,.p1 (fun x=>Zb x 1),[.loc 1],.push,[]⟩,
 ⟨none,.p1 (fun x=>Zb x 2),[.loc 2],.push,[]⟩,
 A1p (.loc 2) 6,
 A1t (.loc 1),
 A1t (.loc 1)]
def pz:List AA:=[
 A1n 24 0 (.var 2),
 A1m 4 (.loc 0),
 A1u 107 [.loc 0,.var 5],
 ⟨none,.p (fun l=>Be Tryz.prog 26 (zipIdx [0,1] l)),[.loc 0,.var 6],.push,[]⟩,
 A1o 26 (.var 3) (.loc 0)]
def yz:Ah:=⟨2,7,(.seq (.ops pm) (.seq (.ops pn) (.seq (.ops pr) (.seq (.ops px) (.seq (.ops py) (.seq (.ops pz) .ret)))))),[((.var 3),some 26)]⟩
def pg:List AA:=[
 A1q 26 (.var 0) 1,
 A1r 26 2]
def ph:List AA:=[
 A1n 26 1 (.var 1),
 A1m 22 (.loc 0),
 A1u 92 [.loc 0],
 A1p (.loc 0) 3]
def dv:List AA:=[
 A1s 22 (.var 3),
 ⟨none,.p2 (AN Tryz.prog .eql 3),[(.loc 0),(.const (.int .i64 (0)))],(.set 4),[]⟩]
def pj:List AA:=[
 A1u 115 [],
 A1p (.loc 0) 3]
def dx:List AA:=[
 A1n 26 0 (.var 1),
 A1m 24 (.loc 0),
 A1u 70 [.loc 0,.var 3],
 A1o 26 (.var 2) (.loc 0)]
def yy:Ah:=⟨1,5,(.seq (.ops pg) (.seq (.ops ph) (.seq (.seq (.ops dv) (.cond (.var 4)
 (.ops pj)
 .skip)) (.seq (.ops dx) .ret)))),[((.var 2),some 26)]⟩
def ZE:List AA:=[
 A1q 26 (.var 0) 2,
 A1r 26 3]
def ZF:List AA:=[
 A1m 26 (.var 2),
 A1u 69 [.loc 0],
 ⟨none,.callv,[.var 1,.loc 0],.push,[]⟩,
 A1o 26 (.var 3) (.loc 0)]
def vR:Ah:=⟨2,4,(.seq (.ops ZE) (.seq (.ops ZF) .ret)),[((.var 3),some 26)]⟩
def pR:List AA:=[
 A1q 26 (.var 0) 3,
 A1q 26 (.var 1) 4,
 A1q 84 (.var 2) 5,
 A1r 26 6]
def pS:List AA:=[
 A1m 26 (.var 3),
 ⟨none,.p (fun l=>some (.func 109 (l.take 0) (l.drop 0))),[.var 4,.var 5],.push,[]⟩,
 A1u 108 [.loc 1,.loc 0],
 A1o 26 (.var 6) (.loc 0)]
def yw:Ah:=⟨3,7,(.seq (.ops pR) (.seq (.ops pS) .ret)),[((.var 6),some 26)]⟩
def ZG:List AA:=[
 A1q 26 (.var 0) 3,
 A1r 26 4]
def ZH:List AA:=[
 A1m 26 (.var 1),
 ⟨none,.p (fun l=>some (.func 110 (l.take 0) (l.drop 0))),[.var 2,.var 3],.push,[]⟩,
 A1u 108 [.loc 1,.loc 0],
 A1o 26 (.var 4) (.loc 0)]
def vS:Ah:=⟨3,5,(.seq (.ops ZG) (.seq (.ops ZH) .ret)),[((.var 4),some 26)]⟩
def ZK:List AA:=[
 A1q 26 (.var 0) 3,
 A1r 26 4]
def ZM:List AA:=[
 ⟨none,.p1 some,[(.const (.func 111 [] []))],(.set 5),[]⟩]
def ZN:List AA:=[
 A1m 84 (.var 1),
 A1n 26 0 (.var 2),
 A1m 24 (.loc 0),
 A1n 26 1 (.var 3),
 A1m 22 (.loc 0),
 A1n 26 0 (.var 3),
 A1m 24 (.loc 0),
 A1n 26 1 (.var 2),
 A1m 22 (.loc 0),
 A1n 26 1 (.var 2),
 A1m 22 (.loc 0),
 A1n 26 1 (.var 3),
 A1m 22 (.loc 0),
 ⟨none,.callv,[.var 5,.loc 10,.loc 8],.push,[⟨none,.r1 (fun s a=>AB Tryz.prog s 22 a),[.loc 2],(.loc 1)⟩,⟨none,.r1 (fun s a=>AB Tryz.prog s 22 a),[.loc 4],(.loc 3)⟩,⟨none,.r1 (fun s a=>AB Tryz.prog s 22 a),[.loc 6],(.loc 5)⟩,⟨none,.r1 (fun s a=>AB Tryz.prog s 24 a),[.loc 8],(.loc 7)⟩,⟨none,.r1 (fun s a=>AB Tryz.prog s 84 a),[.var 1],(.loc 13)⟩]⟩,
 ⟨none,.callv,[.var 5,.loc 7,.loc 5],.push,[⟨none,.r1 (fun s a=>AB Tryz.prog s 22 a),[.loc 3],(.loc 2)⟩,⟨none,.r1 (fun s a=>AB Tryz.prog s 22 a),[.loc 5],(.loc 4)⟩,⟨none,.r1 (fun s a=>AB Tryz.prog s 84 a),[.var 1],(.loc 14)⟩]⟩,
 ⟨none,.call 51,[.loc 4,.loc 2],.push,[⟨none,.r1 (fun s a=>AB Tryz.prog s 84 a),[.var 1],(.loc 15)⟩]⟩,
 ⟨none,.callv,[.loc 15,.loc 2,.loc 1,.loc 0],.push,[]⟩,
 A1o 26 (.var 4) (.loc 0)]
def vT:Ah:=⟨3,6,(.seq (.ops ZK) (.seq (.ops ZM) (.seq (.ops ZN) .ret))),[((.var 4),some 26)]⟩
def ZO:List AA:=[
 A1q 24 (.var 0) 2,
 A1r 24 3]
def ZR:List AA:=[
 A1m 24 (.var 2),
 ⟨none,.call 107,[(.const (.bool false)),(.var 1)],.push,[⟨none,.r1 (fun s a=>AB Tryz.prog s 24 a),[.var 2],(.loc 1)⟩]⟩,
 ⟨none,.mk (fun l=>(Ad Tryz.prog 134 2 (zipIdx [0,1] l)).bind fun r=>some (r,.slice 2)),[.loc 1,.loc 0],.push,[]⟩,
 A1u 71 [.loc 0],
 A1o 24 (.var 3) (.loc 0)]
def vU:Ah:=⟨2,4,(.seq (.ops ZO) (.seq (.ops ZR) .ret)),[((.var 3),some 24)]⟩
def pT:List AA:=[
 A1r 26 1]
def pV:List AA:=[
 A1m 26 (.var 1),
 A1u 69 [.loc 0],
 A1o 26 (.var 1) (.loc 0)]
def pW:List AA:=[
 A1p (.var 0) 3,
 ⟨none,.r (fun s l=>match l with | [x]=>Ay Tryz.prog s 28 x | _=>none),[.var 3],(.set 4),[]⟩,
 A1p (.const (.int .i64 (0))) 5]
def du:List AA:=[
 A1x .lss 3 (.var 5) (.var 4) 6]
def pX:List AA:=[
 A1v 28 (.var 3) (.var 5),
 A1m 26 (.loc 0),
 A1r 26 2,
 A1o 26 (.var 2) (.loc 0)]
def pY:List AA:=[
 A1m 26 (.var 1),
 A1m 26 (.var 2),
 ⟨none,.call 64,[(.loc 1),(.loc 0),(.const (.func 112 [] []))],.push,[]⟩,
 A1o 26 (.var 1) (.loc 0)]
def pZ:List AA:=[
 ⟨none,.p2 (AN Tryz.prog .add 3),[(.var 5),(.const (.int .i64 (1)))],.push,[]⟩,
 A1p (.loc 0) 5]
def No:Ac:=(.seq (.ops du) (.seq (.cond (.var 6)
 .skip
 (.exit 0)) (.seq (.block 1 (.seq (.ops pX) (.ops pY))) (.ops pZ))))
def pe:List AA:=[
 A1m 26 (.var 1),
 A1o 26 (.var 1) (.loc 0)]
def yx:Ah:=⟨1,7,(.seq (.ops pT) (.seq (.ops pV) (.seq (.seq (.ops pW) (.block 0 (.loop No))) (.seq (.ops pe) .ret)))),[((.var 1),some 26)]⟩
def ZS:List AA:=[
 A1q 24 (.var 0) 3,
 A1q 24 (.var 1) 4,
 A1r 26 5]
def ZT:List AA:=[
 A1m 24 (.var 3),
 A1m 24 (.var 4),
 ⟨none,.mk (fun l=>(Ad Tryz.prog 134 2 (zipIdx [0,1] l)).bind fun r=>some (r,.slice 2)),[.loc 1,.loc 0],.push,[]⟩,
 A1u 113 [.loc 0],
 A1u 70 [.loc 0,.var 2],
 A1o 26 (.var 5) (.loc 0)]
def vV:Ah:=⟨3,6,(.seq (.ops ZS) (.seq (.ops ZT) .ret)),[((.var 5),some 26)]⟩
def mH:List AA:=[
 A1q 26 (.var 0) 2,
 A1q 26 (.var 1) 3,
 A1r 26 4]
def mI:List AA:=[
 A1m 26 (.var 2),
 A1m 26 (.var 3),
 ⟨none,.mk (fun l=>(Ad Tryz.prog 28 2 (zipIdx [0,1] l)).bind fun r=>some (r,.slice 2)),[.loc 1,.loc 0],.push,[]⟩,
 A1u 67 [.loc 0],
 A1o 26 (.var 4) (.loc 0)]
def yN:Ah:=⟨2,5,(.seq (.ops mH) (.seq (.ops mI) .ret)),[((.var 4),some 26)]⟩
def mJ:List AA:=[
 A1q 26 (.var 0) 2,
 A1q 26 (.var 1) 3,
 A1r 26 4]
def mK:List AA:=[
 A1m 26 (.var 2),
 A1m 26 (.var 3),
 ⟨none,.call 69,[.loc 1],.push,[⟨none,.r1 (fun s a=>AB Tryz.prog s 26 a),[.var 3],(.loc 1)⟩]⟩,
 A1u 69 [.loc 1],
 A1o 26 (.var 2) (.loc 1),
 A1o 26 (.var 3) (.loc 1)]
def mL:List AA:=[
 A1n 26 0 (.var 2),
 A1m 24 (.loc 0),
 A1n 26 0 (.var 3),
 A1m 24 (.loc 0),
 ⟨none,.mk (fun l=>(Ad Tryz.prog 134 2 (zipIdx [0,1] l)).bind fun r=>some (r,.slice 2)),[.loc 2,.loc 0],.push,[]⟩,
 A1n 26 1 (.var 2),
 A1m 22 (.loc 0),
 A1n 26 1 (.var 3),
 A1m 22 (.loc 0),
 ⟨none,.call 71,[.loc 4],.push,[⟨none,.r1 (fun s a=>AB Tryz.prog s 22 a),[.loc 2],(.loc 1)⟩,⟨none,.r1 (fun s a=>AB Tryz.prog s 22 a),[.loc 4],(.loc 3)⟩]⟩,
 A1u 51 [.loc 3,.loc 1],
 A1u 70 [.loc 1,.loc 0],
 A1o 26 (.var 4) (.loc 0)]
def yO:Ah:=⟨2,5,(.seq (.ops mJ) (.seq (.ops mK) (.seq (.ops mL) .ret))),[((.var 4),some 26)]⟩
def oh:List AA:=[
 A1q 26 (.var 0) 1,
 A1p (.const (.int .i64 (0))) 2]
def ol:List AA:=[
 A1n 26 0 (.var 1),
 A1m 24 (.loc 0),
 A1u 100 [.loc 0],
 A1p (.loc 0) 2]
def yp:Ah:=⟨1,3,(.seq (.ops oh) (.seq (.ops ol) .ret)),[((.var 2),none)]⟩
def oZ:List AA:=[
 A1r 26 1]
def og:List AA:=[
 A1u 60 [.var 0],
 A1u 99 [.loc 0],
 A1o 26 (.var 1) (.loc 0)]
def yo:Ah:=⟨1,2,(.seq (.ops oZ) (.seq (.ops og) .ret)),[((.var 1),some 26)]⟩
def rn:List AA:=[
 A1q 24 (.var 0) 1,
 A1r 26 2]
def ru:List AA:=[
 A1m 24 (.var 1),
 ⟨none,.call 115,[],.push,[⟨none,.r1 (fun s a=>AB Tryz.prog s 24 a),[.var 1],(.loc 1)⟩]⟩,
 A1u 70 [.loc 1,.loc 0],
 A1o 26 (.var 2) (.loc 0)]
def zS:Ah:=⟨1,3,(.seq (.ops rn) (.seq (.ops ru) .ret)),[((.var 2),some 26)]⟩
theorem jP:AL Tryz.prog 115=some vX:=by kernel_rfl
theorem uA:AL Tryz.prog 70=some yz:=by kernel_rfl
theorem t8:AL Tryz.prog 69=some yy:=by kernel_rfl
theorem jJ:AL Tryz.prog 108=some vR:=by kernel_rfl
theorem t6:AL Tryz.prog 64=some yw:=by kernel_rfl
theorem jK:AL Tryz.prog 109=some vS:=by kernel_rfl
theorem jL:AL Tryz.prog 110=some vT:=by kernel_rfl
theorem jM:AL Tryz.prog 111=some vU:=by kernel_rfl
theorem t7:AL Tryz.prog 67=some yx:=by kernel_rfl
theorem jN:AL Tryz.prog 112=some vV:=by kernel_rfl
theorem tO:AL Tryz.prog 27=some yN:=by kernel_rfl
theorem tP:AL Tryz.prog 29=some yO:=by kernel_rfl
theorem tr:AL Tryz.prog 53=some yp:=by kernel_rfl
theorem tq:AL Tryz.prog 52=some yo:=by kernel_rfl
theorem uT:AL Tryz.prog 99=some zS:=by kernel_rfl
end
end Go.Proofs.YtjnkfbpadpmakaaGreatDoor.Am
set_option linter.unusedVariables false
set_option linter.unusedSimpArgs false
set_option maxRecDepth 16000
namespace Go.Proofs.YtjnkfbpadpmakaaGreatDoor.Am
open Go Go.Proofs
noncomputable section
theorem VD(x:Bool)(a b:Option (Nat×Nat))(n m:Nat)(c d:Option Nat):Be Tryz.prog 26 (zipIdx [0,1] [.agg [.bool x,.slice a n c],.slice b m d])=some (.agg [.bool x,.slice a n c,.slice b m d]):=by kernel_rfl
abbrev ZQ:BF:=R 26 0 false [.bool false,.slice none 0 (some 0),.slice none 0 (some 0)]
abbrev BQ(x:Bool)(m d:AV):BF:=R 26 0 false [.bool x,m,d]
theorem Bh:Ag Tryz.prog 26=some (ZQ,.ptr):=by kernel_rfl
theorem CI(x:Bool)(a b:Option (Nat×Nat))(n m:Nat)(c d:Option Nat):Fs (.agg [.bool x,.slice a n c,.slice b m d]) (.agg [.bool x,.slice a n c,.slice b m d])=true:=by
 cases a<;>cases b<;>cases c<;>cases d<;>cases x<;>simp[Fs,Fs.eqAs]
def QI(s:AE)(v:AV)(q:Rat)(k:Nat):Prop:=∃neg m d lm ld,v=.agg [.bool neg,m,d]∧By s m lm∧By s d ld∧Bi lm∧Bi ld∧lm.length≤k∧ld.length≤k∧Fe neg (AG lm) (AG ld)=q
def QR(b:Nat)(s:AE)(v:AV)(q:Rat):Prop:=∃m d,v=.agg [.bool (decide (q.num<0)),m,d]∧NR b s m (AR q.num.natAbs)∧NR b s d (AR q.den)∧(∀j,B6 m=some j→B6 d≠some j)∧(q.num=0→m=.slice none 0 (some 0))
def QH(q:Rat)(k:Nat):Prop:=q.num.natAbs<LB ^ k∧q.den<LB ^ k
theorem QI.old{s s':AE}{v:AV}{q:Rat}{k:Nat}(h:QI s v q k)(o:Aa s.next s s'):QI s' v q k:=by
 obtain⟨neg,m,d,lm,ld,h1,h2,h3,h4⟩:=h
 exact⟨neg,m,d,lm,ld,h1,h2.old o,h3.old o,h4⟩
theorem QI.le{s:AE}{v:AV}{q:Rat}{k k':Nat}(h:QI s v q k)(hk:k≤k'):QI s v q k':=by
 obtain⟨neg,m,d,lm,ld,h1,h2,h3,h4,h5,h6,h7,h8⟩:=h
 exact⟨neg,m,d,lm,ld,h1,h2,h3,h4,h5,by omega,by omega,h8⟩
theorem QI.shape{s:AE}{v:AV}{q:Rat}{k:Nat}(h:QI s v q k):∃x a n c b m d,v=.agg [.bool x,.slice a n c,.slice b m d]:=by
 obtain⟨neg,m,d,lm,ld,rfl,h2,h3,_⟩:=h
 obtain⟨a,n,c,rfl⟩:=h2.shape
 obtain⟨b,m,d,rfl⟩:=h3.shape
 exact⟨_,_,_,_,_,_,_,rfl⟩
theorem NR.lt{b:Nat}{s:AE}{v:AV}{l:List Nat}(h:NR b s v l){j:Nat}(hj:B6 v=some j):b≤j∧j<s.next:=by
 obtain⟨O,q1,_,q,_⟩:=h
 refine⟨q j hj,?_⟩
 rcases q1 with⟨a,rfl,_,_,_,h5⟩ | ⟨i,p,rfl,h6,_⟩
 ·cases a with
  | none=>cases hj
  | some io=>obtain⟨i,o⟩:=io;injection hj with hj;subst hj;exact(h5 i o rfl).1
 ·injection hj with hj
  subst hj
  rcases h6.ex with⟨e',_⟩ | ⟨_,_,k2,_⟩
  ·cases e'
  ·exact k2
theorem QR.keep{b:Nat}{s s':AE}{v:AV}{q:Rat}(h:QR b s v q)(hn:s.next≤s'.next)(hf:∀j,b≤j→j<s.next→s'.heap.get j=s.heap.get j):QR b s' v q:=by
 obtain⟨m,d,h1,h2,h3,h4⟩:=h
 exact⟨m,d,h1,h2.keep hn fun j hj=>hf j (h2.lt hj).1 (h2.lt hj).2,h3.keep hn fun j hj=>hf j (h3.lt hj).1 (h3.lt hj).2,h4⟩
theorem QR.old{b:Nat}{s s':AE}{v:AV}{q:Rat}(h:QR b s v q)(o:Aa s.next s s'):QR b s' v q:=h.keep o.1 fun j _ hj=>o.2 j hj
theorem QR.set{b i:Nat}{s:AE}{v:AV}{q:Rat}(h:QR b s v q)(hi:i<b)(o:BF):QR b (setObj s i o) v q:=h.keep (zU _) fun j hj _=>Wx _ (by omega)
theorem QR.mono{b b':Nat}{s:AE}{v:AV}{q:Rat}(h:QR b s v q)(k:b'≤b):QR b' s v q:=by
 obtain⟨m,d,h1,h2,h3,h4⟩:=h
 exact⟨m,d,h1,h2.mono k,h3.mono k,h4⟩
theorem QR.qi{b k:Nat}{s:AE}{v:AV}{q:Rat}(h:QR b s v q)(hq:QH q k):QI s v q k:=by
 obtain⟨m,d,h1,h2,h3,_⟩:=h
 exact⟨_,m,d,_,_,h1,h2.n32,h3.n32,AT _,AT _,A9 hq.1,A9 hq.2,by rw[AY,AY];exact Wq q⟩
theorem QR.shape{b:Nat}{s:AE}{v:AV}{q:Rat}(h:QR b s v q):∃x a n c b m d,v=.agg [.bool x,.slice a n c,.slice b m d]:=by
 obtain⟨m,d,rfl,h2,h3,_⟩:=h
 obtain⟨a,n,c,rfl⟩:=h2.n32.shape
 obtain⟨b,m,d,rfl⟩:=h3.n32.shape
 exact⟨_,_,_,_,_,_,_,rfl⟩
theorem QI.qh{s:AE}{v:AV}{q:Rat}{k:Nat}(h:QI s v q k)(hk:1≤k):QH q k:=by
  obtain⟨neg,m,d,lm,ld,rfl,h2,h3,h4,h5,h6,h7,rfl⟩:=h
  constructor
  · rw[M1,Int.natAbs_ediv_of_dvd (Int.ofNat_dvd_left.2 (by rw[CJ];exact Nat.gcd_dvd_left _ _)),CJ]
    exact A0J (A0Y _ _) (DI h4 h6)
  · rw [Sb]
    refine A0J (A0Y _ _) ?_
    unfold Cw
    split
    · exact DC (j:=1) (by decide) hk
    · exact DI h5 h7
theorem ff(neg:Bool)(m g:Nat)(h:g ∣ m):Bw neg (m / g)=Bw neg m / (g:Int):=by
 unfold Bw
 cases neg with
 | false=>rw[if_neg (by decide),if_neg (by decide)];exact Int.natCast_ediv m g
 | true=>rw[if_pos rfl,if_pos rfl,Int.neg_ediv_of_dvd (Int.natCast_dvd_natCast.2 h),Int.natCast_ediv]
theorem Mg(z:Int){D:Nat}(hD:D≠0):(mkRat z D).num=Bw (decide (z<0)) (z.natAbs / z.natAbs.gcd D):=by
 rw[← Pr hD _ _ (F9 z),M1,ff _ _ _ (Nat.gcd_dvd_left _ _)]
 unfold Cw
 rw[if_neg hD]
theorem Pk(z:Int){D:Nat}(hD:D≠0):(mkRat z D).den=D / z.natAbs.gcd D:=by
 rw[← Pr hD _ _ (F9 z),Sb]
 unfold Cw
 rw[if_neg hD]
section
variable{E:CR}{s:AE}
theorem gM(hE:GoodN E){K:AV→AE→Prop}(hK:∀s' v,Aa s.next s s'→NR s.next s' v (AR 1)→K v s'):WF E 115 [] K s:=by
 refine hE.go jP (by decide) rfl ?_
 simp only[vX,ZW,ZX,Qa,Qb,Qc,Qd,Qf,Qh,Qi,Qj,Qk,Ql,Qm,Qo,true_and,Qp,Qt,Qv,Rb,Rh,Rj,Rk,Rm,Rn,Yc,A1p,A1u]
 refine V3 hE (n:=1) (by decide) fun s' v' o r=>?_
 simp only[Qd,Qo,true_and,Qp,Qr]
 exact hK s' v' o r
theorem BM{s2:AE}{p:Nat}{cs0:List AV}(h0:cs0.length=3){x:Bool}{a b:Option (Nat×Nat)}{n m:Nat}{c d:Option Nat}(hg:s2.heap.get p=some (R 26 0 false cs0)):
  AO Tryz.prog s2 26 (.ptr (some (p,0))) (.agg [.bool x,.slice a n c,.slice b m d])=some (setObj s2 p (BQ x (.slice a n c) (.slice b m d)))∧AB Tryz.prog (setObj s2 p (BQ x (.slice a n c) (.slice b m d))) 26 (.ptr (some (p,0)))=some (.agg [.bool x,.slice a n c,.slice b m d]):=
 ⟨Ai Aw hg h0 rfl rfl (by simp),AK BZ Aw (Ww _ _ _) rfl⟩
theorem Fa(hE:GoodN E){vn vd:AV}{z:Int}{kn:Nat}{ld:List Nat}(hn:BI s vn z kn)(hd:By s vd ld)(hkn:kn≤1000000000)(hld:ld.length≤1000000000)(hsd:Bi ld)(h0:AG ld≠0){K:AV→AE→Prop}
  (hK:∀s' v,Aa s.next s s'→QR s.next s' v (mkRat z (AG ld))→K v s'):WF E 70 [vn,vd] K s:=by
 have zabs:=hn.abs
 obtain⟨neg,mg,l,rfl,hm,hs,hl,hz⟩:=hn
 obtain⟨a,n,c,rfl⟩:=hm.shape
 obtain⟨ad,nd,cd,rfl⟩:=hd.shape
 refine hE.go uA (by decide) rfl ?_
 obtain⟨n1,o1,g1,g2⟩:=EK s (BX neg (.slice a n c)) ZQ
 simp only[yz,pm,pn,Xa,Xh,Bh,Xc,Ak,CY,CZ,Qa,Qb,Qc,Qd,Qf,Qh,Qj,Qk,Ql,Qm,Qo,true_and,Qp,Qq,Qr,Qs,Qt,Qv,Rb,Rh,Rj,A1q,A1r,A1n,A1m,A1u,A1o]
 generalize newObj (newObj s (BX neg (.slice a n c))) ZQ=s1 at *
 have l1:=AI (P:=Tryz.prog) (t:=4) (o:=0+0) Gz g1 rfl
 have l2:=AI (P:=Tryz.prog) (t:=22) (o:=0+1) Cq g1 rfl
 simp only[l1,l2,Qm]
 refine IZ hE (hm.old o1) (by omega) hs fun s2 v2 o2 r2=>?_
 rw[hz]at r2
 have h2:=o2.1
 have f1:=(o2.2 s.next (by omega)).trans g1
 have f2:=(o2.2 (s.next+1) (by omega)).trans g2
 obtain⟨m2,rfl,r2⟩:=r2
 obtain⟨a2,n2,c2,rfl⟩:=r2.n32.shape
 have st:=Ai (P:=Tryz.prog) (t:=24) (cs:=[.bool (decide (z<0)),.slice a2 n2 c2]) CO f1 rfl rfl rfl (by simp)
 generalize hs3:setObj s2 s.next (R 24 0 false [.bool (decide (z<0)),.slice a2 n2 c2])=s3 at st
 have n3:s3.next=s2.next:=by rw[← hs3];rfl
 have o3:Aa s.next s s3:=by rw[← hs3];exact(o1.trans (o2.mono o1.1)).set (zU _) _
 have k1:s3.heap.get s.next=some (BX (decide (z<0)) (.slice a2 n2 c2)):=by rw[← hs3,Ww]
 have k2:s3.heap.get (s.next+1)=some ZQ:=by rw[← hs3,Wx _ (by omega)];exact f2
 have w2:NR s1.next s3 (.slice a2 n2 c2) (AR z.natAbs):=by rw[← hs3];exact r2.set (by omega) _
 have l3:=AI (P:=Tryz.prog) (t:=22) (o:=0+1) Cq k1 rfl
 have zl:=A9 zabs
 simp only[pr,st,l3,CZ,Xy,Za,Qb,Qc,Qd,Qf,Qh,Qj,Qk,Qm,Qo,true_and,Qr,Qs,Qt,Qv,A1n,A1m,A1u,A1p]
 refine ub hE w2.n32 (hd.old o3) (by omega) (by omega) (AT _) hsd fun s4 v4 o4 r4=>?_
 rw[AY]at r4
 have h4:=o4.1
 have e1:=(o4.2 s.next (by omega)).trans k1
 have l4:=AI (P:=Tryz.prog) (t:=22) (o:=0+1) Cq e1 rfl
 have hgp:z.natAbs.gcd (AG ld)≠0:=fun e=>h0 (A1l e)
 have hgl:(AR (z.natAbs.gcd (AG ld))).length≤1000000000:=zY (E9 (Nat.gcd_le_right _ (by omega))) (zY (A9 (DI hsd (zU _))) hld)
 simp only[px,l4,CZ,Qb,Qc,Qd,Qf,Qh,Qj,Qk,Qm,Qo,true_and,Qp,Qq,Qr,Qs,Qt,Qv,Zb,A1n,A1m,A1u,A1p,A1t]
 refine Vu hE (w2.n32.old o4) r4.n32 (by omega) hgl (AT _) (AT _) (fun e=>absurd (by rw[AY]at e;exact e) hgp) fun _ s5 vq vr o5 rq _ rz=>?_
 rw[AY,AY]at rq rz
 have h5:=o5.1
 simp only[py,Zb,Qb,Qc,Qd,Qf,Qh,Qj,Qk,Qm,Qo,true_and,Qp,Qq,Qr,Qs,Qt,Qv,Zb,Yd,Ye,A1u,A1p,A1t]
 have o35:Aa s.next s s5:=o3.trans ((o4.trans (o5.mono h4)).mono o3.1)
 refine fF hE (hd.old o35) (r4.n32.old o5) (by omega) hgl hsd (AT _) (fun e=>absurd (by rw[AY]at e;exact e) hgp) fun _ s6 vq2 vr2 o6 rq2 _=>?_
 rw[AY]at rq2
 have h6:=o6.1
 have e2:=(o6.2 s.next (by omega)).trans ((o5.2 s.next (by omega)).trans e1)
 have l5:=AI (P:=Tryz.prog) (t:=4) (o:=0+0) Gz e2 rfl
 have hul:(AR (z.natAbs / z.natAbs.gcd (AG ld))).length≤1000000000:=zY (E9 (A0Y _ _)) (by omega)
 simp only[pz,l5,CY,Qb,Qc,Qd,Qf,Qh,Qj,Qk,Qm,Qo,true_and,Qp,Qq,Qr,Qs,Qt,Qv,Yd,Ye,A1n,A1m,A1u,A1o]
 refine ii hE (rq.n32.old o6) hul (AT _) fun s7 v7 o7 r7 r0=>?_
 rw[AY,← Mg z h0]at r7
 have h7:=o7.1
 have e3:s7.heap.get (s.next+1)=some ZQ:=by rw[o7.2 _ (by omega),o6.2 _ (by omega),o5.2 _ (by omega),o4.2 _ (by omega)];exact k2
 obtain⟨m7,rfl,r7⟩:=r7
 have hz0:(mkRat z (AG ld)).num=0→m7=.slice none 0 (some 0):=fun h=>by
  rw[Mg z h0]at h
  have h1:z.natAbs / z.natAbs.gcd (AG ld)=0:=by have:=congrArg Int.natAbs h;rw[CJ]at this;exact this
  have h2:z.natAbs<z.natAbs.gcd (AG ld):=(Nat.div_eq_zero_iff_lt (by omega)).1 h1
  have h3:=r0 (rz h2)
  injection h3 with h3
  injection h3 with _ h3
  injection h3 with h3 _
 have rd:=rq2.old o7
 rw[← Pk z h0]at rd
 have hdj:∀j,B6 m7=some j→B6 vq2≠some j:=fun j hj h=>by
  have q1:=(r7.lt hj).1
  have q2:=(rq2.lt h).2
  omega
 obtain⟨a7,n7,c7,rfl⟩:=r7.n32.shape
 obtain⟨b7,m7,d7,rfl⟩:=rd.n32.shape
 obtain⟨st,ld'⟩:=BM (cs0:=[.bool false,.slice none 0 (some 0),.slice none 0 (some 0)]) rfl (x:=decide ((mkRat z (AG ld)).num<0)) (a:=a7) (n:=n7) (c:=c7) (b:=b7) (m:=m7) (d:=d7) e3
 simp only[VD,st,ld',AM,Xy,Za,Qd,Qj,Qm,Qo,true_and,Qr,Qs,Rk,Rn,Yc]
 refine hK _ _ ((o35.trans ((o6.trans (o7.mono h6)).mono o35.1)).set (by omega) _) ?_
 refine QR.mono (b:=s5.next) (QR.set ⟨_,_,rfl,r7.mono h6,rd,hdj,hz0⟩ (by omega) _) (by omega)
end
section
variable{E:CR}{s:AE}
theorem Ha       (hE : GoodN E) {v : AV} {q : Rat} {k : Nat} (hv : QI s v q k) (hk : k ≤ 1000000000) {K : AV → AE  → Prop} (hK : ∀ s' v, Aa  s.next s s' → QR s.next s' v q → K v s') : WF E 69 [v] K s := by
  obtain⟨neg,m,d,lm,ld,rfl,hm,hd,hsm,hsd,hlm,hld,rfl⟩:=hv
  obtain⟨a,n,c,rfl⟩:=hm.shape
  obtain⟨b,nd,cd,rfl⟩:=hd.shape
  refine hE.go t8 (by decide) rfl ?_
  obtain⟨n1,o1,g1,g2⟩:=EK s (BQ neg (.slice a n c) (.slice b nd cd)) ZQ
  simp only[yy,pg,ph,Xa,Xh,Bh,Xc,Ak,J6,Qa,Qb,Qc,Qd,Qf,Qh,Qj,Qk,Ql,Qm,Qo,true_and,Qp,Qq,Qr,Qs,Qt,Qv,Rb,Rh,A1q,A1r,A1n,A1m,A1u,A1p]
  generalize newObj (newObj s (BQ neg (.slice a n c) (.slice b nd cd))) ZQ=s1 at *
  have l1:=AI (P:=Tryz.prog) (t:=22) (o:=0+2) Cq g1 rfl
  simp only[l1,Qm]
  refine C8 hE (hd.old o1) (by omega) fun s2 v2 o2 r2=>?_
  rw[B8 hsd]at r2
  have h2:=o2.1
  have f1:=(o2.2 s.next (by omega)).trans g1
  have f2:=(o2.2 (s.next+1) (by omega)).trans g2
  have o12:=o1.trans (o2.mono o1.1)
  obtain⟨a2,c2,e2,_⟩:=r2.n32
  have hN:∀ {s'},Aa s.next s s'→BI s' (.agg [.bool neg,.slice a n c]) (Bw neg (AG lm)) k:=fun o=>⟨neg,_,lm,rfl,hm.old o,hsm,hlm,rfl⟩
  have e3:∀z:Int,AN Tryz.prog .eql 3 (iv ((AR (AG ld)).length:Int)) (iv 0)=some (.bool (decide (((AR (AG ld)).length:Int)=0))):=fun _=>Wc ..
  have fin:∀ (s3:AE) (v3:AV) (D:Nat),Aa s2.next s2 s3→NR s1.next s3 v3 (AR D)→D=Cw (AG ld)→(AR D).length≤1000000000→∀K2:AV→AE→Prop,
      (∀s4 x4 a4 n4 c4 b4 m4 d4,AO Tryz.prog s4 26 (.ptr (some (s.next+1,0))) (.agg [.bool x4,.slice a4 n4 c4,.slice b4 m4 d4])=some (setObj s4 (s.next+1) (BQ x4 (.slice a4 n4 c4) (.slice b4 m4 d4))) →
        AB Tryz.prog (setObj s4 (s.next+1) (BQ x4 (.slice a4 n4 c4) (.slice b4 m4 d4))) 26 (.ptr (some (s.next+1,0)))=some (.agg [.bool x4,.slice a4 n4 c4,.slice b4 m4 d4]) →
        K (.agg [.bool x4,.slice a4 n4 c4,.slice b4 m4 d4]) (setObj s4 (s.next+1) (BQ x4 (.slice a4 n4 c4) (.slice b4 m4 d4)))→K2 (.agg [.bool x4,.slice a4 n4 c4,.slice b4 m4 d4]) s4) →
      WF E 70 [.agg [.bool neg,.slice a n c],v3] K2 s3:=by
    intro s3 v3 D o3 r3 hD hlen K2 hK2
    have o13:=o12.trans (o3.mono o12.1)
    refine Fa hE (hN o13) r3.n32 hk hlen (AT _) (by rw[AY,hD];exact Cx _) fun s4 v4 o4 r4=>?_
    have h3:=o3.1
    rw[AY,hD]at r4
    have k4:s4.heap.get (s.next+1)=some ZQ:=by rw[o4.2 _ (by omega),o3.2 _ (by omega)];exact f2
    obtain⟨x4,a4,n4,c4,b4,m4,d4,rfl⟩:=r4.shape
    obtain⟨st,ld⟩:=BM (cs0:=[.bool false,.slice none 0 (some 0),.slice none 0 (some 0)]) rfl (x:=x4) (a:=a4) (n:=n4) (c:=c4) (b:=b4) (m:=m4) (d:=d4) k4
    exact hK2 _ _ _ _ _ _ _ _ st ld (hK _ _ ((o13.trans (o4.mono o13.1)).set (by omega) _) ((r4.set (by omega) _).mono (by omega)))
  have ldN:∀s3,Aa s2.next s2 s3→AB Tryz.prog s3 24 (.ptr (some (s.next,0+0)))=some (.agg [.bool neg,.slice a n c]):=fun s3 o3=>Al (o:=0) (n:=2) DN CO ((o3.2 s.next (by omega)).trans f1) (by simp)
  by_cases h0:AG ld=0
  · have e4 : (AR    (AG   ld)).length = 0 := by rw [h0, BN];         rfl
    have d1:decide (((AR (AG ld)).length:Int)=0)=true:=decide_eq_true (by omega)
    subst e2
    simp only[dv,pj,AH Tryz.underlying22,e3 0,d1,Qb,Qc,Qd,Qf,Qh,Qi,Qj,Qk,Qm,Qo,true_and,Qp,Qq,Qr,Qs,Qt,Qv,Qz,Rj,A1s,A1u,A1p]
    refine gM hE fun s3 v3 o3 r3=>?_
    simp only[dx,EE,ldN s3 o3,Qb,Qc,Qd,Qf,Qh,Qj,Qk,Qm,Qo,true_and,Qp,Qq,Qr,Qs,Qt,Qv,A1n,A1m,A1u,A1o]
    refine fin s3 v3 1 o3 (r3.mono h2) (by rw[h0];rfl) (zY (A9 (k:=1) (by decide)) (by omega)) _ fun s4 x4 a4 n4 c4 b4 m4 d4 st ld hk=>?_
    simp only[st,ld,AM,Xy,Za,Qd,Qj,Qm,Qo,true_and,Qr,Qs,Rk,Rn,Yc]
    exact hk
  · have e4 := List.length_pos_iff.2 (Cz       h0)
    have d1:decide (((AR (AG ld)).length:Int)=0)=false:=decide_eq_false (by omega)
    have hr:=r2
    subst e2
    simp only[dv,dx,AH Tryz.underlying22,e3 0,d1,EE,ldN s2 (Aa.refl _ _),Qb,Qc,Qd,Qf,Qh,Qi,Qj,Qk,Qm,Qo,true_and,Qp,Qq,Qr,Qs,Qt,Qv,Ra,Rj,A1s,A1n,A1m,A1u,A1o]
    refine fin s2 _ (AG ld) (Aa.refl _ _) r2 (by unfold Cw;rw[if_neg h0]) (zY (A9 (DI hsd (zU _))) (by omega)) _ fun s4 x4 a4 n4 c4 b4 m4 d4 st ld hk=>?_
    simp only[st,ld,AM,Xy,Za,Qd,Qj,Qm,Qo,true_and,Qr,Qs,Rk,Rn,Yc]
    exact hk
theorem Wn(hE:GoodN E){v:AV}{q:Rat}{k:Nat}(hv:QI s v q k)(hk:k≤1000000000){g:FuncId}{first cap:List AV}{K:AV→AE→Prop}
  (hf:∀s1 v1,Aa s.next s s1→s.next+2≤s1.next→QR (s.next+2) s1 v1 q→WF E g (first++([v1]++cap)) (fun r s2=>∃cs,r=.agg cs∧cs.length=3∧Aq cs=true∧s2.heap.get (s.next+1)=s1.heap.get (s.next+1)∧K r (setObj s2 (s.next+1) (R 26 0 false cs))) s1):
  WF E 108 [v,.func g first cap] K s:=by
 obtain⟨x,a,n,c,b,m,d,rfl⟩:=hv.shape
 refine hE.go jJ (by decide) rfl ?_
 obtain⟨n1,o1,g1,g2⟩:=EK s (BQ x (.slice a n c) (.slice b m d)) ZQ
 simp only[vR,ZE,ZF,Xa,Xh,Bh,Xc,Ak,Qa,Qb,Qc,Qd,Qe,Qf,Qh,Qj,Qk,Ql,Qm,Qo,true_and,Qp,Qq,Qr,Qs,Qt,Qv,Rb,Rh,Rj,A1q,A1r,A1m,A1u,A1o]
 generalize newObj (newObj s (BQ x (.slice a n c) (.slice b m d))) ZQ=s1 at *
 have l1:=AK (P:=Tryz.prog) (t:=26) BZ Aw g1 rfl
 simp only[l1,Qm]
 refine Ha hE (hv.old o1) hk fun s2 v2 o2 r2=>?_
 have h2:=o2.1
 simp only[Qd,Qo,true_and,Qr,Qs]
 refine(hf s2 v2 (o1.trans (o2.mono o1.1)) (by omega) (r2.mono (by omega))).mono ?_
 rintro r s3 ⟨cs,rfl,hl,hc,hg,hend⟩
 have g3:s3.heap.get (s.next+1)=some ZQ:=by rw[hg,o2.2 _ (by omega)];exact g2
 have st:=Ai (P:=Tryz.prog) (t:=26) (cs:=cs) Aw g3 rfl hl hc (by rintro rfl;cases hl)
 have ld:=AK (P:=Tryz.prog) (t:=26) (s:=setObj s3 (s.next+1) (R 26 0 false cs)) (i:=s.next+1) BZ Aw (Ww _ _ _) hl
 simp only[st,ld,AM,Xy,Za,Qd,Qj,Qm,Qo,true_and,Qr,Qs,Rk,Rn,Yc]
 exact hend
end
theorem QR.bi{b k:Nat}{s:AE}{v:AV}{q:Rat}(h:QR b s v q)(hq:QH q k):∃m d,v=.agg [.bool (decide (q.num<0)),m,d]∧BI s (.agg [.bool (decide (q.num<0)),m]) q.num k∧By s d (AR q.den)∧(AR q.den).length≤k:=by
 obtain⟨m,d,rfl,h2,h3,_⟩:=h
 exact⟨m,d,rfl,BR.bi (b:=b) ⟨m,rfl,h2⟩ hq.1,h3.n32,A9 hq.2⟩
section
variable{E:CR}{s:AE}
theorem kK(hE:GoodN E){v:AV}{z:Int}{k:Nat}(hv:BI s v z k)(hk:k≤1000000000){K:AV→AE→Prop}(hK:∀s' v,Aa s.next s s'→QR s.next s' v (z:Rat)→K v s'):WF E 99 [v] K s:=by
 obtain⟨x,a,n,c,rfl⟩:=hv.shape
 refine hE.go uT (by decide) rfl ?_
 obtain⟨n1,o1,g1,g2⟩:=EK s (BX x (.slice a n c)) ZQ
 simp only[zS,rn,ru,Xa,Xh,Bh,Xc,Ak,Qa,Qb,Qc,Qd,Qf,Qh,Qj,Qk,Ql,Qm,Qo,true_and,Qp,Qq,Qr,Qs,Qt,Qv,Rb,Rh,Rj,A1q,A1r,A1m,A1u,A1o]
 generalize newObj (newObj s (BX x (.slice a n c))) ZQ=s1 at *
 have l1:=AK (P:=Tryz.prog) (t:=24) DN CO g1 rfl
 simp only[l1,Qm]
 refine gM hE fun s2 v2 o2 r2=>?_
 have h2:=o2.1
 have f1:=(o2.2 s.next (by omega)).trans g1
 have f2:=(o2.2 (s.next+1) (by omega)).trans g2
 refine⟨⟨Au (by simp only[Qj,Qk,Qr,Qs];exact AK DN CO f1 rfl) (Em _ _ _ _),trivial⟩,?_⟩
 simp only[Qr,Qs]
 have o12:=o1.trans (o2.mono o1.1)
 refine Fa hE (hv.old o12) r2.n32 hk (zY (A9 (k:=1) (by decide)) (by omega)) (AT _) (by rw[AY];decide) fun s3 v3 o3 r3=>?_
 rw[AY,show mkRat z 1=(z:Rat)from by rw[Rat.mkRat_one]]at r3
 obtain⟨x3,a3,n3,c3,b3,m3,d3,rfl⟩:=r3.shape
 obtain⟨st,ld⟩:=BM (cs0:=[.bool false,.slice none 0 (some 0),.slice none 0 (some 0)]) rfl (x:=x3) (a:=a3) (n:=n3) (c:=c3) (b:=b3) (m:=m3) (d:=d3) ((o3.2 (s.next+1) (by omega)).trans f2)
 simp only[st,ld,AM,Xy,Za,Qd,Qj,Qm,Qo,true_and,Qr,Qs,Rk,Rn,Yc]
 exact hK _ _ ((o12.trans (o3.mono o12.1)).set (by omega) _) ((r3.set (by omega) _).mono (by omega))
theorem Mz(hE:GoodN E){n:Int}(h:n=0∨n=1∨n=-1){K:AV→AE→Prop}(hK:∀s' v,Aa s.next s s'→QR s.next s' v (n:Rat)→K v s'):WF E 52 [iv n] K s:=by
 refine hE.go tq (by decide) rfl ?_
 obtain⟨n1,o1,g1⟩:=Bs s ZQ
 simp only[yo,oZ,og,Bh,Xc,Qa,Qb,Qc,Qd,Qf,Qh,Qj,Qk,Ql,Qm,Qo,true_and,Qp,Qq,Qr,Qt,Qv,Rb,Rh,Rj,A1r,A1u,A1o]
 generalize newObj s ZQ=s1 at *
 refine QV hE h fun s2 v2 o2 r2=>?_
 have h2:=o2.1
 simp only[Qd,Qo,true_and,Qr]
 refine kK hE (r2.bi (k:=1) (by rcases h with rfl | rfl | rfl<;>decide)) (by omega) fun s3 v3 o3 r3=>?_
 obtain⟨x3,a3,n3,c3,b3,m3,d3,rfl⟩:=r3.shape
 obtain⟨st,ld⟩:=BM (cs0:=[.bool false,.slice none 0 (some 0),.slice none 0 (some 0)]) rfl (x:=x3) (a:=a3) (n:=n3) (c:=c3) (b:=b3) (m:=m3) (d:=d3) ((o3.2 s.next (by omega)).trans ((o2.2 s.next (by omega)).trans g1))
 have o12:=o1.trans (o2.mono o1.1)
 simp only[st,ld,AM,Xy,Za,Qd,Qj,Qm,Qo,true_and,Qr,Qs,Rk,Rn,Yc]
 exact hK _ _ ((o12.trans (o3.mono o12.1)).set (by omega) _) ((r3.set (by omega) _).mono (by omega))
theorem gZ(hE:GoodN E){v:AV}{q:Rat}{k:Nat}(hv:QI s v q k)(hk:k≤1000000000){K:AV→AE→Prop}(hK:∀s',Aa s.next s s'→K (iv (Hf q.num)) s'):WF E 53 [v] K s:=by
 obtain⟨neg,m,d,lm,ld,rfl,hm,hd,hsm,hsd,hlm,hld,hqv⟩:=hv
 obtain⟨a,n,c,rfl⟩:=hm.shape
 obtain⟨b,nd,cd,rfl⟩:=hd.shape
 refine hE.go tr (by decide) rfl ?_
 obtain⟨n1,o1,g1⟩:=Bs s (BQ neg (.slice a n c) (.slice b nd cd))
 simp only[yp,oh,ol,Xa,Xh,Xc,EE,Qa,Qb,Qc,Qd,Qf,Qh,Qi,Qj,Qk,Ql,Qm,Qo,true_and,Qp,Qq,Qr,Qs,Qt,Qv,Rb,Rh,Rj,Rk,Rm,Rn,Yc,A1q,A1p,A1n,A1m,A1u]
 generalize newObj s (BQ neg (.slice a n c) (.slice b nd cd))=s1 at *
 have l1:AB Tryz.prog s1 24 (.ptr (some (s.next,0+0)))=some (.agg [.bool neg,.slice a n c]):=Al (o:=0) (n:=2) DN CO g1 (by simp)
 simp only[l1,Qm]
 have hbi:BI s1 (.agg [.bool neg,.slice a n c]) (Bw neg (AG lm)) k:=⟨neg,_,lm,rfl,hm.old o1,hsm,hlm,rfl⟩
 refine Yg hE hbi hk fun s2 o2=>?_
 have hs:Hf (Bw neg (AG lm))=Hf q.num:=by
  rw[← hqv,M1]
  have hg:((AG lm).gcd (Cw (AG ld)):Nat)≠0:=fun e=>Cx _ (A1l e)
  have hdv:((((AG lm).gcd (Cw (AG ld)):Nat)):Int) ∣ Bw neg (AG lm):=Int.ofNat_dvd_left.2 (by rw[CJ];exact Nat.gcd_dvd_left _ _)
  obtain⟨w,hw⟩:=hdv
  have hgp:(0:Int)<(((AG lm).gcd (Cw (AG ld)):Nat):Int):=by omega
  rw[hw,Int.mul_ediv_cancel_left _ (by omega)]
  generalize ((((AG lm).gcd (Cw (AG ld)):Nat)):Int)=G at *
  rcases NF w with⟨e1,e2⟩ | ⟨e1,e2⟩ | ⟨e1,e2⟩
  ·rw[e2];unfold Hf;rw[if_pos (Int.mul_neg_of_pos_of_neg hgp e1)]
  ·rw[e2,e1,Int.mul_zero];rfl
  ·have:=Int.mul_pos hgp e1
   rw[e2];unfold Hf;rw[if_neg (by omega),if_pos this]
 rw[hs]
 simp only[Qd,Qo,true_and,Qp,Qq,Qr,Qs]
 exact hK s2 (o1.trans (o2.mono o1.1))
end
theorem xY:EO Tryz.prog 84=some false:=by kernel_rfl
section
variable{E:CR}{s:AE}
theorem iH(hE:GoodN E){vn vd:AV}{z:Int}{kn kd D:Nat}(hn:BI s vn z kn)(hd:By s vd (AR D))(hdl:(AR D).length≤kd)(hk:kn+kd+1≤1000000000){K:AV→AE→Prop}(hK:∀s' v,Aa s.next s s'→BR s.next s' v (z * (D:Int))→K v s'):WF E 111 [vn,vd] K s:=by
 have hn0:=hn
 obtain⟨neg,mg,l,rfl,hm,hs,hl,hz⟩:=hn
 obtain⟨a,n,c,rfl⟩:=hm.shape
 refine hE.go jM (by decide) rfl ?_
 obtain⟨n1,o1,g1,g2⟩:=EK s (BX neg (.slice a n c)) ZI
 simp only[vU,ZO,ZR,Xa,Xh,DO,Xc,Ak,Qa,Qb,Qc,Qd,Qf,Qh,Qi,Qj,Qk,Ql,Qm,Qo,true_and,Qp,Qq,Qr,Qs,Qt,Qv,Rb,Rh,Rj,A1q,A1r,A1m,A1u,A1o]
 generalize newObj (newObj s (BX neg (.slice a n c))) ZI=s1 at *
 have l1:=AK (P:=Tryz.prog) (t:=24) DN CO g1 rfl
 simp only[l1,Qm]
 refine IZ hE (hd.old o1) (by omega) (AT _) fun s2 v2 o2 r2=>?_
 rw[AY,show Bw false D=(D:Int)from rfl]at r2
 have h2:=o2.1
 have f1:=(o2.2 s.next (by omega)).trans g1
 have f2:=(o2.2 (s.next+1) (by omega)).trans g2
 refine⟨⟨Au (by simp only[Qj,Qk,Qr,Qs];exact AK DN CO f1 rfl) (Em _ _ _ _),trivial⟩,?_⟩
 have o12:=o1.trans (o2.mono o1.1)
 have hb2:BI s2 v2 (D:Int) kd:=by
  obtain⟨m2,rfl,r2'⟩:=r2
  exact⟨_,m2,_,rfl,r2'.n32,AT _,by simpa using hdl,by rw[AY,F9]⟩
 obtain⟨x2,a2,n2,c2,rfl⟩:=hb2.shape
 obtain⟨n3,o3,g3⟩:=Bs s2 (R 24 2 false [.bool neg,.slice a n c,.bool x2,.slice a2 n2 c2])
 simp only[KP,Xe,Qm,Qr,Qs,Yc]
 generalize newObj s2 (R 24 2 false [.bool neg,.slice a n c,.bool x2,.slice a2 n2 c2])=s3 at *
 refine VE hE (hn0.old (o12.trans (o3.mono o12.1))) (hb2.old o3) hk (xc:=[.bool neg,.slice a n c]) (yc:=[.bool x2,.slice a2 n2 c2]) rfl rfl (by omega) g3 fun s4 v4 o4 r4=>?_
 have f4:s4.heap.get (s.next+1)=some ZI:=by rw[o4.2 _ (by omega),o3.2 _ (by omega)];exact f2
 obtain⟨m4,rfl,r4⟩:=r4
 obtain⟨a4,n4,c4,rfl⟩:=r4.n32.shape
 obtain⟨st,ld⟩:=Dr (s1:=s) (x:=decide (z * (D:Int)<0)) (a:=a4) (n:=n4) (c:=c4) f4
 simp only[st,ld,AM,Xy,Za,Qd,Qj,Qm,Qo,true_and,Qr,Qs,Rk,Rn,Yc]
 have o13:=o12.trans (o3.mono o12.1)
 exact hK _ _ ((o13.trans (o4.mono o13.1)).set (by omega) _) (BR.mono (b:=s3.next) ⟨_,rfl,r4.set (by omega) _⟩ (by omega))
theorem iF(hE:GoodN E){g:FuncId}{first cap:List AV}(heq:Fs (.func g first cap) (.func g first cap)=true){v va:AV}{qa qb:Rat}{ka kb ba bb pf pa:Nat}{ca:List AV}(hv:QR bb s v qb)(hva:QR ba s va qa)(hca:va=.agg ca)(hqa:QH qa ka)(hqb:QH qb kb)(hk:ka+kb+1≤1000000000)
  (hpf:pf<s.next) (hpa:pa<s.next) (gf:s.heap.get pf=some (R 84 0 false [.func g first cap])) (ga:s.heap.get pa=some (R 26 0 false ca)) {K:AV→AE→Prop}
  (hf:∀s1 vx vy vd,Aa s.next s s1→s.next+2≤s1.next→BR (s.next+2) s1 vx (qa.num * (qb.den:Int))→BR (s.next+2) s1 vy (qb.num * (qa.den:Int))→NR (s.next+2) s1 vd (AR (qa.den * qb.den)) →
   WF E g (first++([vx,vy,vd]++cap)) (fun r s2=>∃cs,r=.agg cs∧cs.length=3∧Aq cs=true∧s2.heap.get (s.next+1)=s1.heap.get (s.next+1)∧K r (setObj s2 (s.next+1) (R 26 0 false cs))) s1):
  WF E 110 [v,.ptr (some (pf,0)),.ptr (some (pa,0))] K s:=by
 obtain⟨ma,da,e1,hna,hda,hdla⟩:=hva.bi hqa
 obtain⟨mb,db,rfl,hnb,hdb,hdlb⟩:=hv.bi hqb
 rw[hca]at e1
 injection e1 with e1
 subst e1
 obtain⟨_,aa,an,ac,ea⟩:=hna.shape
 injection ea with ea
 injection ea with ea1 ea
 injection ea with ea2 _
 subst ea2
 obtain⟨_,xa,xn,xc,eb⟩:=hnb.shape
 injection eb with eb
 injection eb with eb1 eb
 injection eb with eb2 _
 subst eb2
 obtain⟨aad,and_,acd,rfl⟩:=hda.shape
 obtain⟨xad,xnd,xcd,rfl⟩:=hdb.shape
 refine hE.go jL (by decide) rfl ?_
 obtain⟨n1,o1,g1,g2⟩:=EK s (BQ (decide (qb.num<0)) (.slice xa xn xc) (.slice xad xnd xcd)) ZQ
 simp only[vT,ZK,ZM,ZN,Xa,Xh,Bh,Xc,Ak,EE,J6,Qa,Qb,Qc,Qd,Qe,Qf,Qh,Qi,Qj,Qk,Ql,Qm,Qo,true_and,Qp,Qq,Qr,Qs,Qt,Qv,Rb,Rh,Rj,A1q,A1r,A1m,A1n,A1o]
 generalize newObj (newObj s (BQ (decide (qb.num<0)) (.slice xa xn xc) (.slice xad xnd xcd))) ZQ=s1 at *
 have lf:∀ {s'},Aa s1.next s1 s'→AB Tryz.prog s' 84 (.ptr (some (pf,0)))=some (.func g first cap):=fun o=>AI (o:=0) xY (((o.2 pf (by omega)).trans (o1.2 pf hpf)).trans gf) rfl
 have laN:∀ {s'},Aa s1.next s1 s'→AB Tryz.prog s' 24 (.ptr (some (pa,0+0)))=some (.agg [.bool (decide (qa.num<0)),.slice aa an ac]):=fun o=>Al (o:=0) (n:=2) DN CO (((o.2 pa (by omega)).trans (o1.2 pa hpa)).trans ga) (by simp)
 have laD:∀ {s'},Aa s1.next s1 s'→AB Tryz.prog s' 22 (.ptr (some (pa,0+2)))=some (.slice aad and_ acd):=fun o=>AI (o:=0+2) Cq (((o.2 pa (by omega)).trans (o1.2 pa hpa)).trans ga) rfl
 have lbN:∀ {s'},Aa s1.next s1 s'→AB Tryz.prog s' 24 (.ptr (some (s.next,0+0)))=some (.agg [.bool (decide (qb.num<0)),.slice xa xn xc]):=fun o=>Al (o:=0) (n:=2) DN CO ((o.2 s.next (by omega)).trans g1) (by simp)
 have lbD:∀ {s'},Aa s1.next s1 s'→AB Tryz.prog s' 22 (.ptr (some (s.next,0+2)))=some (.slice xad xnd xcd):=fun o=>AI (o:=0+2) Cq ((o.2 s.next (by omega)).trans g1) rfl
 have or:=Aa.refl s1.next s1
 simp only[lf or,laN or,laD or,lbN or,lbD or,Qm]
 refine iH hE (hna.old o1) (hdb.old o1) hdlb hk fun s2 v2 o2 r2=>?_
 have h2:=o2.1
 refine⟨⟨Au (by simp only[Qk,Qr,Qs];exact lbD o2) (A8 _ _ _),Au (by simp only[Qk,Qr,Qs];exact laD o2) (A8 _ _ _),Au (by simp only[Qk,Qr,Qs];exact laD o2) (A8 _ _ _),Au (by simp only[Qk,Qr,Qs];exact lbN o2) (Em _ _ _ _),Au (by simp only[Qj,Qk,Qr,Qs];exact lf o2) heq,trivial⟩,?_⟩
 simp only[Qr,Qs]
 have o12:=o1.trans (o2.mono o1.1)
 refine iH hE (hnb.old o12) (hda.old o12) hdla (by omega) fun s3 v3 o3 r3=>?_
 have h3:=o3.1
 have o23:Aa s1.next s1 s3:=o2.trans (o3.mono h2)
 refine⟨⟨Au (by simp only[Qk,Qr,Qs];exact lbD o23) (A8 _ _ _),Au (by simp only[Qk,Qr,Qs];exact laD o23) (A8 _ _ _),Au (by simp only[Qj,Qk,Qr,Qs];exact lf o23) heq,trivial⟩,?_⟩
 simp only[Qr,Qs]
 have o13:=o1.trans (o23.mono o1.1)
 refine UV hE (hda.old o13) (hdb.old o13) (by omega) (by omega) (AT _) (AT _) fun s4 v4 o4 r4=>?_
 have h4:=o4.1
 rw[AY,AY]at r4
 have o24:Aa s1.next s1 s4:=o23.trans (o4.mono o23.1)
 refine⟨⟨Au (by simp only[Qj,Qk,Qr,Qs];exact lf o24) heq,trivial⟩,?_⟩
 simp only[Qr,Qs]
 have o14:=o1.trans (o24.mono o1.1)
 refine(hf s4 v2 v3 v4 o14 (by omega) ((r2.old (o3.trans (o4.mono h3))).mono (by omega)) ((r3.old o4).mono (by omega)) (r4.mono (by omega))).mono ?_
 rintro r s5 ⟨cs,rfl,hl,hc,hg,hend⟩
 have g5:s5.heap.get (s.next+1)=some ZQ:=by rw[hg,o24.2 _ (by omega)];exact g2
 have st:=Ai (P:=Tryz.prog) (t:=26) (cs:=cs) Aw g5 rfl hl hc (by rintro rfl;cases hl)
 have ld:=AK (P:=Tryz.prog) (t:=26) (s:=setObj s5 (s.next+1) (R 26 0 false cs)) (i:=s.next+1) BZ Aw (Ww _ _ _) hl
 simp only[st,ld,AM,Xy,Za,Qd,Qj,Qm,Qo,true_and,Qr,Qs,Rk,Rn,Yc]
 exact hend
end
def xX(E:CR)(s:AE)(qa qb:Rat)(g:FuncId)(first cap:List AV)(K:AV→AE→Prop):Prop:=
 ∀s1 vx vy vd,Aa s.next s s1→BR s.next s1 vx (qa.num * (qb.den:Int))→BR s.next s1 vy (qb.num * (qa.den:Int))→NR s.next s1 vd (AR (qa.den * qb.den)) →
  WF E g (first++([vx,vy,vd]++cap)) (fun r s2=>∃cs,r=.agg cs∧cs.length=3∧Aq cs=true∧(∀j,s.next≤j→j<s1.next→s2.heap.get j=s1.heap.get j) ∧
   ∀s3,s3.next=s2.next→(∀j,(j<s.next∨s1.next≤j)→s3.heap.get j=s2.heap.get j)→K r s3) s1
section
variable{E:CR}{s:AE}
theorem kh(hE:GoodN E){g:FuncId}{first cap:List AV}(heq:Fs (.func g first cap) (.func g first cap)=true){v vb:AV}{qa qb:Rat}{ka kb ba pf pb:Nat}{cb:List AV}(hv:QR ba s v qa)(hvb:QI s vb qb kb)(hcb:vb=.agg cb)(hqa:QH qa ka)(hqb:QH qb kb)(hk:ka+kb+1≤1000000000)
  (hpf:pf<s.next) (hpb:pb<s.next) (gf:s.heap.get pf=some (R 84 0 false [.func g first cap])) (gb:s.heap.get pb=some (R 26 0 false cb)) {K:AV→AE→Prop} (hf:xX E s qa qb g first cap (fun r s3=>K r s3)):
  WF E 109 [v,.ptr (some (pb,0)),.ptr (some (pf,0))] (fun r s3=>(∃cs,r=.agg cs∧cs.length=3∧Aq cs=true)∧K r s3) s:=by
 obtain⟨xa,aa,an,ac,ab,am,ad,rfl⟩:=hv.shape
 obtain⟨xb,ba',bn,bc,bb,bm,bd,eb⟩:=hvb.shape
 rw[hcb]at eb
 injection eb with eb
 subst eb
 refine hE.go jK (by decide) rfl ?_
 obtain⟨n1,o1,g1,g2⟩:=EK s (BQ xa (.slice aa an ac) (.slice ab am ad)) ZQ
 simp only[vS,ZG,ZH,Xa,Xh,Bh,Xc,Ak,Qa,Qb,Qc,Qd,Qf,Qh,Qj,Qk,Ql,Qm,Qo,true_and,Qp,Qq,Qr,Qs,Qt,Qv,Rb,Rh,Rj,A1q,A1r,A1m,A1u,A1o]
 generalize newObj (newObj s (BQ xa (.slice aa an ac) (.slice ab am ad))) ZQ=s1 at *
 have l1:=AK (P:=Tryz.prog) (t:=26) BZ Aw ((o1.2 pb hpb).trans gb) rfl
 simp only[l1,A0l,A0d,Qm]
 rw[hcb]at hvb
 refine Wn hE (hvb.old o1) (by omega) fun s2 v2 o2 h2 r2=>?_
 have o12:=o1.trans (o2.mono o1.1)
 refine iF hE heq (ka:=ka) (kb:=kb) (pf:=pf) (pa:=s.next) r2 (hv.old o12) rfl hqa hqb hk (by omega) (by omega) ((o12.2 pf hpf).trans gf) ((o2.2 s.next (by omega)).trans g1) fun s3 vx vy vd o3 h3 rx ry rd=>?_
 have o13:=o12.trans (o3.mono o12.1)
 refine(hf s3 vx vy vd o13 (rx.mono (by omega)) (ry.mono (by omega)) (rd.mono (by omega))).mono ?_
 rintro r s4 ⟨cs,rfl,hl,hc,hfr,hend⟩
 have q1:=hfr (s.next+1) (by omega) (by omega)
 have q2:=hfr (s1.next+1) (by omega) (by omega)
 have q3:=hfr (s2.next+1) (by omega) (by omega)
 refine⟨cs,rfl,hl,hc,q3,cs,rfl,hl,hc,?_,?_⟩
 ·rw[Wx _ (by omega),q2,o3.2 _ (by omega)]
 have g4:(setObj (setObj s4 (s2.next+1) (R 26 0 false cs)) (s1.next+1) (R 26 0 false cs)).heap.get (s.next+1)=some ZQ:=by
  rw[Wx _ (by omega),Wx _ (by omega),q1,o3.2 _ (by omega),o2.2 _ (by omega)];exact g2
 have st:=Ai (P:=Tryz.prog) (t:=26) (cs:=cs) Aw g4 rfl hl hc (by rintro rfl;cases hl)
 have ld:=AK (P:=Tryz.prog) (t:=26) (s:=setObj (setObj (setObj s4 (s2.next+1) (R 26 0 false cs)) (s1.next+1) (R 26 0 false cs)) (s.next+1) (R 26 0 false cs)) (i:=s.next+1) BZ Aw (Ww _ _ _) hl
 simp only[st,ld,AM,Xy,Za,Qd,Qj,Qm,Qo,true_and,Qr,Qs,Rk,Rn,Yc]
 refine⟨⟨cs,rfl,hl,hc⟩,hend _ rfl fun j hj=>?_⟩
 rw[Wx _ (by omega),Wx _ (by omega),Wx _ (by omega)]
theorem uz(hE:GoodN E){g:FuncId}{first cap:List AV}(heq:Fs (.func g first cap) (.func g first cap)=true){va vb:AV}{qa qb:Rat}{ka kb:Nat}(hva:QI s va qa ka)(hvb:QI s vb qb kb)(hka:1≤ka)(hkb:1≤kb)(hk:ka+kb+1≤1000000000)
    {K:AV→AE→Prop} (hf:xX E s qa qb g first cap K):WF E 64 [va,vb,.func g first cap] K s:=by
  have hqa:=hva.qh hka
  have hqb:=hvb.qh hkb
  have hva0:=hva
  have hvb0:=hvb
  obtain⟨xa,aa,an,ac,ab,am,ad,ea⟩:=hva.shape
  obtain⟨xb,ba',bn,bc,bb,bm,bd,eb⟩:=hvb.shape
  subst ea;subst eb
  refine hE.go t6 (by decide) rfl ?_
  obtain⟨n3,o3,g1,g2,g3⟩:=HV s (BQ xa (.slice aa an ac) (.slice ab am ad)) (BQ xb (.slice ba' bn bc) (.slice bb bm bd)) (R 84 0 false [.func g first cap])
  obtain⟨n4,o4,g4⟩:=Bs (newObj (newObj (newObj s (BQ xa (.slice aa an ac) (.slice ab am ad))) (BQ xb (.slice ba' bn bc) (.slice bb bm bd))) (R 84 0 false [.func g first cap])) ZQ
  simp only[yw,pR,pS,Xa,Xh,Xo,Bh,Xc,Ak,Qa,Qb,Qc,Qd,Qf,Qh,Qj,Qk,Ql,Qm,Qo,true_and,Qp,Qq,Qr,Qs,Qt,Qv,Rb,Rh,Rj,A1q,A1r,A1m,A1u,A1o]
  generalize hs3:newObj (newObj (newObj s (BQ xa (.slice aa an ac) (.slice ab am ad))) (BQ xb (.slice ba' bn bc) (.slice bb bm bd))) (R 84 0 false [.func g first cap])=s3 at *
  generalize hs1:newObj s3 ZQ=s1 at *
  have o1:Aa s.next s s1:=o3.trans (o4.mono o3.1)
  have n1:s1.next=s.next+4:=by omega
  have k1:=(o4.2 s.next (by omega)).trans g1
  have k2:=(o4.2 (s.next+1) (by omega)).trans g2
  have k3:=(o4.2 (s.next+2) (by omega)).trans g3
  rw[n3]at g4
  have l1:=AK (P:=Tryz.prog) (t:=26) BZ Aw k1 rfl
  simp only[l1,A0l,A0d,Qm]
  refine Wn hE (hva0.old o1) (by omega) fun s2 v2 o2 h2 r2=>?_
  have o12:=o1.trans (o2.mono o1.1)
  refine(kh hE heq (ka:=ka) (kb:=kb) (pf:=s.next+1+1) (pb:=s.next+1) r2 (hvb0.old o12) rfl hqa hqb hk (by omega) (by omega) ((o2.2 _ (by omega)).trans k3) ((o2.2 _ (by omega)).trans k2)
    (K:=fun r s3=>s3.heap.get (s1.next+1)=s2.heap.get (s1.next+1)∧s3.heap.get (s.next+3)=some ZQ∧∀s5,s5.next=s3.next→(∀j,(j<s.next∨s2.next≤j)→s5.heap.get j=s3.heap.get j)→K r s5) (fun s4 vx vy vd o5 rx ry rd=>?_)).mono ?_
  · have o14:=o12.trans (o5.mono o12.1)
    refine(hf s4 vx vy vd o14 (rx.mono (by omega)) (ry.mono (by omega)) (rd.mono (by omega))).mono ?_
    rintro r s6 ⟨cs,rfl,hl,hc,hfr,hend⟩
    have h5:=o5.1
    refine⟨cs,rfl,hl,hc,fun j hj1 hj2=>hfr j (by omega) hj2,fun s7 n7 f7=>⟨?_,?_,fun s8 n8 f8=>hend s8 (by omega) fun j hj=>?_⟩⟩
    · rw[f7 _ (by omega),hfr _ (by omega) (by omega),o5.2 _ (by omega)]
    · rw[f7 _ (by omega),hfr _ (by omega) (by omega),o5.2 _ (by omega),o2.2 _ (by omega)];exact g4
    · rw[f8 j (by omega),f7 j (by omega)]
  · rintro r s6 ⟨⟨cs, rfl, hl, hc⟩, q1, q2, hend⟩
    refine⟨cs,rfl,hl,hc,q1,?_⟩
    have g6:(setObj s6 (s1.next+1) (R 26 0 false cs)).heap.get (s.next+1+1+1)=some ZQ:=by
      rw[Wx _ (by omega)];exact q2
    have st:=Ai (P:=Tryz.prog) (t:=26) (cs:=cs) Aw g6 rfl hl hc (by rintro rfl;cases hl)
    have ld:=AK (P:=Tryz.prog) (t:=26) (s:=setObj (setObj s6 (s1.next+1) (R 26 0 false cs)) (s.next+1+1+1) (R 26 0 false cs)) (i:=s.next+1+1+1) BZ Aw (Ww _ _ _) hl
    simp only[st,ld,AM,Xy,Za,Qd,Qj,Qm,Qo,true_and,Qr,Qs,Rk,Rn,Yc]
    refine hend _ rfl fun j hj=>?_
    rw[Wx _ (by omega),Wx _ (by omega)]
end
theorem sP(a b:Rat):mkRat (a.num * (b.den:Int)+b.num * (a.den:Int)) (a.den * b.den)=a+b:=by
 have:=fy (n1:=a.num) (n2:=b.num) a.den_nz b.den_nz
 rw[Rat.mkRat_self,Rat.mkRat_self]at this
 exact this.symm
theorem GT{a:Int}{d j k:Nat}(ha:a.natAbs<LB ^ j)(hd:d<LB ^ k):(a * (d:Int)).natAbs<LB ^ (j+k):=by
 rw[A1T,A1L]
 exact B3 ha hd
theorem QH.le{q:Rat}{k k':Nat}(h:QH q k)(hk:k≤k'):QH q k':=⟨DC h.1 hk,DC h.2 hk⟩
theorem QH.add{a b:Rat}{j k:Nat}(ha:QH a j)(hb:QH b k):QH (a+b) (j+k+1):=by
  have hD:a.den * b.den≠0:=A0v a.den_nz b.den_nz
  have h1:=GT ha.1 hb.2
  have h2:=GT hb.1 ha.2
  rw[A0s k j]at h2
  rw[← sP]
  constructor
  · rw [Mg     _ hD, CJ]
    refine A0J (A0Y _ _) (A0J (Int.natAbs_add_le _ _) (FZ h1 h2))
  · rw[Pk _ hD]
    exact A0J (A0Y _ _) (DC (B3 ha.2 hb.2) (by omega))
theorem sR:QH 0 1:=⟨by decide,by decide⟩
section
variable{E:CR}{s:AE}
theorem ge(hE:GoodN E){vx vy vd:AV}{x y:Int}{D b k:Nat}(hx:BR b s vx x)(hy:BR b s vy y)(hd:NR b s vd (AR D))(hxk:x.natAbs<LB ^ k)(hyk:y.natAbs<LB ^ k)(hdk:D<LB ^ k)(hD:D≠0)(hk:k+k+1≤1000000000){K:AV→AE→Prop}
  (hK:∀s' v,Aa s.next s s'→QR s.next s' v (mkRat (x+y) D)→K v s'):WF E 112 [vx,vy,vd] K s:=by
 have hbx:=hx.bi hxk
 have hby:=hy.bi hyk
 obtain⟨x1,a1,m1,c1,rfl⟩:=hbx.shape
 obtain⟨x2,a2,m2,c2,rfl⟩:=hby.shape
 refine hE.go jN (by decide) rfl ?_
 obtain⟨n1,o1,g1,g2,g3⟩:=HV s (BX x1 (.slice a1 m1 c1)) (BX x2 (.slice a2 m2 c2)) ZQ
 simp only[vV,ZS,ZT,Xa,Xh,Bh,Xc,Ak,Qa,Qb,Qc,Qd,Qf,Qh,Qj,Qk,Ql,Qm,Qo,true_and,Qp,Qq,Qr,Qs,Qt,Qv,Rb,Rh,Rj,A1q,A1r,A1m,A1u,A1o]
 generalize newObj (newObj (newObj s (BX x1 (.slice a1 m1 c1))) (BX x2 (.slice a2 m2 c2))) ZQ=s1 at *
 have l1:=AK (P:=Tryz.prog) (t:=24) DN CO g1 rfl
 have l2:=AK (P:=Tryz.prog) (t:=24) DN CO g2 rfl
 obtain⟨n2,o2,g4⟩:=Bs s1 (R 24 2 false [.bool x1,.slice a1 m1 c1,.bool x2,.slice a2 m2 c2])
 simp only[l1,l2,KP,Xe,Qm,Yc]
 generalize newObj s1 (R 24 2 false [.bool x1,.slice a1 m1 c1,.bool x2,.slice a2 m2 c2])=s2 at *
 have o12:=o1.trans (o2.mono o1.1)
 rw[n1]at g4
 refine iX hE (ri:=s.next+1+1+1) (hbx.old o12) (hby.old o12) hk (xc:=[.bool x1,.slice a1 m1 c1]) (yc:=[.bool x2,.slice a2 m2 c2]) rfl rfl (by omega) g4 fun s3 v3 o3 r3=>?_
 have h3:=o3.1
 have o13:=o12.trans (o3.mono o12.1)
 simp only[Qd,Qo,true_and,Qr,Qs]
 have hxy:(x+y).natAbs<LB ^ (k+1):=A0J (Int.natAbs_add_le _ _) (FZ hxk hyk)
 refine Fa hE (r3.bi hxy) (hd.n32.old o13) (by omega) (zY (A9 hdk) (by omega)) (AT _) (by rw[AY];exact hD) fun s4 v4 o4 r4=>?_
 rw[AY]at r4
 have g5:s4.heap.get (s.next+1+1)=some ZQ:=by rw[o4.2 _ (by omega),o3.2 _ (by omega),o2.2 _ (by omega)];exact g3
 obtain⟨x4,a4,n4,c4,b4,m4,d4,rfl⟩:=r4.shape
 obtain⟨st,ld⟩:=BM (cs0:=[.bool false,.slice none 0 (some 0),.slice none 0 (some 0)]) rfl (x:=x4) (a:=a4) (n:=n4) (c:=c4) (b:=b4) (m:=m4) (d:=d4) g5
 simp only[st,ld,AM,Xy,Za,Qd,Qj,Qm,Qo,true_and,Qr,Qs,Rk,Rn,Yc]
 exact hK _ _ ((o13.trans (o4.mono o13.1)).set (by omega) _) ((r4.set (by omega) _).mono (by omega))
theorem kZ(hE:GoodN E){qa qb:Rat}{ka kb:Nat}(hqa:QH qa ka)(hqb:QH qb kb)(hk:2 * (ka+kb)+1≤1000000000){K:AV→AE→Prop}(hK:∀s' v,Aa s.next s s'→QR s.next s' v (qa+qb)→K v s'):xX E s qa qb 112 [] [] K:=by
 intro s1 vx vy vd o1 rx ry rd
 have h2:=GT hqb.1 hqa.2
 rw[A0s kb ka]at h2
 refine ge hE rx ry rd (GT hqa.1 hqb.2) h2 (B3 hqa.2 hqb.2) (A0v qa.den_nz qb.den_nz) (by omega) fun s2 v2 o2 r2=>?_
 rw[sP]at r2
 obtain⟨x4,a4,n4,c4,b4,m4,d4,rfl⟩:=r2.shape
 have h1:=o1.1
 have h3:=o2.1
 refine⟨_,rfl,rfl,rfl,fun j _ hj=>o2.2 j hj,fun s3 n3 f3=>hK s3 _ ⟨by omega,fun j hj=>?_⟩ ((r2.keep (by omega) fun j hj _=>f3 j (.inr hj)).mono h1)⟩
 rw[f3 j (.inl hj),o2.2 j (by omega),o1.2 j hj]
theorem OK(hE:GoodN E){S:AE}{p i:Nat}(hi:i<2){x0 x1:Bool}{a0 b0 a1 b1:Option (Nat×Nat)}{n0 m0 n1 m1:Nat}{c0 d0 c1 d1:Option Nat}{ri ka kb:Nat}{qa qb:Rat}
  (hp:p<S.next) (hb:S.heap.get p=some (BQ x0 (.slice a0 n0 c0) (.slice b0 m0 d0))) (hel:AB Tryz.prog S 26 (.ptr (some (ri,0+i * 3)))=some (.agg [.bool x1,.slice a1 n1 c1,.slice b1 m1 d1]))
  (ha:QI S (.agg [.bool x0,.slice a0 n0 c0,.slice b0 m0 d0]) qa ka) (hb':QI S (.agg [.bool x1,.slice a1 n1 c1,.slice b1 m1 d1]) qb kb) (hka:1≤ka) (hkb:1≤kb) (hk:2 * (ka+kb)+1≤1000000000)
  {Q:Az→Prop} {y0 y2 y6:AV}
  (hgo:∀ (s':AE) (x2:Bool) (a2 b2:Option (Nat×Nat)) (n2 m2:Nat) (c2 d2:Option Nat) (y2 y6:AV),S.next≤s'.next→(∀j,j<S.next→j≠p→s'.heap.get j=S.heap.get j)→s'.heap.get p=some (BQ x2 (.slice a2 n2 c2) (.slice b2 m2 d2))→QR S.next s' (.agg [.bool x2,.slice a2 n2 c2,.slice b2 m2 d2]) (qa+qb) →
   WC E none (.loop No) Q [y0,.ptr (some (p,0)),y2,.slice (some (ri,0)) 2 (some 2),iv 2,iv ((i+1:Nat):Int),y6] [] s'):
  WC E none (.loop No) Q [y0,.ptr (some (p,0)),y2,.slice (some (ri,0)) 2 (some 2),iv 2,iv (i:Int),y6] [] S:=by
 have dd:decide ((i:Int)<2)=true:=decide_eq_true (by omega)
 have e1:=AX (cap:=some 2) (i:=ri) (o:=0) (n:=3) Tryz.underlying28 Aw (show i<2 from hi)
 have e17:=Ax Tryz.prog 3 (i:Int) 1 ⟨by omega,by omega⟩
 have e17':((i:Int)+1)=((i+1:Nat):Int):=by omega
 refine WC.loop' ?_
 generalize hW:WC E none (Ac.loop No) Q=WW
 obtain⟨m3,o1,g1⟩:=Bs S ZQ
 simp only[No,du,pX,Ry,dd,e1,hel,Bh,Xc,Qa,Qb,Qc,Qd,Qf,Qh,Qj,Qk,Qm,Qo,true_and,Qp,Qq,Qr,Qs,Qt,Qv,Qz,Rb,Rd,Re,Ry,A1x,A1v,A1m,A1r,A1o]
 generalize hs1:newObj S ZQ=s1 at *
 have st:=Ai (P:=Tryz.prog) (t:=26) (cs:=[.bool x1,.slice a1 n1 c1,.slice b1 m1 d1]) Aw g1 rfl rfl rfl (by simp)
 generalize hs2:setObj s1 S.next (R 26 0 false [.bool x1,.slice a1 n1 c1,.slice b1 m1 d1])=s2 at st
 have o2:Aa S.next S s2:=by rw[← hs2];exact o1.set (zU _) _
 have n2:s2.next=S.next+1:=by rw[← hs2];exact m3
 have k1:s2.heap.get p=some (BQ x0 (.slice a0 n0 c0) (.slice b0 m0 d0)):=(o2.2 p (by omega)).trans hb
 have k2:s2.heap.get S.next=some (R 26 0 false [.bool x1,.slice a1 n1 c1,.slice b1 m1 d1]):=by rw[← hs2,Ww]
 have l1:=AK (P:=Tryz.prog) (t:=26) BZ Aw k1 rfl
 have l2:=AK (P:=Tryz.prog) (t:=26) BZ Aw k2 rfl
 simp only[pY,st,l1,l2,Xy,Za,Qb,Qc,Qd,Qf,Qh,Qi,Qj,Qk,Qm,Qo,true_and,Qr,Qs,Qt,Qv,A1m,A1o]
 refine uz hE (Vy _) (ha.old o2) (hb'.old o2) hka hkb (by omega) (kZ hE (ha.qh hka) (hb'.qh hkb) hk fun s3 v3 o3 r3=>?_)
 have k3:s3.heap.get p=some (BQ x0 (.slice a0 n0 c0) (.slice b0 m0 d0)):=(o3.2 p (by omega)).trans k1
 obtain⟨x4,a4,n4,c4,b4,m4,d4,rfl⟩:=r3.shape
 have st3:=Ai (P:=Tryz.prog) (t:=26) (cs:=[.bool x4,.slice a4 n4 c4,.slice b4 m4 d4]) Aw k3 rfl rfl rfl (by simp)
 simp only[st3,pZ,e17,e17',Qb,Qc,Qd,Qf,Qh,Qi,Qj,Qk,Qm,Qo,true_and,Qp,Qq,Qr,Qs,Qt,Qv,A1p]
 rw[← hW]
 have h3:=o3.1
 refine hgo _ x4 a4 b4 n4 m4 c4 d4 _ _ ?_ (fun j hj hne=>?_) (Ww _ _ _) ((r3.set (by omega) _).mono (by omega))
 ·show S.next≤s3.next;omega
 ·rw[Wx _ hne,o3.2 j (by omega),o2.2 j hj]
theorem kL(hE:GoodN E){vx vy:AV}{x y:Rat}{kx ky ri:Nat}(hx:QI s vx x kx)(hy:QI s vy y ky)(hkx:1≤kx)(hky:1≤ky)(hk:2 * (kx+ky)+1≤1000000000){xc yc:List AV}(hxc:vx=.agg xc)(hyc:vy=.agg yc)(hri:ri<s.next)(hrow:s.heap.get ri=some (R 26 3 false (xc++yc)))
  {K:AV→AE→Prop} (hK:∀s' v,Aa s.next s s'→QR s.next s' v (x+y)→K v s'):WF E 67 [.slice (some (ri,0)) 2 (some 2)] K s:=by
 have hqx:=hx.qh hkx
 obtain⟨x1,a1,n1,c1,b1,m1,d1,e1⟩:=hx.shape
 obtain⟨x2,a2,n2,c2,b2,m2,d2,e2⟩:=hy.shape
 rw[hxc]at e1;rw[hyc]at e2
 injection e1 with e1;injection e2 with e2
 subst e1;subst e2;subst hxc;subst hyc
 refine hE.go t7 (by decide) rfl ?_
 obtain⟨n3,o1,g1⟩:=Bs s ZQ
 simp only[yx,pT,pV,Bh,Xc,Qa,Qb,Qc,Qd,Qf,Qh,Qj,Qk,Ql,Qm,Qo,true_and,Qp,Qq,Qr,Qs,Qt,Qv,Rb,Rh,A1r,A1m,A1u,A1o]
 generalize newObj s ZQ=s1 at *
 have l1:=AK (P:=Tryz.prog) (t:=26) BZ Aw g1 rfl
 simp only[l1,Qm]
 have hz:QI s1 (.agg [.bool false,.slice none 0 (some 0),.slice none 0 (some 0)]) 0 1:=⟨false,_,_,[],[],rfl,(NR.nil 0 s1).n32,(NR.nil 0 s1).n32,fun x hx=>(by cases hx),fun x hx=>(by cases hx),ze _,ze _,rfl⟩
 refine Ha hE hz (by omega) fun s2 v2 o2 r2=>?_
 have h2:=o2.1
 have o12:=o1.trans (o2.mono o1.1)
 obtain⟨x4,a4,n4,c4,b4,m4,d4,rfl⟩:=r2.shape
 have st:=Ai (P:=Tryz.prog) (t:=26) (cs:=[.bool x4,.slice a4 n4 c4,.slice b4 m4 d4]) Aw ((o2.2 s.next (by omega)).trans g1) rfl rfl rfl (by simp)
 simp only[pW,st,AH Tryz.underlying28,Xy,Za,Qb,Qc,Qd,Qf,Qh,Qi,Qj,Qm,Qo,true_and,Qp,Qq,Qr,Qs,Qt,Qv,A1p]
 generalize hs3:setObj s2 s.next (R 26 0 false [.bool x4,.slice a4 n4 c4,.slice b4 m4 d4])=s3 at *
 have h3:s3.next=s2.next:=by rw[← hs3];rfl
 have o3:Aa s.next s s3:=by rw[← hs3];exact o12.set (zU _) _
 have g3:s3.heap.get s.next=some (BQ x4 (.slice a4 n4 c4) (.slice b4 m4 d4)):=by rw[← hs3,Ww]
 have r3:QR s1.next s3 (.agg [.bool x4,.slice a4 n4 c4,.slice b4 m4 d4]) 0:=by rw[← hs3];exact r2.set (by omega) _
 have el0:AB Tryz.prog s3 26 (.ptr (some (ri,0+0 * 3)))=some (.agg [.bool x1,.slice a1 n1 c1,.slice b1 m1 d1]):=Al (o:=0) (n:=3) BZ Aw ((o3.2 ri hri).trans hrow) (by simp)
 refine OK hE (S:=s3) (p:=s.next) (i:=0) (by omega) (by omega) g3 el0 (r3.qi sR) (hx.old o3) (by omega) hkx (by omega) fun s4 x5 a5 b5 n5 m5 c5 d5 y2 y6 q1 q2 q3 q4=>?_
 rw[Rat.zero_add]at q4
 have o4:Aa s.next s s4:=⟨by omega,fun j hj=>by rw[q2 j (by omega) (by omega),o3.2 j hj]⟩
 have el1:AB Tryz.prog s4 26 (.ptr (some (ri,0+1 * 3)))=some (.agg [.bool x2,.slice a2 n2 c2,.slice b2 m2 d2]):=Al (o:=3) (n:=3) BZ Aw ((o4.2 ri hri).trans hrow) (by simp)
 refine OK hE (S:=s4) (p:=s.next) (i:=0+1) (by omega) (by omega) q3 el1 (q4.qi hqx) (hy.old o4) hkx hky hk fun s5 x6 a6 b6 n6 m6 c6 d6 y2 y6 w1 w2 w3 w4=>?_
 have o5:Aa s.next s s5:=⟨by omega,fun j hj=>by rw[w2 j (by omega) (by omega),o4.2 j hj]⟩
 have dd:decide (((0+1+1:Nat):Int)<2)=false:=rfl
 refine WC.loop' ?_
 have l1:=AK (P:=Tryz.prog) (t:=26) BZ Aw w3 rfl
 obtain⟨st,ld⟩:=BM rfl (x:=x6) (a:=a6) (n:=n6) (c:=c6) (b:=b6) (m:=m6) (d:=d6) w3
 simp only[No,du,pe,Ry,dd,l1,st,ld,if_true,AM,Xy,Za,Qa,Qb,Qc,Qd,Qf,Qh,Qj,Qk,Qm,Qo,true_and,Qp,Qq,Qr,Qs,Qt,Qv,Ra,Rb,Rd,Re,Rg,Rj,Rk,Rn,Yc,Ry,A1x,A1m,A1o]
 exact hK _ _ (o5.set (zU _) _) ((w4.set (by omega) _).mono (by omega))
theorem Xu(x y:Bool)(a b a' b':Option (Nat×Nat))(n m n' m':Nat)(c d c' d':Option Nat):Ad Tryz.prog 28 2 (zipIdx [0,1] [.agg [.bool x,.slice a n c,.slice b m d],.agg [.bool y,.slice a' n' c',.slice b' m' d']])=some (R 26 3 false [.bool x,.slice a n c,.slice b m d,.bool y,.slice a' n' c',.slice b' m' d']):=by kernel_rfl
theorem LY(hE:GoodN E){vx vy:AV}{x y:Rat}{kx ky:Nat}(hx:QI s vx x kx)(hy:QI s vy y ky)(hkx:1≤kx)(hky:1≤ky)(hk:2 * (kx+ky)+1≤1000000000){K:AV→AE→Prop}(hK:∀s' v,Aa s.next s s'→QR s.next s' v (x+y)→K v s'):WF E 27 [vx,vy] K s:=by
 obtain⟨x1,a1,n1,c1,b1,m1,d1,rfl⟩:=hx.shape
 obtain⟨x2,a2,n2,c2,b2,m2,d2,rfl⟩:=hy.shape
 refine hE.go tO (by decide) rfl ?_
 obtain⟨n3,o1,g1,g2,g3⟩:=HV s (BQ x1 (.slice a1 n1 c1) (.slice b1 m1 d1)) (BQ x2 (.slice a2 n2 c2) (.slice b2 m2 d2)) ZQ
 simp only[yN,mH,mI,Xa,Xh,Bh,Xc,Ak,Qa,Qb,Qc,Qd,Qf,Qh,Qj,Qk,Ql,Qm,Qo,true_and,Qp,Qq,Qr,Qs,Qt,Qv,Rb,Rh,Rj,A1q,A1r,A1m,A1u,A1o]
 generalize newObj (newObj (newObj s (BQ x1 (.slice a1 n1 c1) (.slice b1 m1 d1))) (BQ x2 (.slice a2 n2 c2) (.slice b2 m2 d2))) ZQ=s1 at *
 have l1:=AK (P:=Tryz.prog) (t:=26) BZ Aw g1 rfl
 have l2:=AK (P:=Tryz.prog) (t:=26) BZ Aw g2 rfl
 obtain⟨n4,o2,g4⟩:=Bs s1 (R 26 3 false [.bool x1,.slice a1 n1 c1,.slice b1 m1 d1,.bool x2,.slice a2 n2 c2,.slice b2 m2 d2])
 simp only[l1,l2,Xu,Xe,Qm,Yc]
 generalize newObj s1 (R 26 3 false [.bool x1,.slice a1 n1 c1,.slice b1 m1 d1,.bool x2,.slice a2 n2 c2,.slice b2 m2 d2])=s2 at *
 have o12:=o1.trans (o2.mono o1.1)
 rw[n3]at g4
 refine kL hE (ri:=s.next+1+1+1) (hx.old o12) (hy.old o12) hkx hky hk (xc:=[.bool x1,.slice a1 n1 c1,.slice b1 m1 d1]) (yc:=[.bool x2,.slice a2 n2 c2,.slice b2 m2 d2]) rfl rfl (by omega) g4 fun s3 v3 o3 r3=>?_
 have o13:=o12.trans (o3.mono o12.1)
 have g5:s3.heap.get (s.next+1+1)=some ZQ:=by rw[o3.2 _ (by omega),o2.2 _ (by omega)];exact g3
 obtain⟨x4,a4,n4,c4,b4,m4,d4,rfl⟩:=r3.shape
 obtain⟨st,ld⟩:=BM (cs0:=[.bool false,.slice none 0 (some 0),.slice none 0 (some 0)]) rfl (x:=x4) (a:=a4) (n:=n4) (c:=c4) (b:=b4) (m:=m4) (d:=d4) g5
 simp only[st,ld,AM,Xy,Za,Qd,Qj,Qm,Qo,true_and,Qr,Qs,Rk,Rn,Yc]
 exact hK _ _ (o13.set (by omega) _) ((r3.set (by omega) _).mono (by omega))
end
theorem QH.neg{q:Rat}{k:Nat}(h:QH q k):QH (-q) k:=⟨by show(-q.num).natAbs<_;rw[Int.natAbs_neg];exact h.1,h.2⟩
theorem sQ(a b:Rat):mkRat (a.num * b.num) (a.den * b.den)=a * b:=by
 have:=fz a.num b.num a.den b.den
 rw[Rat.mkRat_self,Rat.mkRat_self]at this
 exact this.symm
theorem QH.mul{a b:Rat}{j k:Nat}(ha:QH a j)(hb:QH b k):QH (a * b) (j+k):=by
  have hD:a.den * b.den≠0:=A0v a.den_nz b.den_nz
  rw[← sQ]
  constructor
  · rw [Mg     _ hD, CJ]
    refine A0J (A0Y _ _) ?_
    rw[A1T]
    exact B3 ha.1 hb.1
  · rw[Pk _ hD]
    exact A0J (A0Y _ _) (B3 ha.2 hb.2)
section
variable{E:CR}{s:AE}
theorem LZ(hE:GoodN E){vx vy:AV}{x y:Rat}{kx ky:Nat}(hx:QI s vx x kx)(hy:QI s vy y ky)(hkx:1≤kx)(hky:1≤ky)(hk:kx+ky+1≤1000000000){K:AV→AE→Prop}(hK:∀s' v,Aa s.next s s'→QR s.next s' v (x * y)→K v s'):WF E 29 [vx,vy] K s:=by
 have hqx:=hx.qh hkx
 have hqy:=hy.qh hky
 have hx0:=hx
 have hy0:=hy
 obtain⟨x1,a1,n1,c1,b1,m1,d1,ex⟩:=hx.shape
 obtain⟨x2,a2,n2,c2,b2,m2,d2,ey⟩:=hy.shape
 subst ex;subst ey
 refine hE.go tP (by decide) rfl ?_
 obtain⟨n3,o1,g1,g2,g3⟩:=HV s (BQ x1 (.slice a1 n1 c1) (.slice b1 m1 d1)) (BQ x2 (.slice a2 n2 c2) (.slice b2 m2 d2)) ZQ
 simp only[yO,mJ,mK,Xa,Xh,Bh,Xc,Ak,Qa,Qb,Qc,Qd,Qf,Qh,Qj,Qk,Ql,Qm,Qo,true_and,Qp,Qq,Qr,Qs,Qt,Qv,Rb,Rh,Rj,A1q,A1r,A1m,A1u,A1o]
 generalize newObj (newObj (newObj s (BQ x1 (.slice a1 n1 c1) (.slice b1 m1 d1))) (BQ x2 (.slice a2 n2 c2) (.slice b2 m2 d2))) ZQ=s1 at *
 have l1:=AK (P:=Tryz.prog) (t:=26) BZ Aw g1 rfl
 have l2:=AK (P:=Tryz.prog) (t:=26) BZ Aw g2 rfl
 simp only[l1,l2,Qm]
 refine Ha hE (hx0.old o1) (by omega) fun s2 v2 o2 r2=>?_
 have h2:=o2.1
 have f1:=(o2.2 s.next (by omega)).trans g1
 have f2:=(o2.2 (s.next+1) (by omega)).trans g2
 have f3:=(o2.2 (s.next+1+1) (by omega)).trans g3
 refine⟨⟨Au (by simp only[Qj,Qk,Qr,Qs];exact AK BZ Aw f2 rfl) (CI _ _ _ _ _ _ _),trivial⟩,?_⟩
 have o12:=o1.trans (o2.mono o1.1)
 simp only[Qr,Qs]
 refine Ha hE (hy0.old o12) (by omega) fun s3 v3 o3 r3=>?_
 have h3:=o3.1
 have o13:=o12.trans (o3.mono o12.1)
 have r2':=r2.old o3
 have e1:=(o3.2 s.next (by omega)).trans f1
 have e2:=(o3.2 (s.next+1) (by omega)).trans f2
 have e3:=(o3.2 (s.next+1+1) (by omega)).trans f3
 obtain⟨ma,da,rfl,hna,hda,_⟩:=r2'
 obtain⟨mb,db,rfl,hnb,hdb,_⟩:=r3
 obtain⟨a4,n4,c4,rfl⟩:=hna.n32.shape
 obtain⟨b4,m4,d4,rfl⟩:=hda.n32.shape
 obtain⟨a5,n5,c5,rfl⟩:=hnb.n32.shape
 obtain⟨b5,m5,d5,rfl⟩:=hdb.n32.shape
 have st1:=Ai (P:=Tryz.prog) (t:=26) (cs:=[.bool (decide (x.num<0)),.slice a4 n4 c4,.slice b4 m4 d4]) Aw e1 rfl rfl rfl (by simp)
 generalize hs4:setObj s3 s.next (BQ (decide (x.num<0)) (.slice a4 n4 c4) (.slice b4 m4 d4))=s4 at st1
 have e2':s4.heap.get (s.next+1)=some (BQ x2 (.slice a2 n2 c2) (.slice b2 m2 d2)):=by rw[← hs4,Wx _ (by omega)];exact e2
 have st2:=Ai (P:=Tryz.prog) (t:=26) (cs:=[.bool (decide (y.num<0)),.slice a5 n5 c5,.slice b5 m5 d5]) Aw e2' rfl rfl rfl (by simp)
 generalize hs5:setObj s4 (s.next+1) (BQ (decide (y.num<0)) (.slice a5 n5 c5) (.slice b5 m5 d5))=s5 at st2
 have k1:s5.heap.get s.next=some (BQ (decide (x.num<0)) (.slice a4 n4 c4) (.slice b4 m4 d4)):=by rw[← hs5,Wx _ (by omega),← hs4,Ww]
 have k2:s5.heap.get (s.next+1)=some (BQ (decide (y.num<0)) (.slice a5 n5 c5) (.slice b5 m5 d5)):=by rw[← hs5,Ww]
 have k3:s5.heap.get (s.next+1+1)=some ZQ:=by rw[← hs5,Wx _ (by omega),← hs4,Wx _ (by omega)];exact e3
 have n6:s5.next=s3.next:=by rw[← hs5,← hs4];rfl
 have o5:Aa s.next s s5:=by
  rw[← hs5,← hs4]
  exact(o13.set (zU _) _).set (by omega) _
 have pna:NR s1.next s5 (.slice a4 n4 c4) (AR x.num.natAbs):=by rw[← hs5,← hs4];exact(hna.set (by omega) _).set (by omega) _
 have pda:NR s1.next s5 (.slice b4 m4 d4) (AR x.den):=by rw[← hs5,← hs4];exact(hda.set (by omega) _).set (by omega) _
 have pnb:NR s2.next s5 (.slice a5 n5 c5) (AR y.num.natAbs):=by rw[← hs5,← hs4];exact(hnb.set (by omega) _).set (by omega) _
 have pdb:NR s2.next s5 (.slice b5 m5 d5) (AR y.den):=by rw[← hs5,← hs4];exact(hdb.set (by omega) _).set (by omega) _
 have l1:AB Tryz.prog s5 24 (.ptr (some (s.next,0+0)))=some (.agg [.bool (decide (x.num<0)),.slice a4 n4 c4]):=Al (o:=0) (n:=2) DN CO k1 (by simp)
 have l2:AB Tryz.prog s5 24 (.ptr (some (s.next+1,0+0)))=some (.agg [.bool (decide (y.num<0)),.slice a5 n5 c5]):=Al (o:=0) (n:=2) DN CO k2 (by simp)
 obtain⟨n7,o6,g6⟩:=Bs s5 (R 24 2 false [.bool (decide (x.num<0)),.slice a4 n4 c4,.bool (decide (y.num<0)),.slice a5 n5 c5])
 simp only[mL,st1,st2,l1,l2,KP,Xe,EE,J6,Xy,Za,Qb,Qc,Qd,Qf,Qh,Qj,Qk,Qm,Qo,true_and,Qr,Qs,Qt,Qv,Yc,A1n,A1m,A1u,A1o]
 generalize newObj s5 (R 24 2 false [.bool (decide (x.num<0)),.slice a4 n4 c4,.bool (decide (y.num<0)),.slice a5 n5 c5])=s6 at *
 have o56:=o5.trans (o6.mono o5.1)
 have la:∀ {s'},Aa s5.next s5 s'→AB Tryz.prog s' 22 (.ptr (some (s.next,0+2)))=some (.slice b4 m4 d4):=fun o=>AI (o:=0+2) Cq ((o.2 s.next (by omega)).trans k1) rfl
 have lb:∀ {s'},Aa s5.next s5 s'→AB Tryz.prog s' 22 (.ptr (some (s.next+1,0+2)))=some (.slice b5 m5 d5):=fun o=>AI (o:=0+2) Cq ((o.2 (s.next+1) (by omega)).trans k2) rfl
 simp only[la o6,lb o6,Qm]
 have bx:BI s5 (.agg [.bool (decide (x.num<0)),.slice a4 n4 c4]) x.num kx:=BR.bi (b:=s1.next) ⟨_,rfl,pna⟩ hqx.1
 have by':BI s5 (.agg [.bool (decide (y.num<0)),.slice a5 n5 c5]) y.num ky:=BR.bi (b:=s2.next) ⟨_,rfl,pnb⟩ hqy.1
 refine VE hE (bx.old o6) (by'.old o6) hk (xc:=[.bool (decide (x.num<0)),.slice a4 n4 c4]) (yc:=[.bool (decide (y.num<0)),.slice a5 n5 c5]) rfl rfl (by omega) g6 fun s7 v7 o7 r7=>?_
 have h7:=o7.1
 have o57:Aa s5.next s5 s7:=o6.trans (o7.mono o6.1)
 refine⟨⟨Au (by simp only[Qk,Qr,Qs];exact lb o57) (A8 _ _ _),Au (by simp only[Qk,Qr,Qs];exact la o57) (A8 _ _ _),trivial⟩,?_⟩
 simp only[Qr,Qs]
 have dxl:=A9 hqx.2
 have dyl:=A9 hqy.2
 refine UV hE (pda.n32.old o57) (pdb.n32.old o57) (by omega) (by omega) (AT _) (AT _) fun s8 v8 o8 r8=>?_
 rw[AY,AY]at r8
 have h8:=o8.1
 have hxy:(x.num * y.num).natAbs<LB ^ (kx+ky):=by rw[A1T];exact B3 hqx.1 hqy.1
 simp only[Qd,Qo,true_and,Qr,Qs]
 refine Fa hE ((r7.bi hxy).old o8) r8.n32 (by omega) (zY (A9 (B3 hqx.2 hqy.2)) (by omega)) (AT _) (by rw[AY];exact A0v x.den_nz y.den_nz) fun s9 v9 o9 r9=>?_
 rw[AY,sQ]at r9
 have h9:=o9.1
 have o59:Aa s5.next s5 s9:=o57.trans ((o8.trans (o9.mono h8)).mono o57.1)
 obtain⟨x9,a9,n9,c9,b9,m9,d9,rfl⟩:=r9.shape
 obtain⟨st,ld⟩:=BM (cs0:=[.bool false,.slice none 0 (some 0),.slice none 0 (some 0)]) rfl (x:=x9) (a:=a9) (n:=n9) (c:=c9) (b:=b9) (m:=m9) (d:=d9) ((o59.2 (s.next+1+1) (by omega)).trans k3)
 simp only[st,ld,AM,Qd,Qj,Qm,Qo,true_and,Qr,Qs,Rk,Rn,Yc]
 exact hK _ _ ((o5.trans (o59.mono o5.1)).set (by omega) _) ((r9.set (by omega) _).mono (by omega))
end
section
variable{P:Program}{ρ ρ1 ρ2:BU}{s s1 s2:AE}{w w0 w1 w2:World}
theorem Bd.addRow  (h : Bd  P ρ s w) (hf : BE     ρ s) {r : D5}   {rb : RB} (hok : Ct    (CF     ρ s.next rb) w r rb) (hlt : rb.b < w.heap.size) (hne : ∀ j oj rj, s.heap.get j = some oj → ρ j = some rj → rj.b ≠ rb.b) : Bd  P (CF     ρ s.next rb) (newObj s (.row r)) w := by
  have hfn:=(hf s.next (zU _)).1
  have hle:=Bk (rb:=rb) hfn
  refine⟨?_,?_,?_,?_⟩
  · intro x ox rx hx hrx
    rw[BA]at hx
    by_cases e:x=s.next
    · subst e
      rw[if_pos rfl]at hx
      injection hx with hx
      rw[Af]at hrx
      injection hrx with hrx
      subst hx;subst hrx
      exact hok
    · rw [if_neg e] at hx
      rw[AZ rb e]at hrx
      exact(h.obj x ox rx hx hrx).mono hle rfl
  · intro x rx hrx
    by_cases e:x=s.next
    · subst e
      rw[Af]at hrx
      injection hrx with hrx
      subst hrx
      exact hlt
    · rw[AZ rb e]at hrx
      exact h.lt x rx hrx
  · intro x y ox oy rx ry hxy hx hy hrx hry hbb hw
    rw[BA]at hx hy
    by_cases ex:x=s.next
    · subst ex
      have ey:y≠s.next:=fun e=>hxy e.symm
      rw[Af]at hrx
      injection hrx with hrx
      subst hrx
      rw[if_neg ey]at hy
      rw[AZ rb ey]at hry
      exact absurd hbb.symm (hne y oy ry hy hry)
    · by_cases ey : y = s.next
      · subst ey
        rw[Af]at hry
        injection hry with hry
        subst hry
        rw[if_neg ex]at hx
        rw[AZ rb ex]at hrx
        exact absurd hbb (hne x ox rx hx hrx)
      · rw [if_neg ex] at hx
        rw[if_neg ey]at hy
        rw[AZ rb ex]at hrx
        rw[AZ rb ey]at hry
        exact h.sep x y ox oy rx ry hxy hx hy hrx hry hbb hw
  · intro x ox g hx hgo
    rw[BA]at hx
    by_cases e:x=s.next
    · subst e;exact⟨_,Af _ _⟩
    · rw[if_neg e]at hx
      obtain⟨r',hr'⟩:=h.glb x ox g hx hgo
      exact⟨r',hle _ _ hr'⟩
theorem Fr.addRow(h:Fr ρ s w0 ρ1 s1 w)(hf:BE ρ1 s1){r:D5}{rb:RB}(hge:w0.heap.size≤rb.b):Fr ρ s w0 (CF ρ1 s1.next rb) (newObj s1 (.row r)) w:=by
  have hfn:=(hf s1.next (zU _)).1
  have hle:=Bk (rb:=rb) hfn
  have hn:=h.next
  refine⟨BU.le_trans h.le hle,?_,by show s.next≤s1.next+1;omega,h.size,h.os,h.tape,h.output,h.keep,?_,?_⟩
  · intro x hx hxr
    have hxr':x<s.next∨s1.next+1≤x:=hxr
    have:x≠s1.next:=by omega
    rw[AZ rb this]
    exact h.fresh x hx (by omega)
  · rintro b ⟨x, ox, rx, hx, hw, hrx, rfl⟩
    rw[BA]at hx
    by_cases e:x=s1.next
    · subst e
      rw[Af]at hrx
      injection hrx with hrx
      subst hrx
      exact .inr hge
    · rw [if_neg e] at hx
      rw[AZ rb e]at hrx
      exact h.own _ ⟨x,ox,rx,hx,hw,hrx,rfl⟩
  · intro x hx hxr
    have hxr':x<s.next∨s1.next+1≤x:=hxr
    rw[BA,if_neg (by omega)]
    exact h.unborn x hx (by omega)
def uw(l:List Nat):D5:={ elem:=76,sz:=1,n:=l.length,c:=Ab.fill .leaf 0 (us l),spare:=true,mode:=.own,par:=none,bytes:=false }
def In(s:AE):List Nat→AV×AE
 | []=>(.slice none 0 (some 0),s)
 | x::l=>(.slice (some (s.next,0)) (x::l).length none,newObj s (.row (uw (x::l))))
def Lh(b:Nat)(s:AE)(v:AV)(l:List Nat):Prop:=
 (l=[]∧v=.slice none 0 (some 0))∨(l≠[]∧∃i,v=.slice (some (i,0)) l.length none∧b≤i∧∃r,s.heap.get i=some (.row r)∧Ld r (us l)∧EG r.mode=true∧r.sz=1∧r.elem=76)
theorem jz{l:List Nat}{k:Nat}{v:AV}(h:(us l)[k]? = some v):Ny v=true:=by
 have:(l.map A6)[k]? = some v:=h
 rw[A0N]at this
 obtain⟨x,_,rfl⟩:=Option.map_eq_some_iff.1 this
 rfl
theorem My       {ρ' : BU}  {s' : AE}  {b : Nat} {v : AV} {l : List Nat} {v' : Value} (hs : Lh    b s' v l) (h' : Bd  P ρ' s' w) (hv : Ae   ρ' v v')
    (hge:∀i o rb,b≤i→s'.heap.get i=some o→wr o=true→ρ' i=some rb→w0.heap.size≤rb.b)
    (h1:Bd P ρ1 s1 w) (hf1:BE ρ1 s1) (hfr:Fr ρ s w0 ρ1 s1 w) (hne:∀i rb,B6 v=some i→ρ' i=some rb→∀j oj rj,s1.heap.get j=some oj→ρ1 j=some rj→rj.b≠rb.b):
    ∃ρ2,Bd P ρ2 (In s1 l).2 w∧BE ρ2 (In s1 l).2∧Fr ρ s w0 ρ2 (In s1 l).2 w∧ρ1.le ρ2∧Ae ρ2 (In s1 l).1 v' ∧
      (∀j oj rj,(In s1 l).2.heap.get j=some oj→ρ2 j=some rj→(∃o1,s1.heap.get j=some o1∧ρ1 j=some rj)∨∃i rb,B6 v=some i∧ρ' i=some rb∧rj.b=rb.b):=by
  rcases hs with⟨rfl,rfl⟩ | ⟨hl,i,rfl,hbi,r,hg,hh,hm,hsz,hel⟩
  · refine⟨ρ1,h1,hf1,hfr,BU.le_refl _,FI rfl hv,fun j oj rj hj hr=>.inl ⟨oj,hj,hr⟩⟩
  · cases l with
    | nil=>exact absurd rfl hl
    | cons x l =>
      cases hv with
      | @sliceOpen _ _ _ c rb hr q1 q2 q3 q4 =>
        have hok:Ct ρ' w r rb:=h'.obj i _ rb hg hr
        have hrn:r.n=(x::l).length:=by rw[hh.1,DW]
        have hmo:r.mode≠.ro:=fun e=>by rw[e]at hm;cases hm
        obtain⟨cs,k1,k2⟩:=hok.own hmo
        have hno:∀ (σ:BU),Ct σ w (uw (x::l)) rb:=fun σ=>by
          refine⟨fun k u hk hu=>?_,by show(x::l).length≤_;rw[← hrn];exact hok.le,by show 1=_;rw[← hsz];exact hok.sz,fun e=>(by cases e),fun _=>⟨cs,by show _=some (Obj.cells cs 76 (0,0));rw[← hel];exact k1,k2⟩,fun e=>(by cases e),fun g e=>(by cases e),fun p e=>(by cases e)⟩
          have hk':k<(x::l).length:=hk
          have hu':(us (x::l))[k]? = some u:=by
            have:(Ab.fill .leaf 0 (us (x::l))).get k=some u:=hu
            rw[Ab.get_fill,if_pos ⟨ze _,by rw[DW];omega⟩]at this
            simpa using this
          obtain⟨v',e1,e2⟩:=hok.cells k u (by omega) (hh.2 k u hu')
          exact⟨v',e1,FI (jz hu') e2⟩
        have hlt:=h'.lt i rb hr
        refine⟨CF ρ1 s1.next rb,h1.addRow hf1 (hno _) hlt (hne i rb rfl hr),hf1.new _ _,hfr.addRow hf1 (hge i _ rb hbi hg hm hr),Bk (hf1 s1.next (zU _)).1,.sliceOpen (Af _ _) q1 q2 q3 q4,fun j oj rj hj hr2=>?_⟩
        have hj':(newObj s1 (.row (uw (x::l)))).heap.get j=some oj:=hj
        rw[BA]at hj'
        by_cases e:j=s1.next
        · subst e
          rw[Af]at hr2
          injection hr2 with hr2
          exact .inr ⟨i,rb,rfl,hr,by rw[← hr2]⟩
        · rw [if_neg e] at hj'
          rw[AZ rb e]at hr2
          exact .inl ⟨oj,hj',hr2⟩
end
end
end Go.Proofs.YtjnkfbpadpmakaaGreatDoor.Am
