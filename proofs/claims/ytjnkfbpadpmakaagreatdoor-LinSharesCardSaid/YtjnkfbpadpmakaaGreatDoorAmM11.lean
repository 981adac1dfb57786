/- Compiled code of the statement LinPlaces, printed by a program of ours (dev/Print2.lean) and checked by the kernel; conditions: none. -/
import Derived.Test.YtjnkfbpadpmakaaGreatDoorAmM10
set_option linter.unusedVariables false
set_option linter.unusedSimpArgs false
set_option maxRecDepth 100000
namespace Go.Proofs.YtjnkfbpadpmakaaGreatDoor.Am
open Go Go.Proofs
noncomputable section
def fL:List AB:=[
 ⟨none,.mk (fun l=>match l with | [v]=>Bf 26 v | _=>none),[.var 0],(.set 1),[]⟩,
 ⟨none,.mk (fun l=>match l with | []=>Ac Tryz.prog 26 | _=>none),[],(.set 2),[]⟩]
def fM:List AB:=[
 ⟨none,.p1 (fun x=>AC Tryz.prog 26 x 0),[.var 1],.push,[]⟩,
 ⟨none,.p1 (fun x=>AC Tryz.prog 24 x 1),[.loc 0],.push,[]⟩,
 ⟨none,.r1 (fun s a=>AA Tryz.prog s 22 a),[.loc 0],.push,[]⟩,
 ⟨none,.p1 (fun x=>AC Tryz.prog 26 x 0),[.var 1],.push,[]⟩,
 ⟨none,.p1 (fun x=>AC Tryz.prog 24 x 1),[.loc 0],.push,[]⟩,
 ⟨none,.r1 (fun s a=>AA Tryz.prog s 22 a),[.loc 0],.push,[]⟩,
 ⟨none,.r (fun s l=>match l with | [x]=>BN Tryz.prog s 22 x | _=>none),[.loc 0],.push,[]⟩,
 ⟨none,.p (fun l=>match l with | v::l=>Cx false v l | []=>none),[(.loc 0),(.const (.int .i64 (3)))],.push,[]⟩,
 ⟨none,.r (BK Tryz.prog 22 false true false),[.loc 5,.loc 0],.push,[]⟩,
 ⟨none,.p1 (fun x=>AC Tryz.prog 26 x 0),[.var 1],.push,[]⟩,
 ⟨none,.p1 (fun x=>AC Tryz.prog 24 x 1),[.loc 0],.push,[]⟩,
 ⟨none,.e (fun s=>Xy (fun a x=>Za (AM Tryz.prog s 22 a x))),[.loc 0,.loc 2],.push,[]⟩]
def fN:List AB:=[
 ⟨none,.p1 (fun x=>AC Tryz.prog 26 x 1),[.var 1],.push,[]⟩,
 ⟨none,.r1 (fun s a=>AA Tryz.prog s 22 a),[.loc 0],.push,[]⟩,
 ⟨none,.p1 (fun x=>AC Tryz.prog 26 x 1),[.var 1],.push,[]⟩,
 ⟨none,.r1 (fun s a=>AA Tryz.prog s 22 a),[.loc 0],.push,[]⟩,
 ⟨none,.r (fun s l=>match l with | [x]=>BN Tryz.prog s 22 x | _=>none),[.loc 0],.push,[]⟩,
 ⟨none,.p (fun l=>match l with | v::l=>Cx false v l | []=>none),[(.loc 0),(.const (.int .i64 (3)))],.push,[]⟩,
 ⟨none,.r (BK Tryz.prog 22 false true false),[.loc 4,.loc 0],.push,[]⟩,
 ⟨none,.p1 (fun x=>AC Tryz.prog 26 x 1),[.var 1],.push,[]⟩,
 ⟨none,.e (fun s=>Xy (fun a x=>Za (AM Tryz.prog s 22 a x))),[.loc 0,.loc 1],.push,[]⟩]
def fO:List AB:=[
 ⟨none,.r1 (fun s a=>AA Tryz.prog s 26 a),[.var 1],.push,[]⟩,
 ⟨none,.e (fun s=>Xy (fun a x=>Za (AM Tryz.prog s 26 a x))),[.var 2,.loc 0],.push,[]⟩]
def qJ:Aq:=⟨1,3,(.seq (.ops fL) (.seq (.ops fM) (.seq (.ops fN) (.seq (.ops fO) .ret)))),[((.var 2),some 26)]⟩
def oD:List AB:=[
 ⟨none,.mk (fun l=>match l with | [v]=>Bf 30 v | _=>none),[.var 0],(.set 1),[]⟩,
 ⟨none,.mk (fun l=>match l with | []=>Ac Tryz.prog 30 | _=>none),[],(.set 2),[]⟩]
def oE:List AB:=[
 ⟨none,.p1 (fun x=>AC Tryz.prog 30 x 0),[.var 1],.push,[]⟩,
 ⟨none,.r1 (fun s a=>AA Tryz.prog s 26 a),[.loc 0],.push,[]⟩,
 ⟨none,.p1 (fun x=>AC Tryz.prog 30 x 1),[.var 1],.push,[]⟩,
 ⟨none,.r1 (fun s a=>AA Tryz.prog s 27 a),[.loc 0],.push,[]⟩,
 ⟨none,.p1 (fun x=>AC Tryz.prog 30 x 1),[.var 1],.push,[]⟩,
 ⟨none,.r1 (fun s a=>AA Tryz.prog s 27 a),[.loc 0],.push,[]⟩,
 ⟨none,.r (fun s l=>match l with | [x]=>BN Tryz.prog s 27 x | _=>none),[.loc 0],.push,[]⟩,
 ⟨none,.p (fun l=>match l with | v::l=>Cx false v l | []=>none),[(.loc 0),(.const (.int .i64 (8)))],.push,[]⟩,
 ⟨none,.r (BK Tryz.prog 27 false true false),[.loc 4,.loc 0],.push,[]⟩,
 ⟨none,.mk (fun l=>match l with | []=>Ac Tryz.prog 30 | _=>none),[],(.set 3),[]⟩,
 ⟨none,.call 31,[.loc 7],.push,[⟨none,.r (BK Tryz.prog 27 false true false),[.loc 6,.loc 2],(.loc 1)⟩,⟨none,.r (fun s l=>match l with | [x]=>BN Tryz.prog s 27 x | _=>none),[.loc 4],(.loc 3)⟩,⟨none,.r1 (fun s a=>AA Tryz.prog s 27 a),[.loc 5],(.loc 4)⟩,⟨none,.r1 (fun s a=>AA Tryz.prog s 27 a),[.loc 7],(.loc 6)⟩]⟩,
 ⟨none,.p (fun l=>B7 Tryz.prog 30 (zipIdx [0,1] l)),[.loc 0,.loc 1],.push,[]⟩,
 ⟨none,.e (fun s=>Xy (fun a x=>Za (AM Tryz.prog s 30 a x))),[.var 3,.loc 0],.push,[]⟩]
def oF:List AB:=[
 ⟨none,.p1 some,[(.const (.int .i64 (0)))],(.set 4),[]⟩]
def kP:List AB:=[
 ⟨none,.p1 (fun x=>AC Tryz.prog 30 x 2),[.var 1],.push,[]⟩,
 ⟨none,.r1 (fun s a=>AA Tryz.prog s 28 a),[.loc 0],.push,[]⟩,
 ⟨none,.r (fun s l=>match l with | [x]=>BN Tryz.prog s 28 x | _=>none),[.loc 0],.push,[]⟩,
 ⟨none,.p2 (AS Tryz.prog .lss 3),[.var 4,.loc 0],.push,[]⟩,
 ⟨(some ((.loc 0),true)),.p1 some,[.var 4],.push,[]⟩,
 ⟨(some ((.loc 1),true)),.p2 (AS Tryz.prog .lss 3),[(.loc 0),(.const (.int .i64 (8)))],.push,[]⟩,
 ⟨none,.p Ru,[(.loc 2),(.loc 0),(.const (.bool false))],(.set 5),[]⟩]
def oG:List AB:=[
 ⟨none,.p1 (fun x=>AC Tryz.prog 30 x 2),[.var 3],.push,[]⟩,
 ⟨none,.r1 (fun s a=>AA Tryz.prog s 28 a),[.loc 0],.push,[]⟩,
 ⟨none,.p1 (fun x=>AC Tryz.prog 30 x 2),[.var 1],.push,[]⟩,
 ⟨none,.r1 (fun s a=>AA Tryz.prog s 28 a),[.loc 0],.push,[]⟩,
 ⟨none,.p2 (AK Tryz.prog 28),[.loc 0,.var 4],.push,[]⟩,
 ⟨none,.r1 (fun s a=>AA Tryz.prog s 26 a),[.loc 0],.push,[]⟩,
 ⟨none,.call 31,[.loc 0],.push,[⟨none,.r1 (fun s a=>AA Tryz.prog s 28 a),[.loc 6],(.loc 5)⟩]⟩,
 ⟨none,.mk (fun l=>(Af Tryz.prog 28 1 (zipIdx [0] l)).bind fun r=>some (r,.slice 1)),[.loc 0],.push,[]⟩,
 ⟨none,.e (fun s l=>Aw Tryz.prog s [28,28] l),[.loc 6,.loc 0],.push,[]⟩,
 ⟨none,.p1 (fun x=>AC Tryz.prog 30 x 2),[.var 3],.push,[]⟩,
 ⟨none,.e (fun s=>Xy (fun a x=>Za (AM Tryz.prog s 28 a x))),[.loc 0,.loc 1],.push,[]⟩]
def oH:List AB:=[
 ⟨none,.p1 some,[.var 4],.push,[]⟩,
 ⟨none,.p2 (AS Tryz.prog .add 3),[(.loc 0),(.const (.int .i64 (1)))],.push,[]⟩,
 ⟨none,.p1 some,[.loc 0],(.set 4),[]⟩]
def YC:Ad:=(.seq (.seq (.ops kP) (.cond (.var 5)
 .skip
 (.exit 0))) (.seq (.block 1 (.ops oG)) (.ops oH)))
def oI:List AB:=[
 ⟨none,.r1 (fun s a=>AA Tryz.prog s 30 a),[.var 3],.push,[]⟩,
 ⟨none,.e (fun s=>Xy (fun a x=>Za (AM Tryz.prog s 30 a x))),[.var 2,.loc 0],.push,[]⟩]
def c7:Aq:=⟨1,6,(.seq (.ops oD) (.seq (.ops oE) (.seq (.seq (.ops oF) (.block 0 (.loop YC))) (.seq (.ops oI) .ret)))),[((.var 2),some 30)]⟩
theorem kj:AR Tryz.prog 31=some qJ:=by kernel_rfl
theorem oT:AR Tryz.prog 7=some c7:=by kernel_rfl
end
end Go.Proofs.YtjnkfbpadpmakaaGreatDoor.Am
set_option linter.unusedVariables false
set_option linter.unusedSimpArgs false
set_option maxRecDepth 16000
namespace Go.Proofs.YtjnkfbpadpmakaaGreatDoor.Am
open Go Go.Proofs
noncomputable section
def QA(s:AE)(v:AV):Prop:=∃neg m d lm ld,v=.agg [.bool neg,m,d]∧C7 s m lm∧C7 s d ld∧Bv lm∧Bv ld
theorem QA.old{s s':AE}{v:AV}(h:QA s v)(o:Ae s.next s s'):QA s' v:=by
 obtain⟨neg,m,d,lm,ld,h1,h2,h3,h4⟩:=h
 exact⟨neg,m,d,lm,ld,h1,h2.old o,h3.old o,h4⟩
structure JT(s:AE)(a:Option (Nat×Nat))(n:Nat)(cells:List AV):Prop where
 len:cells.length=n * 3
 rd:AZ s.next s a cells
 rat:∀i,i<n→QA s (.agg ((cells.drop (i * 3)).take 3))
theorem JT.old{s s':AE}{a:Option (Nat×Nat)}{n:Nat}{cells:List AV}(h:JT s a n cells)(o:Ae s.next s s'):JT s' a n cells:=
 ⟨h.len,(h.rd.old o (qw _)).mono o.1,fun i hi=>(h.rat i hi).old o⟩
theorem JT.load{s:AE}{a:Option (Nat×Nat)}{n:Nat}{cells:List AV}(h:JT s a n cells){i:Nat}(hi:i<n):
  ∃i0 o,a=some (i0,o)∧i0<s.next∧AA Tryz.prog s 26 (.ptr (some (i0,o+i * 3)))=some (.agg ((cells.drop (i * 3)).take 3)):=by
 have hl:=h.len
 have h3:((cells.drop (i * 3)).take 3).length=3:=by rw[rR,sC];omega
 have hget:∀j,j<3→((cells.drop (i * 3)).take 3)[j]? = cells[i * 3+j]? := fun j hj=>by rw[sS hj,sJ]
 have h0:cells[i * 3]? = some cells[i * 3]:=qy (by omega)
 obtain⟨i0,o,rfl,hlt,_⟩:=h.rd (i * 3) _ h0
 refine⟨i0,o,rfl,hlt,?_⟩
 have:=IU (o:=s.heap.get i0) ((cells.drop (i * 3)).take 3) (o+i * 3) (fun j u hj=>by
  have hj3:j<3:=by
   rcases qz j 3 with h' | h'
   ·exact h'
   ·rw[rI (by omega)]at hj;cases hj
  rw[hget j hj3]at hj
  obtain⟨i',o',e,_,g⟩:=h.rd _ u hj
  injection e with e
  injection e with e1 e2
  subst e1;subst e2
  rw[IR]at g
  rw[re];exact g) (by intro e;rw[e]at h3;cases h3)
 rw[h3]at this
 rw[Wg BH,Ar,Option.bind_some,this]
 rfl
section
variable{E:CR}{s:AE}
theorem P9(hE:GoodN E){s0:AE}(o0:Ae s0.next s0 s){v:AV}(hv:QA s0 v){K:AV→AE→Prop}(hK:∀s' w q,Ae s.next s s'→QI s0 w q 3→K w s'):WF E 31 [v] K s:=by
 obtain⟨neg,m,d,lm,ld,rfl,hm,hd,hsm,hsd⟩:=hv
 obtain⟨am,cm,rfl,xm,ym⟩:=hm
 obtain⟨ad,cd,rfl,xd,yd⟩:=hd
 refine hE.go kj (by decide) rfl ?_
 have xm0:=xm
 have ym0:=ym
 have xd0:=xd
 have yd0:=yd
 replace xm:=xm.old o0
 replace xd:=xd.old o0
 obtain⟨n1,o1,g1,g2⟩:=D4 s (BQ neg (.slice am lm.length cm) (.slice ad ld.length cd)) ZQ
 simp only[qJ,fL,Xa,Xh,Bb,Xc,Ap,Qa,Qb,Qc,Qd,Qe,Qf,Qg,Qh,Qi,Qj,Qk,Ql,Qm,Qn,true_and,and_true,Qo,Qp,Qq,Qr,Qs,Qt,Qu,Qv,Qw,Qx,Qy,Qz,Ra,Rb,Rc,Rd,Re,Rf,Rg,Rh,Ri,Rj,Rk,Rm,Rn,Ro,Rp,Rq,Rt,Ya,Yb,Yc,Ru,Rw,Zb,Yd,Ye,Ry,Rz,Wa,Wb,Wc,Wd,We]
 generalize newObj (newObj s (BQ neg (.slice am lm.length cm) (.slice ad ld.length cd))) ZQ=s1 at *
 have l1:=AI (P:=Tryz.prog) (t:=22) (o:=0+0+1) CG g1 rfl
 have cut1:=PG (t:=22) Tryz.underlying22 Ci (xm.old o1) (show min lm.length 3≤lm.length by omega)
 have mm1:Cx false (iv (lm.length:Int)) [.int .i64 3]=some (iv ((min lm.length 3:Nat):Int)):=Ny lm.length 3
 have st1:=Bo (P:=Tryz.prog) (t:=22) (o:=0+0+1) (v:=.slice am (min lm.length 3) cm) OK g1 (by simp) rfl
 generalize hs2:setObj s1 s.next _=s2 at st1
 have g3:s2.heap.get s.next=some (BQ neg (.slice am (min lm.length 3) cm) (.slice ad ld.length cd)):=by rw[← hs2,Ww];rfl
 have g4:s2.heap.get (s.next+1)=some ZQ:=by rw[← hs2,Wx _ (by omega)];exact g2
 have o2:Ae s.next s s2:=by rw[← hs2];exact o1.set (qw _) _
 have l2:=AI (P:=Tryz.prog) (t:=22) (o:=0+2) CG g3 rfl
 have cut2:=PG (t:=22) Tryz.underlying22 Ci (xd.old o2) (show min ld.length 3≤ld.length by omega)
 have mm2:Cx false (iv (ld.length:Int)) [.int .i64 3]=some (iv ((min ld.length 3:Nat):Int)):=Ny ld.length 3
 have st2:=Bo (P:=Tryz.prog) (t:=22) (o:=0+2) (v:=.slice ad (min ld.length 3) cd) OK g3 (by simp) rfl
 generalize hs3:setObj s2 s.next _=s3 at st2
 have g5:s3.heap.get s.next=some (BQ neg (.slice am (min lm.length 3) cm) (.slice ad (min ld.length 3) cd)):=by rw[← hs3,Ww];rfl
 have g6:s3.heap.get (s.next+1)=some ZQ:=by rw[← hs3,Wx _ (by omega)];exact g4
 have o3:Ae s.next s s3:=by rw[← hs3];exact o2.set (qw _) _
 have l3:=AG (P:=Tryz.prog) (t:=26) BH Ar g5 rfl
 obtain⟨st4,ld4⟩:=Bj (cs0:=[.bool false,.slice none 0 (some 0),.slice none 0 (some 0)]) rfl (x:=neg) (a:=am) (n:=min lm.length 3) (c:=cm) (b:=ad) (m:=min ld.length 3) (d:=cd) g6
 simp only[fM,fN,fO,l1,AN Tryz.underlying22,mm1,cut1,st1,l2,mm2,cut2,st2,l3,st4,ld4,ES,FD,Cv,AO,Xy,Za,Qa,Qb,Qc,Qd,Qe,Qf,Qg,Qh,Qi,Qj,Qk,Ql,Qm,Qn,true_and,and_true,Qo,Qp,Qq,Qr,Qs,Qt,Qu,Qv,Qw,Qx,Qy,Qz,Ra,Rb,Rc,Rd,Re,Rf,Rg,Rh,Ri,Rj,Rk,Rm,Rn,Ro,Rp,Rq,Rt,Ya,Yb,Yc,Ru,Rw,Zb,Yd,Ye,Ry,Rz,Wa,Wb,Wc,Wd,We]
 generalize hs4:setObj s3 (s.next+1) (BQ neg (.slice am (min lm.length 3) cm) (.slice ad (min ld.length 3) cd))=s4
 have o4:Ae s.next s s4:=by rw[← hs4];exact o3.set (by omega) _
 have q1:=C7.take xm0 ym0 (show min lm.length 3≤lm.length by omega)
 have q2:=C7.take xd0 yd0 (show min ld.length 3≤ld.length by omega)
 exact hK s4 _ _ o4 ⟨neg,_,_,_,_,rfl,q1,q2,hsm.take _,hsd.take _,by rw[rR];omega,by rw[rR];omega,rfl⟩
end
structure GD(s0 S:AE)(cv:AV)(D:List CD)(O:List Nat):Prop where
 buf:E6 26 3 S cv D.length (CM D) O
 ent:∀t∈D,QI s0 t.2.2 t.2.1 3
 lo:∀j∈O,s0.next≤j
theorem GD.nil(s0 S:AE):GD s0 S (.slice none 0 (some 0)) [] []:=⟨E6.nil _ _ _,fun t h=>by simp at h,fun j h=>by simp at h⟩
theorem GD.frame{s0 S S':AE}{cv:AV}{D:List CD}{O:List Nat}(h:GD s0 S cv D O)(hn:S.next≤S'.next)(hf:∀j∈O,S'.heap.get j=S.heap.get j):GD s0 S' cv D O:=⟨h.buf.frame hn hf,h.ent,h.lo⟩
theorem GD.old{s0 S S':AE}{cv:AV}{D:List CD}{O:List Nat}(h:GD s0 S cv D O)(o:Ae S.next S S'):GD s0 S' cv D O:=h.frame o.1 fun j hj=>o.2 j (h.buf.lt j hj)
theorem GD.rats{s0 S:AE}{cv:AV}{D:List CD}{O:List Nat}(h:GD s0 S cv D O)(o:Ae s0.next s0 S):∃a cap,cv=.slice a (D.map fun t=>t.2.1).length cap∧Dw S a (D.map fun t=>t.2.1) 3 (CM D)∧GL 3 S a cap (D.map fun t=>t.2.1).length:=by
 obtain⟨a,cap,rfl,hcc,hzc⟩:=h.buf.capZ
 have hl3:∀t∈D,t.2.2.cells.length=3:=fun t ht=>by
  obtain⟨_,_,_,_,_,_,_,e⟩:=(h.ent t ht).shape
  rw[e];rfl
 obtain⟨p1,p2⟩:=Ep D hl3
 refine⟨a,cap,by simp,⟨by simp[p1],hcc,fun i q hi=>?_⟩,by simpa using hzc⟩
 rw[sF]at hi
 cases hDi:D[i]? with
 | none=>rw[hDi]at hi;cases hi
 | some t =>
  rw[hDi]at hi
  injection hi with hi
  have htm:=rQ hDi
  rw[p2 i t hDi]
  obtain⟨_,_,_,_,_,_,_,e⟩:=(h.ent t htm).shape
  rw[← hi,show AV.agg t.2.2.cells=t.2.2 from by rw[e];rfl]
  exact(h.ent t htm).old o
theorem GD.push{s0 S:AE}{cv:AV}{D:List CD}{O:List Nat}(h:GD s0 S cv D O){r:Nat}{x:Bool}{a b:Option (Nat×Nat)}{n m:Nat}{c d:Option Nat}(hr:S.heap.get r=some (R 26 3 false [.bool x,.slice a n c,.slice b m d])){q:Rat}(hq:QI s0 (.agg [.bool x,.slice a n c,.slice b m d]) q 3)(hD:D.length≤1000000000)(ho:s0.next≤S.next):
    ∃cv' S' O',Aw Tryz.prog S [28,28] [cv,.slice (some (r,0)) 1 (some 1)]=some (cv',S')∧GD s0 S' cv' (D++[(0,q,.agg [.bool x,.slice a n c,.slice b m d])]) O'∧S'.next=S.next+1∧(∀j,j<S.next→j ∉ O→S'.heap.get j=S.heap.get j)∧(∀j∈O',j∈O∨S.next≤j):=by
  obtain⟨v8,s8,O8,happ8,b8,n8,f8,hO8⟩:=Ib Tryz.underlying28 Ar kD (by decide) OM Sk (by decide) h.buf hr rfl rfl hD
  refine⟨v8,s8,O8,happ8,⟨?_,fun t ht=>?_,fun j hj=>?_⟩,n8,f8,hO8⟩
  · have e:CM (D++[((0:Int),q,AV.agg [.bool x,.slice a n c,.slice b m d])])=CM D++[.bool x,.slice a n c,.slice b m d]:=by simp[CM,AV.cells]
    rw[e,rL]
    exact b8
  · rcases List.mem_append.1 ht with ht | ht
    · exact h.ent t ht
    · rw[List.mem_singleton.1 ht];exact hq
  · rcases hO8 j hj with hj | hj
    · exact h.lo j hj
    · omega
section
variable{E:CR}{s:AE}
end
def LA(s:AE)(v:AV):Prop:=∃x a n c b m d av vs capv ac nc capc cells,v=.agg [.bool x,.slice a n c,.slice b m d,.slice av (List.length vs) capv,.slice ac nc capc]∧QA s (.agg [.bool x,.slice a n c,.slice b m d])∧AZ s.next s av (vs.map iv)∧(∀n∈vs,i64 n)∧GL 1 s av capv vs.length∧JT s ac nc cells
theorem LA.old{s s':AE}{v:AV}(h:LA s v)(o:Ae s.next s s'):LA s' v:=by
 obtain⟨x,a,n,c,b,m,d,av,vs,capv,ac,nc,capc,cells,h1,h2,h3,h4,h5,h6⟩:=h
 exact⟨x,a,n,c,b,m,d,av,vs,capv,ac,nc,capc,cells,h1,h2.old o,(h3.old o (qw _)).mono o.1,h4,h5.old o,h6.old o⟩
theorem Of(x:Bool)(a b av:Option (Nat×Nat))(n m nv:Nat)(c d cv:Option Nat):B7 Tryz.prog 30 (zipIdx [0,1] [.agg [.bool x,.slice a n c,.slice b m d],.slice av nv cv])=some (.agg [.bool x,.slice a n c,.slice b m d,.slice av nv cv,.slice none 0 (some 0)]):=by kernel_rfl
theorem RN{b:Nat}{s:AE}{a:Option (Nat×Nat)}{cs:List AV}(h:AZ b s a cs)(k:Nat):AZ b s a (cs.take k):=fun j u hj=>by
 rw[sq]at hj
 split at hj
 ·exact h j u hj
 ·cases hj
section
variable{E:CR}{s:AE}
theorem Yu       (hE : GoodN E) {s0 : AE}  {p1 p3 : Nat} {x1 x3 : Bool} {a b av a3 b3 av3 : Option (Nat × Nat)} {n m nv n3 m3 nv3 : Nat} {c d capv c3 d3 capv3 : Option Nat} {ac : Option (Nat × Nat)} {nc : Nat} {cc : Option Nat} {cells : List AV} (hr : JT    s0 ac nc cells) (h1 : s0.next ≤ p1) (h3 : p1 < p3) {y0 y2 : AV} {Q : Ax   → Prop}
    (hq:∀ (S:AE) (cv:AV) (D:List CD) (O:List Nat) (y4 y5:AV),Ae s0.next s0 S→(∀j,j<p3→S.heap.get j=s.heap.get j)→p3<S.next→S.heap.get p3=some (BL x3 (.slice a3 n3 c3) (.slice b3 m3 d3) (.slice av3 nv3 capv3) cv)→GD s0 S cv D O→(∀j∈O,p3<j)→D.length≤8→Q ⟨.exit 0,[y0,.ptr (some (p1,0)),y2,.ptr (some (p3,0)),y4,y5],[],S⟩)
    (g1:s.heap.get p1=some (BL x1 (.slice a n c) (.slice b m d) (.slice av nv capv) (.slice ac nc cc))):
    ∀ (r i:Nat) (S:AE) (cv:AV) (D:List CD) (O:List Nat) (z5:AV),8 - i=r→i≤8→D.length=i→Ae s0.next s0 S→(∀j,j<p3→S.heap.get j=s.heap.get j)→p3<S.next→S.heap.get p3=some (BL x3 (.slice a3 n3 c3) (.slice b3 m3 d3) (.slice av3 nv3 capv3) cv)→GD s0 S cv D O→(∀j∈O,p3<j)→WC E none (.loop YC) Q [y0,.ptr (some (p1,0)),y2,.ptr (some (p3,0)),iv (i:Int),z5] [] S:=by
  intro r
  induction r with
  | zero =>
    intro i S cv D O x4 hi h8 hD ho hf hn3 g3 hF hO
    have e:i=8:=by omega
    subst e
    have l1:=AI (P:=Tryz.prog) (t:=28) (o:=0+4) GG ((hf p1 h3).trans g1) rfl
    refine WC.loop' ?_
    simp only[YC,kP,l1,DA,AN Tryz.underlying28,Qa,Qb,Qc,Qd,Qe,Qf,Qg,Qh,Qi,Qj,Qk,Ql,Qm,Qn,true_and,and_true,Qo,Qp,Qq,Qr,Qs,Qt,Qu,Qv,Qw,Qx,Qy,Qz,Ra,Rb,Rc,Rd,Re,Rf,Rg,Rh,Ri,Rj,Rk,Rm,Rn,Ro,Rp,Rq,Rt,Ya,Yb,Yc,Ru,Rw,Zb,Yd,Ye,Ry,Rz,Wa,Wb,Wc,Wd,We]
    by_cases hn:((8:Nat):Int)<(nc:Int)
    · simp only[decide_eq_true hn,show decide (((8:Nat):Int)<8)=false from rfl,Qa,Qb,Qc,Qd,Qe,Qf,Qg,Qh,Qi,Qj,Qk,Ql,Qm,Qn,true_and,and_true,Qo,Qp,Qq,Qr,Qs,Qt,Qu,Qv,Qw,Qx,Qy,Qz,Ra,Rb,Rc,Rd,Re,Rf,Rg,Rh,Ri,Rj,Rk,Rm,Rn,Ro,Rp,Rq,Rt,Ya,Yb,Yc,Ru,Rw,Zb,Yd,Ye,Ry,Rz,Wa,Wb,Wc,Wd,We]
      exact hq S cv D O _ _ ho hf hn3 g3 hF hO (by omega)
    · simp only[decide_eq_false hn,Qa,Qb,Qc,Qd,Qe,Qf,Qg,Qh,Qi,Qj,Qk,Ql,Qm,Qn,true_and,and_true,Qo,Qp,Qq,Qr,Qs,Qt,Qu,Qv,Qw,Qx,Qy,Qz,Ra,Rb,Rc,Rd,Re,Rf,Rg,Rh,Ri,Rj,Rk,Rm,Rn,Ro,Rp,Rq,Rt,Ya,Yb,Yc,Ru,Rw,Zb,Yd,Ye,Ry,Rz,Wa,Wb,Wc,Wd,We]
      exact hq S cv D O _ _ ho hf hn3 g3 hF hO (by omega)
  | succ r ih =>
    intro i S cv D O x4 hi h8 hD ho hf hn3 g3 hF hO
    have l1:=AI (P:=Tryz.prog) (t:=28) (o:=0+4) GG ((hf p1 h3).trans g1) rfl
    refine WC.loop' ?_
    generalize hW:WC E none (Ad.loop YC) Q=WW
    simp only[YC,kP,l1,DA,AN Tryz.underlying28,Qa,Qb,Qc,Qd,Qe,Qf,Qg,Qh,Qi,Qj,Qk,Ql,Qm,Qn,true_and,and_true,Qo,Qp,Qq,Qr,Qs,Qt,Qu,Qv,Qw,Qx,Qy,Qz,Ra,Rb,Rc,Rd,Re,Rf,Rg,Rh,Ri,Rj,Rk,Rm,Rn,Ro,Rp,Rq,Rt,Ya,Yb,Yc,Ru,Rw,Zb,Yd,Ye,Ry,Rz,Wa,Wb,Wc,Wd,We]
    by_cases hn:(i:Int)<(nc:Int)
    · have hlt:i<nc:=by omega
      obtain⟨i0,o,rfl,hi0,ld⟩:=hr.load hlt
      have ix:=Ah (cap:=cc) (i:=i0) (o:=o) (n:=3) Tryz.underlying28 Ar hlt
      have ld':AA Tryz.prog S 26 (.ptr (some (i0,o+i * 3)))=some (.agg ((cells.drop (i * 3)).take 3)):=by
        rw[Wg BH]at ld ⊢
        rw[ho.2 i0 hi0];exact ld
      have e17:=BU Tryz.prog 3 (i:Int) 1 ⟨by omega,by omega⟩
      have e17':((i:Int)+1)=((i+1:Nat):Int):=by omega
      have l3:=AI (P:=Tryz.prog) (t:=28) (o:=0+4) GG g3 rfl
      simp only[decide_eq_true hn,decide_eq_true (show(i:Int)<8 by omega),oG,l1,l3,DA,ix,ld',Qa,Qb,Qc,Qd,Qe,Qf,Qg,Qh,Qi,Qj,Qk,Ql,Qm,Qn,true_and,and_true,Qo,Qp,Qq,Qr,Qs,Qt,Qu,Qv,Qw,Qx,Qy,Qz,Ra,Rb,Rc,Rd,Re,Rf,Rg,Rh,Ri,Rj,Rk,Rm,Rn,Ro,Rp,Rq,Rt,Ya,Yb,Yc,Ru,Rw,Zb,Yd,Ye,Ry,Rz,Wa,Wb,Wc,Wd,We]
      refine P9 hE ho (hr.rat i hlt) fun s4 w q o4 hw=>?_
      have hs0:=ho.1
      have hs4:=o4.1
      have l3':=AI (P:=Tryz.prog) (t:=28) (o:=0+4) GG ((o4.2 p3 hn3).trans g3) rfl
      obtain⟨_,_,ecv,_⟩:=hF.buf.slice
      refine⟨⟨Ak (by simp only[Qa,Qb,Qc,Qd,Qe,Qf,Qg,Qh,Qi,Qj,Qk,Ql,Qm,Qn,true_and,and_true,Qo,Qp,Qq,Qr,Qs,Qt,Qu,Qv,Qw,Qx,Qy,Qz,Ra,Rb,Rc,Rd,Re,Rf,Rg,Rh,Ri,Rj,Rk,Rm,Rn,Ro,Rp,Rq,Rt,Ya,Yb,Yc,Ru,Rw,Zb,Yd,Ye,Ry,Rz,Wa,Wb,Wc,Wd,We];exact l3') (by simp only[Qa,Qb,Qc,Qd,Qe,Qf,Qg,Qh,Qi,Qj,Qk,Ql,Qm,Qn,true_and,and_true,Qo,Qp,Qq,Qr,Qs,Qt,Qu,Qv,Qw,Qx,Qy,Qz,Ra,Rb,Rc,Rd,Re,Rf,Rg,Rh,Ri,Rj,Rk,Rm,Rn,Ro,Rp,Rq,Rt,Ya,Yb,Yc,Ru,Rw,Zb,Yd,Ye,Ry,Rz,Wa,Wb,Wc,Wd,We];rw[ecv];exact BT _ _ _),trivial⟩,?_⟩
      obtain⟨xx,aa,nn,kk,bb,mm,ee,rfl⟩:=hw.shape
      obtain⟨n5,o5,g5⟩:=Bl s4 (R 26 3 false [.bool xx,.slice aa nn kk,.slice bb mm ee])
      simp only[Lj,Xe,Qa,Qb,Qc,Qd,Qe,Qf,Qg,Qh,Qi,Qj,Qk,Ql,Qm,Qn,true_and,and_true,Qo,Qp,Qq,Qr,Qs,Qt,Qu,Qv,Qw,Qx,Qy,Qz,Ra,Rb,Rc,Rd,Re,Rf,Rg,Rh,Ri,Rj,Rk,Rm,Rn,Ro,Rp,Rq,Rt,Ya,Yb,Yc,Ru,Rw,Zb,Yd,Ye,Ry,Rz,Wa,Wb,Wc,Wd,We]
      generalize newObj s4 (R 26 3 false [.bool xx,.slice aa nn kk,.slice bb mm ee])=s5 at *
      have o45:Ae S.next S s5:=o4.trans (o5.mono hs4)
      obtain⟨v6,s6,O6,happ,F6,n6,f6,hO6⟩:=(hF.old o45).push g5 hw (by omega) (by omega)
      have hp3:p3 ∉ O:=fun h=>by have:=hO p3 h;omega
      have g6:s6.heap.get p3=some (BL x3 (.slice a3 n3 c3) (.slice b3 m3 d3) (.slice av3 nv3 capv3) cv):=by rw[f6 p3 (by omega) hp3,o45.2 p3 hn3];exact g3
      obtain⟨_,_,ev6,_⟩:=F6.buf.slice
      have st7:=Bo (P:=Tryz.prog) (t:=28) (o:=0+4) (v:=v6) mp g6 (by simp) (by rw[ev6];rfl)
      simp only[happ,st7,DA,oH,e17,e17',Xy,Za,Qa,Qb,Qc,Qd,Qe,Qf,Qg,Qh,Qi,Qj,Qk,Ql,Qm,Qn,true_and,and_true,Qo,Qp,Qq,Qr,Qs,Qt,Qu,Qv,Qw,Qx,Qy,Qz,Ra,Rb,Rc,Rd,Re,Rf,Rg,Rh,Ri,Rj,Rk,Rm,Rn,Ro,Rp,Rq,Rt,Ya,Yb,Yc,Ru,Rw,Zb,Yd,Ye,Ry,Rz,Wa,Wb,Wc,Wd,We]
      generalize hs7:setObj s6 p3 _=s7
      have f7:∀j,j≠p3→s7.heap.get j=s6.heap.get j:=fun j hj=>by rw[← hs7,Wx _ hj]
      have n7:s7.next=s6.next:=by rw[← hs7];rfl
      have g7:s7.heap.get p3=some (BL x3 (.slice a3 n3 c3) (.slice b3 m3 d3) (.slice av3 nv3 capv3) v6):=by rw[← hs7,Ww];rfl
      have hO6':∀j∈O6,p3<j:=fun j hj=>by
        rcases hO6 j hj with h | h
        · exact hO j h
        · omega
      rw[← hW]
      refine ih (i+1) s7 v6 _ O6 _ (by omega) (by omega) (by simp[hD]) ⟨by omega,fun j hj=>?_⟩ (fun j hj=>?_) (by omega) g7 (F6.frame (by omega) fun j hj=>f7 j (by have:=hO6' j hj;omega)) hO6'
      · rw[f7 j (by omega),f6 j (by omega) (fun h=>by have:=hF.lo j h;omega),o45.2 j (by omega),ho.2 j hj]
      · rw[f7 j (by omega),f6 j (by omega) (fun h=>by have:=hO j h;omega),o45.2 j (by omega),hf j hj]
    · simp only[decide_eq_false hn,Qa,Qb,Qc,Qd,Qe,Qf,Qg,Qh,Qi,Qj,Qk,Ql,Qm,Qn,true_and,and_true,Qo,Qp,Qq,Qr,Qs,Qt,Qu,Qv,Qw,Qx,Qy,Qz,Ra,Rb,Rc,Rd,Re,Rf,Rg,Rh,Ri,Rj,Rk,Rm,Rn,Ro,Rp,Rq,Rt,Ya,Yb,Yc,Ru,Rw,Zb,Yd,Ye,Ry,Rz,Wa,Wb,Wc,Wd,We]
      exact hq S cv D O _ _ ho hf hn3 g3 hF hO (by omega)
theorem Yv(hE:GoodN E){s0:AE}(o0:Ae s0.next s0 s){v:AV}(hv:LA s0 v){K:AV→AE→Prop}
  (hK:∀ (s':AE) (w:AV) (C:Rat) (vs:List Int) (cs:List Rat),Ae s.next s s'→(∀s'',s'.next≤s''.next→(∀j,j<s'.next→j<s0.next∨s.next≤j→s''.heap.get j=s'.heap.get j)→LI s'' w C vs cs 3)→vs.length≤8→cs.length≤8→K w s'):WF E 7 [v] K s:=by
 obtain⟨x,a,n,c,b,m,d,av,vs,capv,ac,nc,capc,cells,rfl,hC,hvs0,hi,hcap0,hcs⟩:=hv
 have hcap:=hcap0.old o0
 have hs0:=o0.1
 refine hE.go oT (by decide) rfl ?_
 obtain⟨n1,o1,g1,g2⟩:=D4 s (BL x (.slice a n c) (.slice b m d) (.slice av vs.length capv) (.slice ac nc capc)) ZL
 obtain⟨n3,o3,g3⟩:=Bl (newObj (newObj s (BL x (.slice a n c) (.slice b m d) (.slice av vs.length capv) (.slice ac nc capc))) ZL) ZL
 simp only[c7,oD,Xa,Xh,Dm,Xc,Ap,Qa,Qb,Qc,Qd,Qe,Qf,Qg,Qh,Qi,Qj,Qk,Ql,Qm,Qn,true_and,and_true,Qo,Qp,Qq,Qr,Qs,Qt,Qu,Qv,Qw,Qx,Qy,Qz,Ra,Rb,Rc,Rd,Re,Rf,Rg,Rh,Ri,Rj,Rk,Rm,Rn,Ro,Rp,Rq,Rt,Ya,Yb,Yc,Ru,Rw,Zb,Yd,Ye,Ry,Rz,Wa,Wb,Wc,Wd,We]
 generalize hs1:newObj (newObj s (BL x (.slice a n c) (.slice b m d) (.slice av vs.length capv) (.slice ac nc capc))) ZL=s1 at *
 have l1:AA Tryz.prog s1 26 (.ptr (some (s.next,0+0)))=some (.agg [.bool x,.slice a n c,.slice b m d]):=Ag (o:=0) (n:=3) BH Ar g1 (by simp)
 have l2:=AI (P:=Tryz.prog) (t:=27) (o:=0+3) Ix g1 rfl
 have cut2:=Yh Tryz.underlying27 Z9 (by decide) (hcap.old o1) (show min vs.length 8≤vs.length by omega)
 have mm2:Cx false (iv (vs.length:Int)) [.int .i64 8]=some (iv ((min vs.length 8:Nat):Int)):=Ny vs.length 8
 simp only[oE,l1,l2,cut2,mm2,AN Tryz.underlying27,Hg,ET,Dm,Xc,Qa,Qb,Qc,Qd,Qe,Qf,Qg,Qh,Qi,Qj,Qk,Ql,Qm,Qn,true_and,and_true,Qo,Qp,Qq,Qr,Qs,Qt,Qu,Qv,Qw,Qx,Qy,Qz,Ra,Rb,Rc,Rd,Re,Rf,Rg,Rh,Ri,Rj,Rk,Rm,Rn,Ro,Rp,Rq,Rt,Ya,Yb,Yc,Ru,Rw,Zb,Yd,Ye,Ry,Rz,Wa,Wb,Wc,Wd,We]
 generalize hs3:newObj s1 ZL=s3 at *
 have o13:Ae s.next s s3:=o1.trans (o3.mono o1.1)
 refine P9 hE (o0.trans (o13.mono hs0)) hC fun s4 w q o4 hw=>?_
 obtain⟨xx,aa,nn,kk,bb,mm,ee,rfl⟩:=hw.shape
 have k1:=(o4.2 s.next (by omega)).trans ((o3.2 s.next (by omega)).trans g1)
 have l2':=AI (P:=Tryz.prog) (t:=27) (o:=0+3) Ix k1 rfl
 have o14:Ae s.next s s4:=o13.trans (o4.mono o13.1)
 have cut2':=Yh Tryz.underlying27 Z9 (by decide) (hcap.old o14) (show min vs.length 8≤vs.length by omega)
 have g4:s4.heap.get s1.next=some ZL:=(o4.2 s1.next (by omega)).trans g3
 have hs4:=o4.1
 have hs13:=o13.1
 refine⟨⟨?_,?_,?_,?_,trivial⟩,?_⟩
 ·simp only[J1,cut2',CE,BT,Qa,Qb,Qc,Qd,Qe,Qf,Qg,Qh,Qi,Qj,Qk,Ql,Qm,Qn,true_and,and_true,Qo,Qp,Qq,Qr,Qs,Qt,Qu,Qv,Qw,Qx,Qy,Qz,Ra,Rb,Rc,Rd,Re,Rf,Rg,Rh,Ri,Rj,Rk,Rm,Rn,Ro,Rp,Rq,Rt,Ya,Yb,Yc,Ru,Rw,Zb,Yd,Ye,Ry,Rz,Wa,Wb,Wc,Wd,We]
 ·simp only[J1,AN Tryz.underlying27,CE,RY,Qa,Qb,Qc,Qd,Qe,Qf,Qg,Qh,Qi,Qj,Qk,Ql,Qm,Qn,true_and,and_true,Qo,Qp,Qq,Qr,Qs,Qt,Qu,Qv,Qw,Qx,Qy,Qz,Ra,Rb,Rc,Rd,Re,Rf,Rg,Rh,Ri,Rj,Rk,Rm,Rn,Ro,Rp,Rq,Rt,Ya,Yb,Yc,Ru,Rw,Zb,Yd,Ye,Ry,Rz,Wa,Wb,Wc,Wd,We]
 ·exact Ak (by simp only[Qa,Qb,Qc,Qd,Qe,Qf,Qg,Qh,Qi,Qj,Qk,Ql,Qm,Qn,true_and,and_true,Qo,Qp,Qq,Qr,Qs,Qt,Qu,Qv,Qw,Qx,Qy,Qz,Ra,Rb,Rc,Rd,Re,Rf,Rg,Rh,Ri,Rj,Rk,Rm,Rn,Ro,Rp,Rq,Rt,Ya,Yb,Yc,Ru,Rw,Zb,Yd,Ye,Ry,Rz,Wa,Wb,Wc,Wd,We];exact l2') (by simp only[Qa,Qb,Qc,Qd,Qe,Qf,Qg,Qh,Qi,Qj,Qk,Ql,Qm,Qn,true_and,and_true,Qo,Qp,Qq,Qr,Qs,Qt,Qu,Qv,Qw,Qx,Qy,Qz,Ra,Rb,Rc,Rd,Re,Rf,Rg,Rh,Ri,Rj,Rk,Rm,Rn,Ro,Rp,Rq,Rt,Ya,Yb,Yc,Ru,Rw,Zb,Yd,Ye,Ry,Rz,Wa,Wb,Wc,Wd,We];exact BT _ _ _)
 ·exact Ak (by simp only[Qa,Qb,Qc,Qd,Qe,Qf,Qg,Qh,Qi,Qj,Qk,Ql,Qm,Qn,true_and,and_true,Qo,Qp,Qq,Qr,Qs,Qt,Qu,Qv,Qw,Qx,Qy,Qz,Ra,Rb,Rc,Rd,Re,Rf,Rg,Rh,Ri,Rj,Rk,Rm,Rn,Ro,Rp,Rq,Rt,Ya,Yb,Yc,Ru,Rw,Zb,Yd,Ye,Ry,Rz,Wa,Wb,Wc,Wd,We];exact l2') (by simp only[Qa,Qb,Qc,Qd,Qe,Qf,Qg,Qh,Qi,Qj,Qk,Ql,Qm,Qn,true_and,and_true,Qo,Qp,Qq,Qr,Qs,Qt,Qu,Qv,Qw,Qx,Qy,Qz,Ra,Rb,Rc,Rd,Re,Rf,Rg,Rh,Ri,Rj,Rk,Rm,Rn,Ro,Rp,Rq,Rt,Ya,Yb,Yc,Ru,Rw,Zb,Yd,Ye,Ry,Rz,Wa,Wb,Wc,Wd,We];exact BT _ _ _)
 obtain⟨st5,_⟩:=CF (cs0:=[.bool false,.slice none 0 (some 0),.slice none 0 (some 0),.slice none 0 (some 0),.slice none 0 (some 0)]) rfl (x:=xx) (a:=aa) (n:=nn) (c:=kk) (b:=bb) (m:=mm) (d:=ee) (av:=av) (nv:=min vs.length 8) (cv:=capv) (ac:=none) (nc:=0) (cc:=some 0) g4
 simp only[oF,Of,st5,Xy,Za,Qa,Qb,Qc,Qd,Qe,Qf,Qg,Qh,Qi,Qj,Qk,Ql,Qm,Qn,true_and,and_true,Qo,Qp,Qq,Qr,Qs,Qt,Qu,Qv,Qw,Qx,Qy,Qz,Ra,Rb,Rc,Rd,Re,Rf,Rg,Rh,Ri,Rj,Rk,Rm,Rn,Ro,Rp,Rq,Rt,Ya,Yb,Yc,Ru,Rw,Zb,Yd,Ye,Ry,Rz,Wa,Wb,Wc,Wd,We]
 generalize hs5:setObj s4 s1.next _=s5
 have g5:s5.heap.get s1.next=some (BL xx (.slice aa nn kk) (.slice bb mm ee) (.slice av (min vs.length 8) capv) (.slice none 0 (some 0))):=by rw[← hs5,Ww]
 have f5:∀j,j≠s1.next→s5.heap.get j=s4.heap.get j:=fun j hj=>by rw[← hs5,Wx _ hj]
 have n5:s5.next=s4.next:=by rw[← hs5];rfl
 have o15:Ae s.next s s5:=⟨by omega,fun j hj=>by rw[f5 j (by omega),o14.2 j hj]⟩
 refine Yu hE (s:=s5) (s0:=s0) (p1:=s.next) (p3:=s1.next) hcs hs0 (by omega) (fun S cv D O y4 y5 hS hf hn3 gS hF hO hD=>?_) ((f5 s.next (by omega)).trans k1) 8 0 s5 _ [] [] _ rfl (by omega) rfl (o0.trans (o15.mono hs0)) (fun _ _=>rfl) (by omega) g5 (GD.nil _ _) (fun j h=>by simp at h)
 obtain⟨a9,cap9,rfl,hr9,hz9⟩:=hF.rats hS
 have lS:=AG (P:=Tryz.prog) (t:=30) B6 Bp gS rfl
 have gz:S.heap.get (s.next+1)=some ZL:=by
  rw[hf _ (by omega),f5 _ (by omega),o4.2 _ (by omega),o3.2 _ (by omega)]
  exact g2
 obtain⟨st9,ld9⟩:=CF (cs0:=[.bool false,.slice none 0 (some 0),.slice none 0 (some 0),.slice none 0 (some 0),.slice none 0 (some 0)]) rfl (x:=xx) (a:=aa) (n:=nn) (c:=kk) (b:=bb) (m:=mm) (d:=ee) (av:=av) (nv:=min vs.length 8) (cv:=capv) (ac:=a9) (nc:=(D.map fun t=>t.2.1).length) (cc:=cap9) gz
 simp only[oI,if_true,lS,st9,ld9,AO,Xy,Za,Qa,Qb,Qc,Qd,Qe,Qf,Qg,Qh,Qi,Qj,Qk,Ql,Qm,Qn,true_and,and_true,Qo,Qp,Qq,Qr,Qs,Qt,Qu,Qv,Qw,Qx,Qy,Qz,Ra,Rb,Rc,Rd,Re,Rf,Rg,Rh,Ri,Rj,Rk,Rm,Rn,Ro,Rp,Rq,Rt,Ya,Yb,Yc,Ru,Rw,Zb,Yd,Ye,Ry,Rz,Wa,Wb,Wc,Wd,We]
 generalize hs8:setObj S (s.next+1) _=s8
 have oS:Ae s.next s S:=⟨by have:=hn3;omega,fun j hj=>by rw[hf j (by omega)];exact o15.2 j hj⟩
 have o8:Ae s.next s s8:=by rw[← hs8];exact oS.set (by omega) _
 have hzO:s.next+1 ∉ O:=fun h=>by have:=hO _ h;omega
 have hF8:GD s0 s8 (.slice a9 (D.map fun t=>t.2.1).length cap9) D O:=hF.frame (by rw[← hs8];exact qw _) fun j hj=>by rw[← hs8,Wx _ (by rintro rfl;exact hzO hj)]
 have hlen:(vs.take 8).length=min vs.length 8:=by rw[rR];omega
 refine hK s8 _ q (vs.take 8) (D.map fun t=>t.2.1) o8 (fun s'' hn'' hf''=>?_) (by omega) (by simpa using hD)
 have h08:=o8.1
 have o'':Ae s0.next s0 s'':=⟨by omega,fun j hj=>by rw[hf'' j (by omega) (.inl hj),o8.2 j (by omega),o0.2 j hj]⟩
 have hF9:GD s0 s'' (.slice a9 (D.map fun t=>t.2.1).length cap9) D O:=hF8.frame hn'' fun j hj=>hf'' j (hF8.buf.lt j hj) (.inr (by have:=hO j hj;omega))
 obtain⟨a9',cap9',e9,hr8,hz8⟩:=hF9.rats o''
 injection e9 with e9 _ e9'
 subst e9;subst e9'
 refine⟨xx,aa,nn,kk,bb,mm,ee,av,capv,a9,cap9,CM D,by rw[hlen],hw.old o'',?_,fun z hz=>hi z (List.take_subset _ _ hz),hr8,by rw[hlen];exact(hcap0.less (by omega)).old o'',hz8⟩
 rw[List.map_take]
 exact RN ((hvs0.old o'' (qw _)).mono o''.1) 8
end
theorem M1{s:AE}{e sz:Nat}{a:Option (Nat×Nat)}{cap:Option Nat}{n:Nat}{cs:List AV}(h:AZ s.next s a cs)(hl:cs.length=n * sz)(h0:0<sz):CT Tryz.prog s e sz (.slice a n cap)=some (n,cs):=by
 rcases sE n with rfl | hn
 ·have:cs=[]:=tQ (by omega)
  subst this
  cases a with
  | none=>rfl
  | some io=>obtain⟨i,o⟩:=io;rfl
 ·have hp:0<n * sz:=sW hn h0
  obtain⟨i,o,rfl,_,_⟩:=h 0 cs[0] (qy (by omega))
  have hld:=IU (o:=s.heap.get i) cs o (fun j u hj=>by
   obtain⟨i',o',e,_,h3⟩:=h j u hj
   injection e with e
   injection e with e1 e2
   subst e1;subst e2
   exact h3) (by intro e;rw[e]at hl;simp at hl;omega)
  rw[hl]at hld
  show(MC s i o n sz).bind _=_
  rw[show MC s i o n sz=B9 s i o (n * sz)from by unfold MC;rw[ED (show n≠0 by omega)];rfl,IS,hld]
  rfl
theorem Zp(x:Bool)(a b av ac:Option (Nat×Nat))(n m nv nc:Nat)(c d cv cc:Option Nat)(x':Bool)(a' b' av' ac':Option (Nat×Nat))(n' m' nv' nc':Nat)(c' d' cv' cc':Option Nat):
  Af Tryz.prog 46 2 (zipIdx [0,1] [.agg [.bool x,.slice a n c,.slice b m d,.slice av nv cv,.slice ac nc cc],.agg [.bool x',.slice a' n' c',.slice b' m' d',.slice av' nv' cv',.slice ac' nc' cc']]) =
   some (R 30 5 false [.bool x,.slice a n c,.slice b m d,.slice av nv cv,.slice ac nc cc,.bool x',.slice a' n' c',.slice b' m' d',.slice av' nv' cv',.slice ac' nc' cc']):=by kernel_rfl
section
variable{E:CR}{s:AE}
theorem kC(hE:DP E){vl:AV}{C:Rat}{vs:List Int}{cs:List Rat}(hl:LI s vl C vs cs 3)(hM:min cs.length vs.length≤8){vars:List Int}{wals:List Rat}{av ac:Option (Nat×Nat)}{cv cc:Option Nat}{cells:List AV}(hcv:AZ s.next s av (vars.map iv))(hrat:Dw s ac wals 3 cells)(hvl:vars.length≤1000000000)
  {K:AV→AE→Prop} (hK:∀s' w,Ae s.next s s'→QR s.next s' w (C+Nr (Jw vars wals) vs cs)→QH (C+Nr (Jw vars wals) vs cs) 500→K w s'):WF E 13 [vl,.slice av vars.length cv,.slice ac wals.length cc] K s:=by
 generalize hM':min cs.length vs.length=M at hM
 have h1:(M+1) * (3+2)≤9 * (3+2):=rF _ (by omega)
 have h2:(M+2) * (1+(M+1) * (3+2)+3+1)≤10 * (1+9 * (3+2)+3+1):=rW (by omega) (by omega)
 have h3:M * (1+(M+1) * (3+2)+3+1)≤8 * (1+9 * (3+2)+3+1):=rW (by omega) (by omega)
 exact nI hE hl (by omega) hM' hcv hrat hvl (by omega) rfl (by omega) fun s' w o h q=>hK s' w o h (q.le (by omega))
theorem bC{T:List CD}{k:Nat}(h:T.length≤k):min ((Ba T).map (·.2)).length ((Ba T).map (·.1)).length≤k:=by
 have:=IG T
 rw[sO,sO]
 omega
end
theorem JB{s s':AE}{t:TypeId}{b:Bool}(ht:Dx Tryz.prog t=some b){i o:Nat}{v:AV}(o1:Ae s.next s s')(hi:i<s.next)(h:AA Tryz.prog s t (.ptr (some (i,o)))=some v):AA Tryz.prog s' t (.ptr (some (i,o)))=some v:=by
  cases b
  · rw [Wf ht] at h ⊢
    rw[o1.2 i hi];exact h
  · rw [Wg ht] at h ⊢
    rw[o1.2 i hi];exact h
theorem Zm:Af Tryz.prog 27 0 (zipIdx [] [])=some (R 3 1 false []):=by kernel_rfl
theorem cE(l:List Int):Au (l.map iv)=true:=by
 induction l with
 | nil=>rfl
 | cons x l ih=>show((iv x).isCell && Au (l.map iv))=true;rw[ih];rfl
theorem SC{s:AE}{i e sz:Nat}{sp:Bool}{cs:List AV}(hg:s.heap.get i=some (R e sz sp cs)):B9 s i 0 cs.length=some cs:=by
 rw[IS,hg,Wp (by omega)]
 simp
theorem CO.row{s:AE}{i e sz n:Nat}{cs:List AV}(hi:i<s.next)(hg:s.heap.get i=some (R e sz false cs))(hl:cs.length=n * sz):CO e s (.slice (some (i,0)) n (some n)) n sz cs []:=
 .inl ⟨some (i,0),rfl,rfl,hl,fun h=>(by cases h),fun i' o' h=>by
  injection h with h
  injection h with h1 h2
  subst h1;subst h2
  exact⟨hi,by rw[← hl];exact SC hg⟩⟩
section
variable{E:CR}{s:AE}
end
theorem Y7(i o:Nat):AK Tryz.prog 31 (.ptr (some (i,o))) (.int .i64 0)=some (.ptr (some (i,o+0))):=by kernel_rfl
theorem Y8(i o:Nat):AK Tryz.prog 31 (.ptr (some (i,o))) (.int .i64 1)=some (.ptr (some (i,o+5))):=by kernel_rfl
section
variable{E:CR}{s:AE}
end
theorem LA.shape{s:AE}{v:AV}(h:LA s v):∃x a n c b m d av nv capv ac nc capc,v=.agg [.bool x,.slice a n c,.slice b m d,.slice av nv capv,.slice ac nc capc]:=by
 obtain⟨x,a,n,c,b,m,d,av,vs,capv,ac,nc,capc,cells,h1,h2⟩:=h
 exact⟨_,_,_,_,_,_,_,_,_,_,_,_,_,h1⟩
section
variable{E:CR}{s:AE}
end
theorem aW{t e:TypeId}{n:Nat}(ht:Tryz.prog.underlying t=some (.array n e)){W:World}{base:Nat}{v:Value}(h:Value.okWide Tryz.prog W .any base t v){ρ:BD}{us:List AV}(hr:AT ρ us v.cells.toList):AY ρ (.agg us) v:=by
 unfold Value.okWide at h
 rw[ht]at h
 obtain⟨cs,rfl,_⟩:=h
 exact .agg hr
theorem YT{P:Program}{W:World}{base:Nat}{u:TypeId}{a:Addr}(h:Cell.okWide P W .any base u (.slice (some a) 0 0)):0<W.heap.size:=by
 unfold Cell.okWide at h
 have h':Cell.ok P W .any base u (.slice (some a) 0 0):=by
  split at h<;>first | exact h | (rename_i e;cases e) | skip
 unfold Cell.ok at h'
 split at h'<;>first | (exact h'.elim) | skip
 all_goals (rename_i e1 e2;first | (cases e2;done) | skip)
 all_goals (first | (injection e2 with q1 q2 q3;injection q1 with q1;subst q1) | skip)
 all_goals
  obtain⟨_,_,_,_,row,cells,hs,_⟩:=h'
  unfold World.shape? at hs
  cases hb:W.heap[a.block]? with
  | none=>rw[hb]at hs;cases hs
  | some o =>
   rcases qz a.block W.heap.size with h' | h'
   ·omega
   ·rw[Array.getElem?_eq_none h']at hb;cases hb
theorem aU{t e:TypeId}{n:Nat}(ht:Tryz.prog.underlying t=some (.array n e)){W:World}{base:Nat}{v:Value}(h:Value.okWide Tryz.prog W .any base t v)(a:Addr)(ha:.slice (some a) 0 0∈v.cells.toList):0<W.heap.size:=by
 unfold Value.okWide at h
 rw[ht]at h
 obtain⟨cs,rfl,_,ts,_,_,h5⟩:=h
 obtain⟨i,hi⟩:=List.getElem?_of_mem ha
 have hi':cs[i]? = some (.slice (some a) 0 0):=by
  have:cs.toList[i]? = some (.slice (some a) 0 0):=hi
  simpa using this
 obtain⟨u,_,hu⟩:=h5 i _ hi'
 exact YT hu
def pU(_:AE)(us:List AV)(x:Nat):Prop:=us=[BV x]∧x<LB
theorem mT(s s':AE)(us:List AV)(x:Nat)(h:pU s us x)(_:Ae s.next s s'):pU s' us x:=h
def pJ(_:AE)(us:List AV)(x:Int):Prop:=us=[iv x]∧i64 x
theorem mR(s s':AE)(us:List AV)(x:Int)(h:pJ s us x)(_:Ae s.next s s'):pJ s' us x:=h
def pQ(s:AE)(us:List AV)(_:Unit):Prop:=QA s (.agg us)
theorem mS(s s':AE)(us:List AV)(x:Unit)(h:pQ s us x)(o:Ae s.next s s'):pQ s' us x:=QA.old h o
def pL(s:AE)(us:List AV)(_:Unit):Prop:=LA s (.agg us)
theorem bE{s:AE}{a:Option (Nat×Nat)}{cap:Option Nat}{n sz:Nat}(h:dJ s a cap n sz):GL sz s a cap n:=by
 rcases h with h | ⟨rfl,rfl,i,r,h3,h4,h5,h6⟩
 ·exact .inl h
 ·exact .inr ⟨rfl,i,0,r,h3,h4,h5,h6,by omega⟩
theorem My{α:Type}{p:AE→List AV→α→Prop}{s:AE}{us:List AV}{xs:List α}(h:Ff p 1 s us xs)(f:α→AV)(hp:∀vs x,p s vs x→vs=[f x]):
  ∃a cap,us=[.slice a xs.length cap]∧GL 1 s a cap xs.length∧AZ s.next s a (xs.map f):=by
 obtain⟨a,cap,h1,h2,h3,h4⟩:=h
 refine⟨a,cap,h1,bE h3,fun k u hu=>?_⟩
 rw[sF]at hu
 cases hx:xs[k]? with
 | none=>rw[hx]at hu;cases hu
 | some x =>
  rw[hx]at hu
  injection hu with hu
  subst hu
  obtain⟨i,o,vs,g1,g2,_,g4,g5⟩:=h4 k x hx
  rw[hp _ _ g5]at g4
  have:=g4 0 _ rfl
  simp only[rG,rO]at this
  exact⟨i,o,g1,g2,this⟩
theorem Mz{α:Type}{p:AE→List AV→α→Prop}{s:AE}{us:List AV}{xs:List α}{sz:Nat}(h:Ff p sz s us xs){x:α}(hx:x∈xs):∃vs,p s vs x:=by
 obtain⟨a,cap,h1,h2,h3,h4⟩:=h
 obtain⟨k,hk⟩:=List.mem_iff_getElem?.1 hx
 obtain⟨i,o,vs,_,_,_,_,g5⟩:=h4 k x hk
 exact⟨vs,g5⟩
theorem Pd{s:AE}{us:List AV}{xs:List Nat}(h:Ff pU 1 s us xs):∃v,us=[v]∧C7 s v xs∧Bv xs:=by
  obtain⟨a,cap,rfl,h1,h2⟩:=My h BV fun vs x hx=>hx.1
  refine⟨_,rfl,⟨a,cap,rfl,?_,h2⟩,fun x hx=>?_⟩
  · rcases h1 with h1 | ⟨h1, i, o, r, h3, h4, h5, h6, h7⟩
    · exact .inl h1
    · exact .inr ⟨h1,i,o,r,h3,h4,h5,h6,by omega⟩
  · obtain⟨vs,hv⟩:=Mz h hx
    exact hv.2
theorem ints_at{s:AE}{us:List AV}{xs:List Int}(h:Ff pJ 1 s us xs):∃a cap,us=[.slice a xs.length cap]∧GL 1 s a cap xs.length∧AZ s.next s a (xs.map iv)∧∀n∈xs,i64 n:=by
 obtain⟨a,cap,rfl,h1,h2⟩:=My h iv fun vs x hx=>hx.1
 exact⟨a,cap,rfl,h1,h2,fun x hx=>by obtain⟨vs,hv⟩:=Mz h hx;exact hv.2⟩
theorem cV{s:AE}{us:List AV}{xs:List Unit}(h:Ff pQ 3 s us xs):∃a cap cells,us=[.slice a xs.length cap]∧JT s a xs.length cells:=by
 obtain⟨a,cap,h1,h2,h3,h4⟩:=h
 have key:∀k,∃vs:List AV,k<xs.length→vs.length=3∧QA s (.agg vs)∧∃i o,a=some (i,o)∧i<s.next∧∀j u,vs[j]? = some u→Cm s i (o+k * 3+j)=some u:=by
  intro k
  by_cases hk:k<xs.length
  ·obtain⟨i,o,vs,g1,g2,g3,g4,g5⟩:=h4 k xs[k] (qy hk)
   exact⟨vs,fun _=>⟨g3,g5,i,o,g1,g2,g4⟩⟩
  ·exact⟨[],fun h=>absurd h hk⟩
 let f:Nat→List AV:=fun k=>Classical.choose (key k)
 have hf:∀k,k<xs.length→(f k).length=3∧QA s (.agg (f k))∧∃i o,a=some (i,o)∧i<s.next∧∀j u,(f k)[j]? = some u→Cm s i (o+k * 3+j)=some u:=fun k=>Classical.choose_spec (key k)
 let D:List CD:=(List.range xs.length).map fun k=>((0:Int),(0:Rat),AV.agg (f k))
 have hD:∀t∈D,t.2.2.cells.length=3:=fun t ht=>by
  obtain⟨k,hk,rfl⟩:=List.mem_map.1 ht
  exact(hf k (List.mem_range.1 hk)).1
 obtain⟨p1,p2⟩:=Ep D hD
 have hDk:∀k,k<xs.length→D[k]? = some ((0:Int),(0:Rat),AV.agg (f k)):=fun k hk=>by
  show((List.range xs.length).map _)[k]? = _
  rw[sF,tO hk];rfl
 have hDl:D.length=xs.length:=by show((List.range xs.length).map _).length=_;simp
 have hpt:∀k,k<xs.length→((CM D).drop (k * 3)).take 3=f k:=fun k hk=>p2 k _ (hDk k hk)
 refine⟨a,cap,CM D,h1,by rw[p1,hDl],fun j u hj=>?_,fun k hk=>by rw[hpt k hk];exact(hf k hk).2.1⟩
 have hjl:j<xs.length * 3:=by
  rcases qz j (CM D).length with h' | h'
  ·rw[p1,hDl]at h';exact h'
  ·rw[rI h']at hj;cases hj
 have hk:j / 3<xs.length:=by omega
 obtain⟨_,_,i,o,e1,e2,e3⟩:=hf (j / 3) hk
 have hg:(f (j / 3))[j % 3]? = some u:=by
  rw[← hpt (j / 3) hk,sS (by omega),sJ,show j / 3 * 3+j % 3=j by omega]
  exact hj
 have:=e3 _ _ hg
 rw[show o+j / 3 * 3+j % 3=o+j by omega]at this
 exact⟨i,o,e1,e2,this⟩
section
variable{H:Type}{enc:TypeId×Value→H}{w:World}{held:Bool}
theorem coU:Tryz.prog.cellsOf 76=1:=by kernel_rfl
theorem oQ:Tryz.prog.cellsOf 22=1:=by kernel_rfl
theorem coB:Tryz.prog.cellsOf 4=1:=by kernel_rfl
theorem coJ:Tryz.prog.cellsOf 3=1:=by kernel_rfl
theorem pP:Tryz.prog.cellsOf 27=1:=by kernel_rfl
theorem coI:Tryz.prog.cellsOf 24=2:=by kernel_rfl
theorem pT:Tryz.prog.cellsOf 26=3:=by kernel_rfl
theorem pV:Tryz.prog.cellsOf 28=1:=by kernel_rfl
theorem pR:Tryz.prog.cellsOf 30=5:=by kernel_rfl
theorem pS:Tryz.prog.cellsOf 31=10:=by kernel_rfl
theorem UT(n:Nat)(cs:List Value)(y:DataW H×List MemPlace)
  (h:DataW.trod enc Tryz.prog w 0 (fun _=>true) held n 76 cs=some y) (ρ:BD) (s:AE) (hd:FK Tryz.prog w ρ s):JQ Tryz.prog w pU cs ρ s:=by
 obtain⟨m,rfl,_,h3⟩:=DataW.trod_int Tryz.underlying76 h
 simp only[Lit.wf,Bool.and_eq_true,decide_eq_true_eq]at h3
 have h1:0≤m:=h3.1
 have h2:m≤4294967295:=h3.2
 obtain⟨k,rfl⟩:∃k:Nat,m=k:=⟨m.toNat,by omega⟩
 exact⟨ρ,s,[.int .u32 k],k,hd,BD.le_refl ρ,Ae.refl _ _,.cons (.int .u32 _) .nil,rfl,by show k<4294967296;omega⟩
theorem MQ(n:Nat)(cs:List Value)(y:DataW H×List MemPlace)
  (h:DataW.trod enc Tryz.prog w 0 (fun _=>true) held n 3 cs=some y) (ρ:BD) (s:AE) (hd:FK Tryz.prog w ρ s):JQ Tryz.prog w pJ cs ρ s:=by
 obtain⟨m,rfl,_,h3⟩:=DataW.trod_int Tryz.underlying3 h
 refine⟨ρ,s,[.int .i64 m],m,hd,BD.le_refl ρ,Ae.refl _ _,.cons (.int .i64 m) .nil,rfl,?_⟩
 simp only[Lit.wf,Bool.and_eq_true,decide_eq_true_eq]at h3
 have h1:-9223372036854775808≤m:=h3.1
 have h2:m≤9223372036854775807:=h3.2
 exact⟨h1,by omega⟩
theorem Jb{n:Nat}{cs:List Value}{y:DataW H×List MemPlace}(h:DataW.trod enc Tryz.prog w 0 (fun _=>true) held n 22 cs=some y)(hw:∀a,.slice (some a) 0 0∈cs→0<w.heap.size){ρ:BD}{s:AE}(hd:FK Tryz.prog w ρ s):JQ Tryz.prog w (Ff pU 1) cs ρ s:=
 GV mT Tryz.underlying22 coU (by decide) (fun _ n cs y h _=>UT n cs y h) h (fun a ha=>hw a (by rw[ha];exact List.mem_singleton.2 rfl)) hd
theorem MS{n:Nat}{cs:List Value}{y:DataW H×List MemPlace}(h:DataW.trod enc Tryz.prog w 0 (fun _=>true) held n 26 cs=some y)(hw:∀a,.slice (some a) 0 0∈cs→0<w.heap.size){ρ:BD}{s:AE}(hd:FK Tryz.prog w ρ s):JQ Tryz.prog w pQ cs ρ s:=by
 obtain⟨xs,m,_,rfl,h3,h4,h5⟩:=DataW.trod_struct Tryz.underlying26 h
 rw[pT]at h3
 have h4:xs.length=2:=h4
 match cs,h3,hw,h5 with
 | [c0,c1,c2],_,hw,h5 =>
  have e0:DataW.trod enc Tryz.prog w 0 (fun _=>true) held m 24 (([c0,c1,c2].drop 0).take (Tryz.prog.cellsOf 24))=xs[0]? := h5 0 _ rfl
  have e1:DataW.trod enc Tryz.prog w 0 (fun _=>true) held m 22 (([c0,c1,c2].drop 2).take (Tryz.prog.cellsOf 22))=xs[1]? := h5 1 _ rfl
  rw[coI,qy (show 0<xs.length by omega)]at e0
  rw[oQ,qy (show 1<xs.length by omega)]at e1
  obtain⟨ys,m',_,_,k3,k4,k5⟩:=DataW.trod_struct Tryz.underlying24 e0
  have k4:ys.length=2:=k4
  have f0:DataW.trod enc Tryz.prog w 0 (fun _=>true) held m' 4 (([c0,c1].drop 0).take (Tryz.prog.cellsOf 4))=ys[0]? := k5 0 _ rfl
  have f1:DataW.trod enc Tryz.prog w 0 (fun _=>true) held m' 22 (([c0,c1].drop 1).take (Tryz.prog.cellsOf 22))=ys[1]? := k5 1 _ rfl
  rw[coB,qy (show 0<ys.length by omega)]at f0
  rw[oQ,qy (show 1<ys.length by omega)]at f1
  obtain⟨b,q0,_⟩:=DataW.trod_bool Tryz.underlying4 f0
  injection q0 with q0
  subst q0
  obtain⟨ρ1,s1,us1,l1,g1,g2,g3,g4,g5⟩:=Jb (cs:=[c1]) f1 (fun a ha=>hw a (by simp at ha;simp[ha])) hd
  obtain⟨ρ2,s2,us2,l2,t1,t2,t3,t4,t5⟩:=Jb (cs:=[c2]) e1 (fun a ha=>hw a (by simp at ha;simp[ha])) g1
  obtain⟨u1,rfl,n1,sm1⟩:=Pd g5
  obtain⟨u2,rfl,n2,sm2⟩:=Pd t5
  refine⟨ρ2,s2,[.bool b,u1,u2],(),t1,BD.le_trans g2 t2,g3.trans (t3.mono g3.1),.cons (.bool b) ?_,b,u1,u2,l1,l2,rfl,n1.old t3,n2,sm1,sm2⟩
  cases g4 with
  | cons q1 _=>exact .cons (q1.mono t2) t4
theorem MR        {n : Nat} {cs : List Value} {y : DataW H × List MemPlace} (h : DataW.trod enc Tryz.prog w 0 (fun _ => true) held n 30 cs = some y) (hw : ∀ a, .slice (some a) 0 0 ∈ cs → 0 < w.heap.size) {ρ : BD}  {s : AE}  (hd : FK   Tryz.prog w ρ s) : JQ    Tryz.prog w pL cs ρ s := by
  obtain⟨xs,m,_,rfl,h3,h4,h5⟩:=DataW.trod_struct Tryz.underlying30 h
  rw[pR]at h3
  have h4:xs.length=3:=h4
  match cs,h3,hw,h5 with
  | [c0,c1,c2,c3,c4],_,hw,h5 =>
    have e0:DataW.trod enc Tryz.prog w 0 (fun _=>true) held m 26 (([c0,c1,c2,c3,c4].drop 0).take (Tryz.prog.cellsOf 26))=xs[0]? := h5 0 _ rfl
    have e1:DataW.trod enc Tryz.prog w 0 (fun _=>true) held m 27 (([c0,c1,c2,c3,c4].drop 3).take (Tryz.prog.cellsOf 27))=xs[1]? := h5 1 _ rfl
    have e2:DataW.trod enc Tryz.prog w 0 (fun _=>true) held m 28 (([c0,c1,c2,c3,c4].drop 4).take (Tryz.prog.cellsOf 28))=xs[2]? := h5 2 _ rfl
    rw[pT,qy (show 0<xs.length by omega)]at e0
    rw[pP,qy (show 1<xs.length by omega)]at e1
    rw[pV,qy (show 2<xs.length by omega)]at e2
    obtain⟨ρ1,s1,us1,x1,g1,g2,g3,g4,g5⟩:=MS (cs:=[c0,c1,c2]) e0 (fun a ha=>hw a (by simp at ha;rcases ha with ha | ha | ha<;>simp[ha])) hd
    obtain⟨ρ2,s2,us2,l2,t1,t2,t3,t4,t5⟩:=GV (cs:=[c3]) mR Tryz.underlying27 coJ (by decide) (fun _ n cs y h _=>MQ n cs y h) e1 (fun a ha=>hw a (by simp at ha;simp[ha])) g1
    obtain⟨ρ3,s3,us3,l3,r1,r2,r3,r4,r5⟩:=GV (cs:=[c4]) mS Tryz.underlying28 pT (by decide) (fun hpos n cs y h _ ρ s hd=>MS h (fun _ _=>hpos) hd) e2 (fun a ha=>hw a (by simp at ha;simp[ha])) t1
    obtain⟨neg,mm,dd,lm,ld,e,q1,q2,q3,q4⟩:=g5
    injection e with e
    subst e
    obtain⟨av,capv,rfl,z1,z2,z3⟩:=ints_at t5
    obtain⟨ac,capc,cells,rfl,hra⟩:=cV r5
    obtain⟨xa,na,ka,ea⟩:=q1.shape
    obtain⟨xb,nb,kb,eb⟩:=q2.shape
    subst ea;subst eb
    have o23:Ae s1.next s1 s3:=t3.trans (r3.mono t3.1)
    refine⟨ρ3,s3,[.bool neg,.slice xa na ka,.slice xb nb kb,.slice av l2.length capv,.slice ac l3.length capc],(),r1,BD.le_trans g2 (BD.le_trans t2 r2),g3.trans (o23.mono g3.1),?_,?_⟩
    · cases g4 with
      | cons w1 w2 =>
      cases w2 with
      | cons w2 w3 =>
      cases w3 with
      | cons w3 w4 =>
      cases t4 with
      | cons w5 _ =>
        have h23:=BD.le_trans t2 r2
        exact .cons (w1.mono h23) (.cons (w2.mono h23) (.cons (w3.mono h23) (.cons (w5.mono r2) r4)))
    · exact⟨neg,xa,na,ka,xb,nb,kb,av,l2,capv,ac,l3.length,capc,cells,rfl,⟨neg,_,_,lm,ld,rfl,q1.old o23,q2.old o23,q3,q4⟩,(z2.old r3 (qw _)).mono r3.1,z3,z1.old r3,hra⟩
theorem PI{n:Nat}{cs:List Value}{y:DataW H×List MemPlace}(h:DataW.trod enc Tryz.prog w 0 (fun _=>true) held n 31 cs=some y)(hw:∀a,.slice (some a) 0 0∈cs→0<w.heap.size){ρ:BD}{s:AE}(hd:FK Tryz.prog w ρ s):
  ∃ρ' s' ca cb,FK Tryz.prog w ρ' s'∧ρ.le ρ'∧Ae s.next s s'∧AT ρ' (ca++cb) cs∧LA s' (.agg ca)∧LA s' (.agg cb):=by
 obtain⟨xs,m,_,rfl,h3,h4,h5⟩:=DataW.trod_array Tryz.underlying31 h
 rw[pS]at h3
 have e0:=h5 0 (by omega)
 have e1:=h5 1 (by omega)
 rw[pR,qy (show 0<xs.length by omega)]at e0
 rw[pR,qy (show 1<xs.length by omega)]at e1
 rw[sN,sM]at e0
 rw[sV]at e1
 have hsplit:cs=cs.take 5++(cs.drop 5).take 5:=by
  have:(cs.drop 5).take 5=cs.drop 5:=List.take_of_length_le (by rw[sC];omega)
  rw[this];exact(sw 5 cs).symm
 obtain⟨ρ1,s1,us1,x1,g1,g2,g3,g4,g5⟩:=MR e0 (fun a ha=>hw a (List.take_subset _ _ ha)) hd
 obtain⟨ρ2,s2,us2,x2,t1,t2,t3,t4,t5⟩:=MR e1 (fun a ha=>hw a (List.drop_subset _ _ (List.take_subset _ _ ha))) g1
 refine⟨ρ2,s2,us1,us2,t1,BD.le_trans g2 t2,g3.trans (t3.mono g3.1),?_,LA.old g5 t3,t5⟩
 rw[hsplit]
 exact(g4.mono t2).append t4
end
section
variable{H:Type}{enc:TypeId×Value→H}{W:World}{base:Nat}
end
end
end Go.Proofs.YtjnkfbpadpmakaaGreatDoor.Am
set_option linter.unusedVariables false
set_option linter.unusedSimpArgs false
set_option maxRecDepth 100000
namespace Go.Proofs.YtjnkfbpadpmakaaGreatDoor.Am
open Go Go.Proofs
noncomputable section
def eJ:List AB:=[
 ⟨none,.mk (fun l=>match l with | []=>Ac Tryz.prog 26 | _=>none),[],(.set 2),[]⟩]
def eK:List AB:=[
 ⟨none,.call 60,[.var 0],.push,[]⟩,
 ⟨none,.call 60,[.var 1],.push,[]⟩,
 ⟨none,.call 59,[.loc 1,.loc 0],.push,[]⟩,
 ⟨none,.p1 (fun x=>Zb x 0),[.loc 0],.push,[]⟩,
 ⟨none,.p1 (fun x=>Zb x 1),[.loc 1],.push,[]⟩,
 ⟨none,.mk (fun l=>match l with | []=>Ac Tryz.prog 26 | _=>none),[],(.set 3),[]⟩,
 ⟨none,.e (fun s=>Xy (fun a x=>Za (AM Tryz.prog s 26 a x))),[.var 3,.loc 1],.push,[]⟩,
 ⟨none,.p1 some,[.loc 1],.push,[]⟩]
def eL:List AB:=[
 ⟨none,.r1 (fun s a=>AA Tryz.prog s 26 a),[.var 3],.push,[]⟩,
 ⟨none,.e (fun s=>Xy (fun a x=>Za (AM Tryz.prog s 26 a x))),[.var 2,.loc 0],.push,[]⟩]
def qA:Aq:=⟨2,4,(.seq (.ops eJ) (.seq (.ops eK) (.seq (.ops eL) .ret))),[((.var 2),some 26)]⟩
def gt:List AB:=[
 ⟨none,.mk (fun l=>match l with | [v]=>Bf 24 v | _=>none),[.var 0],(.set 2),[]⟩,
 ⟨none,.mk (fun l=>match l with | [v]=>Bf 24 v | _=>none),[.var 1],(.set 3),[]⟩,
 ⟨none,.mk (fun l=>match l with | []=>Ac Tryz.prog 26 | _=>none),[],(.set 4),[]⟩,
 ⟨none,.p1 some,[(.const (.int .i64 (0)))],(.set 5),[]⟩]
def gv:List AB:=[
 ⟨none,.r1 (fun s a=>AA Tryz.prog s 24 a),[.var 3],.push,[]⟩,
 ⟨none,.call 100,[.loc 0],.push,[]⟩,
 ⟨none,.p2 (AS Tryz.prog .eql 3),[(.loc 0),(.const (.int .i64 (0)))],(.set 6),[]⟩]
def nl:List AB:=[
 ⟨none,.p (fun l=>B7 Tryz.prog 24 (zipIdx [] l)),[],.push,[]⟩,
 ⟨none,.call 99,[.loc 0],.push,[]⟩,
 ⟨none,.e (fun s=>Xy (fun a x=>Za (AM Tryz.prog s 26 a x))),[.var 4,.loc 0],.push,[]⟩,
 ⟨none,.p1 some,[(.const (.int .i64 (3)))],(.set 5),[]⟩]
def gw:List AB:=[
 ⟨none,.r1 (fun s a=>AA Tryz.prog s 24 a),[.var 3],.push,[]⟩,
 ⟨none,.call 100,[.loc 0],.push,[]⟩,
 ⟨none,.p2 (AS Tryz.prog .lss 3),[(.loc 0),(.const (.int .i64 (0)))],(.set 7),[]⟩]
def np:List AB:=[
 ⟨none,.r1 (fun s a=>AA Tryz.prog s 24 a),[.var 2],.push,[]⟩,
 ⟨none,.call 106,[.loc 0],.push,[]⟩,
 ⟨none,.e (fun s=>Xy (fun a x=>Za (AM Tryz.prog s 24 a x))),[.var 2,.loc 0],.push,[]⟩]
def gx:List AB:=[
 ⟨none,.r1 (fun s a=>AA Tryz.prog s 24 a),[.var 2],.push,[]⟩,
 ⟨none,.p1 (fun x=>AC Tryz.prog 24 x 1),[.var 3],.push,[]⟩,
 ⟨none,.r1 (fun s a=>AA Tryz.prog s 22 a),[.loc 0],.push,[]⟩,
 ⟨none,.call 92,[.loc 0],.push,[⟨none,.r1 (fun s a=>AA Tryz.prog s 24 a),[.var 2],(.loc 3)⟩]⟩,
 ⟨none,.call 70,[.loc 3,.loc 0],.push,[]⟩,
 ⟨none,.e (fun s=>Xy (fun a x=>Za (AM Tryz.prog s 26 a x))),[.var 4,.loc 0],.push,[]⟩,
 ⟨none,.p1 some,[(.const (.int .i64 (0)))],(.set 5),[]⟩]
def qX:Aq:=⟨2,8,(.seq (.ops gt) (.seq (.seq (.ops gv) (.cond (.var 6)
 (.seq (.ops nl) .ret)
 .skip)) (.seq (.seq (.ops gw) (.cond (.var 7)
 (.ops np)
 .skip)) (.seq (.ops gx) .ret)))),[((.var 4),some 26),((.var 5),none)]⟩
def gn:List AB:=[
 ⟨none,.mk (fun l=>match l with | [v]=>Bf 26 v | _=>none),[.var 0],(.set 1),[]⟩,
 ⟨none,.mk (fun l=>match l with | []=>Ac Tryz.prog 26 | _=>none),[],(.set 2),[]⟩]
def gr:List AB:=[
 ⟨none,.p1 (fun x=>AC Tryz.prog 26 x 0),[.var 1],.push,[]⟩,
 ⟨none,.p1 (fun x=>AC Tryz.prog 24 x 0),[.loc 0],.push,[]⟩,
 ⟨none,.r1 (fun s a=>AA Tryz.prog s 4 a),[.loc 0],.push,[]⟩,
 ⟨none,.mk (fun l=>(Af Tryz.prog 22 0 (zipIdx [] l)).bind fun r=>some (r,.slice 0)),[],.push,[]⟩,
 ⟨none,.p1 (fun x=>AC Tryz.prog 26 x 0),[.var 1],.push,[]⟩,
 ⟨none,.p1 (fun x=>AC Tryz.prog 24 x 1),[.loc 0],.push,[]⟩,
 ⟨none,.r1 (fun s a=>AA Tryz.prog s 22 a),[.loc 0],.push,[]⟩,
 ⟨none,.mk (fun l=>(Af Tryz.prog 22 0 (zipIdx [] l)).bind fun r=>some (r,.slice 0)),[],.push,[]⟩,
 ⟨none,.p1 (fun x=>AC Tryz.prog 26 x 1),[.var 1],.push,[]⟩,
 ⟨none,.r1 (fun s a=>AA Tryz.prog s 22 a),[.loc 0],.push,[]⟩,
 ⟨none,.e (fun s l=>Aw Tryz.prog s [22,22] l),[.loc 6,.loc 3],.push,[⟨none,.r1 (fun s a=>AA Tryz.prog s 22 a),[.loc 2],(.loc 1)⟩,⟨none,.r1 (fun s a=>AA Tryz.prog s 4 a),[.loc 9],(.loc 8)⟩]⟩,
 ⟨none,.p (fun l=>B7 Tryz.prog 24 (zipIdx [0,1] l)),[.loc 8,.loc 0],.push,[]⟩,
 ⟨none,.e (fun s l=>Aw Tryz.prog s [22,22] l),[.loc 4,.loc 2],.push,[⟨none,.r1 (fun s a=>AA Tryz.prog s 4 a),[.loc 11],(.loc 10)⟩]⟩,
 ⟨none,.p (fun l=>B7 Tryz.prog 26 (zipIdx [0,1] l)),[.loc 1,.loc 0],.push,[]⟩,
 ⟨none,.e (fun s=>Xy (fun a x=>Za (AM Tryz.prog s 26 a x))),[.var 2,.loc 0],.push,[]⟩]
def qW:Aq:=⟨1,3,(.seq (.ops gn) (.seq (.ops gr) .ret)),[((.var 2),some 26)]⟩
def eC:List AB:=[
 ⟨none,.mk (fun l=>match l with | [v]=>Bf 30 v | _=>none),[.var 0],(.set 1),[]⟩,
 ⟨none,.mk (fun l=>match l with | []=>Ac Tryz.prog 30 | _=>none),[],(.set 2),[]⟩]
def eE:List AB:=[
 ⟨none,.p1 (fun x=>AC Tryz.prog 30 x 0),[.var 1],.push,[]⟩,
 ⟨none,.r1 (fun s a=>AA Tryz.prog s 26 a),[.loc 0],.push,[]⟩,
 ⟨none,.mk (fun l=>(Af Tryz.prog 27 0 (zipIdx [] l)).bind fun r=>some (r,.slice 0)),[],.push,[]⟩,
 ⟨none,.p1 (fun x=>AC Tryz.prog 30 x 1),[.var 1],.push,[]⟩,
 ⟨none,.r1 (fun s a=>AA Tryz.prog s 27 a),[.loc 0],.push,[]⟩,
 ⟨none,.mk (fun l=>match l with | []=>Ac Tryz.prog 30 | _=>none),[],(.set 3),[]⟩,
 ⟨none,.call 58,[.loc 3],.push,[⟨none,.r1 (fun s a=>AA Tryz.prog s 27 a),[.loc 2],(.loc 1)⟩]⟩,
 ⟨none,.e (fun s l=>Aw Tryz.prog s [27,27] l),[.loc 3,.loc 1],.push,[]⟩,
 ⟨none,.p (fun l=>B7 Tryz.prog 30 (zipIdx [0,1] l)),[.loc 1,.loc 0],.push,[]⟩,
 ⟨none,.e (fun s=>Xy (fun a x=>Za (AM Tryz.prog s 30 a x))),[.var 3,.loc 0],.push,[]⟩]
def eF:List AB:=[
 ⟨none,.p1 some,[(.const (.int .i64 (0)))],(.set 4),[]⟩]
def XD:List AB:=[
 ⟨none,.p1 (fun x=>AC Tryz.prog 30 x 2),[.var 1],.push,[]⟩,
 ⟨none,.r1 (fun s a=>AA Tryz.prog s 28 a),[.loc 0],.push,[]⟩,
 ⟨none,.r (fun s l=>match l with | [x]=>BN Tryz.prog s 28 x | _=>none),[.loc 0],.push,[]⟩,
 ⟨none,.p2 (AS Tryz.prog .lss 3),[.var 4,.loc 0],(.set 5),[]⟩]
def eG:List AB:=[
 ⟨none,.p1 (fun x=>AC Tryz.prog 30 x 2),[.var 3],.push,[]⟩,
 ⟨none,.r1 (fun s a=>AA Tryz.prog s 28 a),[.loc 0],.push,[]⟩,
 ⟨none,.p1 (fun x=>AC Tryz.prog 30 x 2),[.var 1],.push,[]⟩,
 ⟨none,.r1 (fun s a=>AA Tryz.prog s 28 a),[.loc 0],.push,[]⟩,
 ⟨none,.p2 (AK Tryz.prog 28),[.loc 0,.var 4],.push,[]⟩,
 ⟨none,.r1 (fun s a=>AA Tryz.prog s 26 a),[.loc 0],.push,[]⟩,
 ⟨none,.call 58,[.loc 0],.push,[⟨none,.r1 (fun s a=>AA Tryz.prog s 28 a),[.loc 6],(.loc 5)⟩]⟩,
 ⟨none,.mk (fun l=>(Af Tryz.prog 28 1 (zipIdx [0] l)).bind fun r=>some (r,.slice 1)),[.loc 0],.push,[]⟩,
 ⟨none,.e (fun s l=>Aw Tryz.prog s [28,28] l),[.loc 6,.loc 0],.push,[]⟩,
 ⟨none,.p1 (fun x=>AC Tryz.prog 30 x 2),[.var 3],.push,[]⟩,
 ⟨none,.e (fun s=>Xy (fun a x=>Za (AM Tryz.prog s 28 a x))),[.loc 0,.loc 1],.push,[]⟩]
def eH:List AB:=[
 ⟨none,.p1 some,[.var 4],.push,[]⟩,
 ⟨none,.p2 (AS Tryz.prog .add 3),[(.loc 0),(.const (.int .i64 (1)))],.push,[]⟩,
 ⟨none,.p1 some,[.loc 0],(.set 4),[]⟩]
def Om:Ad:=(.seq (.seq (.ops XD) (.cond (.var 5)
 .skip
 (.exit 0))) (.seq (.block 1 (.ops eG)) (.ops eH)))
def eI:List AB:=[
 ⟨none,.r1 (fun s a=>AA Tryz.prog s 30 a),[.var 3],.push,[]⟩,
 ⟨none,.e (fun s=>Xy (fun a x=>Za (AM Tryz.prog s 30 a x))),[.var 2,.loc 0],.push,[]⟩]
def pz:Aq:=⟨1,6,(.seq (.ops eC) (.seq (.ops eE) (.seq (.seq (.ops eF) (.block 0 (.loop Om))) (.seq (.ops eI) .ret)))),[((.var 2),some 30)]⟩
def em:List AB:=[
 ⟨none,.mk (fun l=>match l with | [v]=>Bf 26 v | _=>none),[.var 0],(.set 1),[]⟩]
def en:List AB:=[
 ⟨none,.p1 some,[(.const (.int .i64 (0)))],(.set 2),[]⟩]
def TB:List AB:=[
 ⟨none,.p1 (fun x=>AC Tryz.prog 26 x 0),[.var 1],.push,[]⟩,
 ⟨none,.p1 (fun x=>AC Tryz.prog 24 x 1),[.loc 0],.push,[]⟩,
 ⟨none,.r1 (fun s a=>AA Tryz.prog s 22 a),[.loc 0],.push,[]⟩,
 ⟨none,.r (fun s l=>match l with | [x]=>BN Tryz.prog s 22 x | _=>none),[.loc 0],.push,[]⟩,
 ⟨none,.p2 (AS Tryz.prog .lss 3),[.var 2,.loc 0],(.set 4),[]⟩]
def ep:List AB:=[
 ⟨none,.p1 (fun x=>AC Tryz.prog 26 x 0),[.var 1],.push,[]⟩,
 ⟨none,.p1 (fun x=>AC Tryz.prog 24 x 1),[.loc 0],.push,[]⟩,
 ⟨none,.r1 (fun s a=>AA Tryz.prog s 22 a),[.loc 0],.push,[]⟩,
 ⟨none,.p1 (fun x=>AC Tryz.prog 26 x 0),[.var 1],.push,[]⟩,
 ⟨none,.p1 (fun x=>AC Tryz.prog 24 x 1),[.loc 0],.push,[]⟩,
 ⟨none,.r1 (fun s a=>AA Tryz.prog s 22 a),[.loc 0],.push,[]⟩,
 ⟨none,.p2 (AK Tryz.prog 22),[.loc 0,.var 2],.push,[]⟩,
 ⟨none,.r1 (fun s a=>AA Tryz.prog s 76 a),[.loc 0],.push,[]⟩,
 ⟨none,.p2 (AS Tryz.prog .add 76),[(.loc 0),(.const (.int .u32 (1)))],.push,[]⟩,
 ⟨none,.p2 (AK Tryz.prog 22),[.loc 6,.var 2],.push,[]⟩,
 ⟨none,.e (fun s=>Xy (fun a x=>Za (AM Tryz.prog s 76 a x))),[.loc 0,.loc 1],.push,[]⟩]
def eq:List AB:=[
 ⟨none,.p1 some,[.var 2],.push,[]⟩,
 ⟨none,.p2 (AS Tryz.prog .add 3),[(.loc 0),(.const (.int .i64 (1)))],.push,[]⟩,
 ⟨none,.p1 some,[.loc 0],(.set 2),[]⟩]
def JW:Ad:=(.seq (.seq (.ops TB) (.cond (.var 4)
 .skip
 (.exit 0))) (.seq (.block 1 (.ops ep)) (.ops eq)))
def er:List AB:=[
 ⟨none,.p1 some,[(.const (.int .i64 (0)))],(.set 3),[]⟩]
def TC:List AB:=[
 ⟨none,.p1 (fun x=>AC Tryz.prog 26 x 1),[.var 1],.push,[]⟩,
 ⟨none,.r1 (fun s a=>AA Tryz.prog s 22 a),[.loc 0],.push,[]⟩,
 ⟨none,.r (fun s l=>match l with | [x]=>BN Tryz.prog s 22 x | _=>none),[.loc 0],.push,[]⟩,
 ⟨none,.p2 (AS Tryz.prog .lss 3),[.var 3,.loc 0],(.set 5),[]⟩]
def fA:List AB:=[
 ⟨none,.p1 (fun x=>AC Tryz.prog 26 x 1),[.var 1],.push,[]⟩,
 ⟨none,.r1 (fun s a=>AA Tryz.prog s 22 a),[.loc 0],.push,[]⟩,
 ⟨none,.p1 (fun x=>AC Tryz.prog 26 x 1),[.var 1],.push,[]⟩,
 ⟨none,.r1 (fun s a=>AA Tryz.prog s 22 a),[.loc 0],.push,[]⟩,
 ⟨none,.p2 (AK Tryz.prog 22),[.loc 0,.var 3],.push,[]⟩,
 ⟨none,.r1 (fun s a=>AA Tryz.prog s 76 a),[.loc 0],.push,[]⟩,
 ⟨none,.p2 (AS Tryz.prog .add 76),[(.loc 0),(.const (.int .u32 (1)))],.push,[]⟩,
 ⟨none,.p2 (AK Tryz.prog 22),[.loc 5,.var 3],.push,[]⟩,
 ⟨none,.e (fun s=>Xy (fun a x=>Za (AM Tryz.prog s 76 a x))),[.loc 0,.loc 1],.push,[]⟩]
def fB:List AB:=[
 ⟨none,.p1 some,[.var 3],.push,[]⟩,
 ⟨none,.p2 (AS Tryz.prog .add 3),[(.loc 0),(.const (.int .i64 (1)))],.push,[]⟩,
 ⟨none,.p1 some,[.loc 0],(.set 3),[]⟩]
def GQ:Ad:=(.seq (.seq (.ops TC) (.cond (.var 5)
 .skip
 (.exit 2))) (.seq (.block 3 (.ops fA)) (.ops fB)))
def qF:Aq:=⟨1,6,(.seq (.ops em) (.seq (.seq (.ops en) (.block 0 (.loop JW))) (.seq (.ops er) (.block 2 (.loop GQ))))),[]⟩
def dk:List AB:=[
 ⟨none,.mk (fun l=>match l with | [v]=>Bf 30 v | _=>none),[.var 0],(.set 1),[]⟩,
 ⟨none,.mk (fun l=>match l with | []=>Ac Tryz.prog 30 | _=>none),[],(.set 2),[]⟩]
def dm:List AB:=[
 ⟨none,.r1 (fun s a=>AA Tryz.prog s 30 a),[.var 1],.push,[]⟩,
 ⟨none,.call 32,[.loc 0],.push,[]⟩,
 ⟨none,.mk (fun l=>match l with | []=>Ac Tryz.prog 56 | _=>none),[],(.set 3),[]⟩,
 ⟨none,.e (fun s=>Xy (fun a x=>Za (AM Tryz.prog s 56 a x))),[.var 3,.loc 0],.push,[]⟩]
def dp:List AB:=[
 ⟨none,.call 48,[(.const (.int .u64 (1)))],.push,[]⟩,
 ⟨none,.mk (fun l=>match l with | []=>Ac Tryz.prog 22 | _=>none),[],(.set 4),[]⟩,
 ⟨none,.mk (fun l=>match l with | []=>Ac Tryz.prog 22 | _=>none),[],(.set 5),[]⟩,
 ⟨none,.e (fun s=>Xy (fun a x=>Za (AM Tryz.prog s 22 a x))),[(.var 4),(.const (.slice none 0 (some 0)))],.push,[]⟩,
 ⟨none,.e (fun s=>Xy (fun a x=>Za (AM Tryz.prog s 22 a x))),[.var 5,.loc 1],.push,[]⟩]
def dr:List AB:=[
 ⟨none,.r1 (fun s a=>AA Tryz.prog s 56 a),[.var 3],.push,[]⟩,
 ⟨none,.call 41,[.loc 0],(.set 8),[]⟩]
def du:List AB:=[
 ⟨none,.mk (fun l=>match l with | []=>Ac Tryz.prog 26 | _=>none),[],(.set 6),[]⟩,
 ⟨none,.e (fun s=>Xy (fun a x=>Za (AM Tryz.prog s 26 a x))),[.var 6,.var 10],.push,[]⟩]
def dv:List AB:=[
 ⟨none,.r1 (fun s a=>AA Tryz.prog s 22 a),[.var 4],.push,[]⟩,
 ⟨none,.p1 (fun x=>AC Tryz.prog 26 x 0),[.var 6],.push,[]⟩,
 ⟨none,.p1 (fun x=>AC Tryz.prog 24 x 1),[.loc 0],.push,[]⟩,
 ⟨none,.r1 (fun s a=>AA Tryz.prog s 22 a),[.loc 0],.push,[]⟩,
 ⟨none,.call 49,[.loc 3,.loc 0],.push,[]⟩,
 ⟨none,.e (fun s=>Xy (fun a x=>Za (AM Tryz.prog s 22 a x))),[.var 4,.loc 0],.push,[]⟩]
def dx:List AB:=[
 ⟨none,.p1 (fun x=>AC Tryz.prog 26 x 1),[.var 6],.push,[]⟩,
 ⟨none,.r1 (fun s a=>AA Tryz.prog s 22 a),[.loc 0],.push,[]⟩,
 ⟨none,.p1 (fun x=>AC Tryz.prog 26 x 1),[.var 6],.push,[]⟩,
 ⟨none,.r1 (fun s a=>AA Tryz.prog s 22 a),[.loc 0],.push,[]⟩,
 ⟨none,.r1 (fun s a=>AA Tryz.prog s 22 a),[.var 5],.push,[]⟩,
 ⟨none,.call 49,[.loc 1,.loc 0],.push,[⟨none,.r1 (fun s a=>AA Tryz.prog s 22 a),[.loc 5],(.loc 4)⟩]⟩,
 ⟨none,.call 50,[.loc 4,.loc 0],.push,[]⟩,
 ⟨none,.p1 (fun x=>Zb x 0),[.loc 0],.push,[]⟩,
 ⟨none,.p1 (fun x=>Zb x 1),[.loc 1],.push,[]⟩,
 ⟨none,.p1 (fun x=>Zb x 2),[.loc 2],.push,[]⟩,
 ⟨none,.p1 some,[.loc 2],(.set 7),[]⟩,
 ⟨none,.p1 some,[.loc 1],.push,[]⟩,
 ⟨none,.p1 some,[.loc 1],.push,[]⟩]
def dy:List AB:=[
 ⟨none,.r1 (fun s a=>AA Tryz.prog s 22 a),[.var 5],.push,[]⟩,
 ⟨none,.call 51,[.loc 0,.var 7],.push,[]⟩,
 ⟨none,.e (fun s=>Xy (fun a x=>Za (AM Tryz.prog s 22 a x))),[.var 5,.loc 0],.push,[]⟩]
def Wj:Ad:=(.ops du)
def Wk:Ad:=(.block 1 (.seq (.ops dv) (.seq (.ops dx) (.ops dy))))
def WV:Code:=(EE 16 0).1
def WX:Code:=(EE 16 0).2
theorem kI:DX Tryz.prog 16 WV=some Wj:=by kernel_rfl
theorem kJ:DX Tryz.prog 16 WX=some Wk:=by kernel_rfl
theorem Wl:Cz Tryz.prog 16=[0,1,2,3,4,5,7,8,15,16,17,39]:=by kernel_rfl
def Wi:List AB:=[
 ⟨none,.r1 (fun s a=>AA Tryz.prog s 22 a),[.var 4],.push,[]⟩,
 ⟨none,.r (fun s l=>match l with | [x]=>BN Tryz.prog s 22 x | _=>none),[.loc 0],.push,[]⟩,
 ⟨none,.p2 (AS Tryz.prog .eql 3),[(.loc 0),(.const (.int .i64 (0)))],(.set 11),[]⟩]
def WY:List AB:=[
 ⟨none,.p1 (fun x=>AC Tryz.prog 56 x 0),[.var 3],.push,[]⟩,
 ⟨none,.r1 (fun s a=>AA Tryz.prog s 26 a),[.loc 0],.push,[]⟩,
 ⟨none,.call 53,[.loc 0],.push,[]⟩,
 ⟨none,.call 52,[.loc 0],.push,[]⟩,
 ⟨none,.call 23,[.loc 0],.push,[]⟩,
 ⟨none,.e (fun s=>Xy (fun a x=>Za (AM Tryz.prog s 30 a x))),[.var 2,.loc 0],.push,[]⟩]
def WZ:List AB:=[
 ⟨none,.r1 (fun s a=>AA Tryz.prog s 56 a),[.var 3],.push,[]⟩,
 ⟨none,.r1 (fun s a=>AA Tryz.prog s 22 a),[.var 5],.push,[]⟩,
 ⟨none,.p (fun l=>B7 Tryz.prog 24 (zipIdx [1] l)),[.loc 0],.push,[]⟩,
 ⟨none,.r1 (fun s a=>AA Tryz.prog s 22 a),[.var 4],.push,[]⟩,
 ⟨none,.p (fun l=>B7 Tryz.prog 26 (zipIdx [0,1] l)),[.loc 1,.loc 0],.push,[]⟩,
 ⟨none,.call 33,[.loc 4],.push,[⟨none,.r1 (fun s a=>AA Tryz.prog s 22 a),[.var 4],(.loc 2)⟩,⟨none,.r1 (fun s a=>AA Tryz.prog s 22 a),[.var 5],(.loc 4)⟩]⟩,
 ⟨none,.call 22,[.loc 0,.loc 1],.push,[]⟩,
 ⟨none,.e (fun s=>Xy (fun a x=>Za (AM Tryz.prog s 30 a x))),[.var 2,.loc 0],.push,[]⟩]
def py:Aq:=⟨1,12,(.seq (.ops dk) (.seq (.ops dm) (.seq (.ops dp) (.seq (.seq (.ops dr) (.block 0 (.rangeFunc 16 (.var 8) #[16,17] WV WX))) (.seq (.seq (.ops Wi) (.cond (.var 11)
 (.seq (.ops WY) .ret)
 .skip)) (.seq (.ops WZ) .ret)))))),[((.var 2),some 30)]⟩
def fh:List AB:=[
 ⟨none,.p1 some,[(.const (.bool false))],(.set 2),[]⟩]
def fi:List AB:=[
 ⟨none,.r (fun s l=>match l with | [x]=>BN Tryz.prog s 22 x | _=>none),[.var 0],.push,[]⟩,
 ⟨none,.r (fun s l=>match l with | [x]=>BN Tryz.prog s 22 x | _=>none),[.var 1],.push,[]⟩,
 ⟨none,.p2 (AS Tryz.prog .neq 3),[.loc 1,.loc 0],(.set 4),[]⟩]
def nj:List AB:=[
 ⟨none,.p1 some,[(.const (.bool false))],(.set 2),[]⟩]
def fj:List AB:=[
 ⟨none,.p1 some,[(.const (.int .i64 (0)))],(.set 3),[]⟩]
def XL:List AB:=[
 ⟨none,.r (fun s l=>match l with | [x]=>BN Tryz.prog s 22 x | _=>none),[.var 0],.push,[]⟩,
 ⟨none,.p2 (AS Tryz.prog .lss 3),[.var 3,.loc 0],(.set 5),[]⟩]
def fk:List AB:=[
 ⟨none,.p2 (AK Tryz.prog 22),[.var 0,.var 3],.push,[]⟩,
 ⟨none,.r1 (fun s a=>AA Tryz.prog s 76 a),[.loc 0],.push,[]⟩,
 ⟨none,.p2 (AK Tryz.prog 22),[.var 1,.var 3],.push,[]⟩,
 ⟨none,.r1 (fun s a=>AA Tryz.prog s 76 a),[.loc 0],.push,[]⟩,
 ⟨none,.p2 (AS Tryz.prog .neq 76),[.loc 2,.loc 0],(.set 6),[]⟩]
def nk:List AB:=[
 ⟨none,.p1 some,[(.const (.bool false))],(.set 2),[]⟩]
def fm:List AB:=[
 ⟨none,.p1 some,[.var 3],.push,[]⟩,
 ⟨none,.p2 (AS Tryz.prog .add 3),[(.loc 0),(.const (.int .i64 (1)))],.push,[]⟩,
 ⟨none,.p1 some,[.loc 0],(.set 3),[]⟩]
def Oq:Ad:=(.seq (.seq (.ops XL) (.cond (.var 5)
 .skip
 (.exit 0))) (.seq (.block 1 (.seq (.ops fk) (.cond (.var 6)
 (.seq (.ops nk) .ret)
 .skip))) (.ops fm)))
def fo:List AB:=[
 ⟨none,.p1 some,[(.const (.bool true))],(.set 2),[]⟩]
def qN:Aq:=⟨2,7,(.seq (.ops fh) (.seq (.seq (.ops fi) (.cond (.var 4)
 (.seq (.ops nj) .ret)
 .skip)) (.seq (.seq (.ops fj) (.block 0 (.loop Oq))) (.seq (.ops fo) .ret)))),[((.var 2),none)]⟩
def dU:List AB:=[
 ⟨none,.mk (fun l=>match l with | [v]=>Bf 26 v | _=>none),[.var 0],(.set 2),[]⟩,
 ⟨none,.mk (fun l=>match l with | [v]=>Bf 26 v | _=>none),[.var 1],(.set 3),[]⟩,
 ⟨none,.p1 some,[(.const (.bool false))],(.set 4),[]⟩]
def dV:List AB:=[
 ⟨none,.p1 (fun x=>AC Tryz.prog 26 x 0),[.var 2],.push,[]⟩,
 ⟨none,.p1 (fun x=>AC Tryz.prog 24 x 0),[.loc 0],.push,[]⟩,
 ⟨none,.r1 (fun s a=>AA Tryz.prog s 4 a),[.loc 0],.push,[]⟩,
 ⟨none,.p1 (fun x=>AC Tryz.prog 26 x 0),[.var 3],.push,[]⟩,
 ⟨none,.p1 (fun x=>AC Tryz.prog 24 x 0),[.loc 0],.push,[]⟩,
 ⟨none,.r1 (fun s a=>AA Tryz.prog s 4 a),[.loc 0],.push,[]⟩,
 ⟨none,.p2 (AS Tryz.prog .eql 4),[.loc 3,.loc 0],.push,[]⟩,
 ⟨(some ((.loc 0),true)),.p1 (fun x=>AC Tryz.prog 26 x 0),[.var 2],.push,[]⟩,
 ⟨(some ((.loc 1),true)),.p1 (fun x=>AC Tryz.prog 24 x 1),[.loc 0],.push,[]⟩,
 ⟨(some ((.loc 2),true)),.r1 (fun s a=>AA Tryz.prog s 22 a),[.loc 0],.push,[]⟩,
 ⟨(some ((.loc 3),true)),.p1 (fun x=>AC Tryz.prog 26 x 0),[.var 3],.push,[]⟩,
 ⟨(some ((.loc 4),true)),.p1 (fun x=>AC Tryz.prog 24 x 1),[.loc 0],.push,[]⟩,
 ⟨(some ((.loc 5),true)),.r1 (fun s a=>AA Tryz.prog s 22 a),[.loc 0],.push,[]⟩,
 ⟨(some ((.loc 6),true)),.call 40,[.loc 3,.loc 0],.push,[]⟩,
 ⟨none,.p Ru,[(.loc 7),(.loc 0),(.const (.bool false))],.push,[]⟩,
 ⟨(some ((.loc 0),true)),.p1 (fun x=>AC Tryz.prog 26 x 1),[.var 2],.push,[]⟩,
 ⟨(some ((.loc 1),true)),.r1 (fun s a=>AA Tryz.prog s 22 a),[.loc 0],.push,[]⟩,
 ⟨(some ((.loc 2),true)),.p1 (fun x=>AC Tryz.prog 26 x 1),[.var 3],.push,[]⟩,
 ⟨(some ((.loc 3),true)),.r1 (fun s a=>AA Tryz.prog s 22 a),[.loc 0],.push,[]⟩,
 ⟨(some ((.loc 4),true)),.call 40,[.loc 2,.loc 0],.push,[]⟩,
 ⟨none,.p Ru,[(.loc 5),(.loc 0),(.const (.bool false))],.push,[]⟩,
 ⟨none,.p1 some,[.loc 0],(.set 4),[]⟩]
def pE:Aq:=⟨2,5,(.seq (.ops dU) (.seq (.ops dV) .ret)),[((.var 4),none)]⟩
def oJ:List AB:=[
 ⟨none,.mk (fun l=>match l with | [v]=>Bf 30 v | _=>none),[.var 0],(.set 2),[]⟩,
 ⟨none,.mk (fun l=>match l with | [v]=>Bf 30 v | _=>none),[.var 1],(.set 3),[]⟩,
 ⟨none,.p1 some,[(.const (.bool false))],(.set 4),[]⟩]
def oK:List AB:=[
 ⟨none,.p1 (fun x=>AC Tryz.prog 30 x 0),[.var 2],.push,[]⟩,
 ⟨none,.r1 (fun s a=>AA Tryz.prog s 26 a),[.loc 0],.push,[]⟩,
 ⟨none,.p1 (fun x=>AC Tryz.prog 30 x 0),[.var 3],.push,[]⟩,
 ⟨none,.r1 (fun s a=>AA Tryz.prog s 26 a),[.loc 0],.push,[]⟩,
 ⟨none,.call 12,[.loc 2,.loc 0],.push,[]⟩,
 ⟨none,.p1 (U3 Tryz.prog Go.UnOp.not),[.loc 0],.push,[]⟩,
 ⟨(some ((.loc 0),false)),.p1 (fun x=>AC Tryz.prog 30 x 1),[.var 2],.push,[]⟩,
 ⟨(some ((.loc 1),false)),.r1 (fun s a=>AA Tryz.prog s 27 a),[.loc 0],.push,[]⟩,
 ⟨(some ((.loc 2),false)),.r (fun s l=>match l with | [x]=>BN Tryz.prog s 27 x | _=>none),[.loc 0],.push,[]⟩,
 ⟨(some ((.loc 3),false)),.p1 (fun x=>AC Tryz.prog 30 x 1),[.var 3],.push,[]⟩,
 ⟨(some ((.loc 4),false)),.r1 (fun s a=>AA Tryz.prog s 27 a),[.loc 0],.push,[]⟩,
 ⟨(some ((.loc 5),false)),.r (fun s l=>match l with | [x]=>BN Tryz.prog s 27 x | _=>none),[.loc 0],.push,[]⟩,
 ⟨(some ((.loc 6),false)),.p2 (AS Tryz.prog .neq 3),[.loc 3,.loc 0],.push,[]⟩,
 ⟨none,.p Ru,[(.loc 7),(.const (.bool true)),(.loc 0)],.push,[]⟩,
 ⟨(some ((.loc 0),false)),.p1 (fun x=>AC Tryz.prog 30 x 2),[.var 2],.push,[]⟩,
 ⟨(some ((.loc 1),false)),.r1 (fun s a=>AA Tryz.prog s 28 a),[.loc 0],.push,[]⟩,
 ⟨(some ((.loc 2),false)),.r (fun s l=>match l with | [x]=>BN Tryz.prog s 28 x | _=>none),[.loc 0],.push,[]⟩,
 ⟨(some ((.loc 3),false)),.p1 (fun x=>AC Tryz.prog 30 x 2),[.var 3],.push,[]⟩,
 ⟨(some ((.loc 4),false)),.r1 (fun s a=>AA Tryz.prog s 28 a),[.loc 0],.push,[]⟩,
 ⟨(some ((.loc 5),false)),.r (fun s l=>match l with | [x]=>BN Tryz.prog s 28 x | _=>none),[.loc 0],.push,[]⟩,
 ⟨(some ((.loc 6),false)),.p2 (AS Tryz.prog .neq 3),[.loc 3,.loc 0],.push,[]⟩,
 ⟨none,.p Ru,[(.loc 7),(.const (.bool true)),(.loc 0)],(.set 7),[]⟩]
def pM:List AB:=[
 ⟨none,.p1 some,[(.const (.bool false))],(.set 4),[]⟩]
def oM:List AB:=[
 ⟨none,.p1 some,[(.const (.int .i64 (0)))],(.set 5),[]⟩]
def kQ:List AB:=[
 ⟨none,.p1 (fun x=>AC Tryz.prog 30 x 1),[.var 2],.push,[]⟩,
 ⟨none,.r1 (fun s a=>AA Tryz.prog s 27 a),[.loc 0],.push,[]⟩,
 ⟨none,.r (fun s l=>match l with | [x]=>BN Tryz.prog s 27 x | _=>none),[.loc 0],.push,[]⟩,
 ⟨none,.p2 (AS Tryz.prog .lss 3),[.var 5,.loc 0],(.set 8),[]⟩]
def oN:List AB:=[
 ⟨none,.p1 (fun x=>AC Tryz.prog 30 x 1),[.var 2],.push,[]⟩,
 ⟨none,.r1 (fun s a=>AA Tryz.prog s 27 a),[.loc 0],.push,[]⟩,
 ⟨none,.p2 (AK Tryz.prog 27),[.loc 0,.var 5],.push,[]⟩,
 ⟨none,.r1 (fun s a=>AA Tryz.prog s 3 a),[.loc 0],.push,[]⟩,
 ⟨none,.p1 (fun x=>AC Tryz.prog 30 x 1),[.var 3],.push,[]⟩,
 ⟨none,.r1 (fun s a=>AA Tryz.prog s 27 a),[.loc 0],.push,[]⟩,
 ⟨none,.p2 (AK Tryz.prog 27),[.loc 0,.var 5],.push,[]⟩,
 ⟨none,.r1 (fun s a=>AA Tryz.prog s 3 a),[.loc 0],.push,[]⟩,
 ⟨none,.p2 (AS Tryz.prog .neq 3),[.loc 4,.loc 0],(.set 9),[]⟩]
def pN:List AB:=[
 ⟨none,.p1 some,[(.const (.bool false))],(.set 4),[]⟩]
def oO:List AB:=[
 ⟨none,.p1 some,[.var 5],.push,[]⟩,
 ⟨none,.p2 (AS Tryz.prog .add 3),[(.loc 0),(.const (.int .i64 (1)))],.push,[]⟩,
 ⟨none,.p1 some,[.loc 0],(.set 5),[]⟩]
def YP:Ad:=(.seq (.seq (.ops kQ) (.cond (.var 8)
 .skip
 (.exit 0))) (.seq (.block 1 (.seq (.ops oN) (.cond (.var 9)
 (.seq (.ops pN) .ret)
 .skip))) (.ops oO)))
def oP:List AB:=[
 ⟨none,.p1 some,[(.const (.int .i64 (0)))],(.set 6),[]⟩]
def YQ:List AB:=[
 ⟨none,.p1 (fun x=>AC Tryz.prog 30 x 2),[.var 2],.push,[]⟩,
 ⟨none,.r1 (fun s a=>AA Tryz.prog s 28 a),[.loc 0],.push,[]⟩,
 ⟨none,.r (fun s l=>match l with | [x]=>BN Tryz.prog s 28 x | _=>none),[.loc 0],.push,[]⟩,
 ⟨none,.p2 (AS Tryz.prog .lss 3),[.var 6,.loc 0],(.set 10),[]⟩]
def jj:List AB:=[
 ⟨none,.p1 (fun x=>AC Tryz.prog 30 x 2),[.var 2],.push,[]⟩,
 ⟨none,.r1 (fun s a=>AA Tryz.prog s 28 a),[.loc 0],.push,[]⟩,
 ⟨none,.p2 (AK Tryz.prog 28),[.loc 0,.var 6],.push,[]⟩,
 ⟨none,.r1 (fun s a=>AA Tryz.prog s 26 a),[.loc 0],.push,[]⟩,
 ⟨none,.p1 (fun x=>AC Tryz.prog 30 x 2),[.var 3],.push,[]⟩,
 ⟨none,.r1 (fun s a=>AA Tryz.prog s 28 a),[.loc 0],.push,[]⟩,
 ⟨none,.p2 (AK Tryz.prog 28),[.loc 0,.var 6],.push,[]⟩,
 ⟨none,.r1 (fun s a=>AA Tryz.prog s 26 a),[.loc 0],.push,[]⟩,
 ⟨none,.call 12,[.loc 4,.loc 0],.push,[]⟩,
 ⟨none,.p1 (U3 Tryz.prog Go.UnOp.not),[.loc 0],(.set 11),[]⟩]
def oL:List AB:=[
 ⟨none,.p1 some,[(.const (.bool false))],(.set 4),[]⟩]
def jl:List AB:=[
 ⟨none,.p1 some,[.var 6],.push,[]⟩,
 ⟨none,.p2 (AS Tryz.prog .add 3),[(.loc 0),(.const (.int .i64 (1)))],.push,[]⟩,
 ⟨none,.p1 some,[.loc 0],(.set 6),[]⟩]
def PA:Ad:=(.seq (.seq (.ops YQ) (.cond (.var 10)
 .skip
 (.exit 2))) (.seq (.block 3 (.seq (.ops jj) (.cond (.var 11)
 (.seq (.ops oL) .ret)
 .skip))) (.ops jl)))
def jm:List AB:=[
 ⟨none,.p1 some,[(.const (.bool true))],(.set 4),[]⟩]
def c9:Aq:=⟨2,12,(.seq (.ops oJ) (.seq (.seq (.ops oK) (.cond (.var 7)
 (.seq (.ops pM) .ret)
 .skip)) (.seq (.seq (.ops oM) (.block 0 (.loop YP))) (.seq (.seq (.ops oP) (.block 2 (.loop PA))) (.seq (.ops jm) .ret))))),[((.var 4),none)]⟩
def nr:List AB:=[
 ⟨none,.mk (fun l=>match l with | [v]=>Bf 31 v | _=>none),[.var 0],(.set 2),[]⟩,
 ⟨none,.p1 some,[(.const (.bool false))],(.set 3),[]⟩]
def ns:List AB:=[
 ⟨none,.call 15,[],.push,[]⟩,
 ⟨none,.p1 (U3 Tryz.prog Go.UnOp.not),[.loc 0],(.set 13),[]⟩]
def pG:List AB:=[
 ⟨none,.p1 some,[(.const (.bool false))],(.set 3),[]⟩]
def nz:List AB:=[
 ⟨none,.p2 (AK Tryz.prog 31),[(.var 2),(.const (.int .i64 (0)))],.push,[]⟩,
 ⟨none,.r1 (fun s a=>AA Tryz.prog s 30 a),[.loc 0],.push,[]⟩,
 ⟨none,.p2 (AK Tryz.prog 31),[(.var 2),(.const (.int .i64 (1)))],.push,[]⟩,
 ⟨none,.r1 (fun s a=>AA Tryz.prog s 30 a),[.loc 0],.push,[]⟩,
 ⟨none,.mk (fun l=>match l with | []=>Ac Tryz.prog 30 | _=>none),[],(.set 4),[]⟩,
 ⟨none,.mk (fun l=>match l with | []=>Ac Tryz.prog 30 | _=>none),[],(.set 5),[]⟩,
 ⟨none,.call 7,[.loc 2],.push,[⟨none,.r1 (fun s a=>AA Tryz.prog s 30 a),[.loc 2],(.loc 1)⟩]⟩,
 ⟨none,.call 7,[.loc 1],.push,[]⟩,
 ⟨none,.e (fun s=>Xy (fun a x=>Za (AM Tryz.prog s 30 a x))),[.var 4,.loc 1],.push,[]⟩,
 ⟨none,.e (fun s=>Xy (fun a x=>Za (AM Tryz.prog s 30 a x))),[.var 5,.loc 1],.push,[]⟩]
def oA:List AB:=[
 ⟨none,.r1 (fun s a=>AA Tryz.prog s 30 a),[.var 4],.push,[]⟩,
 ⟨none,.r1 (fun s a=>AA Tryz.prog s 30 a),[.var 5],.push,[]⟩,
 ⟨none,.mk (fun l=>match l with | []=>Ac Tryz.prog 30 | _=>none),[],(.set 6),[]⟩,
 ⟨none,.mk (fun l=>match l with | []=>Ac Tryz.prog 30 | _=>none),[],(.set 7),[]⟩,
 ⟨none,.call 18,[.loc 1],.push,[⟨none,.r1 (fun s a=>AA Tryz.prog s 30 a),[.var 5],(.loc 1)⟩]⟩,
 ⟨none,.call 18,[.loc 1],.push,[]⟩,
 ⟨none,.e (fun s=>Xy (fun a x=>Za (AM Tryz.prog s 30 a x))),[.var 6,.loc 1],.push,[]⟩,
 ⟨none,.e (fun s=>Xy (fun a x=>Za (AM Tryz.prog s 30 a x))),[.var 7,.loc 1],.push,[]⟩]
def oB:List AB:=[
 ⟨none,.call 19,[(.const (.int .i64 (1))),(.const (.int .i64 (1)))],.push,[]⟩,
 ⟨none,.mk (fun l=>match l with | []=>Ac Tryz.prog 26 | _=>none),[],(.set 8),[]⟩,
 ⟨none,.e (fun s=>Xy (fun a x=>Za (AM Tryz.prog s 26 a x))),[.var 8,.loc 0],.push,[]⟩]
def kN:List AB:=[
 ⟨none,.r1 (fun s a=>AA Tryz.prog s 30 a),[.var 4],.push,[]⟩,
 ⟨none,.mk (fun l=>(Af Tryz.prog 46 1 (zipIdx [0] l)).bind fun r=>some (r,.slice 1)),[.loc 0],.push,[]⟩,
 ⟨none,.r1 (fun s a=>AA Tryz.prog s 30 a),[.var 4],.push,[]⟩,
 ⟨none,.r1 (fun s a=>AA Tryz.prog s 30 a),[.var 5],.push,[]⟩,
 ⟨none,.mk (fun l=>(Af Tryz.prog 46 2 (zipIdx [0,1] l)).bind fun r=>some (r,.slice 2)),[.loc 1,.loc 0],.push,[]⟩,
 ⟨none,.r1 (fun s a=>AA Tryz.prog s 30 a),[.var 4],.push,[]⟩,
 ⟨none,.p (fun l=>B7 Tryz.prog 30 (zipIdx [] l)),[],.push,[]⟩,
 ⟨none,.mk (fun l=>(Af Tryz.prog 46 2 (zipIdx [0,1] l)).bind fun r=>some (r,.slice 2)),[.loc 1,.loc 0],.push,[]⟩,
 ⟨none,.r1 (fun s a=>AA Tryz.prog s 30 a),[.var 4],.push,[]⟩,
 ⟨none,.r1 (fun s a=>AA Tryz.prog s 30 a),[.var 5],.push,[]⟩,
 ⟨none,.r1 (fun s a=>AA Tryz.prog s 30 a),[.var 4],.push,[]⟩,
 ⟨none,.r1 (fun s a=>AA Tryz.prog s 26 a),[.var 8],.push,[]⟩,
 ⟨none,.r1 (fun s a=>AA Tryz.prog s 30 a),[.var 4],.push,[]⟩,
 ⟨none,.r1 (fun s a=>AA Tryz.prog s 30 a),[.var 5],.push,[]⟩,
 ⟨none,.r1 (fun s a=>AA Tryz.prog s 30 a),[.var 4],.push,[]⟩,
 ⟨none,.p1 (fun x=>AC Tryz.prog 30 x 0),[.var 4],.push,[]⟩,
 ⟨none,.r1 (fun s a=>AA Tryz.prog s 26 a),[.loc 0],.push,[]⟩,
 ⟨none,.r1 (fun s a=>AA Tryz.prog s 30 a),[.var 4],.push,[]⟩,
 ⟨none,.call 20,[.loc 16],.push,[⟨none,.r1 (fun s a=>AA Tryz.prog s 30 a),[.var 4],(.loc 1)⟩,⟨none,.r1 (fun s a=>AA Tryz.prog s 26 a),[.loc 3],(.loc 2)⟩,⟨none,.r1 (fun s a=>AA Tryz.prog s 30 a),[.var 4],(.loc 4)⟩,⟨none,.r1 (fun s a=>AA Tryz.prog s 30 a),[.var 5],(.loc 5)⟩,⟨none,.r1 (fun s a=>AA Tryz.prog s 30 a),[.var 4],(.loc 6)⟩,⟨none,.r1 (fun s a=>AA Tryz.prog s 26 a),[.var 8],(.loc 7)⟩,⟨none,.r1 (fun s a=>AA Tryz.prog s 30 a),[.var 4],(.loc 8)⟩,⟨none,.r1 (fun s a=>AA Tryz.prog s 30 a),[.var 5],(.loc 9)⟩,⟨none,.r1 (fun s a=>AA Tryz.prog s 30 a),[.var 4],(.loc 10)⟩,⟨none,.r1 (fun s a=>AA Tryz.prog s 30 a),[.var 4],(.loc 13)⟩,⟨none,.r1 (fun s a=>AA Tryz.prog s 30 a),[.var 5],(.loc 15)⟩,⟨none,.r1 (fun s a=>AA Tryz.prog s 30 a),[.var 4],(.loc 16)⟩]⟩,
 ⟨none,.call 20,[.loc 14],.push,[⟨none,.r1 (fun s a=>AA Tryz.prog s 30 a),[.var 4],(.loc 2)⟩,⟨none,.r1 (fun s a=>AA Tryz.prog s 26 a),[.loc 4],(.loc 3)⟩,⟨none,.r1 (fun s a=>AA Tryz.prog s 30 a),[.var 4],(.loc 5)⟩,⟨none,.r1 (fun s a=>AA Tryz.prog s 30 a),[.var 5],(.loc 6)⟩,⟨none,.r1 (fun s a=>AA Tryz.prog s 30 a),[.var 4],(.loc 7)⟩,⟨none,.r1 (fun s a=>AA Tryz.prog s 26 a),[.var 8],(.loc 8)⟩,⟨none,.r1 (fun s a=>AA Tryz.prog s 30 a),[.var 4],(.loc 9)⟩,⟨none,.r1 (fun s a=>AA Tryz.prog s 30 a),[.var 5],(.loc 10)⟩,⟨none,.r1 (fun s a=>AA Tryz.prog s 30 a),[.var 4],(.loc 11)⟩,⟨none,.r1 (fun s a=>AA Tryz.prog s 30 a),[.var 4],(.loc 14)⟩]⟩,
 ⟨none,.call 20,[.loc 12],.push,[⟨none,.r1 (fun s a=>AA Tryz.prog s 30 a),[.var 4],(.loc 3)⟩,⟨none,.r1 (fun s a=>AA Tryz.prog s 26 a),[.loc 5],(.loc 4)⟩,⟨none,.r1 (fun s a=>AA Tryz.prog s 30 a),[.var 4],(.loc 6)⟩,⟨none,.r1 (fun s a=>AA Tryz.prog s 30 a),[.var 5],(.loc 7)⟩,⟨none,.r1 (fun s a=>AA Tryz.prog s 30 a),[.var 4],(.loc 8)⟩,⟨none,.r1 (fun s a=>AA Tryz.prog s 26 a),[.var 8],(.loc 9)⟩,⟨none,.r1 (fun s a=>AA Tryz.prog s 30 a),[.var 4],(.loc 10)⟩,⟨none,.r1 (fun s a=>AA Tryz.prog s 30 a),[.var 5],(.loc 11)⟩,⟨none,.r1 (fun s a=>AA Tryz.prog s 30 a),[.var 4],(.loc 12)⟩]⟩,
 ⟨none,.call 21,[.loc 12,.loc 11],.push,[⟨none,.r1 (fun s a=>AA Tryz.prog s 30 a),[.var 4],(.loc 4)⟩,⟨none,.r1 (fun s a=>AA Tryz.prog s 26 a),[.loc 6],(.loc 5)⟩,⟨none,.r1 (fun s a=>AA Tryz.prog s 30 a),[.var 4],(.loc 7)⟩,⟨none,.r1 (fun s a=>AA Tryz.prog s 30 a),[.var 5],(.loc 8)⟩,⟨none,.r1 (fun s a=>AA Tryz.prog s 30 a),[.var 4],(.loc 9)⟩,⟨none,.r1 (fun s a=>AA Tryz.prog s 26 a),[.var 8],(.loc 10)⟩,⟨none,.r1 (fun s a=>AA Tryz.prog s 30 a),[.var 4],(.loc 11)⟩]⟩,
 ⟨none,.call 22,[.loc 11,.loc 10],.push,[⟨none,.r1 (fun s a=>AA Tryz.prog s 30 a),[.var 4],(.loc 5)⟩,⟨none,.r1 (fun s a=>AA Tryz.prog s 26 a),[.loc 7],(.loc 6)⟩,⟨none,.r1 (fun s a=>AA Tryz.prog s 30 a),[.var 4],(.loc 8)⟩,⟨none,.r1 (fun s a=>AA Tryz.prog s 30 a),[.var 5],(.loc 9)⟩,⟨none,.r1 (fun s a=>AA Tryz.prog s 30 a),[.var 4],(.loc 10)⟩]⟩,
 ⟨none,.call 10,[.loc 10,.var 1,.loc 9],.push,[⟨none,.r1 (fun s a=>AA Tryz.prog s 30 a),[.var 4],(.loc 6)⟩,⟨none,.r1 (fun s a=>AA Tryz.prog s 26 a),[.loc 8],(.loc 7)⟩,⟨none,.r1 (fun s a=>AA Tryz.prog s 30 a),[.var 4],(.loc 9)⟩]⟩,
 ⟨none,.call 16,[.loc 9],.push,[⟨none,.r1 (fun s a=>AA Tryz.prog s 30 a),[.var 4],(.loc 7)⟩,⟨none,.r1 (fun s a=>AA Tryz.prog s 26 a),[.loc 9],(.loc 8)⟩]⟩,
 ⟨none,.call 23,[.loc 8],.push,[⟨none,.r1 (fun s a=>AA Tryz.prog s 30 a),[.var 4],(.loc 8)⟩]⟩,
 ⟨none,.call 16,[.loc 8],.push,[]⟩,
 ⟨none,.call 16,[.loc 0],.push,[]⟩,
 ⟨none,.mk (fun l=>(Af Tryz.prog 46 9 (zipIdx [0,1,2,3,4,5,6,7,8] l)).bind fun r=>some (r,.slice 9)),[.loc 9,.loc 8,.loc 7,.loc 6,.loc 5,.loc 4,.loc 3,.loc 2,.loc 0],.push,[]⟩,
 ⟨none,.p1 some,[.loc 0],(.set 9),[]⟩]
def oC:List AB:=[
 ⟨none,.p1 some,[(.const (.int .i64 (0)))],(.set 10),[]⟩]
def az:List AB:=[
 ⟨none,.r (fun s l=>match l with | [x]=>BN Tryz.prog s 46 x | _=>none),[.var 9],.push,[]⟩,
 ⟨none,.p2 (AS Tryz.prog .lss 3),[.var 10,.loc 0],(.set 14),[]⟩]
def kO:List AB:=[
 ⟨none,.p1 some,[(.const (.int .i64 (0)))],(.set 11),[]⟩]
def TE:List AB:=[
 ⟨none,.p2 (AK Tryz.prog 46),[.var 9,.var 10],.push,[]⟩,
 ⟨none,.p1 (fun x=>AC Tryz.prog 30 x 1),[.loc 0],.push,[]⟩,
 ⟨none,.r1 (fun s a=>AA Tryz.prog s 27 a),[.loc 0],.push,[]⟩,
 ⟨none,.r (fun s l=>match l with | [x]=>BN Tryz.prog s 27 x | _=>none),[.loc 0],.push,[]⟩,
 ⟨none,.p2 (AS Tryz.prog .lss 3),[.var 11,.loc 0],(.set 15),[]⟩]
def gy:List AB:=[
 ⟨none,.p2 (AK Tryz.prog 46),[.var 9,.var 10],.push,[]⟩,
 ⟨none,.p1 (fun x=>AC Tryz.prog 30 x 1),[.loc 0],.push,[]⟩,
 ⟨none,.r1 (fun s a=>AA Tryz.prog s 27 a),[.loc 0],.push,[]⟩,
 ⟨none,.p2 (AK Tryz.prog 46),[.var 9,.var 10],.push,[]⟩,
 ⟨none,.p1 (fun x=>AC Tryz.prog 30 x 1),[.loc 0],.push,[]⟩,
 ⟨none,.r1 (fun s a=>AA Tryz.prog s 27 a),[.loc 0],.push,[]⟩,
 ⟨none,.p2 (AK Tryz.prog 27),[.loc 0,.var 11],.push,[]⟩,
 ⟨none,.r1 (fun s a=>AA Tryz.prog s 3 a),[.loc 0],.push,[]⟩,
 ⟨none,.p2 (AS Tryz.prog .add 3),[(.loc 0),(.const (.int .i64 (1)))],.push,[]⟩,
 ⟨none,.p2 (AK Tryz.prog 27),[.loc 6,.var 11],.push,[]⟩,
 ⟨none,.e (fun s=>Xy (fun a x=>Za (AM Tryz.prog s 3 a x))),[.loc 0,.loc 1],.push,[]⟩]
def hJ:List AB:=[
 ⟨none,.p1 some,[.var 11],.push,[]⟩,
 ⟨none,.p2 (AS Tryz.prog .add 3),[(.loc 0),(.const (.int .i64 (1)))],.push,[]⟩,
 ⟨none,.p1 some,[.loc 0],(.set 11),[]⟩]
def JX:Ad:=(.seq (.seq (.ops TE) (.cond (.var 15)
 .skip
 (.exit 2))) (.seq (.block 3 (.ops gy)) (.ops hJ)))
def Xv:List AB:=[
 ⟨none,.p2 (AK Tryz.prog 46),[.var 9,.var 10],.push,[]⟩,
 ⟨none,.p1 (fun x=>AC Tryz.prog 30 x 0),[.loc 0],.push,[]⟩,
 ⟨none,.r1 (fun s a=>AA Tryz.prog s 26 a),[.loc 0],.push,[]⟩,
 ⟨none,.call 24,[.loc 0],.push,[]⟩]
def Xw:List AB:=[
 ⟨none,.p1 some,[(.const (.int .i64 (0)))],(.set 12),[]⟩]
def TF:List AB:=[
 ⟨none,.p2 (AK Tryz.prog 46),[.var 9,.var 10],.push,[]⟩,
 ⟨none,.p1 (fun x=>AC Tryz.prog 30 x 2),[.loc 0],.push,[]⟩,
 ⟨none,.r1 (fun s a=>AA Tryz.prog s 28 a),[.loc 0],.push,[]⟩,
 ⟨none,.r (fun s l=>match l with | [x]=>BN Tryz.prog s 28 x | _=>none),[.loc 0],.push,[]⟩,
 ⟨none,.p2 (AS Tryz.prog .lss 3),[.var 12,.loc 0],(.set 16),[]⟩]
def hY:List AB:=[
 ⟨none,.p2 (AK Tryz.prog 46),[.var 9,.var 10],.push,[]⟩,
 ⟨none,.p1 (fun x=>AC Tryz.prog 30 x 2),[.loc 0],.push,[]⟩,
 ⟨none,.r1 (fun s a=>AA Tryz.prog s 28 a),[.loc 0],.push,[]⟩,
 ⟨none,.p2 (AK Tryz.prog 28),[.loc 0,.var 12],.push,[]⟩,
 ⟨none,.r1 (fun s a=>AA Tryz.prog s 26 a),[.loc 0],.push,[]⟩,
 ⟨none,.call 24,[.loc 0],.push,[]⟩]
def hZ:List AB:=[
 ⟨none,.p2 (AK Tryz.prog 46),[.var 9,.var 10],.push,[]⟩,
 ⟨none,.p1 (fun x=>AC Tryz.prog 30 x 2),[.loc 0],.push,[]⟩,
 ⟨none,.r1 (fun s a=>AA Tryz.prog s 28 a),[.loc 0],.push,[]⟩,
 ⟨none,.p (fun l=>B7 Tryz.prog 26 (zipIdx [] l)),[],.push,[]⟩,
 ⟨none,.p2 (AK Tryz.prog 28),[.loc 1,.var 12],.push,[]⟩,
 ⟨none,.e (fun s=>Xy (fun a x=>Za (AM Tryz.prog s 26 a x))),[.loc 0,.loc 1],.push,[]⟩]
def iA:List AB:=[
 ⟨none,.p1 some,[.var 12],.push,[]⟩,
 ⟨none,.p2 (AS Tryz.prog .add 3),[(.loc 0),(.const (.int .i64 (1)))],.push,[]⟩,
 ⟨none,.p1 some,[.loc 0],(.set 12),[]⟩]
def JY:Ad:=(.seq (.seq (.ops TF) (.cond (.var 16)
 .skip
 (.exit 4))) (.seq (.block 5 (.seq (.ops hY) (.ops hZ))) (.ops iA)))
def Xx:List AB:=[
 ⟨none,.p1 some,[.var 10],.push,[]⟩,
 ⟨none,.p2 (AS Tryz.prog .add 3),[(.loc 0),(.const (.int .i64 (1)))],.push,[]⟩,
 ⟨none,.p1 some,[.loc 0],(.set 10),[]⟩]
def Xu:Ad:=(.seq (.seq (.ops az) (.cond (.var 14)
 .skip
 (.exit 0))) (.seq (.block 1 (.seq (.seq (.ops kO) (.block 2 (.loop JX))) (.seq (.ops Xv) (.seq (.ops Xw) (.block 4 (.loop JY)))))) (.ops Xx)))
def iB:List AB:=[
 ⟨none,.r1 (fun s a=>AA Tryz.prog s 30 a),[.var 4],.push,[]⟩,
 ⟨none,.call 25,[.loc 0,.var 1],.push,[]⟩,
 ⟨none,.call 24,[.loc 0],.push,[]⟩]
def iC:List AB:=[
 ⟨none,.r1 (fun s a=>AA Tryz.prog s 30 a),[.var 4],.push,[]⟩,
 ⟨none,.call 13,[(.loc 0),(.const (.slice none 0 (some 0))),(.const (.slice none 0 (some 0)))],.push,[]⟩,
 ⟨none,.call 24,[.loc 0],.push,[]⟩]
def iD:List AB:=[
 ⟨none,.r1 (fun s a=>AA Tryz.prog s 30 a),[.var 4],.push,[]⟩,
 ⟨none,.r1 (fun s a=>AA Tryz.prog s 30 a),[.var 6],.push,[]⟩,
 ⟨none,.call 9,[.loc 1,.loc 0],.push,[]⟩,
 ⟨(some ((.loc 0),true)),.r1 (fun s a=>AA Tryz.prog s 30 a),[.var 5],.push,[]⟩,
 ⟨(some ((.loc 1),true)),.r1 (fun s a=>AA Tryz.prog s 30 a),[.var 7],.push,[]⟩,
 ⟨(some ((.loc 2),true)),.call 9,[.loc 1,.loc 0],.push,[]⟩,
 ⟨none,.p Ru,[(.loc 3),(.loc 0),(.const (.bool false))],.push,[]⟩,
 ⟨none,.p1 some,[.loc 0],(.set 3),[]⟩]
def c5:Aq:=⟨2,17,(.seq (.ops nr) (.seq (.seq (.ops ns) (.cond (.var 13)
 (.seq (.ops pG) .ret)
 .skip)) (.seq (.ops nz) (.seq (.ops oA) (.seq (.ops oB) (.seq (.ops kN) (.seq (.seq (.ops oC) (.block 0 (.loop Xu))) (.seq (.ops iB) (.seq (.ops iC) (.seq (.ops iD) .ret)))))))))),[((.var 3),none)]⟩
theorem kW:AR Tryz.prog 19=some qA:=by kernel_rfl
theorem lL:AR Tryz.prog 59=some qX:=by kernel_rfl
theorem lK:AR Tryz.prog 58=some qW:=by kernel_rfl
theorem kV:AR Tryz.prog 18=some pz:=by kernel_rfl
theorem kf:AR Tryz.prog 24=some qF:=by kernel_rfl
theorem kU:AR Tryz.prog 16=some py:=by kernel_rfl
theorem ku:AR Tryz.prog 40=some qN:=by kernel_rfl
theorem kS:AR Tryz.prog 12=some pE:=by kernel_rfl
theorem oU:AR Tryz.prog 9=some c9:=by kernel_rfl
theorem oR:AR Tryz.prog 5=some c5:=by kernel_rfl
end
end Go.Proofs.YtjnkfbpadpmakaaGreatDoor.Am
set_option linter.unusedVariables false
set_option linter.unusedSimpArgs false
set_option maxRecDepth 16000
namespace Go.Proofs.YtjnkfbpadpmakaaGreatDoor.Am
open Go Go.Proofs
noncomputable section
def KK:List (Int×Rat)→Nat→Nat
 | [],u=>u
 | p::L,u=>KK L (Nat.gcd u p.2.num.natAbs)
def ME:List (Int×Rat)→Nat→Nat
 | [],d=>d
 | p::L,d=>ME L (d * (p.2.den / Nat.gcd p.2.den d))
theorem Gv:∀ (L:List (Int×Rat))(p:Int×Rat)(u:Nat),KK (L++[p]) u=Nat.gcd (KK L u) p.2.num.natAbs
 | [],p,u=>rfl
 | q::L,p,u=>Gv L p _
theorem Is:∀ (L:List (Int×Rat))(p:Int×Rat)(d:Nat),ME (L++[p]) d=ME L d * (p.2.den / Nat.gcd p.2.den (ME L d))
 | [],p,d=>rfl
 | q::L,p,d=>Is L p _
theorem NR.keepU{b:Nat}{s s':AE}{v:AV}{l:List Nat}(h:NR b s v l)(h0:l=[]→v=.slice none 0 (some 0))(hn:s.next≤s'.next)(hf:∀j,j<s.next→OX s j→s'.heap.get j=s.heap.get j):NR b s' v l:=by
 by_cases hl:l=[]
 ·rw[h0 hl,hl];exact NR.nil b s'
 ·exact h.keep hn fun j hj=>hf j (h.lt hj).2 (h.u32 hl hj)
theorem aV:Ac Tryz.prog 22=some (R 22 0 false [.slice none 0 (some 0)],.ptr):=by kernel_rfl
def Hj (v0:AV) (b1 b2 bp bu bd:Nat) (x6 x7 fn x9 x10 x11:AV) (mk:Nat):C0:=
 Fv 16 [v0,.ptr (some (b1,0)),.ptr (some (b2,0)),.ptr (some (bp,0)),.ptr (some (bu,0)),.ptr (some (bd,0)),x6,x7,fn,x9,x10,x11] #[16,17] WV WX mk
structure mu(lo:C0)(bu bd l k b:Nat)(done:List (Int×Rat))(O:List Nat)(S:AE):Prop where
 lp:A8 S l=some lo
 ll:l<S.next
 o:O=[bu,bd,l]
 eu:∃vu,S.heap.get bu=some (R 22 0 false [vu])∧NR b S vu (AQ (KK done 0))∧(KK done 0=0→vu=.slice none 0 (some 0))
 ed:∃vd,S.heap.get bd=some (R 22 0 false [vd])∧NR b S vd (AQ (ME done 1))
 hu:KK done 0<LB ^ k
 hd:0<ME done 1∧ME done 1<LB ^ (1+done.length * k)
 hz:done≠[]→0<KK done 0
theorem mu.stab{lo:C0}{bu bd l k b:Nat}{done:List (Int×Rat)}{O:List Nat}{S S':AE}(h:mu lo bu bd l k b done O S)(hb:bu<l)(hb':bd<l)(o:Ae S.next S S'):mu lo bu bd l k b done O S':=by
 obtain⟨h1,h2,h3,⟨vu,gu,ru,zu⟩,⟨vd,gd,rd⟩,h6,h7,h8⟩:=h
 exact⟨(Cf (o.2 l h2)).trans h1,rA h2 o.1,h3,⟨vu,(o.2 bu (by omega)).trans gu,ru.old o,zu⟩,⟨vd,(o.2 bd (by omega)).trans gd,rd.old o⟩,h6,h7,h8⟩
section
variable{E:CR}
theorem aK(hE:GoodN E){v0 x6 x7 fn x9 x10 x11:AV}{b1 b2 bp bu bd mk l k b:Nat}(hbu:bu<bd)(hbd:bd<l)(hk1:1≤k){n:Int}{q:Rat}{vq:AV}{done:List (Int×Rat)}{O:List Nat}{S:AE}(hbS:b≤S.next)
  (hsz:2+(done.length+2) * k≤1000000000) (hI:mu (Hj v0 b1 b2 bp bu bd x6 x7 fn x9 x10 x11 mk) bu bd l k b done O S) (hq:QR 0 S vq q) (hq0:q≠0) (hqh:QH q k) {K:AV→AE→Prop}
  (hK:∀S' O',mu (Hj v0 b1 b2 bp bu bd x6 x7 fn x9 x10 x11 mk) bu bd l k b (done++[(n,q)]) O' S'→S.next≤S'.next→(∀j,j<S.next→j ∉ O→S'.heap.get j=S.heap.get j)→(∀j∈O',j∈O∨S.next≤j)→K (.bool true) S'):WR E l [iv n,vq] K S:=by
 obtain⟨hlp,hll,hO,⟨vu,gu,ru,zu⟩,⟨vd,gd,rd⟩,hu,⟨hd0,hd⟩,hz0⟩:=hI
 obtain⟨xx,aa,nn,kk,bb,mm,ee,evq⟩:=hq.shape
 subst evq
 have hz:Ct (Cz E.P 16) (Hj v0 b1 b2 bp bu bd x6 x7 fn x9 x10 x11 mk).var [16,17] [iv n,.agg [.bool xx,.slice aa nn kk,.slice bb mm ee]]=some [v0,.ptr (some (b1,0)),.ptr (some (b2,0)),.ptr (some (bp,0)),.ptr (some (bu,0)),.ptr (some (bd,0)),x6,x7,fn,iv n,.agg [.bool xx,.slice aa nn kk,.slice bb mm ee],x11]:=by
  rw[hE.P,Wl];rfl
 refine WR.round hlp hz (by rw[hE.P];exact kI) (by rw[hE.P];exact kJ) ?_
 refine DV ?_
 obtain⟨n2,o2,g2⟩:=Bl S ZQ
 have st:=Ai (P:=Tryz.prog) (t:=26) (cs:=[.bool xx,.slice aa nn kk,.slice bb mm ee]) Ar g2 rfl rfl rfl (by simp)
 simp only[Wj,du,Bb,Xc,st,Xy,Za,Qa,Qb,Qc,Qd,Qe,Qf,Qg,Qh,Qi,Qj,Qk,Ql,Qm,Qn,true_and,and_true,Qo,Qp,Qq,Qr,Qs,Qt,Qu,Qv,Qw,Qx,Qy,Qz,Ra,Rb,Rc,Rd,Re,Rf,Rg,Rh,Ri,Rj,Rk,Rm,Rn,Ro,Rp,Rq,Rt,Ya,Yb,Yc,Ru,Rw,Zb,Yd,Ye,Ry,Rz,Wa,Wb,Wc,Wd,We]
 generalize hs2:setObj (newObj S ZQ) S.next (R 26 0 false [.bool xx,.slice aa nn kk,.slice bb mm ee])=s2 at *
 have os2:Ae S.next S s2:=by rw[← hs2];exact o2.set (qw _) _
 have n3:s2.next=S.next+1:=by rw[← hs2];exact n2
 have g3:s2.heap.get S.next=some (BQ xx (.slice aa nn kk) (.slice bb mm ee)):=by rw[← hs2,Ww]
 refine⟨_,(Cf (os2.2 l hll)).trans hlp,rfl,DV ?_⟩
 generalize hs4:setObj s2 l _=s4
 have n4:s4.next=s2.next:=by rw[← hs4];rfl
 have f4:∀j,j≠l→s4.heap.get j=s2.heap.get j:=fun j hj=>by rw[← hs4,Wx _ hj]
 have l4:A8 s4 l=some { Hj v0 b1 b2 bp bu bd x6 x7 fn x9 x10 x11 mk with state:=.busy }:=by rw[← hs4,CK]
 have hSl:l<S.next:=hll
 have hnl:∀ {j},OX S j→j≠l:=fun hj=>by
  rintro rfl
  obtain⟨r,h1,_⟩:=hj
  have:=CV hlp
  rw[this]at h1;cases h1
 have fS4:∀j,j<S.next→OX S j→s4.heap.get j=S.heap.get j:=fun j hj hu'=>by rw[f4 j (hnl hu'),os2.2 j hj]
 have gu4:s4.heap.get bu=some (R 22 0 false [vu]):=by rw[f4 bu (by omega),os2.2 bu (by omega)];exact gu
 have gd4:s4.heap.get bd=some (R 22 0 false [vd]):=by rw[f4 bd (by omega),os2.2 bd (by omega)];exact gd
 have gc4:s4.heap.get S.next=some (BQ xx (.slice aa nn kk) (.slice bb mm ee)):=by rw[f4 _ (by omega)];exact g3
 have hq4:QR 0 s4 (.agg [.bool xx,.slice aa nn kk,.slice bb mm ee]) q:=hq.keepS (by omega) fun j hj hu'=>fS4 j hj hu'
 have ru4:NR b s4 vu (AQ (KK done 0)):=ru.keepU (fun e=>zu (by
  rcases sE (KK done 0)with h | h
  ·exact h
  ·exact absurd e (Bs (by omega)))) (by omega) fS4
 have rd4:NR b s4 vd (AQ (ME done 1)):=rd.keepU (fun e=>absurd e (Bs (by omega))) (by omega) fS4
 obtain⟨m',d',e,hm',hd',hdj,hmz⟩:=hq4
 injection e with e
 injection e with e1 e
 injection e with e2 e
 injection e with e3 _
 subst e2;subst e3
 have hnum:q.num≠0:=fun h=>hq0 (Rat.num_eq_zero.1 h)
 have hnum':0<q.num.natAbs:=by omega
 have hk0:k≤(done.length+2) * k:=tF _ (by omega)
 have hdk:(done.length+2) * k=done.length * k+k+k:=by rw[rS];omega
 have lu:=AI (P:=Tryz.prog) (t:=22) (o:=0) CG gu4 rfl
 have lm:=AI (P:=Tryz.prog) (t:=22) (o:=0+0+1) CG gc4 rfl
 simp only[Wk,dv,lu,lm,ES,Cv,Qa,Qb,Qc,Qd,Qe,Qf,Qg,Qh,Qi,Qj,Qk,Ql,Qm,Qn,true_and,and_true,Qo,Qp,Qq,Qr,Qs,Qt,Qu,Qv,Qw,Qx,Qy,Qz,Ra,Rb,Rc,Rd,Re,Rf,Rg,Rh,Ri,Rj,Rk,Rm,Rn,Ro,Rp,Rq,Rt,Ya,Yb,Yc,Ru,Rw,Zb,Yd,Ye,Ry,Rz,Wa,Wb,Wc,Wd,We]
 have lenu:=As hu
 have lenm:=As hqh.1
 refine R0 hE ru4.n32 hm'.n32 (by omega) (by omega) (AX _) (AX _) fun s5 vg o5 rg=>?_
 rw[Ab,Ab]at rg
 have h5:=o5.1
 obtain⟨ag,ng,cg,evg⟩:=rg.n32.shape
 have st5:=Bo (P:=Tryz.prog) (t:=22) (o:=0) (v:=vg) OK ((o5.2 bu (by omega)).trans gu4) (by simp) (by rw[evg];rfl)
 generalize hs6:setObj s5 bu _=s6 at st5
 have n6:s6.next=s5.next:=by rw[← hs6];rfl
 have f6:∀j,j≠bu→s6.heap.get j=s5.heap.get j:=fun j hj=>by rw[← hs6,Wx _ hj]
 have gu6:s6.heap.get bu=some (R 22 0 false [vg]):=by rw[← hs6,Ww];rfl
 have f46:∀j,j<s4.next→j≠bu→s6.heap.get j=s4.heap.get j:=fun j hj hne=>by rw[f6 j hne,o5.2 j hj]
 have hubu:∀ {j},OX s4 j→j≠bu:=fun hj=>EL gu4 (by decide) hj
 have hd6:NR 0 s6 (.slice bb mm ee) (AQ q.den):=hd'.keepU (fun e=>absurd e (Bs q.den_nz)) (by omega) fun j hj hu'=>f46 j hj (hubu hu')
 have rd6:NR b s6 vd (AQ (ME done 1)):=rd4.keepU (fun e=>absurd e (Bs (by omega))) (by omega) fun j hj hu'=>f46 j hj (hubu hu')
 have rg6:NR s4.next s6 vg (AQ (Nat.gcd (KK done 0) q.num.natAbs)):=by rw[← hs6];exact rg.set (by omega) _
 have gc6:=(f46 S.next (by omega) (by omega)).trans gc4
 have gd6:=(f46 bd (by omega) (by omega)).trans gd4
 have ld:=AI (P:=Tryz.prog) (t:=22) (o:=0+2) CG gc6 rfl
 have ldn:=AI (P:=Tryz.prog) (t:=22) (o:=0) CG gd6 rfl
 have lend:=As hqh.2
 have lenD:=As hd
 simp only[st5,dx,ld,ldn,FD,Xy,Za,Qa,Qb,Qc,Qd,Qe,Qf,Qg,Qh,Qi,Qj,Qk,Ql,Qm,Qn,true_and,and_true,Qo,Qp,Qq,Qr,Qs,Qt,Qu,Qv,Qw,Qx,Qy,Qz,Ra,Rb,Rc,Rd,Re,Rf,Rg,Rh,Ri,Rj,Rk,Rm,Rn,Ro,Rp,Rq,Rt,Ya,Yb,Yc,Ru,Rw,Zb,Yd,Ye,Ry,Rz,Wa,Wb,Wc,Wd,We]
 refine R0 hE hd6.n32 rd6.n32 (by omega) (by omega) (AX _) (AX _) fun s7 vh o7 rh=>?_
 rw[Ab,Ab]at rh
 have h7:=o7.1
 have ld7:=AI (P:=Tryz.prog) (t:=22) (o:=0+2) CG ((o7.2 S.next (by omega)).trans gc6) rfl
 refine⟨⟨Ak (by simp only[Qa,Qb,Qc,Qd,Qe,Qf,Qg,Qh,Qi,Qj,Qk,Ql,Qm,Qn,true_and,and_true,Qo,Qp,Qq,Qr,Qs,Qt,Qu,Qv,Qw,Qx,Qy,Qz,Ra,Rb,Rc,Rd,Re,Rf,Rg,Rh,Ri,Rj,Rk,Rm,Rn,Ro,Rp,Rq,Rt,Ya,Yb,Yc,Ru,Rw,Zb,Yd,Ye,Ry,Rz,Wa,Wb,Wc,Wd,We];exact ld7) (by simp only[Qa,Qb,Qc,Qd,Qe,Qf,Qg,Qh,Qi,Qj,Qk,Ql,Qm,Qn,true_and,and_true,Qo,Qp,Qq,Qr,Qs,Qt,Qu,Qv,Qw,Qx,Qy,Qz,Ra,Rb,Rc,Rd,Re,Rf,Rg,Rh,Ri,Rj,Rk,Rm,Rn,Ro,Rp,Rq,Rt,Ya,Yb,Yc,Ru,Rw,Zb,Yd,Ye,Ry,Rz,Wa,Wb,Wc,Wd,We];exact BT _ _ _),trivial⟩,?_⟩
 have hg0:0<Nat.gcd q.den (ME done 1):=Nat.gcd_pos_of_pos_right _ hd0
 have hgd:Nat.gcd q.den (ME done 1)≤q.den:=Nat.gcd_le_left _ (Nat.pos_of_ne_zero q.den_nz)
 have lenh:=As (rX hgd hqh.2)
 simp only[Qa,Qb,Qc,Qd,Qe,Qf,Qg,Qh,Qi,Qj,Qk,Ql,Qm,Qn,true_and,and_true,Qo,Qp,Qq,Qr,Qs,Qt,Qu,Qv,Qw,Qx,Qy,Qz,Ra,Rb,Rc,Rd,Re,Rf,Rg,Rh,Ri,Rj,Rk,Rm,Rn,Ro,Rp,Rq,Rt,Ya,Yb,Yc,Ru,Rw,Zb,Yd,Ye,Ry,Rz,Wa,Wb,Wc,Wd,We]
 refine RW hE (hd6.old o7).n32 rh.n32 (by omega) (by omega) (AX _) (AX _) (fun h0=>absurd h0 (by rw[Ab];omega)) fun _ s8 vx vr o8 rx rr=>?_
 rw[Ab,Ab]at rx
 have h8:=o8.1
 simp only[Qa,Qb,Qc,Qd,Qe,Qf,Qg,Qh,Qi,Qj,Qk,Ql,Qm,Qn,true_and,and_true,Qo,Qp,Qq,Qr,Qs,Qt,Qu,Qv,Qw,Qx,Qy,Qz,Ra,Rb,Rc,Rd,Re,Rf,Rg,Rh,Ri,Rj,Rk,Rm,Rn,Ro,Rp,Rq,Rt,Ya,Yb,Yc,Ru,Rw,Zb,Yd,Ye,Ry,Rz,Wa,Wb,Wc,Wd,We]
 have gd8:=(o8.2 bd (by omega)).trans ((o7.2 bd (by omega)).trans gd6)
 have ldn8:=AI (P:=Tryz.prog) (t:=22) (o:=0) CG gd8 rfl
 have hqx:q.den / Nat.gcd q.den (ME done 1)<LB ^ k:=rX (sY _ _) hqh.2
 have lenx:=As hqx
 simp only[dy,ldn8,Qa,Qb,Qc,Qd,Qe,Qf,Qg,Qh,Qi,Qj,Qk,Ql,Qm,Qn,true_and,and_true,Qo,Qp,Qq,Qr,Qs,Qt,Qu,Qv,Qw,Qx,Qy,Qz,Ra,Rb,Rc,Rd,Re,Rf,Rg,Rh,Ri,Rj,Rk,Rm,Rn,Ro,Rp,Rq,Rt,Ya,Yb,Yc,Ru,Rw,Zb,Yd,Ye,Ry,Rz,Wa,Wb,Wc,Wd,We]
 refine Nz hE ((rd6.old o7).old o8).n32 rx.n32 (by omega) (by omega) (AX _) (AX _) fun s9 vy o9 ry=>?_
 rw[Ab,Ab]at ry
 have h9:=o9.1
 obtain⟨ay,ny,cy,evy⟩:=ry.n32.shape
 have st10:=Bo (P:=Tryz.prog) (t:=22) (o:=0) (v:=vy) OK ((o9.2 bd (by omega)).trans gd8) (by simp) (by rw[evy];rfl)
 generalize hs10:setObj s9 bd _=s10 at st10
 have n10:s10.next=s9.next:=by rw[← hs10];rfl
 have f10:∀j,j≠bd→s10.heap.get j=s9.heap.get j:=fun j hj=>by rw[← hs10,Wx _ hj]
 have gd10:s10.heap.get bd=some (R 22 0 false [vy]):=by rw[← hs10,Ww];rfl
 have f69:∀j,j<s6.next→s9.heap.get j=s6.heap.get j:=fun j hj=>by rw[o9.2 j (by omega),o8.2 j (by omega),o7.2 j hj]
 have o69:Ae s6.next s6 s9:=⟨by omega,f69⟩
 have gu10:s10.heap.get bu=some (R 22 0 false [vg]):=by rw[f10 bu (by omega),f69 bu (by omega)];exact gu6
 have l10:A8 s10 l=some { Hj v0 b1 b2 bp bu bd x6 x7 fn x9 x10 x11 mk with state:=.busy }:=by
  refine(Cf ?_).trans l4
  rw[f10 l (by omega),f69 l (by omega),f46 l (by omega) (by omega)]
 simp only[st10,Xy,Za,Qa,Qb,Qc,Qd,Qe,Qf,Qg,Qh,Qi,Qj,Qk,Ql,Qm,Qn,true_and,and_true,Qo,Qp,Qq,Qr,Qs,Qt,Qu,Qv,Qw,Qx,Qy,Qz,Ra,Rb,Rc,Rd,Re,Rf,Rg,Rh,Ri,Rj,Rk,Rm,Rn,Ro,Rp,Rq,Rt,Ya,Yb,Yc,Ru,Rw,Zb,Yd,Ye,Ry,Rz,Wa,Wb,Wc,Wd,We]
 have hgcd0:0<Nat.gcd (KK done 0) q.num.natAbs:=Nat.gcd_pos_of_pos_right _ hnum'
 refine⟨_,l10,hK _ O ⟨?_,?_,hO,⟨vg,?_,?_,fun h=>?_⟩,⟨vy,?_,?_⟩,?_,⟨?_,?_⟩,fun _=>?_⟩ ?_ (fun j hj hjO=>?_) (fun j hj=>.inl hj)⟩
 ·rw[CK];rfl
 ·show l<s10.next;omega
 ·rw[Wx _ (by omega)];exact gu10
 ·rw[Gv]
  have r1:NR s4.next s10 vg (AQ (Nat.gcd (KK done 0) q.num.natAbs)):=by rw[← hs10];exact(rg6.old o69).set (by omega) _
  exact(r1.set (by omega) _).mono (by omega)
 ·rw[Gv]at h;exact absurd h (Nat.ne_of_gt hgcd0)
 ·rw[Wx _ (by omega)];exact gd10
 ·rw[Is]
  have r1:NR s8.next s10 vy (AQ (ME done 1 * (q.den / Nat.gcd q.den (ME done 1)))):=by rw[← hs10];exact ry.set (by omega) _
  exact(r1.set (by omega) _).mono (by omega)
 ·rw[Gv]
  exact rX (Nat.gcd_le_right _ hnum') hqh.1
 ·rw[Is]
  exact sW hd0 (Nat.div_pos hgd hg0)
 ·rw[Is,rL,show 1+(done.length+[(n,q)].length) * k=(1+done.length * k)+k by rw[show [(n,q)].length=1 from rfl,rS];omega,Nat.pow_add]
  exact Nat.mul_lt_mul'' hd hqx
 ·rw[Gv];exact hgcd0
 ·show S.next≤s10.next;omega
 ·rw[hO]at hjO
  simp only[tN,List.not_mem_nil,or_false,not_or]at hjO
  rw[Wx _ hjO.2.2,f10 j hjO.2.1,f69 j (by omega),f46 j (by omega) hjO.1,f4 j hjO.2.2,os2.2 j hj]
end
theorem VK(x:Bool)(a b:Option (Nat×Nat))(n m:Nat)(c d:Option Nat):B7 Tryz.prog 30 (zipIdx [0] [.agg [.bool x,.slice a n c,.slice b m d]])=some (.agg [.bool x,.slice a n c,.slice b m d,.slice none 0 (some 0),.slice none 0 (some 0)]):=by kernel_rfl
theorem VI(a:Option (Nat×Nat))(n:Nat)(c:Option Nat):B7 Tryz.prog 24 (zipIdx [1] [.slice a n c])=some (.agg [.bool false,.slice a n c]):=by kernel_rfl
theorem PC(sz:Nat)(s:AE):GL sz s none (some 0) 0:=.inl ⟨0,rfl,qw _,fun _=>rfl⟩
theorem LI.const{s:AE}{x:Bool}{a b:Option (Nat×Nat)}{n m:Nat}{c d:Option Nat}{q:Rat}{k:Nat}(h:QI s (.agg [.bool x,.slice a n c,.slice b m d]) q k):LI s (.agg [.bool x,.slice a n c,.slice b m d,.slice none 0 (some 0),.slice none 0 (some 0)]) q [] [] k:=
 ⟨x,a,n,c,b,m,d,none,some 0,none,some 0,[],rfl,h,AZ.nil,fun n hn=>(by cases hn),⟨rfl,AZ.nil,fun i r hi=>(by simp at hi)⟩,PC 1 s,PC 3 s⟩
theorem LR.keepB{b:Nat}{s s':AE}{v:AV}{C:Rat}{L:List (Int×Rat)}(h:LR b s v C L)(hn:s.next≤s'.next)(hf:∀j,b≤j→j<s.next→s'.heap.get j=s.heap.get j):LR b s' v C L:=by
 obtain⟨x,a,n,ca,d,m,cd,vv,cv,D,O1,O2,h1,hq,hL,hD,hp,b1,b2,h3,h4,h5⟩:=h
 exact⟨x,a,n,ca,d,m,cd,vv,cv,D,O1,O2,h1,hq.keep hn hf,hL,fun t ht=>⟨(hD t ht).1.keep hn hf,(hD t ht).2⟩,hp,b1.frame hn fun j hj=>hf j (h3 j hj).1 (b1.lt j hj),b2.frame hn fun j hj=>hf j (h4 j hj) (b2.lt j hj),h3,h4,h5⟩
theorem YS(T:List CD):min ((Ba T).map (·.2)).length ((Ba T).map (·.1)).length=(Ba T).length:=by
 rw[sO,sO,tM]
section
variable{E:CR}{s:AE}
theorem PE(hE:DP E){v:AV}{q:Rat}{k:Nat}(hv:QI s v q k)(hk:1≤k)(hk':2 * (1+2 * (k+2))+1≤1000000000){K:AV→AE→Prop}(hK:∀s' w,Ae s.next s s'→LR s.next s' w q (Ba [])→K w s'):WF E 23 [v] K s:=by
 have hv0:=hv
 obtain⟨x,a,n,c,b,m,d,rfl⟩:=hv.shape
 refine hE.go ke (by decide) rfl ?_
 obtain⟨n1,o1,g1,g2⟩:=D4 s (BQ x (.slice a n c) (.slice b m d)) ZL
 simp only[qE,eg,Xa,Xh,Dm,Xc,Ap,Qa,Qb,Qc,Qd,Qe,Qf,Qg,Qh,Qi,Qj,Qk,Ql,Qm,Qn,true_and,and_true,Qo,Qp,Qq,Qr,Qs,Qt,Qu,Qv,Qw,Qx,Qy,Qz,Ra,Rb,Rc,Rd,Re,Rf,Rg,Rh,Ri,Rj,Rk,Rm,Rn,Ro,Rp,Rq,Rt,Ya,Yb,Yc,Ru,Rw,Zb,Yd,Ye,Ry,Rz,Wa,Wb,Wc,Wd,We]
 generalize newObj (newObj s (BQ x (.slice a n c) (.slice b m d))) ZL=s1 at *
 have l1:=AG (P:=Tryz.prog) (t:=26) BH Ar g1 rfl
 simp only[eh,l1,VK,Qa,Qb,Qc,Qd,Qe,Qf,Qg,Qh,Qi,Qj,Qk,Ql,Qm,Qn,true_and,and_true,Qo,Qp,Qq,Qr,Qs,Qt,Qu,Qv,Qw,Qx,Qy,Qz,Ra,Rb,Rc,Rd,Re,Rf,Rg,Rh,Ri,Rj,Rk,Rm,Rn,Ro,Rp,Rq,Rt,Ya,Yb,Yc,Ru,Rw,Zb,Yd,Ye,Ry,Rz,Wa,Wb,Wc,Wd,We]
 refine Mk hE.toGoodN (LI.const (hv0.old o1)) hk hk' fun s2 v2 mi T o2 r2 hT=>?_
 have hT0:T=[]:=by cases hT<;>rfl
 subst hT0
 have h1:=o1.1
 have h2:=o2.1
 simp only[Qa,Qb,Qc,Qd,Qe,Qf,Qg,Qh,Qi,Qj,Qk,Ql,Qm,Qn,true_and,and_true,Qo,Qp,Qq,Qr,Qs,Qt,Qu,Qv,Qw,Qx,Qy,Qz,Ra,Rb,Rc,Rd,Re,Rf,Rg,Rh,Ri,Rj,Rk,Rm,Rn,Ro,Rp,Rq,Rt,Ya,Yb,Yc,Ru,Rw,Zb,Yd,Ye,Ry,Rz,Wa,Wb,Wc,Wd,We]
 refine I9 hE r2 h2 (by show 1+(0+1) * (k+2)≤1000000000;omega) (by decide) fun s3 w o3 r3=>?_
 obtain⟨x7,a7,n7,c7,b7,m7,d7,av7,nv7,cv7,ac7,nc7,cc7,rfl⟩:=r3.shape
 have g3:s3.heap.get (s.next+1)=some ZL:=by rw[o3.2 _ (by omega),o2.2 _ (by omega)];exact g2
 obtain⟨st4,ld4⟩:=CF (cs0:=[.bool false,.slice none 0 (some 0),.slice none 0 (some 0),.slice none 0 (some 0),.slice none 0 (some 0)]) rfl (x:=x7) (a:=a7) (n:=n7) (c:=c7) (b:=b7) (m:=m7) (d:=d7) (av:=av7) (nv:=nv7) (cv:=cv7) (ac:=ac7) (nc:=nc7) (cc:=cc7) g3
 simp only[st4,ld4,AO,Xy,Za,Qa,Qb,Qc,Qd,Qe,Qf,Qg,Qh,Qi,Qj,Qk,Ql,Qm,Qn,true_and,and_true,Qo,Qp,Qq,Qr,Qs,Qt,Qu,Qv,Qw,Qx,Qy,Qz,Ra,Rb,Rc,Rd,Re,Rf,Rg,Rh,Ri,Rj,Rk,Rm,Rn,Ro,Rp,Rq,Rt,Ya,Yb,Yc,Ru,Rw,Zb,Yd,Ye,Ry,Rz,Wa,Wb,Wc,Wd,We]
 have o12:=o1.trans (o2.mono h1)
 have o13:=o12.trans (o3.mono o12.1)
 exact hK _ _ (o13.set (by omega) _) ((r3.set (by omega) _).mono (by omega))
def WhV(C:Rat)(vs:List Int)(cs:List Rat)(C':Rat)(T:List CD):Prop:=∃T0,Ev 1 vs cs [] T0∧(BE T0).Nodup ∧
  ((Ba T0=[]∧C'=((FG C.num:Int):Rat)∧T=[]) ∨
   (Ba T0≠[]∧C'=C * JH false (ME (Ba T0) 1) (KK (Ba T0) 0)∧Ev (JH false (ME (Ba T0) 1) (KK (Ba T0) 0)) ((Ba T0).map (·.1)) ((Ba T0).map (·.2)) [] T))
theorem QN(hE:DP E){vl:AV}{C:Rat}{vs:List Int}{cs:List Rat}{kl M k1 kr:Nat}(hl:LI s vl C vs cs kl)(hkl:1≤kl)(hM:min cs.length vs.length=M)(hM6:M≤1000000)(hk1:k1=1+(M+1) * (kl+2))(hkr:kr=1+M * k1+k1)
    (hb:2 * (1+(M+2) * (k1+kr+1))+1≤1000000000) {K:AV→AE→Prop}
    (hK:∀s' w C' T,Ae s.next s s'→LR s.next s' w C' (Ba T)→WhV C vs cs C' T→QH C' (1+(M+1) * (k1+kr+1))→(∀t∈T,QH t.2.1 (1+(M+1) * (k1+kr+1)))→(BE T).Nodup→T.length≤M→K w s'):WF E 16 [vl] K s:=by
  have hl0:=hl
  obtain⟨x1,a1,n1,c1,b1,m1,d1,xv,nv,xcv,xc,nc,xcc,ea⟩:=hl.shape
  subst ea
  have hMk:k1+kr+1≤(M+1) * (k1+kr+1):=tF _ (by omega)
  have hM2:(M+2) * (k1+kr+1)=(M+1) * (k1+kr+1)+(k1+kr+1):=rK _ _
  have hMl:(M+2) * (kl+2)=(M+1) * (kl+2)+(kl+2):=rK _ _
  have hMlk:kl+2≤(M+1) * (kl+2):=tF _ (by omega)
  refine hE.go kU (by decide) rfl ?_
  obtain⟨nn1,o1,g1,g2⟩:=D4 s (BL x1 (.slice a1 n1 c1) (.slice b1 m1 d1) (.slice xv nv xcv) (.slice xc nc xcc)) ZL
  simp only[py,dk,Xa,Xh,Dm,Xc,Ap,Qa,Qb,Qc,Qd,Qe,Qf,Qg,Qh,Qi,Qj,Qk,Ql,Qm,Qn,true_and,and_true,Qo,Qp,Qq,Qr,Qs,Qt,Qu,Qv,Qw,Qx,Qy,Qz,Ra,Rb,Rc,Rd,Re,Rf,Rg,Rh,Ri,Rj,Rk,Rm,Rn,Ro,Rp,Rq,Rt,Ya,Yb,Yc,Ru,Rw,Zb,Yd,Ye,Ry,Rz,Wa,Wb,Wc,Wd,We]
  generalize newObj (newObj s (BL x1 (.slice a1 n1 c1) (.slice b1 m1 d1) (.slice xv nv xcv) (.slice xc nc xcc))) ZL=s1 at *
  have h1:=o1.1
  have l1:=AG (P:=Tryz.prog) (t:=30) B6 Bp g1 rfl
  simp only[dm,l1,Qa,Qb,Qc,Qd,Qe,Qf,Qg,Qh,Qi,Qj,Qk,Ql,Qm,Qn,true_and,and_true,Qo,Qp,Qq,Qr,Qs,Qt,Qu,Qv,Qw,Qx,Qy,Qz,Ra,Rb,Rc,Rd,Re,Rf,Rg,Rh,Ri,Rj,Rk,Rm,Rn,Ro,Rp,Rq,Rt,Ya,Yb,Yc,Ru,Rw,Zb,Yd,Ye,Ry,Rz,Wa,Wb,Wc,Wd,We]
  refine Mk hE.toGoodN (hl0.old o1) hkl (by rw[hM];omega) fun s2 v2 mi T o2 r2 hT=>?_
  rw[hM,← hk1]at r2
  have h2:=o2.1
  have hTl:=hT.len
  rw[hM]at hTl
  simp only[sL,rE]at hTl
  have r2':=r2
  obtain⟨x,a,n,ca,d,m,cd,rfl,hP⟩:=r2
  obtain⟨n5,o5,g5⟩:=Bl s2 ZP
  have st:=Ey (cs0:=[.bool false,.slice none 0 (some 0),.slice none 0 (some 0),.map none]) rfl (x:=x) (a:=a) (n:=n) (c:=ca) (b:=d) (m:=m) (d:=cd) (mi:=mi) g5
  simp only[DQ,Xc,st,Xy,Za,Qa,Qb,Qc,Qd,Qe,Qf,Qg,Qh,Qi,Qj,Qk,Ql,Qm,Qn,true_and,and_true,Qo,Qp,Qq,Qr,Qs,Qt,Qu,Qv,Qw,Qx,Qy,Qz,Ra,Rb,Rc,Rd,Re,Rf,Rg,Rh,Ri,Rj,Rk,Rm,Rn,Ro,Rp,Rq,Rt,Ya,Yb,Yc,Ru,Rw,Zb,Yd,Ye,Ry,Rz,Wa,Wb,Wc,Wd,We]
  generalize hs4:setObj (newObj s2 ZP) s2.next (BP x (.slice a n ca) (.slice d m cd) mi)=s4
  have o24:Ae s2.next s2 s4:=by rw[← hs4];exact o5.set (qw _) _
  have n6:s4.next=s2.next+1:=by rw[← hs4];exact n5
  have q4:s4.heap.get s2.next=some (BP x (.slice a n ca) (.slice d m cd) mi):=by rw[← hs4,Ww]
  simp only[dp,Qa,Qb,Qc,Qd,Qe,Qf,Qg,Qh,Qi,Qj,Qk,Ql,Qm,Qn,true_and,and_true,Qo,Qp,Qq,Qr,Qs,Qt,Qu,Qv,Qw,Qx,Qy,Qz,Ra,Rb,Rc,Rd,Re,Rf,Rg,Rh,Ri,Rj,Rk,Rm,Rn,Ro,Rp,Rq,Rt,Ya,Yb,Yc,Ru,Rw,Zb,Yd,Ye,Ry,Rz,Wa,Wb,Wc,Wd,We]
  refine Nk hE.toGoodN (n:=1) (by decide) fun s5 vd o45 rd=>?_
  have h45:=o45.1
  obtain⟨n7,o57,gu0,gd0⟩:=D4 s5 (R 22 0 false [.slice none 0 (some 0)]) (R 22 0 false [.slice none 0 (some 0)])
  simp only[aV,Xc,Ap,Qa,Qb,Qc,Qd,Qe,Qf,Qg,Qh,Qi,Qj,Qk,Ql,Qm,Qn,true_and,and_true,Qo,Qp,Qq,Qr,Qs,Qt,Qu,Qv,Qw,Qx,Qy,Qz,Ra,Rb,Rc,Rd,Re,Rf,Rg,Rh,Ri,Rj,Rk,Rm,Rn,Ro,Rp,Rq,Rt,Ya,Yb,Yc,Ru,Rw,Zb,Yd,Ye,Ry,Rz,Wa,Wb,Wc,Wd,We]
  generalize newObj (newObj s5 (R 22 0 false [.slice none 0 (some 0)])) (R 22 0 false [.slice none 0 (some 0)])=s7 at *
  obtain⟨ad,nd,cdd,evd⟩:=rd.n32.shape
  have st8:=Bo (P:=Tryz.prog) (t:=22) (o:=0) (v:=.slice none 0 (some 0)) OK gu0 (by simp) rfl
  generalize hs8:setObj s7 s5.next _=s8 at st8
  have n8:s8.next=s7.next:=by rw[← hs8];rfl
  have gu8:s8.heap.get s5.next=some (R 22 0 false [.slice none 0 (some 0)]):=by rw[← hs8,Ww];rfl
  have f8:∀j,j≠s5.next→s8.heap.get j=s7.heap.get j:=fun j hj=>by rw[← hs8,Wx _ hj]
  have st9:=Bo (P:=Tryz.prog) (t:=22) (o:=0) (v:=vd) OK ((f8 (s5.next+1) (by omega)).trans gd0) (by simp) (by rw[evd];rfl)
  generalize hs9:setObj s8 (s5.next+1) _=s9 at st9
  have n9:s9.next=s8.next:=by rw[← hs9];rfl
  have gd9:s9.heap.get (s5.next+1)=some (R 22 0 false [vd]):=by rw[← hs9,Ww];rfl
  have f9:∀j,j≠s5.next+1→s9.heap.get j=s8.heap.get j:=fun j hj=>by rw[← hs9,Wx _ hj]
  have gu9:=(f9 s5.next (by omega)).trans gu8
  have o59:Ae s5.next s5 s9:=⟨by omega,fun j hj=>by rw[f9 j (by omega),f8 j (by omega),o57.2 j hj]⟩
  have o29:Ae s2.next s2 s9:=(o24.trans (o45.mono o24.1)).trans (o59.mono (by omega))
  have q9:=(o59.2 s2.next (by omega)).trans ((o45.2 s2.next (by omega)).trans q4)
  have l9:=AG (P:=Tryz.prog) (t:=56) H9 GI q9 rfl
  simp only[st8,st9,dr,l9,Xy,Za,Qa,Qb,Qc,Qd,Qe,Qf,Qg,Qh,Qi,Qj,Qk,Ql,Qm,Qn,true_and,and_true,Qo,Qp,Qq,Qr,Qs,Qt,Qu,Qv,Qw,Qx,Qy,Qz,Ra,Rb,Rc,Rd,Re,Rf,Rg,Rh,Ri,Rj,Rk,Rm,Rn,Ro,Rp,Rq,Rt,Ya,Yb,Yc,Ru,Rw,Zb,Yd,Ye,Ry,Rz,Wa,Wb,Wc,Wd,We]
  refine QU hE.toGoodN fun s10 nn10 o910 g10=>?_
  simp only[Qa,Qb,Qc,Qd,Qe,Qf,Qg,Qh,Qi,Qj,Qk,Ql,Qm,Qn,true_and,and_true,Qo,Qp,Qq,Qr,Qs,Qt,Qu,Qv,Qw,Qx,Qy,Qz,Ra,Rb,Rc,Rd,Re,Rf,Rg,Rh,Ri,Rj,Rk,Rm,Rn,Ro,Rp,Rq,Rt,Ya,Yb,Yc,Ru,Rw,Zb,Yd,Ye,Ry,Rz,Wa,Wb,Wc,Wd,We]
  refine WC.range rfl ?_
  show WF E 77 [.yield (s10.next+1),.ptr (some (s9.next,0))] _ (newObj (newObj s10 .mark) (.loop (Hj _ s.next (s.next+1) s2.next s5.next (s5.next+1) _ _ _ _ _ _ s10.next)))
  generalize hlo:Hj _ s.next (s.next+1) s2.next s5.next (s5.next+1) _ _ _ _ _ _ s10.next=lo
  have hm1:(newObj s10 .mark).next=s10.next+1:=rfl
  generalize hs11:newObj (newObj s10 .mark) (.loop lo)=s11
  have n11:s11.next=s10.next+2:=by rw[← hs11];rfl
  have f11:∀j,j<s10.next→s11.heap.get j=s10.heap.get j:=fun j hj=>by rw[← hs11,AP,if_neg (by omega),AP,if_neg (by omega)]
  have hmk11:s11.heap.get s10.next=some .mark:=by rw[← hs11,AP,if_neg (by omega),AP,if_pos rfl]
  have hlp11:A8 s11 (s10.next+1)=some lo:=by
    unfold A8
    rw[← hs11,AP,if_pos hm1.symm]
  have o1011:Ae s10.next s10 s11:=⟨by omega,f11⟩
  have o911:Ae s9.next s9 s11:=o910.trans (o1011.mono o910.1)
  have o211:Ae s2.next s2 s11:=o29.trans (o911.mono o29.1)
  have hrd11:NR s2.next s11 vd (AQ 1):=((rd.old o59).old o911).mono (by omega)
  have hMk1:M * k1≤(M+1) * (k1+kr+1):=by
    have:M * k1≤kr:=by omega
    omega
  refine NJ hE (sA:=s2) (pb:=s9.next) (l:=s10.next+1) hP.map (by omega) (by omega) o211 ((f11 _ (by omega)).trans g10) (by omega) (O0:=[s5.next,s5.next+1,s10.next+1]) (by simp;omega) (fun j hj=>by simp at hj;omega)
    (mu lo s5.next (s5.next+1) (s10.next+1) k1 s2.next) (fun done O S S' h o=>h.stab (by omega) (by omega) o) (fun done O S h j hj=>by have h1:=h.ll;rw[h.o]at hj;simp at hj;omega) (fun done n' q vq O S K2 hI hoS hq hmem hdl hK2=>?_)
    ⟨hlp11,by omega,rfl,⟨_,(o911.2 s5.next (by omega)).trans gu9,by show NR _ _ _ (AQ 0);rw[BJ];exact NR.nil _ _,fun _=>rfl⟩,⟨vd,(o911.2 (s5.next+1) (by omega)).trans gd9,hrd11⟩,sQ BG,⟨Nat.one_pos,by show 1<LB ^ (1+0 * k1);rw[sN];decide⟩,fun h=>absurd rfl h⟩ fun v S O hoS hnS hfS hI=>?_
  · subst hlo
    obtain⟨e1,e2,_⟩:=(hP.map.old hoS).ent _ hmem
    have hS:=hoS.1
    have hdk:(done.length+2) * k1≤(M+2) * (k1+kr+1):=rW (by omega) (by omega)
    exact aK hE.toGoodN (by omega) (by omega) (by omega) hS (by omega) hI (e1.mono (rB _)) hq e2 hK2
  obtain⟨hlp,hll,hO,⟨vu,gu,ru,zu⟩,⟨vd',gd,rd'⟩,hu,⟨hd0,hd⟩,hz⟩:=hI
  refine⟨lo,hlp,by rw[← hlo];rfl,?_⟩
  have hpd:lo.pending=none:=by rw[← hlo];rfl
  rw[hpd]
  generalize hs12:setObj S (s10.next+1) _=s12
  have n12:s12.next=S.next:=by rw[← hs12];rfl
  have f12:∀j,j≠s10.next+1→s12.heap.get j=S.heap.get j:=fun j hj=>by rw[← hs12,Wx _ hj]
  have hSn:=hoS.1
  have o212:Ae s2.next s2 s12:=by rw[← hs12];exact hoS.set (by omega) _
  have gu12:=(f12 s5.next (by omega)).trans gu
  have gd12:=(f12 (s5.next+1) (by omega)).trans gd
  have hnl:∀ {j},OX S j→j≠s10.next+1:=fun hj=>by
    rintro rfl
    obtain⟨r,h1,_⟩:=hj
    have:=CV hlp
    rw[this]at h1;cases h1
  have ru12:NR s2.next s12 vu (AQ (KK (Ba T) 0)):=ru.keepU (fun e=>zu (by
    rcases sE (KK (Ba T) 0)with h | h
    · exact h
    · exact absurd e (Bs (by omega)))) (by omega) fun j hj hu'=>f12 j (hnl hu')
  have rd12:NR s2.next s12 vd' (AQ (ME (Ba T) 1)):=rd'.keepU (fun e=>absurd e (Bs (by omega))) (by omega) fun j hj hu'=>f12 j (hnl hu')
  have hmk12:s12.heap.get s10.next=some .mark:=by rw[f12 _ (by omega),hfS _ (by omega) (by simp;omega)];exact hmk11
  have gp12:s12.heap.get s2.next=some (BP x (.slice a n ca) (.slice d m cd) mi):=by
    rw[f12 _ (by omega),hfS _ (by omega) (by simp;omega),f11 _ (by omega),o910.2 _ (by omega)];exact q9
  have gz12:s12.heap.get (s.next+1)=some ZL:=by
    rw[o212.2 _ (by omega),o2.2 _ (by omega)];exact g2
  have o02:Ae s.next s s2:=o1.trans (o2.mono h1)
  have o012:Ae s.next s s12:=o02.trans (o212.mono o02.1)
  obtain⟨au,capu,evu,_,_⟩:=ru12.n32
  obtain⟨ad',capd,evd',_,_⟩:=rd12.n32
  have lu:=AI (P:=Tryz.prog) (t:=22) (o:=0) CG gu12 rfl
  have ldn:=AI (P:=Tryz.prog) (t:=22) (o:=0) CG gd12 rfl
  have hcl:=IG T
  by_cases hc:Ba T=[]
  · have hU0 : KK  (Ba   T) 0 = 0 := by rw [hc]; rfl
    have hvu:=zu hU0
    subst hvu
    have hlen0:(AQ (KK (Ba T) 0)).length=0:=by rw[hU0,BJ];rfl
    have lC:AA Tryz.prog s12 26 (.ptr (some (s2.next,0+0)))=some (.agg [.bool x,.slice a n ca,.slice d m cd]):=Ag (o:=0) (n:=3) BH Ar gp12 (by simp)
    simp only[H5,Wi,lu,AN Tryz.underlying22,Wc,show decide (((0:Nat):Int)=0)=true from rfl,WY,lC,Kr,Qa,Qb,Qc,Qd,Qe,Qf,Qg,Qh,Qi,Qj,Qk,Ql,Qm,Qn,true_and,and_true,Qo,Qp,Qq,Qr,Qs,Qt,Qu,Qv,Qw,Qx,Qy,Qz,Ra,Rb,Rc,Rd,Re,Rf,Rg,Rh,Ri,Rj,Rk,Rm,Rn,Ro,Rp,Rq,Rt,Ya,Yb,Yc,Ru,Rw,Zb,Yd,Ye,Ry,Rz,Wa,Wb,Wc,Wd,We]
    have hCQ:QI s12 (.agg [.bool x,.slice a n ca,.slice d m cd]) C k1:=(hP.cq.old o212).qi hP.ch
    refine Px hE.toGoodN hCQ (by omega) fun s13 o13=>?_
    simp only[Qa,Qb,Qc,Qd,Qe,Qf,Qg,Qh,Qi,Qj,Qk,Ql,Qm,Qn,true_and,and_true,Qo,Qp,Qq,Qr,Qs,Qt,Qu,Qv,Qw,Qx,Qy,Qz,Ra,Rb,Rc,Rd,Re,Rf,Rg,Rh,Ri,Rj,Rk,Rm,Rn,Ro,Rp,Rq,Rt,Ya,Yb,Yc,Ru,Rw,Zb,Yd,Ye,Ry,Rz,Wa,Wb,Wc,Wd,We]
    have hsg:FG C.num=0∨FG C.num=1∨FG C.num=-1:=by
      rcases F2 C.num with⟨_,h⟩ | ⟨_,h⟩ | ⟨_,h⟩
      · exact .inr (.inr h)
      · exact .inl h
      · exact .inr (.inl h)
    refine FZ hE.toGoodN hsg fun s14 v14 o14 r14=>?_
    have hsq:QH ((FG C.num:Int):Rat) 1:=by
      rcases hsg with h | h | h<;>rw[h]<;>exact⟨by decide,by decide⟩
    simp only[Qa,Qb,Qc,Qd,Qe,Qf,Qg,Qh,Qi,Qj,Qk,Ql,Qm,Qn,true_and,and_true,Qo,Qp,Qq,Qr,Qs,Qt,Qu,Qv,Qw,Qx,Qy,Qz,Ra,Rb,Rc,Rd,Re,Rf,Rg,Rh,Ri,Rj,Rk,Rm,Rn,Ro,Rp,Rq,Rt,Ya,Yb,Yc,Ru,Rw,Zb,Yd,Ye,Ry,Rz,Wa,Wb,Wc,Wd,We]
    refine PE hE (r14.qi hsq) (by decide) (by decide) fun s15 w o15 r15=>?_
    have h13:=o13.1
    have h14:=o14.1
    have h15:=o15.1
    obtain⟨x7,a7,n7',c7,b7,m7,d7,av7,nv7,cv7,ac7,nc7,cc7,rfl⟩:=r15.shape
    have f1215:∀j,j<s12.next→s15.heap.get j=s12.heap.get j:=fun j hj=>by rw[o15.2 j (by omega),o14.2 j (by omega),o13.2 j hj]
    have gz15:s15.heap.get (s.next+1)=some ZL:=(f1215 _ (by omega)).trans gz12
    obtain⟨st16,_⟩:=CF (cs0:=[.bool false,.slice none 0 (some 0),.slice none 0 (some 0),.slice none 0 (some 0),.slice none 0 (some 0)]) rfl (x:=x7) (a:=a7) (n:=n7') (c:=c7) (b:=b7) (m:=m7) (d:=d7) (av:=av7) (nv:=nv7) (cv:=cv7) (ac:=ac7) (nc:=nc7) (cc:=cc7) gz15
    generalize hs16:setObj s15 (s.next+1) (BL x7 (.slice a7 n7' c7) (.slice b7 m7 d7) (.slice av7 nv7 cv7) (.slice ac7 nc7 cc7))=s16 at st16
    have f16:∀j,j≠s.next+1→s16.heap.get j=s15.heap.get j:=fun j hj=>by rw[← hs16,Wx _ hj]
    have g16:s16.heap.get (s.next+1)=some (BL x7 (.slice a7 n7' c7) (.slice b7 m7 d7) (.slice av7 nv7 cv7) (.slice ac7 nc7 cc7)):=by rw[← hs16,Ww]
    have n16:s16.next=s15.next:=by rw[← hs16];rfl
    obtain⟨s17,u1,u2,u3⟩:=EA [s10.next] s16 (by simp) (fun m h=>by rw[List.mem_singleton.1 h,f16 _ (by omega),f1215 _ (by omega)];exact hmk12)
    have u3':∀j,j≠s10.next→s17.heap.get j=s16.heap.get j:=fun j hj=>u3 j (by simpa using hj)
    have l17:=AG (P:=Tryz.prog) (t:=30) B6 Bp ((u3' (s.next+1) (by omega)).trans g16) rfl
    simp only[st16,u1,l17,AO,Xy,Za,Qa,Qb,Qc,Qd,Qe,Qf,Qg,Qh,Qi,Qj,Qk,Ql,Qm,Qn,true_and,and_true,Qo,Qp,Qq,Qr,Qs,Qt,Qu,Qv,Qw,Qx,Qy,Qz,Ra,Rb,Rc,Rd,Re,Rf,Rg,Rh,Ri,Rj,Rk,Rm,Rn,Ro,Rp,Rq,Rt,Ya,Yb,Yc,Ru,Rw,Zb,Yd,Ye,Ry,Rz,Wa,Wb,Wc,Wd,We]
    have r17:LR s14.next s17 (.agg [.bool x7,.slice a7 n7' c7,.slice b7 m7 d7,.slice av7 nv7 cv7,.slice ac7 nc7 cc7]) ((FG C.num:Int):Rat) (Ba []):=by
      have r16:=r15.set (show s.next+1<s14.next by omega) (BL x7 (.slice a7 n7' c7) (.slice b7 m7 d7) (.slice av7 nv7 cv7) (.slice ac7 nc7 cc7))
      rw[hs16]at r16
      exact r16.keepB (by omega) fun j hj _=>u3' j (by omega)
    exact hK s17 _ _ [] ⟨by omega,fun j hj=>by rw[u3' j (by omega),f16 j (by omega),f1215 j (by omega),o012.2 j hj]⟩ (r17.mono (by omega)) ⟨T,hT,hP.map.nd,.inl ⟨hc,rfl,rfl⟩⟩ (hsq.le (by omega)) (fun t ht=>by cases ht) (by simp[BE]) (rB _)
  · have hU0 := hz hc
    have hlen0:decide (((AQ (KK (Ba T) 0)).length:Int)=0)=false:=decide_eq_false (by
      have:=List.length_pos_iff.2 (Bs (show KK (Ba T) 0≠0 by omega))
      omega)
    subst evu;subst evd'
    have l12:=AG (P:=Tryz.prog) (t:=56) H9 GI gp12 rfl
    simp only[H5,Wi,lu,AN Tryz.underlying22,Wc,hlen0,WZ,ldn,l12,VI,NQ,Qa,Qb,Qc,Qd,Qe,Qf,Qg,Qh,Qi,Qj,Qk,Ql,Qm,Qn,true_and,and_true,Qo,Qp,Qq,Qr,Qs,Qt,Qu,Qv,Qw,Qx,Qy,Qz,Ra,Rb,Rc,Rd,Re,Rf,Rg,Rh,Ri,Rj,Rk,Rm,Rn,Ro,Rp,Rq,Rt,Ya,Yb,Yc,Ru,Rw,Zb,Yd,Ye,Ry,Rz,Wa,Wb,Wc,Wd,We]
    have hPV12:PV s1.next s12 (.agg [.bool x,.slice a n ca,.slice d m cd,.map (some mi)]) mi C T k1:=⟨_,_,_,_,_,_,_,rfl,hP.old o212⟩
    refine I9 hE hPV12 (by omega) (by omega) (by omega) fun s13 w o13 r13=>?_
    have h13:=o13.1
    have lu13:=AI (P:=Tryz.prog) (t:=22) (o:=0) CG ((o13.2 s5.next (by omega)).trans gu12) rfl
    have ld13:=AI (P:=Tryz.prog) (t:=22) (o:=0) CG ((o13.2 (s5.next+1) (by omega)).trans gd12) rfl
    refine⟨⟨Ak (by simp only[Qa,Qb,Qc,Qd,Qe,Qf,Qg,Qh,Qi,Qj,Qk,Ql,Qm,Qn,true_and,and_true,Qo,Qp,Qq,Qr,Qs,Qt,Qu,Qv,Qw,Qx,Qy,Qz,Ra,Rb,Rc,Rd,Re,Rf,Rg,Rh,Ri,Rj,Rk,Rm,Rn,Ro,Rp,Rq,Rt,Ya,Yb,Yc,Ru,Rw,Zb,Yd,Ye,Ry,Rz,Wa,Wb,Wc,Wd,We];exact lu13) (by simp only[Qa,Qb,Qc,Qd,Qe,Qf,Qg,Qh,Qi,Qj,Qk,Ql,Qm,Qn,true_and,and_true,Qo,Qp,Qq,Qr,Qs,Qt,Qu,Qv,Qw,Qx,Qy,Qz,Ra,Rb,Rc,Rd,Re,Rf,Rg,Rh,Ri,Rj,Rk,Rm,Rn,Ro,Rp,Rq,Rt,Ya,Yb,Yc,Ru,Rw,Zb,Yd,Ye,Ry,Rz,Wa,Wb,Wc,Wd,We];exact BT _ _ _),Ak (by simp only[Qa,Qb,Qc,Qd,Qe,Qf,Qg,Qh,Qi,Qj,Qk,Ql,Qm,Qn,true_and,and_true,Qo,Qp,Qq,Qr,Qs,Qt,Qu,Qv,Qw,Qx,Qy,Qz,Ra,Rb,Rc,Rd,Re,Rf,Rg,Rh,Ri,Rj,Rk,Rm,Rn,Ro,Rp,Rq,Rt,Ya,Yb,Yc,Ru,Rw,Zb,Yd,Ye,Ry,Rz,Wa,Wb,Wc,Wd,We];exact ld13) (by simp only[Qa,Qb,Qc,Qd,Qe,Qf,Qg,Qh,Qi,Qj,Qk,Ql,Qm,Qn,true_and,and_true,Qo,Qp,Qq,Qr,Qs,Qt,Qu,Qv,Qw,Qx,Qy,Qz,Ra,Rb,Rc,Rd,Re,Rf,Rg,Rh,Ri,Rj,Rk,Rm,Rn,Ro,Rp,Rq,Rt,Ya,Yb,Yc,Ru,Rw,Zb,Yd,Ye,Ry,Rz,Wa,Wb,Wc,Wd,We];exact BT _ _ _),trivial⟩,?_⟩
    have hTk:∀p∈Ba T,QH p.2 k1:=Nf (by omega) fun t ht=>(hP.map.ent t ht).2.1
    have hwL:=r13.li hP.ch hTk
    have lenu:=As hu
    have lend:=As hd
    have hdk:(Ba T).length * k1≤M * k1:=rF _ (by omega)
    have hr:QI s13 (.agg [.bool false,.slice ad' (AQ (ME (Ba T) 1)).length capd,.slice au (AQ (KK (Ba T) 0)).length capu]) (JH false (ME (Ba T) 1) (KK (Ba T) 0)) kr:=
      ⟨false,_,_,AQ (ME (Ba T) 1),AQ (KK (Ba T) 0),rfl,(rd12.old o13).n32,(ru12.old o13).n32,AX _,AX _,by omega,by omega,by rw[Ab,Ab]⟩
    have hmm:=YS T
    have hm2:(min ((Ba T).map (·.2)).length ((Ba T).map (·.1)).length+2) * (k1+kr+1)≤(M+2) * (k1+kr+1):=rF _ (by omega)
    have hm1':(min ((Ba T).map (·.2)).length ((Ba T).map (·.1)).length+1) * (k1+kr+1)≤(M+1) * (k1+kr+1):=rF _ (by omega)
    simp only[Qa,Qb,Qc,Qd,Qe,Qf,Qg,Qh,Qi,Qj,Qk,Ql,Qm,Qn,true_and,and_true,Qo,Qp,Qq,Qr,Qs,Qt,Qu,Qv,Qw,Qx,Qy,Qz,Ra,Rb,Rc,Rd,Re,Rf,Rg,Rh,Ri,Rj,Rk,Rm,Rn,Ro,Rp,Rq,Rt,Ya,Yb,Yc,Ru,Rw,Zb,Yd,Ye,Ry,Rz,Wa,Wb,Wc,Wd,We]
    refine Mw hE hwL hr (by omega) (by omega) (by omega) (by omega) fun s15 w15 T' o15 r15 t1 hc15 hT15 hnd15=>?_
    have h15:=o15.1
    have hT'l:=t1.len
    simp only[sL,rE]at hT'l
    obtain⟨x7,a7,n7',c7,b7,m7,d7,av7,nv7,cv7,ac7,nc7,cc7,rfl⟩:=r15.shape
    have f1215:∀j,j<s12.next→s15.heap.get j=s12.heap.get j:=fun j hj=>by rw[o15.2 j (by omega),o13.2 j hj]
    have gz15:s15.heap.get (s.next+1)=some ZL:=(f1215 _ (by omega)).trans gz12
    obtain⟨st16,_⟩:=CF (cs0:=[.bool false,.slice none 0 (some 0),.slice none 0 (some 0),.slice none 0 (some 0),.slice none 0 (some 0)]) rfl (x:=x7) (a:=a7) (n:=n7') (c:=c7) (b:=b7) (m:=m7) (d:=d7) (av:=av7) (nv:=nv7) (cv:=cv7) (ac:=ac7) (nc:=nc7) (cc:=cc7) gz15
    generalize hs16:setObj s15 (s.next+1) (BL x7 (.slice a7 n7' c7) (.slice b7 m7 d7) (.slice av7 nv7 cv7) (.slice ac7 nc7 cc7))=s16 at st16
    have f16:∀j,j≠s.next+1→s16.heap.get j=s15.heap.get j:=fun j hj=>by rw[← hs16,Wx _ hj]
    have g16:s16.heap.get (s.next+1)=some (BL x7 (.slice a7 n7' c7) (.slice b7 m7 d7) (.slice av7 nv7 cv7) (.slice ac7 nc7 cc7)):=by rw[← hs16,Ww]
    have n16:s16.next=s15.next:=by rw[← hs16];rfl
    obtain⟨s17,u1,u2,u3⟩:=EA [s10.next] s16 (by simp) (fun m h=>by rw[List.mem_singleton.1 h,f16 _ (by omega),f1215 _ (by omega)];exact hmk12)
    have u3':∀j,j≠s10.next→s17.heap.get j=s16.heap.get j:=fun j hj=>u3 j (by simpa using hj)
    have l17:=AG (P:=Tryz.prog) (t:=30) B6 Bp ((u3' (s.next+1) (by omega)).trans g16) rfl
    simp only[st16,u1,l17,AO,Xy,Za,Qa,Qb,Qc,Qd,Qe,Qf,Qg,Qh,Qi,Qj,Qk,Ql,Qm,Qn,true_and,and_true,Qo,Qp,Qq,Qr,Qs,Qt,Qu,Qv,Qw,Qx,Qy,Qz,Ra,Rb,Rc,Rd,Re,Rf,Rg,Rh,Ri,Rj,Rk,Rm,Rn,Ro,Rp,Rq,Rt,Ya,Yb,Yc,Ru,Rw,Zb,Yd,Ye,Ry,Rz,Wa,Wb,Wc,Wd,We]
    have r17:LR s13.next s17 (.agg [.bool x7,.slice a7 n7' c7,.slice b7 m7 d7,.slice av7 nv7 cv7,.slice ac7 nc7 cc7]) (C * JH false (ME (Ba T) 1) (KK (Ba T) 0)) (Ba T'):=by
      have r16:=r15.set (show s.next+1<s13.next by omega) (BL x7 (.slice a7 n7' c7) (.slice b7 m7 d7) (.slice av7 nv7 cv7) (.slice ac7 nc7 cc7))
      rw[hs16]at r16
      exact r16.keepB (by omega) fun j hj _=>u3' j (by omega)
    exact hK s17 _ _ T' ⟨by omega,fun j hj=>by rw[u3' j (by omega),f16 j (by omega),f1215 j (by omega),o012.2 j hj]⟩ (r17.mono (by omega)) ⟨T,hT,hP.map.nd,.inr ⟨hc,rfl,t1⟩⟩ (hc15.le (by omega)) (fun t ht=>(hT15 t ht).le (by omega)) hnd15 (by omega)
end
theorem PS(n:Int)(q:Rat)(v:AV):∀T:List CD,Dp n (DL n q v T)=some (q,v)
 | []=>by show(if n=n then some (q,v)else none)=_;rw[if_pos rfl]
 | t::T=>by
  show Dp n (if n=t.1 then (n,q,v)::T else t::DL n q v T)=_
  by_cases h:n=t.1
  ·rw[if_pos h]
   show(if n=n then some (q,v)else Dp n T)=_
   rw[if_pos rfl]
  ·rw[if_neg h]
   show(if n=t.1 then some t.2 else Dp n (DL n q v T))=_
   rw[if_neg h];exact PS n q v T
section
variable{E:CR}{s:AE}
theorem mI(hE:GoodN E){x:Bool}{a b:Option (Nat×Nat)}{n m:Nat}{c d:Option Nat}{K:AV→AE→Prop}(hK:∀s',Ae s.next s s'→K (.agg [.bool x,.slice a n c,.slice b m d]) s'):WF E 63 [.agg [.bool x,.slice a n c,.slice b m d]] K s:=by
 refine hE.go lP (by decide) rfl ?_
 obtain⟨n1,o1,g1,g2⟩:=D4 s (BQ x (.slice a n c) (.slice b m d)) ZQ
 simp only[qZ,iH,Xa,Xh,Bb,Xc,Ap,Qa,Qb,Qc,Qd,Qe,Qf,Qg,Qh,Qi,Qj,Qk,Ql,Qm,Qn,true_and,and_true,Qo,Qp,Qq,Qr,Qs,Qt,Qu,Qv,Qw,Qx,Qy,Qz,Ra,Rb,Rc,Rd,Re,Rf,Rg,Rh,Ri,Rj,Rk,Rm,Rn,Ro,Rp,Rq,Rt,Ya,Yb,Yc,Ru,Rw,Zb,Yd,Ye,Ry,Rz,Wa,Wb,Wc,Wd,We]
 generalize newObj (newObj s (BQ x (.slice a n c) (.slice b m d))) ZQ=s1 at *
 have l1:=AG (P:=Tryz.prog) (t:=26) BH Ar g1 rfl
 obtain⟨st,ld⟩:=Bj (cs0:=[.bool false,.slice none 0 (some 0),.slice none 0 (some 0)]) rfl (x:=x) (a:=a) (n:=n) (c:=c) (b:=b) (m:=m) (d:=d) g2
 simp only[iI,l1,st,ld,AO,Xy,Za,Qa,Qb,Qc,Qd,Qe,Qf,Qg,Qh,Qi,Qj,Qk,Ql,Qm,Qn,true_and,and_true,Qo,Qp,Qq,Qr,Qs,Qt,Qu,Qv,Qw,Qx,Qy,Qz,Ra,Rb,Rc,Rd,Re,Rf,Rg,Rh,Ri,Rj,Rk,Rm,Rn,Ro,Rp,Rq,Rt,Ya,Yb,Yc,Ru,Rw,Zb,Yd,Ye,Ry,Rz,Wa,Wb,Wc,Wd,We]
 exact hK _ (o1.set (by omega) _)
theorem RO(hE:GoodN E){b mi:Nat}{T:List CD}{k:Nat}{x:Bool}{a d:Option (Nat×Nat)}{na m:Nat}{ca cd:Option Nat}{n:Int}(hn:i64 n)(hM:GF b s mi T k)(hbs:b≤s.next)
  {K:AV→AE→Prop} (hK:∀r s' w,s.next≤s'.next→(∀j,j<s.next→j≠mi→s'.heap.get j=s.heap.get j)→s'.heap.get mi=some (.map 3 (Fl (DL n (CB n T) w T)))→QR b s' w (CB n T)→K r s'):
  WF E 62 [.agg [.bool x,.slice a na ca,.slice d m cd,.map (some mi)],iv n,.func 63 [] []] K s:=by
 refine hE.go YW (by decide) rfl ?_
 obtain⟨n1,o1,g1⟩:=Bl s (R 56 0 false [.bool x,.slice a na ca,.slice d m cd,.map (some mi)])
 simp only[pI,X4,X5,Xa,Xh,Xc,Fm,Qa,Qb,Qc,Qd,Qe,Qf,Qg,Qh,Qi,Qj,Qk,Ql,Qm,Qn,true_and,and_true,Qo,Qp,Qq,Qr,Qs,Qt,Qu,Qv,Qw,Qx,Qy,Qz,Ra,Rb,Rc,Rd,Re,Rf,Rg,Rh,Ri,Rj,Rk,Rm,Rn,Ro,Rp,Rq,Rt,Ya,Yb,Yc,Ru,Rw,Zb,Yd,Ye,Ry,Rz,Wa,Wb,Wc,Wd,We]
 generalize newObj s (R 56 0 false [.bool x,.slice a na ca,.slice d m cd,.map (some mi)])=s1 at *
 have hM1:=hM.old o1
 have l1:=AI (P:=Tryz.prog) (t:=54) (o:=0+3) KS g1 rfl
 have lk:=K9 hM1.obj hn
 have hmlt:=hM.lt
 have hmlo:=hM.lo
 have key:∀ (s4:AE) (va:AV) (x2:Bool) (a2 b2:Option (Nat×Nat)) (n2 m2:Nat) (c2 d2:Option Nat) (y4 y5 y6:AV),Ae s1.next s1 s4→s1.next+1≤s4.next→va=.agg [.bool x2,.slice a2 n2 c2,.slice b2 m2 d2]→s4.heap.get s1.next=some (BQ x2 (.slice a2 n2 c2) (.slice b2 m2 d2))→QR b s4 va (CB n T) →
   Qb E Ov (fun v s'=>Po (Db s' []) fun s'=>K (.tuple []) s') [] [.agg [.bool x,.slice a na ca,.slice d m cd,.map (some mi)],iv n,.func 63 [] [],.ptr (some (s.next,0)),.ptr (some (s1.next,0)),y5,y6] s4:=by
  intro s4 va x2 a2 b2 n2 m2 c2 d2 y4 y5 y6 o4 h4 hva g4 hq
  have o14:=o1.trans (o4.mono o1.1)
  have k1:=(o4.2 s.next (by omega)).trans g1
  have l1:=AI (P:=Tryz.prog) (t:=54) (o:=0+3) KS k1 rfl
  have l2:=AG (P:=Tryz.prog) (t:=26) BH Ar g4 rfl
  subst hva
  simp only[Ov,l1,l2,Fm,si,sj,Qa,Qb,Qc,Qd,Qe,Qf,Qg,Qh,Qi,Qj,Qk,Ql,Qm,Qn,true_and,and_true,Qo,Qp,Qq,Qr,Qs,Qt,Qu,Qv,Qw,Qx,Qy,Qz,Ra,Rb,Rc,Rd,Re,Rf,Rg,Rh,Ri,Rj,Rk,Rm,Rn,Ro,Rp,Rq,Rt,Ya,Yb,Yc,Ru,Rw,Zb,Yd,Ye,Ry,Rz,Wa,Wb,Wc,Wd,We]
  refine mI hE fun s5 o5=>?_
  have h5:=o5.1
  have k5:=(o5.2 s.next (by omega)).trans k1
  refine⟨⟨Ak (by simp only[Qa,Qb,Qc,Qd,Qe,Qf,Qg,Qh,Qi,Qj,Qk,Ql,Qm,Qn,true_and,and_true,Qo,Qp,Qq,Qr,Qs,Qt,Qu,Qv,Qw,Qx,Qy,Qz,Ra,Rb,Rc,Rd,Re,Rf,Rg,Rh,Ri,Rj,Rk,Rm,Rn,Ro,Rp,Rq,Rt,Ya,Yb,Yc,Ru,Rw,Zb,Yd,Ye,Ry,Rz,Wa,Wb,Wc,Wd,We];exact AI (o:=0+3) KS k5 rfl) (PJ mi),trivial⟩,?_⟩
  have o15:=o14.trans (o5.mono o14.1)
  have hM5:=hM.old o15
  have up:=QL hM5.obj hn (CB n T) (.agg [.bool x2,.slice a2 n2 c2,.slice b2 m2 d2])
  simp only[up,Xz,Za,Qa,Qb,Qc,Qd,Qe,Qf,Qg,Qh,Qi,Qj,Qk,Ql,Qm,Qn,true_and,and_true,Qo,Qp,Qq,Qr,Qs,Qt,Qu,Qv,Qw,Qx,Qy,Qz,Ra,Rb,Rc,Rd,Re,Rf,Rg,Rh,Ri,Rj,Rk,Rm,Rn,Ro,Rp,Rq,Rt,Ya,Yb,Yc,Ru,Rw,Zb,Yd,Ye,Ry,Rz,Wa,Wb,Wc,Wd,We]
  have hrow:∀j,OX s5 j→j≠mi:=fun j hj=>EK hM5.obj hj
  refine hK _ _ (.agg [.bool x2,.slice a2 n2 c2,.slice b2 m2 d2]) ?_ (fun j hj hne=>?_) (Ww _ _ _) ((hq.old o5).keepS (qw _) fun j _ hj=>Wx _ (hrow j hj))
  ·exact o15.1
  ·rw[Wx _ hne];exact o15.2 j hj
 simp only[l1,lk,Zb,Bb,Xc,Xy,Qa,Qb,Qc,Qd,Qe,Qf,Qg,Qh,Qi,Qj,Qk,Ql,Qm,Qn,true_and,and_true,Qo,Qp,Qq,Qr,Qs,Qt,Qu,Qv,Qw,Qx,Qy,Qz,Ra,Rb,Rc,Rd,Re,Rf,Rg,Rh,Ri,Rj,Rk,Rm,Rn,Ro,Rp,Rq,Rt,Ya,Yb,Yc,Ru,Rw,Zb,Yd,Ye,Ry,Rz,Wa,Wb,Wc,Wd,We]
 obtain⟨n2,o2,g2⟩:=Bl s1 ZQ
 generalize hs2:newObj s1 ZQ=s2 at *
 cases hg:Dp n T with
 | none =>
  have st:=Ai (P:=Tryz.prog) (t:=26) (cs:=[.bool false,.slice none 0 (some 0),.slice none 0 (some 0)]) Ar g2 rfl rfl rfl (by simp)
  generalize hs3:setObj s2 s1.next (R 26 0 false [.bool false,.slice none 0 (some 0),.slice none 0 (some 0)])=s3 at st
  have o3:Ae s1.next s1 s3:=by rw[← hs3];exact o2.set (qw _) _
  have g3:s3.heap.get s1.next=some ZQ:=by rw[← hs3,Ww]
  have n3:s3.next=s1.next+1:=by rw[← hs3];exact n2
  simp only[Ou,X6,Option.isSome,st,We,Bool.not_false,Za,Qa,Qb,Qc,Qd,Qe,Qf,Qg,Qh,Qi,Qj,Qk,Ql,Qm,Qn,true_and,and_true,Qo,Qp,Qq,Qr,Qs,Qt,Qu,Qv,Qw,Qx,Qy,Qz,Ra,Rb,Rc,Rd,Re,Rf,Rg,Rh,Ri,Rj,Rk,Rm,Rn,Ro,Rp,Rq,Rt,Ya,Yb,Yc,Ru,Rw,Zb,Yd,Ye,Ry,Rz,Wa,Wb,Wc,Wd,We]
  refine LG hE fun s4 v4 o4 r4=>?_
  have h4:=o4.1
  obtain⟨x2,a2,n2',c2,b2,m2,d2,rfl⟩:=r4.shape
  have st4:=Ai (P:=Tryz.prog) (t:=26) (cs:=[.bool x2,.slice a2 n2' c2,.slice b2 m2 d2]) Ar ((o4.2 s1.next (by omega)).trans g3) rfl rfl rfl (by simp)
  simp only[st4,Xy,Za,Qa,Qb,Qc,Qd,Qe,Qf,Qg,Qh,Qi,Qj,Qk,Ql,Qm,Qn,true_and,and_true,Qo,Qp,Qq,Qr,Qs,Qt,Qu,Qv,Qw,Qx,Qy,Qz,Ra,Rb,Rc,Rd,Re,Rf,Rg,Rh,Ri,Rj,Rk,Rm,Rn,Ro,Rp,Rq,Rt,Ya,Yb,Yc,Ru,Rw,Zb,Yd,Ye,Ry,Rz,Wa,Wb,Wc,Wd,We]
  have hv0:CB n T=0:=by unfold CB;rw[hg]
  refine key _ _ x2 a2 b2 n2' m2 c2 d2 (iv 0) _ _ ((o3.trans (o4.mono o3.1)).set (qw _) _) (by show s1.next+1≤s4.next;omega) rfl (Ww _ _ _) ?_
  rw[hv0]
  exact(r4.set (by omega) _).mono (by have:=o1.1;omega)
 | some pq =>
  have hmem:=E1 hg
  obtain⟨e1,e2,_⟩:=hM1.ent _ hmem
  obtain⟨x2,a2,n2',c2,b2,m2,d2,hv2⟩:=e1.shape
  simp only at hv2 e1 e2
  have st:=Ai (P:=Tryz.prog) (t:=26) (cs:=[.bool x2,.slice a2 n2' c2,.slice b2 m2 d2]) Ar g2 rfl rfl rfl (by simp)
  rw[← hv2]at st
  generalize hs3:setObj s2 s1.next (R 26 0 false [.bool x2,.slice a2 n2' c2,.slice b2 m2 d2])=s3 at st
  have o3:Ae s1.next s1 s3:=by rw[← hs3];exact o2.set (qw _) _
  have g3:s3.heap.get s1.next=some (BQ x2 (.slice a2 n2' c2) (.slice b2 m2 d2)):=by rw[← hs3,Ww]
  have n3:s3.next=s1.next+1:=by rw[← hs3];exact n2
  simp only[Ou,Option.isSome,st,We,Bool.not_true,Za,Qa,Qb,Qc,Qd,Qe,Qf,Qg,Qh,Qi,Qj,Qk,Ql,Qm,Qn,true_and,and_true,Qo,Qp,Qq,Qr,Qs,Qt,Qu,Qv,Qw,Qx,Qy,Qz,Ra,Rb,Rc,Rd,Re,Rf,Rg,Rh,Ri,Rj,Rk,Rm,Rn,Ro,Rp,Rq,Rt,Ya,Yb,Yc,Ru,Rw,Zb,Yd,Ye,Ry,Rz,Wa,Wb,Wc,Wd,We]
  have hv0:CB n T=pq.1:=by unfold CB;rw[hg]
  refine key _ pq.2 x2 a2 b2 n2' m2 c2 d2 (iv 0) _ _ o3 (by omega) hv2 g3 ?_
  rw[hv0]
  exact e1.old o3
theorem bG(hE:GoodN E){vl:AV}{C:Rat}{vs:List Int}{cs:List Rat}{kl:Nat}{n:Int}(hn:i64 n)(hl:LI s vl C vs cs kl)(hkl:1≤kl)(hb:2 * (1+(min cs.length vs.length+2) * (kl+2))+1≤1000000000){K:AV→AE→Prop}
  (hK:∀s' w T,Ae s.next s s'→Ev 1 vs cs [] T→QR s.next s' w (CB n T)→QH (CB n T) (1+(min cs.length vs.length+1) * (kl+2))→K w s'):WF E 25 [vl,iv n] K s:=by
 have hl0:=hl
 obtain⟨x1,a1,n1,c1,b1,m1,d1,xv,nv,xcv,xc,nc,xcc,ea⟩:=hl.shape
 subst ea
 refine hE.go kg (by decide) rfl ?_
 obtain⟨nn1,o1,g1,g2⟩:=D4 s (BL x1 (.slice a1 n1 c1) (.slice b1 m1 d1) (.slice xv nv xcv) (.slice xc nc xcc)) ZQ
 simp only[qG,fC,Xa,Xh,Bb,Xc,Ap,Qa,Qb,Qc,Qd,Qe,Qf,Qg,Qh,Qi,Qj,Qk,Ql,Qm,Qn,true_and,and_true,Qo,Qp,Qq,Qr,Qs,Qt,Qu,Qv,Qw,Qx,Qy,Qz,Ra,Rb,Rc,Rd,Re,Rf,Rg,Rh,Ri,Rj,Rk,Rm,Rn,Ro,Rp,Rq,Rt,Ya,Yb,Yc,Ru,Rw,Zb,Yd,Ye,Ry,Rz,Wa,Wb,Wc,Wd,We]
 generalize newObj (newObj s (BL x1 (.slice a1 n1 c1) (.slice b1 m1 d1) (.slice xv nv xcv) (.slice xc nc xcc))) ZQ=s1 at *
 have h1:=o1.1
 have l1:=AG (P:=Tryz.prog) (t:=30) B6 Bp g1 rfl
 simp only[fD,l1,Qa,Qb,Qc,Qd,Qe,Qf,Qg,Qh,Qi,Qj,Qk,Ql,Qm,Qn,true_and,and_true,Qo,Qp,Qq,Qr,Qs,Qt,Qu,Qv,Qw,Qx,Qy,Qz,Ra,Rb,Rc,Rd,Re,Rf,Rg,Rh,Ri,Rj,Rk,Rm,Rn,Ro,Rp,Rq,Rt,Ya,Yb,Yc,Ru,Rw,Zb,Yd,Ye,Ry,Rz,Wa,Wb,Wc,Wd,We]
 refine Mk hE (hl0.old o1) hkl hb fun s2 v2 mi T o2 r2 hT=>?_
 have h2:=o2.1
 obtain⟨x,a,na,ca,d,m,cd,rfl,hP⟩:=r2
 obtain⟨n5,o5,g5⟩:=Bl s2 ZP
 have st:=Ey (cs0:=[.bool false,.slice none 0 (some 0),.slice none 0 (some 0),.map none]) rfl (x:=x) (a:=a) (n:=na) (c:=ca) (b:=d) (m:=m) (d:=cd) (mi:=mi) g5
 simp only[DQ,Xc,st,Xy,Za,Qa,Qb,Qc,Qd,Qe,Qf,Qg,Qh,Qi,Qj,Qk,Ql,Qm,Qn,true_and,and_true,Qo,Qp,Qq,Qr,Qs,Qt,Qu,Qv,Qw,Qx,Qy,Qz,Ra,Rb,Rc,Rd,Re,Rf,Rg,Rh,Ri,Rj,Rk,Rm,Rn,Ro,Rp,Rq,Rt,Ya,Yb,Yc,Ru,Rw,Zb,Yd,Ye,Ry,Rz,Wa,Wb,Wc,Wd,We]
 generalize hs4:setObj (newObj s2 ZP) s2.next (BP x (.slice a na ca) (.slice d m cd) mi)=s4
 have o24:Ae s2.next s2 s4:=by rw[← hs4];exact o5.set (qw _) _
 have n6:s4.next=s2.next+1:=by rw[← hs4];exact n5
 have q4:s4.heap.get s2.next=some (BP x (.slice a na ca) (.slice d m cd) mi):=by rw[← hs4,Ww]
 have l4:=AG (P:=Tryz.prog) (t:=56) H9 GI q4 rfl
 simp only[fE,l4,Qa,Qb,Qc,Qd,Qe,Qf,Qg,Qh,Qi,Qj,Qk,Ql,Qm,Qn,true_and,and_true,Qo,Qp,Qq,Qr,Qs,Qt,Qu,Qv,Qw,Qx,Qy,Qz,Ra,Rb,Rc,Rd,Re,Rf,Rg,Rh,Ri,Rj,Rk,Rm,Rn,Ro,Rp,Rq,Rt,Ya,Yb,Yc,Ru,Rw,Zb,Yd,Ye,Ry,Rz,Wa,Wb,Wc,Wd,We]
 have hmlt:=hP.map.lt
 have hmlo:=hP.map.lo
 refine RO hE hn (hP.map.old o24) (by omega) fun r s5 w h5 f5 gm rw'=>?_
 have q5:=(f5 s2.next (by omega) (by omega)).trans q4
 have l5:=AI (P:=Tryz.prog) (t:=54) (o:=0+3) KS q5 rfl
 have lk:=Me gm hn (PS n (CB n T) w T)
 obtain⟨x3,a3,n3,c3,b3,m3,d3,rfl⟩:=rw'.shape
 have gz:s5.heap.get (s.next+1)=some ZQ:=by rw[f5 _ (by omega) (by omega),o24.2 _ (by omega),o2.2 _ (by omega)];exact g2
 obtain⟨st6,ld6⟩:=Bj (cs0:=[.bool false,.slice none 0 (some 0),.slice none 0 (some 0)]) rfl (x:=x3) (a:=a3) (n:=n3) (c:=c3) (b:=b3) (m:=m3) (d:=d3) gz
 simp only[fF,l5,lk,st6,ld6,Fm,AO,Xy,Za,Qa,Qb,Qc,Qd,Qe,Qf,Qg,Qh,Qi,Qj,Qk,Ql,Qm,Qn,true_and,and_true,Qo,Qp,Qq,Qr,Qs,Qt,Qu,Qv,Qw,Qx,Qy,Qz,Ra,Rb,Rc,Rd,Re,Rf,Rg,Rh,Ri,Rj,Rk,Rm,Rn,Ro,Rp,Rq,Rt,Ya,Yb,Yc,Ru,Rw,Zb,Yd,Ye,Ry,Rz,Wa,Wb,Wc,Wd,We]
 refine hK _ _ T ⟨by show s.next≤s5.next;omega,fun j hj=>?_⟩ hT ((rw'.set (by omega) _).mono (by omega)) (Tt hP.map (by omega) n)
 rw[Wx _ (by omega),f5 j (by omega) (by omega),o24.2 j (by omega),o2.2 j (by omega),o1.2 j hj]
theorem mW(hE:GoodN E){vn vd:AV}{z y:Int}{kn kd:Nat}(hn:BI s vn z kn)(hd:BI s vd y kd)(hy:0<y)(hkn:kn≤1000000000)(hkd:kd≤1000000000){K:AV→AE→Prop}(hK:∀s' w,Ae s.next s s'→QR s.next s' w (mkRat z y.natAbs)→K (.tuple [w,iv 0]) s'):WF E 59 [vn,vd] K s:=by
 have hn0:=hn
 have hd0:=hd
 obtain⟨ng,mn,ln,rfl,hn1,_⟩:=hn
 obtain⟨dg,md,ld,rfl,HI,hds,hdl,hdv⟩:=hd
 obtain⟨an,nn,cn,rfl⟩:=hn1.shape
 obtain⟨ad,nd,cd,rfl⟩:=HI.shape
 refine hE.go lL (by decide) rfl ?_
 obtain⟨n1,o1,g1,g2,g3⟩:=LK s (R 24 0 false [.bool ng,.slice an nn cn]) (R 24 0 false [.bool dg,.slice ad nd cd]) ZQ
 simp only[qX,gt,Xa,Xh,Bb,Xc,Ap,Qa,Qb,Qc,Qd,Qe,Qf,Qg,Qh,Qi,Qj,Qk,Ql,Qm,Qn,true_and,and_true,Qo,Qp,Qq,Qr,Qs,Qt,Qu,Qv,Qw,Qx,Qy,Qz,Ra,Rb,Rc,Rd,Re,Rf,Rg,Rh,Ri,Rj,Rk,Rm,Rn,Ro,Rp,Rq,Rt,Ya,Yb,Yc,Ru,Rw,Zb,Yd,Ye,Ry,Rz,Wa,Wb,Wc,Wd,We]
 generalize newObj (newObj (newObj s (R 24 0 false [.bool ng,.slice an nn cn])) (R 24 0 false [.bool dg,.slice ad nd cd])) ZQ=s1 at *
 have h1:=o1.1
 have l2:=AG (P:=Tryz.prog) (t:=24) Dl Cl g2 rfl
 have hsg:FG y=1:=by
  rcases F2 y with⟨h,_⟩ | ⟨h,_⟩ | ⟨_,h⟩
  ·omega
  ·omega
  ·exact h
 simp only[gv,l2,Qa,Qb,Qc,Qd,Qe,Qf,Qg,Qh,Qi,Qj,Qk,Ql,Qm,Qn,true_and,and_true,Qo,Qp,Qq,Qr,Qs,Qt,Qu,Qv,Qw,Qx,Qy,Qz,Ra,Rb,Rc,Rd,Re,Rf,Rg,Rh,Ri,Rj,Rk,Rm,Rn,Ro,Rp,Rq,Rt,Ya,Yb,Yc,Ru,Rw,Zb,Yd,Ye,Ry,Rz,Wa,Wb,Wc,Wd,We]
 refine KX hE (hd0.old o1) hkd fun s2 o2=>?_
 have h2:=o2.1
 have l2':=AG (P:=Tryz.prog) (t:=24) Dl Cl ((o2.2 _ (by omega)).trans g2) rfl
 simp only[hsg,Wc,show decide ((1:Int)=0)=false from rfl,gw,l2',Qa,Qb,Qc,Qd,Qe,Qf,Qg,Qh,Qi,Qj,Qk,Ql,Qm,Qn,true_and,and_true,Qo,Qp,Qq,Qr,Qs,Qt,Qu,Qv,Qw,Qx,Qy,Qz,Ra,Rb,Rc,Rd,Re,Rf,Rg,Rh,Ri,Rj,Rk,Rm,Rn,Ro,Rp,Rq,Rt,Ya,Yb,Yc,Ru,Rw,Zb,Yd,Ye,Ry,Rz,Wa,Wb,Wc,Wd,We]
 have o02:=o1.trans (o2.mono h1)
 refine KX hE (hd0.old o02) hkd fun s3 o3=>?_
 have h3:=o3.1
 have o03:=o02.trans (o3.mono o02.1)
 have k1:=(o3.2 s.next (by omega)).trans ((o2.2 s.next (by omega)).trans g1)
 have k2:=(o3.2 (s.next+1) (by omega)).trans ((o2.2 (s.next+1) (by omega)).trans g2)
 have l1:=AG (P:=Tryz.prog) (t:=24) Dl Cl k1 rfl
 have lm:=AI (P:=Tryz.prog) (t:=22) (o:=0+1) CG k2 rfl
 simp only[hsg,Ry,show decide ((1:Int)<0)=false from rfl,gx,l1,lm,Cv,Qa,Qb,Qc,Qd,Qe,Qf,Qg,Qh,Qi,Qj,Qk,Ql,Qm,Qn,true_and,and_true,Qo,Qp,Qq,Qr,Qs,Qt,Qu,Qv,Qw,Qx,Qy,Qz,Ra,Rb,Rc,Rd,Re,Rf,Rg,Rh,Ri,Rj,Rk,Rm,Rn,Ro,Rp,Rq,Rt,Ya,Yb,Yc,Ru,Rw,Zb,Yd,Ye,Ry,Rz,Wa,Wb,Wc,Wd,We]
 refine Cc hE (HI.old o03) (by omega) fun s4 vt o4 rt=>?_
 have h4:=o4.1
 have l1':=AG (P:=Tryz.prog) (t:=24) Dl Cl ((o4.2 _ (by omega)).trans k1) rfl
 refine⟨⟨Ak (by simp only[Qa,Qb,Qc,Qd,Qe,Qf,Qg,Qh,Qi,Qj,Qk,Ql,Qm,Qn,true_and,and_true,Qo,Qp,Qq,Qr,Qs,Qt,Qu,Qv,Qw,Qx,Qy,Qz,Ra,Rb,Rc,Rd,Re,Rf,Rg,Rh,Ri,Rj,Rk,Rm,Rn,Ro,Rp,Rq,Rt,Ya,Yb,Yc,Ru,Rw,Zb,Yd,Ye,Ry,Rz,Wa,Wb,Wc,Wd,We];exact l1') (GW ..),trivial⟩,?_⟩
 rw[Br hds]at rt
 have hlv:AH ld=y.natAbs:=by rw[← hdv,DC]
 have hll:=As (n:=AH ld) (k:=ld.length) (Cp hds)
 have o04:=o03.trans (o4.mono o03.1)
 simp only[Qa,Qb,Qc,Qd,Qe,Qf,Qg,Qh,Qi,Qj,Qk,Ql,Qm,Qn,true_and,and_true,Qo,Qp,Qq,Qr,Qs,Qt,Qu,Qv,Qw,Qx,Qy,Qz,Ra,Rb,Rc,Rd,Re,Rf,Rg,Rh,Ri,Rj,Rk,Rm,Rn,Ro,Rp,Rq,Rt,Ya,Yb,Yc,Ru,Rw,Zb,Yd,Ye,Ry,Rz,Wa,Wb,Wc,Wd,We]
 refine D7 hE (hn0.old o04) rt.n32 hkn (by omega) (AX _) (by rw[Ab,hlv];omega) fun s5 w o5 rw'=>?_
 rw[Ab,hlv]at rw'
 have h5:=o5.1
 obtain⟨x3,a3,n3,c3,b3,m3,d3,rfl⟩:=rw'.shape
 have gz:s5.heap.get (s.next+1+1)=some ZQ:=by rw[o5.2 _ (by omega),o4.2 _ (by omega),o3.2 _ (by omega),o2.2 _ (by omega)];exact g3
 obtain⟨st6,ld6⟩:=Bj (cs0:=[.bool false,.slice none 0 (some 0),.slice none 0 (some 0)]) rfl (x:=x3) (a:=a3) (n:=n3) (c:=c3) (b:=b3) (m:=m3) (d:=d3) gz
 simp only[st6,ld6,AO,Xy,Za,Qa,Qb,Qc,Qd,Qe,Qf,Qg,Qh,Qi,Qj,Qk,Ql,Qm,Qn,true_and,and_true,Qo,Qp,Qq,Qr,Qs,Qt,Qu,Qv,Qw,Qx,Qy,Qz,Ra,Rb,Rc,Rd,Re,Rf,Rg,Rh,Ri,Rj,Rk,Rm,Rn,Ro,Rp,Rq,Rt,Ya,Yb,Yc,Ru,Rw,Zb,Yd,Ye,Ry,Rz,Wa,Wb,Wc,Wd,We]
 have o05:=o04.trans (o5.mono o04.1)
 exact hK _ _ (o05.set (by omega) _) ((rw'.set (by omega) _).mono (by omega))
theorem ZY(hE:GoodN E){K:AV→AE→Prop}(hK:∀s' w,Ae s.next s s'→QR s.next s' w 1→K w s'):WF E 19 [iv 1,iv 1] K s:=by
 refine hE.go kW (by decide) rfl ?_
 obtain⟨n1,o1,g1⟩:=Bl s ZQ
 simp only[qA,eJ,Bb,Xc,Qa,Qb,Qc,Qd,Qe,Qf,Qg,Qh,Qi,Qj,Qk,Ql,Qm,Qn,true_and,and_true,Qo,Qp,Qq,Qr,Qs,Qt,Qu,Qv,Qw,Qx,Qy,Qz,Ra,Rb,Rc,Rd,Re,Rf,Rg,Rh,Ri,Rj,Rk,Rm,Rn,Ro,Rp,Rq,Rt,Ya,Yb,Yc,Ru,Rw,Zb,Yd,Ye,Ry,Rz,Wa,Wb,Wc,Wd,We]
 generalize newObj s ZQ=s1 at *
 have h1:=o1.1
 simp only[eK,Qa,Qb,Qc,Qd,Qe,Qf,Qg,Qh,Qi,Qj,Qk,Ql,Qm,Qn,true_and,and_true,Qo,Qp,Qq,Qr,Qs,Qt,Qu,Qv,Qw,Qx,Qy,Qz,Ra,Rb,Rc,Rd,Re,Rf,Rg,Rh,Ri,Rj,Rk,Rm,Rn,Ro,Rp,Rq,Rt,Ya,Yb,Yc,Ru,Rw,Zb,Yd,Ye,Ry,Rz,Wa,Wb,Wc,Wd,We]
 refine IA hE (n:=1) (.inr (.inl rfl)) fun s2 v2 o2 r2=>?_
 have h2:=o2.1
 simp only[Qa,Qb,Qc,Qd,Qe,Qf,Qg,Qh,Qi,Qj,Qk,Ql,Qm,Qn,true_and,and_true,Qo,Qp,Qq,Qr,Qs,Qt,Qu,Qv,Qw,Qx,Qy,Qz,Ra,Rb,Rc,Rd,Re,Rf,Rg,Rh,Ri,Rj,Rk,Rm,Rn,Ro,Rp,Rq,Rt,Ya,Yb,Yc,Ru,Rw,Zb,Yd,Ye,Ry,Rz,Wa,Wb,Wc,Wd,We]
 refine IA hE (n:=1) (.inr (.inl rfl)) fun s3 v3 o3 r3=>?_
 have h3:=o3.1
 simp only[Qa,Qb,Qc,Qd,Qe,Qf,Qg,Qh,Qi,Qj,Qk,Ql,Qm,Qn,true_and,and_true,Qo,Qp,Qq,Qr,Qs,Qt,Qu,Qv,Qw,Qx,Qy,Qz,Ra,Rb,Rc,Rd,Re,Rf,Rg,Rh,Ri,Rj,Rk,Rm,Rn,Ro,Rp,Rq,Rt,Ya,Yb,Yc,Ru,Rw,Zb,Yd,Ye,Ry,Rz,Wa,Wb,Wc,Wd,We]
 refine mW hE ((r2.bi (k:=1) (by decide)).old o3) (r3.bi (k:=1) (by decide)) (by decide) (by decide) (by decide) fun s4 w o4 rw'=>?_
 have h4:=o4.1
 have e1:mkRat 1 (1:Int).natAbs=1:=by decide
 rw[e1]at rw'
 obtain⟨n5,o5,g5⟩:=Bl s4 ZQ
 obtain⟨x3,a3,n3,c3,b3,m3,d3,rfl⟩:=rw'.shape
 obtain⟨st5,_⟩:=Bj (cs0:=[.bool false,.slice none 0 (some 0),.slice none 0 (some 0)]) rfl (x:=x3) (a:=a3) (n:=n3) (c:=c3) (b:=b3) (m:=m3) (d:=d3) g5
 simp only[Bb,Xc,st5,Xy,Za,Qa,Qb,Qc,Qd,Qe,Qf,Qg,Qh,Qi,Qj,Qk,Ql,Qm,Qn,true_and,and_true,Qo,Qp,Qq,Qr,Qs,Qt,Qu,Qv,Qw,Qx,Qy,Qz,Ra,Rb,Rc,Rd,Re,Rf,Rg,Rh,Ri,Rj,Rk,Rm,Rn,Ro,Rp,Rq,Rt,Ya,Yb,Yc,Ru,Rw,Zb,Yd,Ye,Ry,Rz,Wa,Wb,Wc,Wd,We]
 generalize hs6:setObj (newObj s4 ZQ) s4.next (BQ x3 (.slice a3 n3 c3) (.slice b3 m3 d3))=s6
 have o46:Ae s4.next s4 s6:=by rw[← hs6];exact o5.set (qw _) _
 have n6:s6.next=s4.next+1:=by rw[← hs6];exact n5
 have g6:s6.heap.get s4.next=some (BQ x3 (.slice a3 n3 c3) (.slice b3 m3 d3)):=by rw[← hs6,Ww]
 have l6:=AG (P:=Tryz.prog) (t:=26) BH Ar g6 rfl
 have gz:s6.heap.get s.next=some ZQ:=by rw[o46.2 _ (by omega),o4.2 _ (by omega),o3.2 _ (by omega),o2.2 _ (by omega)];exact g1
 obtain⟨st7,ld7⟩:=Bj (cs0:=[.bool false,.slice none 0 (some 0),.slice none 0 (some 0)]) rfl (x:=x3) (a:=a3) (n:=n3) (c:=c3) (b:=b3) (m:=m3) (d:=d3) gz
 simp only[eL,l6,st7,ld7,AO,Xy,Za,Qa,Qb,Qc,Qd,Qe,Qf,Qg,Qh,Qi,Qj,Qk,Ql,Qm,Qn,true_and,and_true,Qo,Qp,Qq,Qr,Qs,Qt,Qu,Qv,Qw,Qx,Qy,Qz,Ra,Rb,Rc,Rd,Re,Rf,Rg,Rh,Ri,Rj,Rk,Rm,Rn,Ro,Rp,Rq,Rt,Ya,Yb,Yc,Ru,Rw,Zb,Yd,Ye,Ry,Rz,Wa,Wb,Wc,Wd,We]
 have o02:=o1.trans (o2.mono h1)
 have o03:=o02.trans (o3.mono o02.1)
 have o04:=o03.trans (o4.mono o03.1)
 have o06:=o04.trans (o46.mono o04.1)
 exact hK _ _ (o06.set (qw _) _) (((rw'.old o46).set (by omega) _).mono (by omega))
end
end
end Go.Proofs.YtjnkfbpadpmakaaGreatDoor.Am
