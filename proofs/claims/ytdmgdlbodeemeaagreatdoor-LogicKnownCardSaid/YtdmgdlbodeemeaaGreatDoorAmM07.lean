/- Compiled code of package nat (sums), printed by a program of ours (dev/Print2.lean) and checked by the kernel; conditions: none. -/
import Derived.Test.YtdmgdlbodeemeaaGreatDoorAmM05
import Derived.Test.YtdmgdlbodeemeaaGreatDoorAmM06
import Derived.Test.YtdmgdlbodeemeaaGreatDoorAmM01
set_option linter.unusedVariables false
set_option linter.unusedSimpArgs false
set_option maxRecDepth 100000
namespace Go.Proofs.YtdmgdlbodeemeaaGreatDoor.Am
open Go Go.Proofs
noncomputable section
def WB:List AB:=[
 ⟨none,.mk (fun l=>match l with | [v]=>Cr 30 v | _=>none),[.var 0],(.set 2),[]⟩,
 ⟨none,.mk (fun l=>match l with | [v]=>Cr 30 v | _=>none),[.var 1],(.set 3),[]⟩,
 ⟨none,.p1 some,[(.const .nilFunc)],(.set 4),[]⟩]
def WD:List AB:=[
 ⟨none,.mk (fun l=>match l with | []=>As Tryz.prog 323 | _=>none),[],(.set 5),[]⟩,
 ⟨none,.e (fun s=>Xx (fun a x=>Xz (Aa Tryz.prog s 323 a x))),[(.var 5),(.const (.func 310 [] []))],.push,[]⟩]
def WE:List AB:=[
 ⟨none,.p (fun l=>some (.func 311 (l.take 0) (l.drop 0))),[.var 2,.var 3,.var 5],.push,[]⟩,
 ⟨none,.p1 some,[.loc 0],(.set 4),[]⟩]
def eI:Az:=⟨2,6,(.seq (.ops WB) (.seq (.ops WD) (.seq (.ops WE) .ret))),[((.var 4),none)]⟩
def PP:List AB:=[
 ⟨none,.p1 some,[(.const (.int .u64 (0)))],(.set 2),[]⟩]
def PQ:List AB:=[
 ⟨none,.r (fun s l=>match l with | [x]=>Bk Tryz.prog s 30 x | _=>none),[.var 0],.push,[]⟩,
 ⟨none,.p2 (AM Tryz.prog .geq 3),[.var 1,.loc 0],(.set 3),[]⟩]
def Ws:List AB:=[
 ⟨none,.p1 some,[(.const (.int .u64 (0)))],(.set 2),[]⟩]
def Wt:List AB:=[
 ⟨none,.p2 (AP Tryz.prog 30),[.var 0,.var 1],.push,[]⟩,
 ⟨none,.r1 (fun s a=>AE Tryz.prog s 192 a),[.loc 0],.push,[]⟩,
 ⟨none,.r1 (fun s x=>Ae Tryz.prog s 192 173 x),[.loc 0],.push,[]⟩,
 ⟨none,.p1 some,[.loc 0],(.set 2),[]⟩]
def cJ:Az:=⟨2,4,(.seq (.ops PP) (.seq (.seq (.ops PQ) (.cond (.var 3)
 (.seq (.ops Ws) .ret)
 .skip)) (.seq (.ops Wt) .ret))),[((.var 2),none)]⟩
def Wu:List AB:=[
 ⟨none,.r1 (fun s a=>AE Tryz.prog s 30 a),[.var 1],.push,[]⟩,
 ⟨none,.r (fun s l=>match l with | [x]=>Bk Tryz.prog s 30 x | _=>none),[.loc 0],.push,[]⟩,
 ⟨none,.r1 (fun s a=>AE Tryz.prog s 30 a),[.var 2],.push,[]⟩,
 ⟨none,.r (fun s l=>match l with | [x]=>Bk Tryz.prog s 30 x | _=>none),[.loc 0],.push,[]⟩,
 ⟨none,.p (fun l=>match l with | v::l=>FG true v l | []=>none),[.loc 2,.loc 0],(.set 5),[]⟩,
 ⟨none,.p1 some,[(.const (.int .i64 (0)))],(.set 6),[]⟩]
def PR:List AB:=[
 ⟨none,.p2 (AM Tryz.prog .lss 3),[.var 6,.var 5],(.set 7),[]⟩]
def Wx:List AB:=[
 ⟨none,.p1 some,[.var 6],(.set 4),[]⟩]
def Wy:List AB:=[
 ⟨none,.r1 (fun s a=>AE Tryz.prog s 323 a),[.var 3],.push,[]⟩,
 ⟨none,.r1 (fun s a=>AE Tryz.prog s 30 a),[.var 1],.push,[]⟩,
 ⟨none,.r1 (fun s a=>AE Tryz.prog s 323 a),[.var 3],.push,[]⟩,
 ⟨none,.r1 (fun s a=>AE Tryz.prog s 30 a),[.var 2],.push,[]⟩,
 ⟨none,.callv,[.loc 3,.loc 2,.var 4],.push,[⟨none,.r1 (fun s a=>AE Tryz.prog s 30 a),[.var 2],(.loc 1)⟩,⟨none,.r1 (fun s a=>AE Tryz.prog s 323 a),[.var 3],(.loc 2)⟩]⟩,
 ⟨none,.callv,[.loc 2,.loc 1,.var 4],.push,[]⟩,
 ⟨none,.callv,[.var 0,.loc 1,.loc 0],.push,[]⟩,
 ⟨none,.p1 (dF Tryz.prog Go.UnOp.not),[.loc 0],(.set 8),[]⟩]
def W0:List AB:=[
 ⟨none,.p2 (AM Tryz.prog .add 3),[(.var 6),(.const (.int .i64 (1)))],.push,[]⟩,
 ⟨none,.p1 some,[.loc 0],(.set 6),[]⟩]
def Jc:Ab:=(.seq (.ops PR) (.seq (.cond (.var 7)
 .skip
 (.exit 0)) (.seq (.block 1 (.seq (.ops Wx) (.seq (.ops Wy) (.cond (.var 8)
 .ret
 .skip)))) (.ops W0))))
def eO:Az:=⟨4,9,(.seq (.ops Wu) (.block 0 (.loop Jc))),[]⟩
def WJ:List AB:=[
 ⟨none,.p1 some,[(.const (.slice none 0 (some 0)))],(.set 1),[]⟩]
def WK:List AB:=[
 ⟨none,.p1 some,[.var 0],(.set 7),[]⟩,
 ⟨none,.r (fun s l=>match l with | [x]=>Bk Tryz.prog s 325 x | _=>none),[.var 7],(.set 8),[]⟩,
 ⟨none,.p1 some,[(.const (.int .i64 (0)))],(.set 9),[]⟩]
def PL:List AB:=[
 ⟨none,.p2 (AM Tryz.prog .lss 3),[.var 9,.var 8],(.set 10),[]⟩]
def WL:List AB:=[
 ⟨none,.p2 (AP Tryz.prog 325),[.var 7,.var 9],.push,[]⟩,
 ⟨none,.r1 (fun s a=>AE Tryz.prog s 30 a),[.loc 0],.push,[]⟩,
 ⟨none,.p1 some,[.loc 0],(.set 2),[]⟩]
def WM:List AB:=[
 ⟨none,.mk (fun l=>match l with | []=>As Tryz.prog 30 | _=>none),[],(.set 3),[]⟩]
def WN:List AB:=[
 ⟨none,.mk (fun l=>match l with | []=>As Tryz.prog 173 | _=>none),[],(.set 4),[]⟩,
 ⟨none,.e (fun s=>Xx (fun a x=>Xz (Aa Tryz.prog s 173 a x))),[(.var 4),(.const (.int .u64 (0)))],.push,[]⟩]
def WO:List AB:=[
 ⟨none,.call 297,[.var 1,.var 2],(.set 11),[]⟩]
def WP:List AB:=[
 ⟨none,.p1 some,[.var 12],(.set 5),[]⟩]
def WQ:List AB:=[
 ⟨none,.p1 some,[.var 13],(.set 6),[]⟩]
def WS:List AB:=[
 ⟨none,.r1 (fun s a=>AE Tryz.prog s 173 a),[.var 4],.push,[]⟩,
 ⟨none,.p2 (AM Tryz.prog .add 173),[.var 5,.var 6],.push,[]⟩,
 ⟨none,.p2 (AM Tryz.prog .add 173),[.loc 1,.loc 0],.push,[]⟩,
 ⟨none,.e (fun s=>Xx (fun a x=>Xz (Aa Tryz.prog s 173 a x))),[.var 4,.loc 0],.push,[]⟩]
def RQ:List AB:=[
 ⟨none,.r1 (fun s a=>AE Tryz.prog s 30 a),[.var 3],.push,[]⟩,
 ⟨none,.r1 (fun s a=>AE Tryz.prog s 173 a),[.var 4],.push,[]⟩,
 ⟨none,.p2 (AM Tryz.prog .and 173),[(.loc 0),(.const (.int .u64 (4294967295)))],.push,[]⟩,
 ⟨none,.r1 (fun s x=>Ae Tryz.prog s 173 192 x),[.loc 0],.push,[]⟩,
 ⟨none,.mk (fun l=>(Ak Tryz.prog 30 1 (zipIdx [0] l)).bind fun r=>some (r,.slice 1)),[.loc 0],.push,[]⟩,
 ⟨none,.e (fun s l=>A8 Tryz.prog s [30,30] l),[.loc 4,.loc 0],.push,[]⟩,
 ⟨none,.e (fun s=>Xx (fun a x=>Xz (Aa Tryz.prog s 30 a x))),[.var 3,.loc 0],.push,[]⟩]
def RR:List AB:=[
 ⟨none,.r1 (fun s a=>AE Tryz.prog s 173 a),[.var 4],.push,[]⟩,
 ⟨none,.p2 (AM Tryz.prog .shr 173),[(.loc 0),(.const (.int .u64 (32)))],.push,[]⟩,
 ⟨none,.e (fun s=>Xx (fun a x=>Xz (Aa Tryz.prog s 173 a x))),[.var 4,.loc 0],.push,[]⟩]
def NU:Ab:=(.seq (.ops WP) (.ops WQ))
def NV:Ab:=(.block 3 (.seq (.ops WS) (.seq (.ops RQ) (.ops RR))))
def MO:Code:=(JE 298 0).1
def MP:Code:=(JE 298 0).2
theorem WG:E6 Tryz.prog 298 MO=some NU:=by kernel_rfl
theorem WH:E6 Tryz.prog 298 MP=some NV:=by kernel_rfl
theorem PM:De Tryz.prog 298=[0,2,4,5,6,7,8,9,10,11,12,17,18,19]:=by kernel_rfl
def RS:List AB:=[
 ⟨none,.r1 (fun s a=>AE Tryz.prog s 30 a),[.var 3],.push,[]⟩,
 ⟨none,.r1 (fun s a=>AE Tryz.prog s 173 a),[.var 4],.push,[]⟩,
 ⟨none,.r1 (fun s x=>Ae Tryz.prog s 173 192 x),[.loc 0],.push,[]⟩,
 ⟨none,.mk (fun l=>(Ak Tryz.prog 30 1 (zipIdx [0] l)).bind fun r=>some (r,.slice 1)),[.loc 0],.push,[]⟩,
 ⟨none,.e (fun s l=>A8 Tryz.prog s [30,30] l),[.loc 3,.loc 0],.push,[]⟩,
 ⟨none,.p1 some,[.loc 0],(.set 1),[]⟩]
def RT:List AB:=[
 ⟨none,.p2 (AM Tryz.prog .add 3),[(.var 9),(.const (.int .i64 (1)))],.push,[]⟩,
 ⟨none,.p1 some,[.loc 0],(.set 9),[]⟩]
def HA:Ab:=(.seq (.ops PL) (.seq (.cond (.var 10)
 .skip
 (.exit 0)) (.seq (.block 1 (.seq (.ops WL) (.seq (.ops WM) (.seq (.ops WN) (.seq (.seq (.ops WO) (.block 2 (.rangeFunc 298 (.var 11) #[18,19] MO MP))) (.ops RS)))))) (.ops RT))))
def RU:List AB:=[
 ⟨none,.p1 some,[.var 1],.push,[]⟩,
 ⟨none,.call 177,[.loc 0],.push,[]⟩,
 ⟨none,.p1 some,[.loc 0],(.set 1),[]⟩]
def eJ:Az:=⟨1,14,(.seq (.ops WJ) (.seq (.seq (.ops WK) (.block 0 (.loop HA))) (.seq (.ops RU) .ret))),[((.var 1),none)]⟩
def Vv:List AB:=[
 ⟨none,.p1 some,[(.const (.slice none 0 (some 0)))],(.set 2),[]⟩]
def Vw:List AB:=[
 ⟨none,.mk (fun l=>(Ak Tryz.prog 325 2 (zipIdx [0,1] l)).bind fun r=>some (r,.slice 2)),[.var 0,.var 1],.push,[]⟩,
 ⟨none,.call 298,[.loc 0],.push,[]⟩,
 ⟨none,.p1 some,[.loc 0],(.set 2),[]⟩]
def d8:Az:=⟨2,3,(.seq (.ops Vv) (.seq (.ops Vw) .ret)),[((.var 2),none)]⟩
def Vl:List AB:=[
 ⟨none,.p1 some,[(.const (.slice none 0 (some 0)))],(.set 2),[]⟩,
 ⟨none,.p1 some,[(.const (.bool false))],(.set 3),[]⟩]
def Vm:List AB:=[
 ⟨none,.call 180,[.var 0,.var 1],.push,[]⟩,
 ⟨none,.p2 (AM Tryz.prog .lss 3),[(.loc 0),(.const (.int .i64 (0)))],(.set 9),[]⟩]
def Vn:List AB:=[
 ⟨none,.p1 some,[(.const (.slice none 0 (some 0)))],(.set 2),[]⟩,
 ⟨none,.p1 some,[(.const (.bool false))],(.set 3),[]⟩]
def Vo:List AB:=[
 ⟨none,.mk (fun l=>match l with | []=>As Tryz.prog 30 | _=>none),[],(.set 4),[]⟩]
def Vp:List AB:=[
 ⟨none,.mk (fun l=>match l with | []=>As Tryz.prog 173 | _=>none),[],(.set 5),[]⟩,
 ⟨none,.e (fun s=>Xx (fun a x=>Xz (Aa Tryz.prog s 173 a x))),[(.var 5),(.const (.int .u64 (0)))],.push,[]⟩]
def Vq:List AB:=[
 ⟨none,.call 297,[.var 0,.var 1],(.set 10),[]⟩]
def Vr:List AB:=[
 ⟨none,.p1 some,[.var 11],(.set 6),[]⟩]
def Vs:List AB:=[
 ⟨none,.p1 some,[.var 12],(.set 7),[]⟩]
def Vt:List AB:=[
 ⟨none,.p2 (AM Tryz.prog .sub 173),[.var 6,.var 7],.push,[]⟩,
 ⟨none,.r1 (fun s a=>AE Tryz.prog s 173 a),[.var 5],.push,[]⟩,
 ⟨none,.p2 (AM Tryz.prog .sub 173),[.loc 1,.loc 0],.push,[]⟩,
 ⟨none,.p1 some,[.loc 0],(.set 8),[]⟩]
def Vu:List AB:=[
 ⟨none,.r1 (fun s a=>AE Tryz.prog s 30 a),[.var 4],.push,[]⟩,
 ⟨none,.p2 (AM Tryz.prog .and 173),[(.var 8),(.const (.int .u64 (4294967295)))],.push,[]⟩,
 ⟨none,.r1 (fun s x=>Ae Tryz.prog s 173 192 x),[.loc 0],.push,[]⟩,
 ⟨none,.mk (fun l=>(Ak Tryz.prog 30 1 (zipIdx [0] l)).bind fun r=>some (r,.slice 1)),[.loc 0],.push,[]⟩,
 ⟨none,.e (fun s l=>A8 Tryz.prog s [30,30] l),[.loc 3,.loc 0],.push,[]⟩,
 ⟨none,.e (fun s=>Xx (fun a x=>Xz (Aa Tryz.prog s 30 a x))),[.var 4,.loc 0],.push,[]⟩]
def RO:List AB:=[
 ⟨none,.p2 (AM Tryz.prog .shr 173),[(.var 8),(.const (.int .u64 (63)))],.push,[]⟩,
 ⟨none,.e (fun s=>Xx (fun a x=>Xz (Aa Tryz.prog s 173 a x))),[.var 5,.loc 0],.push,[]⟩]
def NS:Ab:=(.seq (.ops Vr) (.ops Vs))
def NT:Ab:=(.block 1 (.seq (.ops Vt) (.seq (.ops Vu) (.ops RO))))
def MM:Code:=(JE 273 0).1
def MN:Code:=(JE 273 0).2
theorem Vj:E6 Tryz.prog 273 MM=some NS:=by kernel_rfl
theorem Vk:E6 Tryz.prog 273 MN=some NT:=by kernel_rfl
theorem PI:De Tryz.prog 273=[0,1,4,5,6,7,8,9,10,14,17,18,19]:=by kernel_rfl
def RP:List AB:=[
 ⟨none,.r1 (fun s a=>AE Tryz.prog s 30 a),[.var 4],.push,[]⟩,
 ⟨none,.call 177,[.loc 0],.push,[]⟩,
 ⟨none,.p1 some,[.loc 0],(.set 2),[]⟩,
 ⟨none,.p1 some,[(.const (.bool true))],(.set 3),[]⟩]
def dz:Az:=⟨2,13,(.seq (.ops Vl) (.seq (.seq (.ops Vm) (.cond (.var 9)
 (.seq (.ops Vn) .ret)
 .skip)) (.seq (.ops Vo) (.seq (.ops Vp) (.seq (.seq (.ops Vq) (.block 0 (.rangeFunc 273 (.var 10) #[18,19] MM MN))) (.seq (.ops RP) .ret)))))),[((.var 2),none),((.var 3),none)]⟩
theorem Zw:AS Tryz.prog 297=some eI:=by kernel_rfl
theorem Z2:AS Tryz.prog 310=some cJ:=by kernel_rfl
theorem Z3:AS Tryz.prog 311=some eO:=by kernel_rfl
theorem Zx:AS Tryz.prog 298=some eJ:=by kernel_rfl
theorem Zq:AS Tryz.prog 274=some d8:=by kernel_rfl
theorem Zp:AS Tryz.prog 273=some dz:=by kernel_rfl
end
end Go.Proofs.YtdmgdlbodeemeaaGreatDoor.Am
set_option linter.unusedVariables false
set_option linter.unusedSimpArgs false
set_option maxRecDepth 12000
namespace Go.Proofs.YtdmgdlbodeemeaaGreatDoor.Am
open Go Go.Proofs
noncomputable section
theorem P7(k:IntKind):Bn k k=true:=by cases k<;>rfl
theorem Cn(a:Option (Nat×Nat))(n:Nat)(cap:Option Nat):Ep (.slice a n cap) (.slice a n cap)=true:=by
 cases a<;>cases cap<;>simp[Ep]
theorem R8(f:FuncId):Ep (.func f [] []) (.func f [] [])=true:=by simp[Ep,Ep.eqAs]
theorem BG{s:AD}{loc var:List AV}{f:AD→AV→Option AV}{x ans:CX}(h:f s (CM loc var x)=some (CM loc var ans))(he:Ep (CM loc var ans) (CM loc var ans)=true):Ez s loc var ⟨none,.r1 f,[x],ans⟩=true:=by
 unfold Ez
 show(!true || OK (f s (CM loc var x)) (CM loc var ans))=true
 rw[h]
 exact he
section
variable{E:Cf}{s:AD}
theorem SG(hE:Al E){a:Option (Nat×Nat)}{ca:Option Nat}{b:Nat}{la:List Nat}(hc:Ah b s a (us la))(hs:BY la){i:Nat}{K:AV→AD→Prop}(hK:K (AU (la.getD i 0)) s):
  WF E 310 [.slice a la.length ca,iv (i:Int)] K s:=by
 refine hE.go Z2 (by decide) rfl ?_
 rcases fS i la.length with h | h
 ·have hx:la[i]? = some la[i]:=fX h
  rw[g0,hx]at hK
  generalize la[i]=x at hx hK
  obtain⟨pi,o,rfl,_,hload⟩:=hc i _ (C9 hx)
  have dd:decide ((la.length:Int)≤(i:Int))=false:=decide_eq_false (by omega)
  have e1:=Ax (cap:=ca) (i:=pi) (o:=o) Tryz.underlying30 Bj h
  have e2:AE Tryz.prog s 192 (.ptr (some (pi,o+i * 1)))=some (BO x):=B9 EF (by rw[fZ];exact hload)
  have e3:=BP (s:=s) (hs x (fv hx))
  simp only[cJ,PP,PQ,Wt,AY Tryz.underlying30,Wa,dd,e1,e2,e3,Qa,Qb,Qc,Qd,Qe,Qf,Qg,Qh,Qi,Qj,Qk,Ql,Qm,Qn,true_and,and_true,Qo,Qp,Qq,Qr,Qs,Qt,Qu,Qv,Qw,Qx,Qy,Qz,Ra,Rb,Rc,Rd,Re,Rf,Rg,Rh,Ri,Rj,Rk,Rm,Rn,Ro,Rp,Rq,Rs,Ya,Yb,Yc,Rt,Ru,Za,Yd,Ye,Rx,Ry,Rz,Wa,Wb,Wc,Wd]
  exact hK
 ·have dd:decide ((la.length:Int)≤(i:Int))=true:=decide_eq_true (by omega)
  rw[g0,ff h]at hK
  simp only[cJ,PP,PQ,Ws,AY Tryz.underlying30,Wa,dd,Qa,Qb,Qc,Qd,Qe,Qf,Qg,Qh,Qi,Qj,Qk,Ql,Qm,Qn,true_and,and_true,Qo,Qp,Qq,Qr,Qs,Qt,Qu,Qv,Qw,Qx,Qy,Qz,Ra,Rb,Rc,Rd,Re,Rf,Rg,Rh,Ri,Rj,Rk,Rm,Rn,Ro,Rp,Rq,Rs,Ya,Yb,Yc,Rt,Ru,Za,Yd,Ye,Rx,Ry,Rz,Wa,Wb,Wc,Wd]
  exact hK
def QX(v:AV):Af:=R 30 0 false [v]
def dR:Af:=R 323 0 false [.func 310 [] []]
theorem N7(hE:Al E){va vb:AV}(hca:va.cells=[va])(hcb:vb.cells=[vb]){K:AV→AD→Prop}
  (hK:∀s',s'.next=s.next+3→(∀j,j<s.next→s'.heap.get j=s.heap.get j)→s'.heap.get s.next=some (QX va)→s'.heap.get (s.next+1)=some (QX vb)→s'.heap.get (s.next+2)=some dR →
   K (.func 311 [] [.ptr (some (s.next,0)),.ptr (some (s.next+1,0)),.ptr (some (s.next+2,0))]) s'):WF E 297 [va,vb] K s:=by
 refine hE.go Zw (by decide) rfl ?_
 have hz:As Tryz.prog 323=some (R 323 0 false [.nilFunc],.ptr):=by kernel_rfl
 have hsz:A3 Tryz.prog 323=some 1:=by kernel_rfl
 have n1:(newObj s (R 30 0 false [va])).next=s.next+1:=rfl
 have n2:(newObj (newObj s (R 30 0 false [va])) (R 30 0 false [vb])).next=s.next+2:=rfl
 have hg:(newObj (newObj (newObj s (R 30 0 false [va])) (R 30 0 false [vb])) (R 323 0 false [.nilFunc])).heap.get (s.next+2)=some (R 323 0 false [.nilFunc]):=by
  rw[AN,if_pos n2.symm]
 have hst:=Ce (P:=Tryz.prog) (t:=323) (o:=0) (v:=.func 310 [] []) hsz hg (by simp) rfl
 simp only[gK]at hst
 simp only[eI,WB,WD,WE,Wz,hca,hcb,hz,Xb,n1,n2,hst,Xx,Xz,g8,gp,Qa,Qb,Qc,Qd,Qe,Qf,Qg,Qh,Qi,Qj,Qk,Ql,Qm,Qn,true_and,and_true,Qo,Qp,Qq,Qr,Qs,Qt,Qu,Qv,Qw,Qx,Qy,Qz,Ra,Rb,Rc,Rd,Re,Rf,Rg,Rh,Ri,Rj,Rk,Rm,Rn,Ro,Rp,Rq,Rs,Ya,Yb,Yc,Rt,Ru,Za,Yd,Ye,Rx,Ry,Rz,Wa,Wb,Wc,Wd]
 refine hK _ rfl (fun j hj=>?_) ?_ ?_ (Wv _ _ _)
 ·rw[Ww _ (by omega),AN,if_neg (by rw[n2];omega),AN,if_neg (by rw[n1];omega),AN,if_neg (by omega)]
 ·rw[Ww _ (by omega),AN,if_neg (by rw[n2];omega),AN,if_neg (by rw[n1];omega),AN,if_pos rfl];rfl
 ·rw[Ww _ (by omega),AN,if_neg (by rw[n2];omega),AN,if_pos n1.symm];rfl
structure PK(n0 p:Nat)(s0 s:AD):Prop where
 next:s0.next≤s.next
 low:∀j,j<n0→s.heap.get j=s0.heap.get j
 a:s.heap.get p=s0.heap.get p
 b:s.heap.get (p+1)=s0.heap.get (p+1)
 l:s.heap.get (p+2)=s0.heap.get (p+2)
theorem PK.refl(n0 p:Nat)(s:AD):PK n0 p s s:=⟨fR _,fun _ _=>rfl,rfl,rfl,rfl⟩
theorem PK.trans{n0 p:Nat}{s0 s1 s2:AD}(h:PK n0 p s0 s1)(k:PK n0 p s1 s2):PK n0 p s0 s2:=
 ⟨fU h.next k.next,fun j hj=>(k.low j hj).trans (h.low j hj),k.a.trans h.a,k.b.trans h.b,k.l.trans h.l⟩
theorem LV(hE:Al E){s0:AD}{n0 p l:Nat}{a b:Option (Nat×Nat)}{ca cb:Option Nat}{la lb:List Nat}(hla:la.length≤10000000000)(hlb:lb.length≤10000000000)(hsa:BY la)(hsb:BY lb)
  (hca:Ah n0 s0 a (us la)) (hcb:Ah n0 s0 b (us lb)) (h1:s0.heap.get p=some (QX (.slice a la.length ca))) (h2:s0.heap.get (p+1)=some (QX (.slice b lb.length cb))) (h3:s0.heap.get (p+2)=some dR)
  (LI:Nat→AD→Prop) (hLI:∀k s,LI k s→PK n0 p s0 s)
  (hround:∀ (k:Nat) (s:AD) (K:AV→AD→Prop),k<max la.length lb.length→LI k s→(∀s',LI (k+1) s'→K (.bool true) s')→WR E l [AU (la.getD k 0),AU (lb.getD k 0)] K s)
  {K:AV→AD→Prop} (h0:LI 0 s) (hend:∀v s',LI (max la.length lb.length) s'→K v s'):
  WF E 311 [.yield l,.ptr (some (p,0)),.ptr (some (p+1,0)),.ptr (some (p+2,0))] K s:=by
 have hag:ED Tryz.prog 323=some false:=by kernel_rfl
 have lda:∀ {s':AD},PK n0 p s0 s'→AE Tryz.prog s' 30 (.ptr (some (p,0)))=some (.slice a la.length ca):=fun h=>Ad D1 (h.a.trans h1) rfl
 have ldb:∀ {s':AD},PK n0 p s0 s'→AE Tryz.prog s' 30 (.ptr (some (p+1,0)))=some (.slice b lb.length cb):=fun h=>Ad D1 (h.b.trans h2) rfl
 have ldl:∀ {s':AD},PK n0 p s0 s'→AE Tryz.prog s' 323 (.ptr (some (p+2,0)))=some (.func 310 [] []):=fun h=>Ad hag (h.l.trans h3) rfl
 have hmm:FG true (iv (la.length:Int)) [iv (lb.length:Int)]=some (iv ((max la.length lb.length:Nat):Int)):=by
  simp only[FG,P7,AG,cond_true]
  congr 2
  cases hlt:Ku (la.length:Int) (lb.length:Int)with
  | true=>rw[CU]at hlt;have:=of_decide_eq_true hlt;simp only[cond_true];omega
  | false=>rw[CU]at hlt;have:=of_decide_eq_false hlt;simp only[cond_true,cond_false];omega
 refine hE.go Z3 (by decide) rfl ?_
 simp only[eO,Wu,lda (hLI 0 s h0),ldb (hLI 0 s h0),AY Tryz.underlying30,hmm,Qa,Qb,Qc,Qd,Qe,Qf,Qg,Qh,Qi,Qj,Qk,Ql,Qm,Qn,true_and,and_true,Qo,Qp,Qq,Qr,Qs,Qt,Qu,Qv,Qw,Qx,Qy,Qz,Ra,Rb,Rc,Rd,Re,Rf,Rg,Rh,Ri,Rj,Rk,Rm,Rn,Ro,Rp,Rq,Rs,Ya,Yb,Yc,Rt,Ru,Za,Yd,Ye,Rx,Ry,Rz,Wa,Wb,Wc,Wd]
 generalize hM:max la.length lb.length=M at *
 have hMle:M≤10000000000:=by omega
 have key:∀ (m k:Nat) (S:AD) (x4 x7 x8:AV),k+m=M→LI k S→WC E none (.loop Jc) (fun r=>(r.exit=.exit 0∧r.marks=[]∧LI M r.st)) [.yield l,.ptr (some (p,0)),.ptr (some (p+1,0)),.ptr (some (p+2,0)),x4,iv (M:Int),iv (k:Int),x7,x8] [] S:=by
  intro m
  induction m with
  | zero =>
   intro k S x4 x7 x8 hk hS
   have e:k=M:=by omega
   subst e
   have dd:decide ((k:Int)<(k:Int))=false:=decide_eq_false (by omega)
   refine WC.loop' ?_
   simp only[Jc,PR,Rx,dd,Qa,Qb,Qc,Qd,Qe,Qf,Qg,Qh,Qi,Qj,Qk,Ql,Qm,Qn,true_and,and_true,Qo,Qp,Qq,Qr,Qs,Qt,Qu,Qv,Qw,Qx,Qy,Qz,Ra,Rb,Rc,Rd,Re,Rf,Rg,Rh,Ri,Rj,Rk,Rm,Rn,Ro,Rp,Rq,Rs,Ya,Yb,Yc,Rt,Ru,Za,Yd,Ye,Rx,Ry,Rz,Wa,Wb,Wc,Wd]
   exact hS
  | succ m ih =>
   intro k S x4 x7 x8 hk hS
   have dd:decide ((k:Int)<(M:Int))=true:=decide_eq_true (by omega)
   have pk:=hLI k S hS
   have l1:=lda pk
   have l2:=ldb pk
   have l3:=ldl pk
   have e17:=By Tryz.prog 3 (k:Int) 1 ⟨by omega,by omega⟩
   have e17':((k:Int)+1)=((k+1:Nat):Int):=by omega
   refine WC.loop' ?_
   generalize hW:WC E none (Ab.loop Jc) _=WW
   simp only[Jc,PR,Wx,Wy,Rx,dd,l1,l2,l3,Qa,Qb,Qc,Qd,Qe,Qf,Qg,Qh,Qi,Qj,Qk,Ql,Qm,Qn,true_and,and_true,Qo,Qp,Qq,Qr,Qs,Qt,Qu,Qv,Qw,Qx,Qy,Qz,Ra,Rb,Rc,Rd,Re,Rf,Rg,Rh,Ri,Rj,Rk,Rm,Rn,Ro,Rp,Rq,Rs,Ya,Yb,Yc,Rt,Ru,Za,Yd,Ye,Rx,Ry,Rz,Wa,Wb,Wc,Wd]
   have ca':Ah n0 S a (us la):=hca.old ⟨pk.next,pk.low⟩ (fR _)
   have cb':Ah n0 S b (us lb):=hcb.old ⟨pk.next,pk.low⟩ (fR _)
   refine SG hE ca' hsa ?_
   refine⟨⟨BG (by simp only[Qa,Qb,Qc,Qd,Qe,Qf,Qg,Qh,Qi,Qj,Qk,Ql,Qm,Qn,true_and,and_true,Qo,Qp,Qq,Qr,Qs,Qt,Qu,Qv,Qw,Qx,Qy,Qz,Ra,Rb,Rc,Rd,Re,Rf,Rg,Rh,Ri,Rj,Rk,Rm,Rn,Ro,Rp,Rq,Rs,Ya,Yb,Yc,Rt,Ru,Za,Yd,Ye,Rx,Ry,Rz,Wa,Wb,Wc,Wd];exact l2) (Cn _ _ _),BG (by simp only[Qa,Qb,Qc,Qd,Qe,Qf,Qg,Qh,Qi,Qj,Qk,Ql,Qm,Qn,true_and,and_true,Qo,Qp,Qq,Qr,Qs,Qt,Qu,Qv,Qw,Qx,Qy,Qz,Ra,Rb,Rc,Rd,Re,Rf,Rg,Rh,Ri,Rj,Rk,Rm,Rn,Ro,Rp,Rq,Rs,Ya,Yb,Yc,Rt,Ru,Za,Yd,Ye,Rx,Ry,Rz,Wa,Wb,Wc,Wd];exact l3) (R8 _),trivial⟩,?_⟩
   simp only[Qa,Qb,Qc,Qd,Qe,Qf,Qg,Qh,Qi,Qj,Qk,Ql,Qm,Qn,true_and,and_true,Qo,Qp,Qq,Qr,Qs,Qt,Qu,Qv,Qw,Qx,Qy,Qz,Ra,Rb,Rc,Rd,Re,Rf,Rg,Rh,Ri,Rj,Rk,Rm,Rn,Ro,Rp,Rq,Rs,Ya,Yb,Yc,Rt,Ru,Za,Yd,Ye,Rx,Ry,Rz,Wa,Wb,Wc,Wd]
   refine SG hE cb' hsb ?_
   simp only[Qa,Qb,Qc,Qd,Qe,Qf,Qg,Qh,Qi,Qj,Qk,Ql,Qm,Qn,true_and,and_true,Qo,Qp,Qq,Qr,Qs,Qt,Qu,Qv,Qw,Qx,Qy,Qz,Ra,Rb,Rc,Rd,Re,Rf,Rg,Rh,Ri,Rj,Rk,Rm,Rn,Ro,Rp,Rq,Rs,Ya,Yb,Yc,Rt,Ru,Za,Yd,Ye,Rx,Ry,Rz,Wa,Wb,Wc,Wd]
   refine hround k S _ (by omega) hS fun s' hs'=>?_
   simp only[W0,Wd,Bool.not_true,e17,e17',Qa,Qb,Qc,Qd,Qe,Qf,Qg,Qh,Qi,Qj,Qk,Ql,Qm,Qn,true_and,and_true,Qo,Qp,Qq,Qr,Qs,Qt,Qu,Qv,Qw,Qx,Qy,Qz,Ra,Rb,Rc,Rd,Re,Rf,Rg,Rh,Ri,Rj,Rk,Rm,Rn,Ro,Rp,Rq,Rs,Ya,Yb,Yc,Rt,Ru,Za,Yd,Ye,Rx,Ry,Rz,Wa,Wb,Wc,Wd]
   rw[← hW]
   exact ih (k+1) s' _ _ _ (by omega) hs'
 refine(key M 0 s _ _ _ (by omega) h0).mono ?_
 rintro⟨e,v,m,s'⟩ ⟨q1,q0,q2⟩
 simp only at q1 q0 q2
 subst q0
 subst q1
 simp only[if_true,Qa,Qb,Qc,Qd,Qe,Qf,Qg,Qh,Qi,Qj,Qk,Ql,Qm,Qn,true_and,and_true,Qo,Qp,Qq,Qr,Qs,Qt,Qu,Qv,Qw,Qx,Qy,Qz,Ra,Rb,Rc,Rd,Re,Rf,Rg,Rh,Ri,Rj,Rk,Rm,Rn,Ro,Rp,Rq,Rs,Ya,Yb,Yc,Rt,Ru,Za,Yd,Ye,Rx,Ry,Rz,Wa,Wb,Wc,Wd]
 exact hend _ _ q2
end
end
end Go.Proofs.YtdmgdlbodeemeaaGreatDoor.Am
set_option linter.unusedVariables false
set_option linter.unusedSimpArgs false
set_option maxRecDepth 16000
namespace Go.Proofs.YtdmgdlbodeemeaaGreatDoor.Am
open Go Go.Proofs
noncomputable section
theorem KL{a b:List Nat}{k:Nat}(h:k<max a.length b.length):(Bb a b)[k]? = some (a.getD k 0,b.getD k 0):=by
 unfold Bb
 rw[gq,List.getElem?_range h];rfl
theorem KM(a b:List Nat):(Bb a b).length=max a.length b.length:=by simp[Bb]
theorem GB{a:List Nat}(h:BY a)(k:Nat):a.getD k 0<4294967296:=by
 rw[g0]
 rcases fS k a.length with h' | h'
 ·rw[fX h'];exact h _ (List.getElem_mem h')
 ·rw[ff h'];exact(by decide)
theorem TH{a b:List Nat}(ha:BY a)(hb:BY b):∀p∈Bb a b,p.1<LB∧p.2<LB:=fun p hp=>by
 unfold Bb at hp
 obtain⟨i,_,rfl⟩:=List.mem_map.1 hp
 exact⟨GB ha i,GB hb i⟩
def J7 (v0 v1 v2 x5 x6 x7 x8 x9 x10:AV) (n0:Nat) (x12 x13:AV):EE:=
 JB 298 [v0,v1,v2,.ptr (some (n0,0)),.ptr (some (n0+1,0)),x5,x6,x7,x8,x9,x10,.func 311 [] [.ptr (some (n0+2,0)),.ptr (some (n0+2+1,0)),.ptr (some (n0+2+2,0))],x12,x13] #[18,19] MO MP (n0+5)
structure bz(n0:Nat)(s0:AD)(lo:EE)(P:List (Nat×Nat))(T:List Nat×Nat)(k:Nat)(s:AD):Prop where
 pk:PK n0 (n0+2) s0 s
 lt:n0+7≤s.next
 lp:Ba s (n0+6)=some lo
 mrk:s.heap.get (n0+5)=some .mark
 ex:∃vo d O c,s.heap.get n0=some (R 30 0 false [vo])∧s.heap.get (n0+1)=some (R 173 0 false [AU c])∧CR 192 s vo d.length 1 (us d) O∧(∀j∈O,n0+7≤j)∧(∀j,C6 vo=some j→n0+7≤j)∧d.length=k∧c≤1∧(d++(DQ (P.drop k) c).1,(DQ (P.drop k) c).2)=T
section
variable{E:Cf}{s:AD}
theorem TX(hE:Al E){n0:Nat}{s0:AD}{v0 v1 v2 x5 x6 x7 x8 x9 x10 x12 x13:AV}{P:List (Nat×Nat)}(hPl:P.length≤10000000000){T:List Nat×Nat}{k x y:Nat}(hP:P[k]? = some (x,y))(hx:x<4294967296)(hy:y<4294967296)
    (hI:bz n0 s0 (J7 v0 v1 v2 x5 x6 x7 x8 x9 x10 n0 x12 x13) P T k s) {K:AV→AD→Prop} (hK:∀s',bz n0 s0 (J7 v0 v1 v2 x5 x6 x7 x8 x9 x10 n0 x12 x13) P T (k+1) s'→K (.bool true) s'):
    WR E (n0+6) [AU x,AU y] K s:=by
  obtain⟨pk,hlt,hlp,hmk,vo,d,O,c,g1,g2,hD,hO,hsl,hdl,hc,hT⟩:=hI
  have hz:DM (De E.P 298) (J7 v0 v1 v2 x5 x6 x7 x8 x9 x10 n0 x12 x13).var [18,19] [AU x,AU y]=some [v0,v1,v2,.ptr (some (n0,0)),.ptr (some (n0+1,0)),x5,x6,x7,x8,x9,x10,.func 311 [] [.ptr (some (n0+2,0)),.ptr (some (n0+2+1,0)),.ptr (some (n0+2+2,0))],AU x,AU y]:=by
    rw[hE.P,PM];rfl
  refine WR.round hlp hz (by rw[hE.P];exact WG) (by rw[hE.P];exact WH) ?_
  refine GP ?_
  simp only[NU,WP,WQ,Qa,Qb,Qc,Qd,Qe,Qf,Qg,Qh,Qi,Qj,Qk,Ql,Qm,Qn,true_and,and_true,Qo,Qp,Qq,Qr,Qs,Qt,Qu,Qv,Qw,Qx,Qy,Qz,Ra,Rb,Rc,Rd,Re,Rf,Rg,Rh,Ri,Rj,Rk,Rm,Rn,Ro,Rp,Rq,Rs,Ya,Yb,Yc,Rt,Ru,Za,Yd,Ye,Rx,Ry,Rz,Wa,Wb,Wc,Wd]
  refine⟨_,hlp,rfl,GP ?_⟩
  generalize hs1:setObj s (n0+6) _=s1
  have n1:s1.next=s.next:=by rw[← hs1];rfl
  have f1:∀j,j≠n0+6→s1.heap.get j=s.heap.get j:=fun j hj=>by rw[← hs1,Ww _ hj]
  have l1:Ba s1 (n0+6)=some { J7 v0 v1 v2 x5 x6 x7 x8 x9 x10 n0 x12 x13 with state:=.busy }:=by rw[← hs1,FF]
  have g1':=(f1 n0 (by omega)).trans g1
  have g2':=(f1 (n0+1) (by omega)).trans g2
  have hD1:CR 192 s1 vo d.length 1 (us d) O:=hD.frame (f9 n1.symm) (fun j hj=>f1 j (by have:=hsl j hj;omega))
  have hdk:P.drop k=(x,y)::P.drop (k+1):=by
    have hk:k<P.length:=(List.getElem?_eq_some_iff.1 hP).1
    rw[gE hk]
    rw[fX hk]at hP
    rw[Option.some.inj hP]
  have hkP:k<P.length:=(List.getElem?_eq_some_iff.1 hP).1
  rw[hdk]at hT
  simp only[DQ]at hT
  have hLB:LB=4294967296:=rfl
  rw[hLB,show x+y+c=c+(x+y) by omega]at hT
  have e1:=F4 Tryz.prog 173 (a:=x) (b:=y) (by omega)
  have e2:=F4 Tryz.prog 173 (a:=c) (b:=x+y) (by omega)
  generalize hc1:c+(x+y)=c1 at hT e2
  have hc1b:c1<18446744073709551616:=by omega
  have e3:=Io Tryz.prog 173 hc1b
  have e11:c1 % 4294967296 % 4294967296=c1 % 4294967296:=gn _ _
  have e15:AM Tryz.prog .shr 173 (AU c1) (.int .u64 32)=some (AU (c1 / 4294967296)):=Hm Tryz.prog 173 (k:=.u64) (n:=32) (by decide)
  have hcq:c1 / 4294967296≤1:=by omega
  generalize hz:c1 % 4294967296=z at hT e3 e11
  have ld2:AE Tryz.prog s1 173 (.ptr (some (n0+1,0)))=some (AU c):=Ad NG g2' rfl
  have st2:=Ce (P:=Tryz.prog) (t:=173) (o:=0) (v:=AU c1) OY g2' (by simp) rfl
  simp only[gK]at st2
  generalize hs2:setObj s1 (n0+1) (R 173 0 false [AU c1])=s2 at st2
  have n2:s2.next=s1.next:=by rw[← hs2];rfl
  have f2:∀j,j≠n0+1→s2.heap.get j=s1.heap.get j:=fun j hj=>by rw[← hs2,Ww _ hj]
  have g22:s2.heap.get (n0+1)=some (R 173 0 false [AU c1]):=by rw[← hs2,Wv]
  have ld22:AE Tryz.prog s2 173 (.ptr (some (n0+1,0)))=some (AU c1):=Ad NG g22 rfl
  have g12:=(f2 n0 (by omega)).trans g1'
  have ld12:AE Tryz.prog s2 30 (.ptr (some (n0,0)))=some vo:=Ad D1 g12 rfl
  have hD2:CR 192 s2 vo d.length 1 (us d) O:=hD1.frame (f9 n2.symm) (fun j hj=>f2 j (by have:=hsl j hj;omega))
  obtain⟨v',s3,O',happ,hD3,hn3,f3,hO3,hsl3⟩:=HZ hD2 z (by omega)
  have happ':A8 Tryz.prog (newObj s2 (R 192 1 false [.int .u32 z])) [30,30] [vo,.slice (some (s2.next,0)) 1 (some 1)]=some (v',s3):=happ
  have g13:s3.heap.get n0=some (R 30 0 false [vo]):=(f3 n0 (by omega) (fun h=>by have:=hO n0 h;omega)).trans g12
  have g23:s3.heap.get (n0+1)=some (R 173 0 false [AU c1]):=(f3 (n0+1) (by omega) (fun h=>by have:=hO _ h;omega)).trans g22
  have hv'c:v'.isCell=true:=by obtain⟨a,cap,rfl,_⟩:=hD3.cells;rfl
  have st3:=Ce (P:=Tryz.prog) (t:=30) (o:=0) (v:=v') dC g13 (by simp) hv'c
  simp only[gK]at st3
  generalize hs4:setObj s3 n0 (R 30 0 false [v'])=s4 at st3
  have n4:s4.next=s3.next:=by rw[← hs4];rfl
  have f4:∀j,j≠n0→s4.heap.get j=s3.heap.get j:=fun j hj=>by rw[← hs4,Ww _ hj]
  have g24:=(f4 (n0+1) (by omega)).trans g23
  have ld24:AE Tryz.prog s4 173 (.ptr (some (n0+1,0)))=some (AU c1):=Ad NG g24 rfl
  have st4:=Ce (P:=Tryz.prog) (t:=173) (o:=0) (v:=AU (c1 / 4294967296)) OY g24 (by simp) rfl
  simp only[gK]at st4
  generalize hs5:setObj s4 (n0+1) (R 173 0 false [AU (c1 / 4294967296)])=s5 at st4
  have n5:s5.next=s4.next:=by rw[← hs5];rfl
  have f5:∀j,j≠n0+1→s5.heap.get j=s4.heap.get j:=fun j hj=>by rw[← hs5,Ww _ hj]
  have fall:∀j,j<s.next→j ∉ O→j≠n0→j≠n0+1→s5.heap.get j=s1.heap.get j:=fun j hj h1 h2 h3=>by
    rw[f5 j h3,f4 j h2,f3 j (by omega) h1,f2 j h3]
  have l5:Ba s5 (n0+6)=some { J7 v0 v1 v2 x5 x6 x7 x8 x9 x10 n0 x12 x13 with state:=.busy }:=by
    rw[LL (fall (n0+6) (by omega) (fun h=>by have:=hO _ h;omega) (by omega) (by omega))];exact l1
  simp only[NV,WS,RQ,RR,e1,e2,ld2,st2,ld12,ld22,e3,Bd,e11,FM,Xd,happ',st3,ld24,e15,st4,Xx,Xz,Qa,Qb,Qc,Qd,Qe,Qf,Qg,Qh,Qi,Qj,Qk,Ql,Qm,Qn,true_and,and_true,Qo,Qp,Qq,Qr,Qs,Qt,Qu,Qv,Qw,Qx,Qy,Qz,Ra,Rb,Rc,Rd,Re,Rf,Rg,Rh,Ri,Rj,Rk,Rm,Rn,Ro,Rp,Rq,Rs,Ya,Yb,Yc,Rt,Ru,Za,Yd,Ye,Rx,Ry,Rz,Wa,Wb,Wc,Wd]
  refine⟨_,l5,hK _ ?_⟩
  have fl:∀j,j≠n0+6→∀r,(setObj s5 (n0+6) r).heap.get j=s5.heap.get j:=fun j hj r=>Ww _ hj
  have hlow:∀j,j<n0+6→j≠n0→j≠n0+1→∀r,(setObj s5 (n0+6) r).heap.get j=s.heap.get j:=fun j h1 h2 h3 r=>by
    rw[fl j (by omega),fall j (by omega) (fun h=>by have:=hO _ h;omega) h2 h3,f1 j (by omega)]
  refine⟨pk.trans ⟨?_,fun j hj=>hlow j (by omega) (by omega) (by omega) _,hlow _ (by omega) (by omega) (by omega) _,hlow _ (by omega) (by omega) (by omega) _,hlow _ (by omega) (by omega) (by omega) _⟩,?_,?_,?_,v',d++[z],O',c1 / 4294967296,?_,?_,?_,fun j hj=>?_,fun j hj=>?_,?_,hcq,?_⟩
  · show s.next≤s5.next;omega
  · show n0+7≤s5.next;omega
  · rw[FF];rfl
  · rw[hlow _ (by omega) (by omega) (by omega)];exact hmk
  · rw[fl n0 (by omega),f5 n0 (by omega),← hs4,Wv]
  · rw[fl (n0+1) (by omega),← hs5,Wv]
  · refine hD3.frame (by show s3.next≤s5.next;omega) (fun j hj=>?_)
    have hj7:n0+7≤j:=by
      rcases hsl3 j hj with h | h
      · exact hsl j h
      · omega
    rw[fl j (by omega),f5 j (by omega),f4 j (by omega)]
  · rcases hO3 j hj with h | h
    · exact hO j h
    · omega
  · rcases hsl3 j hj with h | h
    · exact hsl j h
    · omega
  · rw[fg,hdl];rfl
  · rw[ft];exact hT
end
theorem NR.keep{b:Nat}{s s':AD}{v:AV}{l:List Nat}(h:NR b s v l)(hn:s.next≤s'.next)(hf:∀j,C6 v=some j→s'.heap.get j=s.heap.get j):NR b s' v l:=by
 obtain⟨O,h1,h2,h3,h4⟩:=h
 exact⟨O,h1.frame hn hf,h2,h3,fun hne=>by obtain⟨i,q1,q2,q3⟩:=h4 hne;exact⟨i,q1,fV q2 hn,q3.keep (hf i (by rw[q1];rfl))⟩⟩
theorem IP:∀ (M:List Nat)(s:AD),M.Nodup→(∀m∈M,s.heap.get m=some .mark)→∃s',C8 s M=some s'∧s'.next=s.next∧∀j,j ∉ M→s'.heap.get j=s.heap.get j
 | [],s,_,_=>⟨s,rfl,rfl,fun _ _=>rfl⟩
 | m::M,s,hn,hm=>by
  obtain⟨n1,n2⟩:=gU.1 hn
  obtain⟨s',h1,h2,h3⟩:=IP M (Bu s m) n2 (fun x hx=>by
   rw[HK,if_neg (fun(e:x=m)=>n1 (e▸hx))];exact hm x (fh _ hx))
  refine⟨s',?_,h2,fun j hj=>?_⟩
  ·show(match s.heap.get m with | some .mark=>C8 (Bu s m) M | _=>none)=_
   rw[hm m fc]
   exact h1
  ·rw[h3 j (fun h=>hj (fh _ h)),HK,if_neg (fun(e:j=m)=>hj (e▸fc))]
structure K7(s:AD)(ri:Nat)(vs:List AV)(L:List (List Nat)):Prop where
 row:s.heap.get ri=some (R 30 1 false vs)
 len:vs.length=L.length
 rd:∀ (j:Nat) (v:AV) (l:List Nat),vs[j]? = some v→L[j]? = some l→CV s v l
theorem K7.old{s s':AD}{ri:Nat}{vs:List AV}{L:List (List Nat)}(h:K7 s ri vs L)(k:A9 s.next s s')(hi:ri<s.next):K7 s' ri vs L:=
 ⟨(k.2 ri hi).trans h.row,h.len,fun j v l h1 h2=>(h.rd j v l h1 h2).old k⟩
def F2:List (List Nat)→Nat
 | []=>0
 | l::L=>AC l+F2 L
section
variable{E:Cf}{s:AD}
theorem Yp       (hE : Al    E) {sA : AD}  {ri : Nat} {vs : List AV} {L : List (List Nat)} (hri : ri < sA.next) (hLl : L.length ≤ 1000) (hsm : ∀ l ∈ L, BY  l ∧ l.length ≤ 1000000000) {tot : Nat} {Q : Aq   → Prop} (x0 : AV)
    (hq:∀ (S:AD) (vD:AV) (D M:List Nat) (y2 y3 y4 y5 y6 y9 y10 y11 y12 y13:AV),A9 sA.next sA S→CV S vD D→BY D→D.length≤2000000000→AC D=tot→M.Nodup→(∀m∈M,sA.next≤m∧m<S.next∧S.heap.get m=some .mark) →
      Q ⟨.exit 0,[x0,vD,y2,y3,y4,y5,y6,.slice (some (ri,0)) L.length (some L.length),iv (L.length:Int),y9,y10,y11,y12,y13],M,S⟩):
    ∀ (r:List (List Nat)) (i:Nat) (S:AD) (vD:AV) (D M:List Nat) (x2 x3 x4 x5 x6 x10 x11 x12 x13:AV),L.drop i=r→i≤L.length→A9 sA.next sA S→K7 S ri vs L→CV S vD D→BY D→D.length≤1000000000+i→AC D+F2 r=tot→M.Nodup→(∀m∈M,sA.next≤m∧m<S.next∧S.heap.get m=some .mark) →
      WC E none (.loop HA) Q [x0,vD,x2,x3,x4,x5,x6,.slice (some (ri,0)) L.length (some L.length),iv (L.length:Int),iv (i:Int),x10,x11,x12,x13] M S:=by
  intro r
  induction r with
  | nil =>
    intro i S vD D M x2 x3 x4 x5 x6 x10 x11 x12 x13 hd hi ho hR hN hs hl hv hM hm
    have e:i=L.length:=by
      have:=congrArg List.length hd
      simp at this
      omega
    subst e
    have dd:decide ((L.length:Int)<(L.length:Int))=false:=decide_eq_false (by omega)
    refine WC.loop' ?_
    simp only[HA,PL,Rx,dd,Qa,Qb,Qc,Qd,Qe,Qf,Qg,Qh,Qi,Qj,Qk,Ql,Qm,Qn,true_and,and_true,Qo,Qp,Qq,Qr,Qs,Qt,Qu,Qv,Qw,Qx,Qy,Qz,Ra,Rb,Rc,Rd,Re,Rf,Rg,Rh,Ri,Rj,Rk,Rm,Rn,Ro,Rp,Rq,Rs,Ya,Yb,Yc,Rt,Ru,Za,Yd,Ye,Rx,Ry,Rz,Wa,Wb,Wc,Wd]
    exact hq S vD D M _ _ _ _ _ _ _ _ _ _ ho hN hs (by omega) (by simpa[F2]using hv) hM hm
  | cons A r ih =>
    intro i S vD D M x2 x3 x4 x5 x6 x10 x11 x12 x13 hd hi ho hR hN hs hl hv hM hm
    have hlt:i<L.length:=by
      rcases fS i L.length with h' | h'
      · exact h'
      · rw[gQ h']at hd;cases hd
    have hA:L[i]? = some A:=by
      have:=congrArg (fun l=>l[0]?) hd
      simpa using this
    have hd':L.drop (i+1)=r:=by
      have:=congrArg (List.drop 1) hd
      simpa[gY]using this
    obtain⟨hAs,hAl⟩:=hsm A (fv hA)
    have hva:vs[i]? = some (vs[i]'(by rw[hR.len];exact hlt)):=fX _
    generalize vs[i]'(by rw[hR.len];exact hlt)=va at hva
    have hNa:=hR.rd i va A hva hA
    have dd:decide ((i:Int)<(L.length:Int))=true:=decide_eq_true (by omega)
    have e1:=Ax (cap:=some L.length) (i:=ri) (o:=0) Tryz.underlying325 dC hlt
    rw[fY,fZ]at e1
    have e2:AE Tryz.prog S 30 (.ptr (some (ri,i)))=some va:=Ad D1 hR.row hva
    generalize hn0:S.next=n0 at *
    have za:As Tryz.prog 30=some (R 30 0 false [.slice none 0 (some 0)],.ptr):=by kernel_rfl
    have zc:As Tryz.prog 173=some (R 173 0 false [.int .u64 0],.ptr):=by kernel_rfl
    generalize hS1:newObj S (R 30 0 false [.slice none 0 (some 0)])=S1
    have n1:S1.next=n0+1:=by rw[← hS1,← hn0];rfl
    have o1:∀j,j<n0→S1.heap.get j=S.heap.get j:=fun j hj=>by rw[← hS1,AN,if_neg (by omega)]
    have g1:S1.heap.get n0=some (R 30 0 false [.slice none 0 (some 0)]):=by rw[← hS1,AN,if_pos hn0.symm]
    generalize hS2:newObj S1 (R 173 0 false [.int .u64 0])=S2
    have n2:S2.next=n0+2:=by rw[← hS2];show S1.next+1=_;omega
    have g2:S2.heap.get (n0+1)=some (R 173 0 false [.int .u64 0]):=by rw[← hS2,AN,if_pos n1.symm]
    have o2:∀j,j<n0+1→S2.heap.get j=S1.heap.get j:=fun j hj=>by rw[← hS2,AN,if_neg (by omega)]
    have st:=Ce (P:=Tryz.prog) (t:=173) (o:=0) (v:=.int .u64 0) OY g2 (by simp) rfl
    simp only[gK]at st
    generalize hS3:setObj S2 (n0+1) (R 173 0 false [.int .u64 0])=S3 at st
    have n3:S3.next=n0+2:=by rw[← hS3];exact n2
    have g3:S3.heap.get (n0+1)=some (R 173 0 false [AU 0]):=by rw[← hS3,Wv];rfl
    have o3:∀j,j<n0+1→S3.heap.get j=S1.heap.get j:=fun j hj=>by rw[← hS3,Ww _ (by omega),o2 j hj]
    have o03:A9 n0 S S3:=⟨by omega,fun j hj=>by rw[o3 j (by omega),o1 j hj]⟩
    obtain⟨aD,cD,eD,hcapD,hcD⟩:=hN
    obtain⟨aA,cA,eA,hcapA,hcA⟩:=hNa
    refine WC.loop' ?_
    generalize hW:WC E none (Ab.loop HA) Q=WW
    simp only[HA,PL,WL,WM,WN,WO,Rx,dd,e1,e2,za,zc,Xb,hn0,hS1,n1,hS2,st,Xx,Xz,Qa,Qb,Qc,Qd,Qe,Qf,Qg,Qh,Qi,Qj,Qk,Ql,Qm,Qn,true_and,and_true,Qo,Qp,Qq,Qr,Qs,Qt,Qu,Qv,Qw,Qx,Qy,Qz,Ra,Rb,Rc,Rd,Re,Rf,Rg,Rh,Ri,Rj,Rk,Rm,Rn,Ro,Rp,Rq,Rs,Ya,Yb,Yc,Rt,Ru,Za,Yd,Ye,Rx,Ry,Rz,Wa,Wb,Wc,Wd]
    refine N7 hE (by rw[eD];rfl) (by rw[eA];rfl) fun S4 n4 f4 b1 b2 b3=>?_
    rw[n3]at n4 f4 b1 b2 b3 ⊢
    subst eD;subst eA
    simp only[Qa,Qb,Qc,Qd,Qe,Qf,Qg,Qh,Qi,Qj,Qk,Ql,Qm,Qn,true_and,and_true,Qo,Qp,Qq,Qr,Qs,Qt,Qu,Qv,Qw,Qx,Qy,Qz,Ra,Rb,Rc,Rd,Re,Rf,Rg,Rh,Ri,Rj,Rk,Rm,Rn,Ro,Rp,Rq,Rs,Ya,Yb,Yc,Rt,Ru,Za,Yd,Ye,Rx,Ry,Rz,Wa,Wb,Wc,Wd]
    refine WC.range rfl ?_
    rw[show S4.next=n0+5 by omega]
    show WF E 311 [.yield (n0+6),.ptr (some (n0+2,0)),.ptr (some (n0+2+1,0)),.ptr (some (n0+2+2,0))] _ (newObj (newObj S4 .mark) (.loop (J7 _ _ _ _ _ _ _ _ _ n0 _ _)))
    generalize hlo:J7 _ _ _ _ _ _ _ _ _ n0 _ _=lo
    have hm1:(newObj S4 .mark).next=n0+6:=by show S4.next+1=_;omega
    generalize hs0:newObj (newObj S4 .mark) (.loop lo)=s0
    have n0':s0.next=n0+7:=by rw[← hs0];show S4.next+1+1=_;omega
    have f0:∀j,j<n0+5→s0.heap.get j=S4.heap.get j:=fun j hj=>by rw[← hs0,AN,if_neg (by omega),AN,if_neg (by omega)]
    have hmk0:s0.heap.get (n0+5)=some .mark:=by rw[← hs0,AN,if_neg (by omega),AN,if_pos (by omega)]
    have hlp0:Ba s0 (n0+6)=some lo:=by
      unfold Ba
      rw[← hs0,AN,if_pos hm1.symm]
    have o0:A9 n0 S s0:=⟨by omega,fun j hj=>by rw[f0 j (by omega),f4 j (by omega),o3 j (by omega),o1 j hj]⟩
    have hPl:=KM D A
    have hPv:=JO (Bb D A) 0
    rw[SZ,Sb]at hPv
    have hPs:=Ex (Bb D A) 0
    have hPn:=G3 (Bb D A) 0
    refine LV hE (s0:=s0) (n0:=n0) (p:=n0+2) (l:=n0+6) (la:=D) (lb:=A) (ca:=cD) (cb:=cA) (a:=aD) (b:=aA) (by omega) (by omega) hs hAs ((hcD.old o0 (f9 hn0)).mono (f9 hn0)) ((hcA.old o0 (f9 hn0)).mono (f9 hn0)) ((f0 _ (by omega)).trans b1) ((f0 _ (by omega)).trans b2) ((f0 _ (by omega)).trans b3)
      (bz n0 s0 lo (Bb D A) (DQ (Bb D A) 0)) (fun k s h=>h.pk) (fun k s K hk hI hK=>by
        subst hlo
        exact TX hE (by rw[hPl];omega) (KL hk) (GB hs k) (GB hAs k) hI hK)
      ⟨PK.refl _ _ _,by omega,hlp0,hmk0,_,[],[],0,?_,?_,CR.nil s0 1,fun j hj=>(by cases hj),fun j hj=>(by cases hj),rfl,by omega,rfl⟩ (fun v s' hI=>?_)
    · rw[f0 n0 (by omega),f4 n0 (by omega),o3 n0 (by omega)];exact g1
    · rw[f0 (n0+1) (by omega),f4 (n0+1) (by omega)];exact g3
    obtain⟨pk,hlt',hlp,hmk,vo,d,O,c,k1,k2,hD,hO,hsl,hdl,hc,hT⟩:=hI
    rw[gQ (by rw[hPl];omega)]at hT
    simp only[DQ,gh]at hT
    rw[← hT]at hPv hPs hPn
    simp only at hPv hPs hPn
    refine⟨lo,hlp,by rw[← hlo];rfl,?_⟩
    have hpd:lo.pending=none:=by rw[← hlo];rfl
    rw[hpd]
    generalize hs6:setObj s' (n0+5+1) _=s6
    have n6:s6.next=s'.next:=by rw[← hs6];rfl
    have f6:∀j,j≠n0+6→s6.heap.get j=s'.heap.get j:=fun j hj=>by rw[← hs6,Ww _ (by omega)]
    have hD6:CR 192 s6 vo d.length 1 (us d) O:=hD.frame (f9 n6.symm) (fun j hj=>f6 j (by have:=hsl j hj;omega))
    have ld1:AE Tryz.prog s6 30 (.ptr (some (n0,0)))=some vo:=Ad D1 ((f6 n0 (by omega)).trans k1) rfl
    have ld2:AE Tryz.prog s6 173 (.ptr (some (n0+1,0)))=some (AU c):=Ad NG ((f6 (n0+1) (by omega)).trans k2) rfl
    have ec:c % 4294967296=c:=by omega
    obtain⟨v',s7,O',happ,hD7,hn7,f7,hO7,hsl7⟩:=HZ hD6 c (by rw[hdl];omega)
    have happ':A8 Tryz.prog (newObj s6 (R 192 1 false [.int .u32 c])) [30,30] [vo,.slice (some (s6.next,0)) 1 (some 1)]=some (v',s7):=happ
    have e17:=By Tryz.prog 3 (i:Int) 1 ⟨by omega,by omega⟩
    have e17':((i:Int)+1)=((i+1:Nat):Int):=by omega
    simp only[NC,RS,RT,ld1,ld2,Bd,ec,FM,Xd,happ',e17,e17',Qa,Qb,Qc,Qd,Qe,Qf,Qg,Qh,Qi,Qj,Qk,Ql,Qm,Qn,true_and,and_true,Qo,Qp,Qq,Qr,Qs,Qt,Qu,Qv,Qw,Qx,Qy,Qz,Ra,Rb,Rc,Rd,Re,Rf,Rg,Rh,Ri,Rj,Rk,Rm,Rn,Ro,Rp,Rq,Rs,Ya,Yb,Yc,Rt,Ru,Za,Yd,Ye,Rx,Ry,Rz,Wa,Wb,Wc,Wd]
    rw[← hW]
    have hlow:∀j,j<n0+6→j≠n0→j≠n0+1→(j<n0∨j=n0+5)→s7.heap.get j=s'.heap.get j:=fun j h1 h2 h3 h4=>by
      rw[f7 j (by omega) (fun h=>by have:=hO j h;omega),f6 j (by omega)]
    have oS:A9 n0 S s7:=⟨by omega,fun j hj=>by rw[hlow j (by omega) (by omega) (by omega) (.inl hj),pk.low j hj,o0.2 j hj]⟩
    have ho1:=ho.1
    have oS':A9 S.next S s7:=by rw[hn0];exact oS
    refine ih (i+1) s7 v' (d++[c]) ((n0+5)::M) _ _ _ _ _ _ _ _ _ hd' hlt (ho.trans (oS.mono (by omega))) (hR.old oS' (by omega)) (CR.n32 hD7) ?_ ?_ ?_ ?_ ?_
    · exact hPs.append (fun x hx=>by rw[List.mem_singleton.1 hx];exact gL hc (by decide))
    · rw[fg,hdl]
      show _+1≤_
      omega
    · rw[BA]
      have e3:AC [c]=c:=by simp[AC]
      have hlen:d.length=(Bb D A).length:=by rw[hdl,hPl]
      rw[e3,hlen,hPv,← hv]
      show _=AC D+(AC A+F2 r)
      omega
    · exact gU.2 ⟨fun h=>by have:=(hm _ h).2.1;omega,hM⟩
    · intro m hmm
      rcases gg.1 hmm with rfl | h
      · exact⟨by omega,by omega,(hlow _ (by omega) (by omega) (by omega) (.inr rfl)).trans hmk⟩
      · obtain⟨q1,q2,q3⟩:=hm m h
        exact⟨q1,by omega,(oS.2 m q2).trans q3⟩
end
section
variable{E:Cf}{s:AD}
theorem dB(hE:Al E){ri:Nat}{vs:List AV}{L:List (List Nat)}(hri:ri<s.next)(hR:K7 s ri vs L)(hLl:L.length≤1000)(hsm:∀l∈L,BY l∧l.length≤1000000000){K:AV→AD→Prop}
  (hK:∀s' v,A9 s.next s s'→NR s.next s' v (AI (F2 L))→K v s'):WF E 298 [.slice (some (ri,0)) L.length (some L.length)] K s:=by
 refine hE.go Zx (by decide) rfl ?_
 simp only[eJ,WJ,WK,AY Tryz.underlying325,Qa,Qb,Qc,Qd,Qe,Qf,Qg,Qh,Qi,Qj,Qk,Ql,Qm,Qn,true_and,and_true,Qo,Qp,Qq,Qr,Qs,Qt,Qu,Qv,Qw,Qx,Qy,Qz,Ra,Rb,Rc,Rd,Re,Rf,Rg,Rh,Ri,Rj,Rk,Rm,Rn,Ro,Rp,Rq,Rs,Ya,Yb,Yc,Rt,Ru,Za,Yd,Ye,Rx,Ry,Rz,Wa,Wb,Wc,Wd]
 refine Yp hE hri hLl hsm _ (tot:=F2 L) (fun S vD D M y2 y3 y4 y5 y6 y9 y10 y11 y12 y13 ho hN hs hl hv hM hm=>?_) L 0 s _ [] [] _ _ _ _ _ _ _ _ _ rfl (fa _) (A9.refl _ _) hR (NR.n32 (NR.nil 0 s)) (fun x hx=>by cases hx) (fa _) (by simp[AC]) List.nodup_nil (fun m hm=>by cases hm)
 simp only[RU,if_true,Qa,Qb,Qc,Qd,Qe,Qf,Qg,Qh,Qi,Qj,Qk,Ql,Qm,Qn,true_and,and_true,Qo,Qp,Qq,Qr,Qs,Qt,Qu,Qv,Qw,Qx,Qy,Qz,Ra,Rb,Rc,Rd,Re,Rf,Rg,Rh,Ri,Rj,Rk,Rm,Rn,Ro,Rp,Rq,Rs,Ya,Yb,Yc,Rt,Ru,Za,Yd,Ye,Rx,Ry,Rz,Wa,Wb,Wc,Wd]
 refine Bz hE hN (by omega) fun s2 v2 o2 r2=>?_
 rw[BJ hs,hv]at r2
 obtain⟨s3,u1,u2,u3⟩:=IP M s2 hM (fun m h=>by rw[o2.2 m (hm m h).2.1];exact(hm m h).2.2)
 simp only[u1,Qa,Qb,Qc,Qd,Qe,Qf,Qg,Qh,Qi,Qj,Qk,Ql,Qm,Qn,true_and,and_true,Qo,Qp,Qq,Qr,Qs,Qt,Qu,Qv,Qw,Qx,Qy,Qz,Ra,Rb,Rc,Rd,Re,Rf,Rg,Rh,Ri,Rj,Rk,Rm,Rn,Ro,Rp,Rq,Rs,Ya,Yb,Yc,Rt,Ru,Za,Yd,Ye,Rx,Ry,Rz,Wa,Wb,Wc,Wd]
 have h1:=ho.1
 have h2:=o2.1
 refine hK s3 v2 ⟨by omega,fun j hj=>?_⟩ ((r2.keep (by omega) (fun j hj=>u3 j (fun h=>?_))).mono h1)
 ·rw[u3 j (fun h=>by have:=(hm j h).1;omega),o2.2 j (by omega),ho.2 j hj]
 ·obtain⟨O,_,_,q,_⟩:=r2
  have:=q j hj
  have:=(hm j h).2.1
  omega
theorem YX(a b:Option (Nat×Nat))(ca cb:Option Nat)(n m:Nat):Ak Tryz.prog 325 2 (zipIdx [0,1] [.slice a n ca,.slice b m cb])=some (R 30 1 false [.slice a n ca,.slice b m cb]):=by kernel_rfl
theorem b8(hE:Al E){va vb:AV}{la lb:List Nat}(ha:CV s va la)(hb:CV s vb lb)(hla:la.length≤1000000000)(hlb:lb.length≤1000000000)(hsa:BY la)(hsb:BY lb){K:AV→AD→Prop}
    (hK:∀s' v,A9 s.next s s'→NR s.next s' v (AI (AC la+AC lb))→K v s'):WF E 274 [va,vb] K s:=by
  refine hE.go Zq (by decide) rfl ?_
  have hrow:Ak Tryz.prog 325 2 (zipIdx [0,1] [va,vb])=some (R 30 1 false [va,vb]):=by
    obtain⟨a,ca,rfl,_⟩:=ha
    obtain⟨b,cb,rfl,_⟩:=hb
    exact YX _ _ _ _ _ _
  have ho:=A9.new s (R 30 1 false [va,vb])
  simp only[d8,Vv,Vw,hrow,Xd,Qa,Qb,Qc,Qd,Qe,Qf,Qg,Qh,Qi,Qj,Qk,Ql,Qm,Qn,true_and,and_true,Qo,Qp,Qq,Qr,Qs,Qt,Qu,Qv,Qw,Qx,Qy,Qz,Ra,Rb,Rc,Rd,Re,Rf,Rg,Rh,Ri,Rj,Rk,Rm,Rn,Ro,Rp,Rq,Rs,Ya,Yb,Yc,Rt,Ru,Za,Yd,Ye,Rx,Ry,Rz,Wa,Wb,Wc,Wd]
  have hR:K7 (newObj s (R 30 1 false [va,vb])) s.next [va,vb] [la,lb]:=by
    refine⟨by rw[AN,if_pos rfl],rfl,fun j v l h1 h2=>?_⟩
    rcases j with _ | _ | j
    · cases h1;cases h2;exact ha.old ho
    · cases h1;cases h2;exact hb.old ho
    · cases h1
  refine dB hE (L:=[la,lb]) (gC _) hR (by simp) (fun l hl=>?_) fun s' v o' r'=>?_
  · rcases gg.1            hl with rfl | hl
    · exact⟨hsa,hla⟩
    · rw[List.mem_singleton.1 hl];exact⟨hsb,hlb⟩
  · have e:F2 [la,lb]=AC la+AC lb:=by simp[F2]
    rw[e]at r'
    simp only[Qa,Qb,Qc,Qd,Qe,Qf,Qg,Qh,Qi,Qj,Qk,Ql,Qm,Qn,true_and,and_true,Qo,Qp,Qq,Qr,Qs,Qt,Qu,Qv,Qw,Qx,Qy,Qz,Ra,Rb,Rc,Rd,Re,Rf,Rg,Rh,Ri,Rj,Rk,Rm,Rn,Ro,Rp,Rq,Rs,Ya,Yb,Yc,Rt,Ru,Za,Yd,Ye,Rx,Ry,Rz,Wa,Wb,Wc,Wd]
    exact hK s' v (ho.trans (o'.mono ho.1)) (r'.mono ho.1)
end
def J6 (v0 v1 v2 v3 x6 x7 x8 x9:AV) (n0:Nat) (x11 x12:AV):EE:=
 JB 273 [v0,v1,v2,v3,.ptr (some (n0,0)),.ptr (some (n0+1,0)),x6,x7,x8,x9,.func 311 [] [.ptr (some (n0+2,0)),.ptr (some (n0+2+1,0)),.ptr (some (n0+2+2,0))],x11,x12] #[18,19] MM MN (n0+5)
structure bw(n0:Nat)(s0:AD)(lo:EE)(P:List (Nat×Nat))(T:List Nat×Nat)(k:Nat)(s:AD):Prop where
 pk:PK n0 (n0+2) s0 s
 lt:n0+7≤s.next
 lp:Ba s (n0+6)=some lo
 mrk:s.heap.get (n0+5)=some .mark
 ex:∃vo d O c,s.heap.get n0=some (R 30 0 false [vo])∧s.heap.get (n0+1)=some (R 173 0 false [AU c])∧CR 192 s vo d.length 1 (us d) O∧(∀j∈O,n0+7≤j)∧(∀j,C6 vo=some j→n0+7≤j)∧d.length=k∧c≤1∧(d++(EV (P.drop k) c).1,(EV (P.drop k) c).2)=T
section
variable{E:Cf}{s:AD}
theorem TW(hE:Al E){n0:Nat}{s0:AD}{v0 v1 v2 v3 x6 x7 x8 x9 x11 x12:AV}{P:List (Nat×Nat)}(hPl:P.length≤10000000000){T:List Nat×Nat}{k x y:Nat}(hP:P[k]? = some (x,y))(hx:x<4294967296)(hy:y<4294967296)
    (hI:bw n0 s0 (J6 v0 v1 v2 v3 x6 x7 x8 x9 n0 x11 x12) P T k s) {K:AV→AD→Prop} (hK:∀s',bw n0 s0 (J6 v0 v1 v2 v3 x6 x7 x8 x9 n0 x11 x12) P T (k+1) s'→K (.bool true) s'):
    WR E (n0+6) [AU x,AU y] K s:=by
  obtain⟨pk,hlt,hlp,hmk,vo,d,O,c,g1,g2,hD,hO,hsl,hdl,hc,hT⟩:=hI
  have hz:DM (De E.P 273) (J6 v0 v1 v2 v3 x6 x7 x8 x9 n0 x11 x12).var [18,19] [AU x,AU y]=some [v0,v1,v2,v3,.ptr (some (n0,0)),.ptr (some (n0+1,0)),x6,x7,x8,x9,.func 311 [] [.ptr (some (n0+2,0)),.ptr (some (n0+2+1,0)),.ptr (some (n0+2+2,0))],AU x,AU y]:=by
    rw[hE.P,PI];rfl
  refine WR.round hlp hz (by rw[hE.P];exact Vj) (by rw[hE.P];exact Vk) ?_
  refine GP ?_
  simp only[NS,Vr,Vs,Qa,Qb,Qc,Qd,Qe,Qf,Qg,Qh,Qi,Qj,Qk,Ql,Qm,Qn,true_and,and_true,Qo,Qp,Qq,Qr,Qs,Qt,Qu,Qv,Qw,Qx,Qy,Qz,Ra,Rb,Rc,Rd,Re,Rf,Rg,Rh,Ri,Rj,Rk,Rm,Rn,Ro,Rp,Rq,Rs,Ya,Yb,Yc,Rt,Ru,Za,Yd,Ye,Rx,Ry,Rz,Wa,Wb,Wc,Wd]
  refine⟨_,hlp,rfl,GP ?_⟩
  generalize hs1:setObj s (n0+6) _=s1
  have n1:s1.next=s.next:=by rw[← hs1];rfl
  have f1:∀j,j≠n0+6→s1.heap.get j=s.heap.get j:=fun j hj=>by rw[← hs1,Ww _ hj]
  have l1:Ba s1 (n0+6)=some { J6 v0 v1 v2 v3 x6 x7 x8 x9 n0 x11 x12 with state:=.busy }:=by rw[← hs1,FF]
  have g1':=(f1 n0 (by omega)).trans g1
  have g2':=(f1 (n0+1) (by omega)).trans g2
  have hD1:CR 192 s1 vo d.length 1 (us d) O:=hD.frame (f9 n1.symm) (fun j hj=>f1 j (by have:=hsl j hj;omega))
  have hdk:P.drop k=(x,y)::P.drop (k+1):=by
    have hk:k<P.length:=(List.getElem?_eq_some_iff.1 hP).1
    rw[gE hk]
    rw[fX hk]at hP
    rw[Option.some.inj hP]
  have hkP:k<P.length:=(List.getElem?_eq_some_iff.1 hP).1
  rw[hdk]at hT
  simp only[EV]at hT
  have hLB:LB=4294967296:=rfl
  rw[hLB]at hT
  have e1:=Ln Tryz.prog 173 (a:=x) (b:=y) (by omega)
  have e2:=Ln Tryz.prog 173 (a:=(x+18446744073709551616 - y) % 18446744073709551616) (b:=c) (by omega)
  generalize hc1:((x+18446744073709551616 - y) % 18446744073709551616+18446744073709551616 - c) % 18446744073709551616=c1 at e2
  have hc1b:c1<18446744073709551616:=by rw[← hc1];exact fo _ (by decide)
  have e3:=Io Tryz.prog 173 hc1b
  have e11:c1 % 4294967296 % 4294967296=c1 % 4294967296:=gn _ _
  have e12:c1 % 4294967296=(x+4294967296 - y - c) % 4294967296:=by omega
  have e15:AM Tryz.prog .shr 173 (AU c1) (.int .u64 63)=some (AU (c1 / 9223372036854775808)):=Hm Tryz.prog 173 (k:=.u64) (n:=63) (by decide)
  have e14:c1 / 9223372036854775808=if x<y+c then 1 else 0:=by split<;>omega
  rw[← e12,← e14]at hT
  have hcq:c1 / 9223372036854775808≤1:=by omega
  generalize hz:c1 % 4294967296=z at hT e3 e11
  generalize hbq:c1 / 9223372036854775808=bq at hT e15 hcq
  have ld2:AE Tryz.prog s1 173 (.ptr (some (n0+1,0)))=some (AU c):=Ad NG g2' rfl
  have ld12:AE Tryz.prog s1 30 (.ptr (some (n0,0)))=some vo:=Ad D1 g1' rfl
  obtain⟨v',s3,O',happ,hD3,hn3,f3,hO3,hsl3⟩:=HZ hD1 z (by omega)
  have happ':A8 Tryz.prog (newObj s1 (R 192 1 false [.int .u32 z])) [30,30] [vo,.slice (some (s1.next,0)) 1 (some 1)]=some (v',s3):=happ
  have g13:s3.heap.get n0=some (R 30 0 false [vo]):=(f3 n0 (by omega) (fun h=>by have:=hO n0 h;omega)).trans g1'
  have g23:s3.heap.get (n0+1)=some (R 173 0 false [AU c]):=(f3 (n0+1) (by omega) (fun h=>by have:=hO _ h;omega)).trans g2'
  have hv'c:v'.isCell=true:=by obtain⟨a,cap,rfl,_⟩:=hD3.cells;rfl
  have st3:=Ce (P:=Tryz.prog) (t:=30) (o:=0) (v:=v') dC g13 (by simp) hv'c
  simp only[gK]at st3
  generalize hs4:setObj s3 n0 (R 30 0 false [v'])=s4 at st3
  have n4:s4.next=s3.next:=by rw[← hs4];rfl
  have f4:∀j,j≠n0→s4.heap.get j=s3.heap.get j:=fun j hj=>by rw[← hs4,Ww _ hj]
  have g24:=(f4 (n0+1) (by omega)).trans g23
  have st4:=Ce (P:=Tryz.prog) (t:=173) (o:=0) (v:=AU bq) OY g24 (by simp) rfl
  simp only[gK]at st4
  generalize hs5:setObj s4 (n0+1) (R 173 0 false [AU bq])=s5 at st4
  have n5:s5.next=s4.next:=by rw[← hs5];rfl
  have f5:∀j,j≠n0+1→s5.heap.get j=s4.heap.get j:=fun j hj=>by rw[← hs5,Ww _ hj]
  have fall:∀j,j<s.next→j ∉ O→j≠n0→j≠n0+1→s5.heap.get j=s1.heap.get j:=fun j hj h1 h2 h3=>by
    rw[f5 j h3,f4 j h2,f3 j (by omega) h1]
  have l5:Ba s5 (n0+6)=some { J6 v0 v1 v2 v3 x6 x7 x8 x9 n0 x11 x12 with state:=.busy }:=by
    rw[LL (fall (n0+6) (by omega) (fun h=>by have:=hO _ h;omega) (by omega) (by omega))];exact l1
  simp only[NT,Vt,Vu,RO,e1,e2,ld2,ld12,e3,Bd,e11,FM,Xd,happ',st3,e15,st4,Xx,Xz,Qa,Qb,Qc,Qd,Qe,Qf,Qg,Qh,Qi,Qj,Qk,Ql,Qm,Qn,true_and,and_true,Qo,Qp,Qq,Qr,Qs,Qt,Qu,Qv,Qw,Qx,Qy,Qz,Ra,Rb,Rc,Rd,Re,Rf,Rg,Rh,Ri,Rj,Rk,Rm,Rn,Ro,Rp,Rq,Rs,Ya,Yb,Yc,Rt,Ru,Za,Yd,Ye,Rx,Ry,Rz,Wa,Wb,Wc,Wd]
  refine⟨_,l5,hK _ ?_⟩
  have fl:∀j,j≠n0+6→∀r,(setObj s5 (n0+6) r).heap.get j=s5.heap.get j:=fun j hj r=>Ww _ hj
  have hlow:∀j,j<n0+6→j≠n0→j≠n0+1→∀r,(setObj s5 (n0+6) r).heap.get j=s.heap.get j:=fun j h1 h2 h3 r=>by
    rw[fl j (by omega),fall j (by omega) (fun h=>by have:=hO _ h;omega) h2 h3,f1 j (by omega)]
  refine⟨pk.trans ⟨?_,fun j hj=>hlow j (by omega) (by omega) (by omega) _,hlow _ (by omega) (by omega) (by omega) _,hlow _ (by omega) (by omega) (by omega) _,hlow _ (by omega) (by omega) (by omega) _⟩,?_,?_,?_,v',d++[z],O',bq,?_,?_,?_,fun j hj=>?_,fun j hj=>?_,?_,hcq,?_⟩
  · show s.next≤s5.next;omega
  · show n0+7≤s5.next;omega
  · rw[FF];rfl
  · rw[hlow _ (by omega) (by omega) (by omega)];exact hmk
  · rw[fl n0 (by omega),f5 n0 (by omega),← hs4,Wv]
  · rw[fl (n0+1) (by omega),← hs5,Wv]
  · refine hD3.frame (by show s3.next≤s5.next;omega) (fun j hj=>?_)
    have hj7:n0+7≤j:=by
      rcases hsl3 j hj with h | h
      · exact hsl j h
      · omega
    rw[fl j (by omega),f5 j (by omega),f4 j (by omega)]
  · rcases hO3 j hj with h | h
    · exact hO j h
    · omega
  · rcases hsl3 j hj with h | h
    · exact hsl j h
    · omega
  · rw[fg,hdl];rfl
  · rw[ft];exact hT
end
theorem Kk:∀ (P:List (Nat×Nat))(c:Nat),(EV P c).1.length=P.length
 | [],_=>rfl
 | p::P,c=>by show(EV P _).1.length+1=P.length+1;rw[Kk P]
theorem G0:∀ (P:List (Nat×Nat))(c:Nat),BY (EV P c).1
 | [],_=>fun x hx=>by cases hx
 | p::P,c=>fun x hx=>by
  rcases gg.1 (show x∈(p.1+LB - p.2 - c) % LB::(EV P (if p.1<p.2+c then 1 else 0)).1 from hx)with e | e
  ·rw[e];exact fo _ A4
  ·exact G0 P _ x e
theorem Yn{a b:List Nat}(ha:BY a)(hb:BY b)(h:AC b≤AC a):AC (EV (Bb a b) 0).1=AC a - AC b:=by
 have h1:=OW (Bb a b) 0 (TH ha hb) (fa _)
 have h2:=CE (G0 (Bb a b) 0)
 rw[SZ,Sb,fi]at h1
 rw[Kk]at h2
 generalize AC (EV (Bb a b) 0).1=z at *
 generalize (EV (Bb a b) 0).2=c at *
 cases c with
 | zero=>rw[gM]at h1;omega
 | succ c =>
  rw[Nat.mul_succ]at h1
  generalize LB ^ (Bb a b).length=w at *
  generalize w * c=q at *
  omega
theorem RW(a b:Nat):decide (GQ a b<0)=decide (a<b):=by
 unfold GQ
 by_cases h:a<b
 ·rw[if_pos h];simp[h]
 ·rw[if_neg h]
  split<;>simp[h]
section
variable{E:Cf}{s:AD}
theorem Yo     (hE : Al    E) {va vb : AV} {la lb : List Nat} (ha : CV  s va la) (hb : CV  s vb lb) (hla : la.length ≤ 1000000000) (hlb : lb.length ≤ 1000000000) (hsa : BY  la) (hsb : BY  lb) {K : AV → AD  → Prop}
    (hK0:AC la<AC lb→∀s',A9 s.next s s'→K (.tuple [.slice none 0 (some 0),.bool false]) s')
    (hK1:AC lb≤AC la→∀s' v,A9 s.next s s'→NR s.next s' v (AI (AC la - AC lb))→K (.tuple [v,.bool true]) s'):WF E 273 [va,vb] K s:=by
  refine hE.go Zp (by decide) rfl ?_
  simp only[dz,Vl,Vm,Qa,Qb,Qc,Qd,Qe,Qf,Qg,Qh,Qi,Qj,Qk,Ql,Qm,Qn,true_and,and_true,Qo,Qp,Qq,Qr,Qs,Qt,Qu,Qv,Qw,Qx,Qy,Qz,Ra,Rb,Rc,Rd,Re,Rf,Rg,Rh,Ri,Rj,Rk,Rm,Rn,Ro,Rp,Rq,Rs,Ya,Yb,Yc,Rt,Ru,Za,Yd,Ye,Rx,Ry,Rz,Wa,Wb,Wc,Wd]
  refine W7 hE ha hb (by omega) (by omega) hsa hsb fun S oS=>?_
  by_cases hlt:AC la<AC lb
  · have d1:decide (AC la<AC lb)=true:=decide_eq_true hlt
    simp only[Vn,Rx,RW,d1,Qa,Qb,Qc,Qd,Qe,Qf,Qg,Qh,Qi,Qj,Qk,Ql,Qm,Qn,true_and,and_true,Qo,Qp,Qq,Qr,Qs,Qt,Qu,Qv,Qw,Qx,Qy,Qz,Ra,Rb,Rc,Rd,Re,Rf,Rg,Rh,Ri,Rj,Rk,Rm,Rn,Ro,Rp,Rq,Rs,Ya,Yb,Yc,Rt,Ru,Za,Yd,Ye,Rx,Ry,Rz,Wa,Wb,Wc,Wd]
    exact hK0 hlt S oS
  · have d1 : decide (AC   la < AC   lb) = false := decide_eq_false hlt
    have hNa:=ha.old oS
    have hNb:=hb.old oS
    have hSn:=oS.1
    generalize hn0:S.next=n0 at *
    have za:As Tryz.prog 30=some (R 30 0 false [.slice none 0 (some 0)],.ptr):=by kernel_rfl
    have zc:As Tryz.prog 173=some (R 173 0 false [.int .u64 0],.ptr):=by kernel_rfl
    generalize hS1:newObj S (R 30 0 false [.slice none 0 (some 0)])=S1
    have n1:S1.next=n0+1:=by rw[← hS1,← hn0];rfl
    have o1:∀j,j<n0→S1.heap.get j=S.heap.get j:=fun j hj=>by rw[← hS1,AN,if_neg (by omega)]
    have g1:S1.heap.get n0=some (R 30 0 false [.slice none 0 (some 0)]):=by rw[← hS1,AN,if_pos hn0.symm]
    generalize hS2:newObj S1 (R 173 0 false [.int .u64 0])=S2
    have n2:S2.next=n0+2:=by rw[← hS2];show S1.next+1=_;omega
    have g2:S2.heap.get (n0+1)=some (R 173 0 false [.int .u64 0]):=by rw[← hS2,AN,if_pos n1.symm]
    have o2:∀j,j<n0+1→S2.heap.get j=S1.heap.get j:=fun j hj=>by rw[← hS2,AN,if_neg (by omega)]
    have st:=Ce (P:=Tryz.prog) (t:=173) (o:=0) (v:=.int .u64 0) OY g2 (by simp) rfl
    simp only[gK]at st
    generalize hS3:setObj S2 (n0+1) (R 173 0 false [.int .u64 0])=S3 at st
    have n3:S3.next=n0+2:=by rw[← hS3];exact n2
    have g3:S3.heap.get (n0+1)=some (R 173 0 false [AU 0]):=by rw[← hS3,Wv];rfl
    have o3:∀j,j<n0+1→S3.heap.get j=S1.heap.get j:=fun j hj=>by rw[← hS3,Ww _ (by omega),o2 j hj]
    obtain⟨aA,cA,eA,hcapA,hcA⟩:=hNa
    obtain⟨aB,cB,eB,hcapB,hcB⟩:=hNb
    simp only[Vo,Vp,Vq,Rx,RW,d1,za,zc,Xb,hn0,hS1,n1,hS2,st,Xx,Xz,Qa,Qb,Qc,Qd,Qe,Qf,Qg,Qh,Qi,Qj,Qk,Ql,Qm,Qn,true_and,and_true,Qo,Qp,Qq,Qr,Qs,Qt,Qu,Qv,Qw,Qx,Qy,Qz,Ra,Rb,Rc,Rd,Re,Rf,Rg,Rh,Ri,Rj,Rk,Rm,Rn,Ro,Rp,Rq,Rs,Ya,Yb,Yc,Rt,Ru,Za,Yd,Ye,Rx,Ry,Rz,Wa,Wb,Wc,Wd]
    refine N7 hE (by rw[eA];rfl) (by rw[eB];rfl) fun S4 n4 f4 b1 b2 b3=>?_
    rw[n3]at n4 f4 b1 b2 b3 ⊢
    subst eA;subst eB
    simp only[Qa,Qb,Qc,Qd,Qe,Qf,Qg,Qh,Qi,Qj,Qk,Ql,Qm,Qn,true_and,and_true,Qo,Qp,Qq,Qr,Qs,Qt,Qu,Qv,Qw,Qx,Qy,Qz,Ra,Rb,Rc,Rd,Re,Rf,Rg,Rh,Ri,Rj,Rk,Rm,Rn,Ro,Rp,Rq,Rs,Ya,Yb,Yc,Rt,Ru,Za,Yd,Ye,Rx,Ry,Rz,Wa,Wb,Wc,Wd]
    refine WC.range rfl ?_
    rw[show S4.next=n0+5 by omega]
    show WF E 311 [.yield (n0+6),.ptr (some (n0+2,0)),.ptr (some (n0+2+1,0)),.ptr (some (n0+2+2,0))] _ (newObj (newObj S4 .mark) (.loop (J6 _ _ _ _ _ _ _ _ n0 _ _)))
    generalize hlo:J6 _ _ _ _ _ _ _ _ n0 _ _=lo
    have hm1:(newObj S4 .mark).next=n0+6:=by show S4.next+1=_;omega
    generalize hs0:newObj (newObj S4 .mark) (.loop lo)=s0
    have n0':s0.next=n0+7:=by rw[← hs0];show S4.next+1+1=_;omega
    have f0:∀j,j<n0+5→s0.heap.get j=S4.heap.get j:=fun j hj=>by rw[← hs0,AN,if_neg (by omega),AN,if_neg (by omega)]
    have hmk0:s0.heap.get (n0+5)=some .mark:=by rw[← hs0,AN,if_neg (by omega),AN,if_pos (by omega)]
    have hlp0:Ba s0 (n0+6)=some lo:=by
      unfold Ba
      rw[← hs0,AN,if_pos hm1.symm]
    have o0:A9 n0 S s0:=⟨by omega,fun j hj=>by rw[f0 j (by omega),f4 j (by omega),o3 j (by omega),o1 j hj]⟩
    have hPl:=KM la lb
    have hPv:=Yn hsa hsb (by omega)
    have hPs:=G0 (Bb la lb) 0
    have hPn:=Kk (Bb la lb) 0
    refine LV hE (s0:=s0) (n0:=n0) (p:=n0+2) (l:=n0+6) (la:=la) (lb:=lb) (ca:=cA) (cb:=cB) (a:=aA) (b:=aB) (by omega) (by omega) hsa hsb ((hcA.old o0 (f9 hn0)).mono (f9 hn0)) ((hcB.old o0 (f9 hn0)).mono (f9 hn0)) ((f0 _ (by omega)).trans b1) ((f0 _ (by omega)).trans b2) ((f0 _ (by omega)).trans b3)
      (bw n0 s0 lo (Bb la lb) (EV (Bb la lb) 0)) (fun k s h=>h.pk) (fun k s K hk hI hK=>by
        subst hlo
        exact TW hE (by rw[hPl];omega) (KL hk) (GB hsa k) (GB hsb k) hI hK)
      ⟨PK.refl _ _ _,by omega,hlp0,hmk0,_,[],[],0,?_,?_,CR.nil s0 1,fun j hj=>(by cases hj),fun j hj=>(by cases hj),rfl,by omega,rfl⟩ (fun v s' hI=>?_)
    · rw[f0 n0 (by omega),f4 n0 (by omega),o3 n0 (by omega)];exact g1
    · rw[f0 (n0+1) (by omega),f4 (n0+1) (by omega)];exact g3
    obtain⟨pk,hlt',hlp,hmk,vo,d,O,c,k1,k2,hD,hO,hsl,hdl,hc,hT⟩:=hI
    rw[gQ (by rw[hPl];omega)]at hT
    simp only[EV,gh]at hT
    rw[← hT]at hPv hPs hPn
    simp only at hPv hPs hPn
    refine⟨lo,hlp,by rw[← hlo];rfl,?_⟩
    have hpd:lo.pending=none:=by rw[← hlo];rfl
    rw[hpd]
    generalize hs6:setObj s' (n0+5+1) _=s6
    have n6:s6.next=s'.next:=by rw[← hs6];rfl
    have f6:∀j,j≠n0+6→s6.heap.get j=s'.heap.get j:=fun j hj=>by rw[← hs6,Ww _ (by omega)]
    have hD6:CR 192 s6 vo d.length 1 (us d) O:=hD.frame (f9 n6.symm) (fun j hj=>f6 j (by have:=hsl j hj;omega))
    have ld1:AE Tryz.prog s6 30 (.ptr (some (n0,0)))=some vo:=Ad D1 ((f6 n0 (by omega)).trans k1) rfl
    simp only[NC,RP,ld1,Qa,Qb,Qc,Qd,Qe,Qf,Qg,Qh,Qi,Qj,Qk,Ql,Qm,Qn,true_and,and_true,Qo,Qp,Qq,Qr,Qs,Qt,Qu,Qv,Qw,Qx,Qy,Qz,Ra,Rb,Rc,Rd,Re,Rf,Rg,Rh,Ri,Rj,Rk,Rm,Rn,Ro,Rp,Rq,Rs,Ya,Yb,Yc,Rt,Ru,Za,Yd,Ye,Rx,Ry,Rz,Wa,Wb,Wc,Wd]
    have hN:CV s6 vo d:=CR.n32 hD6
    refine Bz hE hN (by rw[hdl];omega) fun s7 v7 o7 r7=>?_
    rw[BJ hPs,hPv]at r7
    have g7:=o7.1
    obtain⟨s8,u1,u2,u3⟩:=IP [n0+5] s7 (by simp) (fun m h=>by
      rw[List.mem_singleton.1 h,o7.2 _ (by omega),f6 _ (by omega)];exact hmk)
    simp only[u1,Qa,Qb,Qc,Qd,Qe,Qf,Qg,Qh,Qi,Qj,Qk,Ql,Qm,Qn,true_and,and_true,Qo,Qp,Qq,Qr,Qs,Qt,Qu,Qv,Qw,Qx,Qy,Qz,Ra,Rb,Rc,Rd,Re,Rf,Rg,Rh,Ri,Rj,Rk,Rm,Rn,Ro,Rp,Rq,Rs,Ya,Yb,Yc,Rt,Ru,Za,Yd,Ye,Rx,Ry,Rz,Wa,Wb,Wc,Wd]
    refine hK1 (by omega) s8 v7 ⟨by omega,fun j hj=>?_⟩ ((r7.keep (by omega) (fun j hj=>u3 j (fun h=>?_))).mono (by omega))
    · rw[u3 j (fun h=>by rw[List.mem_singleton.1 h]at hj;omega),o7.2 j (by omega),f6 j (by omega),pk.low j (by omega),o0.2 j (by omega),oS.2 j hj]
    · obtain⟨O,_,_,q,_⟩:=r7
      have:=q j hj
      rw[List.mem_singleton.1 h]at this
      omega
end
end
end Go.Proofs.YtdmgdlbodeemeaaGreatDoor.Am
set_option linter.unusedVariables false
set_option linter.unusedSimpArgs false
set_option maxRecDepth 100000
namespace Go.Proofs.YtdmgdlbodeemeaaGreatDoor.Am
open Go Go.Proofs
noncomputable section
theorem CG:A3 Tryz.prog 32=some 2:=by kernel_rfl
theorem DW:ED Tryz.prog 32=some true:=by kernel_rfl
theorem DZ(i o:Nat):AO Tryz.prog 32 (.ptr (some (i,o))) 0=some (.ptr (some (i,o+0))):=by kernel_rfl
theorem EO(i o:Nat):AO Tryz.prog 32 (.ptr (some (i,o))) 1=some (.ptr (some (i,o+1))):=by kernel_rfl
def Oy:List AB:=[
 ⟨none,.mk (fun l=>match l with | []=>As Tryz.prog 32 | _=>none),[],(.set 2),[]⟩]
def Oz:List AB:=[
 ⟨none,.p1 some,[.var 1],.push,[]⟩,
 ⟨none,.call 177,[.loc 0],.push,[]⟩,
 ⟨none,.p1 some,[.loc 0],(.set 1),[]⟩]
def JU:List AB:=[
 ⟨(some ((.var 0),true)),.p1 some,[.var 1],.push,[]⟩,
 ⟨(some ((.var 0),true)),.r (fun s l=>match l with | [x]=>Bk Tryz.prog s 30 x | _=>none),[.loc 0],.push,[]⟩,
 ⟨(some ((.var 0),true)),.p2 (AM Tryz.prog .gtr 3),[(.loc 0),(.const (.int .i64 (0)))],.push,[]⟩,
 ⟨none,.p Rt,[(.var 0),(.loc 0),(.const (.bool false))],.push,[]⟩,
 ⟨none,.p (fun l=>E4 Tryz.prog 32 (zipIdx [0,1] l)),[.loc 0,.var 1],.push,[]⟩,
 ⟨none,.e (fun s=>Xx (fun a x=>Xz (Aa Tryz.prog s 32 a x))),[.var 2,.loc 0],.push,[]⟩]
def cG:Az:=⟨2,3,(.seq (.ops Oy) (.seq (.ops Oz) (.seq (.ops JU) .ret))),[((.var 2),some 32)]⟩
def UR:List AB:=[
 ⟨none,.mk (fun l=>match l with | [v]=>Cr 32 v | _=>none),[.var 0],(.set 1),[]⟩,
 ⟨none,.mk (fun l=>match l with | []=>As Tryz.prog 32 | _=>none),[],(.set 2),[]⟩]
def US:List AB:=[
 ⟨none,.p1 (fun x=>AO Tryz.prog 32 x 0),[.var 1],.push,[]⟩,
 ⟨none,.r1 (fun s a=>AE Tryz.prog s 4 a),[.loc 0],.push,[]⟩,
 ⟨none,.p1 (fun x=>AO Tryz.prog 32 x 1),[.var 1],.push,[]⟩,
 ⟨none,.r1 (fun s a=>AE Tryz.prog s 30 a),[.loc 0],.push,[]⟩,
 ⟨none,.call 151,[.loc 2,.loc 0],.push,[]⟩,
 ⟨none,.e (fun s=>Xx (fun a x=>Xz (Aa Tryz.prog s 32 a x))),[.var 2,.loc 0],.push,[]⟩]
def dc:Az:=⟨1,3,(.seq (.ops UR) (.seq (.ops US) .ret)),[((.var 2),some 32)]⟩
def Wi:List AB:=[
 ⟨none,.mk (fun l=>match l with | [v]=>Cr 32 v | _=>none),[.var 0],(.set 2),[]⟩,
 ⟨none,.mk (fun l=>match l with | [v]=>Cr 32 v | _=>none),[.var 1],(.set 3),[]⟩,
 ⟨none,.mk (fun l=>match l with | []=>As Tryz.prog 32 | _=>none),[],(.set 4),[]⟩]
def Wj:List AB:=[
 ⟨none,.r1 (fun s a=>AE Tryz.prog s 32 a),[.var 2],.push,[]⟩,
 ⟨none,.r1 (fun s a=>AE Tryz.prog s 32 a),[.var 3],.push,[]⟩,
 ⟨none,.call 176,[.loc 1],.push,[⟨none,.r1 (fun s a=>AE Tryz.prog s 32 a),[.var 3],(.loc 1)⟩]⟩,
 ⟨none,.call 176,[.loc 1],.push,[]⟩,
 ⟨none,.e (fun s=>Xx (fun a x=>Xz (Aa Tryz.prog s 32 a x))),[.var 2,.loc 1],.push,[]⟩,
 ⟨none,.e (fun s=>Xx (fun a x=>Xz (Aa Tryz.prog s 32 a x))),[.var 3,.loc 1],.push,[]⟩]
def PN:List AB:=[
 ⟨none,.p1 (fun x=>AO Tryz.prog 32 x 0),[.var 2],.push,[]⟩,
 ⟨none,.r1 (fun s a=>AE Tryz.prog s 4 a),[.loc 0],.push,[]⟩,
 ⟨none,.p1 (fun x=>AO Tryz.prog 32 x 0),[.var 3],.push,[]⟩,
 ⟨none,.r1 (fun s a=>AE Tryz.prog s 4 a),[.loc 0],.push,[]⟩,
 ⟨none,.p2 (AM Tryz.prog .eql 4),[.loc 2,.loc 0],(.set 8),[]⟩]
def Wk:List AB:=[
 ⟨none,.p1 (fun x=>AO Tryz.prog 32 x 0),[.var 2],.push,[]⟩,
 ⟨none,.r1 (fun s a=>AE Tryz.prog s 4 a),[.loc 0],.push,[]⟩,
 ⟨none,.p1 (fun x=>AO Tryz.prog 32 x 1),[.var 2],.push,[]⟩,
 ⟨none,.r1 (fun s a=>AE Tryz.prog s 30 a),[.loc 0],.push,[]⟩,
 ⟨none,.p1 (fun x=>AO Tryz.prog 32 x 1),[.var 3],.push,[]⟩,
 ⟨none,.r1 (fun s a=>AE Tryz.prog s 30 a),[.loc 0],.push,[]⟩,
 ⟨none,.call 274,[.loc 2,.loc 0],.push,[⟨none,.r1 (fun s a=>AE Tryz.prog s 4 a),[.loc 6],(.loc 5)⟩]⟩,
 ⟨none,.call 151,[.loc 5,.loc 0],.push,[]⟩,
 ⟨none,.e (fun s=>Xx (fun a x=>Xz (Aa Tryz.prog s 32 a x))),[.var 4,.loc 0],.push,[]⟩]
def Wl:List AB:=[
 ⟨none,.p1 (fun x=>AO Tryz.prog 32 x 1),[.var 2],.push,[]⟩,
 ⟨none,.r1 (fun s a=>AE Tryz.prog s 30 a),[.loc 0],.push,[]⟩,
 ⟨none,.p1 (fun x=>AO Tryz.prog 32 x 1),[.var 3],.push,[]⟩,
 ⟨none,.r1 (fun s a=>AE Tryz.prog s 30 a),[.loc 0],.push,[]⟩,
 ⟨none,.call 273,[.loc 2,.loc 0],.push,[]⟩,
 ⟨none,.p1 (fun x=>Za x 0),[.loc 0],.push,[]⟩,
 ⟨none,.p1 (fun x=>Za x 1),[.loc 1],.push,[]⟩,
 ⟨none,.p1 some,[.loc 1],(.set 5),[]⟩,
 ⟨none,.p1 some,[.loc 0],(.set 6),[]⟩]
def PO:List AB:=[
 ⟨none,.p1 some,[.var 6],(.set 9),[]⟩]
def Wm:List AB:=[
 ⟨none,.p1 (fun x=>AO Tryz.prog 32 x 0),[.var 2],.push,[]⟩,
 ⟨none,.r1 (fun s a=>AE Tryz.prog s 4 a),[.loc 0],.push,[]⟩,
 ⟨none,.call 151,[.loc 0,.var 5],.push,[]⟩,
 ⟨none,.e (fun s=>Xx (fun a x=>Xz (Aa Tryz.prog s 32 a x))),[.var 4,.loc 0],.push,[]⟩]
def Wp:List AB:=[
 ⟨none,.p1 (fun x=>AO Tryz.prog 32 x 1),[.var 3],.push,[]⟩,
 ⟨none,.r1 (fun s a=>AE Tryz.prog s 30 a),[.loc 0],.push,[]⟩,
 ⟨none,.p1 (fun x=>AO Tryz.prog 32 x 1),[.var 2],.push,[]⟩,
 ⟨none,.r1 (fun s a=>AE Tryz.prog s 30 a),[.loc 0],.push,[]⟩,
 ⟨none,.call 273,[.loc 2,.loc 0],.push,[]⟩,
 ⟨none,.p1 (fun x=>Za x 0),[.loc 0],.push,[]⟩,
 ⟨none,.p1 (fun x=>Za x 1),[.loc 1],.push,[]⟩,
 ⟨none,.p1 some,[.loc 1],(.set 7),[]⟩,
 ⟨none,.p1 some,[.loc 0],.push,[]⟩]
def Wq:List AB:=[
 ⟨none,.p1 (fun x=>AO Tryz.prog 32 x 0),[.var 3],.push,[]⟩,
 ⟨none,.r1 (fun s a=>AE Tryz.prog s 4 a),[.loc 0],.push,[]⟩,
 ⟨none,.call 151,[.loc 0,.var 7],.push,[]⟩,
 ⟨none,.e (fun s=>Xx (fun a x=>Xz (Aa Tryz.prog s 32 a x))),[.var 4,.loc 0],.push,[]⟩]
def eN:Az:=⟨2,10,(.seq (.ops Wi) (.seq (.ops Wj) (.seq (.seq (.ops PN) (.cond (.var 8)
 (.seq (.ops Wk) .ret)
 .skip)) (.seq (.seq (.ops Wl) (.seq (.ops PO) (.cond (.var 9)
 (.seq (.ops Wm) .ret)
 .skip))) (.seq (.ops Wp) (.seq (.ops Wq) .ret)))))),[((.var 4),some 32)]⟩
def V9:List AB:=[
 ⟨none,.mk (fun l=>match l with | [v]=>Cr 32 v | _=>none),[.var 0],(.set 2),[]⟩,
 ⟨none,.mk (fun l=>match l with | [v]=>Cr 32 v | _=>none),[.var 1],(.set 3),[]⟩,
 ⟨none,.mk (fun l=>match l with | []=>As Tryz.prog 32 | _=>none),[],(.set 4),[]⟩]
def WA:List AB:=[
 ⟨none,.p1 (fun x=>AO Tryz.prog 32 x 0),[.var 2],.push,[]⟩,
 ⟨none,.r1 (fun s a=>AE Tryz.prog s 4 a),[.loc 0],.push,[]⟩,
 ⟨none,.p1 (fun x=>AO Tryz.prog 32 x 0),[.var 3],.push,[]⟩,
 ⟨none,.r1 (fun s a=>AE Tryz.prog s 4 a),[.loc 0],.push,[]⟩,
 ⟨none,.p2 (AM Tryz.prog .neq 4),[.loc 2,.loc 0],.push,[]⟩,
 ⟨none,.p1 (fun x=>AO Tryz.prog 32 x 1),[.var 2],.push,[]⟩,
 ⟨none,.r1 (fun s a=>AE Tryz.prog s 30 a),[.loc 0],.push,[]⟩,
 ⟨none,.p1 (fun x=>AO Tryz.prog 32 x 1),[.var 3],.push,[]⟩,
 ⟨none,.r1 (fun s a=>AE Tryz.prog s 30 a),[.loc 0],.push,[]⟩,
 ⟨none,.call 135,[.loc 2,.loc 0],.push,[⟨none,.r1 (fun s a=>AE Tryz.prog s 4 a),[.loc 7],(.loc 6)⟩,⟨none,.r1 (fun s a=>AE Tryz.prog s 4 a),[.loc 9],(.loc 8)⟩]⟩,
 ⟨none,.call 151,[.loc 5,.loc 0],.push,[]⟩,
 ⟨none,.e (fun s=>Xx (fun a x=>Xz (Aa Tryz.prog s 32 a x))),[.var 4,.loc 0],.push,[]⟩]
def eH:Az:=⟨2,5,(.seq (.ops V9) (.seq (.ops WA) .ret)),[((.var 4),some 32)]⟩
def V3:List AB:=[
 ⟨none,.mk (fun l=>match l with | [v]=>Cr 32 v | _=>none),[.var 0],(.set 3),[]⟩,
 ⟨none,.mk (fun l=>match l with | []=>As Tryz.prog 32 | _=>none),[],(.set 4),[]⟩]
def V4:List AB:=[
 ⟨none,.p1 some,[.var 1],(.set 6),[]⟩,
 ⟨none,.r (fun s l=>match l with | [x]=>Bk Tryz.prog s 304 x | _=>none),[.var 6],(.set 7),[]⟩,
 ⟨none,.p1 some,[(.const (.int .i64 (0)))],(.set 8),[]⟩]
def PJ:List AB:=[
 ⟨none,.p2 (AM Tryz.prog .lss 3),[.var 8,.var 7],(.set 9),[]⟩]
def V5:List AB:=[
 ⟨none,.p2 (AP Tryz.prog 304),[.var 6,.var 8],.push,[]⟩,
 ⟨none,.r1 (fun s a=>AE Tryz.prog s 32 a),[.loc 0],.push,[]⟩,
 ⟨none,.mk (fun l=>match l with | []=>As Tryz.prog 32 | _=>none),[],(.set 5),[]⟩,
 ⟨none,.e (fun s=>Xx (fun a x=>Xz (Aa Tryz.prog s 32 a x))),[.var 5,.loc 0],.push,[]⟩]
def V6:List AB:=[
 ⟨none,.r1 (fun s a=>AE Tryz.prog s 32 a),[.var 3],.push,[]⟩,
 ⟨none,.r1 (fun s a=>AE Tryz.prog s 32 a),[.var 5],.push,[]⟩,
 ⟨none,.callv,[.var 2,.loc 1,.loc 0],.push,[]⟩,
 ⟨none,.e (fun s=>Xx (fun a x=>Xz (Aa Tryz.prog s 32 a x))),[.var 3,.loc 0],.push,[]⟩]
def V7:List AB:=[
 ⟨none,.p2 (AM Tryz.prog .add 3),[(.var 8),(.const (.int .i64 (1)))],.push,[]⟩,
 ⟨none,.p1 some,[.loc 0],(.set 8),[]⟩]
def Hw:Ab:=(.seq (.ops PJ) (.seq (.cond (.var 9)
 .skip
 (.exit 0)) (.seq (.block 1 (.seq (.ops V5) (.ops V6))) (.ops V7))))
def V8:List AB:=[
 ⟨none,.r1 (fun s a=>AE Tryz.prog s 32 a),[.var 3],.push,[]⟩,
 ⟨none,.e (fun s=>Xx (fun a x=>Xz (Aa Tryz.prog s 32 a x))),[.var 4,.loc 0],.push,[]⟩]
def eG:Az:=⟨3,10,(.seq (.ops V3) (.seq (.seq (.ops V4) (.block 0 (.loop Hw))) (.seq (.ops V8) .ret))),[((.var 4),some 32)]⟩
def V1:List AB:=[
 ⟨none,.mk (fun l=>match l with | []=>As Tryz.prog 32 | _=>none),[],(.set 1),[]⟩]
def V2:List AB:=[
 ⟨none,.p (fun l=>E4 Tryz.prog 32 (zipIdx [] l)),[],.push,[]⟩,
 ⟨none,.call 285,[(.loc 0),(.var 0),(.const (.func 306 [] []))],.push,[]⟩,
 ⟨none,.e (fun s=>Xx (fun a x=>Xz (Aa Tryz.prog s 32 a x))),[.var 1,.loc 0],.push,[]⟩]
def eF:Az:=⟨1,2,(.seq (.ops V1) (.seq (.ops V2) .ret)),[((.var 1),some 32)]⟩
def Vh:List AB:=[
 ⟨none,.mk (fun l=>match l with | []=>As Tryz.prog 32 | _=>none),[],(.set 1),[]⟩]
def Vi:List AB:=[
 ⟨none,.call 73,[(.const (.int .i64 (1)))],.push,[]⟩,
 ⟨none,.call 285,[(.loc 0),(.var 0),(.const (.func 286 [] []))],.push,[]⟩,
 ⟨none,.e (fun s=>Xx (fun a x=>Xz (Aa Tryz.prog s 32 a x))),[.var 1,.loc 0],.push,[]⟩]
def dy:Az:=⟨1,2,(.seq (.ops Vh) (.seq (.ops Vi) .ret)),[((.var 1),some 32)]⟩
def Tp:List AB:=[
 ⟨none,.mk (fun l=>match l with | [v]=>Cr 32 v | _=>none),[.var 0],(.set 1),[]⟩,
 ⟨none,.p1 some,[(.const (.int .i64 (0)))],(.set 2),[]⟩]
def Tq:List AB:=[
 ⟨none,.r1 (fun s a=>AE Tryz.prog s 32 a),[.var 1],.push,[]⟩,
 ⟨none,.call 176,[.loc 0],.push,[]⟩,
 ⟨none,.e (fun s=>Xx (fun a x=>Xz (Aa Tryz.prog s 32 a x))),[.var 1,.loc 0],.push,[]⟩]
def L7:List AB:=[
 ⟨none,.p1 (fun x=>AO Tryz.prog 32 x 0),[.var 1],.push,[]⟩,
 ⟨none,.r1 (fun s a=>AE Tryz.prog s 4 a),[.loc 0],.push,[]⟩,
 ⟨none,.p1 some,[.loc 0],(.set 3),[]⟩]
def Tr:List AB:=[
 ⟨none,.p1 some,[(.const (.int .i64 (-1)))],(.set 2),[]⟩]
def Oq:List AB:=[
 ⟨none,.p1 (fun x=>AO Tryz.prog 32 x 1),[.var 1],.push,[]⟩,
 ⟨none,.r1 (fun s a=>AE Tryz.prog s 30 a),[.loc 0],.push,[]⟩,
 ⟨none,.r (fun s l=>match l with | [x]=>Bk Tryz.prog s 30 x | _=>none),[.loc 0],.push,[]⟩,
 ⟨none,.p2 (AM Tryz.prog .gtr 3),[(.loc 0),(.const (.int .i64 (0)))],.push,[]⟩,
 ⟨none,.p1 some,[.loc 0],(.set 4),[]⟩]
def Ts:List AB:=[
 ⟨none,.p1 some,[(.const (.int .i64 (1)))],(.set 2),[]⟩]
def Tt:List AB:=[
 ⟨none,.p1 some,[(.const (.int .i64 (0)))],(.set 2),[]⟩]
def dT:Az:=⟨1,5,(.seq (.ops Tp) (.seq (.seq (.ops Tq) (.block 0 (.seq (.ops L7) (.cond (.var 3)
 (.seq (.ops Tr) .ret)
 (.seq (.ops Oq) (.cond (.var 4)
 (.seq (.ops Ts) .ret)
 .skip)))))) (.seq (.ops Tt) .ret))),[((.var 2),none)]⟩
def W1:List AB:=[
 ⟨none,.mk (fun l=>match l with | []=>As Tryz.prog 32 | _=>none),[],(.set 1),[]⟩]
def W2:List AB:=[
 ⟨none,.r1 (fun s x=>Ae Tryz.prog s 2 173 x),[.var 0],.push,[]⟩,
 ⟨none,.p1 some,[.loc 0],(.set 2),[]⟩]
def W3:List AB:=[
 ⟨none,.p2 (AM Tryz.prog .lss 2),[(.var 0),(.const (.int .i64 (0)))],(.set 3),[]⟩]
def bQ:List AB:=[
 ⟨none,.p1 some,[.var 2],.push,[]⟩,
 ⟨none,.p1 (dF Tryz.prog Go.UnOp.neg),[.loc 0],.push,[]⟩,
 ⟨none,.p1 some,[.loc 0],(.set 2),[]⟩]
def W4:List AB:=[
 ⟨none,.p2 (AM Tryz.prog .lss 2),[(.var 0),(.const (.int .i64 (0)))],.push,[]⟩,
 ⟨none,.r1 (fun s x=>Ae Tryz.prog s 173 192 x),[.var 2],.push,[]⟩,
 ⟨none,.p2 (AM Tryz.prog .shr 173),[(.var 2),(.const (.int .u64 (32)))],.push,[]⟩,
 ⟨none,.r1 (fun s x=>Ae Tryz.prog s 173 192 x),[.loc 0],.push,[]⟩,
 ⟨none,.mk (fun l=>(Ak Tryz.prog 30 2 (zipIdx [0,1] l)).bind fun r=>some (r,.slice 2)),[.loc 2,.loc 0],.push,[]⟩,
 ⟨none,.call 151,[.loc 4,.loc 0],.push,[]⟩,
 ⟨none,.e (fun s=>Xx (fun a x=>Xz (Aa Tryz.prog s 32 a x))),[.var 1,.loc 0],.push,[]⟩]
def fA:Az:=⟨1,4,(.seq (.ops W1) (.seq (.ops W2) (.seq (.seq (.ops W3) (.cond (.var 3)
 (.ops bQ)
 .skip)) (.seq (.ops W4) .ret)))),[((.var 1),some 32)]⟩
theorem RY:AS Tryz.prog 151=some cG:=by kernel_rfl
theorem ZY:AS Tryz.prog 176=some dc:=by kernel_rfl
theorem Z1:AS Tryz.prog 306=some eN:=by kernel_rfl
theorem Zv:AS Tryz.prog 286=some eH:=by kernel_rfl
theorem Zu:AS Tryz.prog 285=some eG:=by kernel_rfl
theorem Zt:AS Tryz.prog 284=some eF:=by kernel_rfl
theorem Zo:AS Tryz.prog 251=some dy:=by kernel_rfl
theorem ZR:AS Tryz.prog 130=some dT:=by kernel_rfl
theorem cN:AS Tryz.prog 73=some fA:=by kernel_rfl
end
end Go.Proofs.YtdmgdlbodeemeaaGreatDoor.Am
set_option linter.unusedVariables false
namespace Go.Proofs.YtdmgdlbodeemeaaGreatDoor.Am
noncomputable section
def B2(neg:Bool)(m:Nat):Int:=if neg=true then -(m:Int)else (m:Int)
def Df(d:Nat):Nat:=if d=0 then 1 else d
def Mr(neg:Bool)(m d:Nat):Rat:=mkRat (B2 neg m) (Df d)
theorem HG(d:Nat):Df d≠0:=by unfold Df;split<;>omega
theorem DS(neg:Bool)(m:Nat):(B2 neg m).natAbs=m:=by unfold B2;split<;>omega
theorem KT(neg:Bool)(m d:Nat):(Mr neg m d).num=B2 neg m / ((m.gcd (Df d):Nat):Int):=by
 unfold Mr
 rw[Rat.num_mkRat,if_neg (HG d),Nat.gcd_comm]
 simp[DS]
theorem OG(neg:Bool)(m d:Nat):(Mr neg m d).den=Df d / m.gcd (Df d):=by
 unfold Mr
 rw[Rat.den_mkRat,if_neg (HG d)]
 simp[DS,Nat.gcd_comm]
theorem Ms{n:Int}{d:Nat}(hd:d≠0)(neg:Bool)(m:Nat)(hn:B2 neg m=n):Mr neg m d=mkRat n d:=by
 unfold Mr Df
 rw[if_neg hd,hn]
theorem cY{n1 n2:Int}{d1 d2:Nat}(h1:d1≠0)(h2:d2≠0):mkRat n1 d1+mkRat n2 d2=mkRat (n1 * d2+n2 * d1) (d1 * d2):=Rat.mkRat_add_mkRat n1 n2 h1 h2
theorem ce(n1 n2:Int)(d1 d2:Nat):mkRat n1 d1 * mkRat n2 d2=mkRat (n1 * n2) (d1 * d2):=Rat.mkRat_mul_mkRat n1 n2 d1 d2
structure Wr where
 neg:Bool
 num:Nat
 den:Nat
def dH(q:Rat):Wr:=⟨decide (q.num<0),q.num.natAbs,q.den⟩
theorem bI(q:Rat):Mr (dH q).neg (dH q).num (dH q).den=q:=by
 have hd:(dH q).den≠0:=q.den_nz
 have hn:B2 (dH q).neg (dH q).num=q.num:=by
  unfold B2 dH
  by_cases h:q.num<0
  ·simp[h];omega
  ·simp[h];omega
 rw[Ms hd _ _ hn]
 exact Rat.mkRat_self q
end
end Go.Proofs.YtdmgdlbodeemeaaGreatDoor.Am
set_option linter.unusedVariables false
set_option linter.unusedSimpArgs false
set_option maxRecDepth 16000
namespace Go.Proofs.YtdmgdlbodeemeaaGreatDoor.Am
open Go Go.Proofs
noncomputable section
section
variable{P:Program}{s:AD}{i e sz t n:Nat}{sp:Bool}{cs cs0:List AV}
theorem Aj(ht:ED P t=some true)(hs:A3 P t=some n)(hg:s.heap.get i=some (R e sz sp cs))(hl:cs.length=n):AE P s t (.ptr (some (i,0)))=some (.agg cs):=by
 subst hl
 rw[Wf ht,hs,Option.bind_some,hg,Wo (by omega)]
 simp
theorem QE{a b:List AV}(h:a.length=b.length):DI a 0 b=b:=by
 refine List.ext_getElem? fun k=>?_
 rw[Kh _ _ _ _ (by omega)]
 rcases fS k b.length with h' | h'
 ·rw[if_pos ⟨fa _,by omega⟩];rfl
 ·rw[if_neg (by omega),ff (by omega),ff h']
theorem A6(hs:A3 P t=some n)(hg:s.heap.get i=some (R e sz sp cs0))(hl0:cs0.length=n)(hl:cs.length=n)(ha:Ar cs=true)(hn:cs≠[]):Aa P s t (.ptr (some (i,0))) (.agg cs)=some (setObj s i (R e sz sp cs)):=by
 rw[Wg,hs]
 show AG (decide (cs.length=n)) (CD s i 0 cs)=_
 rw[OV hg (by omega) ha,QE (by omega),decide_eq_true hl]
 cases cs with
 | nil=>exact absurd rfl hn
 | cons c cs=>rfl
theorem AW(P:Program)(s:AD)(v:List AV)(x:CX)(t:TypeId)(l:List (CX×Option TypeId)):BS P s v ((x,some t)::l)=(AE P s t (CM [] v x)).bind fun u=>(BS P s v l).bind fun r=>some (u::r):=rfl
end
theorem NR.set{b i:Nat}{s:AD}{v:AV}{l:List Nat}(h:NR b s v l)(hi:i<b)(o:Af):NR b (setObj s i o) v l:=
 h.keep (fR _) fun j hj=>Ww _ (by obtain⟨O,_,_,q,_⟩:=h;have:=q j hj;omega)
theorem A9.set{b i:Nat}{s s':AD}(h:A9 b s s')(hi:b≤i)(o:Af):A9 b s (setObj s' i o):=⟨h.1,fun j hj=>(Ww _ (by omega)).trans (h.2 j hj)⟩
theorem CV.shape{s:AD}{v:AV}{l:List Nat}(h:CV s v l):∃a n c,v=.slice a n c:=by obtain⟨a,c,rfl,_⟩:=h;exact⟨_,_,_,rfl⟩
theorem Iz(x:Bool)(a:Option (Nat×Nat))(n:Nat)(c:Option Nat):E4 Tryz.prog 32 (zipIdx [0,1] [.bool x,.slice a n c])=some (.agg [.bool x,.slice a n c]):=by kernel_rfl
theorem DY:As Tryz.prog 32=some (R 32 0 false [.bool false,.slice none 0 (some 0)],.ptr):=by kernel_rfl
theorem HI(x:Bool)(a:Option (Nat×Nat))(n:Nat)(c:Option Nat):Ep (.agg [.bool x,.slice a n c]) (.agg [.bool x,.slice a n c])=true:=by
 cases a<;>cases c<;>cases x<;>simp[Ep,Ep.eqAs]
theorem Jl(x:Bool):Ep (.bool x) (.bool x)=true:=by cases x<;>rfl
def BI(s:AD)(v:AV)(z:Int)(k:Nat):Prop:=∃neg m l,v=.agg [.bool neg,m]∧CV s m l∧BY l∧l.length≤k∧B2 neg (AC l)=z
def BR(b:Nat)(s:AD)(v:AV)(z:Int):Prop:=∃m,v=.agg [.bool (decide (z<0)),m]∧NR b s m (AI z.natAbs)
theorem BI.old{s s':AD}{v:AV}{z:Int}{k:Nat}(h:BI s v z k)(o:A9 s.next s s'):BI s' v z k:=by
 obtain⟨neg,m,l,h1,h2,h3⟩:=h
 exact⟨neg,m,l,h1,h2.old o,h3⟩
theorem BR.old{b:Nat}{s s':AD}{v:AV}{z:Int}(h:BR b s v z)(o:A9 s.next s s'):BR b s' v z:=by
 obtain⟨m,h1,h2⟩:=h
 exact⟨m,h1,h2.old o⟩
theorem BR.mono{b b':Nat}{s:AD}{v:AV}{z:Int}(h:BR b s v z)(k:b'≤b):BR b' s v z:=by
 obtain⟨m,h1,h2⟩:=h
 exact⟨m,h1,h2.mono k⟩
theorem BR.set{b i:Nat}{s:AD}{v:AV}{z:Int}(h:BR b s v z)(hi:i<b)(o:Af):BR b (setObj s i o) v z:=by
 obtain⟨m,h1,h2⟩:=h
 exact⟨m,h1,h2.set hi o⟩
theorem BH{n k:Nat}(h:n<LB ^ k):(AI n).length≤k:=by
 rcases fS k (AI n).length with h' | h'
 ·exfalso
  have h0:n≠0:=by
   rintro rfl
   rw[A7]at h'
   simp at h'
  have:=J1 n h0
  have h2:LB ^ k≤LB ^ ((AI n).length - 1):=gX A4 (by omega)
  omega
 ·exact h'
theorem Fi(z:Int):B2 (decide (z<0)) z.natAbs=z:=by
 unfold B2
 by_cases h:z<0
 ·rw[if_pos (decide_eq_true h)];omega
 ·rw[if_neg (by simpa using h)];omega
theorem BR.bi{b k:Nat}{s:AD}{v:AV}{z:Int}(h:BR b s v z)(hz:z.natAbs<LB ^ k):BI s v z k:=by
 obtain⟨m,h1,h2⟩:=h
 exact⟨_,m,_,h1,h2.n32,AR _,BH hz,by rw[AZ,Fi]⟩
theorem BI.abs{s:AD}{v:AV}{z:Int}{k:Nat}(h:BI s v z k):z.natAbs<LB ^ k:=by
 obtain⟨neg,m,l,h1,h2,h3,h4,rfl⟩:=h
 rw[DS]
 exact fV (CE h3) (gX A4 h4)
theorem GY(n:Nat):decide ((0:Int)<((AI n).length:Int))=decide (n≠0):=by
 by_cases h:n=0
 ·subst h;rw[A7];rfl
 ·have:=List.length_pos_iff.2 (Ca h)
  rw[decide_eq_true (show(0:Int)<((AI n).length:Int) by omega),decide_eq_true h]
theorem aF(neg:Bool)(n:Nat):decide (B2 neg n<0)=(neg && decide (n≠0)):=by
 unfold B2
 cases neg with
 | false=>rw[if_neg (by decide),Bool.false_and];exact decide_eq_false (by omega)
 | true =>
  rw[if_pos rfl,Bool.true_and]
  by_cases h:n=0
  ·rw[decide_eq_false (show ¬ (-(n:Int)<0) by omega),decide_eq_false (by simpa using h)]
  ·rw[decide_eq_true (show -(n:Int)<0 by omega),decide_eq_true h]
section
variable{E:Cf}{s:AD}
theorem Gj(hE:Al E){neg:Bool}{m:AV}{l:List Nat}(hm:CV s m l)(hl:l.length≤1000000000)(hs:BY l){K:AV→AD→Prop}
  (hK:∀s' v,A9 s.next s s'→BR s.next s' v (B2 neg (AC l))→K v s'):WF E 151 [.bool neg,m] K s:=by
 refine hE.go RY (by decide) rfl ?_
 have o1:=A9.new s (R 32 0 false [.bool false,.slice none 0 (some 0)])
 have g1:(newObj s (R 32 0 false [.bool false,.slice none 0 (some 0)])).heap.get s.next=some (R 32 0 false [.bool false,.slice none 0 (some 0)]):=by rw[AN,if_pos rfl]
 have n1:(newObj s (R 32 0 false [.bool false,.slice none 0 (some 0)])).next=s.next+1:=rfl
 simp only[cG,Oy,Oz,DY,Xb,Qa,Qb,Qc,Qd,Qe,Qf,Qg,Qh,Qi,Qj,Qk,Ql,Qm,Qn,true_and,and_true,Qo,Qp,Qq,Qr,Qs,Qt,Qu,Qv,Qw,Qx,Qy,Qz,Ra,Rb,Rc,Rd,Re,Rf,Rg,Rh,Ri,Rj,Rk,Rm,Rn,Ro,Rp,Rq,Rs,Ya,Yb,Yc,Rt,Ru,Za,Yd,Ye,Rx,Ry,Rz,Wa,Wb,Wc,Wd]
 generalize newObj s (R 32 0 false [.bool false,.slice none 0 (some 0)])=s1 at *
 refine Bz hE (hm.old o1) (by omega) fun s2 v2 o2 r2=>?_
 rw[BJ hs]at r2
 have g2:=(o2.2 s.next (by omega)).trans g1
 obtain⟨a,c,e2,_⟩:=r2.n32
 have hz:=aF neg (AC l)
 rw[← GY]at hz
 have fin:∀x,x=decide (B2 neg (AC l)<0)→K (.agg [.bool x,v2]) (setObj s2 s.next (R 32 0 false [.bool x,v2])):=fun x hx=>by
  subst hx
  refine hK _ _ ((o1.trans (o2.mono o1.1)).set (fR _) _) (BR.mono (b:=s1.next) ⟨v2,rfl,?_⟩ (by omega))
  rw[DS]
  exact r2.set (by omega) _
 have st:∀x,Aa Tryz.prog s2 32 (.ptr (some (s.next,0))) (.agg [.bool x,.slice a (AI (AC l)).length c])=some (setObj s2 s.next (R 32 0 false [.bool x,.slice a (AI (AC l)).length c])):=fun x=>A6 CG g2 rfl rfl rfl (by simp)
 have ld:∀x,AE Tryz.prog (setObj s2 s.next (R 32 0 false [.bool x,.slice a (AI (AC l)).length c])) 32 (.ptr (some (s.next,0)))=some (.agg [.bool x,.slice a (AI (AC l)).length c]):=fun x=>Aj DW CG (Wv _ _ _) rfl
 subst e2
 cases neg with
 | true =>
  rw[Bool.true_and]at hz
  simp only[JU,AY Tryz.underlying30,Ry,Rt,Iz,st,ld,AW,Xx,Xz,Qa,Qb,Qc,Qd,Qe,Qf,Qg,Qh,Qi,Qj,Qk,Ql,Qm,Qn,true_and,and_true,Qo,Qp,Qq,Qr,Qs,Qt,Qu,Qv,Qw,Qx,Qy,Qz,Ra,Rb,Rc,Rd,Re,Rf,Rg,Rh,Ri,Rj,Rk,Rm,Rn,Ro,Rp,Rq,Rs,Ya,Yb,Yc,Rt,Ru,Za,Yd,Ye,Rx,Ry,Rz,Wa,Wb,Wc,Wd]
  exact fin _ hz.symm
 | false =>
  rw[Bool.false_and]at hz
  simp only[JU,Rt,Iz,st,ld,AW,Xx,Xz,Qa,Qb,Qc,Qd,Qe,Qf,Qg,Qh,Qi,Qj,Qk,Ql,Qm,Qn,true_and,and_true,Qo,Qp,Qq,Qr,Qs,Qt,Qu,Qv,Qw,Qx,Qy,Qz,Ra,Rb,Rc,Rd,Re,Rf,Rg,Rh,Ri,Rj,Rk,Rm,Rn,Ro,Rp,Rq,Rs,Ya,Yb,Yc,Rt,Ru,Za,Yd,Ye,Rx,Ry,Rz,Wa,Wb,Wc,Wd]
  exact fin _ hz.symm
theorem ZH(hE:Al E){neg:Bool}{K:AV→AD→Prop}(hK:∀s',A9 s.next s s'→s'.next=s.next+1→K (.agg [.bool false,.slice none 0 (some 0)]) s'):WF E 151 [.bool neg,.slice none 0 (some 0)] K s:=by
 refine hE.go RY (by decide) rfl ?_
 have o1:=A9.new s (R 32 0 false [.bool false,.slice none 0 (some 0)])
 have g1:(newObj s (R 32 0 false [.bool false,.slice none 0 (some 0)])).heap.get s.next=some (R 32 0 false [.bool false,.slice none 0 (some 0)]):=by rw[AN,if_pos rfl]
 have n1:(newObj s (R 32 0 false [.bool false,.slice none 0 (some 0)])).next=s.next+1:=rfl
 simp only[cG,Oy,Oz,DY,Xb,Qa,Qb,Qc,Qd,Qe,Qf,Qg,Qh,Qi,Qj,Qk,Ql,Qm,Qn,true_and,and_true,Qo,Qp,Qq,Qr,Qs,Qt,Qu,Qv,Qw,Qx,Qy,Qz,Ra,Rb,Rc,Rd,Re,Rf,Rg,Rh,Ri,Rj,Rk,Rm,Rn,Ro,Rp,Rq,Rs,Ya,Yb,Yc,Rt,Ru,Za,Yd,Ye,Rx,Ry,Rz,Wa,Wb,Wc,Wd]
 generalize newObj s (R 32 0 false [.bool false,.slice none 0 (some 0)])=s1 at *
 refine Ys hE ?_
 have st:=A6 (P:=Tryz.prog) (t:=32) (cs:=[.bool false,.slice none 0 (some 0)]) CG g1 rfl rfl rfl (by simp)
 have ld:=Aj (P:=Tryz.prog) (t:=32) (s:=setObj s1 s.next (R 32 0 false [.bool false,.slice none 0 (some 0)])) (i:=s.next) DW CG (Wv _ _ _) rfl
 have dd:decide ((0:Int)<((0:Nat):Int))=false:=rfl
 cases neg with
 | true =>
  simp only[JU,AY Tryz.underlying30,Ry,dd,Rt,Iz,st,ld,AW,Xx,Xz,Qa,Qb,Qc,Qd,Qe,Qf,Qg,Qh,Qi,Qj,Qk,Ql,Qm,Qn,true_and,and_true,Qo,Qp,Qq,Qr,Qs,Qt,Qu,Qv,Qw,Qx,Qy,Qz,Ra,Rb,Rc,Rd,Re,Rf,Rg,Rh,Ri,Rj,Rk,Rm,Rn,Ro,Rp,Rq,Rs,Ya,Yb,Yc,Rt,Ru,Za,Yd,Ye,Rx,Ry,Rz,Wa,Wb,Wc,Wd]
  exact hK _ (o1.set (fR _) _) n1
 | false =>
  simp only[JU,Rt,Iz,st,ld,AW,Xx,Xz,Qa,Qb,Qc,Qd,Qe,Qf,Qg,Qh,Qi,Qj,Qk,Ql,Qm,Qn,true_and,and_true,Qo,Qp,Qq,Qr,Qs,Qt,Qu,Qv,Qw,Qx,Qy,Qz,Ra,Rb,Rc,Rd,Re,Rf,Rg,Rh,Ri,Rj,Rk,Rm,Rn,Ro,Rp,Rq,Rs,Ya,Yb,Yc,Rt,Ru,Za,Yd,Ye,Rx,Ry,Rz,Wa,Wb,Wc,Wd]
  exact hK _ (o1.set (fR _) _) n1
theorem ZJ(hE:Al E){neg:Bool}{m:AV}{l:List Nat}(hm:CV s m l)(hl:l.length≤1000000000)(hs:BY l){K:AV→AD→Prop}
  (hK:∀s' v,A9 s.next s s'→BR s.next s' v (B2 neg (AC l))→(m=.slice none 0 (some 0)→v=.agg [.bool false,.slice none 0 (some 0)])→K v s'):WF E 151 [.bool neg,m] K s:=by
 by_cases h:m=.slice none 0 (some 0)
 ·subst h
  refine ZH hE fun s' o _=>hK s' _ o ?_ fun _=>rfl
  obtain⟨a,c,e,_⟩:=hm
  injection e with _ e2 _
  have hl0:l=[]:=List.length_eq_zero_iff.1 e2.symm
  subst hl0
  have hz:B2 neg (AC [])=0:=by cases neg<;>rfl
  rw[hz]
  exact⟨_,rfl,by show NR s.next s' _ (AI 0);rw[A7];exact NR.nil _ _⟩
 ·exact Gj hE hm hl hs fun s' v o r=>hK s' v o r fun e=>absurd e h
end
theorem BM(s:AD)(o:Af):(newObj s o).next=s.next+1:=rfl
theorem GR(s:AD)(A:Af):(newObj s A).next=s.next+1∧A9 s.next s (newObj s A)∧(newObj s A).heap.get s.next=some A:=⟨rfl,A9.new s A,by rw[AN,if_pos rfl]⟩
theorem Kw(s:AD)(A B:Af):(newObj (newObj s A) B).next=s.next+2∧A9 s.next s (newObj (newObj s A) B)∧(newObj (newObj s A) B).heap.get s.next=some A∧(newObj (newObj s A) B).heap.get (s.next+1)=some B:=by
 refine⟨rfl,(A9.new s A).trans ((A9.new (newObj s A) B).mono (gD _)),?_,?_⟩
 ·rw[AN,if_neg (by rw[BM];omega),AN,if_pos rfl]
 ·rw[AN,if_pos (by rw[BM])]
theorem TD(s:AD)(A B C:Af):(newObj (newObj (newObj s A) B) C).next=s.next+3∧A9 s.next s (newObj (newObj (newObj s A) B) C)∧(newObj (newObj (newObj s A) B) C).heap.get s.next=some A∧(newObj (newObj (newObj s A) B) C).heap.get (s.next+1)=some B∧(newObj (newObj (newObj s A) B) C).heap.get (s.next+2)=some C:=by
 obtain⟨h1,h2,h3,h4⟩:=Kw s A B
 refine⟨rfl,h2.trans ((A9.new (newObj (newObj s A) B) C).mono (by omega)),?_,?_,?_⟩
 ·rw[AN,if_neg (by omega)];exact h3
 ·rw[AN,if_neg (by omega)];exact h4
 ·rw[AN,if_pos (by omega)]
abbrev ZI:Af:=R 32 0 false [.bool false,.slice none 0 (some 0)]
abbrev BX(x:Bool)(m:AV):Af:=R 32 0 false [.bool x,m]
section
variable{E:Cf}{s:AD}
theorem JR(hE:Al E){v:AV}{z:Int}{k:Nat}(hv:BI s v z k)(hk:k≤1000000000){K:AV→AD→Prop}(hK:∀s' v,A9 s.next s s'→BR s.next s' v z→K v s'):WF E 176 [v] K s:=by
 obtain⟨neg,m,l,rfl,hm,hs,hl,rfl⟩:=hv
 obtain⟨a,n,c,rfl⟩:=hm.shape
 refine hE.go ZY (by decide) rfl ?_
 obtain⟨n1,o1,g1,g2⟩:=Kw s (BX neg (.slice a n c)) ZI
 simp only[dc,UR,US,Wz,Xg,DY,Xb,BM,DZ,EO,Qa,Qb,Qc,Qd,Qe,Qf,Qg,Qh,Qi,Qj,Qk,Ql,Qm,Qn,true_and,and_true,Qo,Qp,Qq,Qr,Qs,Qt,Qu,Qv,Qw,Qx,Qy,Qz,Ra,Rb,Rc,Rd,Re,Rf,Rg,Rh,Ri,Rj,Rk,Rm,Rn,Ro,Rp,Rq,Rs,Ya,Yb,Yc,Rt,Ru,Za,Yd,Ye,Rx,Ry,Rz,Wa,Wb,Wc,Wd]
 generalize newObj (newObj s (BX neg (.slice a n c))) ZI=s1 at *
 have l1:=Ad (P:=Tryz.prog) (t:=4) (o:=0+0) Oj g1 rfl
 have l2:=Ad (P:=Tryz.prog) (t:=30) (o:=0+1) D1 g1 rfl
 simp only[l1,l2,Qa,Qb,Qc,Qd,Qe,Qf,Qg,Qh,Qi,Qj,Qk,Ql,Qm,Qn,true_and,and_true,Qo,Qp,Qq,Qr,Qs,Qt,Qu,Qv,Qw,Qx,Qy,Qz,Ra,Rb,Rc,Rd,Re,Rf,Rg,Rh,Ri,Rj,Rk,Rm,Rn,Ro,Rp,Rq,Rs,Ya,Yb,Yc,Rt,Ru,Za,Yd,Ye,Rx,Ry,Rz,Wa,Wb,Wc,Wd]
 refine Gj hE (hm.old o1) (by omega) hs fun s2 v2 o2 r2=>?_
 have g3:=(o2.2 (s.next+1) (by omega)).trans g2
 obtain⟨m2,rfl,r2⟩:=r2
 obtain⟨a2,n2,c2,rfl⟩:=r2.n32.shape
 have st:=A6 (P:=Tryz.prog) (t:=32) (cs:=[.bool (decide (B2 neg (AC l)<0)),.slice a2 n2 c2]) CG g3 rfl rfl rfl (by simp)
 have ld:=Aj (P:=Tryz.prog) (t:=32) (s:=setObj s2 (s.next+1) (R 32 0 false [.bool (decide (B2 neg (AC l)<0)),.slice a2 n2 c2])) (i:=s.next+1) DW CG (Wv _ _ _) rfl
 simp only[st,ld,AW,Xx,Xz,Qa,Qb,Qc,Qd,Qe,Qf,Qg,Qh,Qi,Qj,Qk,Ql,Qm,Qn,true_and,and_true,Qo,Qp,Qq,Qr,Qs,Qt,Qu,Qv,Qw,Qx,Qy,Qz,Ra,Rb,Rc,Rd,Re,Rf,Rg,Rh,Ri,Rj,Rk,Rm,Rn,Ro,Rp,Rq,Rs,Ya,Yb,Yc,Rt,Ru,Za,Yd,Ye,Rx,Ry,Rz,Wa,Wb,Wc,Wd]
 exact hK _ _ ((o1.trans (o2.mono o1.1)).set (by omega) _) (BR.mono (b:=s1.next) ⟨_,rfl,r2.set (by omega) _⟩ (by omega))
def Iu(z:Int):Int:=if z<0 then -1 else if 0<z then 1 else 0
theorem To(hE:Al E){v:AV}{z:Int}{k:Nat}(hv:BI s v z k)(hk:k≤1000000000){K:AV→AD→Prop}(hK:∀s',A9 s.next s s'→K (iv (Iu z)) s'):WF E 130 [v] K s:=by
 have hv0:=hv
 obtain⟨neg,m,l,rfl,hm,hs,hl,hz⟩:=hv
 obtain⟨a,n,c,rfl⟩:=hm.shape
 refine hE.go ZR (by decide) rfl ?_
 obtain⟨n1,o1,g1⟩:=GR s (BX neg (.slice a n c))
 simp only[dT,Tp,Tq,Wz,Xg,Xb,BM,Qa,Qb,Qc,Qd,Qe,Qf,Qg,Qh,Qi,Qj,Qk,Ql,Qm,Qn,true_and,and_true,Qo,Qp,Qq,Qr,Qs,Qt,Qu,Qv,Qw,Qx,Qy,Qz,Ra,Rb,Rc,Rd,Re,Rf,Rg,Rh,Ri,Rj,Rk,Rm,Rn,Ro,Rp,Rq,Rs,Ya,Yb,Yc,Rt,Ru,Za,Yd,Ye,Rx,Ry,Rz,Wa,Wb,Wc,Wd]
 generalize newObj s (BX neg (.slice a n c))=s1 at *
 have l1:=Aj (P:=Tryz.prog) (t:=32) DW CG g1 rfl
 simp only[l1,Qa,Qb,Qc,Qd,Qe,Qf,Qg,Qh,Qi,Qj,Qk,Ql,Qm,Qn,true_and,and_true,Qo,Qp,Qq,Qr,Qs,Qt,Qu,Qv,Qw,Qx,Qy,Qz,Ra,Rb,Rc,Rd,Re,Rf,Rg,Rh,Ri,Rj,Rk,Rm,Rn,Ro,Rp,Rq,Rs,Ya,Yb,Yc,Rt,Ru,Za,Yd,Ye,Rx,Ry,Rz,Wa,Wb,Wc,Wd]
 refine JR hE (hv0.old o1) hk fun s2 v2 o2 r2=>?_
 have g2:=(o2.2 s.next (by omega)).trans g1
 obtain⟨m2,rfl,r2⟩:=r2
 obtain⟨a2,c2,rfl,_⟩:=r2.n32
 have st:=A6 (P:=Tryz.prog) (t:=32) (cs:=[.bool (decide (z<0)),.slice a2 (AI z.natAbs).length c2]) CG g2 rfl rfl rfl (by simp)
 have l2:=Ad (P:=Tryz.prog) (t:=4) (s:=setObj s2 s.next (R 32 0 false [.bool (decide (z<0)),.slice a2 (AI z.natAbs).length c2])) (i:=s.next) (o:=0+0) Oj (Wv _ _ _) rfl
 have l3:=Ad (P:=Tryz.prog) (t:=30) (s:=setObj s2 s.next (R 32 0 false [.bool (decide (z<0)),.slice a2 (AI z.natAbs).length c2])) (i:=s.next) (o:=0+1) D1 (Wv _ _ _) rfl
 have hend:=hK (setObj s2 s.next (R 32 0 false [.bool (decide (z<0)),.slice a2 (AI z.natAbs).length c2])) ((o1.trans (o2.mono o1.1)).set (fR _) _)
 have hp:=GY z.natAbs
 unfold Iu at hend
 by_cases h1:z<0
 ·have d1:decide (z<0)=true:=decide_eq_true h1
  rw[if_pos h1]at hend
  simp only[d1]at *
  simp only[st,l2,DZ,L7,Tr,Xx,Xz,Qa,Qb,Qc,Qd,Qe,Qf,Qg,Qh,Qi,Qj,Qk,Ql,Qm,Qn,true_and,and_true,Qo,Qp,Qq,Qr,Qs,Qt,Qu,Qv,Qw,Qx,Qy,Qz,Ra,Rb,Rc,Rd,Re,Rf,Rg,Rh,Ri,Rj,Rk,Rm,Rn,Ro,Rp,Rq,Rs,Ya,Yb,Yc,Rt,Ru,Za,Yd,Ye,Rx,Ry,Rz,Wa,Wb,Wc,Wd]
  exact hend
 ·have d1:decide (z<0)=false:=decide_eq_false h1
  rw[if_neg h1]at hend
  by_cases h2:0<z
  ·have d2:decide (z.natAbs≠0)=true:=decide_eq_true (by omega)
   rw[if_pos h2]at hend
   rw[d2]at hp
   simp only[d1]at *
   simp only[st,l2,l3,DZ,EO,AY Tryz.underlying30,Ry,hp,L7,Oq,Ts,Xx,Xz,Qa,Qb,Qc,Qd,Qe,Qf,Qg,Qh,Qi,Qj,Qk,Ql,Qm,Qn,true_and,and_true,Qo,Qp,Qq,Qr,Qs,Qt,Qu,Qv,Qw,Qx,Qy,Qz,Ra,Rb,Rc,Rd,Re,Rf,Rg,Rh,Ri,Rj,Rk,Rm,Rn,Ro,Rp,Rq,Rs,Ya,Yb,Yc,Rt,Ru,Za,Yd,Ye,Rx,Ry,Rz,Wa,Wb,Wc,Wd]
   exact hend
  ·have d2:decide (z.natAbs≠0)=false:=decide_eq_false (by omega)
   rw[if_neg h2]at hend
   rw[d2]at hp
   simp only[d1]at *
   simp only[st,l2,l3,DZ,EO,AY Tryz.underlying30,Ry,hp,L7,Oq,Tt,if_true,Xx,Xz,Qa,Qb,Qc,Qd,Qe,Qf,Qg,Qh,Qi,Qj,Qk,Ql,Qm,Qn,true_and,and_true,Qo,Qp,Qq,Qr,Qs,Qt,Qu,Qv,Qw,Qx,Qy,Qz,Ra,Rb,Rc,Rd,Re,Rf,Rg,Rh,Ri,Rj,Rk,Rm,Rn,Ro,Rp,Rq,Rs,Ya,Yb,Yc,Rt,Ru,Za,Yd,Ye,Rx,Ry,Rz,Wa,Wb,Wc,Wd]
   exact hend
end
theorem X7(x y:Bool):AM Tryz.prog .neq 4 (.bool x) (.bool y)=some (.bool (x != y)):=by cases x<;>cases y<;>kernel_rfl
theorem Nc(x y:Bool):AM Tryz.prog .eql 4 (.bool x) (.bool y)=some (.bool (x == y)):=by cases x<;>cases y<;>kernel_rfl
theorem Xf(x y:Bool)(a b:Nat):B2 (x != y) (a * b)=B2 x a * B2 y b:=by
 unfold B2
 cases x<;>cases y<;>simp[Int.neg_mul,Int.mul_neg]
theorem D9{a b j k:Nat}(ha:a<LB ^ j)(hb:b<LB ^ k):a * b<LB ^ (j+k):=by
 rw[Nat.pow_add]
 exact Nat.mul_lt_mul'' ha hb
theorem KQ{a b k:Nat}(ha:a<LB ^ k)(hb:b<LB ^ k):a+b<LB ^ (k+1):=by
 rw[gG]
 have:LB ^ k * 2≤LB ^ k * LB:=fz _ (by decide)
 omega
theorem HY{a j k:Nat}(ha:a<LB ^ j)(h:j≤k):a<LB ^ k:=fV ha (gX A4 h)
theorem GE{l:List Nat}{k:Nat}(hs:BY l)(h:l.length≤k):AC l<LB ^ k:=HY (CE hs) h
section
variable{E:Cf}{s:AD}
theorem E3{s1 s2:AD}{p:Nat}{x:Bool}{a:Option (Nat×Nat)}{n:Nat}{c:Option Nat}(hg:s2.heap.get p=some ZI):
  Aa Tryz.prog s2 32 (.ptr (some (p,0))) (.agg [.bool x,.slice a n c])=some (setObj s2 p (BX x (.slice a n c)))∧AE Tryz.prog (setObj s2 p (BX x (.slice a n c))) 32 (.ptr (some (p,0)))=some (.agg [.bool x,.slice a n c]):=
 ⟨A6 CG hg rfl rfl rfl (by simp),Aj DW CG (Wv _ _ _) rfl⟩
theorem NO(hE:Al E){va vb:AV}{x y:Int}{ka kb:Nat}(ha:BI s va x ka)(hb:BI s vb y kb)(hk:ka+kb≤1000000000){K:AV→AD→Prop}(hK:∀s' v,A9 s.next s s'→BR s.next s' v (x * y)→K v s'):WF E 286 [va,vb] K s:=by
 obtain⟨na,ma,la,rfl,hma,hsa,hla,rfl⟩:=ha
 obtain⟨nb,mb,lb,rfl,hmb,hsb,hlb,rfl⟩:=hb
 obtain⟨aa,an,ac,rfl⟩:=hma.shape
 obtain⟨ba,bn,bc,rfl⟩:=hmb.shape
 refine hE.go Zv (by decide) rfl ?_
 obtain⟨n1,o1,g1,g2,g3⟩:=TD s (BX na (.slice aa an ac)) (BX nb (.slice ba bn bc)) ZI
 simp only[eH,V9,WA,Wz,Xg,DY,Xb,BM,DZ,EO,Qa,Qb,Qc,Qd,Qe,Qf,Qg,Qh,Qi,Qj,Qk,Ql,Qm,Qn,true_and,and_true,Qo,Qp,Qq,Qr,Qs,Qt,Qu,Qv,Qw,Qx,Qy,Qz,Ra,Rb,Rc,Rd,Re,Rf,Rg,Rh,Ri,Rj,Rk,Rm,Rn,Ro,Rp,Rq,Rs,Ya,Yb,Yc,Rt,Ru,Za,Yd,Ye,Rx,Ry,Rz,Wa,Wb,Wc,Wd]
 generalize newObj (newObj (newObj s (BX na (.slice aa an ac))) (BX nb (.slice ba bn bc))) ZI=s1 at *
 have l1:=Ad (P:=Tryz.prog) (t:=4) (o:=0+0) Oj g1 rfl
 have l2:=Ad (P:=Tryz.prog) (t:=30) (o:=0+1) D1 g1 rfl
 have l3:=Ad (P:=Tryz.prog) (t:=4) (o:=0+0) Oj g2 rfl
 have l4:=Ad (P:=Tryz.prog) (t:=30) (o:=0+1) D1 g2 rfl
 simp only[l1,l2,l3,l4,X7,Qa,Qb,Qc,Qd,Qe,Qf,Qg,Qh,Qi,Qj,Qk,Ql,Qm,Qn,true_and,and_true,Qo,Qp,Qq,Qr,Qs,Qt,Qu,Qv,Qw,Qx,Qy,Qz,Ra,Rb,Rc,Rd,Re,Rf,Rg,Rh,Ri,Rj,Rk,Rm,Rn,Ro,Rp,Rq,Rs,Ya,Yb,Yc,Rt,Ru,Za,Yd,Ye,Rx,Ry,Rz,Wa,Wb,Wc,Wd]
 refine Pu hE (hma.old o1) (hmb.old o1) (by omega) (by omega) hsa hsb fun s2 v2 o2 r2=>?_
 have f1:=(o2.2 s.next (by omega)).trans g1
 have f2:=(o2.2 (s.next+1) (by omega)).trans g2
 have f3:=(o2.2 (s.next+1+1) (by omega)).trans g3
 refine⟨⟨BG (by simp only[Qa,Qb,Qc,Qd,Qe,Qf,Qg,Qh,Qi,Qj,Qk,Ql,Qm,Qn,true_and,and_true,Qo,Qp,Qq,Qr,Qs,Qt,Qu,Qv,Qw,Qx,Qy,Qz,Ra,Rb,Rc,Rd,Re,Rf,Rg,Rh,Ri,Rj,Rk,Rm,Rn,Ro,Rp,Rq,Rs,Ya,Yb,Yc,Rt,Ru,Za,Yd,Ye,Rx,Ry,Rz,Wa,Wb,Wc,Wd];exact Ad (o:=0+0) Oj f2 rfl) (Jl _),BG (by simp only[Qa,Qb,Qc,Qd,Qe,Qf,Qg,Qh,Qi,Qj,Qk,Ql,Qm,Qn,true_and,and_true,Qo,Qp,Qq,Qr,Qs,Qt,Qu,Qv,Qw,Qx,Qy,Qz,Ra,Rb,Rc,Rd,Re,Rf,Rg,Rh,Ri,Rj,Rk,Rm,Rn,Ro,Rp,Rq,Rs,Ya,Yb,Yc,Rt,Ru,Za,Yd,Ye,Rx,Ry,Rz,Wa,Wb,Wc,Wd];exact Ad (o:=0+0) Oj f1 rfl) (Jl _),trivial⟩,?_⟩
 have hlen:(AI (AC la * AC lb)).length≤1000000000:=fU (BH (D9 (GE hsa hla) (GE hsb hlb))) hk
 simp only[Qa,Qb,Qc,Qd,Qe,Qf,Qg,Qh,Qi,Qj,Qk,Ql,Qm,Qn,true_and,and_true,Qo,Qp,Qq,Qr,Qs,Qt,Qu,Qv,Qw,Qx,Qy,Qz,Ra,Rb,Rc,Rd,Re,Rf,Rg,Rh,Ri,Rj,Rk,Rm,Rn,Ro,Rp,Rq,Rs,Ya,Yb,Yc,Rt,Ru,Za,Yd,Ye,Rx,Ry,Rz,Wa,Wb,Wc,Wd]
 refine Gj hE r2.n32 hlen (AR _) fun s3 v3 o3 r3=>?_
 rw[AZ,Xf]at r3
 have q3:=(o3.2 (s.next+1+1) (by have:=o2.1;omega)).trans f3
 obtain⟨m3,rfl,r3⟩:=r3
 obtain⟨a3,n3,c3,rfl⟩:=r3.n32.shape
 obtain⟨st,ld⟩:=E3 (s1:=s) (x:=decide (B2 na (AC la) * B2 nb (AC lb)<0)) (a:=a3) (n:=n3) (c:=c3) q3
 simp only[st,ld,AW,Xx,Xz,Qa,Qb,Qc,Qd,Qe,Qf,Qg,Qh,Qi,Qj,Qk,Ql,Qm,Qn,true_and,and_true,Qo,Qp,Qq,Qr,Qs,Qt,Qu,Qv,Qw,Qx,Qy,Qz,Ra,Rb,Rc,Rd,Re,Rf,Rg,Rh,Ri,Rj,Rk,Rm,Rn,Ro,Rp,Rq,Rs,Ya,Yb,Yc,Rt,Ru,Za,Yd,Ye,Rx,Ry,Rz,Wa,Wb,Wc,Wd]
 have h2:=o2.1
 exact hK _ _ ((o1.trans ((o2.trans (o3.mono h2)).mono o1.1)).set (by omega) _) (BR.mono (b:=s2.next) ⟨_,rfl,r3.set (by omega) _⟩ (by omega))
end
theorem Yq{x y:Int}(h:decide (x<0)=decide (y<0)):B2 (decide (x<0)) (x.natAbs+y.natAbs)=x+y:=by
 unfold B2
 by_cases hx:x<0
 ·have hy:y<0:=by rw[decide_eq_true hx]at h;exact of_decide_eq_true h.symm
  rw[if_pos (decide_eq_true hx)];omega
 ·have hy:¬ y<0:=by rw[decide_eq_false hx]at h;exact of_decide_eq_false h.symm
  rw[if_neg (by simpa using hx)];omega
theorem OX{x y:Int}(h:decide (x<0)≠decide (y<0))(hl:y.natAbs≤x.natAbs):B2 (decide (x<0)) (x.natAbs - y.natAbs)=x+y:=by
 unfold B2
 by_cases hx:x<0
 ·have hy:¬ y<0:=fun hy=>h (by rw[decide_eq_true hx,decide_eq_true hy])
  rw[if_pos (decide_eq_true hx)];omega
 ·have hy:y<0:=Classical.byContradiction fun hy=>h (by rw[decide_eq_false hx,decide_eq_false hy])
  rw[if_neg (by simpa using hx)];omega
section
variable{E:Cf}{s:AD}
theorem NL       (hE : Al    E) {va vb : AV} {x y : Int} {ka kb : Nat} (ha : BI s va x ka) (hb : BI s vb y kb) (hk : ka + kb + 1 ≤ 1000000000) {K : AV → AD  → Prop} (hK : ∀ s' v, A9  s.next s s' → BR s.next s' v (x + y) → K v s') : WF E 306 [va, vb] K s := by
  have ha0:=ha
  have hb0:=hb
  have xb:=ha.abs
  have yb:=hb.abs
  obtain⟨na,ma,la,rfl,hma,hsa,hla,hxa⟩:=ha
  obtain⟨nb,mb,lb,rfl,hmb,hsb,hlb,hyb⟩:=hb
  obtain⟨aa,an,ac,rfl⟩:=hma.shape
  obtain⟨ba,bn,bc,rfl⟩:=hmb.shape
  refine hE.go Z1 (by decide) rfl ?_
  obtain⟨n1,o1,g1,g2,g3⟩:=TD s (BX na (.slice aa an ac)) (BX nb (.slice ba bn bc)) ZI
  simp only[eN,Wi,Wj,Wz,Xg,DY,Xb,BM,Qa,Qb,Qc,Qd,Qe,Qf,Qg,Qh,Qi,Qj,Qk,Ql,Qm,Qn,true_and,and_true,Qo,Qp,Qq,Qr,Qs,Qt,Qu,Qv,Qw,Qx,Qy,Qz,Ra,Rb,Rc,Rd,Re,Rf,Rg,Rh,Ri,Rj,Rk,Rm,Rn,Ro,Rp,Rq,Rs,Ya,Yb,Yc,Rt,Ru,Za,Yd,Ye,Rx,Ry,Rz,Wa,Wb,Wc,Wd]
  generalize newObj (newObj (newObj s (BX na (.slice aa an ac))) (BX nb (.slice ba bn bc))) ZI=s1 at *
  have l1:=Aj (P:=Tryz.prog) (t:=32) DW CG g1 rfl
  have l2:=Aj (P:=Tryz.prog) (t:=32) DW CG g2 rfl
  simp only[l1,l2,Qa,Qb,Qc,Qd,Qe,Qf,Qg,Qh,Qi,Qj,Qk,Ql,Qm,Qn,true_and,and_true,Qo,Qp,Qq,Qr,Qs,Qt,Qu,Qv,Qw,Qx,Qy,Qz,Ra,Rb,Rc,Rd,Re,Rf,Rg,Rh,Ri,Rj,Rk,Rm,Rn,Ro,Rp,Rq,Rs,Ya,Yb,Yc,Rt,Ru,Za,Yd,Ye,Rx,Ry,Rz,Wa,Wb,Wc,Wd]
  refine JR hE (ha0.old o1) (by omega) fun s2 v2 o2 r2=>?_
  have f1:=(o2.2 s.next (by omega)).trans g1
  have f2:=(o2.2 (s.next+1) (by omega)).trans g2
  have f3:=(o2.2 (s.next+1+1) (by omega)).trans g3
  refine⟨⟨BG (by simp only[Qa,Qb,Qc,Qd,Qe,Qf,Qg,Qh,Qi,Qj,Qk,Ql,Qm,Qn,true_and,and_true,Qo,Qp,Qq,Qr,Qs,Qt,Qu,Qv,Qw,Qx,Qy,Qz,Ra,Rb,Rc,Rd,Re,Rf,Rg,Rh,Ri,Rj,Rk,Rm,Rn,Ro,Rp,Rq,Rs,Ya,Yb,Yc,Rt,Ru,Za,Yd,Ye,Rx,Ry,Rz,Wa,Wb,Wc,Wd];exact Aj DW CG f2 rfl) (HI _ _ _ _),trivial⟩,?_⟩
  simp only[Qa,Qb,Qc,Qd,Qe,Qf,Qg,Qh,Qi,Qj,Qk,Ql,Qm,Qn,true_and,and_true,Qo,Qp,Qq,Qr,Qs,Qt,Qu,Qv,Qw,Qx,Qy,Qz,Ra,Rb,Rc,Rd,Re,Rf,Rg,Rh,Ri,Rj,Rk,Rm,Rn,Ro,Rp,Rq,Rs,Ya,Yb,Yc,Rt,Ru,Za,Yd,Ye,Rx,Ry,Rz,Wa,Wb,Wc,Wd]
  have h2:=o2.1
  refine JR hE (hb0.old (o1.trans (o2.mono o1.1))) (by omega) fun s3 v3 o3 r3=>?_
  have h3:=o3.1
  have e1:=(o3.2 s.next (by omega)).trans f1
  have e2:=(o3.2 (s.next+1) (by omega)).trans f2
  have e3:=(o3.2 (s.next+1+1) (by omega)).trans f3
  have r2':=r2.old o3
  obtain⟨m2,rfl,q2⟩:=r2'
  obtain⟨m3,rfl,q3⟩:=r3
  obtain⟨a2,n2,c2,rfl⟩:=q2.n32.shape
  obtain⟨a3,n3,c3,rfl⟩:=q3.n32.shape
  have st1:=A6 (P:=Tryz.prog) (t:=32) (cs:=[.bool (decide (x<0)),.slice a2 n2 c2]) CG e1 rfl rfl rfl (by simp)
  generalize hs4:setObj s3 s.next (BX (decide (x<0)) (.slice a2 n2 c2))=s4 at st1
  have e2':s4.heap.get (s.next+1)=some (BX nb (.slice ba bn bc)):=by rw[← hs4,Ww _ (by omega)];exact e2
  have st2:=A6 (P:=Tryz.prog) (t:=32) (cs:=[.bool (decide (y<0)),.slice a3 n3 c3]) CG e2' rfl rfl rfl (by simp)
  generalize hs5:setObj s4 (s.next+1) (BX (decide (y<0)) (.slice a3 n3 c3))=s5 at st2
  have k1:s5.heap.get s.next=some (BX (decide (x<0)) (.slice a2 n2 c2)):=by rw[← hs5,Ww _ (by omega),← hs4,Wv]
  have k2:s5.heap.get (s.next+1)=some (BX (decide (y<0)) (.slice a3 n3 c3)):=by rw[← hs5,Wv]
  have k3:s5.heap.get (s.next+1+1)=some ZI:=by rw[← hs5,Ww _ (by omega),← hs4,Ww _ (by omega)];exact e3
  have n5:s5.next=s3.next:=by rw[← hs5,← hs4];rfl
  have o5:A9 s.next s s5:=by
    rw[← hs5,← hs4]
    exact((o1.trans ((o2.trans (o3.mono h2)).mono o1.1)).set (fR _) _).set (by omega) _
  have w2:NR s1.next s5 (.slice a2 n2 c2) (AI x.natAbs):=by rw[← hs5,← hs4];exact(q2.set (by omega) _).set (by omega) _
  have w3:NR s2.next s5 (.slice a3 n3 c3) (AI y.natAbs):=by rw[← hs5,← hs4];exact(q3.set (by omega) _).set (by omega) _
  have l1:=Ad (P:=Tryz.prog) (t:=4) (o:=0+0) Oj k1 rfl
  have l2:=Ad (P:=Tryz.prog) (t:=30) (o:=0+1) D1 k1 rfl
  have l3:=Ad (P:=Tryz.prog) (t:=4) (o:=0+0) Oj k2 rfl
  have l4:=Ad (P:=Tryz.prog) (t:=30) (o:=0+1) D1 k2 rfl
  have xl:=BH xb
  have yl:=BH yb
  have vx:=AZ x.natAbs
  have vy:=AZ y.natAbs
  have fin:∀ (sg:Bool) (s6:AD) (v6:AV) (L:Nat),A9 s5.next s5 s6→NR s5.next s6 v6 (AI L)→L<LB ^ (ka+kb+1)→B2 sg L=x+y→∀K2:AV→AD→Prop,
      (∀s7 x7 a7 n7 c7,Aa Tryz.prog s7 32 (.ptr (some (s.next+1+1,0))) (.agg [.bool x7,.slice a7 n7 c7])=some (setObj s7 (s.next+1+1) (BX x7 (.slice a7 n7 c7))) →
        AE Tryz.prog (setObj s7 (s.next+1+1) (BX x7 (.slice a7 n7 c7))) 32 (.ptr (some (s.next+1+1,0)))=some (.agg [.bool x7,.slice a7 n7 c7]) →
        K (.agg [.bool x7,.slice a7 n7 c7]) (setObj s7 (s.next+1+1) (BX x7 (.slice a7 n7 c7)))→K2 (.agg [.bool x7,.slice a7 n7 c7]) s7)→WF E 151 [.bool sg,v6] K2 s6:=by
    intro sg s6 v6 L o6 r6 hL hsg K2 hK2
    refine Gj hE r6.n32 (fU (BH hL) hk) (AR _) fun s7 v7 o7 r7=>?_
    rw[AZ,hsg]at r7
    have h6:=o6.1
    have g7:s7.heap.get (s.next+1+1)=some ZI:=by rw[o7.2 _ (by omega),o6.2 _ (by omega)];exact k3
    obtain⟨m7,rfl,r7⟩:=r7
    obtain⟨a7,n7,c7,rfl⟩:=r7.n32.shape
    obtain⟨st,ld⟩:=E3 (s1:=s) (x:=decide (x+y<0)) (a:=a7) (n:=n7) (c:=c7) g7
    refine hK2 _ _ _ _ _ st ld (hK _ _ ((o5.trans ((o6.trans (o7.mono h6)).mono o5.1)).set (by omega) _) (BR.mono (b:=s6.next) ⟨_,rfl,r7.set (by omega) _⟩ (by omega)))
  have hm1:x.natAbs+y.natAbs<LB ^ (ka+kb+1):=KQ (HY xb (by omega)) (HY yb (by omega))
  by_cases hsg:decide (x<0)=decide (y<0)
  · have db:(decide (x<0) == decide (y<0))=true:=by rw[hsg];simp
    simp only[PN,Wk,st1,st2,l1,l2,l3,l4,DZ,EO,Nc,db,Xx,Xz,Qa,Qb,Qc,Qd,Qe,Qf,Qg,Qh,Qi,Qj,Qk,Ql,Qm,Qn,true_and,and_true,Qo,Qp,Qq,Qr,Qs,Qt,Qu,Qv,Qw,Qx,Qy,Qz,Ra,Rb,Rc,Rd,Re,Rf,Rg,Rh,Ri,Rj,Rk,Rm,Rn,Ro,Rp,Rq,Rs,Ya,Yb,Yc,Rt,Ru,Za,Yd,Ye,Rx,Ry,Rz,Wa,Wb,Wc,Wd]
    refine b8 hE w2.n32 w3.n32 (by omega) (by omega) (AR _) (AR _) fun s6 v6 o6 r6=>?_
    rw[vx,vy]at r6
    refine⟨⟨BG (by simp only[Qa,Qb,Qc,Qd,Qe,Qf,Qg,Qh,Qi,Qj,Qk,Ql,Qm,Qn,true_and,and_true,Qo,Qp,Qq,Qr,Qs,Qt,Qu,Qv,Qw,Qx,Qy,Qz,Ra,Rb,Rc,Rd,Re,Rf,Rg,Rh,Ri,Rj,Rk,Rm,Rn,Ro,Rp,Rq,Rs,Ya,Yb,Yc,Rt,Ru,Za,Yd,Ye,Rx,Ry,Rz,Wa,Wb,Wc,Wd];exact Ad (o:=0+0) Oj ((o6.2 s.next (by omega)).trans k1) rfl) (Jl _),trivial⟩,?_⟩
    simp only[Qa,Qb,Qc,Qd,Qe,Qf,Qg,Qh,Qi,Qj,Qk,Ql,Qm,Qn,true_and,and_true,Qo,Qp,Qq,Qr,Qs,Qt,Qu,Qv,Qw,Qx,Qy,Qz,Ra,Rb,Rc,Rd,Re,Rf,Rg,Rh,Ri,Rj,Rk,Rm,Rn,Ro,Rp,Rq,Rs,Ya,Yb,Yc,Rt,Ru,Za,Yd,Ye,Rx,Ry,Rz,Wa,Wb,Wc,Wd]
    refine fin _ s6 v6 _ o6 r6 hm1 (Yq hsg) _ fun s7 x7 a7 n7 c7 st ld hk=>?_
    simp only[st,ld,AW,Xx,Xz,Qa,Qb,Qc,Qd,Qe,Qf,Qg,Qh,Qi,Qj,Qk,Ql,Qm,Qn,true_and,and_true,Qo,Qp,Qq,Qr,Qs,Qt,Qu,Qv,Qw,Qx,Qy,Qz,Ra,Rb,Rc,Rd,Re,Rf,Rg,Rh,Ri,Rj,Rk,Rm,Rn,Ro,Rp,Rq,Rs,Ya,Yb,Yc,Rt,Ru,Za,Yd,Ye,Rx,Ry,Rz,Wa,Wb,Wc,Wd]
    exact hk
  · have db:(decide (x<0) == decide (y<0))=false:=by simpa using hsg
    simp only[PN,Wl,st1,st2,l1,l2,l3,l4,DZ,EO,Nc,db,Xx,Xz,Qa,Qb,Qc,Qd,Qe,Qf,Qg,Qh,Qi,Qj,Qk,Ql,Qm,Qn,true_and,and_true,Qo,Qp,Qq,Qr,Qs,Qt,Qu,Qv,Qw,Qx,Qy,Qz,Ra,Rb,Rc,Rd,Re,Rf,Rg,Rh,Ri,Rj,Rk,Rm,Rn,Ro,Rp,Rq,Rs,Ya,Yb,Yc,Rt,Ru,Za,Yd,Ye,Rx,Ry,Rz,Wa,Wb,Wc,Wd]
    refine Yo hE w2.n32 w3.n32 (by omega) (by omega) (AR _) (AR _) (fun hlt s6 o6=>?_) (fun hge s6 v6 o6 r6=>?_)
    · rw[vx,vy]at hlt
      have h6:=o6.1
      have u1:=(o6.2 s.next (by omega)).trans k1
      have u2:=(o6.2 (s.next+1) (by omega)).trans k2
      have l1:=Ad (P:=Tryz.prog) (t:=4) (o:=0+0) Oj u1 rfl
      have l2:=Ad (P:=Tryz.prog) (t:=30) (o:=0+1) D1 u1 rfl
      have l3:=Ad (P:=Tryz.prog) (t:=4) (o:=0+0) Oj u2 rfl
      have l4:=Ad (P:=Tryz.prog) (t:=30) (o:=0+1) D1 u2 rfl
      simp only[PO,Wp,Za,l1,l2,l3,l4,DZ,EO,Qa,Qb,Qc,Qd,Qe,Qf,Qg,Qh,Qi,Qj,Qk,Ql,Qm,Qn,true_and,and_true,Qo,Qp,Qq,Qr,Qs,Qt,Qu,Qv,Qw,Qx,Qy,Qz,Ra,Rb,Rc,Rd,Re,Rf,Rg,Rh,Ri,Rj,Rk,Rm,Rn,Ro,Rp,Rq,Rs,Ya,Yb,Yc,Rt,Ru,Za,Yd,Ye,Rx,Ry,Rz,Wa,Wb,Wc,Wd]
      refine Yo hE (w3.n32.old o6) (w2.n32.old o6) (by omega) (by omega) (AR _) (AR _) (fun h=>by rw[vx,vy]at h;omega) (fun _ s7 v7 o7 r7=>?_)
      rw[vx,vy]at r7
      have l5:=Ad (P:=Tryz.prog) (t:=4) (o:=0+0) Oj ((o7.2 (s.next+1) (by omega)).trans u2) rfl
      simp only[Wq,Za,l5,DZ,Qa,Qb,Qc,Qd,Qe,Qf,Qg,Qh,Qi,Qj,Qk,Ql,Qm,Qn,true_and,and_true,Qo,Qp,Qq,Qr,Qs,Qt,Qu,Qv,Qw,Qx,Qy,Qz,Ra,Rb,Rc,Rd,Re,Rf,Rg,Rh,Ri,Rj,Rk,Rm,Rn,Ro,Rp,Rq,Rs,Ya,Yb,Yc,Rt,Ru,Za,Yd,Ye,Rx,Ry,Rz,Wa,Wb,Wc,Wd]
      refine fin _ s7 v7 _ (o6.trans (o7.mono h6)) (r7.mono h6) (gL (by omega) hm1) ?_ _ fun s7 x7 a7 n7 c7 st ld hk=>?_
      · rw[Int.add_comm x y];exact OX (fun e=>hsg e.symm) (by omega)
      · simp only[st,ld,AW,Xx,Xz,Qa,Qb,Qc,Qd,Qe,Qf,Qg,Qh,Qi,Qj,Qk,Ql,Qm,Qn,true_and,and_true,Qo,Qp,Qq,Qr,Qs,Qt,Qu,Qv,Qw,Qx,Qy,Qz,Ra,Rb,Rc,Rd,Re,Rf,Rg,Rh,Ri,Rj,Rk,Rm,Rn,Ro,Rp,Rq,Rs,Ya,Yb,Yc,Rt,Ru,Za,Yd,Ye,Rx,Ry,Rz,Wa,Wb,Wc,Wd]
        exact hk
    · rw[vx,vy]at hge r6
      have u1:=(o6.2 s.next (by omega)).trans k1
      have l1:=Ad (P:=Tryz.prog) (t:=4) (o:=0+0) Oj u1 rfl
      simp only[PO,Wm,Za,l1,DZ,Qa,Qb,Qc,Qd,Qe,Qf,Qg,Qh,Qi,Qj,Qk,Ql,Qm,Qn,true_and,and_true,Qo,Qp,Qq,Qr,Qs,Qt,Qu,Qv,Qw,Qx,Qy,Qz,Ra,Rb,Rc,Rd,Re,Rf,Rg,Rh,Ri,Rj,Rk,Rm,Rn,Ro,Rp,Rq,Rs,Ya,Yb,Yc,Rt,Ru,Za,Yd,Ye,Rx,Ry,Rz,Wa,Wb,Wc,Wd]
      refine fin _ s6 v6 _ o6 r6 (gL (by omega) hm1) (OX hsg hge) _ fun s7 x7 a7 n7 c7 st ld hk=>?_
      simp only[st,ld,AW,Xx,Xz,Qa,Qb,Qc,Qd,Qe,Qf,Qg,Qh,Qi,Qj,Qk,Ql,Qm,Qn,true_and,and_true,Qo,Qp,Qq,Qr,Qs,Qt,Qu,Qv,Qw,Qx,Qy,Qz,Ra,Rb,Rc,Rd,Re,Rf,Rg,Rh,Ri,Rj,Rk,Rm,Rn,Ro,Rp,Rq,Rs,Ya,Yb,Yc,Rt,Ru,Za,Yd,Ye,Rx,Ry,Rz,Wa,Wb,Wc,Wd]
      exact hk
end
theorem Sn{n:Int}(h:n=0∨n=1∨n=-1)(s:AD):∃m:Nat,m=n.natAbs ∧
  ((decide (n<0)=false∧Ae Tryz.prog s 2 173 (iv n)=some (AU m))∨(decide (n<0)=true∧Ae Tryz.prog s 2 173 (iv n)=some (.int .u64 18446744073709551615)∧dF Tryz.prog Go.UnOp.neg (.int .u64 18446744073709551615)=some (AU m))):=by
 rcases h with rfl | rfl | rfl
 ·exact⟨0,rfl,.inl ⟨rfl,by kernel_rfl⟩⟩
 ·exact⟨1,rfl,.inl ⟨rfl,by kernel_rfl⟩⟩
 ·exact⟨1,rfl,.inr ⟨rfl,by kernel_rfl,by kernel_rfl⟩⟩
section
variable{E:Cf}{s:AD}
theorem NN       (hE : Al    E) {n : Int} (h : n = 0 ∨ n = 1 ∨ n = -1) {K : AV → AD  → Prop} (hK : ∀ s' v, A9  s.next s s' → BR s.next s' v n → K v s') : WF E 73 [iv n] K s := by
  refine hE.go cN (by decide) rfl ?_
  obtain⟨n1,o1,g1⟩:=GR s ZI
  have hn:=Sn h (newObj s ZI)
  obtain⟨m,hm,hcase⟩:=hn
  have hm1:m≤1:=by rcases h with rfl | rfl | rfl<;>simp at hm<;>omega
  have e3:AM Tryz.prog .shr 173 (AU m) (.int .u64 32)=some (AU (m / 4294967296)):=Hm Tryz.prog 173 (k:=.u64) (n:=32) (by decide)
  have e4:m / 4294967296=0:=by omega
  have e5:m % 4294967296=m:=by omega
  rw[e4]at e3
  have key:∀neg:Bool,neg=decide (n<0)→∀ (K2:AV→AD→Prop),(∀s7 x7 a7 n7 c7,Aa Tryz.prog s7 32 (.ptr (some (s.next,0))) (.agg [.bool x7,.slice a7 n7 c7])=some (setObj s7 s.next (BX x7 (.slice a7 n7 c7))) →
        AE Tryz.prog (setObj s7 s.next (BX x7 (.slice a7 n7 c7))) 32 (.ptr (some (s.next,0)))=some (.agg [.bool x7,.slice a7 n7 c7]) →
        K (.agg [.bool x7,.slice a7 n7 c7]) (setObj s7 s.next (BX x7 (.slice a7 n7 c7)))→K2 (.agg [.bool x7,.slice a7 n7 c7]) s7) →
      WF E 151 [.bool neg,.slice (some ((newObj s ZI).next,0)) 2 (some 2)] K2 (newObj (newObj s ZI) (R 192 1 false [BO m,BO 0])):=by
    intro neg hneg K2 hK2
    obtain⟨n2,o2,g2⟩:=GR (newObj s ZI) (R 192 1 false [BO m,BO 0])
    generalize newObj (newObj s ZI) (R 192 1 false [BO m,BO 0])=s2 at *
    generalize newObj s ZI=s1 at *
    have hN:CV s2 (.slice (some (s1.next,0)) 2 (some 2)) [m,0]:=⟨some (s1.next,0),some 2,rfl,.inl ⟨2,rfl,fR _,fun e=>by cases e⟩,MQ g2 (by omega)⟩
    refine Gj hE hN (by simp) (fun x hx=>?_) fun s7 v7 o7 r7=>?_
    · rcases gg.1            hx with rfl | hx
      · exact gL hm1 (by decide)
      · rw[List.mem_singleton.1 hx];exact(by decide)
    have hv:B2 neg (AC [m,0])=n:=by
      have:AC [m,0]=n.natAbs:=by rw[← hm];simp[AC]
      rw[this,hneg]
      exact Fi n
    rw[hv]at r7
    have g7:s7.heap.get s.next=some ZI:=by rw[o7.2 _ (by omega),o2.2 _ (by omega)];exact g1
    obtain⟨m7,rfl,r7⟩:=r7
    obtain⟨a7,n7,c7,rfl⟩:=r7.n32.shape
    obtain⟨st,ld⟩:=E3 (s1:=s) (x:=decide (n<0)) (a:=a7) (n:=n7) (c:=c7) g7
    have h2:=o2.1
    refine hK2 _ _ _ _ _ st ld (hK _ _ ((o1.trans ((o2.trans (o7.mono h2)).mono o1.1)).set (by omega) _) (BR.mono (b:=s2.next) ⟨_,rfl,r7.set (by omega) _⟩ (by omega)))
  rcases hcase with⟨d,c1⟩ | ⟨d,c1,c2⟩
  · simp only[fA,W1,W2,W3,W4,DY,Xb,c1,Rx,d,Bd,e3,e5,Nat.zero_mod,M0,Xd,Qa,Qb,Qc,Qd,Qe,Qf,Qg,Qh,Qi,Qj,Qk,Ql,Qm,Qn,true_and,and_true,Qo,Qp,Qq,Qr,Qs,Qt,Qu,Qv,Qw,Qx,Qy,Qz,Ra,Rb,Rc,Rd,Re,Rf,Rg,Rh,Ri,Rj,Rk,Rm,Rn,Ro,Rp,Rq,Rs,Ya,Yb,Yc,Rt,Ru,Za,Yd,Ye,Rx,Ry,Rz,Wa,Wb,Wc,Wd]
    refine key false d.symm _ fun s7 x7 a7 n7 c7 st ld hk=>?_
    simp only[st,ld,AW,Xx,Xz,Qa,Qb,Qc,Qd,Qe,Qf,Qg,Qh,Qi,Qj,Qk,Ql,Qm,Qn,true_and,and_true,Qo,Qp,Qq,Qr,Qs,Qt,Qu,Qv,Qw,Qx,Qy,Qz,Ra,Rb,Rc,Rd,Re,Rf,Rg,Rh,Ri,Rj,Rk,Rm,Rn,Ro,Rp,Rq,Rs,Ya,Yb,Yc,Rt,Ru,Za,Yd,Ye,Rx,Ry,Rz,Wa,Wb,Wc,Wd]
    exact hk
  · simp only[fA,W1,W2,W3,bQ,W4,DY,Xb,c1,c2,Rx,d,Bd,e3,e5,Nat.zero_mod,M0,Xd,Qa,Qb,Qc,Qd,Qe,Qf,Qg,Qh,Qi,Qj,Qk,Ql,Qm,Qn,true_and,and_true,Qo,Qp,Qq,Qr,Qs,Qt,Qu,Qv,Qw,Qx,Qy,Qz,Ra,Rb,Rc,Rd,Re,Rf,Rg,Rh,Ri,Rj,Rk,Rm,Rn,Ro,Rp,Rq,Rs,Ya,Yb,Yc,Rt,Ru,Za,Yd,Ye,Rx,Ry,Rz,Wa,Wb,Wc,Wd]
    refine key true d.symm _ fun s7 x7 a7 n7 c7 st ld hk=>?_
    simp only[st,ld,AW,Xx,Xz,Qa,Qb,Qc,Qd,Qe,Qf,Qg,Qh,Qi,Qj,Qk,Ql,Qm,Qn,true_and,and_true,Qo,Qp,Qq,Qr,Qs,Qt,Qu,Qv,Qw,Qx,Qy,Qz,Ra,Rb,Rc,Rd,Re,Rf,Rg,Rh,Ri,Rj,Rk,Rm,Rn,Ro,Rp,Rq,Rs,Ya,Yb,Yc,Rt,Ru,Za,Yd,Ye,Rx,Ry,Rz,Wa,Wb,Wc,Wd]
    exact hk
end
theorem Bh{P:Program}{s:AD}{i e sz t n o:Nat}{sp:Bool}{cs:List AV}(ht:ED P t=some true)(hs:A3 P t=some n)(hg:s.heap.get i=some (R e sz sp cs))(hl:o+n≤cs.length):AE P s t (.ptr (some (i,o)))=some (.agg ((cs.drop o).take n)):=by
 rw[Wf ht,hs,Option.bind_some,hg,Wo hl]
 rfl
theorem BI.shape{s:AD}{v:AV}{z:Int}{k:Nat}(h:BI s v z k):∃x a n c,v=.agg [.bool x,.slice a n c]:=by
 obtain⟨neg,m,l,rfl,hm,_⟩:=h
 obtain⟨a,n,c,rfl⟩:=hm.shape
 exact⟨_,_,_,_,rfl⟩
section
variable{E:Cf}{s:AD}
theorem LC{S:AD}{p i:Nat}(hi:i<2){f:FuncId}{x0:Bool}{a0:Option (Nat×Nat)}{n0:Nat}{c0:Option Nat}{x1:Bool}{a1:Option (Nat×Nat)}{n1:Nat}{c1:Option Nat}{ri:Nat}
  (hp:p+1<S.next) (hb:S.heap.get p=some (BX x0 (.slice a0 n0 c0))) (hel:AE Tryz.prog S 32 (.ptr (some (ri,0+i * 2)))=some (.agg [.bool x1,.slice a1 n1 c1])) {r:Int}
  (hf:∀ (s:AD) (K:AV→AD→Prop),A9 S.next S s→(∀s' v,A9 s.next s s'→BR s.next s' v r→K v s')→WF E f [.agg [.bool x0,.slice a0 n0 c0],.agg [.bool x1,.slice a1 n1 c1]] K s)
  {Q:Aq→Prop} {y0 y1 y5 y9:AV}
  (hgo:∀ (s':AD) (x2:Bool) (a2:Option (Nat×Nat)) (n2:Nat) (c2:Option Nat) (y5 y9:AV),S.next≤s'.next→(∀j,j<S.next→j≠p→s'.heap.get j=S.heap.get j)→s'.heap.get p=some (BX x2 (.slice a2 n2 c2))→BR S.next s' (.agg [.bool x2,.slice a2 n2 c2]) r →
   WC E none (.loop Hw) Q [y0,y1,.func f [] [],.ptr (some (p,0)),.ptr (some (p+1,0)),y5,.slice (some (ri,0)) 2 (some 2),iv 2,iv ((i+1:Nat):Int),y9] [] s'):
  WC E none (.loop Hw) Q [y0,y1,.func f [] [],.ptr (some (p,0)),.ptr (some (p+1,0)),y5,.slice (some (ri,0)) 2 (some 2),iv 2,iv (i:Int),y9] [] S:=by
 have dd:decide ((i:Int)<2)=true:=decide_eq_true (by omega)
 have e1:=Ax (cap:=some 2) (i:=ri) (o:=0) (n:=2) Tryz.underlying304 CG (show i<2 from hi)
 have e17:=By Tryz.prog 3 (i:Int) 1 ⟨by omega,by omega⟩
 have e17':((i:Int)+1)=((i+1:Nat):Int):=by omega
 refine WC.loop' ?_
 generalize hW:WC E none (Ab.loop Hw) Q=WW
 obtain⟨m1,o1,g1⟩:=GR S ZI
 simp only[Hw,PJ,V5,Rx,dd,e1,hel,DY,Xb,Qa,Qb,Qc,Qd,Qe,Qf,Qg,Qh,Qi,Qj,Qk,Ql,Qm,Qn,true_and,and_true,Qo,Qp,Qq,Qr,Qs,Qt,Qu,Qv,Qw,Qx,Qy,Qz,Ra,Rb,Rc,Rd,Re,Rf,Rg,Rh,Ri,Rj,Rk,Rm,Rn,Ro,Rp,Rq,Rs,Ya,Yb,Yc,Rt,Ru,Za,Yd,Ye,Rx,Ry,Rz,Wa,Wb,Wc,Wd]
 generalize hs1:newObj S ZI=s1 at *
 have st:=A6 (P:=Tryz.prog) (t:=32) (cs:=[.bool x1,.slice a1 n1 c1]) CG g1 rfl rfl rfl (by simp)
 generalize hs2:setObj s1 S.next (R 32 0 false [.bool x1,.slice a1 n1 c1])=s2 at st
 have o2:A9 S.next S s2:=by rw[← hs2];exact o1.set (fR _) _
 have n2:s2.next=S.next+1:=by rw[← hs2];exact m1
 have k1:s2.heap.get p=some (BX x0 (.slice a0 n0 c0)):=(o2.2 p (by omega)).trans hb
 have k2:s2.heap.get S.next=some (R 32 0 false [.bool x1,.slice a1 n1 c1]):=by rw[← hs2,Wv]
 have l1:=Aj (P:=Tryz.prog) (t:=32) DW CG k1 rfl
 have l2:=Aj (P:=Tryz.prog) (t:=32) DW CG k2 rfl
 simp only[V6,st,l1,l2,Xx,Xz,Qa,Qb,Qc,Qd,Qe,Qf,Qg,Qh,Qi,Qj,Qk,Ql,Qm,Qn,true_and,and_true,Qo,Qp,Qq,Qr,Qs,Qt,Qu,Qv,Qw,Qx,Qy,Qz,Ra,Rb,Rc,Rd,Re,Rf,Rg,Rh,Ri,Rj,Rk,Rm,Rn,Ro,Rp,Rq,Rs,Ya,Yb,Yc,Rt,Ru,Za,Yd,Ye,Rx,Ry,Rz,Wa,Wb,Wc,Wd]
 refine hf s2 _ o2 fun s3 v3 o3 r3=>?_
 have k3:s3.heap.get p=some (BX x0 (.slice a0 n0 c0)):=(o3.2 p (by omega)).trans k1
 obtain⟨m3,rfl,r3'⟩:=r3
 obtain⟨a3,n3,c3,rfl⟩:=r3'.n32.shape
 have st3:=A6 (P:=Tryz.prog) (t:=32) (cs:=[.bool (decide (r<0)),.slice a3 n3 c3]) CG k3 rfl rfl rfl (by simp)
 simp only[st3,Xx,Xz,V7,e17,e17',Qa,Qb,Qc,Qd,Qe,Qf,Qg,Qh,Qi,Qj,Qk,Ql,Qm,Qn,true_and,and_true,Qo,Qp,Qq,Qr,Qs,Qt,Qu,Qv,Qw,Qx,Qy,Qz,Ra,Rb,Rc,Rd,Re,Rf,Rg,Rh,Ri,Rj,Rk,Rm,Rn,Ro,Rp,Rq,Rs,Ya,Yb,Yc,Rt,Ru,Za,Yd,Ye,Rx,Ry,Rz,Wa,Wb,Wc,Wd]
 rw[← hW]
 have h3:=o3.1
 refine hgo _ (decide (r<0)) a3 n3 c3 _ _ ?_ (fun j hj hne=>?_) (Wv _ _ _) (BR.mono (b:=s2.next) ⟨_,rfl,r3'.set (by omega) _⟩ (by omega))
 ·show S.next≤s3.next;omega
 ·rw[Ww _ hne,o3.2 j (by omega),o2.2 j hj]
theorem SB(hE:Al E){f:FuncId}{v0 vx vy:AV}{z0 x y r:Int}{k0 kx ky ri:Nat}(h0:BI s v0 z0 k0)(hx:BI s vx x kx)(hy:BI s vy y ky){xc yc:List AV}(hxc:vx=.agg xc)(hyc:vy=.agg yc)(hri:ri<s.next)(hrow:s.heap.get ri=some (R 32 2 false (xc++yc)))
  (h1:∀ (s:AD) (va vb:AV) (K:AV→AD→Prop),BI s va z0 k0→BI s vb x kx→(∀s' v,A9 s.next s s'→BR s.next s' v x→K v s')→WF E f [va,vb] K s)
  (h2:∀ (s:AD) (va vb:AV) (K:AV→AD→Prop),BI s va x kx→BI s vb y ky→(∀s' v,A9 s.next s s'→BR s.next s' v r→K v s')→WF E f [va,vb] K s)
  {K:AV→AD→Prop} (hK:∀s' v,A9 s.next s s'→BR s.next s' v r→K v s'):WF E 285 [v0,.slice (some (ri,0)) 2 (some 2),.func f [] []] K s:=by
 have xabs:=hx.abs
 obtain⟨x0,a0,n0,c0,rfl⟩:=h0.shape
 obtain⟨x1,a1,m1,c1,e1⟩:=hx.shape
 obtain⟨x2,a2,m2,c2,e2⟩:=hy.shape
 rw[hxc]at e1;rw[hyc]at e2
 injection e1 with e1;injection e2 with e2
 subst e1;subst e2;subst hxc;subst hyc
 refine hE.go Zu (by decide) rfl ?_
 obtain⟨n1,o1,g1,g2⟩:=Kw s (BX x0 (.slice a0 n0 c0)) ZI
 simp only[eG,V3,V4,Wz,Xg,DY,Xb,BM,AY Tryz.underlying304,Qa,Qb,Qc,Qd,Qe,Qf,Qg,Qh,Qi,Qj,Qk,Ql,Qm,Qn,true_and,and_true,Qo,Qp,Qq,Qr,Qs,Qt,Qu,Qv,Qw,Qx,Qy,Qz,Ra,Rb,Rc,Rd,Re,Rf,Rg,Rh,Ri,Rj,Rk,Rm,Rn,Ro,Rp,Rq,Rs,Ya,Yb,Yc,Rt,Ru,Za,Yd,Ye,Rx,Ry,Rz,Wa,Wb,Wc,Wd]
 generalize newObj (newObj s (BX x0 (.slice a0 n0 c0))) ZI=s1 at *
 have hr1:=(o1.2 ri hri).trans hrow
 have el0:AE Tryz.prog s1 32 (.ptr (some (ri,0+0 * 2)))=some (.agg [.bool x1,.slice a1 m1 c1]):=Bh (o:=0) (n:=2) DW CG hr1 (by simp)
 refine LC (S:=s1) (p:=s.next) (i:=0) (by omega) (by omega) g1 el0 (fun s2 K2 o2 hk=>h1 s2 _ _ K2 (h0.old (o1.trans (o2.mono o1.1))) (hx.old (o1.trans (o2.mono o1.1))) hk) fun s2 x3 a3 n3 c3 y5 y9 q1 q2 q3 q4=>?_
 have o12:A9 s.next s s2:=⟨by have:=o1.1;omega,fun j hj=>by rw[q2 j (by omega) (by omega),o1.2 j hj]⟩
 have hr2:=(o12.2 ri hri).trans hrow
 have el1:AE Tryz.prog s2 32 (.ptr (some (ri,0+1 * 2)))=some (.agg [.bool x2,.slice a2 m2 c2]):=Bh (o:=2) (n:=2) DW CG hr2 (by simp)
 refine LC (S:=s2) (p:=s.next) (i:=0+1) (by omega) (by omega) q3 el1 (fun s3 K3 o3 hk=>h2 s3 _ _ K3 ((q4.bi xabs).old o3) (hy.old (o12.trans (o3.mono o12.1))) hk) fun s3 x4 a4 n4 c4 y5 y9 w1 w2 w3 w4=>?_
 have o13:A9 s.next s s3:=⟨by have:=o12.1;omega,fun j hj=>by rw[w2 j (by have:=o12.1;omega) (by omega),o12.2 j hj]⟩
 have dd:decide (((0+1+1:Nat):Int)<2)=false:=rfl
 refine WC.loop' ?_
 have l1:=Aj (P:=Tryz.prog) (t:=32) DW CG w3 rfl
 have g3:s3.heap.get (s.next+1)=some ZI:=by rw[w2 _ (by omega) (by omega),q2 _ (by omega) (by omega)];exact g2
 obtain⟨st,ld⟩:=E3 (s1:=s) (x:=x4) (a:=a4) (n:=n4) (c:=c4) g3
 simp only[Hw,PJ,V8,Rx,dd,l1,st,ld,if_true,AW,Xx,Xz,Qa,Qb,Qc,Qd,Qe,Qf,Qg,Qh,Qi,Qj,Qk,Ql,Qm,Qn,true_and,and_true,Qo,Qp,Qq,Qr,Qs,Qt,Qu,Qv,Qw,Qx,Qy,Qz,Ra,Rb,Rc,Rd,Re,Rf,Rg,Rh,Ri,Rj,Rk,Rm,Rn,Ro,Rp,Rq,Rs,Ya,Yb,Yc,Rt,Ru,Za,Yd,Ye,Rx,Ry,Rz,Wa,Wb,Wc,Wd]
 exact hK _ _ (o13.set (by omega) _) ((w4.set (by omega) _).mono (by have:=o12.1;omega))
theorem IH(x y:Bool)(a b:Option (Nat×Nat))(n m:Nat)(c d:Option Nat):Ak Tryz.prog 304 2 (zipIdx [0,1] [.agg [.bool x,.slice a n c],.agg [.bool y,.slice b m d]])=some (R 32 2 false [.bool x,.slice a n c,.bool y,.slice b m d]):=by kernel_rfl
theorem ZE(s:AD):BI s (.agg [.bool false,.slice none 0 (some 0)]) 0 0:=⟨false,_,[],rfl,(NR.nil 0 s).n32,fun x hx=>(by cases hx),fR _,rfl⟩
theorem ZC(hE:Al E){vx vy:AV}{x y:Int}{kx ky ri:Nat}(hx:BI s vx x kx)(hy:BI s vy y ky)(hk:kx+ky+1≤1000000000){xc yc:List AV}(hxc:vx=.agg xc)(hyc:vy=.agg yc)(hri:ri<s.next)(hrow:s.heap.get ri=some (R 32 2 false (xc++yc)))
  {K:AV→AD→Prop} (hK:∀s' v,A9 s.next s s'→BR s.next s' v (x+y)→K v s'):WF E 284 [.slice (some (ri,0)) 2 (some 2)] K s:=by
 refine hE.go Zt (by decide) rfl ?_
 have hbz:E4 Tryz.prog 32 (zipIdx [] [])=some (.agg [.bool false,.slice none 0 (some 0)]):=by kernel_rfl
 obtain⟨n1,o1,g1⟩:=GR s ZI
 simp only[eF,V1,V2,DY,Xb,hbz,Qa,Qb,Qc,Qd,Qe,Qf,Qg,Qh,Qi,Qj,Qk,Ql,Qm,Qn,true_and,and_true,Qo,Qp,Qq,Qr,Qs,Qt,Qu,Qv,Qw,Qx,Qy,Qz,Ra,Rb,Rc,Rd,Re,Rf,Rg,Rh,Ri,Rj,Rk,Rm,Rn,Ro,Rp,Rq,Rs,Ya,Yb,Yc,Rt,Ru,Za,Yd,Ye,Rx,Ry,Rz,Wa,Wb,Wc,Wd]
 generalize newObj s ZI=s1 at *
 refine SB hE (ZE s1) (hx.old o1) (hy.old o1) hxc hyc (by omega) ((o1.2 ri hri).trans hrow) (r:=x+y)
  (fun s va vb K ha hb hk'=>NL hE ha hb (by omega) (by rw[Int.zero_add];exact hk')) (fun s va vb K ha hb hk'=>NL hE ha hb hk hk') fun s2 v2 o2 r2=>?_
 obtain⟨m2,rfl,q2⟩:=r2
 obtain⟨a2,n2,c2,rfl⟩:=q2.n32.shape
 obtain⟨st,ld⟩:=E3 (s1:=s) (x:=decide (x+y<0)) (a:=a2) (n:=n2) (c:=c2) ((o2.2 s.next (by omega)).trans g1)
 simp only[st,ld,AW,Xx,Xz,Qa,Qb,Qc,Qd,Qe,Qf,Qg,Qh,Qi,Qj,Qk,Ql,Qm,Qn,true_and,and_true,Qo,Qp,Qq,Qr,Qs,Qt,Qu,Qv,Qw,Qx,Qy,Qz,Ra,Rb,Rc,Rd,Re,Rf,Rg,Rh,Ri,Rj,Rk,Rm,Rn,Ro,Rp,Rq,Rs,Ya,Yb,Yc,Rt,Ru,Za,Yd,Ye,Rx,Ry,Rz,Wa,Wb,Wc,Wd]
 exact hK _ _ ((o1.trans (o2.mono o1.1)).set (fR _) _) (BR.mono (b:=s1.next) ⟨_,rfl,q2.set (by omega) _⟩ (by omega))
theorem QW(hE:Al E){vx vy:AV}{x y:Int}{kx ky ri:Nat}(hx:BI s vx x kx)(hy:BI s vy y ky)(hk:kx+ky+1≤1000000000){xc yc:List AV}(hxc:vx=.agg xc)(hyc:vy=.agg yc)(hri:ri<s.next)(hrow:s.heap.get ri=some (R 32 2 false (xc++yc)))
  {K:AV→AD→Prop} (hK:∀s' v,A9 s.next s s'→BR s.next s' v (x * y)→K v s'):WF E 251 [.slice (some (ri,0)) 2 (some 2)] K s:=by
 refine hE.go Zo (by decide) rfl ?_
 obtain⟨n1,o1,g1⟩:=GR s ZI
 simp only[dy,Vh,Vi,DY,Xb,Qa,Qb,Qc,Qd,Qe,Qf,Qg,Qh,Qi,Qj,Qk,Ql,Qm,Qn,true_and,and_true,Qo,Qp,Qq,Qr,Qs,Qt,Qu,Qv,Qw,Qx,Qy,Qz,Ra,Rb,Rc,Rd,Re,Rf,Rg,Rh,Ri,Rj,Rk,Rm,Rn,Ro,Rp,Rq,Rs,Ya,Yb,Yc,Rt,Ru,Za,Yd,Ye,Rx,Ry,Rz,Wa,Wb,Wc,Wd]
 generalize newObj s ZI=s1 at *
 refine NN hE (n:=1) (.inr (.inl rfl)) fun s2 v2 o2 r2=>?_
 have h12:=o1.trans (o2.mono o1.1)
 simp only[Qa,Qb,Qc,Qd,Qe,Qf,Qg,Qh,Qi,Qj,Qk,Ql,Qm,Qn,true_and,and_true,Qo,Qp,Qq,Qr,Qs,Qt,Qu,Qv,Qw,Qx,Qy,Qz,Ra,Rb,Rc,Rd,Re,Rf,Rg,Rh,Ri,Rj,Rk,Rm,Rn,Ro,Rp,Rq,Rs,Ya,Yb,Yc,Rt,Ru,Za,Yd,Ye,Rx,Ry,Rz,Wa,Wb,Wc,Wd]
 refine SB hE (r2.bi (k:=1) (by decide)) (hx.old h12) (hy.old h12) hxc hyc (by have:=h12.1;omega) ((h12.2 ri hri).trans hrow) (r:=x * y)
  (fun s va vb K ha hb hk'=>NO hE ha hb (by omega) (by rw[Int.one_mul];exact hk')) (fun s va vb K ha hb hk'=>NO hE ha hb (by omega) hk') fun s3 v3 o3 r3=>?_
 have h2:=o2.1
 obtain⟨m3,rfl,q3⟩:=r3
 obtain⟨a3,n3,c3,rfl⟩:=q3.n32.shape
 obtain⟨st,ld⟩:=E3 (s1:=s) (x:=decide (x * y<0)) (a:=a3) (n:=n3) (c:=c3) ((o3.2 s.next (by omega)).trans ((o2.2 s.next (by omega)).trans g1))
 simp only[st,ld,AW,Xx,Xz,Qa,Qb,Qc,Qd,Qe,Qf,Qg,Qh,Qi,Qj,Qk,Ql,Qm,Qn,true_and,and_true,Qo,Qp,Qq,Qr,Qs,Qt,Qu,Qv,Qw,Qx,Qy,Qz,Ra,Rb,Rc,Rd,Re,Rf,Rg,Rh,Ri,Rj,Rk,Rm,Rn,Ro,Rp,Rq,Rs,Ya,Yb,Yc,Rt,Ru,Za,Yd,Ye,Rx,Ry,Rz,Wa,Wb,Wc,Wd]
 exact hK _ _ ((h12.trans (o3.mono h12.1)).set (fR _) _) (BR.mono (b:=s2.next) ⟨_,rfl,q3.set (by omega) _⟩ (by omega))
end
theorem QA(z:Int):(z<0∧Iu z=-1)∨(z=0∧Iu z=0)∨(0<z∧Iu z=1):=by
  unfold Iu
  by_cases h1:z<0
  · exact .inl ⟨h1,if_pos h1⟩
  · by_cases h2 : 0 < z
    · exact .inr (.inr ⟨h2,by rw[if_neg h1,if_pos h2]⟩)
    · exact .inr (.inl ⟨by omega,by rw[if_neg h1,if_neg h2]⟩)
section
variable{E:Cf}{s:AD}
end
end
end Go.Proofs.YtdmgdlbodeemeaaGreatDoor.Am
set_option linter.unusedVariables false
set_option linter.unusedSimpArgs false
set_option maxRecDepth 100000
namespace Go.Proofs.YtdmgdlbodeemeaaGreatDoor.Am
open Go Go.Proofs
noncomputable section
theorem Ct:A3 Tryz.prog 34=some 3:=by kernel_rfl
theorem Ey:ED Tryz.prog 34=some true:=by kernel_rfl
theorem Jn(i o:Nat):AO Tryz.prog 34 (.ptr (some (i,o))) 0=some (.ptr (some (i,o+0))):=by kernel_rfl
theorem Pa(i o:Nat):AO Tryz.prog 34 (.ptr (some (i,o))) 1=some (.ptr (some (i,o+2))):=by kernel_rfl
def UP:List AB:=[
 ⟨none,.p1 some,[(.const (.slice none 0 (some 0)))],(.set 0),[]⟩]
def UQ:List AB:=[
 ⟨none,.call 131,[(.const (.int .u64 (1)))],.push,[]⟩,
 ⟨none,.p1 some,[.loc 0],(.set 0),[]⟩]
def dZ:Az:=⟨0,1,(.seq (.ops UP) (.seq (.ops UQ) .ret)),[((.var 0),none)]⟩
def UJ:List AB:=[
 ⟨none,.mk (fun l=>match l with | [v]=>Cr 32 v | _=>none),[.var 0],(.set 2),[]⟩,
 ⟨none,.mk (fun l=>match l with | []=>As Tryz.prog 34 | _=>none),[],(.set 3),[]⟩]
def UK:List AB:=[
 ⟨none,.p1 (fun x=>AO Tryz.prog 32 x 0),[.var 2],.push,[]⟩,
 ⟨none,.r1 (fun s a=>AE Tryz.prog s 4 a),[.loc 0],.push,[]⟩,
 ⟨none,.p1 (fun x=>AO Tryz.prog 32 x 1),[.var 2],.push,[]⟩,
 ⟨none,.r1 (fun s a=>AE Tryz.prog s 30 a),[.loc 0],.push,[]⟩,
 ⟨none,.call 151,[.loc 2,.loc 0],.push,[]⟩,
 ⟨none,.e (fun s=>Xx (fun a x=>Xz (Aa Tryz.prog s 32 a x))),[.var 2,.loc 0],.push,[]⟩]
def UL:List AB:=[
 ⟨none,.p1 (fun x=>AO Tryz.prog 32 x 1),[.var 2],.push,[]⟩,
 ⟨none,.r1 (fun s a=>AE Tryz.prog s 30 a),[.loc 0],.push,[]⟩,
 ⟨none,.call 133,[.loc 0,.var 1],.push,[]⟩,
 ⟨none,.p1 some,[.loc 0],(.set 4),[]⟩]
def UM:List AB:=[
 ⟨none,.p1 (fun x=>AO Tryz.prog 32 x 1),[.var 2],.push,[]⟩,
 ⟨none,.r1 (fun s a=>AE Tryz.prog s 30 a),[.loc 0],.push,[]⟩,
 ⟨none,.call 134,[.loc 0,.var 4],.push,[]⟩,
 ⟨none,.p1 (fun x=>Za x 0),[.loc 0],.push,[]⟩,
 ⟨none,.p1 (fun x=>Za x 1),[.loc 1],.push,[]⟩,
 ⟨none,.p1 (fun x=>Za x 2),[.loc 2],.push,[]⟩,
 ⟨none,.p1 some,[.loc 2],(.set 5),[]⟩,
 ⟨none,.p1 some,[.loc 1],.push,[]⟩,
 ⟨none,.p1 some,[.loc 1],.push,[]⟩]
def UN:List AB:=[
 ⟨none,.call 134,[.var 1,.var 4],.push,[]⟩,
 ⟨none,.p1 (fun x=>Za x 0),[.loc 0],.push,[]⟩,
 ⟨none,.p1 (fun x=>Za x 1),[.loc 1],.push,[]⟩,
 ⟨none,.p1 (fun x=>Za x 2),[.loc 2],.push,[]⟩,
 ⟨none,.p1 some,[.loc 2],(.set 6),[]⟩,
 ⟨none,.p1 some,[.loc 1],.push,[]⟩,
 ⟨none,.p1 some,[.loc 1],.push,[]⟩]
def UO:List AB:=[
 ⟨none,.p1 (fun x=>AO Tryz.prog 32 x 0),[.var 2],.push,[]⟩,
 ⟨none,.r1 (fun s a=>AE Tryz.prog s 4 a),[.loc 0],.push,[]⟩,
 ⟨none,.call 151,[.loc 0,.var 5],.push,[]⟩,
 ⟨none,.p (fun l=>E4 Tryz.prog 34 (zipIdx [0,1] l)),[.loc 0,.var 6],.push,[]⟩,
 ⟨none,.e (fun s=>Xx (fun a x=>Xz (Aa Tryz.prog s 34 a x))),[.var 3,.loc 0],.push,[]⟩]
def dY:Az:=⟨2,7,(.seq (.ops UJ) (.seq (.ops UK) (.seq (.ops UL) (.seq (.ops UM) (.seq (.ops UN) (.seq (.ops UO) .ret)))))),[((.var 3),some 34)]⟩
def VS:List AB:=[
 ⟨none,.mk (fun l=>match l with | [v]=>Cr 34 v | _=>none),[.var 0],(.set 1),[]⟩,
 ⟨none,.mk (fun l=>match l with | []=>As Tryz.prog 34 | _=>none),[],(.set 2),[]⟩]
def VT:List AB:=[
 ⟨none,.p1 (fun x=>AO Tryz.prog 34 x 1),[.var 1],.push,[]⟩,
 ⟨none,.r1 (fun s a=>AE Tryz.prog s 30 a),[.loc 0],.push,[]⟩,
 ⟨none,.call 177,[.loc 0],.push,[]⟩,
 ⟨none,.p1 some,[.loc 0],(.set 3),[]⟩]
def PE:List AB:=[
 ⟨none,.r (fun s l=>match l with | [x]=>Bk Tryz.prog s 30 x | _=>none),[.var 3],.push,[]⟩,
 ⟨none,.p2 (AM Tryz.prog .eql 3),[(.loc 0),(.const (.int .i64 (0)))],(.set 4),[]⟩]
def VU:List AB:=[
 ⟨none,.call 137,[],.push,[]⟩,
 ⟨none,.p1 some,[.loc 0],(.set 3),[]⟩]
def PF:List AB:=[
 ⟨none,.p1 (fun x=>AO Tryz.prog 34 x 0),[.var 1],.push,[]⟩,
 ⟨none,.r1 (fun s a=>AE Tryz.prog s 32 a),[.loc 0],.push,[]⟩,
 ⟨none,.call 136,[.loc 0,.var 3],.push,[]⟩,
 ⟨none,.e (fun s=>Xx (fun a x=>Xz (Aa Tryz.prog s 34 a x))),[.var 2,.loc 0],.push,[]⟩]
def dv:Az:=⟨1,5,(.seq (.ops VS) (.seq (.ops VT) (.seq (.seq (.ops PE) (.cond (.var 4)
 (.ops VU)
 .skip)) (.seq (.ops PF) .ret)))),[((.var 2),some 34)]⟩
def U6:List AB:=[
 ⟨none,.mk (fun l=>match l with | [v]=>Cr 34 v | _=>none),[.var 0],(.set 2),[]⟩,
 ⟨none,.mk (fun l=>match l with | []=>As Tryz.prog 34 | _=>none),[],(.set 3),[]⟩]
def U7:List AB:=[
 ⟨none,.r1 (fun s a=>AE Tryz.prog s 34 a),[.var 2],.push,[]⟩,
 ⟨none,.call 235,[.loc 0],.push,[]⟩,
 ⟨none,.callv,[.var 1,.loc 0],.push,[]⟩,
 ⟨none,.e (fun s=>Xx (fun a x=>Xz (Aa Tryz.prog s 34 a x))),[.var 3,.loc 0],.push,[]⟩]
def dk:Az:=⟨2,4,(.seq (.ops U6) (.seq (.ops U7) .ret)),[((.var 3),some 34)]⟩
def Vx:List AB:=[
 ⟨none,.mk (fun l=>match l with | [v]=>Cr 34 v | _=>none),[.var 0],(.set 3),[]⟩,
 ⟨none,.mk (fun l=>match l with | [v]=>Cr 34 v | _=>none),[.var 1],(.set 4),[]⟩,
 ⟨none,.mk (fun l=>match l with | [v]=>Cr 303 v | _=>none),[.var 2],(.set 5),[]⟩,
 ⟨none,.mk (fun l=>match l with | []=>As Tryz.prog 34 | _=>none),[],(.set 6),[]⟩]
def Vy:List AB:=[
 ⟨none,.r1 (fun s a=>AE Tryz.prog s 34 a),[.var 3],.push,[]⟩,
 ⟨none,.p (fun l=>some (.func 303 (l.take 0) (l.drop 0))),[.var 4,.var 5],.push,[]⟩,
 ⟨none,.call 189,[.loc 1,.loc 0],.push,[]⟩,
 ⟨none,.e (fun s=>Xx (fun a x=>Xz (Aa Tryz.prog s 34 a x))),[.var 6,.loc 0],.push,[]⟩]
def eC:Az:=⟨3,7,(.seq (.ops Vx) (.seq (.ops Vy) .ret)),[((.var 6),some 34)]⟩
def WT:List AB:=[
 ⟨none,.mk (fun l=>match l with | [v]=>Cr 34 v | _=>none),[.var 0],(.set 3),[]⟩,
 ⟨none,.mk (fun l=>match l with | []=>As Tryz.prog 34 | _=>none),[],(.set 4),[]⟩]
def WU:List AB:=[
 ⟨none,.r1 (fun s a=>AE Tryz.prog s 34 a),[.var 1],.push,[]⟩,
 ⟨none,.p (fun l=>some (.func 304 (l.take 0) (l.drop 0))),[.var 2,.var 3],.push,[]⟩,
 ⟨none,.call 189,[.loc 1,.loc 0],.push,[]⟩,
 ⟨none,.e (fun s=>Xx (fun a x=>Xz (Aa Tryz.prog s 34 a x))),[.var 4,.loc 0],.push,[]⟩]
def eK:Az:=⟨3,5,(.seq (.ops WT) (.seq (.ops WU) .ret)),[((.var 4),some 34)]⟩
def WV:List AB:=[
 ⟨none,.mk (fun l=>match l with | [v]=>Cr 34 v | _=>none),[.var 0],(.set 3),[]⟩,
 ⟨none,.mk (fun l=>match l with | []=>As Tryz.prog 34 | _=>none),[],(.set 4),[]⟩]
def WX:List AB:=[
 ⟨none,.p1 some,[(.const (.func 305 [] []))],(.set 5),[]⟩]
def WY:List AB:=[
 ⟨none,.r1 (fun s a=>AE Tryz.prog s 303 a),[.var 1],.push,[]⟩,
 ⟨none,.p1 (fun x=>AO Tryz.prog 34 x 0),[.var 2],.push,[]⟩,
 ⟨none,.r1 (fun s a=>AE Tryz.prog s 32 a),[.loc 0],.push,[]⟩,
 ⟨none,.p1 (fun x=>AO Tryz.prog 34 x 1),[.var 3],.push,[]⟩,
 ⟨none,.r1 (fun s a=>AE Tryz.prog s 30 a),[.loc 0],.push,[]⟩,
 ⟨none,.p1 (fun x=>AO Tryz.prog 34 x 0),[.var 3],.push,[]⟩,
 ⟨none,.r1 (fun s a=>AE Tryz.prog s 32 a),[.loc 0],.push,[]⟩,
 ⟨none,.p1 (fun x=>AO Tryz.prog 34 x 1),[.var 2],.push,[]⟩,
 ⟨none,.r1 (fun s a=>AE Tryz.prog s 30 a),[.loc 0],.push,[]⟩,
 ⟨none,.p1 (fun x=>AO Tryz.prog 34 x 1),[.var 2],.push,[]⟩,
 ⟨none,.r1 (fun s a=>AE Tryz.prog s 30 a),[.loc 0],.push,[]⟩,
 ⟨none,.p1 (fun x=>AO Tryz.prog 34 x 1),[.var 3],.push,[]⟩,
 ⟨none,.r1 (fun s a=>AE Tryz.prog s 30 a),[.loc 0],.push,[]⟩,
 ⟨none,.callv,[.var 5,.loc 10,.loc 8],.push,[⟨none,.r1 (fun s a=>AE Tryz.prog s 30 a),[.loc 2],(.loc 1)⟩,⟨none,.r1 (fun s a=>AE Tryz.prog s 30 a),[.loc 4],(.loc 3)⟩,⟨none,.r1 (fun s a=>AE Tryz.prog s 30 a),[.loc 6],(.loc 5)⟩,⟨none,.r1 (fun s a=>AE Tryz.prog s 32 a),[.loc 8],(.loc 7)⟩,⟨none,.r1 (fun s a=>AE Tryz.prog s 303 a),[.var 1],(.loc 13)⟩]⟩,
 ⟨none,.callv,[.var 5,.loc 7,.loc 5],.push,[⟨none,.r1 (fun s a=>AE Tryz.prog s 30 a),[.loc 3],(.loc 2)⟩,⟨none,.r1 (fun s a=>AE Tryz.prog s 30 a),[.loc 5],(.loc 4)⟩,⟨none,.r1 (fun s a=>AE Tryz.prog s 303 a),[.var 1],(.loc 14)⟩]⟩,
 ⟨none,.call 135,[.loc 4,.loc 2],.push,[⟨none,.r1 (fun s a=>AE Tryz.prog s 303 a),[.var 1],(.loc 15)⟩]⟩,
 ⟨none,.callv,[.loc 15,.loc 2,.loc 1,.loc 0],.push,[]⟩,
 ⟨none,.e (fun s=>Xx (fun a x=>Xz (Aa Tryz.prog s 34 a x))),[.var 4,.loc 0],.push,[]⟩]
def eL:Az:=⟨3,6,(.seq (.ops WV) (.seq (.ops WX) (.seq (.ops WY) .ret))),[((.var 4),some 34)]⟩
def WZ:List AB:=[
 ⟨none,.mk (fun l=>match l with | [v]=>Cr 32 v | _=>none),[.var 0],(.set 2),[]⟩,
 ⟨none,.mk (fun l=>match l with | []=>As Tryz.prog 32 | _=>none),[],(.set 3),[]⟩]
def Wh:List AB:=[
 ⟨none,.r1 (fun s a=>AE Tryz.prog s 32 a),[.var 2],.push,[]⟩,
 ⟨none,.call 151,[(.const (.bool false)),(.var 1)],.push,[⟨none,.r1 (fun s a=>AE Tryz.prog s 32 a),[.var 2],(.loc 1)⟩]⟩,
 ⟨none,.mk (fun l=>(Ak Tryz.prog 304 2 (zipIdx [0,1] l)).bind fun r=>some (r,.slice 2)),[.loc 1,.loc 0],.push,[]⟩,
 ⟨none,.call 251,[.loc 0],.push,[]⟩,
 ⟨none,.e (fun s=>Xx (fun a x=>Xz (Aa Tryz.prog s 32 a x))),[.var 3,.loc 0],.push,[]⟩]
def eM:Az:=⟨2,4,(.seq (.ops WZ) (.seq (.ops Wh) .ret)),[((.var 3),some 32)]⟩
def Va:List AB:=[
 ⟨none,.mk (fun l=>match l with | []=>As Tryz.prog 34 | _=>none),[],(.set 1),[]⟩]
def Vb:List AB:=[
 ⟨none,.r1 (fun s a=>AE Tryz.prog s 34 a),[.var 1],.push,[]⟩,
 ⟨none,.call 235,[.loc 0],.push,[]⟩,
 ⟨none,.e (fun s=>Xx (fun a x=>Xz (Aa Tryz.prog s 34 a x))),[.var 1,.loc 0],.push,[]⟩]
def Vc:List AB:=[
 ⟨none,.p1 some,[.var 0],(.set 3),[]⟩,
 ⟨none,.r (fun s l=>match l with | [x]=>Bk Tryz.prog s 29 x | _=>none),[.var 3],(.set 4),[]⟩,
 ⟨none,.p1 some,[(.const (.int .i64 (0)))],(.set 5),[]⟩]
def PH:List AB:=[
 ⟨none,.p2 (AM Tryz.prog .lss 3),[.var 5,.var 4],(.set 6),[]⟩]
def Vd:List AB:=[
 ⟨none,.p2 (AP Tryz.prog 29),[.var 3,.var 5],.push,[]⟩,
 ⟨none,.r1 (fun s a=>AE Tryz.prog s 34 a),[.loc 0],.push,[]⟩,
 ⟨none,.mk (fun l=>match l with | []=>As Tryz.prog 34 | _=>none),[],(.set 2),[]⟩,
 ⟨none,.e (fun s=>Xx (fun a x=>Xz (Aa Tryz.prog s 34 a x))),[.var 2,.loc 0],.push,[]⟩]
def Ve:List AB:=[
 ⟨none,.r1 (fun s a=>AE Tryz.prog s 34 a),[.var 1],.push,[]⟩,
 ⟨none,.r1 (fun s a=>AE Tryz.prog s 34 a),[.var 2],.push,[]⟩,
 ⟨none,.call 282,[(.loc 1),(.loc 0),(.const (.func 283 [] []))],.push,[]⟩,
 ⟨none,.e (fun s=>Xx (fun a x=>Xz (Aa Tryz.prog s 34 a x))),[.var 1,.loc 0],.push,[]⟩]
def Vf:List AB:=[
 ⟨none,.p2 (AM Tryz.prog .add 3),[(.var 5),(.const (.int .i64 (1)))],.push,[]⟩,
 ⟨none,.p1 some,[.loc 0],(.set 5),[]⟩]
def Hv:Ab:=(.seq (.ops PH) (.seq (.cond (.var 6)
 .skip
 (.exit 0)) (.seq (.block 1 (.seq (.ops Vd) (.ops Ve))) (.ops Vf))))
def Vg:List AB:=[
 ⟨none,.r1 (fun s a=>AE Tryz.prog s 34 a),[.var 1],.push,[]⟩,
 ⟨none,.e (fun s=>Xx (fun a x=>Xz (Aa Tryz.prog s 34 a x))),[.var 1,.loc 0],.push,[]⟩]
def dx:Az:=⟨1,7,(.seq (.ops Va) (.seq (.ops Vb) (.seq (.seq (.ops Vc) (.block 0 (.loop Hv))) (.seq (.ops Vg) .ret)))),[((.var 1),some 34)]⟩
def Vz:List AB:=[
 ⟨none,.mk (fun l=>match l with | [v]=>Cr 32 v | _=>none),[.var 0],(.set 3),[]⟩,
 ⟨none,.mk (fun l=>match l with | [v]=>Cr 32 v | _=>none),[.var 1],(.set 4),[]⟩,
 ⟨none,.mk (fun l=>match l with | []=>As Tryz.prog 34 | _=>none),[],(.set 5),[]⟩]
def V0:List AB:=[
 ⟨none,.r1 (fun s a=>AE Tryz.prog s 32 a),[.var 3],.push,[]⟩,
 ⟨none,.r1 (fun s a=>AE Tryz.prog s 32 a),[.var 4],.push,[]⟩,
 ⟨none,.mk (fun l=>(Ak Tryz.prog 304 2 (zipIdx [0,1] l)).bind fun r=>some (r,.slice 2)),[.loc 1,.loc 0],.push,[]⟩,
 ⟨none,.call 284,[.loc 0],.push,[]⟩,
 ⟨none,.call 136,[.loc 0,.var 2],.push,[]⟩,
 ⟨none,.e (fun s=>Xx (fun a x=>Xz (Aa Tryz.prog s 34 a x))),[.var 5,.loc 0],.push,[]⟩]
def eE:Az:=⟨3,6,(.seq (.ops Vz) (.seq (.ops V0) .ret)),[((.var 5),some 34)]⟩
def VE:List AB:=[
 ⟨none,.mk (fun l=>match l with | [v]=>Cr 34 v | _=>none),[.var 0],(.set 2),[]⟩,
 ⟨none,.mk (fun l=>match l with | [v]=>Cr 34 v | _=>none),[.var 1],(.set 3),[]⟩,
 ⟨none,.mk (fun l=>match l with | []=>As Tryz.prog 34 | _=>none),[],(.set 4),[]⟩]
def VF:List AB:=[
 ⟨none,.r1 (fun s a=>AE Tryz.prog s 34 a),[.var 2],.push,[]⟩,
 ⟨none,.r1 (fun s a=>AE Tryz.prog s 34 a),[.var 3],.push,[]⟩,
 ⟨none,.mk (fun l=>(Ak Tryz.prog 29 2 (zipIdx [0,1] l)).bind fun r=>some (r,.slice 2)),[.loc 1,.loc 0],.push,[]⟩,
 ⟨none,.call 250,[.loc 0],.push,[]⟩,
 ⟨none,.e (fun s=>Xx (fun a x=>Xz (Aa Tryz.prog s 34 a x))),[.var 4,.loc 0],.push,[]⟩]
def dp:Az:=⟨2,5,(.seq (.ops VE) (.seq (.ops VF) .ret)),[((.var 4),some 34)]⟩
def VG:List AB:=[
 ⟨none,.mk (fun l=>match l with | [v]=>Cr 34 v | _=>none),[.var 0],(.set 2),[]⟩,
 ⟨none,.mk (fun l=>match l with | [v]=>Cr 34 v | _=>none),[.var 1],(.set 3),[]⟩,
 ⟨none,.mk (fun l=>match l with | []=>As Tryz.prog 34 | _=>none),[],(.set 4),[]⟩]
def VH:List AB:=[
 ⟨none,.r1 (fun s a=>AE Tryz.prog s 34 a),[.var 2],.push,[]⟩,
 ⟨none,.r1 (fun s a=>AE Tryz.prog s 34 a),[.var 3],.push,[]⟩,
 ⟨none,.call 235,[.loc 1],.push,[⟨none,.r1 (fun s a=>AE Tryz.prog s 34 a),[.var 3],(.loc 1)⟩]⟩,
 ⟨none,.call 235,[.loc 1],.push,[]⟩,
 ⟨none,.e (fun s=>Xx (fun a x=>Xz (Aa Tryz.prog s 34 a x))),[.var 2,.loc 1],.push,[]⟩,
 ⟨none,.e (fun s=>Xx (fun a x=>Xz (Aa Tryz.prog s 34 a x))),[.var 3,.loc 1],.push,[]⟩]
def VI:List AB:=[
 ⟨none,.p1 (fun x=>AO Tryz.prog 34 x 0),[.var 2],.push,[]⟩,
 ⟨none,.r1 (fun s a=>AE Tryz.prog s 32 a),[.loc 0],.push,[]⟩,
 ⟨none,.p1 (fun x=>AO Tryz.prog 34 x 0),[.var 3],.push,[]⟩,
 ⟨none,.r1 (fun s a=>AE Tryz.prog s 32 a),[.loc 0],.push,[]⟩,
 ⟨none,.mk (fun l=>(Ak Tryz.prog 304 2 (zipIdx [0,1] l)).bind fun r=>some (r,.slice 2)),[.loc 2,.loc 0],.push,[]⟩,
 ⟨none,.p1 (fun x=>AO Tryz.prog 34 x 1),[.var 2],.push,[]⟩,
 ⟨none,.r1 (fun s a=>AE Tryz.prog s 30 a),[.loc 0],.push,[]⟩,
 ⟨none,.p1 (fun x=>AO Tryz.prog 34 x 1),[.var 3],.push,[]⟩,
 ⟨none,.r1 (fun s a=>AE Tryz.prog s 30 a),[.loc 0],.push,[]⟩,
 ⟨none,.call 251,[.loc 4],.push,[⟨none,.r1 (fun s a=>AE Tryz.prog s 30 a),[.loc 2],(.loc 1)⟩,⟨none,.r1 (fun s a=>AE Tryz.prog s 30 a),[.loc 4],(.loc 3)⟩]⟩,
 ⟨none,.call 135,[.loc 3,.loc 1],.push,[]⟩,
 ⟨none,.call 136,[.loc 1,.loc 0],.push,[]⟩,
 ⟨none,.e (fun s=>Xx (fun a x=>Xz (Aa Tryz.prog s 34 a x))),[.var 4,.loc 0],.push,[]⟩]
def dr:Az:=⟨2,5,(.seq (.ops VG) (.seq (.ops VH) (.seq (.ops VI) .ret))),[((.var 4),some 34)]⟩
def bM:List AB:=[
 ⟨none,.mk (fun l=>match l with | [v]=>Cr 34 v | _=>none),[.var 0],(.set 1),[]⟩,
 ⟨none,.p1 some,[(.const (.int .i64 (0)))],(.set 2),[]⟩]
def bN:List AB:=[
 ⟨none,.p1 (fun x=>AO Tryz.prog 34 x 0),[.var 1],.push,[]⟩,
 ⟨none,.r1 (fun s a=>AE Tryz.prog s 32 a),[.loc 0],.push,[]⟩,
 ⟨none,.call 130,[.loc 0],.push,[]⟩,
 ⟨none,.p1 some,[.loc 0],(.set 2),[]⟩]
def fO:Az:=⟨1,3,(.seq (.ops bM) (.seq (.ops bN) .ret)),[((.var 2),none)]⟩
def bK:List AB:=[
 ⟨none,.mk (fun l=>match l with | []=>As Tryz.prog 34 | _=>none),[],(.set 1),[]⟩]
def bL:List AB:=[
 ⟨none,.call 73,[.var 0],.push,[]⟩,
 ⟨none,.call 64,[.loc 0],.push,[]⟩,
 ⟨none,.e (fun s=>Xx (fun a x=>Xz (Aa Tryz.prog s 34 a x))),[.var 1,.loc 0],.push,[]⟩]
def fN:Az:=⟨1,2,(.seq (.ops bK) (.seq (.ops bL) .ret)),[((.var 1),some 34)]⟩
def bO:List AB:=[
 ⟨none,.mk (fun l=>match l with | [v]=>Cr 32 v | _=>none),[.var 0],(.set 1),[]⟩,
 ⟨none,.mk (fun l=>match l with | []=>As Tryz.prog 34 | _=>none),[],(.set 2),[]⟩]
def bP:List AB:=[
 ⟨none,.r1 (fun s a=>AE Tryz.prog s 32 a),[.var 1],.push,[]⟩,
 ⟨none,.call 137,[],.push,[⟨none,.r1 (fun s a=>AE Tryz.prog s 32 a),[.var 1],(.loc 1)⟩]⟩,
 ⟨none,.call 136,[.loc 1,.loc 0],.push,[]⟩,
 ⟨none,.e (fun s=>Xx (fun a x=>Xz (Aa Tryz.prog s 34 a x))),[.var 2,.loc 0],.push,[]⟩]
def fP:Az:=⟨1,3,(.seq (.ops bO) (.seq (.ops bP) .ret)),[((.var 2),some 34)]⟩
theorem ZX:AS Tryz.prog 137=some dZ:=by kernel_rfl
theorem ZW:AS Tryz.prog 136=some dY:=by kernel_rfl
theorem Zl:AS Tryz.prog 235=some dv:=by kernel_rfl
theorem Zg:AS Tryz.prog 189=some dk:=by kernel_rfl
theorem Zr:AS Tryz.prog 282=some eC:=by kernel_rfl
theorem Zy:AS Tryz.prog 303=some eK:=by kernel_rfl
theorem Zz:AS Tryz.prog 304=some eL:=by kernel_rfl
theorem Z0:AS Tryz.prog 305=some eM:=by kernel_rfl
theorem Zn:AS Tryz.prog 250=some dx:=by kernel_rfl
theorem Zs:AS Tryz.prog 283=some eE:=by kernel_rfl
theorem Zi:AS Tryz.prog 198=some dp:=by kernel_rfl
theorem Zj:AS Tryz.prog 199=some dr:=by kernel_rfl
theorem cL:AS Tryz.prog 62=some fO:=by kernel_rfl
theorem cK:AS Tryz.prog 23=some fN:=by kernel_rfl
theorem cM:AS Tryz.prog 64=some fP:=by kernel_rfl
end
end Go.Proofs.YtdmgdlbodeemeaaGreatDoor.Am
