/- Compiled code of package nat (sums), printed by a program of ours (dev/Print2.lean) and checked by the kernel; conditions: none. -/
import Derived.Test.YtfgmceookgelcaaGreatDoorAmM05
import Derived.Test.YtfgmceookgelcaaGreatDoorAmM06
import Derived.Test.YtfgmceookgelcaaGreatDoorAmM01
set_option linter.unusedVariables false
set_option linter.unusedSimpArgs false
set_option maxRecDepth 100000
namespace Go.Proofs.YtfgmceookgelcaaGreatDoor.Am
open Go Go.Proofs
noncomputable section
def W0:List AC:=[
 ⟨none,.mk (fun l=>match l with | [v]=>Cr 59 v | _=>none),[.var 0],(.set 2),[]⟩,
 ⟨none,.mk (fun l=>match l with | [v]=>Cr 59 v | _=>none),[.var 1],(.set 3),[]⟩,
 ⟨none,.p1 some,[(.const .nilFunc)],(.set 4),[]⟩]
def W1:List AC:=[
 ⟨none,.mk (fun l=>match l with | []=>Ar Tryz.prog 330 | _=>none),[],(.set 5),[]⟩,
 ⟨none,.e (fun s=>Xx (fun a x=>Xz (AZ Tryz.prog s 330 a x))),[(.var 5),(.const (.func 298 [] []))],.push,[]⟩]
def W2:List AC:=[
 ⟨none,.p (fun l=>some (.func 299 (l.take 0) (l.drop 0))),[.var 2,.var 3,.var 5],.push,[]⟩,
 ⟨none,.p1 some,[.loc 0],(.set 4),[]⟩]
def eq:Ay:=⟨2,6,(.seq (.ops W0) (.seq (.ops W1) (.seq (.ops W2) .ret))),[((.var 4),none)]⟩
def Pf:List AC:=[
 ⟨none,.p1 some,[(.const (.int .u64 (0)))],(.set 2),[]⟩]
def Pg:List AC:=[
 ⟨none,.r (fun s l=>match l with | [x]=>Bk Tryz.prog s 59 x | _=>none),[.var 0],.push,[]⟩,
 ⟨none,.p2 (AN Tryz.prog .geq 3),[.var 1,.loc 0],(.set 3),[]⟩]
def XE:List AC:=[
 ⟨none,.p1 some,[(.const (.int .u64 (0)))],(.set 2),[]⟩]
def XF:List AC:=[
 ⟨none,.p2 (AQ Tryz.prog 59),[.var 0,.var 1],.push,[]⟩,
 ⟨none,.r1 (fun s a=>AF Tryz.prog s 203 a),[.loc 0],.push,[]⟩,
 ⟨none,.r1 (fun s x=>Af Tryz.prog s 203 205 x),[.loc 0],.push,[]⟩,
 ⟨none,.p1 some,[.loc 0],(.set 2),[]⟩]
def cY:Ay:=⟨2,4,(.seq (.ops Pf) (.seq (.seq (.ops Pg) (.cond (.var 3)
 (.seq (.ops XE) .ret)
 .skip)) (.seq (.ops XF) .ret))),[((.var 2),none)]⟩
def XG:List AC:=[
 ⟨none,.r1 (fun s a=>AF Tryz.prog s 59 a),[.var 1],.push,[]⟩,
 ⟨none,.r (fun s l=>match l with | [x]=>Bk Tryz.prog s 59 x | _=>none),[.loc 0],.push,[]⟩,
 ⟨none,.r1 (fun s a=>AF Tryz.prog s 59 a),[.var 2],.push,[]⟩,
 ⟨none,.r (fun s l=>match l with | [x]=>Bk Tryz.prog s 59 x | _=>none),[.loc 0],.push,[]⟩,
 ⟨none,.p (fun l=>match l with | v::l=>FL true v l | []=>none),[.loc 2,.loc 0],(.set 5),[]⟩,
 ⟨none,.p1 some,[(.const (.int .i64 (0)))],(.set 6),[]⟩]
def Ph:List AC:=[
 ⟨none,.p2 (AN Tryz.prog .lss 3),[.var 6,.var 5],(.set 7),[]⟩]
def XH:List AC:=[
 ⟨none,.p1 some,[.var 6],(.set 4),[]⟩]
def XI:List AC:=[
 ⟨none,.r1 (fun s a=>AF Tryz.prog s 330 a),[.var 3],.push,[]⟩,
 ⟨none,.r1 (fun s a=>AF Tryz.prog s 59 a),[.var 1],.push,[]⟩,
 ⟨none,.r1 (fun s a=>AF Tryz.prog s 330 a),[.var 3],.push,[]⟩,
 ⟨none,.r1 (fun s a=>AF Tryz.prog s 59 a),[.var 2],.push,[]⟩,
 ⟨none,.callv,[.loc 3,.loc 2,.var 4],.push,[⟨none,.r1 (fun s a=>AF Tryz.prog s 59 a),[.var 2],(.loc 1)⟩,⟨none,.r1 (fun s a=>AF Tryz.prog s 330 a),[.var 3],(.loc 2)⟩]⟩,
 ⟨none,.callv,[.loc 2,.loc 1,.var 4],.push,[]⟩,
 ⟨none,.callv,[.var 0,.loc 1,.loc 0],.push,[]⟩,
 ⟨none,.p1 (de Tryz.prog Go.UnOp.not),[.loc 0],(.set 8),[]⟩]
def XJ:List AC:=[
 ⟨none,.p2 (AN Tryz.prog .add 3),[(.var 6),(.const (.int .i64 (1)))],.push,[]⟩,
 ⟨none,.p1 some,[.loc 0],(.set 6),[]⟩]
def Jh:Ab:=(.seq (.ops Ph) (.seq (.cond (.var 7)
 .skip
 (.exit 0)) (.seq (.block 1 (.seq (.ops XH) (.seq (.ops XI) (.cond (.var 8)
 .ret
 .skip)))) (.ops XJ))))
def eu:Ay:=⟨4,9,(.seq (.ops XG) (.block 0 (.loop Jh))),[]⟩
def W5:List AC:=[
 ⟨none,.p1 some,[(.const (.slice none 0 (some 0)))],(.set 1),[]⟩]
def W6:List AC:=[
 ⟨none,.p1 some,[.var 0],(.set 7),[]⟩,
 ⟨none,.r (fun s l=>match l with | [x]=>Bk Tryz.prog s 332 x | _=>none),[.var 7],(.set 8),[]⟩,
 ⟨none,.p1 some,[(.const (.int .i64 (0)))],(.set 9),[]⟩]
def Pd:List AC:=[
 ⟨none,.p2 (AN Tryz.prog .lss 3),[.var 9,.var 8],(.set 10),[]⟩]
def W7:List AC:=[
 ⟨none,.p2 (AQ Tryz.prog 332),[.var 7,.var 9],.push,[]⟩,
 ⟨none,.r1 (fun s a=>AF Tryz.prog s 59 a),[.loc 0],.push,[]⟩,
 ⟨none,.p1 some,[.loc 0],(.set 2),[]⟩]
def W8:List AC:=[
 ⟨none,.mk (fun l=>match l with | []=>Ar Tryz.prog 59 | _=>none),[],(.set 3),[]⟩]
def W9:List AC:=[
 ⟨none,.mk (fun l=>match l with | []=>Ar Tryz.prog 205 | _=>none),[],(.set 4),[]⟩,
 ⟨none,.e (fun s=>Xx (fun a x=>Xz (AZ Tryz.prog s 205 a x))),[(.var 4),(.const (.int .u64 (0)))],.push,[]⟩]
def XA:List AC:=[
 ⟨none,.call 291,[.var 1,.var 2],(.set 11),[]⟩]
def XB:List AC:=[
 ⟨none,.p1 some,[.var 12],(.set 5),[]⟩]
def XC:List AC:=[
 ⟨none,.p1 some,[.var 13],(.set 6),[]⟩]
def XD:List AC:=[
 ⟨none,.r1 (fun s a=>AF Tryz.prog s 205 a),[.var 4],.push,[]⟩,
 ⟨none,.p2 (AN Tryz.prog .add 205),[.var 5,.var 6],.push,[]⟩,
 ⟨none,.p2 (AN Tryz.prog .add 205),[.loc 1,.loc 0],.push,[]⟩,
 ⟨none,.e (fun s=>Xx (fun a x=>Xz (AZ Tryz.prog s 205 a x))),[.var 4,.loc 0],.push,[]⟩]
def R3:List AC:=[
 ⟨none,.r1 (fun s a=>AF Tryz.prog s 59 a),[.var 3],.push,[]⟩,
 ⟨none,.r1 (fun s a=>AF Tryz.prog s 205 a),[.var 4],.push,[]⟩,
 ⟨none,.p2 (AN Tryz.prog .and 205),[(.loc 0),(.const (.int .u64 (4294967295)))],.push,[]⟩,
 ⟨none,.r1 (fun s x=>Af Tryz.prog s 205 203 x),[.loc 0],.push,[]⟩,
 ⟨none,.mk (fun l=>(Ak Tryz.prog 59 1 (zipIdx [0] l)).bind fun r=>some (r,.slice 1)),[.loc 0],.push,[]⟩,
 ⟨none,.e (fun s l=>A7 Tryz.prog s [59,59] l),[.loc 4,.loc 0],.push,[]⟩,
 ⟨none,.e (fun s=>Xx (fun a x=>Xz (AZ Tryz.prog s 59 a x))),[.var 3,.loc 0],.push,[]⟩]
def R4:List AC:=[
 ⟨none,.r1 (fun s a=>AF Tryz.prog s 205 a),[.var 4],.push,[]⟩,
 ⟨none,.p2 (AN Tryz.prog .shr 205),[(.loc 0),(.const (.int .u64 (32)))],.push,[]⟩,
 ⟨none,.e (fun s=>Xx (fun a x=>Xz (AZ Tryz.prog s 205 a x))),[.var 4,.loc 0],.push,[]⟩]
def Nd:Ab:=(.seq (.ops XB) (.ops XC))
def Nf:Ab:=(.block 3 (.seq (.ops XD) (.seq (.ops R3) (.ops R4))))
def MU:Code:=(JI 292 0).1
def MV:Code:=(JI 292 0).2
theorem W3:FC Tryz.prog 292 MU=some Nd:=by kernel_rfl
theorem W4:FC Tryz.prog 292 MV=some Nf:=by kernel_rfl
theorem Pe:Dg Tryz.prog 292=[0,2,4,5,6,7,8,9,10,11,12,17,18,19]:=by kernel_rfl
def R5:List AC:=[
 ⟨none,.r1 (fun s a=>AF Tryz.prog s 59 a),[.var 3],.push,[]⟩,
 ⟨none,.r1 (fun s a=>AF Tryz.prog s 205 a),[.var 4],.push,[]⟩,
 ⟨none,.r1 (fun s x=>Af Tryz.prog s 205 203 x),[.loc 0],.push,[]⟩,
 ⟨none,.mk (fun l=>(Ak Tryz.prog 59 1 (zipIdx [0] l)).bind fun r=>some (r,.slice 1)),[.loc 0],.push,[]⟩,
 ⟨none,.e (fun s l=>A7 Tryz.prog s [59,59] l),[.loc 3,.loc 0],.push,[]⟩,
 ⟨none,.p1 some,[.loc 0],(.set 1),[]⟩]
def R6:List AC:=[
 ⟨none,.p2 (AN Tryz.prog .add 3),[(.var 9),(.const (.int .i64 (1)))],.push,[]⟩,
 ⟨none,.p1 some,[.loc 0],(.set 9),[]⟩]
def HE:Ab:=(.seq (.ops Pd) (.seq (.cond (.var 10)
 .skip
 (.exit 0)) (.seq (.block 1 (.seq (.ops W7) (.seq (.ops W8) (.seq (.ops W9) (.seq (.seq (.ops XA) (.block 2 (.rangeFunc 292 (.var 11) #[18,19] MU MV))) (.ops R5)))))) (.ops R6))))
def R7:List AC:=[
 ⟨none,.p1 some,[.var 1],.push,[]⟩,
 ⟨none,.call 208,[.loc 0],.push,[]⟩,
 ⟨none,.p1 some,[.loc 0],(.set 1),[]⟩]
def er:Ay:=⟨1,14,(.seq (.ops W5) (.seq (.seq (.ops W6) (.block 0 (.loop HE))) (.seq (.ops R7) .ret))),[((.var 1),none)]⟩
def WX:List AC:=[
 ⟨none,.p1 some,[(.const (.slice none 0 (some 0)))],(.set 2),[]⟩]
def WY:List AC:=[
 ⟨none,.mk (fun l=>(Ak Tryz.prog 332 2 (zipIdx [0,1] l)).bind fun r=>some (r,.slice 2)),[.var 0,.var 1],.push,[]⟩,
 ⟨none,.call 292,[.loc 0],.push,[]⟩,
 ⟨none,.p1 some,[.loc 0],(.set 2),[]⟩]
def eh:Ay:=⟨2,3,(.seq (.ops WX) (.seq (.ops WY) .ret)),[((.var 2),none)]⟩
def WL:List AC:=[
 ⟨none,.p1 some,[(.const (.slice none 0 (some 0)))],(.set 2),[]⟩,
 ⟨none,.p1 some,[(.const (.bool false))],(.set 3),[]⟩]
def WM:List AC:=[
 ⟨none,.call 209,[.var 0,.var 1],.push,[]⟩,
 ⟨none,.p2 (AN Tryz.prog .lss 3),[(.loc 0),(.const (.int .i64 (0)))],(.set 9),[]⟩]
def WN:List AC:=[
 ⟨none,.p1 some,[(.const (.slice none 0 (some 0)))],(.set 2),[]⟩,
 ⟨none,.p1 some,[(.const (.bool false))],(.set 3),[]⟩]
def WO:List AC:=[
 ⟨none,.mk (fun l=>match l with | []=>Ar Tryz.prog 59 | _=>none),[],(.set 4),[]⟩]
def WP:List AC:=[
 ⟨none,.mk (fun l=>match l with | []=>Ar Tryz.prog 205 | _=>none),[],(.set 5),[]⟩,
 ⟨none,.e (fun s=>Xx (fun a x=>Xz (AZ Tryz.prog s 205 a x))),[(.var 5),(.const (.int .u64 (0)))],.push,[]⟩]
def WQ:List AC:=[
 ⟨none,.call 291,[.var 0,.var 1],(.set 10),[]⟩]
def WS:List AC:=[
 ⟨none,.p1 some,[.var 11],(.set 6),[]⟩]
def WT:List AC:=[
 ⟨none,.p1 some,[.var 12],(.set 7),[]⟩]
def WU:List AC:=[
 ⟨none,.p2 (AN Tryz.prog .sub 205),[.var 6,.var 7],.push,[]⟩,
 ⟨none,.r1 (fun s a=>AF Tryz.prog s 205 a),[.var 5],.push,[]⟩,
 ⟨none,.p2 (AN Tryz.prog .sub 205),[.loc 1,.loc 0],.push,[]⟩,
 ⟨none,.p1 some,[.loc 0],(.set 8),[]⟩]
def WV:List AC:=[
 ⟨none,.r1 (fun s a=>AF Tryz.prog s 59 a),[.var 4],.push,[]⟩,
 ⟨none,.p2 (AN Tryz.prog .and 205),[(.var 8),(.const (.int .u64 (4294967295)))],.push,[]⟩,
 ⟨none,.r1 (fun s x=>Af Tryz.prog s 205 203 x),[.loc 0],.push,[]⟩,
 ⟨none,.mk (fun l=>(Ak Tryz.prog 59 1 (zipIdx [0] l)).bind fun r=>some (r,.slice 1)),[.loc 0],.push,[]⟩,
 ⟨none,.e (fun s l=>A7 Tryz.prog s [59,59] l),[.loc 3,.loc 0],.push,[]⟩,
 ⟨none,.e (fun s=>Xx (fun a x=>Xz (AZ Tryz.prog s 59 a x))),[.var 4,.loc 0],.push,[]⟩]
def Rw:List AC:=[
 ⟨none,.p2 (AN Tryz.prog .shr 205),[(.var 8),(.const (.int .u64 (63)))],.push,[]⟩,
 ⟨none,.e (fun s=>Xx (fun a x=>Xz (AZ Tryz.prog s 205 a x))),[.var 5,.loc 0],.push,[]⟩]
def Nb:Ab:=(.seq (.ops WS) (.ops WT))
def Nc:Ab:=(.block 1 (.seq (.ops WU) (.seq (.ops WV) (.ops Rw))))
def MS:Code:=(JI 279 0).1
def MT:Code:=(JI 279 0).2
theorem WJ:FC Tryz.prog 279 MS=some Nb:=by kernel_rfl
theorem WK:FC Tryz.prog 279 MT=some Nc:=by kernel_rfl
theorem Pa:Dg Tryz.prog 279=[0,1,4,5,6,7,8,9,10,14,17,18,19]:=by kernel_rfl
def R0:List AC:=[
 ⟨none,.r1 (fun s a=>AF Tryz.prog s 59 a),[.var 4],.push,[]⟩,
 ⟨none,.call 208,[.loc 0],.push,[]⟩,
 ⟨none,.p1 some,[.loc 0],(.set 2),[]⟩,
 ⟨none,.p1 some,[(.const (.bool true))],(.set 3),[]⟩]
def eg:Ay:=⟨2,13,(.seq (.ops WL) (.seq (.seq (.ops WM) (.cond (.var 9)
 (.seq (.ops WN) .ret)
 .skip)) (.seq (.ops WO) (.seq (.ops WP) (.seq (.seq (.ops WQ) (.block 0 (.rangeFunc 279 (.var 10) #[18,19] MS MT))) (.seq (.ops R0) .ret)))))),[((.var 2),none),((.var 3),none)]⟩
theorem aL:AS Tryz.prog 291=some eq:=by kernel_rfl
theorem aN:AS Tryz.prog 298=some cY:=by kernel_rfl
theorem aO:AS Tryz.prog 299=some eu:=by kernel_rfl
theorem aM:AS Tryz.prog 292=some er:=by kernel_rfl
theorem aG:AS Tryz.prog 280=some eh:=by kernel_rfl
theorem aF:AS Tryz.prog 279=some eg:=by kernel_rfl
end
end Go.Proofs.YtfgmceookgelcaaGreatDoor.Am
set_option linter.unusedVariables false
set_option linter.unusedSimpArgs false
set_option maxRecDepth 12000
namespace Go.Proofs.YtfgmceookgelcaaGreatDoor.Am
open Go Go.Proofs
noncomputable section
theorem QM(k:IntKind):Bn k k=true:=by cases k<;>rfl
theorem Cn(a:Option (Nat×Nat))(n:Nat)(cap:Option Nat):EV (.slice a n cap) (.slice a n cap)=true:=by
 cases a<;>cases cap<;>simp[EV]
theorem SK(f:FuncId):EV (.func f [] []) (.func f [] [])=true:=by simp[EV,EV.eqAs]
theorem BG{s:AE}{loc var:List AV}{f:AE→AV→Option AV}{x ans:CX}(h:f s (CO loc var x)=some (CO loc var ans))(he:EV (CO loc var ans) (CO loc var ans)=true):E8 s loc var ⟨none,.r1 f,[x],ans⟩=true:=by
 unfold E8
 show(!true || OS (f s (CO loc var x)) (CO loc var ans))=true
 rw[h]
 exact he
section
variable{E:Cg}{s:AE}
theorem SX(hE:An E){a:Option (Nat×Nat)}{ca:Option Nat}{b:Nat}{la:List Nat}(hc:Ai b s a (us la))(hs:BV la){i:Nat}{K:AV→AE→Prop}(hK:K (AT (la.getD i 0)) s):
  WF E 298 [.slice a la.length ca,iv (i:Int)] K s:=by
 refine hE.go aN (by decide) rfl ?_
 rcases fv i la.length with h | h
 ·have hx:la[i]? = some la[i]:=f9 h
  rw[iS,hx]at hK
  generalize la[i]=x at hx hK
  obtain⟨pi,o,rfl,_,hload⟩:=hc i _ (DB hx)
  have dd:decide ((la.length:Int)≤(i:Int))=false:=decide_eq_false (by omega)
  have e1:=Aw (cap:=ca) (i:=pi) (o:=o) Tryz.underlying59 Bj h
  have e2:AF Tryz.prog s 203 (.ptr (some (pi,o+i * 1)))=some (BO x):=B9 EO (by rw[gB];exact hload)
  have e3:=BP (s:=s) (hs x (gR hx))
  simp only[cY,Pf,Pg,XF,AW Tryz.underlying59,Wa,dd,e1,e2,e3,Qa,Qb,Qc,Qd,Qe,Qf,Qg,Qh,Qi,Qj,Qk,Ql,Qm,Qn,true_and,and_true,Qo,Qp,Qq,Qr,Qs,Qt,Qu,Qv,Qw,Qx,Qy,Qz,Ra,Rb,Rc,Rd,Re,Rf,Rg,Rh,Ri,Rj,Rk,Rm,Rn,Ro,Rp,Rq,Rs,Ya,Yb,Yc,Rt,Ru,Za,Yd,Ye,Rx,Ry,Rz,Wa,Wb,Wc,Wd]
  exact hK
 ·have dd:decide ((la.length:Int)≤(i:Int))=true:=decide_eq_true (by omega)
  rw[iS,gH h]at hK
  simp only[cY,Pf,Pg,XE,AW Tryz.underlying59,Wa,dd,Qa,Qb,Qc,Qd,Qe,Qf,Qg,Qh,Qi,Qj,Qk,Ql,Qm,Qn,true_and,and_true,Qo,Qp,Qq,Qr,Qs,Qt,Qu,Qv,Qw,Qx,Qy,Qz,Ra,Rb,Rc,Rd,Re,Rf,Rg,Rh,Ri,Rj,Rk,Rm,Rn,Ro,Rp,Rq,Rs,Ya,Yb,Yc,Rt,Ru,Za,Yd,Ye,Rx,Ry,Rz,Wa,Wb,Wc,Wd]
  exact hK
def RC(v:AV):AX:=R 59 0 false [v]
def dv:AX:=R 330 0 false [.func 298 [] []]
theorem OG(hE:An E){va vb:AV}(hca:va.cells=[va])(hcb:vb.cells=[vb]){K:AV→AE→Prop}
  (hK:∀s',s'.next=s.next+3→(∀j,j<s.next→s'.heap.get j=s.heap.get j)→s'.heap.get s.next=some (RC va)→s'.heap.get (s.next+1)=some (RC vb)→s'.heap.get (s.next+2)=some dv →
   K (.func 299 [] [.ptr (some (s.next,0)),.ptr (some (s.next+1,0)),.ptr (some (s.next+2,0))]) s'):WF E 291 [va,vb] K s:=by
 refine hE.go aL (by decide) rfl ?_
 have hz:Ar Tryz.prog 330=some (R 330 0 false [.nilFunc],.ptr):=by kernel_rfl
 have hsz:A2 Tryz.prog 330=some 1:=by kernel_rfl
 have n1:(newObj s (R 59 0 false [va])).next=s.next+1:=rfl
 have n2:(newObj (newObj s (R 59 0 false [va])) (R 59 0 false [vb])).next=s.next+2:=rfl
 have hg:(newObj (newObj (newObj s (R 59 0 false [va])) (R 59 0 false [vb])) (R 330 0 false [.nilFunc])).heap.get (s.next+2)=some (R 330 0 false [.nilFunc]):=by
  rw[AO,if_pos n2.symm]
 have hst:=Cf (P:=Tryz.prog) (t:=330) (o:=0) (v:=.func 298 [] []) hsz hg (by simp) rfl
 simp only[gk]at hst
 simp only[eq,W0,W1,W2,Wz,hca,hcb,hz,Xb,n1,n2,hst,Xx,Xz,iT,iI,Qa,Qb,Qc,Qd,Qe,Qf,Qg,Qh,Qi,Qj,Qk,Ql,Qm,Qn,true_and,and_true,Qo,Qp,Qq,Qr,Qs,Qt,Qu,Qv,Qw,Qx,Qy,Qz,Ra,Rb,Rc,Rd,Re,Rf,Rg,Rh,Ri,Rj,Rk,Rm,Rn,Ro,Rp,Rq,Rs,Ya,Yb,Yc,Rt,Ru,Za,Yd,Ye,Rx,Ry,Rz,Wa,Wb,Wc,Wd]
 refine hK _ rfl (fun j hj=>?_) ?_ ?_ (Wv _ _ _)
 ·rw[Ww _ (by omega),AO,if_neg (by rw[n2];omega),AO,if_neg (by rw[n1];omega),AO,if_neg (by omega)]
 ·rw[Ww _ (by omega),AO,if_neg (by rw[n2];omega),AO,if_neg (by rw[n1];omega),AO,if_pos rfl];rfl
 ·rw[Ww _ (by omega),AO,if_neg (by rw[n2];omega),AO,if_pos n1.symm];rfl
structure PK(n0 p:Nat)(s0 s:AE):Prop where
 next:s0.next≤s.next
 low:∀j,j<n0→s.heap.get j=s0.heap.get j
 a:s.heap.get p=s0.heap.get p
 b:s.heap.get (p+1)=s0.heap.get (p+1)
 l:s.heap.get (p+2)=s0.heap.get (p+2)
theorem PK.refl(n0 p:Nat)(s:AE):PK n0 p s s:=⟨fu _,fun _ _=>rfl,rfl,rfl,rfl⟩
theorem PK.trans{n0 p:Nat}{s0 s1 s2:AE}(h:PK n0 p s0 s1)(k:PK n0 p s1 s2):PK n0 p s0 s2:=
 ⟨fx h.next k.next,fun j hj=>(k.low j hj).trans (h.low j hj),k.a.trans h.a,k.b.trans h.b,k.l.trans h.l⟩
theorem LZ(hE:An E){s0:AE}{n0 p l:Nat}{a b:Option (Nat×Nat)}{ca cb:Option Nat}{la lb:List Nat}(hla:la.length≤10000000000)(hlb:lb.length≤10000000000)(hsa:BV la)(hsb:BV lb)
  (hca:Ai n0 s0 a (us la)) (hcb:Ai n0 s0 b (us lb)) (h1:s0.heap.get p=some (RC (.slice a la.length ca))) (h2:s0.heap.get (p+1)=some (RC (.slice b lb.length cb))) (h3:s0.heap.get (p+2)=some dv)
  (LI:Nat→AE→Prop) (hLI:∀k s,LI k s→PK n0 p s0 s)
  (hround:∀ (k:Nat) (s:AE) (K:AV→AE→Prop),k<max la.length lb.length→LI k s→(∀s',LI (k+1) s'→K (.bool true) s')→WR E l [AT (la.getD k 0),AT (lb.getD k 0)] K s)
  {K:AV→AE→Prop} (h0:LI 0 s) (hend:∀v s',LI (max la.length lb.length) s'→K v s'):
  WF E 299 [.yield l,.ptr (some (p,0)),.ptr (some (p+1,0)),.ptr (some (p+2,0))] K s:=by
 have hag:EM Tryz.prog 330=some false:=by kernel_rfl
 have lda:∀ {s':AE},PK n0 p s0 s'→AF Tryz.prog s' 59 (.ptr (some (p,0)))=some (.slice a la.length ca):=fun h=>Ae D7 (h.a.trans h1) rfl
 have ldb:∀ {s':AE},PK n0 p s0 s'→AF Tryz.prog s' 59 (.ptr (some (p+1,0)))=some (.slice b lb.length cb):=fun h=>Ae D7 (h.b.trans h2) rfl
 have ldl:∀ {s':AE},PK n0 p s0 s'→AF Tryz.prog s' 330 (.ptr (some (p+2,0)))=some (.func 298 [] []):=fun h=>Ae hag (h.l.trans h3) rfl
 have hmm:FL true (iv (la.length:Int)) [iv (lb.length:Int)]=some (iv ((max la.length lb.length:Nat):Int)):=by
  simp only[FL,QM,AH,cond_true]
  congr 2
  cases hlt:Kw (la.length:Int) (lb.length:Int)with
  | true=>rw[CV]at hlt;have:=of_decide_eq_true hlt;simp only[cond_true];omega
  | false=>rw[CV]at hlt;have:=of_decide_eq_false hlt;simp only[cond_true,cond_false];omega
 refine hE.go aO (by decide) rfl ?_
 simp only[eu,XG,lda (hLI 0 s h0),ldb (hLI 0 s h0),AW Tryz.underlying59,hmm,Qa,Qb,Qc,Qd,Qe,Qf,Qg,Qh,Qi,Qj,Qk,Ql,Qm,Qn,true_and,and_true,Qo,Qp,Qq,Qr,Qs,Qt,Qu,Qv,Qw,Qx,Qy,Qz,Ra,Rb,Rc,Rd,Re,Rf,Rg,Rh,Ri,Rj,Rk,Rm,Rn,Ro,Rp,Rq,Rs,Ya,Yb,Yc,Rt,Ru,Za,Yd,Ye,Rx,Ry,Rz,Wa,Wb,Wc,Wd]
 generalize hM:max la.length lb.length=M at *
 have hMle:M≤10000000000:=by omega
 have key:∀ (m k:Nat) (S:AE) (x4 x7 x8:AV),k+m=M→LI k S→WC E none (.loop Jh) (fun r=>(r.exit=.exit 0∧r.marks=[]∧LI M r.st)) [.yield l,.ptr (some (p,0)),.ptr (some (p+1,0)),.ptr (some (p+2,0)),x4,iv (M:Int),iv (k:Int),x7,x8] [] S:=by
  intro m
  induction m with
  | zero =>
   intro k S x4 x7 x8 hk hS
   have e:k=M:=by omega
   subst e
   have dd:decide ((k:Int)<(k:Int))=false:=decide_eq_false (by omega)
   refine WC.loop' ?_
   simp only[Jh,Ph,Rx,dd,Qa,Qb,Qc,Qd,Qe,Qf,Qg,Qh,Qi,Qj,Qk,Ql,Qm,Qn,true_and,and_true,Qo,Qp,Qq,Qr,Qs,Qt,Qu,Qv,Qw,Qx,Qy,Qz,Ra,Rb,Rc,Rd,Re,Rf,Rg,Rh,Ri,Rj,Rk,Rm,Rn,Ro,Rp,Rq,Rs,Ya,Yb,Yc,Rt,Ru,Za,Yd,Ye,Rx,Ry,Rz,Wa,Wb,Wc,Wd]
   exact hS
  | succ m ih =>
   intro k S x4 x7 x8 hk hS
   have dd:decide ((k:Int)<(M:Int))=true:=decide_eq_true (by omega)
   have pk:=hLI k S hS
   have l1:=lda pk
   have l2:=ldb pk
   have l3:=ldl pk
   have e17:=By Tryz.prog 3 (k:Int) 1 ⟨by omega,by omega⟩
   have e17':((k:Int)+1)=((k+1:Nat):Int):=by omega
   refine WC.loop' ?_
   generalize hW:WC E none (Ab.loop Jh) _=WW
   simp only[Jh,Ph,XH,XI,Rx,dd,l1,l2,l3,Qa,Qb,Qc,Qd,Qe,Qf,Qg,Qh,Qi,Qj,Qk,Ql,Qm,Qn,true_and,and_true,Qo,Qp,Qq,Qr,Qs,Qt,Qu,Qv,Qw,Qx,Qy,Qz,Ra,Rb,Rc,Rd,Re,Rf,Rg,Rh,Ri,Rj,Rk,Rm,Rn,Ro,Rp,Rq,Rs,Ya,Yb,Yc,Rt,Ru,Za,Yd,Ye,Rx,Ry,Rz,Wa,Wb,Wc,Wd]
   have ca':Ai n0 S a (us la):=hca.old ⟨pk.next,pk.low⟩ (fu _)
   have cb':Ai n0 S b (us lb):=hcb.old ⟨pk.next,pk.low⟩ (fu _)
   refine SX hE ca' hsa ?_
   refine⟨⟨BG (by simp only[Qa,Qb,Qc,Qd,Qe,Qf,Qg,Qh,Qi,Qj,Qk,Ql,Qm,Qn,true_and,and_true,Qo,Qp,Qq,Qr,Qs,Qt,Qu,Qv,Qw,Qx,Qy,Qz,Ra,Rb,Rc,Rd,Re,Rf,Rg,Rh,Ri,Rj,Rk,Rm,Rn,Ro,Rp,Rq,Rs,Ya,Yb,Yc,Rt,Ru,Za,Yd,Ye,Rx,Ry,Rz,Wa,Wb,Wc,Wd];exact l2) (Cn _ _ _),BG (by simp only[Qa,Qb,Qc,Qd,Qe,Qf,Qg,Qh,Qi,Qj,Qk,Ql,Qm,Qn,true_and,and_true,Qo,Qp,Qq,Qr,Qs,Qt,Qu,Qv,Qw,Qx,Qy,Qz,Ra,Rb,Rc,Rd,Re,Rf,Rg,Rh,Ri,Rj,Rk,Rm,Rn,Ro,Rp,Rq,Rs,Ya,Yb,Yc,Rt,Ru,Za,Yd,Ye,Rx,Ry,Rz,Wa,Wb,Wc,Wd];exact l3) (SK _),trivial⟩,?_⟩
   simp only[Qa,Qb,Qc,Qd,Qe,Qf,Qg,Qh,Qi,Qj,Qk,Ql,Qm,Qn,true_and,and_true,Qo,Qp,Qq,Qr,Qs,Qt,Qu,Qv,Qw,Qx,Qy,Qz,Ra,Rb,Rc,Rd,Re,Rf,Rg,Rh,Ri,Rj,Rk,Rm,Rn,Ro,Rp,Rq,Rs,Ya,Yb,Yc,Rt,Ru,Za,Yd,Ye,Rx,Ry,Rz,Wa,Wb,Wc,Wd]
   refine SX hE cb' hsb ?_
   simp only[Qa,Qb,Qc,Qd,Qe,Qf,Qg,Qh,Qi,Qj,Qk,Ql,Qm,Qn,true_and,and_true,Qo,Qp,Qq,Qr,Qs,Qt,Qu,Qv,Qw,Qx,Qy,Qz,Ra,Rb,Rc,Rd,Re,Rf,Rg,Rh,Ri,Rj,Rk,Rm,Rn,Ro,Rp,Rq,Rs,Ya,Yb,Yc,Rt,Ru,Za,Yd,Ye,Rx,Ry,Rz,Wa,Wb,Wc,Wd]
   refine hround k S _ (by omega) hS fun s' hs'=>?_
   simp only[XJ,Wd,Bool.not_true,e17,e17',Qa,Qb,Qc,Qd,Qe,Qf,Qg,Qh,Qi,Qj,Qk,Ql,Qm,Qn,true_and,and_true,Qo,Qp,Qq,Qr,Qs,Qt,Qu,Qv,Qw,Qx,Qy,Qz,Ra,Rb,Rc,Rd,Re,Rf,Rg,Rh,Ri,Rj,Rk,Rm,Rn,Ro,Rp,Rq,Rs,Ya,Yb,Yc,Rt,Ru,Za,Yd,Ye,Rx,Ry,Rz,Wa,Wb,Wc,Wd]
   rw[← hW]
   exact ih (k+1) s' _ _ _ (by omega) hs'
 refine(key M 0 s _ _ _ (by omega) h0).mono ?_
 rintro⟨e,v,m,s'⟩ ⟨q1,q0,q2⟩
 simp only at q1 q0 q2
 subst q0
 subst q1
 simp only[if_true,Qa,Qb,Qc,Qd,Qe,Qf,Qg,Qh,Qi,Qj,Qk,Ql,Qm,Qn,true_and,and_true,Qo,Qp,Qq,Qr,Qs,Qt,Qu,Qv,Qw,Qx,Qy,Qz,Ra,Rb,Rc,Rd,Re,Rf,Rg,Rh,Ri,Rj,Rk,Rm,Rn,Ro,Rp,Rq,Rs,Ya,Yb,Yc,Rt,Ru,Za,Yd,Ye,Rx,Ry,Rz,Wa,Wb,Wc,Wd]
 exact hend _ _ q2
end
end
end Go.Proofs.YtfgmceookgelcaaGreatDoor.Am
set_option linter.unusedVariables false
set_option linter.unusedSimpArgs false
set_option maxRecDepth 16000
namespace Go.Proofs.YtfgmceookgelcaaGreatDoor.Am
open Go Go.Proofs
noncomputable section
theorem KP{a b:List Nat}{k:Nat}(h:k<max a.length b.length):(Ba a b)[k]? = some (a.getD k 0,b.getD k 0):=by
 unfold Ba
 rw[iJ,List.getElem?_range h];rfl
theorem KQ(a b:List Nat):(Ba a b).length=max a.length b.length:=by simp[Ba]
theorem GB{a:List Nat}(h:BV a)(k:Nat):a.getD k 0<4294967296:=by
 rw[iS]
 rcases fv k a.length with h' | h'
 ·rw[f9 h'];exact h _ (List.getElem_mem h')
 ·rw[gH h'];exact(by decide)
theorem TV{a b:List Nat}(ha:BV a)(hb:BV b):∀p∈Ba a b,p.1<LB∧p.2<LB:=fun p hp=>by
 unfold Ba at hp
 obtain⟨i,_,rfl⟩:=List.mem_map.1 hp
 exact⟨GB ha i,GB hb i⟩
def J9 (v0 v1 v2 x5 x6 x7 x8 x9 x10:AV) (n0:Nat) (x12 x13:AV):EN:=
 JF 292 [v0,v1,v2,.ptr (some (n0,0)),.ptr (some (n0+1,0)),x5,x6,x7,x8,x9,x10,.func 299 [] [.ptr (some (n0+2,0)),.ptr (some (n0+2+1,0)),.ptr (some (n0+2+2,0))],x12,x13] #[18,19] MU MV (n0+5)
structure cP(n0:Nat)(s0:AE)(lo:EN)(P:List (Nat×Nat))(T:List Nat×Nat)(k:Nat)(s:AE):Prop where
 pk:PK n0 (n0+2) s0 s
 lt:n0+7≤s.next
 lp:BZ s (n0+6)=some lo
 mrk:s.heap.get (n0+5)=some .mark
 ex:∃vo d O c,s.heap.get n0=some (R 59 0 false [vo])∧s.heap.get (n0+1)=some (R 205 0 false [AT c])∧CT 203 s vo d.length 1 (us d) O∧(∀j∈O,n0+7≤j)∧(∀j,C8 vo=some j→n0+7≤j)∧d.length=k∧c≤1∧(d++(DS (P.drop k) c).1,(DS (P.drop k) c).2)=T
section
variable{E:Cg}{s:AE}
theorem Tk(hE:An E){n0:Nat}{s0:AE}{v0 v1 v2 x5 x6 x7 x8 x9 x10 x12 x13:AV}{P:List (Nat×Nat)}(hPl:P.length≤10000000000){T:List Nat×Nat}{k x y:Nat}(hP:P[k]? = some (x,y))(hx:x<4294967296)(hy:y<4294967296)
    (hI:cP n0 s0 (J9 v0 v1 v2 x5 x6 x7 x8 x9 x10 n0 x12 x13) P T k s) {K:AV→AE→Prop} (hK:∀s',cP n0 s0 (J9 v0 v1 v2 x5 x6 x7 x8 x9 x10 n0 x12 x13) P T (k+1) s'→K (.bool true) s'):
    WR E (n0+6) [AT x,AT y] K s:=by
  obtain⟨pk,hlt,hlp,hmk,vo,d,O,c,g1,g2,hD,hO,hsl,hdl,hc,hT⟩:=hI
  have hz:DN (Dg E.P 292) (J9 v0 v1 v2 x5 x6 x7 x8 x9 x10 n0 x12 x13).var [18,19] [AT x,AT y]=some [v0,v1,v2,.ptr (some (n0,0)),.ptr (some (n0+1,0)),x5,x6,x7,x8,x9,x10,.func 299 [] [.ptr (some (n0+2,0)),.ptr (some (n0+2+1,0)),.ptr (some (n0+2+2,0))],AT x,AT y]:=by
    rw[hE.P,Pe];rfl
  refine WR.round hlp hz (by rw[hE.P];exact W3) (by rw[hE.P];exact W4) ?_
  refine GQ ?_
  simp only[Nd,XB,XC,Qa,Qb,Qc,Qd,Qe,Qf,Qg,Qh,Qi,Qj,Qk,Ql,Qm,Qn,true_and,and_true,Qo,Qp,Qq,Qr,Qs,Qt,Qu,Qv,Qw,Qx,Qy,Qz,Ra,Rb,Rc,Rd,Re,Rf,Rg,Rh,Ri,Rj,Rk,Rm,Rn,Ro,Rp,Rq,Rs,Ya,Yb,Yc,Rt,Ru,Za,Yd,Ye,Rx,Ry,Rz,Wa,Wb,Wc,Wd]
  refine⟨_,hlp,rfl,GQ ?_⟩
  generalize hs1:setObj s (n0+6) _=s1
  have n1:s1.next=s.next:=by rw[← hs1];rfl
  have f1:∀j,j≠n0+6→s1.heap.get j=s.heap.get j:=fun j hj=>by rw[← hs1,Ww _ hj]
  have l1:BZ s1 (n0+6)=some { J9 v0 v1 v2 x5 x6 x7 x8 x9 x10 n0 x12 x13 with state:=.busy }:=by rw[← hs1,FK]
  have g1':=(f1 n0 (by omega)).trans g1
  have g2':=(f1 (n0+1) (by omega)).trans g2
  have hD1:CT 203 s1 vo d.length 1 (us d) O:=hD.frame (gV n1.symm) (fun j hj=>f1 j (by have:=hsl j hj;omega))
  have hdk:P.drop k=(x,y)::P.drop (k+1):=by
    have hk:k<P.length:=(List.getElem?_eq_some_iff.1 hP).1
    rw[gc hk]
    rw[f9 hk]at hP
    rw[Option.some.inj hP]
  have hkP:k<P.length:=(List.getElem?_eq_some_iff.1 hP).1
  rw[hdk]at hT
  simp only[DS]at hT
  have hLB:LB=4294967296:=rfl
  rw[hLB,show x+y+c=c+(x+y) by omega]at hT
  have e1:=F4 Tryz.prog 205 (a:=x) (b:=y) (by omega)
  have e2:=F4 Tryz.prog 205 (a:=c) (b:=x+y) (by omega)
  generalize hc1:c+(x+y)=c1 at hT e2
  have hc1b:c1<18446744073709551616:=by omega
  have e3:=It Tryz.prog 205 hc1b
  have e11:c1 % 4294967296 % 4294967296=c1 % 4294967296:=iH _ _
  have e15:AN Tryz.prog .shr 205 (AT c1) (.int .u64 32)=some (AT (c1 / 4294967296)):=Ho Tryz.prog 205 (k:=.u64) (n:=32) (by decide)
  have hcq:c1 / 4294967296≤1:=by omega
  generalize hz:c1 % 4294967296=z at hT e3 e11
  have ld2:AF Tryz.prog s1 205 (.ptr (some (n0+1,0)))=some (AT c):=Ae NO g2' rfl
  have st2:=Cf (P:=Tryz.prog) (t:=205) (o:=0) (v:=AT c1) Oi g2' (by simp) rfl
  simp only[gk]at st2
  generalize hs2:setObj s1 (n0+1) (R 205 0 false [AT c1])=s2 at st2
  have n2:s2.next=s1.next:=by rw[← hs2];rfl
  have f2:∀j,j≠n0+1→s2.heap.get j=s1.heap.get j:=fun j hj=>by rw[← hs2,Ww _ hj]
  have g22:s2.heap.get (n0+1)=some (R 205 0 false [AT c1]):=by rw[← hs2,Wv]
  have ld22:AF Tryz.prog s2 205 (.ptr (some (n0+1,0)))=some (AT c1):=Ae NO g22 rfl
  have g12:=(f2 n0 (by omega)).trans g1'
  have ld12:AF Tryz.prog s2 59 (.ptr (some (n0,0)))=some vo:=Ae D7 g12 rfl
  have hD2:CT 203 s2 vo d.length 1 (us d) O:=hD1.frame (gV n2.symm) (fun j hj=>f2 j (by have:=hsl j hj;omega))
  obtain⟨v',s3,O',happ,hD3,hn3,f3,hO3,hsl3⟩:=Hb hD2 z (by omega)
  have happ':A7 Tryz.prog (newObj s2 (R 203 1 false [.int .u32 z])) [59,59] [vo,.slice (some (s2.next,0)) 1 (some 1)]=some (v',s3):=happ
  have g13:s3.heap.get n0=some (R 59 0 false [vo]):=(f3 n0 (by omega) (fun h=>by have:=hO n0 h;omega)).trans g12
  have g23:s3.heap.get (n0+1)=some (R 205 0 false [AT c1]):=(f3 (n0+1) (by omega) (fun h=>by have:=hO _ h;omega)).trans g22
  have hv'c:v'.isCell=true:=by obtain⟨a,cap,rfl,_⟩:=hD3.cells;rfl
  have st3:=Cf (P:=Tryz.prog) (t:=59) (o:=0) (v:=v') dY g13 (by simp) hv'c
  simp only[gk]at st3
  generalize hs4:setObj s3 n0 (R 59 0 false [v'])=s4 at st3
  have n4:s4.next=s3.next:=by rw[← hs4];rfl
  have f4:∀j,j≠n0→s4.heap.get j=s3.heap.get j:=fun j hj=>by rw[← hs4,Ww _ hj]
  have g24:=(f4 (n0+1) (by omega)).trans g23
  have ld24:AF Tryz.prog s4 205 (.ptr (some (n0+1,0)))=some (AT c1):=Ae NO g24 rfl
  have st4:=Cf (P:=Tryz.prog) (t:=205) (o:=0) (v:=AT (c1 / 4294967296)) Oi g24 (by simp) rfl
  simp only[gk]at st4
  generalize hs5:setObj s4 (n0+1) (R 205 0 false [AT (c1 / 4294967296)])=s5 at st4
  have n5:s5.next=s4.next:=by rw[← hs5];rfl
  have f5:∀j,j≠n0+1→s5.heap.get j=s4.heap.get j:=fun j hj=>by rw[← hs5,Ww _ hj]
  have fall:∀j,j<s.next→j ∉ O→j≠n0→j≠n0+1→s5.heap.get j=s1.heap.get j:=fun j hj h1 h2 h3=>by
    rw[f5 j h3,f4 j h2,f3 j (by omega) h1,f2 j h3]
  have l5:BZ s5 (n0+6)=some { J9 v0 v1 v2 x5 x6 x7 x8 x9 x10 n0 x12 x13 with state:=.busy }:=by
    rw[LO (fall (n0+6) (by omega) (fun h=>by have:=hO _ h;omega) (by omega) (by omega))];exact l1
  simp only[Nf,XD,R3,R4,e1,e2,ld2,st2,ld12,ld22,e3,Bd,e11,FQ,Xd,happ',st3,ld24,e15,st4,Xx,Xz,Qa,Qb,Qc,Qd,Qe,Qf,Qg,Qh,Qi,Qj,Qk,Ql,Qm,Qn,true_and,and_true,Qo,Qp,Qq,Qr,Qs,Qt,Qu,Qv,Qw,Qx,Qy,Qz,Ra,Rb,Rc,Rd,Re,Rf,Rg,Rh,Ri,Rj,Rk,Rm,Rn,Ro,Rp,Rq,Rs,Ya,Yb,Yc,Rt,Ru,Za,Yd,Ye,Rx,Ry,Rz,Wa,Wb,Wc,Wd]
  refine⟨_,l5,hK _ ?_⟩
  have fl:∀j,j≠n0+6→∀r,(setObj s5 (n0+6) r).heap.get j=s5.heap.get j:=fun j hj r=>Ww _ hj
  have hlow:∀j,j<n0+6→j≠n0→j≠n0+1→∀r,(setObj s5 (n0+6) r).heap.get j=s.heap.get j:=fun j h1 h2 h3 r=>by
    rw[fl j (by omega),fall j (by omega) (fun h=>by have:=hO _ h;omega) h2 h3,f1 j (by omega)]
  refine⟨pk.trans ⟨?_,fun j hj=>hlow j (by omega) (by omega) (by omega) _,hlow _ (by omega) (by omega) (by omega) _,hlow _ (by omega) (by omega) (by omega) _,hlow _ (by omega) (by omega) (by omega) _⟩,?_,?_,?_,v',d++[z],O',c1 / 4294967296,?_,?_,?_,fun j hj=>?_,fun j hj=>?_,?_,hcq,?_⟩
  · show s.next≤s5.next;omega
  · show n0+7≤s5.next;omega
  · rw[FK];rfl
  · rw[hlow _ (by omega) (by omega) (by omega)];exact hmk
  · rw[fl n0 (by omega),f5 n0 (by omega),← hs4,Wv]
  · rw[fl (n0+1) (by omega),← hs5,Wv]
  · refine hD3.frame (by show s3.next≤s5.next;omega) (fun j hj=>?_)
    have hj7:n0+7≤j:=by
      rcases hsl3 j hj with h | h
      · exact hsl j h
      · omega
    rw[fl j (by omega),f5 j (by omega),f4 j (by omega)]
  · rcases hO3 j hj with h | h
    · exact hO j h
    · omega
  · rcases hsl3 j hj with h | h
    · exact hsl j h
    · omega
  · rw[gI,hdl];rfl
  · rw[gP];exact hT
end
theorem NR.keep{b:Nat}{s s':AE}{v:AV}{l:List Nat}(h:NR b s v l)(hn:s.next≤s'.next)(hf:∀j,C8 v=some j→s'.heap.get j=s.heap.get j):NR b s' v l:=by
 obtain⟨O,h1,h2,h3,h4⟩:=h
 exact⟨O,h1.frame hn hf,h2,h3,fun hne=>by obtain⟨i,q1,q2,q3⟩:=h4 hne;exact⟨i,q1,fy q2 hn,q3.keep (hf i (by rw[q1];rfl))⟩⟩
theorem IR:∀ (M:List Nat)(s:AE),M.Nodup→(∀m∈M,s.heap.get m=some .mark)→∃s',DA s M=some s'∧s'.next=s.next∧∀j,j ∉ M→s'.heap.get j=s.heap.get j
 | [],s,_,_=>⟨s,rfl,rfl,fun _ _=>rfl⟩
 | m::M,s,hn,hm=>by
  obtain⟨n1,n2⟩:=gx.1 hn
  obtain⟨s',h1,h2,h3⟩:=IR M (Bu s m) n2 (fun x hx=>by
   rw[HO,if_neg (fun(e:x=m)=>n1 (e▸hx))];exact hm x (gG _ hx))
  refine⟨s',?_,h2,fun j hj=>?_⟩
  ·show(match s.heap.get m with | some .mark=>DA (Bu s m) M | _=>none)=_
   rw[hm m gC]
   exact h1
  ·rw[h3 j (fun h=>hj (gG _ h)),HO,if_neg (fun(e:j=m)=>hj (e▸gC))]
structure K9(s:AE)(ri:Nat)(vs:List AV)(L:List (List Nat)):Prop where
 row:s.heap.get ri=some (R 59 1 false vs)
 len:vs.length=L.length
 rd:∀ (j:Nat) (v:AV) (l:List Nat),vs[j]? = some v→L[j]? = some l→CW s v l
theorem K9.old{s s':AE}{ri:Nat}{vs:List AV}{L:List (List Nat)}(h:K9 s ri vs L)(k:A8 s.next s s')(hi:ri<s.next):K9 s' ri vs L:=
 ⟨(k.2 ri hi).trans h.row,h.len,fun j v l h1 h2=>(h.rd j v l h1 h2).old k⟩
def F2:List (List Nat)→Nat
 | []=>0
 | l::L=>AD l+F2 L
section
variable{E:Cg}{s:AE}
theorem Y6       (hE : An    E) {sA : AE}  {ri : Nat} {vs : List AV} {L : List (List Nat)} (hri : ri < sA.next) (hLl : L.length ≤ 1000) (hsm : ∀ l ∈ L, BV  l ∧ l.length ≤ 1000000000) {tot : Nat} {Q : Au   → Prop} (x0 : AV)
    (hq:∀ (S:AE) (vD:AV) (D M:List Nat) (y2 y3 y4 y5 y6 y9 y10 y11 y12 y13:AV),A8 sA.next sA S→CW S vD D→BV D→D.length≤2000000000→AD D=tot→M.Nodup→(∀m∈M,sA.next≤m∧m<S.next∧S.heap.get m=some .mark) →
      Q ⟨.exit 0,[x0,vD,y2,y3,y4,y5,y6,.slice (some (ri,0)) L.length (some L.length),iv (L.length:Int),y9,y10,y11,y12,y13],M,S⟩):
    ∀ (r:List (List Nat)) (i:Nat) (S:AE) (vD:AV) (D M:List Nat) (x2 x3 x4 x5 x6 x10 x11 x12 x13:AV),L.drop i=r→i≤L.length→A8 sA.next sA S→K9 S ri vs L→CW S vD D→BV D→D.length≤1000000000+i→AD D+F2 r=tot→M.Nodup→(∀m∈M,sA.next≤m∧m<S.next∧S.heap.get m=some .mark) →
      WC E none (.loop HE) Q [x0,vD,x2,x3,x4,x5,x6,.slice (some (ri,0)) L.length (some L.length),iv (L.length:Int),iv (i:Int),x10,x11,x12,x13] M S:=by
  intro r
  induction r with
  | nil =>
    intro i S vD D M x2 x3 x4 x5 x6 x10 x11 x12 x13 hd hi ho hR hN hs hl hv hM hm
    have e:i=L.length:=by
      have:=congrArg List.length hd
      simp at this
      omega
    subst e
    have dd:decide ((L.length:Int)<(L.length:Int))=false:=decide_eq_false (by omega)
    refine WC.loop' ?_
    simp only[HE,Pd,Rx,dd,Qa,Qb,Qc,Qd,Qe,Qf,Qg,Qh,Qi,Qj,Qk,Ql,Qm,Qn,true_and,and_true,Qo,Qp,Qq,Qr,Qs,Qt,Qu,Qv,Qw,Qx,Qy,Qz,Ra,Rb,Rc,Rd,Re,Rf,Rg,Rh,Ri,Rj,Rk,Rm,Rn,Ro,Rp,Rq,Rs,Ya,Yb,Yc,Rt,Ru,Za,Yd,Ye,Rx,Ry,Rz,Wa,Wb,Wc,Wd]
    exact hq S vD D M _ _ _ _ _ _ _ _ _ _ ho hN hs (by omega) (by simpa[F2]using hv) hM hm
  | cons A r ih =>
    intro i S vD D M x2 x3 x4 x5 x6 x10 x11 x12 x13 hd hi ho hR hN hs hl hv hM hm
    have hlt:i<L.length:=by
      rcases fv i L.length with h' | h'
      · exact h'
      · rw[gt h']at hd;cases hd
    have hA:L[i]? = some A:=by
      have:=congrArg (fun l=>l[0]?) hd
      simpa using this
    have hd':L.drop (i+1)=r:=by
      have:=congrArg (List.drop 1) hd
      simpa[g8]using this
    obtain⟨hAs,hAl⟩:=hsm A (gR hA)
    have hva:vs[i]? = some (vs[i]'(by rw[hR.len];exact hlt)):=f9 _
    generalize vs[i]'(by rw[hR.len];exact hlt)=va at hva
    have hNa:=hR.rd i va A hva hA
    have dd:decide ((i:Int)<(L.length:Int))=true:=decide_eq_true (by omega)
    have e1:=Aw (cap:=some L.length) (i:=ri) (o:=0) Tryz.underlying332 dY hlt
    rw[gA,gB]at e1
    have e2:AF Tryz.prog S 59 (.ptr (some (ri,i)))=some va:=Ae D7 hR.row hva
    generalize hn0:S.next=n0 at *
    have za:Ar Tryz.prog 59=some (R 59 0 false [.slice none 0 (some 0)],.ptr):=by kernel_rfl
    have zc:Ar Tryz.prog 205=some (R 205 0 false [.int .u64 0],.ptr):=by kernel_rfl
    generalize hS1:newObj S (R 59 0 false [.slice none 0 (some 0)])=S1
    have n1:S1.next=n0+1:=by rw[← hS1,← hn0];rfl
    have o1:∀j,j<n0→S1.heap.get j=S.heap.get j:=fun j hj=>by rw[← hS1,AO,if_neg (by omega)]
    have g1:S1.heap.get n0=some (R 59 0 false [.slice none 0 (some 0)]):=by rw[← hS1,AO,if_pos hn0.symm]
    generalize hS2:newObj S1 (R 205 0 false [.int .u64 0])=S2
    have n2:S2.next=n0+2:=by rw[← hS2];show S1.next+1=_;omega
    have g2:S2.heap.get (n0+1)=some (R 205 0 false [.int .u64 0]):=by rw[← hS2,AO,if_pos n1.symm]
    have o2:∀j,j<n0+1→S2.heap.get j=S1.heap.get j:=fun j hj=>by rw[← hS2,AO,if_neg (by omega)]
    have st:=Cf (P:=Tryz.prog) (t:=205) (o:=0) (v:=.int .u64 0) Oi g2 (by simp) rfl
    simp only[gk]at st
    generalize hS3:setObj S2 (n0+1) (R 205 0 false [.int .u64 0])=S3 at st
    have n3:S3.next=n0+2:=by rw[← hS3];exact n2
    have g3:S3.heap.get (n0+1)=some (R 205 0 false [AT 0]):=by rw[← hS3,Wv];rfl
    have o3:∀j,j<n0+1→S3.heap.get j=S1.heap.get j:=fun j hj=>by rw[← hS3,Ww _ (by omega),o2 j hj]
    have o03:A8 n0 S S3:=⟨by omega,fun j hj=>by rw[o3 j (by omega),o1 j hj]⟩
    obtain⟨aD,cD,eD,hcapD,hcD⟩:=hN
    obtain⟨aA,cA,eA,hcapA,hcA⟩:=hNa
    refine WC.loop' ?_
    generalize hW:WC E none (Ab.loop HE) Q=WW
    simp only[HE,Pd,W7,W8,W9,XA,Rx,dd,e1,e2,za,zc,Xb,hn0,hS1,n1,hS2,st,Xx,Xz,Qa,Qb,Qc,Qd,Qe,Qf,Qg,Qh,Qi,Qj,Qk,Ql,Qm,Qn,true_and,and_true,Qo,Qp,Qq,Qr,Qs,Qt,Qu,Qv,Qw,Qx,Qy,Qz,Ra,Rb,Rc,Rd,Re,Rf,Rg,Rh,Ri,Rj,Rk,Rm,Rn,Ro,Rp,Rq,Rs,Ya,Yb,Yc,Rt,Ru,Za,Yd,Ye,Rx,Ry,Rz,Wa,Wb,Wc,Wd]
    refine OG hE (by rw[eD];rfl) (by rw[eA];rfl) fun S4 n4 f4 b1 b2 b3=>?_
    rw[n3]at n4 f4 b1 b2 b3 ⊢
    subst eD;subst eA
    simp only[Qa,Qb,Qc,Qd,Qe,Qf,Qg,Qh,Qi,Qj,Qk,Ql,Qm,Qn,true_and,and_true,Qo,Qp,Qq,Qr,Qs,Qt,Qu,Qv,Qw,Qx,Qy,Qz,Ra,Rb,Rc,Rd,Re,Rf,Rg,Rh,Ri,Rj,Rk,Rm,Rn,Ro,Rp,Rq,Rs,Ya,Yb,Yc,Rt,Ru,Za,Yd,Ye,Rx,Ry,Rz,Wa,Wb,Wc,Wd]
    refine WC.range rfl ?_
    rw[show S4.next=n0+5 by omega]
    show WF E 299 [.yield (n0+6),.ptr (some (n0+2,0)),.ptr (some (n0+2+1,0)),.ptr (some (n0+2+2,0))] _ (newObj (newObj S4 .mark) (.loop (J9 _ _ _ _ _ _ _ _ _ n0 _ _)))
    generalize hlo:J9 _ _ _ _ _ _ _ _ _ n0 _ _=lo
    have hm1:(newObj S4 .mark).next=n0+6:=by show S4.next+1=_;omega
    generalize hs0:newObj (newObj S4 .mark) (.loop lo)=s0
    have n0':s0.next=n0+7:=by rw[← hs0];show S4.next+1+1=_;omega
    have f0:∀j,j<n0+5→s0.heap.get j=S4.heap.get j:=fun j hj=>by rw[← hs0,AO,if_neg (by omega),AO,if_neg (by omega)]
    have hmk0:s0.heap.get (n0+5)=some .mark:=by rw[← hs0,AO,if_neg (by omega),AO,if_pos (by omega)]
    have hlp0:BZ s0 (n0+6)=some lo:=by
      unfold BZ
      rw[← hs0,AO,if_pos hm1.symm]
    have o0:A8 n0 S s0:=⟨by omega,fun j hj=>by rw[f0 j (by omega),f4 j (by omega),o3 j (by omega),o1 j hj]⟩
    have hPl:=KQ D A
    have hPv:=JS (Ba D A) 0
    rw[So,Sq]at hPv
    have hPs:=E6 (Ba D A) 0
    have hPn:=G7 (Ba D A) 0
    refine LZ hE (s0:=s0) (n0:=n0) (p:=n0+2) (l:=n0+6) (la:=D) (lb:=A) (ca:=cD) (cb:=cA) (a:=aD) (b:=aA) (by omega) (by omega) hs hAs ((hcD.old o0 (gV hn0)).mono (gV hn0)) ((hcA.old o0 (gV hn0)).mono (gV hn0)) ((f0 _ (by omega)).trans b1) ((f0 _ (by omega)).trans b2) ((f0 _ (by omega)).trans b3)
      (cP n0 s0 lo (Ba D A) (DS (Ba D A) 0)) (fun k s h=>h.pk) (fun k s K hk hI hK=>by
        subst hlo
        exact Tk hE (by rw[hPl];omega) (KP hk) (GB hs k) (GB hAs k) hI hK)
      ⟨PK.refl _ _ _,by omega,hlp0,hmk0,_,[],[],0,?_,?_,CT.nil s0 1,fun j hj=>(by cases hj),fun j hj=>(by cases hj),rfl,by omega,rfl⟩ (fun v s' hI=>?_)
    · rw[f0 n0 (by omega),f4 n0 (by omega),o3 n0 (by omega)];exact g1
    · rw[f0 (n0+1) (by omega),f4 (n0+1) (by omega)];exact g3
    obtain⟨pk,hlt',hlp,hmk,vo,d,O,c,k1,k2,hD,hO,hsl,hdl,hc,hT⟩:=hI
    rw[gt (by rw[hPl];omega)]at hT
    simp only[DS,iC]at hT
    rw[← hT]at hPv hPs hPn
    simp only at hPv hPs hPn
    refine⟨lo,hlp,by rw[← hlo];rfl,?_⟩
    have hpd:lo.pending=none:=by rw[← hlo];rfl
    rw[hpd]
    generalize hs6:setObj s' (n0+5+1) _=s6
    have n6:s6.next=s'.next:=by rw[← hs6];rfl
    have f6:∀j,j≠n0+6→s6.heap.get j=s'.heap.get j:=fun j hj=>by rw[← hs6,Ww _ (by omega)]
    have hD6:CT 203 s6 vo d.length 1 (us d) O:=hD.frame (gV n6.symm) (fun j hj=>f6 j (by have:=hsl j hj;omega))
    have ld1:AF Tryz.prog s6 59 (.ptr (some (n0,0)))=some vo:=Ae D7 ((f6 n0 (by omega)).trans k1) rfl
    have ld2:AF Tryz.prog s6 205 (.ptr (some (n0+1,0)))=some (AT c):=Ae NO ((f6 (n0+1) (by omega)).trans k2) rfl
    have ec:c % 4294967296=c:=by omega
    obtain⟨v',s7,O',happ,hD7,hn7,f7,hO7,hsl7⟩:=Hb hD6 c (by rw[hdl];omega)
    have happ':A7 Tryz.prog (newObj s6 (R 203 1 false [.int .u32 c])) [59,59] [vo,.slice (some (s6.next,0)) 1 (some 1)]=some (v',s7):=happ
    have e17:=By Tryz.prog 3 (i:Int) 1 ⟨by omega,by omega⟩
    have e17':((i:Int)+1)=((i+1:Nat):Int):=by omega
    simp only[NK,R5,R6,ld1,ld2,Bd,ec,FQ,Xd,happ',e17,e17',Qa,Qb,Qc,Qd,Qe,Qf,Qg,Qh,Qi,Qj,Qk,Ql,Qm,Qn,true_and,and_true,Qo,Qp,Qq,Qr,Qs,Qt,Qu,Qv,Qw,Qx,Qy,Qz,Ra,Rb,Rc,Rd,Re,Rf,Rg,Rh,Ri,Rj,Rk,Rm,Rn,Ro,Rp,Rq,Rs,Ya,Yb,Yc,Rt,Ru,Za,Yd,Ye,Rx,Ry,Rz,Wa,Wb,Wc,Wd]
    rw[← hW]
    have hlow:∀j,j<n0+6→j≠n0→j≠n0+1→(j<n0∨j=n0+5)→s7.heap.get j=s'.heap.get j:=fun j h1 h2 h3 h4=>by
      rw[f7 j (by omega) (fun h=>by have:=hO j h;omega),f6 j (by omega)]
    have oS:A8 n0 S s7:=⟨by omega,fun j hj=>by rw[hlow j (by omega) (by omega) (by omega) (.inl hj),pk.low j hj,o0.2 j hj]⟩
    have ho1:=ho.1
    have oS':A8 S.next S s7:=by rw[hn0];exact oS
    refine ih (i+1) s7 v' (d++[c]) ((n0+5)::M) _ _ _ _ _ _ _ _ _ hd' hlt (ho.trans (oS.mono (by omega))) (hR.old oS' (by omega)) (CT.n32 hD7) ?_ ?_ ?_ ?_ ?_
    · exact hPs.append (fun x hx=>by rw[List.mem_singleton.1 hx];exact gm hc (by decide))
    · rw[gI,hdl]
      show _+1≤_
      omega
    · rw[BA]
      have e3:AD [c]=c:=by simp[AD]
      have hlen:d.length=(Ba D A).length:=by rw[hdl,hPl]
      rw[e3,hlen,hPv,← hv]
      show _=AD D+(AD A+F2 r)
      omega
    · exact gx.2 ⟨fun h=>by have:=(hm _ h).2.1;omega,hM⟩
    · intro m hmm
      rcases hZ.1 hmm with rfl | h
      · exact⟨by omega,by omega,(hlow _ (by omega) (by omega) (by omega) (.inr rfl)).trans hmk⟩
      · obtain⟨q1,q2,q3⟩:=hm m h
        exact⟨q1,by omega,(oS.2 m q2).trans q3⟩
end
section
variable{E:Cg}{s:AE}
theorem dX(hE:An E){ri:Nat}{vs:List AV}{L:List (List Nat)}(hri:ri<s.next)(hR:K9 s ri vs L)(hLl:L.length≤1000)(hsm:∀l∈L,BV l∧l.length≤1000000000){K:AV→AE→Prop}
  (hK:∀s' v,A8 s.next s s'→NR s.next s' v (AI (F2 L))→K v s'):WF E 292 [.slice (some (ri,0)) L.length (some L.length)] K s:=by
 refine hE.go aM (by decide) rfl ?_
 simp only[er,W5,W6,AW Tryz.underlying332,Qa,Qb,Qc,Qd,Qe,Qf,Qg,Qh,Qi,Qj,Qk,Ql,Qm,Qn,true_and,and_true,Qo,Qp,Qq,Qr,Qs,Qt,Qu,Qv,Qw,Qx,Qy,Qz,Ra,Rb,Rc,Rd,Re,Rf,Rg,Rh,Ri,Rj,Rk,Rm,Rn,Ro,Rp,Rq,Rs,Ya,Yb,Yc,Rt,Ru,Za,Yd,Ye,Rx,Ry,Rz,Wa,Wb,Wc,Wd]
 refine Y6 hE hri hLl hsm _ (tot:=F2 L) (fun S vD D M y2 y3 y4 y5 y6 y9 y10 y11 y12 y13 ho hN hs hl hv hM hm=>?_) L 0 s _ [] [] _ _ _ _ _ _ _ _ _ rfl (gF _) (A8.refl _ _) hR (NR.n32 (NR.nil 0 s)) (fun x hx=>by cases hx) (gF _) (by simp[AD]) List.nodup_nil (fun m hm=>by cases hm)
 simp only[R7,if_true,Qa,Qb,Qc,Qd,Qe,Qf,Qg,Qh,Qi,Qj,Qk,Ql,Qm,Qn,true_and,and_true,Qo,Qp,Qq,Qr,Qs,Qt,Qu,Qv,Qw,Qx,Qy,Qz,Ra,Rb,Rc,Rd,Re,Rf,Rg,Rh,Ri,Rj,Rk,Rm,Rn,Ro,Rp,Rq,Rs,Ya,Yb,Yc,Rt,Ru,Za,Yd,Ye,Rx,Ry,Rz,Wa,Wb,Wc,Wd]
 refine Bz hE hN (by omega) fun s2 v2 o2 r2=>?_
 rw[BJ hs,hv]at r2
 obtain⟨s3,u1,u2,u3⟩:=IR M s2 hM (fun m h=>by rw[o2.2 m (hm m h).2.1];exact(hm m h).2.2)
 simp only[u1,Qa,Qb,Qc,Qd,Qe,Qf,Qg,Qh,Qi,Qj,Qk,Ql,Qm,Qn,true_and,and_true,Qo,Qp,Qq,Qr,Qs,Qt,Qu,Qv,Qw,Qx,Qy,Qz,Ra,Rb,Rc,Rd,Re,Rf,Rg,Rh,Ri,Rj,Rk,Rm,Rn,Ro,Rp,Rq,Rs,Ya,Yb,Yc,Rt,Ru,Za,Yd,Ye,Rx,Ry,Rz,Wa,Wb,Wc,Wd]
 have h1:=ho.1
 have h2:=o2.1
 refine hK s3 v2 ⟨by omega,fun j hj=>?_⟩ ((r2.keep (by omega) (fun j hj=>u3 j (fun h=>?_))).mono h1)
 ·rw[u3 j (fun h=>by have:=(hm j h).1;omega),o2.2 j (by omega),ho.2 j hj]
 ·obtain⟨O,_,_,q,_⟩:=r2
  have:=q j hj
  have:=(hm j h).2.1
  omega
theorem Yu(a b:Option (Nat×Nat))(ca cb:Option Nat)(n m:Nat):Ak Tryz.prog 332 2 (zipIdx [0,1] [.slice a n ca,.slice b m cb])=some (R 59 1 false [.slice a n ca,.slice b m cb]):=by kernel_rfl
theorem cQ(hE:An E){va vb:AV}{la lb:List Nat}(ha:CW s va la)(hb:CW s vb lb)(hla:la.length≤1000000000)(hlb:lb.length≤1000000000)(hsa:BV la)(hsb:BV lb){K:AV→AE→Prop}
    (hK:∀s' v,A8 s.next s s'→NR s.next s' v (AI (AD la+AD lb))→K v s'):WF E 280 [va,vb] K s:=by
  refine hE.go aG (by decide) rfl ?_
  have hrow:Ak Tryz.prog 332 2 (zipIdx [0,1] [va,vb])=some (R 59 1 false [va,vb]):=by
    obtain⟨a,ca,rfl,_⟩:=ha
    obtain⟨b,cb,rfl,_⟩:=hb
    exact Yu _ _ _ _ _ _
  have ho:=A8.new s (R 59 1 false [va,vb])
  simp only[eh,WX,WY,hrow,Xd,Qa,Qb,Qc,Qd,Qe,Qf,Qg,Qh,Qi,Qj,Qk,Ql,Qm,Qn,true_and,and_true,Qo,Qp,Qq,Qr,Qs,Qt,Qu,Qv,Qw,Qx,Qy,Qz,Ra,Rb,Rc,Rd,Re,Rf,Rg,Rh,Ri,Rj,Rk,Rm,Rn,Ro,Rp,Rq,Rs,Ya,Yb,Yc,Rt,Ru,Za,Yd,Ye,Rx,Ry,Rz,Wa,Wb,Wc,Wd]
  have hR:K9 (newObj s (R 59 1 false [va,vb])) s.next [va,vb] [la,lb]:=by
    refine⟨by rw[AO,if_pos rfl],rfl,fun j v l h1 h2=>?_⟩
    rcases j with _ | _ | j
    · cases h1;cases h2;exact ha.old ho
    · cases h1;cases h2;exact hb.old ho
    · cases h1
  refine dX hE (L:=[la,lb]) (gY _) hR (by simp) (fun l hl=>?_) fun s' v o' r'=>?_
  · rcases hZ.1            hl with rfl | hl
    · exact⟨hsa,hla⟩
    · rw[List.mem_singleton.1 hl];exact⟨hsb,hlb⟩
  · have e:F2 [la,lb]=AD la+AD lb:=by simp[F2]
    rw[e]at r'
    simp only[Qa,Qb,Qc,Qd,Qe,Qf,Qg,Qh,Qi,Qj,Qk,Ql,Qm,Qn,true_and,and_true,Qo,Qp,Qq,Qr,Qs,Qt,Qu,Qv,Qw,Qx,Qy,Qz,Ra,Rb,Rc,Rd,Re,Rf,Rg,Rh,Ri,Rj,Rk,Rm,Rn,Ro,Rp,Rq,Rs,Ya,Yb,Yc,Rt,Ru,Za,Yd,Ye,Rx,Ry,Rz,Wa,Wb,Wc,Wd]
    exact hK s' v (ho.trans (o'.mono ho.1)) (r'.mono ho.1)
end
def J8 (v0 v1 v2 v3 x6 x7 x8 x9:AV) (n0:Nat) (x11 x12:AV):EN:=
 JF 279 [v0,v1,v2,v3,.ptr (some (n0,0)),.ptr (some (n0+1,0)),x6,x7,x8,x9,.func 299 [] [.ptr (some (n0+2,0)),.ptr (some (n0+2+1,0)),.ptr (some (n0+2+2,0))],x11,x12] #[18,19] MS MT (n0+5)
structure cO(n0:Nat)(s0:AE)(lo:EN)(P:List (Nat×Nat))(T:List Nat×Nat)(k:Nat)(s:AE):Prop where
 pk:PK n0 (n0+2) s0 s
 lt:n0+7≤s.next
 lp:BZ s (n0+6)=some lo
 mrk:s.heap.get (n0+5)=some .mark
 ex:∃vo d O c,s.heap.get n0=some (R 59 0 false [vo])∧s.heap.get (n0+1)=some (R 205 0 false [AT c])∧CT 203 s vo d.length 1 (us d) O∧(∀j∈O,n0+7≤j)∧(∀j,C8 vo=some j→n0+7≤j)∧d.length=k∧c≤1∧(d++(Ef (P.drop k) c).1,(Ef (P.drop k) c).2)=T
section
variable{E:Cg}{s:AE}
theorem Tj(hE:An E){n0:Nat}{s0:AE}{v0 v1 v2 v3 x6 x7 x8 x9 x11 x12:AV}{P:List (Nat×Nat)}(hPl:P.length≤10000000000){T:List Nat×Nat}{k x y:Nat}(hP:P[k]? = some (x,y))(hx:x<4294967296)(hy:y<4294967296)
    (hI:cO n0 s0 (J8 v0 v1 v2 v3 x6 x7 x8 x9 n0 x11 x12) P T k s) {K:AV→AE→Prop} (hK:∀s',cO n0 s0 (J8 v0 v1 v2 v3 x6 x7 x8 x9 n0 x11 x12) P T (k+1) s'→K (.bool true) s'):
    WR E (n0+6) [AT x,AT y] K s:=by
  obtain⟨pk,hlt,hlp,hmk,vo,d,O,c,g1,g2,hD,hO,hsl,hdl,hc,hT⟩:=hI
  have hz:DN (Dg E.P 279) (J8 v0 v1 v2 v3 x6 x7 x8 x9 n0 x11 x12).var [18,19] [AT x,AT y]=some [v0,v1,v2,v3,.ptr (some (n0,0)),.ptr (some (n0+1,0)),x6,x7,x8,x9,.func 299 [] [.ptr (some (n0+2,0)),.ptr (some (n0+2+1,0)),.ptr (some (n0+2+2,0))],AT x,AT y]:=by
    rw[hE.P,Pa];rfl
  refine WR.round hlp hz (by rw[hE.P];exact WJ) (by rw[hE.P];exact WK) ?_
  refine GQ ?_
  simp only[Nb,WS,WT,Qa,Qb,Qc,Qd,Qe,Qf,Qg,Qh,Qi,Qj,Qk,Ql,Qm,Qn,true_and,and_true,Qo,Qp,Qq,Qr,Qs,Qt,Qu,Qv,Qw,Qx,Qy,Qz,Ra,Rb,Rc,Rd,Re,Rf,Rg,Rh,Ri,Rj,Rk,Rm,Rn,Ro,Rp,Rq,Rs,Ya,Yb,Yc,Rt,Ru,Za,Yd,Ye,Rx,Ry,Rz,Wa,Wb,Wc,Wd]
  refine⟨_,hlp,rfl,GQ ?_⟩
  generalize hs1:setObj s (n0+6) _=s1
  have n1:s1.next=s.next:=by rw[← hs1];rfl
  have f1:∀j,j≠n0+6→s1.heap.get j=s.heap.get j:=fun j hj=>by rw[← hs1,Ww _ hj]
  have l1:BZ s1 (n0+6)=some { J8 v0 v1 v2 v3 x6 x7 x8 x9 n0 x11 x12 with state:=.busy }:=by rw[← hs1,FK]
  have g1':=(f1 n0 (by omega)).trans g1
  have g2':=(f1 (n0+1) (by omega)).trans g2
  have hD1:CT 203 s1 vo d.length 1 (us d) O:=hD.frame (gV n1.symm) (fun j hj=>f1 j (by have:=hsl j hj;omega))
  have hdk:P.drop k=(x,y)::P.drop (k+1):=by
    have hk:k<P.length:=(List.getElem?_eq_some_iff.1 hP).1
    rw[gc hk]
    rw[f9 hk]at hP
    rw[Option.some.inj hP]
  have hkP:k<P.length:=(List.getElem?_eq_some_iff.1 hP).1
  rw[hdk]at hT
  simp only[Ef]at hT
  have hLB:LB=4294967296:=rfl
  rw[hLB]at hT
  have e1:=Lq Tryz.prog 205 (a:=x) (b:=y) (by omega)
  have e2:=Lq Tryz.prog 205 (a:=(x+18446744073709551616 - y) % 18446744073709551616) (b:=c) (by omega)
  generalize hc1:((x+18446744073709551616 - y) % 18446744073709551616+18446744073709551616 - c) % 18446744073709551616=c1 at e2
  have hc1b:c1<18446744073709551616:=by rw[← hc1];exact gO _ (by decide)
  have e3:=It Tryz.prog 205 hc1b
  have e11:c1 % 4294967296 % 4294967296=c1 % 4294967296:=iH _ _
  have e12:c1 % 4294967296=(x+4294967296 - y - c) % 4294967296:=by omega
  have e15:AN Tryz.prog .shr 205 (AT c1) (.int .u64 63)=some (AT (c1 / 9223372036854775808)):=Ho Tryz.prog 205 (k:=.u64) (n:=63) (by decide)
  have e14:c1 / 9223372036854775808=if x<y+c then 1 else 0:=by split<;>omega
  rw[← e12,← e14]at hT
  have hcq:c1 / 9223372036854775808≤1:=by omega
  generalize hz:c1 % 4294967296=z at hT e3 e11
  generalize hbq:c1 / 9223372036854775808=bq at hT e15 hcq
  have ld2:AF Tryz.prog s1 205 (.ptr (some (n0+1,0)))=some (AT c):=Ae NO g2' rfl
  have ld12:AF Tryz.prog s1 59 (.ptr (some (n0,0)))=some vo:=Ae D7 g1' rfl
  obtain⟨v',s3,O',happ,hD3,hn3,f3,hO3,hsl3⟩:=Hb hD1 z (by omega)
  have happ':A7 Tryz.prog (newObj s1 (R 203 1 false [.int .u32 z])) [59,59] [vo,.slice (some (s1.next,0)) 1 (some 1)]=some (v',s3):=happ
  have g13:s3.heap.get n0=some (R 59 0 false [vo]):=(f3 n0 (by omega) (fun h=>by have:=hO n0 h;omega)).trans g1'
  have g23:s3.heap.get (n0+1)=some (R 205 0 false [AT c]):=(f3 (n0+1) (by omega) (fun h=>by have:=hO _ h;omega)).trans g2'
  have hv'c:v'.isCell=true:=by obtain⟨a,cap,rfl,_⟩:=hD3.cells;rfl
  have st3:=Cf (P:=Tryz.prog) (t:=59) (o:=0) (v:=v') dY g13 (by simp) hv'c
  simp only[gk]at st3
  generalize hs4:setObj s3 n0 (R 59 0 false [v'])=s4 at st3
  have n4:s4.next=s3.next:=by rw[← hs4];rfl
  have f4:∀j,j≠n0→s4.heap.get j=s3.heap.get j:=fun j hj=>by rw[← hs4,Ww _ hj]
  have g24:=(f4 (n0+1) (by omega)).trans g23
  have st4:=Cf (P:=Tryz.prog) (t:=205) (o:=0) (v:=AT bq) Oi g24 (by simp) rfl
  simp only[gk]at st4
  generalize hs5:setObj s4 (n0+1) (R 205 0 false [AT bq])=s5 at st4
  have n5:s5.next=s4.next:=by rw[← hs5];rfl
  have f5:∀j,j≠n0+1→s5.heap.get j=s4.heap.get j:=fun j hj=>by rw[← hs5,Ww _ hj]
  have fall:∀j,j<s.next→j ∉ O→j≠n0→j≠n0+1→s5.heap.get j=s1.heap.get j:=fun j hj h1 h2 h3=>by
    rw[f5 j h3,f4 j h2,f3 j (by omega) h1]
  have l5:BZ s5 (n0+6)=some { J8 v0 v1 v2 v3 x6 x7 x8 x9 n0 x11 x12 with state:=.busy }:=by
    rw[LO (fall (n0+6) (by omega) (fun h=>by have:=hO _ h;omega) (by omega) (by omega))];exact l1
  simp only[Nc,WU,WV,Rw,e1,e2,ld2,ld12,e3,Bd,e11,FQ,Xd,happ',st3,e15,st4,Xx,Xz,Qa,Qb,Qc,Qd,Qe,Qf,Qg,Qh,Qi,Qj,Qk,Ql,Qm,Qn,true_and,and_true,Qo,Qp,Qq,Qr,Qs,Qt,Qu,Qv,Qw,Qx,Qy,Qz,Ra,Rb,Rc,Rd,Re,Rf,Rg,Rh,Ri,Rj,Rk,Rm,Rn,Ro,Rp,Rq,Rs,Ya,Yb,Yc,Rt,Ru,Za,Yd,Ye,Rx,Ry,Rz,Wa,Wb,Wc,Wd]
  refine⟨_,l5,hK _ ?_⟩
  have fl:∀j,j≠n0+6→∀r,(setObj s5 (n0+6) r).heap.get j=s5.heap.get j:=fun j hj r=>Ww _ hj
  have hlow:∀j,j<n0+6→j≠n0→j≠n0+1→∀r,(setObj s5 (n0+6) r).heap.get j=s.heap.get j:=fun j h1 h2 h3 r=>by
    rw[fl j (by omega),fall j (by omega) (fun h=>by have:=hO _ h;omega) h2 h3,f1 j (by omega)]
  refine⟨pk.trans ⟨?_,fun j hj=>hlow j (by omega) (by omega) (by omega) _,hlow _ (by omega) (by omega) (by omega) _,hlow _ (by omega) (by omega) (by omega) _,hlow _ (by omega) (by omega) (by omega) _⟩,?_,?_,?_,v',d++[z],O',bq,?_,?_,?_,fun j hj=>?_,fun j hj=>?_,?_,hcq,?_⟩
  · show s.next≤s5.next;omega
  · show n0+7≤s5.next;omega
  · rw[FK];rfl
  · rw[hlow _ (by omega) (by omega) (by omega)];exact hmk
  · rw[fl n0 (by omega),f5 n0 (by omega),← hs4,Wv]
  · rw[fl (n0+1) (by omega),← hs5,Wv]
  · refine hD3.frame (by show s3.next≤s5.next;omega) (fun j hj=>?_)
    have hj7:n0+7≤j:=by
      rcases hsl3 j hj with h | h
      · exact hsl j h
      · omega
    rw[fl j (by omega),f5 j (by omega),f4 j (by omega)]
  · rcases hO3 j hj with h | h
    · exact hO j h
    · omega
  · rcases hsl3 j hj with h | h
    · exact hsl j h
    · omega
  · rw[gI,hdl];rfl
  · rw[gP];exact hT
end
theorem Kn:∀ (P:List (Nat×Nat))(c:Nat),(Ef P c).1.length=P.length
 | [],_=>rfl
 | p::P,c=>by show(Ef P _).1.length+1=P.length+1;rw[Kn P]
theorem G4:∀ (P:List (Nat×Nat))(c:Nat),BV (Ef P c).1
 | [],_=>fun x hx=>by cases hx
 | p::P,c=>fun x hx=>by
  rcases hZ.1 (show x∈(p.1+LB - p.2 - c) % LB::(Ef P (if p.1<p.2+c then 1 else 0)).1 from hx)with e | e
  ·rw[e];exact gO _ A3
  ·exact G4 P _ x e
theorem Y4{a b:List Nat}(ha:BV a)(hb:BV b)(h:AD b≤AD a):AD (Ef (Ba a b) 0).1=AD a - AD b:=by
 have h1:=Og (Ba a b) 0 (TV ha hb) (gF _)
 have h2:=CF (G4 (Ba a b) 0)
 rw[So,Sq,gJ]at h1
 rw[Kn]at h2
 generalize AD (Ef (Ba a b) 0).1=z at *
 generalize (Ef (Ba a b) 0).2=c at *
 cases c with
 | zero=>rw[gn]at h1;omega
 | succ c =>
  rw[Nat.mul_succ]at h1
  generalize LB ^ (Ba a b).length=w at *
  generalize w * c=q at *
  omega
theorem R9(a b:Nat):decide (GR a b<0)=decide (a<b):=by
 unfold GR
 by_cases h:a<b
 ·rw[if_pos h];simp[h]
 ·rw[if_neg h]
  split<;>simp[h]
section
variable{E:Cg}{s:AE}
theorem Y5     (hE : An    E) {va vb : AV} {la lb : List Nat} (ha : CW  s va la) (hb : CW  s vb lb) (hla : la.length ≤ 1000000000) (hlb : lb.length ≤ 1000000000) (hsa : BV  la) (hsb : BV  lb) {K : AV → AE  → Prop}
    (hK0:AD la<AD lb→∀s',A8 s.next s s'→K (.tuple [.slice none 0 (some 0),.bool false]) s')
    (hK1:AD lb≤AD la→∀s' v,A8 s.next s s'→NR s.next s' v (AI (AD la - AD lb))→K (.tuple [v,.bool true]) s'):WF E 279 [va,vb] K s:=by
  refine hE.go aF (by decide) rfl ?_
  simp only[eg,WL,WM,Qa,Qb,Qc,Qd,Qe,Qf,Qg,Qh,Qi,Qj,Qk,Ql,Qm,Qn,true_and,and_true,Qo,Qp,Qq,Qr,Qs,Qt,Qu,Qv,Qw,Qx,Qy,Qz,Ra,Rb,Rc,Rd,Re,Rf,Rg,Rh,Ri,Rj,Rk,Rm,Rn,Ro,Rp,Rq,Rs,Ya,Yb,Yc,Rt,Ru,Za,Yd,Ye,Rx,Ry,Rz,Wa,Wb,Wc,Wd]
  refine XM hE ha hb (by omega) (by omega) hsa hsb fun S oS=>?_
  by_cases hlt:AD la<AD lb
  · have d1:decide (AD la<AD lb)=true:=decide_eq_true hlt
    simp only[WN,Rx,R9,d1,Qa,Qb,Qc,Qd,Qe,Qf,Qg,Qh,Qi,Qj,Qk,Ql,Qm,Qn,true_and,and_true,Qo,Qp,Qq,Qr,Qs,Qt,Qu,Qv,Qw,Qx,Qy,Qz,Ra,Rb,Rc,Rd,Re,Rf,Rg,Rh,Ri,Rj,Rk,Rm,Rn,Ro,Rp,Rq,Rs,Ya,Yb,Yc,Rt,Ru,Za,Yd,Ye,Rx,Ry,Rz,Wa,Wb,Wc,Wd]
    exact hK0 hlt S oS
  · have d1 : decide (AD   la < AD   lb) = false := decide_eq_false hlt
    have hNa:=ha.old oS
    have hNb:=hb.old oS
    have hSn:=oS.1
    generalize hn0:S.next=n0 at *
    have za:Ar Tryz.prog 59=some (R 59 0 false [.slice none 0 (some 0)],.ptr):=by kernel_rfl
    have zc:Ar Tryz.prog 205=some (R 205 0 false [.int .u64 0],.ptr):=by kernel_rfl
    generalize hS1:newObj S (R 59 0 false [.slice none 0 (some 0)])=S1
    have n1:S1.next=n0+1:=by rw[← hS1,← hn0];rfl
    have o1:∀j,j<n0→S1.heap.get j=S.heap.get j:=fun j hj=>by rw[← hS1,AO,if_neg (by omega)]
    have g1:S1.heap.get n0=some (R 59 0 false [.slice none 0 (some 0)]):=by rw[← hS1,AO,if_pos hn0.symm]
    generalize hS2:newObj S1 (R 205 0 false [.int .u64 0])=S2
    have n2:S2.next=n0+2:=by rw[← hS2];show S1.next+1=_;omega
    have g2:S2.heap.get (n0+1)=some (R 205 0 false [.int .u64 0]):=by rw[← hS2,AO,if_pos n1.symm]
    have o2:∀j,j<n0+1→S2.heap.get j=S1.heap.get j:=fun j hj=>by rw[← hS2,AO,if_neg (by omega)]
    have st:=Cf (P:=Tryz.prog) (t:=205) (o:=0) (v:=.int .u64 0) Oi g2 (by simp) rfl
    simp only[gk]at st
    generalize hS3:setObj S2 (n0+1) (R 205 0 false [.int .u64 0])=S3 at st
    have n3:S3.next=n0+2:=by rw[← hS3];exact n2
    have g3:S3.heap.get (n0+1)=some (R 205 0 false [AT 0]):=by rw[← hS3,Wv];rfl
    have o3:∀j,j<n0+1→S3.heap.get j=S1.heap.get j:=fun j hj=>by rw[← hS3,Ww _ (by omega),o2 j hj]
    obtain⟨aA,cA,eA,hcapA,hcA⟩:=hNa
    obtain⟨aB,cB,eB,hcapB,hcB⟩:=hNb
    simp only[WO,WP,WQ,Rx,R9,d1,za,zc,Xb,hn0,hS1,n1,hS2,st,Xx,Xz,Qa,Qb,Qc,Qd,Qe,Qf,Qg,Qh,Qi,Qj,Qk,Ql,Qm,Qn,true_and,and_true,Qo,Qp,Qq,Qr,Qs,Qt,Qu,Qv,Qw,Qx,Qy,Qz,Ra,Rb,Rc,Rd,Re,Rf,Rg,Rh,Ri,Rj,Rk,Rm,Rn,Ro,Rp,Rq,Rs,Ya,Yb,Yc,Rt,Ru,Za,Yd,Ye,Rx,Ry,Rz,Wa,Wb,Wc,Wd]
    refine OG hE (by rw[eA];rfl) (by rw[eB];rfl) fun S4 n4 f4 b1 b2 b3=>?_
    rw[n3]at n4 f4 b1 b2 b3 ⊢
    subst eA;subst eB
    simp only[Qa,Qb,Qc,Qd,Qe,Qf,Qg,Qh,Qi,Qj,Qk,Ql,Qm,Qn,true_and,and_true,Qo,Qp,Qq,Qr,Qs,Qt,Qu,Qv,Qw,Qx,Qy,Qz,Ra,Rb,Rc,Rd,Re,Rf,Rg,Rh,Ri,Rj,Rk,Rm,Rn,Ro,Rp,Rq,Rs,Ya,Yb,Yc,Rt,Ru,Za,Yd,Ye,Rx,Ry,Rz,Wa,Wb,Wc,Wd]
    refine WC.range rfl ?_
    rw[show S4.next=n0+5 by omega]
    show WF E 299 [.yield (n0+6),.ptr (some (n0+2,0)),.ptr (some (n0+2+1,0)),.ptr (some (n0+2+2,0))] _ (newObj (newObj S4 .mark) (.loop (J8 _ _ _ _ _ _ _ _ n0 _ _)))
    generalize hlo:J8 _ _ _ _ _ _ _ _ n0 _ _=lo
    have hm1:(newObj S4 .mark).next=n0+6:=by show S4.next+1=_;omega
    generalize hs0:newObj (newObj S4 .mark) (.loop lo)=s0
    have n0':s0.next=n0+7:=by rw[← hs0];show S4.next+1+1=_;omega
    have f0:∀j,j<n0+5→s0.heap.get j=S4.heap.get j:=fun j hj=>by rw[← hs0,AO,if_neg (by omega),AO,if_neg (by omega)]
    have hmk0:s0.heap.get (n0+5)=some .mark:=by rw[← hs0,AO,if_neg (by omega),AO,if_pos (by omega)]
    have hlp0:BZ s0 (n0+6)=some lo:=by
      unfold BZ
      rw[← hs0,AO,if_pos hm1.symm]
    have o0:A8 n0 S s0:=⟨by omega,fun j hj=>by rw[f0 j (by omega),f4 j (by omega),o3 j (by omega),o1 j hj]⟩
    have hPl:=KQ la lb
    have hPv:=Y4 hsa hsb (by omega)
    have hPs:=G4 (Ba la lb) 0
    have hPn:=Kn (Ba la lb) 0
    refine LZ hE (s0:=s0) (n0:=n0) (p:=n0+2) (l:=n0+6) (la:=la) (lb:=lb) (ca:=cA) (cb:=cB) (a:=aA) (b:=aB) (by omega) (by omega) hsa hsb ((hcA.old o0 (gV hn0)).mono (gV hn0)) ((hcB.old o0 (gV hn0)).mono (gV hn0)) ((f0 _ (by omega)).trans b1) ((f0 _ (by omega)).trans b2) ((f0 _ (by omega)).trans b3)
      (cO n0 s0 lo (Ba la lb) (Ef (Ba la lb) 0)) (fun k s h=>h.pk) (fun k s K hk hI hK=>by
        subst hlo
        exact Tj hE (by rw[hPl];omega) (KP hk) (GB hsa k) (GB hsb k) hI hK)
      ⟨PK.refl _ _ _,by omega,hlp0,hmk0,_,[],[],0,?_,?_,CT.nil s0 1,fun j hj=>(by cases hj),fun j hj=>(by cases hj),rfl,by omega,rfl⟩ (fun v s' hI=>?_)
    · rw[f0 n0 (by omega),f4 n0 (by omega),o3 n0 (by omega)];exact g1
    · rw[f0 (n0+1) (by omega),f4 (n0+1) (by omega)];exact g3
    obtain⟨pk,hlt',hlp,hmk,vo,d,O,c,k1,k2,hD,hO,hsl,hdl,hc,hT⟩:=hI
    rw[gt (by rw[hPl];omega)]at hT
    simp only[Ef,iC]at hT
    rw[← hT]at hPv hPs hPn
    simp only at hPv hPs hPn
    refine⟨lo,hlp,by rw[← hlo];rfl,?_⟩
    have hpd:lo.pending=none:=by rw[← hlo];rfl
    rw[hpd]
    generalize hs6:setObj s' (n0+5+1) _=s6
    have n6:s6.next=s'.next:=by rw[← hs6];rfl
    have f6:∀j,j≠n0+6→s6.heap.get j=s'.heap.get j:=fun j hj=>by rw[← hs6,Ww _ (by omega)]
    have hD6:CT 203 s6 vo d.length 1 (us d) O:=hD.frame (gV n6.symm) (fun j hj=>f6 j (by have:=hsl j hj;omega))
    have ld1:AF Tryz.prog s6 59 (.ptr (some (n0,0)))=some vo:=Ae D7 ((f6 n0 (by omega)).trans k1) rfl
    simp only[NK,R0,ld1,Qa,Qb,Qc,Qd,Qe,Qf,Qg,Qh,Qi,Qj,Qk,Ql,Qm,Qn,true_and,and_true,Qo,Qp,Qq,Qr,Qs,Qt,Qu,Qv,Qw,Qx,Qy,Qz,Ra,Rb,Rc,Rd,Re,Rf,Rg,Rh,Ri,Rj,Rk,Rm,Rn,Ro,Rp,Rq,Rs,Ya,Yb,Yc,Rt,Ru,Za,Yd,Ye,Rx,Ry,Rz,Wa,Wb,Wc,Wd]
    have hN:CW s6 vo d:=CT.n32 hD6
    refine Bz hE hN (by rw[hdl];omega) fun s7 v7 o7 r7=>?_
    rw[BJ hPs,hPv]at r7
    have g7:=o7.1
    obtain⟨s8,u1,u2,u3⟩:=IR [n0+5] s7 (by simp) (fun m h=>by
      rw[List.mem_singleton.1 h,o7.2 _ (by omega),f6 _ (by omega)];exact hmk)
    simp only[u1,Qa,Qb,Qc,Qd,Qe,Qf,Qg,Qh,Qi,Qj,Qk,Ql,Qm,Qn,true_and,and_true,Qo,Qp,Qq,Qr,Qs,Qt,Qu,Qv,Qw,Qx,Qy,Qz,Ra,Rb,Rc,Rd,Re,Rf,Rg,Rh,Ri,Rj,Rk,Rm,Rn,Ro,Rp,Rq,Rs,Ya,Yb,Yc,Rt,Ru,Za,Yd,Ye,Rx,Ry,Rz,Wa,Wb,Wc,Wd]
    refine hK1 (by omega) s8 v7 ⟨by omega,fun j hj=>?_⟩ ((r7.keep (by omega) (fun j hj=>u3 j (fun h=>?_))).mono (by omega))
    · rw[u3 j (fun h=>by rw[List.mem_singleton.1 h]at hj;omega),o7.2 j (by omega),f6 j (by omega),pk.low j (by omega),o0.2 j (by omega),oS.2 j hj]
    · obtain⟨O,_,_,q,_⟩:=r7
      have:=q j hj
      rw[List.mem_singleton.1 h]at this
      omega
end
end
end Go.Proofs.YtfgmceookgelcaaGreatDoor.Am
set_option linter.unusedVariables false
set_option linter.unusedSimpArgs false
set_option maxRecDepth 100000
namespace Go.Proofs.YtfgmceookgelcaaGreatDoor.Am
open Go Go.Proofs
noncomputable section
theorem CH:A2 Tryz.prog 61=some 2:=by kernel_rfl
theorem DY:EM Tryz.prog 61=some true:=by kernel_rfl
theorem Db(i o:Nat):AP Tryz.prog 61 (.ptr (some (i,o))) 0=some (.ptr (some (i,o+0))):=by kernel_rfl
theorem EX(i o:Nat):AP Tryz.prog 61 (.ptr (some (i,o))) 1=some (.ptr (some (i,o+1))):=by kernel_rfl
def O8:List AC:=[
 ⟨none,.mk (fun l=>match l with | []=>Ar Tryz.prog 61 | _=>none),[],(.set 2),[]⟩]
def O9:List AC:=[
 ⟨none,.p1 some,[.var 1],.push,[]⟩,
 ⟨none,.call 208,[.loc 0],.push,[]⟩,
 ⟨none,.p1 some,[.loc 0],(.set 1),[]⟩]
def JY:List AC:=[
 ⟨(some ((.var 0),true)),.p1 some,[.var 1],.push,[]⟩,
 ⟨(some ((.var 0),true)),.r (fun s l=>match l with | [x]=>Bk Tryz.prog s 59 x | _=>none),[.loc 0],.push,[]⟩,
 ⟨(some ((.var 0),true)),.p2 (AN Tryz.prog .gtr 3),[(.loc 0),(.const (.int .i64 (0)))],.push,[]⟩,
 ⟨none,.p Rt,[(.var 0),(.loc 0),(.const (.bool false))],.push,[]⟩,
 ⟨none,.p (fun l=>FA Tryz.prog 61 (zipIdx [0,1] l)),[.loc 0,.var 1],.push,[]⟩,
 ⟨none,.e (fun s=>Xx (fun a x=>Xz (AZ Tryz.prog s 61 a x))),[.var 2,.loc 0],.push,[]⟩]
def cV:Ay:=⟨2,3,(.seq (.ops O8) (.seq (.ops O9) (.seq (.ops JY) .ret))),[((.var 2),some 61)]⟩
def Va:List AC:=[
 ⟨none,.mk (fun l=>match l with | [v]=>Cr 61 v | _=>none),[.var 0],(.set 1),[]⟩,
 ⟨none,.mk (fun l=>match l with | []=>Ar Tryz.prog 61 | _=>none),[],(.set 2),[]⟩]
def Vb:List AC:=[
 ⟨none,.p1 (fun x=>AP Tryz.prog 61 x 0),[.var 1],.push,[]⟩,
 ⟨none,.r1 (fun s a=>AF Tryz.prog s 4 a),[.loc 0],.push,[]⟩,
 ⟨none,.p1 (fun x=>AP Tryz.prog 61 x 1),[.var 1],.push,[]⟩,
 ⟨none,.r1 (fun s a=>AF Tryz.prog s 59 a),[.loc 0],.push,[]⟩,
 ⟨none,.call 164,[.loc 2,.loc 0],.push,[]⟩,
 ⟨none,.e (fun s=>Xx (fun a x=>Xz (AZ Tryz.prog s 61 a x))),[.var 2,.loc 0],.push,[]⟩]
def eQ:Ay:=⟨1,3,(.seq (.ops Va) (.seq (.ops Vb) .ret)),[((.var 2),some 61)]⟩
def Wp:List AC:=[
 ⟨none,.mk (fun l=>match l with | [v]=>Cr 61 v | _=>none),[.var 0],(.set 2),[]⟩,
 ⟨none,.mk (fun l=>match l with | [v]=>Cr 61 v | _=>none),[.var 1],(.set 3),[]⟩,
 ⟨none,.mk (fun l=>match l with | []=>Ar Tryz.prog 61 | _=>none),[],(.set 4),[]⟩]
def Wq:List AC:=[
 ⟨none,.r1 (fun s a=>AF Tryz.prog s 61 a),[.var 2],.push,[]⟩,
 ⟨none,.r1 (fun s a=>AF Tryz.prog s 61 a),[.var 3],.push,[]⟩,
 ⟨none,.call 218,[.loc 1],.push,[⟨none,.r1 (fun s a=>AF Tryz.prog s 61 a),[.var 3],(.loc 1)⟩]⟩,
 ⟨none,.call 218,[.loc 1],.push,[]⟩,
 ⟨none,.e (fun s=>Xx (fun a x=>Xz (AZ Tryz.prog s 61 a x))),[.var 2,.loc 1],.push,[]⟩,
 ⟨none,.e (fun s=>Xx (fun a x=>Xz (AZ Tryz.prog s 61 a x))),[.var 3,.loc 1],.push,[]⟩]
def Pb:List AC:=[
 ⟨none,.p1 (fun x=>AP Tryz.prog 61 x 0),[.var 2],.push,[]⟩,
 ⟨none,.r1 (fun s a=>AF Tryz.prog s 4 a),[.loc 0],.push,[]⟩,
 ⟨none,.p1 (fun x=>AP Tryz.prog 61 x 0),[.var 3],.push,[]⟩,
 ⟨none,.r1 (fun s a=>AF Tryz.prog s 4 a),[.loc 0],.push,[]⟩,
 ⟨none,.p2 (AN Tryz.prog .eql 4),[.loc 2,.loc 0],(.set 8),[]⟩]
def Ws:List AC:=[
 ⟨none,.p1 (fun x=>AP Tryz.prog 61 x 0),[.var 2],.push,[]⟩,
 ⟨none,.r1 (fun s a=>AF Tryz.prog s 4 a),[.loc 0],.push,[]⟩,
 ⟨none,.p1 (fun x=>AP Tryz.prog 61 x 1),[.var 2],.push,[]⟩,
 ⟨none,.r1 (fun s a=>AF Tryz.prog s 59 a),[.loc 0],.push,[]⟩,
 ⟨none,.p1 (fun x=>AP Tryz.prog 61 x 1),[.var 3],.push,[]⟩,
 ⟨none,.r1 (fun s a=>AF Tryz.prog s 59 a),[.loc 0],.push,[]⟩,
 ⟨none,.call 280,[.loc 2,.loc 0],.push,[⟨none,.r1 (fun s a=>AF Tryz.prog s 4 a),[.loc 6],(.loc 5)⟩]⟩,
 ⟨none,.call 164,[.loc 5,.loc 0],.push,[]⟩,
 ⟨none,.e (fun s=>Xx (fun a x=>Xz (AZ Tryz.prog s 61 a x))),[.var 4,.loc 0],.push,[]⟩]
def Wt:List AC:=[
 ⟨none,.p1 (fun x=>AP Tryz.prog 61 x 1),[.var 2],.push,[]⟩,
 ⟨none,.r1 (fun s a=>AF Tryz.prog s 59 a),[.loc 0],.push,[]⟩,
 ⟨none,.p1 (fun x=>AP Tryz.prog 61 x 1),[.var 3],.push,[]⟩,
 ⟨none,.r1 (fun s a=>AF Tryz.prog s 59 a),[.loc 0],.push,[]⟩,
 ⟨none,.call 279,[.loc 2,.loc 0],.push,[]⟩,
 ⟨none,.p1 (fun x=>Za x 0),[.loc 0],.push,[]⟩,
 ⟨none,.p1 (fun x=>Za x 1),[.loc 1],.push,[]⟩,
 ⟨none,.p1 some,[.loc 1],(.set 5),[]⟩,
 ⟨none,.p1 some,[.loc 0],(.set 6),[]⟩]
def Pc:List AC:=[
 ⟨none,.p1 some,[.var 6],(.set 9),[]⟩]
def Wu:List AC:=[
 ⟨none,.p1 (fun x=>AP Tryz.prog 61 x 0),[.var 2],.push,[]⟩,
 ⟨none,.r1 (fun s a=>AF Tryz.prog s 4 a),[.loc 0],.push,[]⟩,
 ⟨none,.call 164,[.loc 0,.var 5],.push,[]⟩,
 ⟨none,.e (fun s=>Xx (fun a x=>Xz (AZ Tryz.prog s 61 a x))),[.var 4,.loc 0],.push,[]⟩]
def Wx:List AC:=[
 ⟨none,.p1 (fun x=>AP Tryz.prog 61 x 1),[.var 3],.push,[]⟩,
 ⟨none,.r1 (fun s a=>AF Tryz.prog s 59 a),[.loc 0],.push,[]⟩,
 ⟨none,.p1 (fun x=>AP Tryz.prog 61 x 1),[.var 2],.push,[]⟩,
 ⟨none,.r1 (fun s a=>AF Tryz.prog s 59 a),[.loc 0],.push,[]⟩,
 ⟨none,.call 279,[.loc 2,.loc 0],.push,[]⟩,
 ⟨none,.p1 (fun x=>Za x 0),[.loc 0],.push,[]⟩,
 ⟨none,.p1 (fun x=>Za x 1),[.loc 1],.push,[]⟩,
 ⟨none,.p1 some,[.loc 1],(.set 7),[]⟩,
 ⟨none,.p1 some,[.loc 0],.push,[]⟩]
def Wy:List AC:=[
 ⟨none,.p1 (fun x=>AP Tryz.prog 61 x 0),[.var 3],.push,[]⟩,
 ⟨none,.r1 (fun s a=>AF Tryz.prog s 4 a),[.loc 0],.push,[]⟩,
 ⟨none,.call 164,[.loc 0,.var 7],.push,[]⟩,
 ⟨none,.e (fun s=>Xx (fun a x=>Xz (AZ Tryz.prog s 61 a x))),[.var 4,.loc 0],.push,[]⟩]
def ep:Ay:=⟨2,10,(.seq (.ops Wp) (.seq (.ops Wq) (.seq (.seq (.ops Pb) (.cond (.var 8)
 (.seq (.ops Ws) .ret)
 .skip)) (.seq (.seq (.ops Wt) (.seq (.ops Pc) (.cond (.var 9)
 (.seq (.ops Wu) .ret)
 .skip))) (.seq (.ops Wx) (.seq (.ops Wy) .ret)))))),[((.var 4),some 61)]⟩
def WG:List AC:=[
 ⟨none,.mk (fun l=>match l with | [v]=>Cr 61 v | _=>none),[.var 0],(.set 2),[]⟩,
 ⟨none,.mk (fun l=>match l with | [v]=>Cr 61 v | _=>none),[.var 1],(.set 3),[]⟩,
 ⟨none,.mk (fun l=>match l with | []=>Ar Tryz.prog 61 | _=>none),[],(.set 4),[]⟩]
def WH:List AC:=[
 ⟨none,.p1 (fun x=>AP Tryz.prog 61 x 0),[.var 2],.push,[]⟩,
 ⟨none,.r1 (fun s a=>AF Tryz.prog s 4 a),[.loc 0],.push,[]⟩,
 ⟨none,.p1 (fun x=>AP Tryz.prog 61 x 0),[.var 3],.push,[]⟩,
 ⟨none,.r1 (fun s a=>AF Tryz.prog s 4 a),[.loc 0],.push,[]⟩,
 ⟨none,.p2 (AN Tryz.prog .neq 4),[.loc 2,.loc 0],.push,[]⟩,
 ⟨none,.p1 (fun x=>AP Tryz.prog 61 x 1),[.var 2],.push,[]⟩,
 ⟨none,.r1 (fun s a=>AF Tryz.prog s 59 a),[.loc 0],.push,[]⟩,
 ⟨none,.p1 (fun x=>AP Tryz.prog 61 x 1),[.var 3],.push,[]⟩,
 ⟨none,.r1 (fun s a=>AF Tryz.prog s 59 a),[.loc 0],.push,[]⟩,
 ⟨none,.call 172,[.loc 2,.loc 0],.push,[⟨none,.r1 (fun s a=>AF Tryz.prog s 4 a),[.loc 7],(.loc 6)⟩,⟨none,.r1 (fun s a=>AF Tryz.prog s 4 a),[.loc 9],(.loc 8)⟩]⟩,
 ⟨none,.call 164,[.loc 5,.loc 0],.push,[]⟩,
 ⟨none,.e (fun s=>Xx (fun a x=>Xz (AZ Tryz.prog s 61 a x))),[.var 4,.loc 0],.push,[]⟩]
def ef:Ay:=⟨2,5,(.seq (.ops WG) (.seq (.ops WH) .ret)),[((.var 4),some 61)]⟩
def V8:List AC:=[
 ⟨none,.mk (fun l=>match l with | [v]=>Cr 61 v | _=>none),[.var 0],(.set 3),[]⟩,
 ⟨none,.mk (fun l=>match l with | []=>Ar Tryz.prog 61 | _=>none),[],(.set 4),[]⟩]
def V9:List AC:=[
 ⟨none,.p1 some,[.var 1],(.set 6),[]⟩,
 ⟨none,.r (fun s l=>match l with | [x]=>Bk Tryz.prog s 304 x | _=>none),[.var 6],(.set 7),[]⟩,
 ⟨none,.p1 some,[(.const (.int .i64 (0)))],(.set 8),[]⟩]
def PZ:List AC:=[
 ⟨none,.p2 (AN Tryz.prog .lss 3),[.var 8,.var 7],(.set 9),[]⟩]
def WA:List AC:=[
 ⟨none,.p2 (AQ Tryz.prog 304),[.var 6,.var 8],.push,[]⟩,
 ⟨none,.r1 (fun s a=>AF Tryz.prog s 61 a),[.loc 0],.push,[]⟩,
 ⟨none,.mk (fun l=>match l with | []=>Ar Tryz.prog 61 | _=>none),[],(.set 5),[]⟩,
 ⟨none,.e (fun s=>Xx (fun a x=>Xz (AZ Tryz.prog s 61 a x))),[.var 5,.loc 0],.push,[]⟩]
def WB:List AC:=[
 ⟨none,.r1 (fun s a=>AF Tryz.prog s 61 a),[.var 3],.push,[]⟩,
 ⟨none,.r1 (fun s a=>AF Tryz.prog s 61 a),[.var 5],.push,[]⟩,
 ⟨none,.callv,[.var 2,.loc 1,.loc 0],.push,[]⟩,
 ⟨none,.e (fun s=>Xx (fun a x=>Xz (AZ Tryz.prog s 61 a x))),[.var 3,.loc 0],.push,[]⟩]
def WD:List AC:=[
 ⟨none,.p2 (AN Tryz.prog .add 3),[(.var 8),(.const (.int .i64 (1)))],.push,[]⟩,
 ⟨none,.p1 some,[.loc 0],(.set 8),[]⟩]
def Hz:Ab:=(.seq (.ops PZ) (.seq (.cond (.var 9)
 .skip
 (.exit 0)) (.seq (.block 1 (.seq (.ops WA) (.ops WB))) (.ops WD))))
def WE:List AC:=[
 ⟨none,.r1 (fun s a=>AF Tryz.prog s 61 a),[.var 3],.push,[]⟩,
 ⟨none,.e (fun s=>Xx (fun a x=>Xz (AZ Tryz.prog s 61 a x))),[.var 4,.loc 0],.push,[]⟩]
def ee:Ay:=⟨3,10,(.seq (.ops V8) (.seq (.seq (.ops V9) (.block 0 (.loop Hz))) (.seq (.ops WE) .ret))),[((.var 4),some 61)]⟩
def V6:List AC:=[
 ⟨none,.mk (fun l=>match l with | []=>Ar Tryz.prog 61 | _=>none),[],(.set 1),[]⟩]
def V7:List AC:=[
 ⟨none,.p (fun l=>FA Tryz.prog 61 (zipIdx [] l)),[],.push,[]⟩,
 ⟨none,.call 269,[(.loc 0),(.var 0),(.const (.func 287 [] []))],.push,[]⟩,
 ⟨none,.e (fun s=>Xx (fun a x=>Xz (AZ Tryz.prog s 61 a x))),[.var 1,.loc 0],.push,[]⟩]
def eZ:Ay:=⟨1,2,(.seq (.ops V6) (.seq (.ops V7) .ret)),[((.var 1),some 61)]⟩
def Vu:List AC:=[
 ⟨none,.mk (fun l=>match l with | []=>Ar Tryz.prog 61 | _=>none),[],(.set 1),[]⟩]
def Vv:List AC:=[
 ⟨none,.call 127,[(.const (.int .i64 (1)))],.push,[]⟩,
 ⟨none,.call 269,[(.loc 0),(.var 0),(.const (.func 270 [] []))],.push,[]⟩,
 ⟨none,.e (fun s=>Xx (fun a x=>Xz (AZ Tryz.prog s 61 a x))),[.var 1,.loc 0],.push,[]⟩]
def eV:Ay:=⟨1,2,(.seq (.ops Vu) (.seq (.ops Vv) .ret)),[((.var 1),some 61)]⟩
def UX:List AC:=[
 ⟨none,.mk (fun l=>match l with | [v]=>Cr 61 v | _=>none),[.var 0],(.set 1),[]⟩,
 ⟨none,.p1 some,[(.const (.int .i64 (0)))],(.set 2),[]⟩]
def UY:List AC:=[
 ⟨none,.r1 (fun s a=>AF Tryz.prog s 61 a),[.var 1],.push,[]⟩,
 ⟨none,.call 218,[.loc 0],.push,[]⟩,
 ⟨none,.e (fun s=>Xx (fun a x=>Xz (AZ Tryz.prog s 61 a x))),[.var 1,.loc 0],.push,[]⟩]
def MH:List AC:=[
 ⟨none,.p1 (fun x=>AP Tryz.prog 61 x 0),[.var 1],.push,[]⟩,
 ⟨none,.r1 (fun s a=>AF Tryz.prog s 4 a),[.loc 0],.push,[]⟩,
 ⟨none,.p1 some,[.loc 0],(.set 3),[]⟩]
def UZ:List AC:=[
 ⟨none,.p1 some,[(.const (.int .i64 (-1)))],(.set 2),[]⟩]
def PD:List AC:=[
 ⟨none,.p1 (fun x=>AP Tryz.prog 61 x 1),[.var 1],.push,[]⟩,
 ⟨none,.r1 (fun s a=>AF Tryz.prog s 59 a),[.loc 0],.push,[]⟩,
 ⟨none,.r (fun s l=>match l with | [x]=>Bk Tryz.prog s 59 x | _=>none),[.loc 0],.push,[]⟩,
 ⟨none,.p2 (AN Tryz.prog .gtr 3),[(.loc 0),(.const (.int .i64 (0)))],.push,[]⟩,
 ⟨none,.p1 some,[.loc 0],(.set 4),[]⟩]
def Ua:List AC:=[
 ⟨none,.p1 some,[(.const (.int .i64 (1)))],(.set 2),[]⟩]
def Ub:List AC:=[
 ⟨none,.p1 some,[(.const (.int .i64 (0)))],(.set 2),[]⟩]
def eF:Ay:=⟨1,5,(.seq (.ops UX) (.seq (.seq (.ops UY) (.block 0 (.seq (.ops MH) (.cond (.var 3)
 (.seq (.ops UZ) .ret)
 (.seq (.ops PD) (.cond (.var 4)
 (.seq (.ops Ua) .ret)
 .skip)))))) (.seq (.ops Ub) .ret))),[((.var 2),none)]⟩
def O4:List AC:=[
 ⟨none,.mk (fun l=>match l with | []=>Ar Tryz.prog 61 | _=>none),[],(.set 1),[]⟩]
def O5:List AC:=[
 ⟨none,.r1 (fun s x=>Af Tryz.prog s 2 205 x),[.var 0],.push,[]⟩,
 ⟨none,.p1 some,[.loc 0],(.set 2),[]⟩]
def O6:List AC:=[
 ⟨none,.p2 (AN Tryz.prog .lss 2),[(.var 0),(.const (.int .i64 (0)))],(.set 3),[]⟩]
def T7:List AC:=[
 ⟨none,.p1 some,[.var 2],.push,[]⟩,
 ⟨none,.p1 (de Tryz.prog Go.UnOp.neg),[.loc 0],.push,[]⟩,
 ⟨none,.p1 some,[.loc 0],(.set 2),[]⟩]
def O7:List AC:=[
 ⟨none,.p2 (AN Tryz.prog .lss 2),[(.var 0),(.const (.int .i64 (0)))],.push,[]⟩,
 ⟨none,.r1 (fun s x=>Af Tryz.prog s 205 203 x),[.var 2],.push,[]⟩,
 ⟨none,.p2 (AN Tryz.prog .shr 205),[(.var 2),(.const (.int .u64 (32)))],.push,[]⟩,
 ⟨none,.r1 (fun s x=>Af Tryz.prog s 205 203 x),[.loc 0],.push,[]⟩,
 ⟨none,.mk (fun l=>(Ak Tryz.prog 59 2 (zipIdx [0,1] l)).bind fun r=>some (r,.slice 2)),[.loc 2,.loc 0],.push,[]⟩,
 ⟨none,.call 164,[.loc 4,.loc 0],.push,[]⟩,
 ⟨none,.e (fun s=>Xx (fun a x=>Xz (AZ Tryz.prog s 61 a x))),[.var 1,.loc 0],.push,[]⟩]
def cU:Ay:=⟨1,4,(.seq (.ops O4) (.seq (.ops O5) (.seq (.seq (.ops O6) (.cond (.var 3)
 (.ops T7)
 .skip)) (.seq (.ops O7) .ret)))),[((.var 1),some 61)]⟩
theorem SB:AS Tryz.prog 164=some cV:=by kernel_rfl
theorem Z0:AS Tryz.prog 218=some eQ:=by kernel_rfl
theorem aK:AS Tryz.prog 287=some ep:=by kernel_rfl
theorem aE:AS Tryz.prog 270=some ef:=by kernel_rfl
theorem aC:AS Tryz.prog 269=some ee:=by kernel_rfl
theorem Z9:AS Tryz.prog 268=some eZ:=by kernel_rfl
theorem Z5:AS Tryz.prog 233=some eV:=by kernel_rfl
theorem Zp:AS Tryz.prog 170=some eF:=by kernel_rfl
theorem Zi:AS Tryz.prog 127=some cU:=by kernel_rfl
end
end Go.Proofs.YtfgmceookgelcaaGreatDoor.Am
set_option linter.unusedVariables false
namespace Go.Proofs.YtfgmceookgelcaaGreatDoor.Am
noncomputable section
def B1(neg:Bool)(m:Nat):Int:=if neg=true then -(m:Int)else (m:Int)
def Di(d:Nat):Nat:=if d=0 then 1 else d
def My(neg:Bool)(m d:Nat):Rat:=mkRat (B1 neg m) (Di d)
theorem HJ(d:Nat):Di d≠0:=by unfold Di;split<;>omega
theorem DU(neg:Bool)(m:Nat):(B1 neg m).natAbs=m:=by unfold B1;split<;>omega
theorem KY(neg:Bool)(m d:Nat):(My neg m d).num=B1 neg m / ((m.gcd (Di d):Nat):Int):=by
 unfold My
 rw[Rat.num_mkRat,if_neg (HJ d),Nat.gcd_comm]
 simp[DU]
theorem OO(neg:Bool)(m d:Nat):(My neg m d).den=Di d / m.gcd (Di d):=by
 unfold My
 rw[Rat.den_mkRat,if_neg (HJ d)]
 simp[DU,Nat.gcd_comm]
theorem Mz{n:Int}{d:Nat}(hd:d≠0)(neg:Bool)(m:Nat)(hn:B1 neg m=n):My neg m d=mkRat n d:=by
 unfold My Di
 rw[if_neg hd,hn]
theorem dI{n1 n2:Int}{d1 d2:Nat}(h1:d1≠0)(h2:d2≠0):mkRat n1 d1+mkRat n2 d2=mkRat (n1 * d2+n2 * d1) (d1 * d2):=Rat.mkRat_add_mkRat n1 n2 h1 h2
theorem dK(n1 n2:Int)(d1 d2:Nat):mkRat n1 d1 * mkRat n2 d2=mkRat (n1 * n2) (d1 * d2):=Rat.mkRat_mul_mkRat n1 n2 d1 d2
structure Wr where
 neg:Bool
 num:Nat
 den:Nat
def dg(q:Rat):Wr:=⟨decide (q.num<0),q.num.natAbs,q.den⟩
theorem bj(q:Rat):My (dg q).neg (dg q).num (dg q).den=q:=by
 have hd:(dg q).den≠0:=q.den_nz
 have hn:B1 (dg q).neg (dg q).num=q.num:=by
  unfold B1 dg
  by_cases h:q.num<0
  ·simp[h];omega
  ·simp[h];omega
 rw[Mz hd _ _ hn]
 exact Rat.mkRat_self q
end
end Go.Proofs.YtfgmceookgelcaaGreatDoor.Am
set_option linter.unusedVariables false
set_option linter.unusedSimpArgs false
set_option maxRecDepth 16000
namespace Go.Proofs.YtfgmceookgelcaaGreatDoor.Am
open Go Go.Proofs
noncomputable section
section
variable{P:Program}{s:AE}{i e sz t n:Nat}{sp:Bool}{cs cs0:List AV}
theorem Aj(ht:EM P t=some true)(hs:A2 P t=some n)(hg:s.heap.get i=some (R e sz sp cs))(hl:cs.length=n):AF P s t (.ptr (some (i,0)))=some (.agg cs):=by
 subst hl
 rw[Wf ht,hs,Option.bind_some,hg,Wo (by omega)]
 simp
theorem QU{a b:List AV}(h:a.length=b.length):DK a 0 b=b:=by
 refine List.ext_getElem? fun k=>?_
 rw[Kk _ _ _ _ (by omega)]
 rcases fv k b.length with h' | h'
 ·rw[if_pos ⟨gF _,by omega⟩];rfl
 ·rw[if_neg (by omega),gH (by omega),gH h']
theorem A5(hs:A2 P t=some n)(hg:s.heap.get i=some (R e sz sp cs0))(hl0:cs0.length=n)(hl:cs.length=n)(ha:Aq cs=true)(hn:cs≠[]):AZ P s t (.ptr (some (i,0))) (.agg cs)=some (setObj s i (R e sz sp cs)):=by
 rw[Wg,hs]
 show AH (decide (cs.length=n)) (CE s i 0 cs)=_
 rw[Of hg (by omega) ha,QU (by omega),decide_eq_true hl]
 cases cs with
 | nil=>exact absurd rfl hn
 | cons c cs=>rfl
theorem AU(P:Program)(s:AE)(v:List AV)(x:CX)(t:TypeId)(l:List (CX×Option TypeId)):Bb P s v ((x,some t)::l)=(AF P s t (CO [] v x)).bind fun u=>(Bb P s v l).bind fun r=>some (u::r):=rfl
end
theorem NR.set{b i:Nat}{s:AE}{v:AV}{l:List Nat}(h:NR b s v l)(hi:i<b)(o:AX):NR b (setObj s i o) v l:=
 h.keep (fu _) fun j hj=>Ww _ (by obtain⟨O,_,_,q,_⟩:=h;have:=q j hj;omega)
theorem A8.set{b i:Nat}{s s':AE}(h:A8 b s s')(hi:b≤i)(o:AX):A8 b s (setObj s' i o):=⟨h.1,fun j hj=>(Ww _ (by omega)).trans (h.2 j hj)⟩
theorem CW.shape{s:AE}{v:AV}{l:List Nat}(h:CW s v l):∃a n c,v=.slice a n c:=by obtain⟨a,c,rfl,_⟩:=h;exact⟨_,_,_,rfl⟩
theorem I3(x:Bool)(a:Option (Nat×Nat))(n:Nat)(c:Option Nat):FA Tryz.prog 61 (zipIdx [0,1] [.bool x,.slice a n c])=some (.agg [.bool x,.slice a n c]):=by kernel_rfl
theorem Da:Ar Tryz.prog 61=some (R 61 0 false [.bool false,.slice none 0 (some 0)],.ptr):=by kernel_rfl
theorem HL(x:Bool)(a:Option (Nat×Nat))(n:Nat)(c:Option Nat):EV (.agg [.bool x,.slice a n c]) (.agg [.bool x,.slice a n c])=true:=by
 cases a<;>cases c<;>cases x<;>simp[EV,EV.eqAs]
theorem Jq(x:Bool):EV (.bool x) (.bool x)=true:=by cases x<;>rfl
def BI(s:AE)(v:AV)(z:Int)(k:Nat):Prop:=∃neg m l,v=.agg [.bool neg,m]∧CW s m l∧BV l∧l.length≤k∧B1 neg (AD l)=z
def BR(b:Nat)(s:AE)(v:AV)(z:Int):Prop:=∃m,v=.agg [.bool (decide (z<0)),m]∧NR b s m (AI z.natAbs)
theorem BI.old{s s':AE}{v:AV}{z:Int}{k:Nat}(h:BI s v z k)(o:A8 s.next s s'):BI s' v z k:=by
 obtain⟨neg,m,l,h1,h2,h3⟩:=h
 exact⟨neg,m,l,h1,h2.old o,h3⟩
theorem BR.old{b:Nat}{s s':AE}{v:AV}{z:Int}(h:BR b s v z)(o:A8 s.next s s'):BR b s' v z:=by
 obtain⟨m,h1,h2⟩:=h
 exact⟨m,h1,h2.old o⟩
theorem BR.mono{b b':Nat}{s:AE}{v:AV}{z:Int}(h:BR b s v z)(k:b'≤b):BR b' s v z:=by
 obtain⟨m,h1,h2⟩:=h
 exact⟨m,h1,h2.mono k⟩
theorem BR.set{b i:Nat}{s:AE}{v:AV}{z:Int}(h:BR b s v z)(hi:i<b)(o:AX):BR b (setObj s i o) v z:=by
 obtain⟨m,h1,h2⟩:=h
 exact⟨m,h1,h2.set hi o⟩
theorem BH{n k:Nat}(h:n<LB ^ k):(AI n).length≤k:=by
 rcases fv k (AI n).length with h' | h'
 ·exfalso
  have h0:n≠0:=by
   rintro rfl
   rw[A6]at h'
   simp at h'
  have:=J3 n h0
  have h2:LB ^ k≤LB ^ ((AI n).length - 1):=g0 A3 (by omega)
  omega
 ·exact h'
theorem Fk(z:Int):B1 (decide (z<0)) z.natAbs=z:=by
 unfold B1
 by_cases h:z<0
 ·rw[if_pos (decide_eq_true h)];omega
 ·rw[if_neg (by simpa using h)];omega
theorem BR.bi{b k:Nat}{s:AE}{v:AV}{z:Int}(h:BR b s v z)(hz:z.natAbs<LB ^ k):BI s v z k:=by
 obtain⟨m,h1,h2⟩:=h
 exact⟨_,m,_,h1,h2.n32,AR _,BH hz,by rw[AY,Fk]⟩
theorem BI.abs{s:AE}{v:AV}{z:Int}{k:Nat}(h:BI s v z k):z.natAbs<LB ^ k:=by
 obtain⟨neg,m,l,h1,h2,h3,h4,rfl⟩:=h
 rw[DU]
 exact fy (CF h3) (g0 A3 h4)
theorem GZ(n:Nat):decide ((0:Int)<((AI n).length:Int))=decide (n≠0):=by
 by_cases h:n=0
 ·subst h;rw[A6];rfl
 ·have:=List.length_pos_iff.2 (Cb h)
  rw[decide_eq_true (show(0:Int)<((AI n).length:Int) by omega),decide_eq_true h]
theorem ae(neg:Bool)(n:Nat):decide (B1 neg n<0)=(neg && decide (n≠0)):=by
 unfold B1
 cases neg with
 | false=>rw[if_neg (by decide),Bool.false_and];exact decide_eq_false (by omega)
 | true =>
  rw[if_pos rfl,Bool.true_and]
  by_cases h:n=0
  ·rw[decide_eq_false (show ¬ (-(n:Int)<0) by omega),decide_eq_false (by simpa using h)]
  ·rw[decide_eq_true (show -(n:Int)<0 by omega),decide_eq_true h]
section
variable{E:Cg}{s:AE}
theorem Gm(hE:An E){neg:Bool}{m:AV}{l:List Nat}(hm:CW s m l)(hl:l.length≤1000000000)(hs:BV l){K:AV→AE→Prop}
  (hK:∀s' v,A8 s.next s s'→BR s.next s' v (B1 neg (AD l))→K v s'):WF E 164 [.bool neg,m] K s:=by
 refine hE.go SB (by decide) rfl ?_
 have o1:=A8.new s (R 61 0 false [.bool false,.slice none 0 (some 0)])
 have g1:(newObj s (R 61 0 false [.bool false,.slice none 0 (some 0)])).heap.get s.next=some (R 61 0 false [.bool false,.slice none 0 (some 0)]):=by rw[AO,if_pos rfl]
 have n1:(newObj s (R 61 0 false [.bool false,.slice none 0 (some 0)])).next=s.next+1:=rfl
 simp only[cV,O8,O9,Da,Xb,Qa,Qb,Qc,Qd,Qe,Qf,Qg,Qh,Qi,Qj,Qk,Ql,Qm,Qn,true_and,and_true,Qo,Qp,Qq,Qr,Qs,Qt,Qu,Qv,Qw,Qx,Qy,Qz,Ra,Rb,Rc,Rd,Re,Rf,Rg,Rh,Ri,Rj,Rk,Rm,Rn,Ro,Rp,Rq,Rs,Ya,Yb,Yc,Rt,Ru,Za,Yd,Ye,Rx,Ry,Rz,Wa,Wb,Wc,Wd]
 generalize newObj s (R 61 0 false [.bool false,.slice none 0 (some 0)])=s1 at *
 refine Bz hE (hm.old o1) (by omega) fun s2 v2 o2 r2=>?_
 rw[BJ hs]at r2
 have g2:=(o2.2 s.next (by omega)).trans g1
 obtain⟨a,c,e2,_⟩:=r2.n32
 have hz:=ae neg (AD l)
 rw[← GZ]at hz
 have fin:∀x,x=decide (B1 neg (AD l)<0)→K (.agg [.bool x,v2]) (setObj s2 s.next (R 61 0 false [.bool x,v2])):=fun x hx=>by
  subst hx
  refine hK _ _ ((o1.trans (o2.mono o1.1)).set (fu _) _) (BR.mono (b:=s1.next) ⟨v2,rfl,?_⟩ (by omega))
  rw[DU]
  exact r2.set (by omega) _
 have st:∀x,AZ Tryz.prog s2 61 (.ptr (some (s.next,0))) (.agg [.bool x,.slice a (AI (AD l)).length c])=some (setObj s2 s.next (R 61 0 false [.bool x,.slice a (AI (AD l)).length c])):=fun x=>A5 CH g2 rfl rfl rfl (by simp)
 have ld:∀x,AF Tryz.prog (setObj s2 s.next (R 61 0 false [.bool x,.slice a (AI (AD l)).length c])) 61 (.ptr (some (s.next,0)))=some (.agg [.bool x,.slice a (AI (AD l)).length c]):=fun x=>Aj DY CH (Wv _ _ _) rfl
 subst e2
 cases neg with
 | true =>
  rw[Bool.true_and]at hz
  simp only[JY,AW Tryz.underlying59,Ry,Rt,I3,st,ld,AU,Xx,Xz,Qa,Qb,Qc,Qd,Qe,Qf,Qg,Qh,Qi,Qj,Qk,Ql,Qm,Qn,true_and,and_true,Qo,Qp,Qq,Qr,Qs,Qt,Qu,Qv,Qw,Qx,Qy,Qz,Ra,Rb,Rc,Rd,Re,Rf,Rg,Rh,Ri,Rj,Rk,Rm,Rn,Ro,Rp,Rq,Rs,Ya,Yb,Yc,Rt,Ru,Za,Yd,Ye,Rx,Ry,Rz,Wa,Wb,Wc,Wd]
  exact fin _ hz.symm
 | false =>
  rw[Bool.false_and]at hz
  simp only[JY,Rt,I3,st,ld,AU,Xx,Xz,Qa,Qb,Qc,Qd,Qe,Qf,Qg,Qh,Qi,Qj,Qk,Ql,Qm,Qn,true_and,and_true,Qo,Qp,Qq,Qr,Qs,Qt,Qu,Qv,Qw,Qx,Qy,Qz,Ra,Rb,Rc,Rd,Re,Rf,Rg,Rh,Ri,Rj,Rk,Rm,Rn,Ro,Rp,Rq,Rs,Ya,Yb,Yc,Rt,Ru,Za,Yd,Ye,Rx,Ry,Rz,Wa,Wb,Wc,Wd]
  exact fin _ hz.symm
theorem ZZ(hE:An E){neg:Bool}{K:AV→AE→Prop}(hK:∀s',A8 s.next s s'→s'.next=s.next+1→K (.agg [.bool false,.slice none 0 (some 0)]) s'):WF E 164 [.bool neg,.slice none 0 (some 0)] K s:=by
 refine hE.go SB (by decide) rfl ?_
 have o1:=A8.new s (R 61 0 false [.bool false,.slice none 0 (some 0)])
 have g1:(newObj s (R 61 0 false [.bool false,.slice none 0 (some 0)])).heap.get s.next=some (R 61 0 false [.bool false,.slice none 0 (some 0)]):=by rw[AO,if_pos rfl]
 have n1:(newObj s (R 61 0 false [.bool false,.slice none 0 (some 0)])).next=s.next+1:=rfl
 simp only[cV,O8,O9,Da,Xb,Qa,Qb,Qc,Qd,Qe,Qf,Qg,Qh,Qi,Qj,Qk,Ql,Qm,Qn,true_and,and_true,Qo,Qp,Qq,Qr,Qs,Qt,Qu,Qv,Qw,Qx,Qy,Qz,Ra,Rb,Rc,Rd,Re,Rf,Rg,Rh,Ri,Rj,Rk,Rm,Rn,Ro,Rp,Rq,Rs,Ya,Yb,Yc,Rt,Ru,Za,Yd,Ye,Rx,Ry,Rz,Wa,Wb,Wc,Wd]
 generalize newObj s (R 61 0 false [.bool false,.slice none 0 (some 0)])=s1 at *
 refine Y9 hE ?_
 have st:=A5 (P:=Tryz.prog) (t:=61) (cs:=[.bool false,.slice none 0 (some 0)]) CH g1 rfl rfl rfl (by simp)
 have ld:=Aj (P:=Tryz.prog) (t:=61) (s:=setObj s1 s.next (R 61 0 false [.bool false,.slice none 0 (some 0)])) (i:=s.next) DY CH (Wv _ _ _) rfl
 have dd:decide ((0:Int)<((0:Nat):Int))=false:=rfl
 cases neg with
 | true =>
  simp only[JY,AW Tryz.underlying59,Ry,dd,Rt,I3,st,ld,AU,Xx,Xz,Qa,Qb,Qc,Qd,Qe,Qf,Qg,Qh,Qi,Qj,Qk,Ql,Qm,Qn,true_and,and_true,Qo,Qp,Qq,Qr,Qs,Qt,Qu,Qv,Qw,Qx,Qy,Qz,Ra,Rb,Rc,Rd,Re,Rf,Rg,Rh,Ri,Rj,Rk,Rm,Rn,Ro,Rp,Rq,Rs,Ya,Yb,Yc,Rt,Ru,Za,Yd,Ye,Rx,Ry,Rz,Wa,Wb,Wc,Wd]
  exact hK _ (o1.set (fu _) _) n1
 | false =>
  simp only[JY,Rt,I3,st,ld,AU,Xx,Xz,Qa,Qb,Qc,Qd,Qe,Qf,Qg,Qh,Qi,Qj,Qk,Ql,Qm,Qn,true_and,and_true,Qo,Qp,Qq,Qr,Qs,Qt,Qu,Qv,Qw,Qx,Qy,Qz,Ra,Rb,Rc,Rd,Re,Rf,Rg,Rh,Ri,Rj,Rk,Rm,Rn,Ro,Rp,Rq,Rs,Ya,Yb,Yc,Rt,Ru,Za,Yd,Ye,Rx,Ry,Rz,Wa,Wb,Wc,Wd]
  exact hK _ (o1.set (fu _) _) n1
theorem Zb(hE:An E){neg:Bool}{m:AV}{l:List Nat}(hm:CW s m l)(hl:l.length≤1000000000)(hs:BV l){K:AV→AE→Prop}
  (hK:∀s' v,A8 s.next s s'→BR s.next s' v (B1 neg (AD l))→(m=.slice none 0 (some 0)→v=.agg [.bool false,.slice none 0 (some 0)])→K v s'):WF E 164 [.bool neg,m] K s:=by
 by_cases h:m=.slice none 0 (some 0)
 ·subst h
  refine ZZ hE fun s' o _=>hK s' _ o ?_ fun _=>rfl
  obtain⟨a,c,e,_⟩:=hm
  injection e with _ e2 _
  have hl0:l=[]:=List.length_eq_zero_iff.1 e2.symm
  subst hl0
  have hz:B1 neg (AD [])=0:=by cases neg<;>rfl
  rw[hz]
  exact⟨_,rfl,by show NR s.next s' _ (AI 0);rw[A6];exact NR.nil _ _⟩
 ·exact Gm hE hm hl hs fun s' v o r=>hK s' v o r fun e=>absurd e h
end
theorem BM(s:AE)(o:AX):(newObj s o).next=s.next+1:=rfl
theorem GS(s:AE)(A:AX):(newObj s A).next=s.next+1∧A8 s.next s (newObj s A)∧(newObj s A).heap.get s.next=some A:=⟨rfl,A8.new s A,by rw[AO,if_pos rfl]⟩
theorem Ky(s:AE)(A B:AX):(newObj (newObj s A) B).next=s.next+2∧A8 s.next s (newObj (newObj s A) B)∧(newObj (newObj s A) B).heap.get s.next=some A∧(newObj (newObj s A) B).heap.get (s.next+1)=some B:=by
 refine⟨rfl,(A8.new s A).trans ((A8.new (newObj s A) B).mono (gZ _)),?_,?_⟩
 ·rw[AO,if_neg (by rw[BM];omega),AO,if_pos rfl]
 ·rw[AO,if_pos (by rw[BM])]
theorem TR(s:AE)(A B C:AX):(newObj (newObj (newObj s A) B) C).next=s.next+3∧A8 s.next s (newObj (newObj (newObj s A) B) C)∧(newObj (newObj (newObj s A) B) C).heap.get s.next=some A∧(newObj (newObj (newObj s A) B) C).heap.get (s.next+1)=some B∧(newObj (newObj (newObj s A) B) C).heap.get (s.next+2)=some C:=by
 obtain⟨h1,h2,h3,h4⟩:=Ky s A B
 refine⟨rfl,h2.trans ((A8.new (newObj (newObj s A) B) C).mono (by omega)),?_,?_,?_⟩
 ·rw[AO,if_neg (by omega)];exact h3
 ·rw[AO,if_neg (by omega)];exact h4
 ·rw[AO,if_pos (by omega)]
abbrev ZI:AX:=R 61 0 false [.bool false,.slice none 0 (some 0)]
abbrev BX(x:Bool)(m:AV):AX:=R 61 0 false [.bool x,m]
section
variable{E:Cg}{s:AE}
theorem JW(hE:An E){v:AV}{z:Int}{k:Nat}(hv:BI s v z k)(hk:k≤1000000000){K:AV→AE→Prop}(hK:∀s' v,A8 s.next s s'→BR s.next s' v z→K v s'):WF E 218 [v] K s:=by
 obtain⟨neg,m,l,rfl,hm,hs,hl,rfl⟩:=hv
 obtain⟨a,n,c,rfl⟩:=hm.shape
 refine hE.go Z0 (by decide) rfl ?_
 obtain⟨n1,o1,g1,g2⟩:=Ky s (BX neg (.slice a n c)) ZI
 simp only[eQ,Va,Vb,Wz,Xg,Da,Xb,BM,Db,EX,Qa,Qb,Qc,Qd,Qe,Qf,Qg,Qh,Qi,Qj,Qk,Ql,Qm,Qn,true_and,and_true,Qo,Qp,Qq,Qr,Qs,Qt,Qu,Qv,Qw,Qx,Qy,Qz,Ra,Rb,Rc,Rd,Re,Rf,Rg,Rh,Ri,Rj,Rk,Rm,Rn,Ro,Rp,Rq,Rs,Ya,Yb,Yc,Rt,Ru,Za,Yd,Ye,Rx,Ry,Rz,Wa,Wb,Wc,Wd]
 generalize newObj (newObj s (BX neg (.slice a n c))) ZI=s1 at *
 have l1:=Ae (P:=Tryz.prog) (t:=4) (o:=0+0) Ox g1 rfl
 have l2:=Ae (P:=Tryz.prog) (t:=59) (o:=0+1) D7 g1 rfl
 simp only[l1,l2,Qa,Qb,Qc,Qd,Qe,Qf,Qg,Qh,Qi,Qj,Qk,Ql,Qm,Qn,true_and,and_true,Qo,Qp,Qq,Qr,Qs,Qt,Qu,Qv,Qw,Qx,Qy,Qz,Ra,Rb,Rc,Rd,Re,Rf,Rg,Rh,Ri,Rj,Rk,Rm,Rn,Ro,Rp,Rq,Rs,Ya,Yb,Yc,Rt,Ru,Za,Yd,Ye,Rx,Ry,Rz,Wa,Wb,Wc,Wd]
 refine Gm hE (hm.old o1) (by omega) hs fun s2 v2 o2 r2=>?_
 have g3:=(o2.2 (s.next+1) (by omega)).trans g2
 obtain⟨m2,rfl,r2⟩:=r2
 obtain⟨a2,n2,c2,rfl⟩:=r2.n32.shape
 have st:=A5 (P:=Tryz.prog) (t:=61) (cs:=[.bool (decide (B1 neg (AD l)<0)),.slice a2 n2 c2]) CH g3 rfl rfl rfl (by simp)
 have ld:=Aj (P:=Tryz.prog) (t:=61) (s:=setObj s2 (s.next+1) (R 61 0 false [.bool (decide (B1 neg (AD l)<0)),.slice a2 n2 c2])) (i:=s.next+1) DY CH (Wv _ _ _) rfl
 simp only[st,ld,AU,Xx,Xz,Qa,Qb,Qc,Qd,Qe,Qf,Qg,Qh,Qi,Qj,Qk,Ql,Qm,Qn,true_and,and_true,Qo,Qp,Qq,Qr,Qs,Qt,Qu,Qv,Qw,Qx,Qy,Qz,Ra,Rb,Rc,Rd,Re,Rf,Rg,Rh,Ri,Rj,Rk,Rm,Rn,Ro,Rp,Rq,Rs,Ya,Yb,Yc,Rt,Ru,Za,Yd,Ye,Rx,Ry,Rz,Wa,Wb,Wc,Wd]
 exact hK _ _ ((o1.trans (o2.mono o1.1)).set (by omega) _) (BR.mono (b:=s1.next) ⟨_,rfl,r2.set (by omega) _⟩ (by omega))
def Iz(z:Int):Int:=if z<0 then -1 else if 0<z then 1 else 0
theorem T6(hE:An E){v:AV}{z:Int}{k:Nat}(hv:BI s v z k)(hk:k≤1000000000){K:AV→AE→Prop}(hK:∀s',A8 s.next s s'→K (iv (Iz z)) s'):WF E 170 [v] K s:=by
 have hv0:=hv
 obtain⟨neg,m,l,rfl,hm,hs,hl,hz⟩:=hv
 obtain⟨a,n,c,rfl⟩:=hm.shape
 refine hE.go Zp (by decide) rfl ?_
 obtain⟨n1,o1,g1⟩:=GS s (BX neg (.slice a n c))
 simp only[eF,UX,UY,Wz,Xg,Xb,BM,Qa,Qb,Qc,Qd,Qe,Qf,Qg,Qh,Qi,Qj,Qk,Ql,Qm,Qn,true_and,and_true,Qo,Qp,Qq,Qr,Qs,Qt,Qu,Qv,Qw,Qx,Qy,Qz,Ra,Rb,Rc,Rd,Re,Rf,Rg,Rh,Ri,Rj,Rk,Rm,Rn,Ro,Rp,Rq,Rs,Ya,Yb,Yc,Rt,Ru,Za,Yd,Ye,Rx,Ry,Rz,Wa,Wb,Wc,Wd]
 generalize newObj s (BX neg (.slice a n c))=s1 at *
 have l1:=Aj (P:=Tryz.prog) (t:=61) DY CH g1 rfl
 simp only[l1,Qa,Qb,Qc,Qd,Qe,Qf,Qg,Qh,Qi,Qj,Qk,Ql,Qm,Qn,true_and,and_true,Qo,Qp,Qq,Qr,Qs,Qt,Qu,Qv,Qw,Qx,Qy,Qz,Ra,Rb,Rc,Rd,Re,Rf,Rg,Rh,Ri,Rj,Rk,Rm,Rn,Ro,Rp,Rq,Rs,Ya,Yb,Yc,Rt,Ru,Za,Yd,Ye,Rx,Ry,Rz,Wa,Wb,Wc,Wd]
 refine JW hE (hv0.old o1) hk fun s2 v2 o2 r2=>?_
 have g2:=(o2.2 s.next (by omega)).trans g1
 obtain⟨m2,rfl,r2⟩:=r2
 obtain⟨a2,c2,rfl,_⟩:=r2.n32
 have st:=A5 (P:=Tryz.prog) (t:=61) (cs:=[.bool (decide (z<0)),.slice a2 (AI z.natAbs).length c2]) CH g2 rfl rfl rfl (by simp)
 have l2:=Ae (P:=Tryz.prog) (t:=4) (s:=setObj s2 s.next (R 61 0 false [.bool (decide (z<0)),.slice a2 (AI z.natAbs).length c2])) (i:=s.next) (o:=0+0) Ox (Wv _ _ _) rfl
 have l3:=Ae (P:=Tryz.prog) (t:=59) (s:=setObj s2 s.next (R 61 0 false [.bool (decide (z<0)),.slice a2 (AI z.natAbs).length c2])) (i:=s.next) (o:=0+1) D7 (Wv _ _ _) rfl
 have hend:=hK (setObj s2 s.next (R 61 0 false [.bool (decide (z<0)),.slice a2 (AI z.natAbs).length c2])) ((o1.trans (o2.mono o1.1)).set (fu _) _)
 have hp:=GZ z.natAbs
 unfold Iz at hend
 by_cases h1:z<0
 ·have d1:decide (z<0)=true:=decide_eq_true h1
  rw[if_pos h1]at hend
  simp only[d1]at *
  simp only[st,l2,Db,MH,UZ,Xx,Xz,Qa,Qb,Qc,Qd,Qe,Qf,Qg,Qh,Qi,Qj,Qk,Ql,Qm,Qn,true_and,and_true,Qo,Qp,Qq,Qr,Qs,Qt,Qu,Qv,Qw,Qx,Qy,Qz,Ra,Rb,Rc,Rd,Re,Rf,Rg,Rh,Ri,Rj,Rk,Rm,Rn,Ro,Rp,Rq,Rs,Ya,Yb,Yc,Rt,Ru,Za,Yd,Ye,Rx,Ry,Rz,Wa,Wb,Wc,Wd]
  exact hend
 ·have d1:decide (z<0)=false:=decide_eq_false h1
  rw[if_neg h1]at hend
  by_cases h2:0<z
  ·have d2:decide (z.natAbs≠0)=true:=decide_eq_true (by omega)
   rw[if_pos h2]at hend
   rw[d2]at hp
   simp only[d1]at *
   simp only[st,l2,l3,Db,EX,AW Tryz.underlying59,Ry,hp,MH,PD,Ua,Xx,Xz,Qa,Qb,Qc,Qd,Qe,Qf,Qg,Qh,Qi,Qj,Qk,Ql,Qm,Qn,true_and,and_true,Qo,Qp,Qq,Qr,Qs,Qt,Qu,Qv,Qw,Qx,Qy,Qz,Ra,Rb,Rc,Rd,Re,Rf,Rg,Rh,Ri,Rj,Rk,Rm,Rn,Ro,Rp,Rq,Rs,Ya,Yb,Yc,Rt,Ru,Za,Yd,Ye,Rx,Ry,Rz,Wa,Wb,Wc,Wd]
   exact hend
  ·have d2:decide (z.natAbs≠0)=false:=decide_eq_false (by omega)
   rw[if_neg h2]at hend
   rw[d2]at hp
   simp only[d1]at *
   simp only[st,l2,l3,Db,EX,AW Tryz.underlying59,Ry,hp,MH,PD,Ub,if_true,Xx,Xz,Qa,Qb,Qc,Qd,Qe,Qf,Qg,Qh,Qi,Qj,Qk,Ql,Qm,Qn,true_and,and_true,Qo,Qp,Qq,Qr,Qs,Qt,Qu,Qv,Qw,Qx,Qy,Qz,Ra,Rb,Rc,Rd,Re,Rf,Rg,Rh,Ri,Rj,Rk,Rm,Rn,Ro,Rp,Rq,Rs,Ya,Yb,Yc,Rt,Ru,Za,Yd,Ye,Rx,Ry,Rz,Wa,Wb,Wc,Wd]
   exact hend
end
theorem YP(x y:Bool):AN Tryz.prog .neq 4 (.bool x) (.bool y)=some (.bool (x != y)):=by cases x<;>cases y<;>kernel_rfl
theorem Nl(x y:Bool):AN Tryz.prog .eql 4 (.bool x) (.bool y)=some (.bool (x == y)):=by cases x<;>cases y<;>kernel_rfl
theorem X1(x y:Bool)(a b:Nat):B1 (x != y) (a * b)=B1 x a * B1 y b:=by
 unfold B1
 cases x<;>cases y<;>simp[Int.neg_mul,Int.mul_neg]
theorem EI{a b j k:Nat}(ha:a<LB ^ j)(hb:b<LB ^ k):a * b<LB ^ (j+k):=by
 rw[Nat.pow_add]
 exact Nat.mul_lt_mul'' ha hb
theorem KU{a b k:Nat}(ha:a<LB ^ k)(hb:b<LB ^ k):a+b<LB ^ (k+1):=by
 rw[gg]
 have:LB ^ k * 2≤LB ^ k * LB:=gU _ (by decide)
 omega
theorem Ha{a j k:Nat}(ha:a<LB ^ j)(h:j≤k):a<LB ^ k:=fy ha (g0 A3 h)
theorem GE{l:List Nat}{k:Nat}(hs:BV l)(h:l.length≤k):AD l<LB ^ k:=Ha (CF hs) h
section
variable{E:Cg}{s:AE}
theorem E9{s1 s2:AE}{p:Nat}{x:Bool}{a:Option (Nat×Nat)}{n:Nat}{c:Option Nat}(hg:s2.heap.get p=some ZI):
  AZ Tryz.prog s2 61 (.ptr (some (p,0))) (.agg [.bool x,.slice a n c])=some (setObj s2 p (BX x (.slice a n c)))∧AF Tryz.prog (setObj s2 p (BX x (.slice a n c))) 61 (.ptr (some (p,0)))=some (.agg [.bool x,.slice a n c]):=
 ⟨A5 CH hg rfl rfl rfl (by simp),Aj DY CH (Wv _ _ _) rfl⟩
theorem NY(hE:An E){va vb:AV}{x y:Int}{ka kb:Nat}(ha:BI s va x ka)(hb:BI s vb y kb)(hk:ka+kb≤1000000000){K:AV→AE→Prop}(hK:∀s' v,A8 s.next s s'→BR s.next s' v (x * y)→K v s'):WF E 270 [va,vb] K s:=by
 obtain⟨na,ma,la,rfl,hma,hsa,hla,rfl⟩:=ha
 obtain⟨nb,mb,lb,rfl,hmb,hsb,hlb,rfl⟩:=hb
 obtain⟨aa,an,ac,rfl⟩:=hma.shape
 obtain⟨ba,bn,bc,rfl⟩:=hmb.shape
 refine hE.go aE (by decide) rfl ?_
 obtain⟨n1,o1,g1,g2,g3⟩:=TR s (BX na (.slice aa an ac)) (BX nb (.slice ba bn bc)) ZI
 simp only[ef,WG,WH,Wz,Xg,Da,Xb,BM,Db,EX,Qa,Qb,Qc,Qd,Qe,Qf,Qg,Qh,Qi,Qj,Qk,Ql,Qm,Qn,true_and,and_true,Qo,Qp,Qq,Qr,Qs,Qt,Qu,Qv,Qw,Qx,Qy,Qz,Ra,Rb,Rc,Rd,Re,Rf,Rg,Rh,Ri,Rj,Rk,Rm,Rn,Ro,Rp,Rq,Rs,Ya,Yb,Yc,Rt,Ru,Za,Yd,Ye,Rx,Ry,Rz,Wa,Wb,Wc,Wd]
 generalize newObj (newObj (newObj s (BX na (.slice aa an ac))) (BX nb (.slice ba bn bc))) ZI=s1 at *
 have l1:=Ae (P:=Tryz.prog) (t:=4) (o:=0+0) Ox g1 rfl
 have l2:=Ae (P:=Tryz.prog) (t:=59) (o:=0+1) D7 g1 rfl
 have l3:=Ae (P:=Tryz.prog) (t:=4) (o:=0+0) Ox g2 rfl
 have l4:=Ae (P:=Tryz.prog) (t:=59) (o:=0+1) D7 g2 rfl
 simp only[l1,l2,l3,l4,YP,Qa,Qb,Qc,Qd,Qe,Qf,Qg,Qh,Qi,Qj,Qk,Ql,Qm,Qn,true_and,and_true,Qo,Qp,Qq,Qr,Qs,Qt,Qu,Qv,Qw,Qx,Qy,Qz,Ra,Rb,Rc,Rd,Re,Rf,Rg,Rh,Ri,Rj,Rk,Rm,Rn,Ro,Rp,Rq,Rs,Ya,Yb,Yc,Rt,Ru,Za,Yd,Ye,Rx,Ry,Rz,Wa,Wb,Wc,Wd]
 refine P8 hE (hma.old o1) (hmb.old o1) (by omega) (by omega) hsa hsb fun s2 v2 o2 r2=>?_
 have f1:=(o2.2 s.next (by omega)).trans g1
 have f2:=(o2.2 (s.next+1) (by omega)).trans g2
 have f3:=(o2.2 (s.next+1+1) (by omega)).trans g3
 refine⟨⟨BG (by simp only[Qa,Qb,Qc,Qd,Qe,Qf,Qg,Qh,Qi,Qj,Qk,Ql,Qm,Qn,true_and,and_true,Qo,Qp,Qq,Qr,Qs,Qt,Qu,Qv,Qw,Qx,Qy,Qz,Ra,Rb,Rc,Rd,Re,Rf,Rg,Rh,Ri,Rj,Rk,Rm,Rn,Ro,Rp,Rq,Rs,Ya,Yb,Yc,Rt,Ru,Za,Yd,Ye,Rx,Ry,Rz,Wa,Wb,Wc,Wd];exact Ae (o:=0+0) Ox f2 rfl) (Jq _),BG (by simp only[Qa,Qb,Qc,Qd,Qe,Qf,Qg,Qh,Qi,Qj,Qk,Ql,Qm,Qn,true_and,and_true,Qo,Qp,Qq,Qr,Qs,Qt,Qu,Qv,Qw,Qx,Qy,Qz,Ra,Rb,Rc,Rd,Re,Rf,Rg,Rh,Ri,Rj,Rk,Rm,Rn,Ro,Rp,Rq,Rs,Ya,Yb,Yc,Rt,Ru,Za,Yd,Ye,Rx,Ry,Rz,Wa,Wb,Wc,Wd];exact Ae (o:=0+0) Ox f1 rfl) (Jq _),trivial⟩,?_⟩
 have hlen:(AI (AD la * AD lb)).length≤1000000000:=fx (BH (EI (GE hsa hla) (GE hsb hlb))) hk
 simp only[Qa,Qb,Qc,Qd,Qe,Qf,Qg,Qh,Qi,Qj,Qk,Ql,Qm,Qn,true_and,and_true,Qo,Qp,Qq,Qr,Qs,Qt,Qu,Qv,Qw,Qx,Qy,Qz,Ra,Rb,Rc,Rd,Re,Rf,Rg,Rh,Ri,Rj,Rk,Rm,Rn,Ro,Rp,Rq,Rs,Ya,Yb,Yc,Rt,Ru,Za,Yd,Ye,Rx,Ry,Rz,Wa,Wb,Wc,Wd]
 refine Gm hE r2.n32 hlen (AR _) fun s3 v3 o3 r3=>?_
 rw[AY,X1]at r3
 have q3:=(o3.2 (s.next+1+1) (by have:=o2.1;omega)).trans f3
 obtain⟨m3,rfl,r3⟩:=r3
 obtain⟨a3,n3,c3,rfl⟩:=r3.n32.shape
 obtain⟨st,ld⟩:=E9 (s1:=s) (x:=decide (B1 na (AD la) * B1 nb (AD lb)<0)) (a:=a3) (n:=n3) (c:=c3) q3
 simp only[st,ld,AU,Xx,Xz,Qa,Qb,Qc,Qd,Qe,Qf,Qg,Qh,Qi,Qj,Qk,Ql,Qm,Qn,true_and,and_true,Qo,Qp,Qq,Qr,Qs,Qt,Qu,Qv,Qw,Qx,Qy,Qz,Ra,Rb,Rc,Rd,Re,Rf,Rg,Rh,Ri,Rj,Rk,Rm,Rn,Ro,Rp,Rq,Rs,Ya,Yb,Yc,Rt,Ru,Za,Yd,Ye,Rx,Ry,Rz,Wa,Wb,Wc,Wd]
 have h2:=o2.1
 exact hK _ _ ((o1.trans ((o2.trans (o3.mono h2)).mono o1.1)).set (by omega) _) (BR.mono (b:=s2.next) ⟨_,rfl,r3.set (by omega) _⟩ (by omega))
end
theorem Y7{x y:Int}(h:decide (x<0)=decide (y<0)):B1 (decide (x<0)) (x.natAbs+y.natAbs)=x+y:=by
 unfold B1
 by_cases hx:x<0
 ·have hy:y<0:=by rw[decide_eq_true hx]at h;exact of_decide_eq_true h.symm
  rw[if_pos (decide_eq_true hx)];omega
 ·have hy:¬ y<0:=by rw[decide_eq_false hx]at h;exact of_decide_eq_false h.symm
  rw[if_neg (by simpa using hx)];omega
theorem Oh{x y:Int}(h:decide (x<0)≠decide (y<0))(hl:y.natAbs≤x.natAbs):B1 (decide (x<0)) (x.natAbs - y.natAbs)=x+y:=by
 unfold B1
 by_cases hx:x<0
 ·have hy:¬ y<0:=fun hy=>h (by rw[decide_eq_true hx,decide_eq_true hy])
  rw[if_pos (decide_eq_true hx)];omega
 ·have hy:y<0:=Classical.byContradiction fun hy=>h (by rw[decide_eq_false hx,decide_eq_false hy])
  rw[if_neg (by simpa using hx)];omega
section
variable{E:Cg}{s:AE}
theorem NU       (hE : An    E) {va vb : AV} {x y : Int} {ka kb : Nat} (ha : BI s va x ka) (hb : BI s vb y kb) (hk : ka + kb + 1 ≤ 1000000000) {K : AV → AE  → Prop} (hK : ∀ s' v, A8  s.next s s' → BR s.next s' v (x + y) → K v s') : WF E 287 [va, vb] K s := by
  have ha0:=ha
  have hb0:=hb
  have xb:=ha.abs
  have yb:=hb.abs
  obtain⟨na,ma,la,rfl,hma,hsa,hla,hxa⟩:=ha
  obtain⟨nb,mb,lb,rfl,hmb,hsb,hlb,hyb⟩:=hb
  obtain⟨aa,an,ac,rfl⟩:=hma.shape
  obtain⟨ba,bn,bc,rfl⟩:=hmb.shape
  refine hE.go aK (by decide) rfl ?_
  obtain⟨n1,o1,g1,g2,g3⟩:=TR s (BX na (.slice aa an ac)) (BX nb (.slice ba bn bc)) ZI
  simp only[ep,Wp,Wq,Wz,Xg,Da,Xb,BM,Qa,Qb,Qc,Qd,Qe,Qf,Qg,Qh,Qi,Qj,Qk,Ql,Qm,Qn,true_and,and_true,Qo,Qp,Qq,Qr,Qs,Qt,Qu,Qv,Qw,Qx,Qy,Qz,Ra,Rb,Rc,Rd,Re,Rf,Rg,Rh,Ri,Rj,Rk,Rm,Rn,Ro,Rp,Rq,Rs,Ya,Yb,Yc,Rt,Ru,Za,Yd,Ye,Rx,Ry,Rz,Wa,Wb,Wc,Wd]
  generalize newObj (newObj (newObj s (BX na (.slice aa an ac))) (BX nb (.slice ba bn bc))) ZI=s1 at *
  have l1:=Aj (P:=Tryz.prog) (t:=61) DY CH g1 rfl
  have l2:=Aj (P:=Tryz.prog) (t:=61) DY CH g2 rfl
  simp only[l1,l2,Qa,Qb,Qc,Qd,Qe,Qf,Qg,Qh,Qi,Qj,Qk,Ql,Qm,Qn,true_and,and_true,Qo,Qp,Qq,Qr,Qs,Qt,Qu,Qv,Qw,Qx,Qy,Qz,Ra,Rb,Rc,Rd,Re,Rf,Rg,Rh,Ri,Rj,Rk,Rm,Rn,Ro,Rp,Rq,Rs,Ya,Yb,Yc,Rt,Ru,Za,Yd,Ye,Rx,Ry,Rz,Wa,Wb,Wc,Wd]
  refine JW hE (ha0.old o1) (by omega) fun s2 v2 o2 r2=>?_
  have f1:=(o2.2 s.next (by omega)).trans g1
  have f2:=(o2.2 (s.next+1) (by omega)).trans g2
  have f3:=(o2.2 (s.next+1+1) (by omega)).trans g3
  refine⟨⟨BG (by simp only[Qa,Qb,Qc,Qd,Qe,Qf,Qg,Qh,Qi,Qj,Qk,Ql,Qm,Qn,true_and,and_true,Qo,Qp,Qq,Qr,Qs,Qt,Qu,Qv,Qw,Qx,Qy,Qz,Ra,Rb,Rc,Rd,Re,Rf,Rg,Rh,Ri,Rj,Rk,Rm,Rn,Ro,Rp,Rq,Rs,Ya,Yb,Yc,Rt,Ru,Za,Yd,Ye,Rx,Ry,Rz,Wa,Wb,Wc,Wd];exact Aj DY CH f2 rfl) (HL _ _ _ _),trivial⟩,?_⟩
  simp only[Qa,Qb,Qc,Qd,Qe,Qf,Qg,Qh,Qi,Qj,Qk,Ql,Qm,Qn,true_and,and_true,Qo,Qp,Qq,Qr,Qs,Qt,Qu,Qv,Qw,Qx,Qy,Qz,Ra,Rb,Rc,Rd,Re,Rf,Rg,Rh,Ri,Rj,Rk,Rm,Rn,Ro,Rp,Rq,Rs,Ya,Yb,Yc,Rt,Ru,Za,Yd,Ye,Rx,Ry,Rz,Wa,Wb,Wc,Wd]
  have h2:=o2.1
  refine JW hE (hb0.old (o1.trans (o2.mono o1.1))) (by omega) fun s3 v3 o3 r3=>?_
  have h3:=o3.1
  have e1:=(o3.2 s.next (by omega)).trans f1
  have e2:=(o3.2 (s.next+1) (by omega)).trans f2
  have e3:=(o3.2 (s.next+1+1) (by omega)).trans f3
  have r2':=r2.old o3
  obtain⟨m2,rfl,q2⟩:=r2'
  obtain⟨m3,rfl,q3⟩:=r3
  obtain⟨a2,n2,c2,rfl⟩:=q2.n32.shape
  obtain⟨a3,n3,c3,rfl⟩:=q3.n32.shape
  have st1:=A5 (P:=Tryz.prog) (t:=61) (cs:=[.bool (decide (x<0)),.slice a2 n2 c2]) CH e1 rfl rfl rfl (by simp)
  generalize hs4:setObj s3 s.next (BX (decide (x<0)) (.slice a2 n2 c2))=s4 at st1
  have e2':s4.heap.get (s.next+1)=some (BX nb (.slice ba bn bc)):=by rw[← hs4,Ww _ (by omega)];exact e2
  have st2:=A5 (P:=Tryz.prog) (t:=61) (cs:=[.bool (decide (y<0)),.slice a3 n3 c3]) CH e2' rfl rfl rfl (by simp)
  generalize hs5:setObj s4 (s.next+1) (BX (decide (y<0)) (.slice a3 n3 c3))=s5 at st2
  have k1:s5.heap.get s.next=some (BX (decide (x<0)) (.slice a2 n2 c2)):=by rw[← hs5,Ww _ (by omega),← hs4,Wv]
  have k2:s5.heap.get (s.next+1)=some (BX (decide (y<0)) (.slice a3 n3 c3)):=by rw[← hs5,Wv]
  have k3:s5.heap.get (s.next+1+1)=some ZI:=by rw[← hs5,Ww _ (by omega),← hs4,Ww _ (by omega)];exact e3
  have n5:s5.next=s3.next:=by rw[← hs5,← hs4];rfl
  have o5:A8 s.next s s5:=by
    rw[← hs5,← hs4]
    exact((o1.trans ((o2.trans (o3.mono h2)).mono o1.1)).set (fu _) _).set (by omega) _
  have w2:NR s1.next s5 (.slice a2 n2 c2) (AI x.natAbs):=by rw[← hs5,← hs4];exact(q2.set (by omega) _).set (by omega) _
  have w3:NR s2.next s5 (.slice a3 n3 c3) (AI y.natAbs):=by rw[← hs5,← hs4];exact(q3.set (by omega) _).set (by omega) _
  have l1:=Ae (P:=Tryz.prog) (t:=4) (o:=0+0) Ox k1 rfl
  have l2:=Ae (P:=Tryz.prog) (t:=59) (o:=0+1) D7 k1 rfl
  have l3:=Ae (P:=Tryz.prog) (t:=4) (o:=0+0) Ox k2 rfl
  have l4:=Ae (P:=Tryz.prog) (t:=59) (o:=0+1) D7 k2 rfl
  have xl:=BH xb
  have yl:=BH yb
  have vx:=AY x.natAbs
  have vy:=AY y.natAbs
  have fin:∀ (sg:Bool) (s6:AE) (v6:AV) (L:Nat),A8 s5.next s5 s6→NR s5.next s6 v6 (AI L)→L<LB ^ (ka+kb+1)→B1 sg L=x+y→∀K2:AV→AE→Prop,
      (∀s7 x7 a7 n7 c7,AZ Tryz.prog s7 61 (.ptr (some (s.next+1+1,0))) (.agg [.bool x7,.slice a7 n7 c7])=some (setObj s7 (s.next+1+1) (BX x7 (.slice a7 n7 c7))) →
        AF Tryz.prog (setObj s7 (s.next+1+1) (BX x7 (.slice a7 n7 c7))) 61 (.ptr (some (s.next+1+1,0)))=some (.agg [.bool x7,.slice a7 n7 c7]) →
        K (.agg [.bool x7,.slice a7 n7 c7]) (setObj s7 (s.next+1+1) (BX x7 (.slice a7 n7 c7)))→K2 (.agg [.bool x7,.slice a7 n7 c7]) s7)→WF E 164 [.bool sg,v6] K2 s6:=by
    intro sg s6 v6 L o6 r6 hL hsg K2 hK2
    refine Gm hE r6.n32 (fx (BH hL) hk) (AR _) fun s7 v7 o7 r7=>?_
    rw[AY,hsg]at r7
    have h6:=o6.1
    have g7:s7.heap.get (s.next+1+1)=some ZI:=by rw[o7.2 _ (by omega),o6.2 _ (by omega)];exact k3
    obtain⟨m7,rfl,r7⟩:=r7
    obtain⟨a7,n7,c7,rfl⟩:=r7.n32.shape
    obtain⟨st,ld⟩:=E9 (s1:=s) (x:=decide (x+y<0)) (a:=a7) (n:=n7) (c:=c7) g7
    refine hK2 _ _ _ _ _ st ld (hK _ _ ((o5.trans ((o6.trans (o7.mono h6)).mono o5.1)).set (by omega) _) (BR.mono (b:=s6.next) ⟨_,rfl,r7.set (by omega) _⟩ (by omega)))
  have hm1:x.natAbs+y.natAbs<LB ^ (ka+kb+1):=KU (Ha xb (by omega)) (Ha yb (by omega))
  by_cases hsg:decide (x<0)=decide (y<0)
  · have db:(decide (x<0) == decide (y<0))=true:=by rw[hsg];simp
    simp only[Pb,Ws,st1,st2,l1,l2,l3,l4,Db,EX,Nl,db,Xx,Xz,Qa,Qb,Qc,Qd,Qe,Qf,Qg,Qh,Qi,Qj,Qk,Ql,Qm,Qn,true_and,and_true,Qo,Qp,Qq,Qr,Qs,Qt,Qu,Qv,Qw,Qx,Qy,Qz,Ra,Rb,Rc,Rd,Re,Rf,Rg,Rh,Ri,Rj,Rk,Rm,Rn,Ro,Rp,Rq,Rs,Ya,Yb,Yc,Rt,Ru,Za,Yd,Ye,Rx,Ry,Rz,Wa,Wb,Wc,Wd]
    refine cQ hE w2.n32 w3.n32 (by omega) (by omega) (AR _) (AR _) fun s6 v6 o6 r6=>?_
    rw[vx,vy]at r6
    refine⟨⟨BG (by simp only[Qa,Qb,Qc,Qd,Qe,Qf,Qg,Qh,Qi,Qj,Qk,Ql,Qm,Qn,true_and,and_true,Qo,Qp,Qq,Qr,Qs,Qt,Qu,Qv,Qw,Qx,Qy,Qz,Ra,Rb,Rc,Rd,Re,Rf,Rg,Rh,Ri,Rj,Rk,Rm,Rn,Ro,Rp,Rq,Rs,Ya,Yb,Yc,Rt,Ru,Za,Yd,Ye,Rx,Ry,Rz,Wa,Wb,Wc,Wd];exact Ae (o:=0+0) Ox ((o6.2 s.next (by omega)).trans k1) rfl) (Jq _),trivial⟩,?_⟩
    simp only[Qa,Qb,Qc,Qd,Qe,Qf,Qg,Qh,Qi,Qj,Qk,Ql,Qm,Qn,true_and,and_true,Qo,Qp,Qq,Qr,Qs,Qt,Qu,Qv,Qw,Qx,Qy,Qz,Ra,Rb,Rc,Rd,Re,Rf,Rg,Rh,Ri,Rj,Rk,Rm,Rn,Ro,Rp,Rq,Rs,Ya,Yb,Yc,Rt,Ru,Za,Yd,Ye,Rx,Ry,Rz,Wa,Wb,Wc,Wd]
    refine fin _ s6 v6 _ o6 r6 hm1 (Y7 hsg) _ fun s7 x7 a7 n7 c7 st ld hk=>?_
    simp only[st,ld,AU,Xx,Xz,Qa,Qb,Qc,Qd,Qe,Qf,Qg,Qh,Qi,Qj,Qk,Ql,Qm,Qn,true_and,and_true,Qo,Qp,Qq,Qr,Qs,Qt,Qu,Qv,Qw,Qx,Qy,Qz,Ra,Rb,Rc,Rd,Re,Rf,Rg,Rh,Ri,Rj,Rk,Rm,Rn,Ro,Rp,Rq,Rs,Ya,Yb,Yc,Rt,Ru,Za,Yd,Ye,Rx,Ry,Rz,Wa,Wb,Wc,Wd]
    exact hk
  · have db:(decide (x<0) == decide (y<0))=false:=by simpa using hsg
    simp only[Pb,Wt,st1,st2,l1,l2,l3,l4,Db,EX,Nl,db,Xx,Xz,Qa,Qb,Qc,Qd,Qe,Qf,Qg,Qh,Qi,Qj,Qk,Ql,Qm,Qn,true_and,and_true,Qo,Qp,Qq,Qr,Qs,Qt,Qu,Qv,Qw,Qx,Qy,Qz,Ra,Rb,Rc,Rd,Re,Rf,Rg,Rh,Ri,Rj,Rk,Rm,Rn,Ro,Rp,Rq,Rs,Ya,Yb,Yc,Rt,Ru,Za,Yd,Ye,Rx,Ry,Rz,Wa,Wb,Wc,Wd]
    refine Y5 hE w2.n32 w3.n32 (by omega) (by omega) (AR _) (AR _) (fun hlt s6 o6=>?_) (fun hge s6 v6 o6 r6=>?_)
    · rw[vx,vy]at hlt
      have h6:=o6.1
      have u1:=(o6.2 s.next (by omega)).trans k1
      have u2:=(o6.2 (s.next+1) (by omega)).trans k2
      have l1:=Ae (P:=Tryz.prog) (t:=4) (o:=0+0) Ox u1 rfl
      have l2:=Ae (P:=Tryz.prog) (t:=59) (o:=0+1) D7 u1 rfl
      have l3:=Ae (P:=Tryz.prog) (t:=4) (o:=0+0) Ox u2 rfl
      have l4:=Ae (P:=Tryz.prog) (t:=59) (o:=0+1) D7 u2 rfl
      simp only[Pc,Wx,Za,l1,l2,l3,l4,Db,EX,Qa,Qb,Qc,Qd,Qe,Qf,Qg,Qh,Qi,Qj,Qk,Ql,Qm,Qn,true_and,and_true,Qo,Qp,Qq,Qr,Qs,Qt,Qu,Qv,Qw,Qx,Qy,Qz,Ra,Rb,Rc,Rd,Re,Rf,Rg,Rh,Ri,Rj,Rk,Rm,Rn,Ro,Rp,Rq,Rs,Ya,Yb,Yc,Rt,Ru,Za,Yd,Ye,Rx,Ry,Rz,Wa,Wb,Wc,Wd]
      refine Y5 hE (w3.n32.old o6) (w2.n32.old o6) (by omega) (by omega) (AR _) (AR _) (fun h=>by rw[vx,vy]at h;omega) (fun _ s7 v7 o7 r7=>?_)
      rw[vx,vy]at r7
      have l5:=Ae (P:=Tryz.prog) (t:=4) (o:=0+0) Ox ((o7.2 (s.next+1) (by omega)).trans u2) rfl
      simp only[Wy,Za,l5,Db,Qa,Qb,Qc,Qd,Qe,Qf,Qg,Qh,Qi,Qj,Qk,Ql,Qm,Qn,true_and,and_true,Qo,Qp,Qq,Qr,Qs,Qt,Qu,Qv,Qw,Qx,Qy,Qz,Ra,Rb,Rc,Rd,Re,Rf,Rg,Rh,Ri,Rj,Rk,Rm,Rn,Ro,Rp,Rq,Rs,Ya,Yb,Yc,Rt,Ru,Za,Yd,Ye,Rx,Ry,Rz,Wa,Wb,Wc,Wd]
      refine fin _ s7 v7 _ (o6.trans (o7.mono h6)) (r7.mono h6) (gm (by omega) hm1) ?_ _ fun s7 x7 a7 n7 c7 st ld hk=>?_
      · rw[Int.add_comm x y];exact Oh (fun e=>hsg e.symm) (by omega)
      · simp only[st,ld,AU,Xx,Xz,Qa,Qb,Qc,Qd,Qe,Qf,Qg,Qh,Qi,Qj,Qk,Ql,Qm,Qn,true_and,and_true,Qo,Qp,Qq,Qr,Qs,Qt,Qu,Qv,Qw,Qx,Qy,Qz,Ra,Rb,Rc,Rd,Re,Rf,Rg,Rh,Ri,Rj,Rk,Rm,Rn,Ro,Rp,Rq,Rs,Ya,Yb,Yc,Rt,Ru,Za,Yd,Ye,Rx,Ry,Rz,Wa,Wb,Wc,Wd]
        exact hk
    · rw[vx,vy]at hge r6
      have u1:=(o6.2 s.next (by omega)).trans k1
      have l1:=Ae (P:=Tryz.prog) (t:=4) (o:=0+0) Ox u1 rfl
      simp only[Pc,Wu,Za,l1,Db,Qa,Qb,Qc,Qd,Qe,Qf,Qg,Qh,Qi,Qj,Qk,Ql,Qm,Qn,true_and,and_true,Qo,Qp,Qq,Qr,Qs,Qt,Qu,Qv,Qw,Qx,Qy,Qz,Ra,Rb,Rc,Rd,Re,Rf,Rg,Rh,Ri,Rj,Rk,Rm,Rn,Ro,Rp,Rq,Rs,Ya,Yb,Yc,Rt,Ru,Za,Yd,Ye,Rx,Ry,Rz,Wa,Wb,Wc,Wd]
      refine fin _ s6 v6 _ o6 r6 (gm (by omega) hm1) (Oh hsg hge) _ fun s7 x7 a7 n7 c7 st ld hk=>?_
      simp only[st,ld,AU,Xx,Xz,Qa,Qb,Qc,Qd,Qe,Qf,Qg,Qh,Qi,Qj,Qk,Ql,Qm,Qn,true_and,and_true,Qo,Qp,Qq,Qr,Qs,Qt,Qu,Qv,Qw,Qx,Qy,Qz,Ra,Rb,Rc,Rd,Re,Rf,Rg,Rh,Ri,Rj,Rk,Rm,Rn,Ro,Rp,Rq,Rs,Ya,Yb,Yc,Rt,Ru,Za,Yd,Ye,Rx,Ry,Rz,Wa,Wb,Wc,Wd]
      exact hk
end
theorem Sz{n:Int}(h:n=0∨n=1∨n=-1)(s:AE):∃m:Nat,m=n.natAbs ∧
  ((decide (n<0)=false∧Af Tryz.prog s 2 205 (iv n)=some (AT m))∨(decide (n<0)=true∧Af Tryz.prog s 2 205 (iv n)=some (.int .u64 18446744073709551615)∧de Tryz.prog Go.UnOp.neg (.int .u64 18446744073709551615)=some (AT m))):=by
 rcases h with rfl | rfl | rfl
 ·exact⟨0,rfl,.inl ⟨rfl,by kernel_rfl⟩⟩
 ·exact⟨1,rfl,.inl ⟨rfl,by kernel_rfl⟩⟩
 ·exact⟨1,rfl,.inr ⟨rfl,by kernel_rfl,by kernel_rfl⟩⟩
section
variable{E:Cg}{s:AE}
theorem NX       (hE : An    E) {n : Int} (h : n = 0 ∨ n = 1 ∨ n = -1) {K : AV → AE  → Prop} (hK : ∀ s' v, A8  s.next s s' → BR s.next s' v n → K v s') : WF E 127 [iv n] K s := by
  refine hE.go Zi (by decide) rfl ?_
  obtain⟨n1,o1,g1⟩:=GS s ZI
  have hn:=Sz h (newObj s ZI)
  obtain⟨m,hm,hcase⟩:=hn
  have hm1:m≤1:=by rcases h with rfl | rfl | rfl<;>simp at hm<;>omega
  have e3:AN Tryz.prog .shr 205 (AT m) (.int .u64 32)=some (AT (m / 4294967296)):=Ho Tryz.prog 205 (k:=.u64) (n:=32) (by decide)
  have e4:m / 4294967296=0:=by omega
  have e5:m % 4294967296=m:=by omega
  rw[e4]at e3
  have key:∀neg:Bool,neg=decide (n<0)→∀ (K2:AV→AE→Prop),(∀s7 x7 a7 n7 c7,AZ Tryz.prog s7 61 (.ptr (some (s.next,0))) (.agg [.bool x7,.slice a7 n7 c7])=some (setObj s7 s.next (BX x7 (.slice a7 n7 c7))) →
        AF Tryz.prog (setObj s7 s.next (BX x7 (.slice a7 n7 c7))) 61 (.ptr (some (s.next,0)))=some (.agg [.bool x7,.slice a7 n7 c7]) →
        K (.agg [.bool x7,.slice a7 n7 c7]) (setObj s7 s.next (BX x7 (.slice a7 n7 c7)))→K2 (.agg [.bool x7,.slice a7 n7 c7]) s7) →
      WF E 164 [.bool neg,.slice (some ((newObj s ZI).next,0)) 2 (some 2)] K2 (newObj (newObj s ZI) (R 203 1 false [BO m,BO 0])):=by
    intro neg hneg K2 hK2
    obtain⟨n2,o2,g2⟩:=GS (newObj s ZI) (R 203 1 false [BO m,BO 0])
    generalize newObj (newObj s ZI) (R 203 1 false [BO m,BO 0])=s2 at *
    generalize newObj s ZI=s1 at *
    have hN:CW s2 (.slice (some (s1.next,0)) 2 (some 2)) [m,0]:=⟨some (s1.next,0),some 2,rfl,.inl ⟨2,rfl,fu _,fun e=>by cases e⟩,MW g2 (by omega)⟩
    refine Gm hE hN (by simp) (fun x hx=>?_) fun s7 v7 o7 r7=>?_
    · rcases hZ.1            hx with rfl | hx
      · exact gm hm1 (by decide)
      · rw[List.mem_singleton.1 hx];exact(by decide)
    have hv:B1 neg (AD [m,0])=n:=by
      have:AD [m,0]=n.natAbs:=by rw[← hm];simp[AD]
      rw[this,hneg]
      exact Fk n
    rw[hv]at r7
    have g7:s7.heap.get s.next=some ZI:=by rw[o7.2 _ (by omega),o2.2 _ (by omega)];exact g1
    obtain⟨m7,rfl,r7⟩:=r7
    obtain⟨a7,n7,c7,rfl⟩:=r7.n32.shape
    obtain⟨st,ld⟩:=E9 (s1:=s) (x:=decide (n<0)) (a:=a7) (n:=n7) (c:=c7) g7
    have h2:=o2.1
    refine hK2 _ _ _ _ _ st ld (hK _ _ ((o1.trans ((o2.trans (o7.mono h2)).mono o1.1)).set (by omega) _) (BR.mono (b:=s2.next) ⟨_,rfl,r7.set (by omega) _⟩ (by omega)))
  rcases hcase with⟨d,c1⟩ | ⟨d,c1,c2⟩
  · simp only[cU,O4,O5,O6,O7,Da,Xb,c1,Rx,d,Bd,e3,e5,Nat.zero_mod,M7,Xd,Qa,Qb,Qc,Qd,Qe,Qf,Qg,Qh,Qi,Qj,Qk,Ql,Qm,Qn,true_and,and_true,Qo,Qp,Qq,Qr,Qs,Qt,Qu,Qv,Qw,Qx,Qy,Qz,Ra,Rb,Rc,Rd,Re,Rf,Rg,Rh,Ri,Rj,Rk,Rm,Rn,Ro,Rp,Rq,Rs,Ya,Yb,Yc,Rt,Ru,Za,Yd,Ye,Rx,Ry,Rz,Wa,Wb,Wc,Wd]
    refine key false d.symm _ fun s7 x7 a7 n7 c7 st ld hk=>?_
    simp only[st,ld,AU,Xx,Xz,Qa,Qb,Qc,Qd,Qe,Qf,Qg,Qh,Qi,Qj,Qk,Ql,Qm,Qn,true_and,and_true,Qo,Qp,Qq,Qr,Qs,Qt,Qu,Qv,Qw,Qx,Qy,Qz,Ra,Rb,Rc,Rd,Re,Rf,Rg,Rh,Ri,Rj,Rk,Rm,Rn,Ro,Rp,Rq,Rs,Ya,Yb,Yc,Rt,Ru,Za,Yd,Ye,Rx,Ry,Rz,Wa,Wb,Wc,Wd]
    exact hk
  · simp only[cU,O4,O5,O6,T7,O7,Da,Xb,c1,c2,Rx,d,Bd,e3,e5,Nat.zero_mod,M7,Xd,Qa,Qb,Qc,Qd,Qe,Qf,Qg,Qh,Qi,Qj,Qk,Ql,Qm,Qn,true_and,and_true,Qo,Qp,Qq,Qr,Qs,Qt,Qu,Qv,Qw,Qx,Qy,Qz,Ra,Rb,Rc,Rd,Re,Rf,Rg,Rh,Ri,Rj,Rk,Rm,Rn,Ro,Rp,Rq,Rs,Ya,Yb,Yc,Rt,Ru,Za,Yd,Ye,Rx,Ry,Rz,Wa,Wb,Wc,Wd]
    refine key true d.symm _ fun s7 x7 a7 n7 c7 st ld hk=>?_
    simp only[st,ld,AU,Xx,Xz,Qa,Qb,Qc,Qd,Qe,Qf,Qg,Qh,Qi,Qj,Qk,Ql,Qm,Qn,true_and,and_true,Qo,Qp,Qq,Qr,Qs,Qt,Qu,Qv,Qw,Qx,Qy,Qz,Ra,Rb,Rc,Rd,Re,Rf,Rg,Rh,Ri,Rj,Rk,Rm,Rn,Ro,Rp,Rq,Rs,Ya,Yb,Yc,Rt,Ru,Za,Yd,Ye,Rx,Ry,Rz,Wa,Wb,Wc,Wd]
    exact hk
end
theorem Bh{P:Program}{s:AE}{i e sz t n o:Nat}{sp:Bool}{cs:List AV}(ht:EM P t=some true)(hs:A2 P t=some n)(hg:s.heap.get i=some (R e sz sp cs))(hl:o+n≤cs.length):AF P s t (.ptr (some (i,o)))=some (.agg ((cs.drop o).take n)):=by
 rw[Wf ht,hs,Option.bind_some,hg,Wo hl]
 rfl
theorem BI.shape{s:AE}{v:AV}{z:Int}{k:Nat}(h:BI s v z k):∃x a n c,v=.agg [.bool x,.slice a n c]:=by
 obtain⟨neg,m,l,rfl,hm,_⟩:=h
 obtain⟨a,n,c,rfl⟩:=hm.shape
 exact⟨_,_,_,_,rfl⟩
section
variable{E:Cg}{s:AE}
theorem LE{S:AE}{p i:Nat}(hi:i<2){f:FuncId}{x0:Bool}{a0:Option (Nat×Nat)}{n0:Nat}{c0:Option Nat}{x1:Bool}{a1:Option (Nat×Nat)}{n1:Nat}{c1:Option Nat}{ri:Nat}
  (hp:p+1<S.next) (hb:S.heap.get p=some (BX x0 (.slice a0 n0 c0))) (hel:AF Tryz.prog S 61 (.ptr (some (ri,0+i * 2)))=some (.agg [.bool x1,.slice a1 n1 c1])) {r:Int}
  (hf:∀ (s:AE) (K:AV→AE→Prop),A8 S.next S s→(∀s' v,A8 s.next s s'→BR s.next s' v r→K v s')→WF E f [.agg [.bool x0,.slice a0 n0 c0],.agg [.bool x1,.slice a1 n1 c1]] K s)
  {Q:Au→Prop} {y0 y1 y5 y9:AV}
  (hgo:∀ (s':AE) (x2:Bool) (a2:Option (Nat×Nat)) (n2:Nat) (c2:Option Nat) (y5 y9:AV),S.next≤s'.next→(∀j,j<S.next→j≠p→s'.heap.get j=S.heap.get j)→s'.heap.get p=some (BX x2 (.slice a2 n2 c2))→BR S.next s' (.agg [.bool x2,.slice a2 n2 c2]) r →
   WC E none (.loop Hz) Q [y0,y1,.func f [] [],.ptr (some (p,0)),.ptr (some (p+1,0)),y5,.slice (some (ri,0)) 2 (some 2),iv 2,iv ((i+1:Nat):Int),y9] [] s'):
  WC E none (.loop Hz) Q [y0,y1,.func f [] [],.ptr (some (p,0)),.ptr (some (p+1,0)),y5,.slice (some (ri,0)) 2 (some 2),iv 2,iv (i:Int),y9] [] S:=by
 have dd:decide ((i:Int)<2)=true:=decide_eq_true (by omega)
 have e1:=Aw (cap:=some 2) (i:=ri) (o:=0) (n:=2) Tryz.underlying304 CH (show i<2 from hi)
 have e17:=By Tryz.prog 3 (i:Int) 1 ⟨by omega,by omega⟩
 have e17':((i:Int)+1)=((i+1:Nat):Int):=by omega
 refine WC.loop' ?_
 generalize hW:WC E none (Ab.loop Hz) Q=WW
 obtain⟨m1,o1,g1⟩:=GS S ZI
 simp only[Hz,PZ,WA,Rx,dd,e1,hel,Da,Xb,Qa,Qb,Qc,Qd,Qe,Qf,Qg,Qh,Qi,Qj,Qk,Ql,Qm,Qn,true_and,and_true,Qo,Qp,Qq,Qr,Qs,Qt,Qu,Qv,Qw,Qx,Qy,Qz,Ra,Rb,Rc,Rd,Re,Rf,Rg,Rh,Ri,Rj,Rk,Rm,Rn,Ro,Rp,Rq,Rs,Ya,Yb,Yc,Rt,Ru,Za,Yd,Ye,Rx,Ry,Rz,Wa,Wb,Wc,Wd]
 generalize hs1:newObj S ZI=s1 at *
 have st:=A5 (P:=Tryz.prog) (t:=61) (cs:=[.bool x1,.slice a1 n1 c1]) CH g1 rfl rfl rfl (by simp)
 generalize hs2:setObj s1 S.next (R 61 0 false [.bool x1,.slice a1 n1 c1])=s2 at st
 have o2:A8 S.next S s2:=by rw[← hs2];exact o1.set (fu _) _
 have n2:s2.next=S.next+1:=by rw[← hs2];exact m1
 have k1:s2.heap.get p=some (BX x0 (.slice a0 n0 c0)):=(o2.2 p (by omega)).trans hb
 have k2:s2.heap.get S.next=some (R 61 0 false [.bool x1,.slice a1 n1 c1]):=by rw[← hs2,Wv]
 have l1:=Aj (P:=Tryz.prog) (t:=61) DY CH k1 rfl
 have l2:=Aj (P:=Tryz.prog) (t:=61) DY CH k2 rfl
 simp only[WB,st,l1,l2,Xx,Xz,Qa,Qb,Qc,Qd,Qe,Qf,Qg,Qh,Qi,Qj,Qk,Ql,Qm,Qn,true_and,and_true,Qo,Qp,Qq,Qr,Qs,Qt,Qu,Qv,Qw,Qx,Qy,Qz,Ra,Rb,Rc,Rd,Re,Rf,Rg,Rh,Ri,Rj,Rk,Rm,Rn,Ro,Rp,Rq,Rs,Ya,Yb,Yc,Rt,Ru,Za,Yd,Ye,Rx,Ry,Rz,Wa,Wb,Wc,Wd]
 refine hf s2 _ o2 fun s3 v3 o3 r3=>?_
 have k3:s3.heap.get p=some (BX x0 (.slice a0 n0 c0)):=(o3.2 p (by omega)).trans k1
 obtain⟨m3,rfl,r3'⟩:=r3
 obtain⟨a3,n3,c3,rfl⟩:=r3'.n32.shape
 have st3:=A5 (P:=Tryz.prog) (t:=61) (cs:=[.bool (decide (r<0)),.slice a3 n3 c3]) CH k3 rfl rfl rfl (by simp)
 simp only[st3,Xx,Xz,WD,e17,e17',Qa,Qb,Qc,Qd,Qe,Qf,Qg,Qh,Qi,Qj,Qk,Ql,Qm,Qn,true_and,and_true,Qo,Qp,Qq,Qr,Qs,Qt,Qu,Qv,Qw,Qx,Qy,Qz,Ra,Rb,Rc,Rd,Re,Rf,Rg,Rh,Ri,Rj,Rk,Rm,Rn,Ro,Rp,Rq,Rs,Ya,Yb,Yc,Rt,Ru,Za,Yd,Ye,Rx,Ry,Rz,Wa,Wb,Wc,Wd]
 rw[← hW]
 have h3:=o3.1
 refine hgo _ (decide (r<0)) a3 n3 c3 _ _ ?_ (fun j hj hne=>?_) (Wv _ _ _) (BR.mono (b:=s2.next) ⟨_,rfl,r3'.set (by omega) _⟩ (by omega))
 ·show S.next≤s3.next;omega
 ·rw[Ww _ hne,o3.2 j (by omega),o2.2 j hj]
theorem SQ(hE:An E){f:FuncId}{v0 vx vy:AV}{z0 x y r:Int}{k0 kx ky ri:Nat}(h0:BI s v0 z0 k0)(hx:BI s vx x kx)(hy:BI s vy y ky){xc yc:List AV}(hxc:vx=.agg xc)(hyc:vy=.agg yc)(hri:ri<s.next)(hrow:s.heap.get ri=some (R 61 2 false (xc++yc)))
  (h1:∀ (s:AE) (va vb:AV) (K:AV→AE→Prop),BI s va z0 k0→BI s vb x kx→(∀s' v,A8 s.next s s'→BR s.next s' v x→K v s')→WF E f [va,vb] K s)
  (h2:∀ (s:AE) (va vb:AV) (K:AV→AE→Prop),BI s va x kx→BI s vb y ky→(∀s' v,A8 s.next s s'→BR s.next s' v r→K v s')→WF E f [va,vb] K s)
  {K:AV→AE→Prop} (hK:∀s' v,A8 s.next s s'→BR s.next s' v r→K v s'):WF E 269 [v0,.slice (some (ri,0)) 2 (some 2),.func f [] []] K s:=by
 have xabs:=hx.abs
 obtain⟨x0,a0,n0,c0,rfl⟩:=h0.shape
 obtain⟨x1,a1,m1,c1,e1⟩:=hx.shape
 obtain⟨x2,a2,m2,c2,e2⟩:=hy.shape
 rw[hxc]at e1;rw[hyc]at e2
 injection e1 with e1;injection e2 with e2
 subst e1;subst e2;subst hxc;subst hyc
 refine hE.go aC (by decide) rfl ?_
 obtain⟨n1,o1,g1,g2⟩:=Ky s (BX x0 (.slice a0 n0 c0)) ZI
 simp only[ee,V8,V9,Wz,Xg,Da,Xb,BM,AW Tryz.underlying304,Qa,Qb,Qc,Qd,Qe,Qf,Qg,Qh,Qi,Qj,Qk,Ql,Qm,Qn,true_and,and_true,Qo,Qp,Qq,Qr,Qs,Qt,Qu,Qv,Qw,Qx,Qy,Qz,Ra,Rb,Rc,Rd,Re,Rf,Rg,Rh,Ri,Rj,Rk,Rm,Rn,Ro,Rp,Rq,Rs,Ya,Yb,Yc,Rt,Ru,Za,Yd,Ye,Rx,Ry,Rz,Wa,Wb,Wc,Wd]
 generalize newObj (newObj s (BX x0 (.slice a0 n0 c0))) ZI=s1 at *
 have hr1:=(o1.2 ri hri).trans hrow
 have el0:AF Tryz.prog s1 61 (.ptr (some (ri,0+0 * 2)))=some (.agg [.bool x1,.slice a1 m1 c1]):=Bh (o:=0) (n:=2) DY CH hr1 (by simp)
 refine LE (S:=s1) (p:=s.next) (i:=0) (by omega) (by omega) g1 el0 (fun s2 K2 o2 hk=>h1 s2 _ _ K2 (h0.old (o1.trans (o2.mono o1.1))) (hx.old (o1.trans (o2.mono o1.1))) hk) fun s2 x3 a3 n3 c3 y5 y9 q1 q2 q3 q4=>?_
 have o12:A8 s.next s s2:=⟨by have:=o1.1;omega,fun j hj=>by rw[q2 j (by omega) (by omega),o1.2 j hj]⟩
 have hr2:=(o12.2 ri hri).trans hrow
 have el1:AF Tryz.prog s2 61 (.ptr (some (ri,0+1 * 2)))=some (.agg [.bool x2,.slice a2 m2 c2]):=Bh (o:=2) (n:=2) DY CH hr2 (by simp)
 refine LE (S:=s2) (p:=s.next) (i:=0+1) (by omega) (by omega) q3 el1 (fun s3 K3 o3 hk=>h2 s3 _ _ K3 ((q4.bi xabs).old o3) (hy.old (o12.trans (o3.mono o12.1))) hk) fun s3 x4 a4 n4 c4 y5 y9 w1 w2 w3 w4=>?_
 have o13:A8 s.next s s3:=⟨by have:=o12.1;omega,fun j hj=>by rw[w2 j (by have:=o12.1;omega) (by omega),o12.2 j hj]⟩
 have dd:decide (((0+1+1:Nat):Int)<2)=false:=rfl
 refine WC.loop' ?_
 have l1:=Aj (P:=Tryz.prog) (t:=61) DY CH w3 rfl
 have g3:s3.heap.get (s.next+1)=some ZI:=by rw[w2 _ (by omega) (by omega),q2 _ (by omega) (by omega)];exact g2
 obtain⟨st,ld⟩:=E9 (s1:=s) (x:=x4) (a:=a4) (n:=n4) (c:=c4) g3
 simp only[Hz,PZ,WE,Rx,dd,l1,st,ld,if_true,AU,Xx,Xz,Qa,Qb,Qc,Qd,Qe,Qf,Qg,Qh,Qi,Qj,Qk,Ql,Qm,Qn,true_and,and_true,Qo,Qp,Qq,Qr,Qs,Qt,Qu,Qv,Qw,Qx,Qy,Qz,Ra,Rb,Rc,Rd,Re,Rf,Rg,Rh,Ri,Rj,Rk,Rm,Rn,Ro,Rp,Rq,Rs,Ya,Yb,Yc,Rt,Ru,Za,Yd,Ye,Rx,Ry,Rz,Wa,Wb,Wc,Wd]
 exact hK _ _ (o13.set (by omega) _) ((w4.set (by omega) _).mono (by have:=o12.1;omega))
theorem IK(x y:Bool)(a b:Option (Nat×Nat))(n m:Nat)(c d:Option Nat):Ak Tryz.prog 304 2 (zipIdx [0,1] [.agg [.bool x,.slice a n c],.agg [.bool y,.slice b m d]])=some (R 61 2 false [.bool x,.slice a n c,.bool y,.slice b m d]):=by kernel_rfl
theorem ZW(s:AE):BI s (.agg [.bool false,.slice none 0 (some 0)]) 0 0:=⟨false,_,[],rfl,(NR.nil 0 s).n32,fun x hx=>(by cases hx),fu _,rfl⟩
theorem ZU(hE:An E){vx vy:AV}{x y:Int}{kx ky ri:Nat}(hx:BI s vx x kx)(hy:BI s vy y ky)(hk:kx+ky+1≤1000000000){xc yc:List AV}(hxc:vx=.agg xc)(hyc:vy=.agg yc)(hri:ri<s.next)(hrow:s.heap.get ri=some (R 61 2 false (xc++yc)))
  {K:AV→AE→Prop} (hK:∀s' v,A8 s.next s s'→BR s.next s' v (x+y)→K v s'):WF E 268 [.slice (some (ri,0)) 2 (some 2)] K s:=by
 refine hE.go Z9 (by decide) rfl ?_
 have hbz:FA Tryz.prog 61 (zipIdx [] [])=some (.agg [.bool false,.slice none 0 (some 0)]):=by kernel_rfl
 obtain⟨n1,o1,g1⟩:=GS s ZI
 simp only[eZ,V6,V7,Da,Xb,hbz,Qa,Qb,Qc,Qd,Qe,Qf,Qg,Qh,Qi,Qj,Qk,Ql,Qm,Qn,true_and,and_true,Qo,Qp,Qq,Qr,Qs,Qt,Qu,Qv,Qw,Qx,Qy,Qz,Ra,Rb,Rc,Rd,Re,Rf,Rg,Rh,Ri,Rj,Rk,Rm,Rn,Ro,Rp,Rq,Rs,Ya,Yb,Yc,Rt,Ru,Za,Yd,Ye,Rx,Ry,Rz,Wa,Wb,Wc,Wd]
 generalize newObj s ZI=s1 at *
 refine SQ hE (ZW s1) (hx.old o1) (hy.old o1) hxc hyc (by omega) ((o1.2 ri hri).trans hrow) (r:=x+y)
  (fun s va vb K ha hb hk'=>NU hE ha hb (by omega) (by rw[Int.zero_add];exact hk')) (fun s va vb K ha hb hk'=>NU hE ha hb hk hk') fun s2 v2 o2 r2=>?_
 obtain⟨m2,rfl,q2⟩:=r2
 obtain⟨a2,n2,c2,rfl⟩:=q2.n32.shape
 obtain⟨st,ld⟩:=E9 (s1:=s) (x:=decide (x+y<0)) (a:=a2) (n:=n2) (c:=c2) ((o2.2 s.next (by omega)).trans g1)
 simp only[st,ld,AU,Xx,Xz,Qa,Qb,Qc,Qd,Qe,Qf,Qg,Qh,Qi,Qj,Qk,Ql,Qm,Qn,true_and,and_true,Qo,Qp,Qq,Qr,Qs,Qt,Qu,Qv,Qw,Qx,Qy,Qz,Ra,Rb,Rc,Rd,Re,Rf,Rg,Rh,Ri,Rj,Rk,Rm,Rn,Ro,Rp,Rq,Rs,Ya,Yb,Yc,Rt,Ru,Za,Yd,Ye,Rx,Ry,Rz,Wa,Wb,Wc,Wd]
 exact hK _ _ ((o1.trans (o2.mono o1.1)).set (fu _) _) (BR.mono (b:=s1.next) ⟨_,rfl,q2.set (by omega) _⟩ (by omega))
theorem RA(hE:An E){vx vy:AV}{x y:Int}{kx ky ri:Nat}(hx:BI s vx x kx)(hy:BI s vy y ky)(hk:kx+ky+1≤1000000000){xc yc:List AV}(hxc:vx=.agg xc)(hyc:vy=.agg yc)(hri:ri<s.next)(hrow:s.heap.get ri=some (R 61 2 false (xc++yc)))
  {K:AV→AE→Prop} (hK:∀s' v,A8 s.next s s'→BR s.next s' v (x * y)→K v s'):WF E 233 [.slice (some (ri,0)) 2 (some 2)] K s:=by
 refine hE.go Z5 (by decide) rfl ?_
 obtain⟨n1,o1,g1⟩:=GS s ZI
 simp only[eV,Vu,Vv,Da,Xb,Qa,Qb,Qc,Qd,Qe,Qf,Qg,Qh,Qi,Qj,Qk,Ql,Qm,Qn,true_and,and_true,Qo,Qp,Qq,Qr,Qs,Qt,Qu,Qv,Qw,Qx,Qy,Qz,Ra,Rb,Rc,Rd,Re,Rf,Rg,Rh,Ri,Rj,Rk,Rm,Rn,Ro,Rp,Rq,Rs,Ya,Yb,Yc,Rt,Ru,Za,Yd,Ye,Rx,Ry,Rz,Wa,Wb,Wc,Wd]
 generalize newObj s ZI=s1 at *
 refine NX hE (n:=1) (.inr (.inl rfl)) fun s2 v2 o2 r2=>?_
 have h12:=o1.trans (o2.mono o1.1)
 simp only[Qa,Qb,Qc,Qd,Qe,Qf,Qg,Qh,Qi,Qj,Qk,Ql,Qm,Qn,true_and,and_true,Qo,Qp,Qq,Qr,Qs,Qt,Qu,Qv,Qw,Qx,Qy,Qz,Ra,Rb,Rc,Rd,Re,Rf,Rg,Rh,Ri,Rj,Rk,Rm,Rn,Ro,Rp,Rq,Rs,Ya,Yb,Yc,Rt,Ru,Za,Yd,Ye,Rx,Ry,Rz,Wa,Wb,Wc,Wd]
 refine SQ hE (r2.bi (k:=1) (by decide)) (hx.old h12) (hy.old h12) hxc hyc (by have:=h12.1;omega) ((h12.2 ri hri).trans hrow) (r:=x * y)
  (fun s va vb K ha hb hk'=>NY hE ha hb (by omega) (by rw[Int.one_mul];exact hk')) (fun s va vb K ha hb hk'=>NY hE ha hb (by omega) hk') fun s3 v3 o3 r3=>?_
 have h2:=o2.1
 obtain⟨m3,rfl,q3⟩:=r3
 obtain⟨a3,n3,c3,rfl⟩:=q3.n32.shape
 obtain⟨st,ld⟩:=E9 (s1:=s) (x:=decide (x * y<0)) (a:=a3) (n:=n3) (c:=c3) ((o3.2 s.next (by omega)).trans ((o2.2 s.next (by omega)).trans g1))
 simp only[st,ld,AU,Xx,Xz,Qa,Qb,Qc,Qd,Qe,Qf,Qg,Qh,Qi,Qj,Qk,Ql,Qm,Qn,true_and,and_true,Qo,Qp,Qq,Qr,Qs,Qt,Qu,Qv,Qw,Qx,Qy,Qz,Ra,Rb,Rc,Rd,Re,Rf,Rg,Rh,Ri,Rj,Rk,Rm,Rn,Ro,Rp,Rq,Rs,Ya,Yb,Yc,Rt,Ru,Za,Yd,Ye,Rx,Ry,Rz,Wa,Wb,Wc,Wd]
 exact hK _ _ ((h12.trans (o3.mono h12.1)).set (fu _) _) (BR.mono (b:=s2.next) ⟨_,rfl,q3.set (by omega) _⟩ (by omega))
end
theorem QP(z:Int):(z<0∧Iz z=-1)∨(z=0∧Iz z=0)∨(0<z∧Iz z=1):=by
  unfold Iz
  by_cases h1:z<0
  · exact .inl ⟨h1,if_pos h1⟩
  · by_cases h2 : 0 < z
    · exact .inr (.inr ⟨h2,by rw[if_neg h1,if_pos h2]⟩)
    · exact .inr (.inl ⟨by omega,by rw[if_neg h1,if_neg h2]⟩)
section
variable{E:Cg}{s:AE}
end
end
end Go.Proofs.YtfgmceookgelcaaGreatDoor.Am
set_option linter.unusedVariables false
set_option linter.unusedSimpArgs false
set_option maxRecDepth 100000
namespace Go.Proofs.YtfgmceookgelcaaGreatDoor.Am
open Go Go.Proofs
noncomputable section
theorem Cu:A2 Tryz.prog 63=some 3:=by kernel_rfl
theorem E7:EM Tryz.prog 63=some true:=by kernel_rfl
theorem Js(i o:Nat):AP Tryz.prog 63 (.ptr (some (i,o))) 0=some (.ptr (some (i,o+0))):=by kernel_rfl
theorem Pq(i o:Nat):AP Tryz.prog 63 (.ptr (some (i,o))) 1=some (.ptr (some (i,o+2))):=by kernel_rfl
def UE:List AC:=[
 ⟨none,.p1 some,[(.const (.slice none 0 (some 0)))],(.set 0),[]⟩]
def UF:List AC:=[
 ⟨none,.call 167,[(.const (.int .u64 (1)))],.push,[]⟩,
 ⟨none,.p1 some,[.loc 0],(.set 0),[]⟩]
def dy:Ay:=⟨0,1,(.seq (.ops UE) (.seq (.ops UF) .ret)),[((.var 0),none)]⟩
def T8:List AC:=[
 ⟨none,.mk (fun l=>match l with | [v]=>Cr 61 v | _=>none),[.var 0],(.set 2),[]⟩,
 ⟨none,.mk (fun l=>match l with | []=>Ar Tryz.prog 63 | _=>none),[],(.set 3),[]⟩]
def T9:List AC:=[
 ⟨none,.p1 (fun x=>AP Tryz.prog 61 x 0),[.var 2],.push,[]⟩,
 ⟨none,.r1 (fun s a=>AF Tryz.prog s 4 a),[.loc 0],.push,[]⟩,
 ⟨none,.p1 (fun x=>AP Tryz.prog 61 x 1),[.var 2],.push,[]⟩,
 ⟨none,.r1 (fun s a=>AF Tryz.prog s 59 a),[.loc 0],.push,[]⟩,
 ⟨none,.call 164,[.loc 2,.loc 0],.push,[]⟩,
 ⟨none,.e (fun s=>Xx (fun a x=>Xz (AZ Tryz.prog s 61 a x))),[.var 2,.loc 0],.push,[]⟩]
def UA:List AC:=[
 ⟨none,.p1 (fun x=>AP Tryz.prog 61 x 1),[.var 2],.push,[]⟩,
 ⟨none,.r1 (fun s a=>AF Tryz.prog s 59 a),[.loc 0],.push,[]⟩,
 ⟨none,.call 165,[.loc 0,.var 1],.push,[]⟩,
 ⟨none,.p1 some,[.loc 0],(.set 4),[]⟩]
def UB:List AC:=[
 ⟨none,.p1 (fun x=>AP Tryz.prog 61 x 1),[.var 2],.push,[]⟩,
 ⟨none,.r1 (fun s a=>AF Tryz.prog s 59 a),[.loc 0],.push,[]⟩,
 ⟨none,.call 166,[.loc 0,.var 4],.push,[]⟩,
 ⟨none,.p1 (fun x=>Za x 0),[.loc 0],.push,[]⟩,
 ⟨none,.p1 (fun x=>Za x 1),[.loc 1],.push,[]⟩,
 ⟨none,.p1 (fun x=>Za x 2),[.loc 2],.push,[]⟩,
 ⟨none,.p1 some,[.loc 2],(.set 5),[]⟩,
 ⟨none,.p1 some,[.loc 1],.push,[]⟩,
 ⟨none,.p1 some,[.loc 1],.push,[]⟩]
def UC:List AC:=[
 ⟨none,.call 166,[.var 1,.var 4],.push,[]⟩,
 ⟨none,.p1 (fun x=>Za x 0),[.loc 0],.push,[]⟩,
 ⟨none,.p1 (fun x=>Za x 1),[.loc 1],.push,[]⟩,
 ⟨none,.p1 (fun x=>Za x 2),[.loc 2],.push,[]⟩,
 ⟨none,.p1 some,[.loc 2],(.set 6),[]⟩,
 ⟨none,.p1 some,[.loc 1],.push,[]⟩,
 ⟨none,.p1 some,[.loc 1],.push,[]⟩]
def UD:List AC:=[
 ⟨none,.p1 (fun x=>AP Tryz.prog 61 x 0),[.var 2],.push,[]⟩,
 ⟨none,.r1 (fun s a=>AF Tryz.prog s 4 a),[.loc 0],.push,[]⟩,
 ⟨none,.call 164,[.loc 0,.var 5],.push,[]⟩,
 ⟨none,.p (fun l=>FA Tryz.prog 63 (zipIdx [0,1] l)),[.loc 0,.var 6],.push,[]⟩,
 ⟨none,.e (fun s=>Xx (fun a x=>Xz (AZ Tryz.prog s 63 a x))),[.var 3,.loc 0],.push,[]⟩]
def dx:Ay:=⟨2,7,(.seq (.ops T8) (.seq (.ops T9) (.seq (.ops UA) (.seq (.ops UB) (.seq (.ops UC) (.seq (.ops UD) .ret)))))),[((.var 3),some 63)]⟩
def Vr:List AC:=[
 ⟨none,.mk (fun l=>match l with | [v]=>Cr 63 v | _=>none),[.var 0],(.set 1),[]⟩,
 ⟨none,.mk (fun l=>match l with | []=>Ar Tryz.prog 63 | _=>none),[],(.set 2),[]⟩]
def Vs:List AC:=[
 ⟨none,.p1 (fun x=>AP Tryz.prog 63 x 1),[.var 1],.push,[]⟩,
 ⟨none,.r1 (fun s a=>AF Tryz.prog s 59 a),[.loc 0],.push,[]⟩,
 ⟨none,.call 208,[.loc 0],.push,[]⟩,
 ⟨none,.p1 some,[.loc 0],(.set 3),[]⟩]
def PV:List AC:=[
 ⟨none,.r (fun s l=>match l with | [x]=>Bk Tryz.prog s 59 x | _=>none),[.var 3],.push,[]⟩,
 ⟨none,.p2 (AN Tryz.prog .eql 3),[(.loc 0),(.const (.int .i64 (0)))],(.set 4),[]⟩]
def Vt:List AC:=[
 ⟨none,.call 129,[],.push,[]⟩,
 ⟨none,.p1 some,[.loc 0],(.set 3),[]⟩]
def PW:List AC:=[
 ⟨none,.p1 (fun x=>AP Tryz.prog 63 x 0),[.var 1],.push,[]⟩,
 ⟨none,.r1 (fun s a=>AF Tryz.prog s 61 a),[.loc 0],.push,[]⟩,
 ⟨none,.call 128,[.loc 0,.var 3],.push,[]⟩,
 ⟨none,.e (fun s=>Xx (fun a x=>Xz (AZ Tryz.prog s 63 a x))),[.var 2,.loc 0],.push,[]⟩]
def eU:Ay:=⟨1,5,(.seq (.ops Vr) (.seq (.ops Vs) (.seq (.seq (.ops PV) (.cond (.var 4)
 (.ops Vt)
 .skip)) (.seq (.ops PW) .ret)))),[((.var 2),some 63)]⟩
def Vc:List AC:=[
 ⟨none,.mk (fun l=>match l with | [v]=>Cr 63 v | _=>none),[.var 0],(.set 2),[]⟩,
 ⟨none,.mk (fun l=>match l with | []=>Ar Tryz.prog 63 | _=>none),[],(.set 3),[]⟩]
def Vd:List AC:=[
 ⟨none,.r1 (fun s a=>AF Tryz.prog s 63 a),[.var 2],.push,[]⟩,
 ⟨none,.call 232,[.loc 0],.push,[]⟩,
 ⟨none,.callv,[.var 1,.loc 0],.push,[]⟩,
 ⟨none,.e (fun s=>Xx (fun a x=>Xz (AZ Tryz.prog s 63 a x))),[.var 3,.loc 0],.push,[]⟩]
def eR:Ay:=⟨2,4,(.seq (.ops Vc) (.seq (.ops Vd) .ret)),[((.var 3),some 63)]⟩
def V2:List AC:=[
 ⟨none,.mk (fun l=>match l with | [v]=>Cr 63 v | _=>none),[.var 0],(.set 3),[]⟩,
 ⟨none,.mk (fun l=>match l with | [v]=>Cr 63 v | _=>none),[.var 1],(.set 4),[]⟩,
 ⟨none,.mk (fun l=>match l with | [v]=>Cr 303 v | _=>none),[.var 2],(.set 5),[]⟩,
 ⟨none,.mk (fun l=>match l with | []=>Ar Tryz.prog 63 | _=>none),[],(.set 6),[]⟩]
def V3:List AC:=[
 ⟨none,.r1 (fun s a=>AF Tryz.prog s 63 a),[.var 3],.push,[]⟩,
 ⟨none,.p (fun l=>some (.func 284 (l.take 0) (l.drop 0))),[.var 4,.var 5],.push,[]⟩,
 ⟨none,.call 224,[.loc 1,.loc 0],.push,[]⟩,
 ⟨none,.e (fun s=>Xx (fun a x=>Xz (AZ Tryz.prog s 63 a x))),[.var 6,.loc 0],.push,[]⟩]
def eX:Ay:=⟨3,7,(.seq (.ops V2) (.seq (.ops V3) .ret)),[((.var 6),some 63)]⟩
def WZ:List AC:=[
 ⟨none,.mk (fun l=>match l with | [v]=>Cr 63 v | _=>none),[.var 0],(.set 3),[]⟩,
 ⟨none,.mk (fun l=>match l with | []=>Ar Tryz.prog 63 | _=>none),[],(.set 4),[]⟩]
def Wh:List AC:=[
 ⟨none,.r1 (fun s a=>AF Tryz.prog s 63 a),[.var 1],.push,[]⟩,
 ⟨none,.p (fun l=>some (.func 285 (l.take 0) (l.drop 0))),[.var 2,.var 3],.push,[]⟩,
 ⟨none,.call 224,[.loc 1,.loc 0],.push,[]⟩,
 ⟨none,.e (fun s=>Xx (fun a x=>Xz (AZ Tryz.prog s 63 a x))),[.var 4,.loc 0],.push,[]⟩]
def em:Ay:=⟨3,5,(.seq (.ops WZ) (.seq (.ops Wh) .ret)),[((.var 4),some 63)]⟩
def Wi:List AC:=[
 ⟨none,.mk (fun l=>match l with | [v]=>Cr 63 v | _=>none),[.var 0],(.set 3),[]⟩,
 ⟨none,.mk (fun l=>match l with | []=>Ar Tryz.prog 63 | _=>none),[],(.set 4),[]⟩]
def Wj:List AC:=[
 ⟨none,.p1 some,[(.const (.func 286 [] []))],(.set 5),[]⟩]
def Wk:List AC:=[
 ⟨none,.r1 (fun s a=>AF Tryz.prog s 303 a),[.var 1],.push,[]⟩,
 ⟨none,.p1 (fun x=>AP Tryz.prog 63 x 0),[.var 2],.push,[]⟩,
 ⟨none,.r1 (fun s a=>AF Tryz.prog s 61 a),[.loc 0],.push,[]⟩,
 ⟨none,.p1 (fun x=>AP Tryz.prog 63 x 1),[.var 3],.push,[]⟩,
 ⟨none,.r1 (fun s a=>AF Tryz.prog s 59 a),[.loc 0],.push,[]⟩,
 ⟨none,.p1 (fun x=>AP Tryz.prog 63 x 0),[.var 3],.push,[]⟩,
 ⟨none,.r1 (fun s a=>AF Tryz.prog s 61 a),[.loc 0],.push,[]⟩,
 ⟨none,.p1 (fun x=>AP Tryz.prog 63 x 1),[.var 2],.push,[]⟩,
 ⟨none,.r1 (fun s a=>AF Tryz.prog s 59 a),[.loc 0],.push,[]⟩,
 ⟨none,.p1 (fun x=>AP Tryz.prog 63 x 1),[.var 2],.push,[]⟩,
 ⟨none,.r1 (fun s a=>AF Tryz.prog s 59 a),[.loc 0],.push,[]⟩,
 ⟨none,.p1 (fun x=>AP Tryz.prog 63 x 1),[.var 3],.push,[]⟩,
 ⟨none,.r1 (fun s a=>AF Tryz.prog s 59 a),[.loc 0],.push,[]⟩,
 ⟨none,.callv,[.var 5,.loc 10,.loc 8],.push,[⟨none,.r1 (fun s a=>AF Tryz.prog s 59 a),[.loc 2],(.loc 1)⟩,⟨none,.r1 (fun s a=>AF Tryz.prog s 59 a),[.loc 4],(.loc 3)⟩,⟨none,.r1 (fun s a=>AF Tryz.prog s 59 a),[.loc 6],(.loc 5)⟩,⟨none,.r1 (fun s a=>AF Tryz.prog s 61 a),[.loc 8],(.loc 7)⟩,⟨none,.r1 (fun s a=>AF Tryz.prog s 303 a),[.var 1],(.loc 13)⟩]⟩,
 ⟨none,.callv,[.var 5,.loc 7,.loc 5],.push,[⟨none,.r1 (fun s a=>AF Tryz.prog s 59 a),[.loc 3],(.loc 2)⟩,⟨none,.r1 (fun s a=>AF Tryz.prog s 59 a),[.loc 5],(.loc 4)⟩,⟨none,.r1 (fun s a=>AF Tryz.prog s 303 a),[.var 1],(.loc 14)⟩]⟩,
 ⟨none,.call 172,[.loc 4,.loc 2],.push,[⟨none,.r1 (fun s a=>AF Tryz.prog s 303 a),[.var 1],(.loc 15)⟩]⟩,
 ⟨none,.callv,[.loc 15,.loc 2,.loc 1,.loc 0],.push,[]⟩,
 ⟨none,.e (fun s=>Xx (fun a x=>Xz (AZ Tryz.prog s 63 a x))),[.var 4,.loc 0],.push,[]⟩]
def en:Ay:=⟨3,6,(.seq (.ops Wi) (.seq (.ops Wj) (.seq (.ops Wk) .ret))),[((.var 4),some 63)]⟩
def Wl:List AC:=[
 ⟨none,.mk (fun l=>match l with | [v]=>Cr 61 v | _=>none),[.var 0],(.set 2),[]⟩,
 ⟨none,.mk (fun l=>match l with | []=>Ar Tryz.prog 61 | _=>none),[],(.set 3),[]⟩]
def Wm:List AC:=[
 ⟨none,.r1 (fun s a=>AF Tryz.prog s 61 a),[.var 2],.push,[]⟩,
 ⟨none,.call 164,[(.const (.bool false)),(.var 1)],.push,[⟨none,.r1 (fun s a=>AF Tryz.prog s 61 a),[.var 2],(.loc 1)⟩]⟩,
 ⟨none,.mk (fun l=>(Ak Tryz.prog 304 2 (zipIdx [0,1] l)).bind fun r=>some (r,.slice 2)),[.loc 1,.loc 0],.push,[]⟩,
 ⟨none,.call 233,[.loc 0],.push,[]⟩,
 ⟨none,.e (fun s=>Xx (fun a x=>Xz (AZ Tryz.prog s 61 a x))),[.var 3,.loc 0],.push,[]⟩]
def eo:Ay:=⟨2,4,(.seq (.ops Wl) (.seq (.ops Wm) .ret)),[((.var 3),some 61)]⟩
def Vk:List AC:=[
 ⟨none,.mk (fun l=>match l with | []=>Ar Tryz.prog 63 | _=>none),[],(.set 1),[]⟩]
def Vl:List AC:=[
 ⟨none,.r1 (fun s a=>AF Tryz.prog s 63 a),[.var 1],.push,[]⟩,
 ⟨none,.call 232,[.loc 0],.push,[]⟩,
 ⟨none,.e (fun s=>Xx (fun a x=>Xz (AZ Tryz.prog s 63 a x))),[.var 1,.loc 0],.push,[]⟩]
def Vm:List AC:=[
 ⟨none,.p1 some,[.var 0],(.set 3),[]⟩,
 ⟨none,.r (fun s l=>match l with | [x]=>Bk Tryz.prog s 64 x | _=>none),[.var 3],(.set 4),[]⟩,
 ⟨none,.p1 some,[(.const (.int .i64 (0)))],(.set 5),[]⟩]
def PU:List AC:=[
 ⟨none,.p2 (AN Tryz.prog .lss 3),[.var 5,.var 4],(.set 6),[]⟩]
def Vn:List AC:=[
 ⟨none,.p2 (AQ Tryz.prog 64),[.var 3,.var 5],.push,[]⟩,
 ⟨none,.r1 (fun s a=>AF Tryz.prog s 63 a),[.loc 0],.push,[]⟩,
 ⟨none,.mk (fun l=>match l with | []=>Ar Tryz.prog 63 | _=>none),[],(.set 2),[]⟩,
 ⟨none,.e (fun s=>Xx (fun a x=>Xz (AZ Tryz.prog s 63 a x))),[.var 2,.loc 0],.push,[]⟩]
def Vo:List AC:=[
 ⟨none,.r1 (fun s a=>AF Tryz.prog s 63 a),[.var 1],.push,[]⟩,
 ⟨none,.r1 (fun s a=>AF Tryz.prog s 63 a),[.var 2],.push,[]⟩,
 ⟨none,.call 266,[(.loc 1),(.loc 0),(.const (.func 267 [] []))],.push,[]⟩,
 ⟨none,.e (fun s=>Xx (fun a x=>Xz (AZ Tryz.prog s 63 a x))),[.var 1,.loc 0],.push,[]⟩]
def Vp:List AC:=[
 ⟨none,.p2 (AN Tryz.prog .add 3),[(.var 5),(.const (.int .i64 (1)))],.push,[]⟩,
 ⟨none,.p1 some,[.loc 0],(.set 5),[]⟩]
def Hx:Ab:=(.seq (.ops PU) (.seq (.cond (.var 6)
 .skip
 (.exit 0)) (.seq (.block 1 (.seq (.ops Vn) (.ops Vo))) (.ops Vp))))
def Vq:List AC:=[
 ⟨none,.r1 (fun s a=>AF Tryz.prog s 63 a),[.var 1],.push,[]⟩,
 ⟨none,.e (fun s=>Xx (fun a x=>Xz (AZ Tryz.prog s 63 a x))),[.var 1,.loc 0],.push,[]⟩]
def eT:Ay:=⟨1,7,(.seq (.ops Vk) (.seq (.ops Vl) (.seq (.seq (.ops Vm) (.block 0 (.loop Hx))) (.seq (.ops Vq) .ret)))),[((.var 1),some 63)]⟩
def V4:List AC:=[
 ⟨none,.mk (fun l=>match l with | [v]=>Cr 61 v | _=>none),[.var 0],(.set 3),[]⟩,
 ⟨none,.mk (fun l=>match l with | [v]=>Cr 61 v | _=>none),[.var 1],(.set 4),[]⟩,
 ⟨none,.mk (fun l=>match l with | []=>Ar Tryz.prog 63 | _=>none),[],(.set 5),[]⟩]
def V5:List AC:=[
 ⟨none,.r1 (fun s a=>AF Tryz.prog s 61 a),[.var 3],.push,[]⟩,
 ⟨none,.r1 (fun s a=>AF Tryz.prog s 61 a),[.var 4],.push,[]⟩,
 ⟨none,.mk (fun l=>(Ak Tryz.prog 304 2 (zipIdx [0,1] l)).bind fun r=>some (r,.slice 2)),[.loc 1,.loc 0],.push,[]⟩,
 ⟨none,.call 268,[.loc 0],.push,[]⟩,
 ⟨none,.call 128,[.loc 0,.var 2],.push,[]⟩,
 ⟨none,.e (fun s=>Xx (fun a x=>Xz (AZ Tryz.prog s 63 a x))),[.var 5,.loc 0],.push,[]⟩]
def eY:Ay:=⟨3,6,(.seq (.ops V4) (.seq (.ops V5) .ret)),[((.var 5),some 63)]⟩
def Uk:List AC:=[
 ⟨none,.mk (fun l=>match l with | [v]=>Cr 63 v | _=>none),[.var 0],(.set 2),[]⟩,
 ⟨none,.mk (fun l=>match l with | [v]=>Cr 63 v | _=>none),[.var 1],(.set 3),[]⟩,
 ⟨none,.mk (fun l=>match l with | []=>Ar Tryz.prog 63 | _=>none),[],(.set 4),[]⟩]
def Ul:List AC:=[
 ⟨none,.r1 (fun s a=>AF Tryz.prog s 63 a),[.var 2],.push,[]⟩,
 ⟨none,.r1 (fun s a=>AF Tryz.prog s 63 a),[.var 3],.push,[]⟩,
 ⟨none,.mk (fun l=>(Ak Tryz.prog 64 2 (zipIdx [0,1] l)).bind fun r=>some (r,.slice 2)),[.loc 1,.loc 0],.push,[]⟩,
 ⟨none,.call 231,[.loc 0],.push,[]⟩,
 ⟨none,.e (fun s=>Xx (fun a x=>Xz (AZ Tryz.prog s 63 a x))),[.var 4,.loc 0],.push,[]⟩]
def eH:Ay:=⟨2,5,(.seq (.ops Uk) (.seq (.ops Ul) .ret)),[((.var 4),some 63)]⟩
def Um:List AC:=[
 ⟨none,.mk (fun l=>match l with | [v]=>Cr 63 v | _=>none),[.var 0],(.set 2),[]⟩,
 ⟨none,.mk (fun l=>match l with | [v]=>Cr 63 v | _=>none),[.var 1],(.set 3),[]⟩,
 ⟨none,.mk (fun l=>match l with | []=>Ar Tryz.prog 63 | _=>none),[],(.set 4),[]⟩]
def Un:List AC:=[
 ⟨none,.r1 (fun s a=>AF Tryz.prog s 63 a),[.var 2],.push,[]⟩,
 ⟨none,.r1 (fun s a=>AF Tryz.prog s 63 a),[.var 3],.push,[]⟩,
 ⟨none,.call 232,[.loc 1],.push,[⟨none,.r1 (fun s a=>AF Tryz.prog s 63 a),[.var 3],(.loc 1)⟩]⟩,
 ⟨none,.call 232,[.loc 1],.push,[]⟩,
 ⟨none,.e (fun s=>Xx (fun a x=>Xz (AZ Tryz.prog s 63 a x))),[.var 2,.loc 1],.push,[]⟩,
 ⟨none,.e (fun s=>Xx (fun a x=>Xz (AZ Tryz.prog s 63 a x))),[.var 3,.loc 1],.push,[]⟩]
def Uo:List AC:=[
 ⟨none,.p1 (fun x=>AP Tryz.prog 63 x 0),[.var 2],.push,[]⟩,
 ⟨none,.r1 (fun s a=>AF Tryz.prog s 61 a),[.loc 0],.push,[]⟩,
 ⟨none,.p1 (fun x=>AP Tryz.prog 63 x 0),[.var 3],.push,[]⟩,
 ⟨none,.r1 (fun s a=>AF Tryz.prog s 61 a),[.loc 0],.push,[]⟩,
 ⟨none,.mk (fun l=>(Ak Tryz.prog 304 2 (zipIdx [0,1] l)).bind fun r=>some (r,.slice 2)),[.loc 2,.loc 0],.push,[]⟩,
 ⟨none,.p1 (fun x=>AP Tryz.prog 63 x 1),[.var 2],.push,[]⟩,
 ⟨none,.r1 (fun s a=>AF Tryz.prog s 59 a),[.loc 0],.push,[]⟩,
 ⟨none,.p1 (fun x=>AP Tryz.prog 63 x 1),[.var 3],.push,[]⟩,
 ⟨none,.r1 (fun s a=>AF Tryz.prog s 59 a),[.loc 0],.push,[]⟩,
 ⟨none,.call 233,[.loc 4],.push,[⟨none,.r1 (fun s a=>AF Tryz.prog s 59 a),[.loc 2],(.loc 1)⟩,⟨none,.r1 (fun s a=>AF Tryz.prog s 59 a),[.loc 4],(.loc 3)⟩]⟩,
 ⟨none,.call 172,[.loc 3,.loc 1],.push,[]⟩,
 ⟨none,.call 128,[.loc 1,.loc 0],.push,[]⟩,
 ⟨none,.e (fun s=>Xx (fun a x=>Xz (AZ Tryz.prog s 63 a x))),[.var 4,.loc 0],.push,[]⟩]
def eI:Ay:=⟨2,5,(.seq (.ops Um) (.seq (.ops Un) (.seq (.ops Uo) .ret))),[((.var 4),some 63)]⟩
def UG:List AC:=[
 ⟨none,.mk (fun l=>match l with | [v]=>Cr 63 v | _=>none),[.var 0],(.set 1),[]⟩,
 ⟨none,.p1 some,[(.const (.int .i64 (0)))],(.set 2),[]⟩]
def UH:List AC:=[
 ⟨none,.p1 (fun x=>AP Tryz.prog 63 x 0),[.var 1],.push,[]⟩,
 ⟨none,.r1 (fun s a=>AF Tryz.prog s 61 a),[.loc 0],.push,[]⟩,
 ⟨none,.call 170,[.loc 0],.push,[]⟩,
 ⟨none,.p1 some,[.loc 0],(.set 2),[]⟩]
def dz:Ay:=⟨1,3,(.seq (.ops UG) (.seq (.ops UH) .ret)),[((.var 2),none)]⟩
def bl:List AC:=[
 ⟨none,.mk (fun l=>match l with | []=>Ar Tryz.prog 63 | _=>none),[],(.set 1),[]⟩]
def bo:List AC:=[
 ⟨none,.call 127,[.var 0],.push,[]⟩,
 ⟨none,.call 94,[.loc 0],.push,[]⟩,
 ⟨none,.e (fun s=>Xx (fun a x=>Xz (AZ Tryz.prog s 63 a x))),[.var 1,.loc 0],.push,[]⟩]
def fg:Ay:=⟨1,2,(.seq (.ops bl) (.seq (.ops bo) .ret)),[((.var 1),some 63)]⟩
def bp:List AC:=[
 ⟨none,.mk (fun l=>match l with | [v]=>Cr 61 v | _=>none),[.var 0],(.set 1),[]⟩,
 ⟨none,.mk (fun l=>match l with | []=>Ar Tryz.prog 63 | _=>none),[],(.set 2),[]⟩]
def bu:List AC:=[
 ⟨none,.r1 (fun s a=>AF Tryz.prog s 61 a),[.var 1],.push,[]⟩,
 ⟨none,.call 129,[],.push,[⟨none,.r1 (fun s a=>AF Tryz.prog s 61 a),[.var 1],(.loc 1)⟩]⟩,
 ⟨none,.call 128,[.loc 1,.loc 0],.push,[]⟩,
 ⟨none,.e (fun s=>Xx (fun a x=>Xz (AZ Tryz.prog s 63 a x))),[.var 2,.loc 0],.push,[]⟩]
def fh:Ay:=⟨1,3,(.seq (.ops bp) (.seq (.ops bu) .ret)),[((.var 2),some 63)]⟩
theorem Zk:AS Tryz.prog 129=some dy:=by kernel_rfl
theorem Zj:AS Tryz.prog 128=some dx:=by kernel_rfl
theorem Z4:AS Tryz.prog 232=some eU:=by kernel_rfl
theorem Z1:AS Tryz.prog 224=some eR:=by kernel_rfl
theorem Z7:AS Tryz.prog 266=some eX:=by kernel_rfl
theorem aH:AS Tryz.prog 284=some em:=by kernel_rfl
theorem aI:AS Tryz.prog 285=some en:=by kernel_rfl
theorem aJ:AS Tryz.prog 286=some eo:=by kernel_rfl
theorem Z3:AS Tryz.prog 231=some eT:=by kernel_rfl
theorem Z8:AS Tryz.prog 267=some eY:=by kernel_rfl
theorem Zr:AS Tryz.prog 183=some eH:=by kernel_rfl
theorem Zs:AS Tryz.prog 184=some eI:=by kernel_rfl
theorem Zl:AS Tryz.prog 132=some dz:=by kernel_rfl
theorem cZ:AS Tryz.prog 93=some fg:=by kernel_rfl
theorem ce:AS Tryz.prog 94=some fh:=by kernel_rfl
end
end Go.Proofs.YtfgmceookgelcaaGreatDoor.Am
