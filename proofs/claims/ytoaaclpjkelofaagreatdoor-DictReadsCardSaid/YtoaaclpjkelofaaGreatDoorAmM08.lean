/- package logic, the making of forms, printed by a program of ours (dev/Print2.lean) and checked by the kernel; conditions: none. -/
import Derived.Test.YtoaaclpjkelofaaGreatDoorAmM06
import Derived.Test.YtoaaclpjkelofaaGreatDoorAmM05
import Derived.Test.YtoaaclpjkelofaaGreatDoorAmM07
set_option linter.all false
set_option maxRecDepth 100000
namespace Go.Proofs.YtoaaclpjkelofaaGreatDoor.Am
open Go Go.Proofs
noncomputable section
open Tryz
theorem Ho(i o:Nat):CL prog 49 (.ptr (some (i,o))) 0=some (.ptr (some (i,o+0))):=by kernel_rfl
theorem GS(i o:Nat):CL prog 49 (.ptr (some (i,o))) 1=some (.ptr (some (i,o+1))):=by kernel_rfl
theorem Zo(i o:Nat):CL prog 49 (.ptr (some (i,o))) 2=some (.ptr (some (i,o+2))):=by kernel_rfl
theorem Dt:GG prog 24=some false:=by kernel_rfl
theorem iB:DZ prog 76=some 5:=by kernel_rfl
theorem iX:GG prog 76=some true:=by kernel_rfl
theorem A6n:FV prog 76=some (.agg [(.int .i64 (0)),(.int .i64 (0)),(.int .i64 (0)),(.int .i64 (0)),(.str [])]):=by kernel_rfl
theorem J0(i o:Nat):CL prog 76 (.ptr (some (i,o))) 0=some (.ptr (some (i,o+0))):=by kernel_rfl
theorem nM(i o:Nat):CL prog 76 (.ptr (some (i,o))) 2=some (.ptr (some (i,o+2))):=by kernel_rfl
theorem Ny:DZ prog 86=some 13:=by kernel_rfl
theorem A6L:Fe prog 86=some 200:=by kernel_rfl
theorem qo:GG prog 86=some true:=by kernel_rfl
theorem uS:FV prog 86=some (.agg [(.int .i64 (0)),(.int .i64 (0)),(.int .i64 (0)),(.int .i64 (0)),(.str []),(.slice none 0 (some 0)),(.bool false),(.slice none 0 (some 0)),(.slice none 0 (some 0)),(.slice none 0 (some 0)),(.slice none 0 (some 0)),(.int .i64 (0)),(.str [])]):=by kernel_rfl
theorem JH(i o:Nat):CL prog 86 (.ptr (some (i,o))) 0=some (.ptr (some (i,o+0))):=by kernel_rfl
theorem RH(i o:Nat):CL prog 86 (.ptr (some (i,o))) 1=some (.ptr (some (i,o+5))):=by kernel_rfl
theorem A2y(i o:Nat):CL prog 86 (.ptr (some (i,o))) 2=some (.ptr (some (i,o+6))):=by kernel_rfl
theorem VQ(i o:Nat):CL prog 86 (.ptr (some (i,o))) 3=some (.ptr (some (i,o+11))):=by kernel_rfl
theorem VR(i o:Nat):CL prog 86 (.ptr (some (i,o))) 4=some (.ptr (some (i,o+12))):=by kernel_rfl
theorem A6d:DZ prog 46=some 1:=by kernel_rfl
theorem Lq:GG prog 46=some false:=by kernel_rfl
theorem A0x:GG prog 44=some false:=by kernel_rfl
theorem A5q:DZ prog 57=some 1:=by kernel_rfl
theorem Pn:GG prog 57=some false:=by kernel_rfl
theorem A5u:FV prog 57=some (.map none):=by kernel_rfl
theorem A3a:DZ prog 63=some 0:=by kernel_rfl
theorem iJ:FV prog 63=some (.agg []):=by kernel_rfl
def A4z:List CK:=[Bo Bi [AY] 0]
def A5A:List CK:=[Bn (Bh 24) [],Bn (.mk (fun l=>match l with | []=>(D8 prog 44).bind fun kt=>some (.map kt [],.map) | _=>none)) [],Bn (.mk (fun l=>match l with | []=>(D8 prog 45).bind fun kt=>some (.map kt [],.map) | _=>none)) [],Bn (Be 49 [0,2,4]) [AH,AF,AA],Bn (Ba 49) [AA],Bo Bi [AA] 1]
def A5B:List CK:=[Bn (Bh 21) [AB,An]]
def A5C:List CK:=[Bn (Bh 21) [AB,Ae]]
def A5D:List CK:=[Bo Bi [AB] 0]
def c6:Cr:=⟨0,2,(.seq (.ops A4z) (.seq (.ops A5A) (.seq (.ops A5B) (.seq (.ops A5C) (.seq (.ops A5D) .ret))))),[((.var 0),none)]⟩
def vY:List CK:=[Bo (Ba 4) [AB] 2,Bo Bi [AE] 3]
def vZ:List CK:=[Bo (BX .eql 24) [AC,AY] 5]
def vc:List CK:=[Bo Bi [AE] 3]
def vd:List CK:=[Bo Bi [AL] 4]
def ve:List CK:=[Bo (BT 4) [AD] 6]
def vf:List CK:=[Bo Bi [AE] 4]
def vg:List CK:=[Bn (Be 76 [0]) [AI],Bn (Be 86 []) [],Bn (Bg 47 0 0) [AD],Bn (Bh 41) [AC,AH,AF,AA],Bo Bi [AA] 3]
def A6y:Cr:=⟨2,7,(.seq (.ops vY) (.seq (.seq (.ops vZ) (.cond (.var 5)
 (.seq (.ops vc) .ret)
 .skip)) (.seq (.ops vd) (.seq (.seq (.ops ve) (.cond (.var 6)
 (.ops vf)
 .skip)) (.seq (.ops vg) .ret))))),[((.var 3),none)]⟩
def xY:List CK:=[Bo Bi [AE] 1,Bo Bi [Aw] 2]
def xZ:List CK:=[Bn (BT 4) [AC],Bn (Bh 48) [AA],Bo Bi [AL] 1,Bo Bi [AA] 2]
def A7Q:Cr:=⟨1,3,(.seq (.ops xY) (.seq (.ops xZ) .ret)),[((.var 1),none),((.var 2),none)]⟩
def xa:List CK:=[Bo Bi [Aw] 1]
def xc:List CK:=[Bn (Bh 88) [AC],Bo Bi [AA] 1]
def A7R:Cr:=⟨1,2,(.seq (.ops xa) (.seq (.ops xc) .ret)),[((.var 1),none)]⟩
def ze:List CK:=[Bo Bi [Aw] 1]
def zg:List CK:=[Bo Bi [AC] 2]
def zh:List CK:=[Bo Bi [(BS [116,114,117,101])] 1]
def zi:List CK:=[Bo Bi [(BS [102,97,108,115,101])] 1]
def A7p:Cr:=⟨1,3,(.seq (.ops ze) (.seq (.seq (.ops zg) (.cond (.var 2)
 (.seq (.ops zh) .ret)
 .skip)) (.seq (.ops zi) .ret))),[((.var 1),none)]⟩
def vR:List CK:=[Bo Bi [AE] 2]
def vS:List CK:=[Bo (BX .eql 24) [AC,AY] 3]
def A4h:List CK:=[Bo Bi [AE] 2]
def vT:List CK:=[Bn (Bh 45) [AC,AB,BD,(BS [111,114])],Bo Bi [AA] 2]
def A6w:Cr:=⟨2,4,(.seq (.ops vR) (.seq (.seq (.ops vS) (.cond (.var 3)
 (.seq (.ops A4h) .ret)
 .skip)) (.seq (.ops vT) .ret))),[((.var 2),none)]⟩
def uw:List CK:=[Bo (Ba 24) [AC] 2,Bo (Ba 3) [AB] 3,Bo Bi [AE] 4]
def ux:List CK:=[Bn (BT 24) [AD],Bo (BX .eql 24) [AA,AY] 6]
def A4e:List CK:=[Bo Bi [AE] 4]
def uy:List CK:=[Bn (BT 24) [AD],Bn (BT 3) [AG],Bn (Bh 40) [AF,AA],Bn (BZ 3) [AG,AA]]
def uz:List CK:=[Bn (BT 24) [AD],Bn Bl [AA],Bn (BU 49 1) [AA],Bn (BT 46) [AA],Bn (BT 3) [AG],Bn (BY 46) [AF,AA],Bn (BT 86) [AA],Bo (Bb 86) [] 5,Bn (BZ 86) [AK,AA]]
def vA:List CK:=[Bn (BU 86 0) [AK],Bn (BU 76 0) [AA],Bo (BT 3) [AA] 7]
def vB:List CK:=[Bn (BX .eql 3) [AN,AE],Bo Bi [AA] 8]
def vC:List CK:=[Bn (BX .eql 3) [AN,AL],Bo Bi [AA] 8]
def kg:List CK:=[Bn (BT 24) [AD],Bn (BU 86 0) [AK],Bn (BU 76 0) [AA],Bn (BT 3) [AA],Bn (BX .eql 3) [AA,AL],Bn (Bh 21) [AO,AA],Bo Bi [AA] 4]
def vD:List CK:=[Bn (BX .eql 3) [AN,Az],Bo Bi [AA] 9]
def kY:List CK:=[Bn (BU 86 1) [AK],Bn (BT 30) [AA],Bn (BY 30) [AA,AE],Bn (BT 3) [AA],Bo Bi [AA] 4]
def kf:List CK:=[Bn (BT 24) [AD],Bn (BT 3) [AG],Bn (Bd 30 1 [0]) [AA],Bn (BT 3) [AG],Bn (Bd 30 1 [0]) [AA],Bn (Be 86 [1]) [AA],Bn (Bg 43 0 0) [AD,AG],Br (Bh 42) [AO] [Bs (BT 3) [AG] AO,Bs (BT 24) [AD] AS],Bn (Be 76 [0,3]) [Az,AA],Bn (Bh 41) [AU,AA,AM,AH],Bo Bi [AA] 4]
def A6t:Cr:=⟨2,10,(.seq (.ops uw) (.seq (.seq (.ops ux) (.cond (.var 6)
 (.seq (.ops A4e) .ret)
 .skip)) (.seq (.ops uy) (.seq (.seq (.ops uz) (.seq (.ops vA) (.block 0 (.seq (.seq (.ops vB) (.cond (.var 8)
 .skip
 (.ops vC))) (.cond (.var 8)
 (.seq (.ops kg) .ret)
 (.seq (.ops vD) (.cond (.var 9)
 (.seq (.ops kY) .ret)
 .skip))))))) (.seq (.ops kf) .ret))))),[((.var 4),none)]⟩
def xL:List CK:=[Bo Bi [AE] 2,Bo Bi [Aw] 3]
def xM:List CK:=[Bn (BT 24) [AC],Bn Bl [AA],Bn (BU 49 1) [AA],Bn (BT 46) [AA],Bn (BT 3) [AB],Bn (BY 46) [AF,AA],Bn (BU 86 3) [AA],Bn (BT 3) [AA],Bn (BX .add 3) [AL,AA],Bn (BT 24) [AC],Bn Bl [AA],Bn (BU 49 1) [AA],Bn (BT 46) [AA],Bn (BT 3) [AB],Bn (BY 46) [AF,AA],Bn (BU 86 4) [AA],Bn (BT 9) [AA],Bn (BX .add 9) [(BS [40,110,111,116,32]),AA],Bn (BX .add 9) [AA,BJ],Bo Bi [AZ] 2,Bo Bi [AA] 3]
def A7N:Cr:=⟨2,4,(.seq (.ops xL) (.seq (.ops xM) .ret)),[((.var 2),none),((.var 3),none)]⟩
def wx:List CK:=[Bo (Ba 76) [AB] 4,Bo (Ba 86) [AD] 5,Bo Bi [AE] 6]
def wy:List CK:=[Bn Bl [AC],Bn (BU 49 2) [AA],Bn (BT 44) [AA],Bn (BT 76) [AI],Bn (.r (fun s=>GA (fun m k=>Dy prog s 44 m k true))) [AF,AA],Bn (BW 0) [AA],Bn (BW 1) [AF],Bo Bi [AF] 7,Bo Bi [AA] 8]
def wz:List CK:=[Bo Bi [AP] 9]
def w6:List CK:=[Bo Bi [AN] 6]
def xA:List CK:=[Bn (BT 76) [AI],Bn (BU 86 0) [AK],Bn (BZ 76) [AA,AF]]
def xB:List CK:=[Bn Bk [AG],Bn (BW 0) [AA],Bn (BW 1) [AF],Bn (BU 86 3) [AK],Bn (BZ 3) [AA,AH],Bn (BU 86 4) [AK],Bn (BZ 9) [AA,AM]]
def xC:List CK:=[Bn (BU 86 3) [AK],Bn (BT 3) [AA],Bo (BX .gtr 3) [AA,BN] 10]
def xD:List CK:=[Bn (BU 86 3) [AK],Bn (BZ 3) [AA,BO],Bn (BU 86 4) [AK],Bn (BZ 9) [AA,Aw]]
def cJ:List CK:=[Bn Bl [AC],Bn (BU 49 1) [AA],Bn (BT 46) [AA],Bn (BT 86) [AK],Bn (Bd 46 1 [0]) [AA],Bn (Bf 46 46) [AH,AA],Bn Bl [AC],Bn (BU 49 1) [AA],Bn (BZ 46) [AA,AH]]
def cK:List CK:=[Bn Bl [AC],Bn (BU 49 2) [AA],Bn (BT 44) [AA],Bn (BT 76) [AI],Bn Bl [AC],Bn (BU 49 1) [AA],Bn (BT 46) [AA],Bn (Bc 46) [AA],Bn (BX .sub 3) [AA,AL],Bn (.e (fun s=>qa (fun m k x=>DI (EF prog s 44 m k x)))) [AQ,AR,AA]]
def U7:List CK:=[Bn Bl [AC],Bn (BU 49 1) [AA],Bn (BT 46) [AA],Bn (Bc 46) [AA],Bn (BX .sub 3) [AA,AL],Bo Bi [AA] 6]
def A7L:Cr:=⟨4,11,(.seq (.ops wx) (.seq (.seq (.ops wy) (.seq (.ops wz) (.cond (.var 9)
 (.seq (.ops w6) .ret)
 .skip))) (.seq (.ops xA) (.seq (.ops xB) (.seq (.seq (.ops xC) (.cond (.var 10)
 (.ops xD)
 .skip)) (.seq (.ops cJ) (.seq (.ops cK) (.seq (.ops U7) .ret)))))))),[((.var 6),none)]⟩
def xP:List CK:=[Bo (Ba 24) [AC] 4,Bo (Ba 9) [AG] 5,Bo (Bb 3) [] 6]
def xQ:List CK:=[Bn (BT 24) [AI],Bn (BX .eql 3) [AD,Ax],Bn (BT 24) [AI],Bn (BX .neq 3) [AD,Ax],Bo (Bb 3) [] 7,Bo (Bb 3) [] 8,Br (Bh 21) [AM,AH] [Bs (BT 24) [AI] AH],Bn (Bh 21) [AH,AF],Bn (BZ 3) [AN,AF],Bn (BZ 3) [AP,AF]]
def xR:List CK:=[Bn (.mk (fun l=>match l with | []=>(D8 prog 57).bind fun kt=>some (.map kt [],.map) | _=>none)) [],Bo (Bb 57) [] 9,Bn (BZ 57) [AT,AA]]
def xS:List CK:=[Bn (BT 24) [AI],Bo (Bh 80) [AA,AB,AD] 16]
def xT:List CK:=[Bo Bi [(.var 17)] 10]
def xU:List CK:=[Bn (BT 3) [AP],Bo (BX .eql 3) [Aj,AA] 18]
def xV:List CK:=[Bn (BT 3) [AP],Bn (BZ 3) [AJ,AA]]
def xW:List CK:=[Bn (BT 3) [AN],Bo (BX .neq 3) [Aj,AA] 19]
def xX:List CK:=[Bn (BT 57) [AT],Bn (Be 63 []) [],Bn (.e (fun s=>qa (fun m k x=>DI (EF prog s 57 m k x)))) [AF,Aj,AA]]
def lZ:Ck:=(.ops xT)
def lb:Ck:=(.block 1 (.seq (.seq (.ops xU) (.cond (.var 18)
 (.seq (.ops xV) .ret)
 .skip)) (.seq (.ops xW) (.cond (.var 19)
 (.ops xX)
 .skip))))
def lS:Code:=(I7 45 0).1
def lT:Code:=(I7 45 0).2
theorem A1M:HL prog 45 lS=some lZ:=by kernel_rfl
theorem A1N:HL prog 45 lT=some lb:=by kernel_rfl
theorem lf:Fu prog 45=[0,1,2,3,4,7,8,9,10,11,12,13,14,15,16,17,30,31,34,38,43,45,57,98,104,105,108]:=by kernel_rfl
def lU:List CK:=[Bn (BT 24) [AI],Bn Bl [AA],Bn (BU 49 1) [AA],Bn (BT 46) [AA],Bn (BY 46) [AA,Aq],Bn (BU 86 0) [AA],Bn (BU 76 0) [AA],Bn (BT 3) [AA],Bo (BX .neq 3) [AA,Az] 22]
def lV:List CK:=[Bn (BT 24) [AI],Bn Bl [AA],Bn (BU 49 1) [AA],Bn (BT 46) [AA],Bn (BY 46) [AA,Aq],Bn (BU 86 1) [AA],Bn (BT 30) [AA],Bn (BY 30) [AA,AE],Bn (BT 3) [AA],Bo Bi [AA] 12]
def lW:List CK:=[Bn (Bg 81 0 0) [AT],Bo (Bb 128) [] 13,Bn (BZ 128) [Ao,AA]]
def lX:List CK:=[Bn (BT 24) [AI],Bn Bl [AA],Bn (BU 49 1) [AA],Bn (BT 46) [AA],Bn (BY 46) [AA,Ab],Bn (BU 86 1) [AA],Bn (BT 30) [AA],Bo Bi [AA] 14]
def lY:List CK:=[Bn (BT 128) [Ao],Bn Bk [AA,Ab],Bp AA (BT 24) [AI],Bp AF Bl [AA],Bp AH (BU 49 1) [AA],Bp AM (BT 46) [AA],Bp AO Bi [Ab],Bp AR (BY 46) [AF,AA],Bp AQ (BU 86 0) [AA],Bp AS (BU 76 0) [AA],Bp AU (BT 3) [AA],Bp Ac Bi [AD],Bp AZ (BX .eql 3) [AF,AA],Bp AX Bi [AA],Bq AA Bi [Aa],Bq AF (Bg 83 0 0) [Ao],Bq AH (Bh 82) [AF,AA],Bq AM (.p1 (Yu prog Go.UnOp.not)) [AA],Bp Af Bj [AO,AA,Ae],Bo Bj [Ag,An,AA] 23]
def ZJ:List CK:=[Bn (BT 3) [AP],Bn (BZ 3) [AJ,AA]]
def U8:Ck:=(.seq (.seq (.ops lU) (.cond (.var 22)
 (.exit 3)
 .skip)) (.seq (.ops lV) (.seq (.ops lW) (.seq (.ops lX) (.seq (.ops lY) (.cond (.var 23)
 (.seq (.ops ZJ) .ret)
 .skip))))))
def MT:Ki:=⟨(.var 9),(fun s a=>CJ prog s 57 a),20,21,11,3,[.var 6]⟩
def U9:List CK:=[Bn (BT 57) [AT],Bn (Bh 33) [AA],Bn (Bh 32) [AA],Bo (Bb 30) [] 15,Bn (BZ 30) [Ak,AA]]
def VA:List CK:=[Bn (BT 30) [Ak],Bo (Bc 30) [AA] 24]
def OM:List CK:=[Bn (BX .eql 3) [(.var 24),AE],Bo Bi [AA] 25]
def VB:List CK:=[Bn (BT 3) [AN],Bn (BZ 3) [AJ,AA]]
def QY:List CK:=[Bn (BX .eql 3) [(.var 24),AL],Bo Bi [AA] 26]
def VC:List CK:=[Bn (BT 30) [Ak],Bn (BY 30) [AA,AE],Bn (BT 3) [AA],Bn (BZ 3) [AJ,AA]]
def VD:List CK:=[Bn (BT 24) [AI],Bn (BT 30) [Ak],Bn (BT 30) [Ak],Bn (Be 86 [1]) [AA],Bn (Bg 84 0 0) [Ak,AI,AK],Br (Bh 42) [AM] [Bs (BT 30) [Ak] AM,Bs (BT 24) [AI] AR],Bn (Be 76 [0,3]) [AD,AA],Bn (Bh 41) [AQ,AA,AM,AH],Bn (BZ 3) [AJ,AA]]
def A7P:Cr:=⟨4,27,(.seq (.ops xP) (.seq (.ops xQ) (.seq (.ops xR) (.seq (.seq (.ops xS) (.block 0 (.rangeFunc 45 (.var 16) #[31] lS lT))) (.seq (.rangeMap MT U8) (.seq (.ops U9) (.seq (.seq (.ops VA) (.block 4 (.seq (.ops OM) (.cond (.var 25)
 (.seq (.ops VB) .ret)
 (.seq (.ops QY) (.cond (.var 26)
 (.seq (.ops VC) .ret)
 .skip)))))) (.seq (.ops VD) .ret)))))))),[((.var 6),some 3)]⟩
def zO:List CK:=[Bo Bi [Ae] 2]
def zP:List CK:=[Bn (BT 57) [AB],Bn (.r (fun s=>GA (fun m k=>Dy prog s 57 m k true))) [AA,AC],Bn (BW 0) [AA],Bn (BW 1) [AF],Bn (Bb 63) [],Bn (BZ 63) [AA,AH],Bo Bi [AH] 3]
def zR:List CK:=[Bo Bi [AG] 2]
def A7l:Cr:=⟨2,4,(.seq (.ops zO) (.seq (.ops zP) (.seq (.ops zR) .ret))),[((.var 2),none)]⟩
def zU:List CK:=[Bo Bi [Ae] 2]
def zV:List CK:=[Bn (BT 128) [AB],Bn Bk [AA,AC],Bn (.p1 (Yu prog Go.UnOp.not)) [AA],Bo Bi [AA] 2]
def A7n:Cr:=⟨2,3,(.seq (.ops zU) (.seq (.ops zV) .ret)),[((.var 2),none)]⟩
def zW:List CK:=[Bo Bi [AE] 3,Bo Bi [Aw] 4]
def zX:List CK:=[Bo Bi [Ad] 5]
def zY:List CK:=[Bo Bi [AL] 3]
def zZ:List CK:=[Bo (BT 30) [AC] 7,Bo (Bc 30) [AN] 8,Bo Bi [AE] 9]
def mO:List CK:=[Bo (BX .lss 3) [AT,AP] 10]
def za:List CK:=[Bn (BY 30) [AN,AT],Bn (BT 3) [AA],Bo Bi [AA] 6]
def zb:List CK:=[Bn Bi [AG],Bn (BT 24) [AB],Bn Bl [AA],Bn (BU 49 1) [AA],Bn (BT 46) [AA],Bn (BY 46) [AA,AJ],Bn (BU 86 3) [AA],Bn (BT 3) [AA],Bn (BX .add 3) [AS,AA],Bo Bi [AA] 3]
def zc:List CK:=[Bn Bi [AK],Bn (BT 24) [AB],Bn Bl [AA],Bn (BU 49 1) [AA],Bn (BT 46) [AA],Bn (BY 46) [AA,AJ],Bn (BU 86 4) [AA],Bn (BT 9) [AA],Bn (Bd 28 1 [0]) [AA],Bn (Bf 28 28) [AU,AA],Bo Bi [AA] 5]
def zd:List CK:=[Bn (BX .add 3) [AT,AL],Bo Bi [AA] 9]
def W1:Ck:=(.seq (.ops mO) (.seq (.cond (.var 10)
 .skip
 (.exit 0)) (.seq (.block 1 (.seq (.ops za) (.seq (.ops zb) (.ops zc)))) (.ops zd))))
def mM:List CK:=[Bn (Bh 85) [AK]]
def mN:List CK:=[Bn Bi [AG],Bn (BT 9) [AD],Bn (BX .add 9) [(BS [40]),AA],Bn (BX .add 9) [AA,BI],Br (Bh 86) [AK,BI] [Bs (BT 9) [AD] AM],Bn (BX .add 9) [AF,AA],Bn (BX .add 9) [AA,BJ],Bo Bi [AQ] 3,Bo Bi [AA] 4]
def A7o:Cr:=⟨3,11,(.seq (.ops zW) (.seq (.ops zX) (.seq (.ops zY) (.seq (.seq (.ops zZ) (.block 0 (.loop W1))) (.seq (.ops mM) (.seq (.ops mN) .ret)))))),[((.var 3),none),((.var 4),none)]⟩
def zM:List CK:=[Bo (Ba 24) [AC] 3,Bo (Ba 30) [AB] 4,Bo (Ba 3) [AD] 5,Bo Bi [BE] 6]
def zN:List CK:=[Bn (Bg 117 0 0) [AI,AG,AK],Bo Bi [AA] 6]
def A7k:Cr:=⟨3,7,(.seq (.ops zM) (.seq (.ops zN) .ret)),[((.var 6),none)]⟩
def jn:List CK:=[Bo (BT 30) [AB] 7,Bo (Bc 30) [AN] 8,Bo Bi [AE] 9]
def Y6:List CK:=[Bo (BX .lss 3) [AT,AP] 10]
def jo:List CK:=[Bn (BY 30) [AN,AT],Bn (BT 3) [AA],Bo Bi [AA] 4]
def jp:List CK:=[Bn (BT 24) [AD],Bn Bi [AI],Bn (Bh 40) [AF,AA],Bo Bi [AA] 4]
def jq:List CK:=[Bn (Bd 30 1 [0]) [AI],Bo Bi [AA] 5]
def ju:List CK:=[Bn (BT 24) [AD],Bn Bl [AA],Bn (BU 49 1) [AA],Bn (BT 46) [AA],Bn (BY 46) [AA,AI],Bn (BU 86 0) [AA],Bn (BU 76 0) [AA],Bn (BT 3) [AA],Bn (BT 3) [AG],Bo (BX .eql 3) [AF,AA] 11]
def jv:List CK:=[Bn (BT 24) [AD],Bn Bl [AA],Bn (BU 49 1) [AA],Bn (BT 46) [AA],Bn (BY 46) [AA,AI],Bn (BU 86 1) [AA],Bn (BT 30) [AA],Bo Bi [AA] 5]
def Y7:List CK:=[Bo Bi [AK] 12,Bo (Bc 30) [Ab] 13,Bo Bi [AE] 14]
def Y8:List CK:=[Bo (BX .lss 3) [Aa,Ao] 15]
def jw:List CK:=[Bn (BY 30) [Ab,Aa],Bn (BT 3) [AA],Bo Bi [AA] 6]
def bu:List CK:=[Bn Bk [AC,AJ],Bo (.p1 (Yu prog Go.UnOp.not)) [AA] 16]
def bv:List CK:=[Bn (BX .add 3) [Aa,AL],Bo Bi [AA] 14]
def LU:Ck:=(.seq (.ops Y8) (.seq (.cond (.var 15)
 .skip
 (.exit 2)) (.seq (.block 3 (.seq (.ops jw) (.seq (.ops bu) (.cond (.var 16)
 .ret
 .skip)))) (.ops bv))))
def U0:List CK:=[Bn (BX .add 3) [AT,AL],Bo Bi [AA] 9]
def M8:Ck:=(.seq (.ops Y6) (.seq (.cond (.var 10)
 .skip
 (.exit 0)) (.seq (.block 1 (.seq (.ops jo) (.seq (.ops jp) (.seq (.ops jq) (.seq (.seq (.ops ju) (.cond (.var 11)
 (.ops jv)
 .skip)) (.seq (.ops Y7) (.block 2 (.loop LU)))))))) (.ops U0))))
def A4X:Cr:=⟨4,17,(.seq (.ops jn) (.block 0 (.loop M8))),[]⟩
def wt:List CK:=[Bo Bi [AE] 2]
def wu:List CK:=[Bn (BX .lss 3) [AB,AE],Bp AA Bi [AB],Bp AF Bi [AC],Bp AH Bl [AA],Bp AM (BU 49 1) [AA],Bp AO (BT 46) [AA],Bp AR (Bc 46) [AA],Bp AQ (BX .geq 3) [AR,AA],Bo Bj [AS,An,AA] 3]
def wv:List CK:=[Bo Bi [AE] 2]
def ww:List CK:=[Bo Bi [AB] 2]
def A7K:Cr:=⟨2,4,(.seq (.ops wt) (.seq (.seq (.ops wu) (.cond (.var 3)
 (.seq (.ops wv) .ret)
 .skip)) (.seq (.ops ww) .ret))),[((.var 2),none)]⟩
def wL:List CK:=[Bo Bi [AE] 2]
def wM:List CK:=[Bn (BX .lss 3) [AB,AE],Bp AA Bi [AB],Bp AF Bi [AC],Bp AH Bl [AA],Bp AM (BU 49 0) [AA],Bp AO (BT 26) [AA],Bp AR (Bh 61) [AA],Bp AQ (BX .geq 3) [AR,AA],Bo Bj [AS,An,AA] 3]
def A4j:List CK:=[Bn Bl [AC],Bn (BU 49 0) [AA],Bn (BT 26) [AA],Bn (Be 34 []) [],Bn (Bh 9) [AF,AA],Bo Bi [AA] 2]
def wN:List CK:=[Bo Bi [AB] 2]
def A7F:Cr:=⟨2,4,(.seq (.ops wL) (.seq (.seq (.ops wM) (.cond (.var 3)
 (.seq (.ops A4j) .ret)
 .skip)) (.seq (.ops wN) .ret))),[((.var 2),none)]⟩
def wS:List CK:=[Bo (Ba 24) [AC] 5,Bo (Ba 9) [AG] 6,Bo (Ba 30) [AI] 7,Bo Bi [AE] 8]
def wT:List CK:=[Bn (Be 74 [0,1]) [BF,BF],Bn (Be 76 [0,1,2]) [AB,AD,AA],Bo (Bb 76) [] 9,Bn (BZ 76) [AT,AA]]
def wU:List CK:=[Bn (BU 76 2) [AT],Bn (.r (DK prog 74 false false false)) [AA],Bn (BT 30) [AN],Bn (.e (fun s l=>Kx prog s [30,30] l)) [AF,AA]]
def wV:List CK:=[Bn (BT 24) [AK],Bn (BT 76) [AT],Bn (Be 86 []) [],Bn (Bg 78 0 0) [AJ,AN,AK],Bn (Bh 41) [AM,AH,AF,AA],Bo Bi [AA] 8]
def A7I:Cr:=⟨5,10,(.seq (.ops wS) (.seq (.ops wT) (.seq (.ops wU) (.seq (.ops wV) .ret)))),[((.var 8),none)]⟩
def zE:List CK:=[Bo Bi [AE] 3,Bo Bi [Aw] 4]
def zF:List CK:=[Bn (BT 9) [AC],Bn (BX .add 9) [(BS [40]),AA],Bo Bi [AL] 3,Bo Bi [AA] 4]
def zG:List CK:=[Bo (BT 30) [AB] 6,Bo (Bc 30) [AJ] 7,Bo Bi [AE] 8]
def mL:List CK:=[Bo (BX .lss 3) [AP,AN] 9]
def zH:List CK:=[Bn (BY 30) [AJ,AP],Bn (BT 3) [AA],Bo Bi [AA] 5]
def zI:List CK:=[Bn Bi [AG],Bn (BT 24) [AD],Bn Bl [AA],Bn (BU 49 0) [AA],Bn (BT 26) [AA],Bn (Bh 51) [AA,AK],Bn (BX .add 3) [AR,AA],Bo Bi [AA] 3]
def zJ:List CK:=[Bn Bi [AI],Bn (BT 24) [AD],Bn Bl [AA],Bn (BU 49 0) [AA],Bn (BT 26) [AA],Bn (Bh 52) [AA,AK],Bn (BX .add 9) [BI,AA],Bn (BX .add 9) [AQ,AA],Bo Bi [AA] 4]
def zK:List CK:=[Bn (BX .add 3) [AP,AL],Bo Bi [AA] 8]
def W0:Ck:=(.seq (.ops mL) (.seq (.cond (.var 9)
 .skip
 (.exit 0)) (.seq (.block 1 (.seq (.ops zH) (.seq (.ops zI) (.ops zJ)))) (.ops zK))))
def zL:List CK:=[Bn Bi [AG],Bn Bi [AI],Bn (BX .add 9) [AA,BJ],Bo Bi [AH] 3,Bo Bi [AA] 4]
def A7j:Cr:=⟨3,10,(.seq (.ops zE) (.seq (.ops zF) (.seq (.seq (.ops zG) (.block 0 (.loop W0))) (.seq (.ops zL) .ret)))),[((.var 3),none),((.var 4),none)]⟩
def wQ:List CK:=[Bo Bi [AE] 3]
def wR:List CK:=[Bn Bl [AC],Bn (BU 49 0) [AA],Bn (BT 26) [AA],Bn Bl [AC],Bn (BU 49 0) [AA],Bn (BT 26) [AA],Br (Bh 52) [AM,AB] [Bs (BT 26) [AH] AF],Bn (Bh 52) [AF,AD],Bn (Bh 76) [AF,AA],Bn (Bh 77) [AB,AD],Bn (Bd 30 2 [0,1]) [AF,AA],Bn (Bh 75) [AA],Bo Bi [AA] 3]
def A7H:Cr:=⟨3,4,(.seq (.ops wQ) (.seq (.ops wR) .ret)),[((.var 3),none)]⟩
def yw:List CK:=[Bo Bi [AE] 2]
def yx:List CK:=[Bn (Bh 115) [AC,AB],Bo Bi [AA] 2]
def A7h:Cr:=⟨2,3,(.seq (.ops yw) (.seq (.ops yx) .ret)),[((.var 2),none)]⟩
def jh:List CK:=[Bo Bi [AE] 2]
def jj:List CK:=[Bn (.e Py) [AC,AB],Bo Bi [AA] 2]
def A4V:Cr:=⟨2,3,(.seq (.ops jh) (.seq (.ops jj) .ret)),[((.var 2),none)]⟩
def yr:List CK:=[Bo Bi [AE] 1]
def yt:List CK:=[Bo Bi [AE] 2]
def yu:List CK:=[Bo Bi [AC] 4,Bo (Bc 30) [AI] 5,Bo Bi [AE] 6]
def cP:List CK:=[Bo (BX .lss 3) [AJ,AK] 7]
def mD:List CK:=[Bn (BY 30) [AI,AJ],Bn (BT 3) [AA],Bo Bi [AA] 3]
def mE:List CK:=[Bo (BX .neq 3) [AG,AD] 8]
def mF:List CK:=[Bo Bi [AG] 1]
def mG:List CK:=[Bn (BX .add 3) [AJ,AL],Bo Bi [AA] 6]
def Wz:Ck:=(.seq (.ops cP) (.seq (.cond (.var 7)
 .skip
 (.exit 0)) (.seq (.block 1 (.seq (.ops mD) (.seq (.ops mE) (.cond (.var 8)
 (.seq (.ops mF) .ret)
 .skip)))) (.ops mG))))
def yv:List CK:=[Bo Bi [AD] 1]
def A7g:Cr:=⟨1,9,(.seq (.ops yr) (.seq (.ops yt) (.seq (.seq (.ops yu) (.block 0 (.loop Wz))) (.seq (.ops yv) .ret)))),[((.var 1),none)]⟩
def yy:List CK:=[Bo Bi [AE] 2]
def yz:List CK:=[Bn (Bh 116) [AC],Bo Bi [AA] 3]
def zA:List CK:=[Bn (Bh 116) [AB],Bo Bi [AA] 4]
def zB:List CK:=[Bo Bi [AG] 5]
def A5E:List CK:=[Bo Bi [AI] 6]
def A5F:List CK:=[Bo Bi [AE] 2]
def A5G:List CK:=[Bo Bi [BF] 2]
def zC:List CK:=[Bo Bi [AI] 7]
def A5H:List CK:=[Bo Bi [AL] 2]
def zD:List CK:=[Bo (BX .lss 3) [AC,AB] 8]
def mH:List CK:=[Bo Bi [BF] 2]
def mI:List CK:=[Bo (BX .gtr 3) [AC,AB] 9]
def mJ:List CK:=[Bo Bi [AL] 2]
def mK:List CK:=[Bo Bi [AE] 2]
def A7i:Cr:=⟨2,10,(.seq (.ops yy) (.seq (.ops yz) (.seq (.ops zA) (.seq (.seq (.ops zB) (.cond (.var 5)
 (.seq (.seq (.ops A5E) (.cond (.var 6)
 (.seq (.ops A5F) .ret)
 .skip)) (.seq (.ops A5G) .ret))
 .skip)) (.seq (.seq (.ops zC) (.cond (.var 7)
 (.seq (.ops A5H) .ret)
 .skip)) (.seq (.seq (.ops zD) (.cond (.var 8)
 (.seq (.ops mH) .ret)
 .skip)) (.seq (.seq (.ops mI) (.cond (.var 9)
 (.seq (.ops mJ) .ret)
 .skip)) (.seq (.ops mK) .ret)))))))),[((.var 2),none)]⟩
def jl:List CK:=[Bo Bi [Ae] 1]
def jm:List CK:=[Bn (BX .neq 3) [AC,AC],Bo Bi [AA] 1]
def A4W:Cr:=⟨1,2,(.seq (.ops jl) (.seq (.ops jm) .ret)),[((.var 1),none)]⟩
def uj:List CK:=[Bo Bi [AE] 3]
def uk:List CK:=[Bo (BX .eql 24) [AC,AY] 5]
def A4b:List CK:=[Bo Bi [AE] 3]
def ul:List CK:=[Bn Bi [AB],Bn (Bh 34) [AC,AA],Bn Bi [AD],Bn (Bh 34) [AC,AA],Bo Bi [AH] 1,Bo Bi [AA] 2]
def um:List CK:=[Bn Bl [AC],Bn (BU 49 0) [AA],Bn (BT 26) [AA],Bn (Bh 35) [AA,AB],Bn (BX .eql 3) [AA,Ax],Bq AA Bi [AC],Bq AF Bl [AA],Bq AH (BU 49 0) [AA],Bq AM (BT 26) [AA],Bq AO Bi [AD],Bq AR (Bh 35) [AF,AA],Bq AQ (BX .eql 3) [AA,Ax],Bn Bj [AS,AA,Ae],Bo Bi [AA] 4]
def kO:List CK:=[Bn (BX .eql 3) [AB,AD],Bo Bi [AA] 6]
def kP:List CK:=[Bn (Bh 21) [AC,An],Bo Bi [AA] 3]
def kQ:List CK:=[Bo Bi [AI] 7]
def kR:List CK:=[Bn (Bh 21) [AC,Ae],Bo Bi [AA] 3]
def kT:List CK:=[Bn (Bh 36) [AC,AD,AB],Bn (BX .lss 3) [AA,AE],Bo Bi [AA] 8]
def ZE:List CK:=[Bn Bi [AD],Bn Bi [AB],Bo Bi [AF] 1,Bo Bi [AA] 2]
def QU:List CK:=[Bn (Bd 30 2 [0,1]) [AB,AD],Bn (Bh 37) [AC,BK,AE,(BS [61]),AA],Bo Bi [AA] 3]
def A4Z:Cr:=⟨3,9,(.seq (.ops uj) (.seq (.seq (.ops uk) (.cond (.var 5)
 (.seq (.ops A4b) .ret)
 .skip)) (.seq (.ops ul) (.seq (.ops um) (.seq (.block 0 (.seq (.ops kO) (.cond (.var 6)
 (.seq (.ops kP) .ret)
 (.seq (.ops kQ) (.cond (.var 7)
 (.seq (.ops kR) .ret)
 (.seq (.ops kT) (.cond (.var 8)
 (.ops ZE)
 .skip))))))) (.seq (.ops QU) .ret)))))),[((.var 3),none)]⟩
def vE:List CK:=[Bo Bi [AE] 3]
def vF:List CK:=[Bo (BX .eql 24) [AC,AY] 5]
def A4f:List CK:=[Bo Bi [AE] 3]
def vG:List CK:=[Bn (Be 90 [0,1,2,3,4,5]) [(BS [110,117,108,108,63]),(BS [98,111,111,108,63]),(BS [105,110,116,63]),(BS [115,116,114,63]),(BS [100,105,99,116,63]),(BS [102,117,110,63])],Bo (Bb 90) [] 4,Bn (BZ 90) [AI,AA]]
def vH:List CK:=[Bn (BX .lss 3) [AB,AE],Bp AA Bi [AB],Bp AF (BX .geq 3) [AA,BK],Bo Bj [AH,An,AA] 6]
def A4g:List CK:=[Bo Bi [AE] 1]
def vI:List CK:=[Bn Bi [AD],Bn (Bh 34) [AC,AA],Bo Bi [AA] 2]
def vJ:List CK:=[Bn Bl [AC],Bn (BU 49 0) [AA],Bn (BT 26) [AA],Bn (Bh 35) [AA,AD],Bo (BX .eql 3) [AA,Ax] 7]
def vK:List CK:=[Bn Bl [AC],Bn (BU 49 0) [AA],Bn (BT 26) [AA],Bn (Bh 44) [AA,AD],Bn (BV 34 0) [AA],Bn (BX .eql 3) [AA,AB],Bn (Bh 21) [AC,AA],Bo Bi [AA] 3]
def vL:List CK:=[Bn (BY 90) [AI,AB],Bn (BT 9) [AA],Bn (Bd 30 1 [0]) [AD],Bn (Bh 37) [AC,(BR 7),AB,AF,AA],Bo Bi [AA] 3]
def A6u:Cr:=⟨3,8,(.seq (.ops vE) (.seq (.seq (.ops vF) (.cond (.var 5)
 (.seq (.ops A4f) .ret)
 .skip)) (.seq (.ops vG) (.seq (.seq (.ops vH) (.cond (.var 6)
 (.ops A4g)
 .skip)) (.seq (.ops vI) (.seq (.seq (.ops vJ) (.cond (.var 7)
 (.seq (.ops vK) .ret)
 .skip)) (.seq (.ops vL) .ret))))))),[((.var 3),none)]⟩
def vU:List CK:=[Bo Bi [AE] 3]
def vV:List CK:=[Bo (BX .eql 24) [AC,AY] 4]
def A4i:List CK:=[Bo Bi [AE] 3]
def vW:List CK:=[Bn Bi [AB],Bn (Bh 34) [AC,AA],Bn Bi [AD],Bn (Bh 34) [AC,AA],Bo Bi [AH] 1,Bo Bi [AA] 2]
def vX:List CK:=[Bn Bl [AC],Bn (BU 49 0) [AA],Bn (BT 26) [AA],Bn (Bh 35) [AA,AB],Bn (BX .eql 3) [AA,Ax],Bp AA Bi [AC],Bp AF Bl [AA],Bp AH (BU 49 0) [AA],Bp AM (BT 26) [AA],Bp AO Bi [AD],Bp AR (Bh 35) [AF,AA],Bp AQ (BX .eql 3) [AA,Ax],Bp AS Bi [AA],Bq AA Bi [AC],Bq AF Bl [AA],Bq AH (BU 49 0) [AA],Bq AM (BT 26) [AA],Bq AO Bi [AD],Bq AR (Bh 44) [AF,AA],Bq AQ (BV 34 0) [AA],Bq AS (BX .neq 3) [AA,BD],Bp Af Bj [AU,AA,Ae],Bo Bj [Ag,An,AA] 5]
def km:List CK:=[Bn (Bh 21) [AC,Ae],Bo Bi [AA] 3]
def ko:List CK:=[Bn (Bd 30 2 [0,1]) [AB,AD],Bn (Bh 37) [AC,BP,AE,(BS [104,97,115]),AA],Bo Bi [AA] 3]
def A6x:Cr:=⟨3,6,(.seq (.ops vU) (.seq (.seq (.ops vV) (.cond (.var 4)
 (.seq (.ops A4i) .ret)
 .skip)) (.seq (.ops vW) (.seq (.seq (.ops vX) (.cond (.var 5)
 (.seq (.ops km) .ret)
 .skip)) (.seq (.ops ko) .ret))))),[((.var 3),none)]⟩
def A5I:List CK:=[Bo Bi [AY] 1]
def A5J:List CK:=[Bo (BX .eql 24) [AC,AY] 2]
def A5K:List CK:=[Bo Bi [AY] 1]
def A5L:List CK:=[Bn Bl [AC],Bn (BU 49 0) [AA],Bn (BT 26) [AA],Bo Bi [AA] 1]
def c7:Cr:=⟨1,3,(.seq (.ops A5I) (.seq (.seq (.ops A5J) (.cond (.var 2)
 (.seq (.ops A5K) .ret)
 .skip)) (.seq (.ops A5L) .ret))),[((.var 1),none)]⟩
def zS:List CK:=[Bo Bi [Ae] 2]
def zT:List CK:=[Bn (Bh 118) [AC,AB],Bn (BX .geq 3) [AA,AE],Bo Bi [AA] 2]
def A7m:Cr:=⟨2,3,(.seq (.ops zS) (.seq (.ops zT) .ret)),[((.var 2),none)]⟩
def Y9:List CK:=[Bo Bi [AE] 2]
def ZA:List CK:=[Bo (Bc 30) [AC] 4,Bo Bi [AE] 5]
def ZB:List CK:=[Bo (BX .lss 3) [AK,AI] 6]
def jx:List CK:=[Bo Bi [AK] 3]
def jy:List CK:=[Bn (BY 30) [AC,AG],Bn (BT 3) [AA],Bo Bk [AB,AA] 7]
def jz:List CK:=[Bo Bi [AG] 2]
def j8:List CK:=[Bn (BX .add 3) [AK,AL],Bo Bi [AA] 5]
def QT:Ck:=(.seq (.ops ZB) (.seq (.cond (.var 6)
 .skip
 (.exit 0)) (.seq (.block 1 (.seq (.ops jx) (.seq (.ops jy) (.cond (.var 7)
 (.seq (.ops jz) .ret)
 .skip)))) (.ops j8))))
def ZC:List CK:=[Bo Bi [BF] 2]
def A1I:Cr:=⟨2,8,(.seq (.ops Y9) (.seq (.seq (.ops ZA) (.block 0 (.loop QT))) (.seq (.ops ZC) .ret))),[((.var 2),none)]⟩
theorem A5X:CY prog 6=some c6:=by kernel_rfl
theorem A1b:CY prog 21=some A6y:=by kernel_rfl
theorem A1t:CY prog 47=some A7Q:=by kernel_rfl
theorem A1u:CY prog 48=some A7R:=by kernel_rfl
theorem A2S:CY prog 88=some A7p:=by kernel_rfl
theorem A1Z:CY prog 18=some A6w:=by kernel_rfl
theorem A1W:CY prog 15=some A6t:=by kernel_rfl
theorem A1q:CY prog 43=some A7N:=by kernel_rfl
theorem A1o:CY prog 41=some A7L:=by kernel_rfl
theorem A1s:CY prog 45=some A7P:=by kernel_rfl
theorem A2O:CY prog 81=some A7l:=by kernel_rfl
theorem A2Q:CY prog 83=some A7n:=by kernel_rfl
theorem A2R:CY prog 84=some A7o:=by kernel_rfl
theorem A2N:CY prog 80=some A7k:=by kernel_rfl
theorem rq:CY prog 117=some A4X:=by kernel_rfl
theorem A1n:CY prog 40=some A7K:=by kernel_rfl
theorem A1i:CY prog 34=some A7F:=by kernel_rfl
theorem A1l:CY prog 37=some A7I:=by kernel_rfl
theorem A2M:CY prog 78=some A7j:=by kernel_rfl
theorem A1k:CY prog 36=some A7H:=by kernel_rfl
theorem A2K:CY prog 76=some A7h:=by kernel_rfl
theorem rh:CY prog 115=some A4V:=by kernel_rfl
theorem A2J:CY prog 75=some A7g:=by kernel_rfl
theorem A2L:CY prog 77=some A7i:=by kernel_rfl
theorem rl:CY prog 116=some A4W:=by kernel_rfl
theorem A1T:CY prog 12=some A4Z:=by kernel_rfl
theorem A1X:CY prog 16=some A6u:=by kernel_rfl
theorem A1a:CY prog 19=some A6x:=by kernel_rfl
theorem A5Y:CY prog 7=some c7:=by kernel_rfl
theorem A2P:CY prog 82=some A7m:=by kernel_rfl
theorem cU:CY prog 118=some A1I:=by kernel_rfl
def wJ:List CK:=[Bo Bi [AE] 2]
def wK:List CK:=[Bn (Bh 70) [AC,AB,(.const (.func 71 [] []))],Bo Bi [AA] 2]
def A7E:Cr:=⟨2,3,(.seq (.ops wJ) (.seq (.ops wK) .ret)),[((.var 2),none)]⟩
def yo:List CK:=[Bo (Ba 86) [AC] 1,Bo Bi [AE] 2]
def yq:List CK:=[Bn (BU 86 0) [AB],Bn (BU 76 0) [AA],Bn (BT 3) [AA],Bo Bi [AA] 2]
def A7f:Cr:=⟨1,3,(.seq (.ops yo) (.seq (.ops yq) .ret)),[((.var 2),none)]⟩
def yj:List CK:=[Bo Bi [AE] 3]
def yk:List CK:=[Bo (BX .neq 24) [AC,AY] 4]
def yl:List CK:=[Bn (Bh 111) [AC,AB],Bn Bk [AD,AA],Bo Bi [AA] 3]
def yn:List CK:=[Bn Bi [AG],Bo Bi [AA] 3]
def A7e:Cr:=⟨3,5,(.seq (.ops yj) (.seq (.seq (.ops yk) (.cond (.var 4)
 (.ops yl)
 .skip)) (.seq (.ops yn) .ret))),[((.var 3),none)]⟩
def zq:List CK:=[Bo Bi [Ad] 3]
def zr:List CK:=[Bo (BX .neq 24) [AC,AY] 4]
def zs:List CK:=[Bn (Bh 111) [AC,AB],Bn Bk [AD,AA],Bo Bi [AA] 3]
def zt:List CK:=[Bn Bi [AG],Bo Bi [AA] 3]
def A7r:Cr:=⟨3,5,(.seq (.ops zq) (.seq (.seq (.ops zr) (.cond (.var 4)
 (.ops zs)
 .skip)) (.seq (.ops zt) .ret))),[((.var 3),none)]⟩
def jE:List CK:=[Bo (Bb 84) [] 3]
def jF:List CK:=[Bo (BX .neq 24) [AC,AY] 4]
def jG:List CK:=[Bn (Bh 111) [AC,AB],Bn Bk [AD,AA],Bn (BZ 84) [AG,AA]]
def jH:List CK:=[Bn (BT 84) [AG],Bn (BZ 84) [AG,AA]]
def A4K:Cr:=⟨3,5,(.seq (.ops jE) (.seq (.seq (.ops jF) (.cond (.var 4)
 (.ops jG)
 .skip)) (.seq (.ops jH) .ret))),[((.var 3),some 84)]⟩
def je:List CK:=[Bo (Bb 86) [] 2]
def jg:List CK:=[Bn (BX .lss 3) [AB,AE],Bp AA Bi [AB],Bp AF Bi [AC],Bp AH Bl [AA],Bp AM (BU 49 1) [AA],Bp AO (BT 46) [AA],Bp AR (Bc 46) [AA],Bp AQ (BX .geq 3) [AR,AA],Bo Bj [AS,An,AA] 3]
def Y4:List CK:=[Bo Bi [AE] 1]
def Y5:List CK:=[Bn Bl [AC],Bn (BU 49 1) [AA],Bn (BT 46) [AA],Bn (BY 46) [AA,AB],Bn (BT 86) [AA],Bn (BZ 86) [AD,AA]]
def A4U:Cr:=⟨2,4,(.seq (.ops je) (.seq (.seq (.ops jg) (.cond (.var 3)
 (.ops Y4)
 .skip)) (.seq (.ops Y5) .ret))),[((.var 2),some 86)]⟩
def yB:List CK:=[Bo (Ba 24) [AC] 2,Bo (Bb 30) [] 3]
def yC:List CK:=[Bn (BT 24) [AD],Bo (BX .eql 24) [AA,AY] 5]
def A4y:List CK:=[Bn (BZ 30) [AG,Ad]]
def yD:List CK:=[Bn (BT 24) [AD],Bo (Bh 97) [AA,AB,Ae] 6]
def yE:List CK:=[Bo (Bb 86) [] 4,Bn (BZ 86) [AI,AN]]
def yF:List CK:=[Bn (BU 86 0) [AI],Bn (BU 76 0) [AA],Bn (BT 3) [AA],Bo (BX .geq 3) [AA,BM] 8]
def yG:List CK:=[Bn (BT 30) [AG],Bn (BT 24) [AD],Bn Bl [AA],Bn (BU 49 2) [AA],Bn (BT 44) [AA],Bn (BU 86 0) [AI],Bn (BT 76) [AA],Bn (.r (fun s=>GA (fun m k=>Dy prog s 44 m k false))) [AH,AA],Bn (Bd 30 1 [0]) [AA],Bn (Bf 30 30) [AU,AA],Bn (BZ 30) [AG,AA]]
def lj:Ck:=(.ops yE)
def ln:Ck:=(.block 1 (.seq (.ops yF) (.cond (.var 8)
 (.ops yG)
 .skip)))
def cL:Code:=(I7 62 0).1
def cM:Code:=(I7 62 0).2
theorem A1O:HL prog 62 cL=some lj:=by kernel_rfl
theorem A1P:HL prog 62 cM=some ln:=by kernel_rfl
theorem lq:Fu prog 62=[0,1,2,4,5,7,10,11,15]:=by kernel_rfl
def yH:List CK:=[Bn (BT 30) [AG],Bn (Bh 73) [AA]]
def yI:List CK:=[Bn (BT 30) [AG],Bn (BZ 30) [AG,AA]]
def A7X:Cr:=⟨2,9,(.seq (.ops yB) (.seq (.seq (.ops yC) (.cond (.var 5)
 (.seq (.ops A4y) .ret)
 .skip)) (.seq (.seq (.ops yD) (.block 0 (.rangeFunc 62 (.var 6) #[11] cL cM))) (.seq (.ops yH) (.seq (.ops yI) .ret))))),[((.var 3),some 30)]⟩
def zn:List CK:=[Bo (Ba 24) [AC] 3,Bo (Ba 3) [AB] 4,Bo (Ba 4) [AD] 5,Bo Bi [BE] 6]
def zo:List CK:=[Bn (Bg 125 0 0) [AG,AI,AK],Bo Bi [AA] 6]
def A7q:Cr:=⟨3,7,(.seq (.ops zn) (.seq (.ops zo) .ret)),[((.var 6),none)]⟩
def kE:List CK:=[Bn (.mk (fun l=>match l with | []=>(D8 prog 57).bind fun kt=>some (.map kt [],.map) | _=>none)) [],Bo Bi [AA] 4]
def kF:List CK:=[Bn (BT 24) [AB],Bn (BT 3) [AD],Bn (Bh 40) [AF,AA],Bn (Bd 30 1 [0]) [AA],Bo Bi [AA] 5]
def ZD:List CK:=[Bn (Bc 30) [AK],Bo (BX .gtr 3) [AA,AE] 9]
def kG:List CK:=[Bn (Bc 30) [AK],Bn (BX .sub 3) [AA,AL],Bn (BY 30) [AK,AA],Bn (BT 3) [AA],Bo Bi [AA] 6]
def kH:List CK:=[Bn Bi [AK],Bn Bi [AK],Bn (Bc 30) [AA],Bn (BX .sub 3) [AA,AL],Bn Bi [AK],Bn (Bc 30) [AA],Bn (BX .sub 3) [AA,AL],Bn (.r (DK prog 30 false true true)) [AQ,AM,AA],Bo Bi [AA] 5]
def kI:List CK:=[Bn (.r (fun s=>GA (fun m k=>Dy prog s 57 m k true))) [AI,AJ],Bn (BW 0) [AA],Bn (BW 1) [AF],Bn (Bb 63) [],Bn (BZ 63) [AA,AH],Bo Bi [AH] 7]
def kJ:List CK:=[Bo Bi [AN] 10]
def kK:List CK:=[Bn (Be 63 []) [],Bn (.e (fun s=>qa (fun m k x=>DI (EF prog s 57 m k x)))) [AI,AJ,AA]]
def kM:List CK:=[Bn (BT 24) [AB],Bn Bl [AA],Bn (BU 49 1) [AA],Bn (BT 46) [AA],Bn (BY 46) [AA,AJ],Bn (BT 86) [AA],Bo (Bb 86) [] 8,Bn (BZ 86) [AP,AA]]
def kN:List CK:=[Bn (BT 86) [AP],Bn Bk [AC,AA],Bo (.p1 (Yu prog Go.UnOp.not)) [AA] 11]
def bw:List CK:=[Bn Bi [AK],Bn (BU 86 1) [AP],Bn (BT 30) [AA],Bn (Bf 30 30) [AH,AA],Bo Bi [AA] 5]
def cA:List CK:=[Bn (BU 86 0) [AP],Bn (BU 76 0) [AA],Bn (BT 3) [AA],Bn (BX .eql 3) [AA,(BR 9)],Bq AA (BT 4) [AG],Bo Bj [AF,AA,Ae] 12]
def rH:List CK:=[Bn Bi [AK],Bn (BT 24) [AB],Bn (BU 86 0) [AP],Bn (BU 76 1) [AA],Bn (BT 3) [AA],Bn (BT 24) [AB],Bn (BU 86 0) [AP],Bn (BU 76 1) [AA],Bn (BT 3) [AA],Br (Bh 126) [AS,AO] [Bs (BT 3) [AH] AF,Bs (BT 24) [AB] AO],Bn (Bh 127) [AO,AF],Bn (Bd 30 2 [0,1]) [AF,AA],Bn (Bf 30 30) [AX,AA],Bo Bi [AA] 5]
def Pv:Ck:=(.seq (.seq (.ops ZD) (.cond (.var 9)
 .skip
 (.exit 0))) (.block 1 (.seq (.ops kG) (.seq (.ops kH) (.seq (.seq (.ops kI) (.seq (.ops kJ) (.cond (.var 10)
 (.exit 1)
 .skip))) (.seq (.ops kK) (.seq (.ops kM) (.seq (.seq (.ops kN) (.cond (.var 11)
 .ret
 .skip)) (.seq (.ops bw) (.seq (.ops cA) (.cond (.var 12)
 (.ops rH)
 .skip)))))))))))
def A4a:Cr:=⟨4,13,(.seq (.ops kE) (.seq (.ops kF) (.block 0 (.loop Pv)))),[]⟩
def yJ:List CK:=[Bo Bi [Ad] 2]
def yK:List CK:=[Bn (Bh 98) [AC,AB,(.const (.func 99 [] []))],Bo Bi [AA] 2]
def A7Y:Cr:=⟨2,3,(.seq (.ops yJ) (.seq (.ops yK) .ret)),[((.var 2),none)]⟩
def zu:List CK:=[Bo (Ba 86) [AC] 1,Bo Bi [Ad] 2]
def zv:List CK:=[Bn (BU 86 0) [AB],Bn (BU 76 0) [AA],Bn (BT 3) [AA],Bo (BX .lss 3) [AA,BK] 3]
def A5P:List CK:=[Bo Bi [Ad] 2]
def zw:List CK:=[Bn (BU 86 0) [AB],Bn (BU 76 2) [AA],Bn (.r (DK prog 74 false false false)) [AA],Bn (Bh 39) [AA],Bn (Bh 100) [AA,(.const (.func 101 [] []))],Bo Bi [AA] 2]
def A7s:Cr:=⟨1,4,(.seq (.ops zu) (.seq (.seq (.ops zv) (.cond (.var 3)
 (.seq (.ops A5P) .ret)
 .skip)) (.seq (.ops zw) .ret))),[((.var 2),none)]⟩
def jC:List CK:=[Bo Bi [Ae] 1]
def jD:List CK:=[Bn (BX .lss 3) [AC,AE],Bo Bi [AA] 1]
def A4J:Cr:=⟨1,2,(.seq (.ops jC) (.seq (.ops jD) .ret)),[((.var 1),none)]⟩
def iz:List CK:=[Bo Bi [Ad] 2]
def i7:List CK:=[Bn (Bh 118) [AC,AB],Bo Bi [AA] 3]
def jA:List CK:=[Bo (BX .eql 3) [AG,BF] 6]
def jB:List CK:=[Bo Bi [AC] 2]
def A1C:List CK:=[Bn (BX .add 3) [AG,AL],Bo Bi [AA] 4]
def A1D:List CK:=[Bn (Bc 30) [AC],Bo (BX .lss 3) [AI,AA] 7]
def A1E:List CK:=[Bn (BY 30) [AC,AI],Bn (BT 3) [AA],Bo Bi [AA] 5]
def A1F:List CK:=[Bn Bk [AB,AK],Bo (.p1 (Yu prog Go.UnOp.not)) [AA] 8]
def A1G:List CK:=[Bn (BY 30) [AC,AG],Bn (BZ 3) [AA,AK]]
def A1H:List CK:=[Bn Bi [AG],Bn (BX .add 3) [AA,AL],Bo Bi [AA] 3]
def rE:List CK:=[Bn Bi [AI],Bn (BX .add 3) [AA,AL],Bo Bi [AA] 4]
def rD:Ck:=(.seq (.seq (.ops A1D) (.cond (.var 7)
 .skip
 (.exit 0))) (.seq (.block 1 (.seq (.ops A1E) (.seq (.ops A1F) (.cond (.var 8)
 (.seq (.ops A1G) (.ops A1H))
 .skip)))) (.ops rE)))
def rF:List CK:=[Bn (.r (DK prog 30 true false false)) [AC,AG],Bn (.e (fun s l=>VH prog s [30] l)) [AA]]
def rG:List CK:=[Bn (.r (DK prog 30 false true false)) [AC,AG],Bo Bi [AA] 2]
def A4I:Cr:=⟨2,9,(.seq (.ops iz) (.seq (.ops i7) (.seq (.seq (.ops jA) (.cond (.var 6)
 (.seq (.ops jB) .ret)
 .skip)) (.seq (.seq (.ops A1C) (.block 0 (.loop rD))) (.seq (.ops rF) (.seq (.ops rG) .ret)))))),[((.var 2),none)]⟩
def yL:List CK:=[Bo (Bb 84) [] 2]
def yM:List CK:=[Bn (Bh 102) [AC,AB,(.const (.func 103 [] []))],Bn (BZ 84) [AD,AA]]
def A7Z:Cr:=⟨2,3,(.seq (.ops yL) (.seq (.ops yM) .ret)),[((.var 2),some 84)]⟩
def jI:List CK:=[Bo (Ba 86) [AC] 1,Bo (Bb 84) [] 2]
def jJ:List CK:=[Bn (BU 86 2) [AB],Bn (BT 84) [AA],Bn (Bd 168 1 [0]) [AA],Bn (Bh 104) [AA],Bn (BZ 84) [AD,AA]]
def A4L:Cr:=⟨1,3,(.seq (.ops jI) (.seq (.ops jJ) .ret)),[((.var 2),some 84)]⟩
def lL:List CK:=[Bo (Ba 57) [AC] 1,Bo Bi [BE] 2]
def lM:List CK:=[Bn (Bg 74 0 0) [AB],Bo Bi [AA] 2]
def A6M:Cr:=⟨1,3,(.seq (.ops lL) (.seq (.ops lM) .ret)),[((.var 2),none)]⟩
theorem A1h:CY prog 31=some A7E:=by kernel_rfl
theorem A2I:CY prog 71=some A7f:=by kernel_rfl
theorem A2H:CY prog 70=some A7e:=by kernel_rfl
theorem A2V:CY prog 98=some A7r:=by kernel_rfl
theorem rR:CY prog 102=some A4K:=by kernel_rfl
theorem rZ:CY prog 111=some A4U:=by kernel_rfl
theorem A2A:CY prog 62=some A7X:=by kernel_rfl
theorem A2U:CY prog 97=some A7q:=by kernel_rfl
theorem ru:CY prog 125=some A4a:=by kernel_rfl
theorem A2B:CY prog 63=some A7Y:=by kernel_rfl
theorem A2W:CY prog 99=some A7s:=by kernel_rfl
theorem rP:CY prog 101=some A4J:=by kernel_rfl
theorem rO:CY prog 100=some A4I:=by kernel_rfl
theorem A2C:CY prog 64=some A7Z:=by kernel_rfl
theorem rS:CY prog 103=some A4L:=by kernel_rfl
theorem mU:CY prog 33=some A6M:=by kernel_rfl
end
end Go.Proofs.YtoaaclpjkelofaaGreatDoor.Am
set_option linter.all false
namespace Go.Proofs.YtoaaclpjkelofaaGreatDoor.Am
open Go Go.Proofs
noncomputable section
open Tryz
abbrev Mx:=Int×Int×Int×Int×List Nat
structure Fm where
 kind:Int
 num:Int
 p0:Int
 p1:Int
 rest:List Nat
 kids:List Int
 lin:Option (Rat×List (Int×Rat))
 size:Int
 text:List Nat
def Fm.key(f:Fm):Mx:=(f.kind,f.num,f.p0,f.p1,f.rest)
def Fm.cut (f:Fm):Fm:=if 4096<f.size then { f with size:=4097,text:=[] }else f
theorem Jy(f:Fm):f.cut.key=f.key:=by unfold Fm.cut;split<;>rfl
theorem JV(f:Fm):f.cut.kids=f.kids:=by unfold Fm.cut;split<;>rfl
theorem sF(f:Fm):f.cut.lin=f.lin:=by unfold Fm.cut;split<;>rfl
theorem NC(f:Fm):f.cut.kind=f.kind:=by unfold Fm.cut;split<;>rfl
def DP(F:List Fm):List Mx:=F.map Fm.key
def IH(F:List Fm)(k:Mx):Nat:=(DP F).idxOf k
def DN (F:List Fm) (f:Fm):List Fm:=if f.key∈DP F then F else F++[f.cut]
def It(k:Mx):List AV:=[iv k.1,iv k.2.1,iv k.2.2.1,iv k.2.2.2.1,.str k.2.2.2.2]
structure OG(n a i:Nat)(f:Fm):Prop where
 kd:0≤f.kind∧f.kind≤9
 nm:i64 f.num
 q0:-1≤f.p0∧f.p0≤n
 q1:-1≤f.p1∧f.p1≤n
 rs:f.rest.length≤1000000000
 kids:∀k∈f.kids,0≤k∧k<i
 not:f.kind=4→∃k,f.kids=[k]
 is:f.kind=9→0≤f.num∧f.num<a
 sz:1≤f.size∧f.size≤4097
 tx:(f.text.length:Int)≤200000 * f.size
 kl:f.kids.length≤1000000
theorem OG.mono{n a i n' a':Nat}{f:Fm}(h:OG n a i f)(hn:n≤n')(ha:a≤a'):OG n' a' i f:=
 ⟨h.kd,h.nm,⟨h.q0.1,by have:=h.q0.2;omega⟩,⟨h.q1.1,by have:=h.q1.2;omega⟩,h.rs,h.kids,h.not,fun e=>⟨(h.is e).1,by have:=(h.is e).2;omega⟩,h.sz,h.tx,h.kl⟩
def KE:List AV:=[.bool false,.slice none 0 (some 0),.slice none 0 (some 0),.slice none 0 (some 0),.slice none 0 (some 0)]
def Un(s:CO)(lc:List AV)(x:Option (Rat×List (Int×Rat)))(xo:List Nat):Prop:=match x with
 | none=>lc=KE
 | some _=>False
theorem Un.frame{s s':CO}{lc:List AV}{x:Option (Rat×List (Int×Rat))}{xo:List Nat}(h:Un s lc x xo)(hn:s.next≤s'.next)(hf:∀j∈xo,s'.heap.get j=s.heap.get j):Un s' lc x xo:=by
 cases x with
 | none=>exact h
 | some=>exact h.elim
theorem Un.five{s:CO}{lc:List AV}{x:Option (Rat×List (Int×Rat))}{xo:List Nat}(h:Un s lc x xo):∃a b c d e,lc=[a,b,c,d,e]∧a.isCell=true∧b.isCell=true∧c.isCell=true∧d.isCell=true∧e.isCell=true:=by
 cases x with
 | none=>exact⟨_,_,_,_,_,h,rfl,rfl,rfl,rfl,rfl⟩
 | some=>exact h.elim
structure TF(s:CO)(f:Fm)(x:List AV)(xo:List Nat):Prop where
 ex:∃kv lc,x=kv::lc∧Cl s kv f.kids∧(∀j,EQ kv=some j→j∈xo)∧Un s lc f.lin xo
 lt:∀j∈xo,j<s.next
theorem Cl.frame1{s s':CO}{v:AV}{l:List Int}(h:Cl s v l)(hn:s.next≤s'.next)(hf:∀j,EQ v=some j→s'.heap.get j=s.heap.get j):Cl s' v l:=by
 rcases h with h | ⟨j,q,cap,rfl,h2,h3⟩
 ·exact .inl h
 ·exact .inr ⟨j,q,cap,rfl,by omega,by rw[hf j rfl];exact h3⟩
theorem TF.frame{s s':CO}{f:Fm}{x:List AV}{xo:List Nat}(h:TF s f x xo)(hn:s.next≤s'.next)(hf:∀j∈xo,s'.heap.get j=s.heap.get j):TF s' f x xo:=by
 obtain⟨kv,lc,h1,h2,h3,h4⟩:=h.ex
 exact⟨⟨kv,lc,h1,h2.frame1 hn fun j hj=>hf j (h3 j hj),h3,h4.frame hn hf⟩,fun j hj=>A8L (h.lt j hj) hn⟩
theorem TF.old{s s':CO}{f:Fm}{x:List AV}{xo:List Nat}(h:TF s f x xo)(ho:DL s.next s s'):TF s' f x xo:=h.frame ho.1 fun j hj=>ho.2 j (h.lt j hj)
theorem FZ{s:CO}{v:AV}{l:List Int}(h:Cl s v l):v.isCell=true:=by
 rcases h with⟨_,rfl⟩ | ⟨j,q,cap,rfl,_⟩<;>rfl
theorem TF.six{s:CO}{f:Fm}{x:List AV}{xo:List Nat}(h:TF s f x xo):∃kv a b c d e,x=[kv,a,b,c,d,e]∧Cl s kv f.kids∧(∀j,EQ kv=some j→j∈xo)∧Un s [a,b,c,d,e] f.lin xo∧kv.isCell=true∧a.isCell=true∧b.isCell=true∧c.isCell=true∧d.isCell=true∧e.isCell=true:=by
 obtain⟨kv,lc,rfl,h2,h3,h4⟩:=h.ex
 obtain⟨a,b,c,d,e,rfl,h5⟩:=h4.five
 exact⟨kv,a,b,c,d,e,rfl,h2,h3,h4,FZ h2,h5⟩
theorem TF.cut{s:CO}{f:Fm}{x:List AV}{xo:List Nat}(h:TF s f x xo):TF s f.cut x xo:=by
 obtain⟨kv,lc,h1,h2,h3,h4⟩:=h.ex
 exact⟨⟨kv,lc,h1,by rw[JV];exact h2,h3,by rw[sF];exact h4⟩,h.lt⟩
def F7(f:Fm)(x:List AV):List AV:=It f.key++x++[iv f.size,.str f.text]
def Hm:List Fm→List (List AV×List Nat)→List AV
 | f::l,x::xs=>F7 f x.1++Hm l xs
 | _,_=>[]
theorem Lw{f:Fm}{x:List AV×List Nat}:∀ {l:List Fm}{xs:List (List AV×List Nat)},xs.length=l.length→Hm (l++[f]) (xs++[x])=Hm l xs++F7 f x.1
 | [],[],_=>by simp[Hm]
 | g::l,y::xs,h=>by simp only[A8e,Hm,A8n];rw[Lw (by simpa using h)]
theorem RF{s:CO}{f:Fm}{x:List AV}{xo:List Nat}(h:TF s f x xo):(F7 f x).length=13:=by
 obtain⟨kv,a,b,c,d,e,rfl,_⟩:=h.six
 rfl
def IQ(s:CO):List Fm→List (List AV×List Nat)→Prop
 | [],[]=>True
 | f::l,x::xs=>TF s f x.1 x.2∧IQ s l xs
 | _,_=>False
theorem IQ.len{s:CO}:∀ {l:List Fm}{xs:List (List AV×List Nat)},IQ s l xs→xs.length=l.length
 | [],[],_=>rfl
 | f::l,x::xs,h=>by simp[IQ.len h.2]
theorem IQ.frame{s s':CO}(hn:s.next≤s'.next):∀ {l:List Fm}{xs:List (List AV×List Nat)},IQ s l xs→(∀x∈xs,∀j∈x.2,s'.heap.get j=s.heap.get j)→IQ s' l xs
 | [],[],_,_=>trivial
 | f::l,x::xs,h,hf=>⟨h.1.frame hn (hf x A8M),IQ.frame hn h.2 fun y hy=>hf y (A8J _ hy)⟩
theorem IQ.append{s:CO}{f:Fm}{x:List AV×List Nat}(hx:TF s f x.1 x.2):∀ {l:List Fm}{xs:List (List AV×List Nat)},IQ s l xs→IQ s (l++[f]) (xs++[x])
 | [],[],_=>⟨hx,trivial⟩
 | g::l,y::xs,h=>⟨h.1,IQ.append hx h.2⟩
theorem IQ.at{s:CO}:∀ {l:List Fm}{xs:List (List AV×List Nat)},IQ s l xs→∀ {i:Nat}{f:Fm},l[i]? = some f→∃x,xs[i]? = some x∧TF s f x.1 x.2∧∀j,j<13→(Hm l xs)[i * 13+j]? = (F7 f x.1)[j]?
 | [],[],_,i,f,h=>by simp at h
 | g::l,x::xs,h,i,f,hi=>by
  have hlen:=RF h.1
  cases i with
  | zero =>
   simp at hi
   subst hi
   exact⟨x,rfl,h.1,fun j hj=>by simp only[Hm,A9H,A8V];rw[A8d (by omega)]⟩
  | succ i =>
   obtain⟨y,h1,h2,h3⟩:=IQ.at h.2 (i:=i) (f:=f) (by simpa using hi)
   refine⟨y,by simpa using h1,h2,fun j hj=>?_⟩
   simp only[Hm]
   rw[A8g (by omega),hlen,show(i+1) * 13+j - 13=i * 13+j from by omega]
   exact h3 j hj
theorem IQ.cells_len{s:CO}:∀ {l:List Fm}{xs:List (List AV×List Nat)},IQ s l xs→(Hm l xs).length=l.length * 13
 | [],[],_=>rfl
 | f::l,x::xs,h=>by
  simp only[Hm,A8X,A8P,RF h.1,IQ.cells_len h.2]
  omega
theorem IQ.lt{s:CO}:∀ {l:List Fm}{xs:List (List AV×List Nat)},IQ s l xs→∀x∈xs,∀j∈x.2,j<s.next
 | [],[],_,x,hx=>by cases hx
 | f::l,y::xs,h,x,hx=>by
  rcases A8I.1 hx with rfl | hx
  ·exact h.1.lt
  ·exact IQ.lt h.2 x hx
def Fq:List Mx→Nat→List (AV×AV)
 | [],_=>[]
 | k::l,i=>(.agg (It k),iv (i:Int))::Fq l (i+1)
theorem ME(k:Mx):∀ (l:List Mx)(i:Nat),Fq (l++[k]) i=Fq l i++[(.agg (It k),iv ((i+l.length:Nat):Int))]
 | [],i=>rfl
 | x::l,i=>by
  simp only[A8e,Fq]
  rw[ME k l (i+1),show i+1+l.length=i+(x::l).length from by simp;omega]
theorem sq(a b:Mx):GW (.agg (It a)) (.agg (It b))=some (decide (a=b)):=by
 have si:∀a b:Int,Zn a b=decide (a=b):=fun a b=>by rw[Hn];rfl
 have ss:∀a b:List Nat,Fb a b=decide (a=b):=fun a b=>by
  rw[A9e,decide_eq_true_eq];exact Jp
 obtain⟨a1,a2,a3,a4,a5⟩:=a
 obtain⟨b1,b2,b3,b4,b5⟩:=b
 have:GW (.agg (It (a1,a2,a3,a4,a5))) (.agg (It (b1,b2,b3,b4,b5)))=some (decide (a1=b1) && (decide (a2=b2) && (decide (a3=b3) && (decide (a4=b4) && (decide (a5=b5) && true))))):=by
  simp only[It,GW,GW.keysEq,FS,CU,cond_true,Option.bind_some,si,ss]
 rw[this]
 congr 1
 rw[A9e]
 simp only[A9W,decide_eq_true_eq,A9T,Prod.mk.injEq]
theorem P1(k:Mx):∀ (l:List Mx)(i j:Nat),Fw (.agg (It k)) (Fq l i) j=some (if k∈l then some (j+l.idxOf k,iv ((i+l.idxOf k:Nat):Int))else none)
  | [],i,j=>by simp[Fw,Fq]
  | x::l,i,j=>by
    simp only[Fq,Fw,sq,Option.bind_some]
    by_cases e:k=x
    · subst e;simp
    · simp only[e,A9a]
      rw[P1 k l (i+1) (j+1)]
      by_cases hm:k∈l
      · rw[if_pos hm,if_pos (A8J _ hm)]
        have:(x::l).idxOf k=l.idxOf k+1:=by rw[List.idxOf_cons,beq_false_of_ne (Ne.symm e)];rfl
        rw[this,show j+1+l.idxOf k=j+(l.idxOf k+1)from by omega,show i+1+l.idxOf k=i+(l.idxOf k+1)from by omega]
      · rw[if_neg hm,if_neg (by simp[e,hm])]
theorem HR{F:List Fm}{f:Fm}:f.key∈DP (DN F f):=by
 unfold DN
 split
 ·assumption
 ·simp[DP,Jy]
theorem Ve{F:List Fm}{k:Mx}(h:k∈DP F):IH F k<F.length:=by
 have:=A9Q h
 simpa[DP,IH]using this
theorem sk{F:List Fm}{f:Fm}(h:f.key ∉ DP F):IH (F++[f.cut]) f.key=F.length:=by
 unfold IH DP at *
 rw[A8r,A9J,if_neg h]
 simp[Jy]
theorem Tw{F:List Fm}{f:Fm}:(DN F f).length≤F.length+1:=by
 unfold DN
 split<;>simp
structure LG where
 S:List Tm
 F:List Fm
 A:List (Int×Int)
 q:Nat
abbrev eH(X:List (List AV×List Nat)):List Nat:=X.flatMap (·.2)
def arC(A:List (Int×Int)):List AV:=A.flatMap fun a=>[iv a.1,iv a.2]
def oJ:List (Int×Int)→Nat→List (AV×AV)
 | [],_=>[]
 | a::l,i=>(.agg [iv a.1,iv a.2],iv (i:Int))::oJ l (i+1)
def N9(l:List (List Nat)):Prop:=l.Pairwise fun a b=>∀j∈a,j ∉ b
structure GQ(s:CO)(p:Nat)(L:LG)(O:List Nat)(q:Nat)(fv:AV)(mf:Nat)(av:AV)(mk:Nat)(X:List (List AV×List Nat))(OS OB OA:List Nat):Prop where
 obj:s.heap.get p=some (R 49 0 false [.ptr (some (q,0)),fv,.map (some mf),av,.map (some mk)])
 terms:DD s q L.S OS
 buf:HD 86 13 s fv L.F.length (Hm L.F X) OB
 fnd:s.heap.get mf=some (.map 76 (Fq (DP L.F) 0))
 abuf:HD 94 2 s av L.A.length (arC L.A) OA
 knw:s.heap.get mk=some (.map 94 (oJ L.A 0))
 fms:IQ s L.F X
 plt:p<s.next
 flt:mf<s.next
 klt:mk<s.next
 qe:q=L.q
 eq:O=p::mf::mk::(OS++(OB++(OA++eH X)))
 ap:N9 [[p],[mf],[mk],OS,OB,OA,eH X]
structure DG(s:CO)(p:Nat)(L:LG)(O:List Nat):Prop where
 small:L.F.length≤1000000
 ok:∀ (i:Nat) (f:Fm),L.F[i]? = some f→OG L.S.length L.A.length i f
 ex:∃q fv mf av mk X OS OB OA,GQ s p L O q fv mf av mk X OS OB OA
section
variable{s s':CO}{p:Nat}{L:LG}{O:List Nat}{q:Nat}{fv:AV}{mf:Nat}{av:AV}{mk:Nat}{X:List (List AV×List Nat)}{OS OB OA:List Nat}
theorem GQ.parts(h:GQ s p L O q fv mf av mk X OS OB OA):p∈O∧mf∈O∧mk∈O∧(∀j∈OS,j∈O)∧(∀j∈OB,j∈O)∧(∀j∈OA,j∈O)∧(∀x∈X,∀j∈x.2,j∈O):=by
 refine⟨by rw[h.eq];simp,by rw[h.eq];simp,by rw[h.eq];simp,fun j hj=>by rw[h.eq];simp[hj],fun j hj=>by rw[h.eq];simp[hj],fun j hj=>by rw[h.eq];simp[hj],fun x hx j hj=>?_⟩
 have:j∈eH X:=List.mem_flatMap.2 ⟨x,hx,hj⟩
 rw[h.eq]
 simp only[A8I,A8q]
 exact .inr (.inr (.inr (.inr (.inr (.inr this)))))
theorem GQ.lt(h:GQ s p L O q fv mf av mk X OS OB OA):∀j∈O,j<s.next:=by
 intro j hj
 rw[h.eq]at hj
 simp only[A8I,A8q]at hj
 rcases hj with rfl | rfl | rfl | hj | hj | hj | hj
 ·exact h.plt
 ·exact h.flt
 ·exact h.klt
 ·exact h.terms.lt j hj
 ·exact h.buf.lt j hj
 ·exact h.abuf.lt j hj
 ·obtain⟨x,hx,hj⟩:=List.mem_flatMap.1 hj
  exact h.fms.lt x hx j hj
theorem DG.lt(h:DG s p L O):∀j∈O,j<s.next:=let ⟨_,_,_,_,_,_,_,_,_,h⟩:=h.ex;h.lt
theorem GQ.frame(h:GQ s p L O q fv mf av mk X OS OB OA)(hn:s.next≤s'.next)(k:∀j∈O,s'.heap.get j=s.heap.get j):GQ s' p L O q fv mf av mk X OS OB OA:=by
 obtain⟨h1,h2,h3,h4,h5,h6,h7⟩:=h.parts
 exact⟨by rw[k p h1];exact h.obj,h.terms.frame hn fun j hj=>k j (h4 j hj),h.buf.frame hn fun j hj=>k j (h5 j hj),by rw[k mf h2];exact h.fnd,h.abuf.frame hn fun j hj=>k j (h6 j hj),by rw[k mk h3];exact h.knw,
  h.fms.frame hn fun x hx j hj=>k j (h7 x hx j hj),A8L h.plt hn,A8L h.flt hn,A8L h.klt hn,h.qe,h.eq,h.ap⟩
theorem DG.frame(h:DG s p L O)(hn:s.next≤s'.next)(k:∀j∈O,s'.heap.get j=s.heap.get j):DG s' p L O:=by
 obtain⟨q,fv,mf,av,mk,X,OS,OB,OA,e⟩:=h.ex
 exact⟨h.small,h.ok,q,fv,mf,av,mk,X,OS,OB,OA,e.frame hn k⟩
theorem DG.old(h:DG s p L O)(k:DL s.next s s'):DG s' p L O:=h.frame k.1 fun j hj=>k.2 j (h.lt j hj)
theorem GQ.old(h:GQ s p L O q fv mf av mk X OS OB OA)(k:DL s.next s s'):GQ s' p L O q fv mf av mk X OS OB OA:=h.frame k.1 fun j hj=>k.2 j (h.lt j hj)
theorem GQ.term{OS':List Nat}{S':List Tm}(h:GQ s p L O q fv mf av mk X OS OB OA)(ht:DD s' q S' OS')(hf:Eb OS s s')(hg:DR OS OS' s):
  GQ s' p ⟨S',L.F,L.A,L.q⟩ (p::mf::mk::(OS'++(OB++(OA++eH X)))) q fv mf av mk X OS' OB OA:=by
 have hap:=h.ap
 simp only[N9,A9I,A8I,A8K,A9V,forall_eq_or_imp,forall_eq,List.Pairwise.nil,A9T,false_imp_iff,implies_true]at hap
 obtain⟨⟨a1,a2,a3,a4,a5,a6⟩,⟨b1,b2,b3,b4,b5⟩,⟨c1,c2,c3,c4⟩,⟨d1,d2,d3⟩,⟨e1,e2⟩,f1⟩:=hap
 have hlt:=h.lt
 obtain⟨h1,h2,h3,h4,h5,h6,h7⟩:=h.parts
 have hX:∀x∈X,∀j∈x.2,j∈eH X:=fun x hx j hj=>List.mem_flatMap.2 ⟨x,hx,hj⟩
 have hX':∀j∈eH X,j∈O:=fun j hj=>by
  obtain⟨x,hx,hj⟩:=List.mem_flatMap.1 hj
  exact h7 x hx j hj
 have k:∀j∈O,j ∉ OS→s'.heap.get j=s.heap.get j:=fun j hj hn=>hf.2 j (hlt j hj) hn
 have new:∀j∈O,j ∉ OS→j ∉ OS':=fun j hj hn hm=>(hg j hm).elim hn fun hl=>by have:=hlt j hj;omega
 refine⟨by rw[k p h1 a3];exact h.obj,ht,h.buf.frame hf.1 fun j hj=>k j (h5 j hj) (fun hm=>d1 j hm hj),by rw[k mf h2 b2];exact h.fnd,h.abuf.frame hf.1 fun j hj=>k j (h6 j hj) (fun hm=>d2 j hm hj),by rw[k mk h3 c1];exact h.knw,
  h.fms.frame hf.1 fun x hx j hj=>k j (h7 x hx j hj) (fun hm=>d3 j hm (hX x hx j hj)),A8L h.plt hf.1,A8L h.flt hf.1,A8L h.klt hf.1,h.qe,rfl,?_⟩
 simp only[N9,A9I,A8I,A8K,A9V,forall_eq_or_imp,forall_eq,List.Pairwise.nil,A9T,false_imp_iff,implies_true]
 exact⟨⟨a1,a2,new p h1 a3,a4,a5,a6⟩,⟨b1,new mf h2 b2,b3,b4,b5⟩,⟨new mk h3 c1,c2,c3,c4⟩,
  ⟨fun j hj hm=>new j (h5 j hm) (fun h'=>d1 j h' hm) hj,fun j hj hm=>new j (h6 j hm) (fun h'=>d2 j h' hm) hj,fun j hj hm=>new j (hX' j hm) (fun h'=>d3 j h' hm) hj⟩,⟨e1,e2⟩,f1⟩
theorem DG.term{OS':List Nat}{S':List Tm}(h:DG s p L O)(e:GQ s p L O q fv mf av mk X OS OB OA)(ht:DD s' q S' OS')(hf:Eb OS s s')(hg:DR OS OS' s)(hl:L.S.length≤S'.length):
  ∃O',DG s' p ⟨S',L.F,L.A,L.q⟩ O'∧Eb O s s'∧DR O O' s∧GQ s' p ⟨S',L.F,L.A,L.q⟩ O' q fv mf av mk X OS' OB OA:=by
 have e2:=e.term ht hf hg
 obtain⟨h1,h2,h3,h4,h5,h6,h7⟩:=e.parts
 refine⟨_,⟨h.small,fun i f hi=>(h.ok i f hi).mono hl (A8H _),_,_,_,_,_,_,_,_,_,e2⟩,⟨hf.1,fun j hj hn=>hf.2 j hj fun hm=>hn (h4 j hm)⟩,fun j hj=>?_,e2⟩
 simp only[A8I,A8q]at hj
 rcases hj with rfl | rfl | rfl | hj | hj | hj | hj
 ·exact .inl h1
 ·exact .inl h2
 ·exact .inl h3
 ·exact(hg j hj).imp (h4 j) id
 ·exact .inl (h5 j hj)
 ·exact .inl (h6 j hj)
 ·obtain⟨x,hx,hj⟩:=List.mem_flatMap.1 hj
  exact .inl (h7 x hx j hj)
theorem GQ.form(h:GQ s p L O q fv mf av mk X OS OB OA){i:Nat}{f:Fm}(hi:L.F[i]? = some f):
    ∃x j r,X[i]? = some x∧TF s f x.1 x.2∧fv=.slice (some (j,0)) L.F.length none∧j∈O∧s.heap.get j=some (.row r)∧EV (some (.row r)) (i * 13) 13=some (F7 f x.1)∧∀k,k<13→DY (some (.row r)) (i * 13+k)=(F7 f x.1)[k]? := by
  obtain⟨x,hx,hfx,hat⟩:=h.fms.at hi
  have hil:i<L.F.length:=by
    rcases A8N i L.F.length with h' | h'
    · exact h'
    · rw[A8W h']at hi;cases hi
  have hlen:=h.fms.cells_len
  have hel:=RF hfx
  rcases h.buf.row with⟨_,h0,_⟩ | ⟨j,r,h1,h2,h3,h4⟩
  · omega
  · refine ⟨x, j, r, hx, hfx, h1, h.parts.2.2.2.2.1 j h2, h3, ?_, fun k hk => ?_⟩
    · rw[H6 h4 (by rw[hlen];omega)]
      congr 1
      apply List.ext_getElem?
      intro k
      by_cases hk:k<13
      · rw[A9P hk,A8y]
        exact hat k hk
      · rw[A8W (by simp;omega),A8W (by omega)]
    · have hk2:(F7 f x.1)[k]? = some (F7 f x.1)[k]:=A8O (by omega)
      rw[hk2]
      exact nj h4 (by rw[hat k hk];exact hk2)
end
end
end Go.Proofs.YtoaaclpjkelofaaGreatDoor.Am
set_option linter.all false
set_option maxHeartbeats 1000000
namespace Go.Proofs.YtoaaclpjkelofaaGreatDoor.Am
open Go Go.Proofs
noncomputable section
open Tryz
set_option maxRecDepth 100000 in
theorem pz(a b c d:Int)(l:List Nat):E3 prog 76 (.agg [iv a,iv b,iv c,iv d,.str l]) =
  (D7 .i64 a && (D7 .i64 b && ((D7 .i64 c && (D7 .i64 d && true)) && (Nat.ble l.length 1099511627776 && true)))):=by kernel_rfl
theorem WA{n a i:Nat}{f:Fm}(h:OG n a i f)(hn:n≤1000000):E3 prog 76 (.agg (It f.key))=true:=by
 have h1:i64 f.kind:=by have:=h.kd;unfold i64;omega
 have h2:i64 f.p0:=by have:=h.q0;unfold i64;omega
 have h3:i64 f.p1:=by have:=h.q1;unfold i64;omega
 have h4:=h.rs
 show E3 prog 76 (.agg [iv f.kind,iv f.num,iv f.p0,iv f.p1,.str f.rest])=true
 rw[pz,Do h1,Do h.nm,Do h2,Do h3,EA (by omega)]
 rfl
theorem oU{s:CO}{mf n a i:Nat}{F:List Fm}{f:Fm}(hf:s.heap.get mf=some (.map 76 (Fq (DP F) 0)))(h:OG n a i f)(hn:n≤1000000):
  Dy prog s 44 (.map (some mf)) (.agg (It f.key)) true=some (.tuple [if f.key∈DP F then iv (IH F f.key:Int)else iv 0,.bool (decide (f.key∈DP F))]):=by
 have hrd:Gw s 76 mf=some (Fq (DP F) 0):=by unfold Gw;rw[hf];simp[CU]
 unfold Dy
 simp only[underlying44,WA h hn,EB,hrd,Option.bind_some,P1]
 by_cases hm:f.key∈DP F<;>simp[hm,A6B,IH]
theorem qJ{s:CO}{mf n a i:Nat}{F:List Fm}{f:Fm}(hf:s.heap.get mf=some (.map 76 (Fq (DP F) 0)))(h:OG n a i f)(hn:n≤1000000)(hu:f.key ∉ DP F):
  EF prog s 44 (.map (some mf)) (.agg (It f.key)) (iv (F.length:Int))=some (setObj s mf (.map 76 (Fq (DP (F++[f.cut])) 0))):=by
 unfold EF
 simp only[underlying44,WA h hn,EB,I4,hf,Hk,Option.bind_some,Pp,P1,if_neg hu]
 have:DP (F++[f.cut])=DP F++[f.key]:=by simp[DP,Jy]
 rw[this,ME]
 simp[DP]
theorem pk(c0 c1 c2 c3 c4 c5 c6 c7 c8 c9 A4H A4S A4Z:AV):Cd prog 46 1 (zipIdx [0] [.agg [c0,c1,c2,c3,c4,c5,c6,c7,c8,c9,A4H,A4S,A4Z]]) =
  some (R 86 13 false [c0,c1,c2,c3,c4,c5,c6,c7,c8,c9,A4H,A4S,A4Z]):=by kernel_rfl
theorem uQ:FU prog 86 13=true:=by kernel_rfl
theorem gw:EE prog 46=true:=by kernel_rfl
section
variable{E:Dw}{s:CO}{p:Nat}{L:LG}{O:List Nat}{q:Nat}{fv:AV}{mf:Nat}{av:AV}{mk:Nat}{X:List (List AV×List Nat)}{OS OB OA:List Nat}
  (hL:DG s p L O) (e:GQ s p L O q fv mf av mk X OS OB OA) (hsm:L.F.length<1000000) (hSm:L.S.length≤1000000) {f:Fm} (hf:OG L.S.length L.A.length L.F.length f.cut) (hu:f.key ∉ DP L.F) {x:List AV} {xo:List Nat} (hx:TF s f x xo) (hxo:∀j∈xo,j ∉ O)
  {kb fb:Nat} (hkb:s.heap.get kb=some (R 76 0 false (It f.key))) (hfb:s.heap.get fb=some (R 86 0 false (F7 f.cut x))) (hk1:kb<s.next) (hf1:fb<s.next) (hk2:kb ∉ O) (a1 a2 a3 a6 a7 a8 a9 a10:AV)
include hL e hsm hSm hf hu hx hxo hkb hfb hk1 hf1 hk2
theorem fj{K:AV→CO→Prop}(hK:∀s' O',DG s' p ⟨L.S,L.F++[f.cut],L.A,L.q⟩ O'→Eb O s s'→DR (xo++O) O' s→K (iv (L.F.length:Int)) s'):
    Qb E cJ (fun v s'=>Qb E cK (fun v s'=>Qb E U7 (fun v s'=>Jj (EL s' []) fun s'=>K (Hw v 6) s') [] v s') [] v s') []
      [.ptr (some (p,0)),a1,a2,a3,.ptr (some (kb,0)),.ptr (some (fb,0)),a6,a7,a8,a9,a10] s:=by
  obtain⟨kv,x0,x1,x2,x3,x4,rfl,hkd,hks,hlx,d0,d1,d2,d3,d4,d5⟩:=hx.six
  obtain⟨m1,m2,m3,m4,m5,m6,m7⟩:=e.parts
  have hplt:=e.plt
  have hflt:=e.flt
  have hobj:=e.obj
  have hap:=e.ap
  simp only[N9,A9I,A8I,A8K,A9V,forall_eq_or_imp,forall_eq,List.Pairwise.nil,A9T,false_imp_iff,implies_true]at hap
  obtain⟨⟨b1,b2,b3,b4,b5,b6⟩,⟨c1,c2,c3,c4,c5⟩,⟨g1,g2,g3,g4⟩,⟨h1,h2,h3⟩,⟨i1,i2⟩,j1⟩:=hap
  generalize hs:s.next=b at hplt hflt hk1 hf1
  have hs0:s=ext s []:=(Ca s).symm
  have hent:F7 f.cut [kv,x0,x1,x2,x3,x4]=[iv f.cut.kind,iv f.cut.num,iv f.cut.p0,iv f.cut.p1,.str f.cut.rest,kv,x0,x1,x2,x3,x4,iv f.cut.size,.str f.cut.text]:=rfl
  have hac:C3 (F7 f.cut [kv,x0,x1,x2,x3,x4])=true:=by
    rw[hent]
    simp only[C3,d0,d1,d2,d3,d4,d5,MY,MZ,Bool.and_self]
  have hnx:(ext s [R 86 13 false (F7 f.cut [kv,x0,x1,x2,x3,x4])]).next=b+1:=by rw[Ce,CN,hs];rfl
  have hbuf:=e.buf.frame (s':=ext s [R 86 13 false (F7 f.cut [kv,x0,x1,x2,x3,x4])]) (by rw[hnx];omega) (fun j hj=>Cm (e.buf.lt j hj))
  have hsrc:FT prog (ext s [R 86 13 false (F7 f.cut [kv,x0,x1,x2,x3,x4])]) 86 13 (.slice (some (nid b 0,0)) 1 (some 1))=some (1,F7 f.cut [kv,x0,x1,x2,x3,x4]):=by
    show(Pr _ (nid b 0) 0 1 13).bind _=_
    rw[Jo (l:=F7 f.cut [kv,x0,x1,x2,x3,x4]) (by rw[Et,CR hs (by simp)];show EV (some (R 86 13 false (F7 f.cut [kv,x0,x1,x2,x3,x4]))) _ _=_;rw[D3 (by exact A8H _)];rfl)]
    rfl
  obtain⟨v',s2,O2,happ,hb2,hn2,hf2,hO2,hsl⟩:=hbuf.append (xt:=46) underlying46 Ny A6L (by omega) gw uQ (by omega) hsrc rfl hac (by omega) (by omega)
  have hv2:∃a c,v'=.slice a (L.F.length+1) c:=let ⟨a,c,h,_⟩:=hb2.slice;⟨a,c,h⟩
  obtain⟨fa,fc,rfl⟩:=hv2
  rw[hnx]at hn2 hf2 hO2 hsl
  have gold:∀j,j<b→j ∉ OB→s2.heap.get j=s.heap.get j:=fun j h1 h2=>by
    rw[hf2 j (by omega) h2,Cm (by omega)]
  have gp:s2.heap.get p=some (R 49 0 false [.ptr (some (q,0)),fv,.map (some mf),av,.map (some mk)]):=by rw[gold p hplt b4];exact hobj
  have gf:s2.heap.get mf=some (.map 76 (Fq (DP L.F) 0)):=by rw[gold mf hflt c3];exact e.fnd
  have gk:s2.heap.get kb=some (R 76 0 false (It f.key)):=by rw[gold kb hk1 fun h=>hk2 (m5 kb h)];exact hkb
  have hkp:kb≠p:=fun h=>hk2 (h▸m1)
  have hfp:mf≠p:=fun h=>b1 h.symm
  have hup:=qJ (s:=setObj s2 p (R 49 0 false [.ptr (some (q,0)),.slice fa (L.F.length+1) fc,.map (some mf),av,.map (some mk)])) (mf:=mf) (by rw[CS _ hfp];exact gf) (f:=f.cut) hf hSm (by rw[Jy];exact hu)
  have hcc:f.cut.cut=f.cut:=by
    by_cases h:4096<f.size<;>simp[Fm.cut,h]
  rw[Jy,hcc]at hup
  have hsub:i64 (((L.F.length+1:Nat):Int) - 1):=by unfold i64;omega
  have hsub2:((L.F.length+1:Nat):Int) - 1=(L.F.length:Int):=by omega
  have hkV:It f.key=[iv f.kind,iv f.num,iv f.p0,iv f.p1,.str f.rest]:=rfl
  rw[hent]at hfb happ
  rw[hkV]at hkb gk hup
  rw[hs0]
  simp only[cJ,cK,U7,Qb,QS,GS,Zo,hplt,hobj,hs,hf1,Lq,A0x,iX,iB,A6d,qo,Ny,hfb,pk,happ,gp,hkp,gk,DQ underlying46,Pt _ _ _ _ hsub,hsub2,hup,Ne.symm hfp,ne_eq,not_false_eq_true,Wg,Nat.reduceAdd,Nat.reduceLeDiff]
  have hnf:(setObj (setObj s2 p (R 49 0 false [.ptr (some (q,0)),.slice fa (L.F.length+1) fc,.map (some mf),av,.map (some mk)])) mf (.map 76 (Fq (DP (L.F++[f.cut])) 0))).next=b+2:=by rw[Cp,Cp,hn2]
  generalize hsf:setObj (setObj s2 p (R 49 0 false [.ptr (some (q,0)),.slice fa (L.F.length+1) fc,.map (some mf),av,.map (some mk)])) mf (.map 76 (Fq (DP (L.F++[f.cut])) 0))=sf at hnf ⊢
  have hget:∀j,j≠p→j≠mf→sf.heap.get j=s2.heap.get j:=fun j h1 h2=>by
    rw[← hsf,CS _ h2,CS _ h1]
  have hlen:(L.F++[f.cut]).length=L.F.length+1:=by simp
  have hXs:eH (X++[([kv,x0,x1,x2,x3,x4],xo)])=eH X++xo:=by simp[eH]
  have hXO:∀j∈eH X,j∈O∧j ∉ OB:=fun j hj=>⟨by
    obtain⟨y,hy,hj⟩:=List.mem_flatMap.1 hj
    exact m7 y hy j hj,fun h=>i2 j h hj⟩
  have hpO2:p ∉ O2:=fun h=>(hO2 p h).elim b4 (fun h=>by omega)
  have hfO2:mf ∉ O2:=fun h=>(hO2 mf h).elim c3 (fun h=>by omega)
  have hklt:=e.klt
  rw[hs]at hklt
  have hkO2:mk ∉ O2:=fun h=>(hO2 mk h).elim g2 (fun h=>by omega)
  have hltO:=e.lt
  rw[hs]at hltO
  have hxlt:=hx.lt
  rw[hs]at hxlt
  have gall:∀j∈O,j≠p→j≠mf→j ∉ OB→sf.heap.get j=s.heap.get j:=fun j hj h1 h2 h3=>by rw[hget j h1 h2,gold j (hltO j hj) h3]
  refine hK _ (p::mf::mk::(OS++(O2++(OA++eH (X++[([kv,x0,x1,x2,x3,x4],xo)]))))) ⟨by rw[hlen];omega,?_,q,.slice fa (L.F.length+1) fc,mf,av,mk,X++[([kv,x0,x1,x2,x3,x4],xo)],OS,O2,OA,?_⟩ ⟨by omega,?_⟩ ?_
  · intro i g hg
    rcases A8N i L.F.length with hl | hl
    · exact hL.ok i g (by rw[A8d hl]at hg;exact hg)
    · have hi2:i<(L.F++[f.cut]).length:=by
        rcases A8N i (L.F++[f.cut]).length with h' | h'
        · exact h'
        · rw[A8W h']at hg;cases hg
      have hi3:i=L.F.length:=by omega
      subst hi3
      have:g=f.cut:=by simpa using hg.symm
      subst this
      exact hf
  · refine ⟨?_, ?_, ?_, ?_, ?_, ?_, ?_, by omega, by omega, by omega, e.qe, rfl, ?_⟩
    · rw[← hsf,CS _ (Ne.symm hfp),Co]
    · exact e.terms.frame (by omega) fun j hj=>gall j (m4 j hj) (fun h=>b3 (h▸hj)) (fun h=>c2 (h▸hj)) (h1 j hj)
    · show HD 86 13 sf _ (L.F++[f.cut]).length (Hm (L.F++[f.cut]) _) O2
      rw[hlen,Lw e.fms.len]
      exact hb2.frame (by omega) fun j hj=>hget j (fun h=>hpO2 (h▸hj)) (fun h=>hfO2 (h▸hj))
    · rw[← hsf,Co]
    · exact e.abuf.frame (by omega) fun j hj=>gall j (m6 j hj) (fun h=>b5 (h▸hj)) (fun h=>c4 (h▸hj)) (fun h=>i1 j h hj)
    · rw[gall mk m3 (Ne.symm b2) (Ne.symm c1) g2];exact e.knw
    · refine IQ.append   ?_ (e.fms.frame (by omega) fun y hy j hj => ?_)
      · refine hx.cut.frame (by omega) fun j hj => ?_
        rw[hget j (fun h=>hxo j hj (h▸m1)) (fun h=>hxo j hj (h▸m2)),gold j (hxlt j hj) (fun h=>hxo j hj (m5 j h))]
      · have:=hXO j (List.mem_flatMap.2 ⟨y,hy,hj⟩)
        exact gall j this.1 (fun h=>b6 (by rw[← h];exact List.mem_flatMap.2 ⟨y,hy,hj⟩)) (fun h=>c5 (by rw[← h];exact List.mem_flatMap.2 ⟨y,hy,hj⟩)) this.2
    · simp only[N9,A9I,A8I,A8K,A9V,forall_eq_or_imp,forall_eq,List.Pairwise.nil,A9T,false_imp_iff,implies_true,hXs,A8q,not_or]
      have new:∀j∈O,j ∉ OB→j ∉ O2:=fun j hj hn hm=>(hO2 j hm).elim hn fun hl=>by have:=hltO j hj;omega
      exact⟨⟨b1,b2,b3,hpO2,b5,b6,fun h=>hxo p h m1⟩,⟨c1,c2,hfO2,c4,c5,fun h=>hxo mf h m2⟩,⟨g1,hkO2,g3,g4,fun h=>hxo mk h m3⟩,
        ⟨fun j hj hm=>new j (m4 j hj) (h1 j hj) hm,h2,fun j hj=>⟨h3 j hj,fun h=>hxo j h (m4 j hj)⟩⟩,
        ⟨fun j hj hm=>new j (m6 j hm) (fun h=>i1 j h hm) hj,fun j hj=>⟨fun hm=>new j (hXO j hm).1 (hXO j hm).2 hj,fun h=>(hO2 j hj).elim (fun h'=>hxo j h (m5 j h')) (fun hl=>by have:=hxlt j h;omega)⟩⟩,
        fun j hj=>⟨j1 j hj,fun h=>hxo j h (m6 j hj)⟩⟩
  · intro j hj hn
    rw[hget j (fun h=>hn (h▸m1)) (fun h=>hn (h▸m2)),gold j (by omega) (fun h=>hn (m5 j h))]
  · intro j hj
    simp only[A8I,A8q,hXs]at hj ⊢
    rcases hj with rfl | rfl | rfl | hj | hj | hj | hj | hj
    · exact .inl (.inr m1)
    · exact .inl (.inr m2)
    · exact .inl (.inr m3)
    · exact .inl (.inr (m4 j hj))
    · exact(hO2 j hj).elim (fun h=>.inl (.inr (m5 j h))) (fun h=>.inr (by omega))
    · exact .inl (.inr (m6 j hj))
    · exact .inl (.inr (hXO j hj).1)
    · exact .inl (.inl hj)
end
theorem UP{F:List Fm}{f:Fm}(h:f.key ∉ DP F):DN F f=F++[f.cut]:=if_neg h
theorem IL{F:List Fm}{f:Fm}(h:f.key∈DP F):DN F f=F:=if_pos h
section
variable{E:Dw}(hE:Cn E){s:CO}{p:Nat}{L:LG}{O:List Nat}(hL:DG s p L O)(hsm:L.F.length<1000000)(hSm:L.S.length≤1000000){f:Fm}(hf:OG L.S.length L.A.length L.F.length f.cut){x:List AV}{xo:List Nat}(hx:TF s f x xo)(hxo:∀j∈xo,j ∉ O)
  {g:FuncId} {fs cs:List AV} (ht:∀ (s1:CO) (K1:AV→CO→Prop),DL s.next s s1→(∀s2,DL s1.next s1 s2→K1 (.tuple [iv f.size,.str f.text]) s2)→WF E g (fs++([]++cs)) K1 s1)
include hE hL hsm hSm hf hx hxo ht
set_option maxRecDepth 20000 in
theorem NX{K:AV→CO→Prop}(hK:∀s' O',DG s' p ⟨L.S,DN L.F f,L.A,L.q⟩ O'→Eb O s s'→DR (xo++O) O' s→K (iv (IH (DN L.F f) f.key:Int)) s'):
    WF E 41 [.ptr (some (p,0)),.agg (It f.key),.agg ([iv 0,iv 0,iv 0,iv 0,.str []]++x++[iv 0,.str []]),.func g fs cs] K s:=by
  obtain⟨kv,x0,x1,x2,x3,x4,rfl,hkd,hks,hlx,d0,d1,d2,d3,d4,d5⟩:=hx.six
  obtain⟨q,fv,mf,av,mk,X,OS,OB,OA,e⟩:=hL.ex
  refine hE.go A1o (by decide) rfl ?_
  have hplt:=e.plt
  have hflt:=e.flt
  have hobj:=e.obj
  have hfnd:=e.fnd
  have hltO:=e.lt
  generalize hs:s.next=b at hplt hflt hltO
  have hs0:s=ext s []:=(Ca s).symm
  have hlk:∀os,Dy prog (ext s os) 44 (.map (some mf)) (.agg (It f.key)) true=some (.tuple [if f.key∈DP L.F then iv (IH L.F f.key:Int)else iv 0,.bool (decide (f.key∈DP L.F))]):=fun os=>by
    have:=oU (s:=ext s os) (mf:=mf) (F:=L.F) (f:=f.cut) (by rw[Cm (by rw[hs];exact hflt),hfnd]) hf hSm
    rw[Jy]at this
    exact this
  have hkV:It f.key=[iv f.kind,iv f.num,iv f.p0,iv f.p1,.str f.rest]:=rfl
  rw[hkV]at hlk ⊢
  rw[hs0]
  simp only[A8e,A8i]
  simp only[A7L,wx,wy,wz,w6,Zo,A0x,iX,iB,hplt,hobj,hs,hlk,Qa,Qb,QS,Wg,Nat.reduceAdd,Nat.reduceLT]
  by_cases hu:f.key∈DP L.F
  · simp only[hu,A9Z,if_true,QS]
    have:=hK (ext s [R 76 0 false [iv f.kind,iv f.num,iv f.p0,iv f.p1,.str f.rest],R 86 0 false [iv 0,iv 0,iv 0,iv 0,.str [],kv,x0,x1,x2,x3,x4,iv 0,.str []]]) O (by rw[IL hu];exact hL.old Ci) (Ci.frO O) (fun j hj=>.inl (List.mem_append_right _ hj))
    rw[IL hu]at this
    exact this
  · simp only [hu, A9a,          if_false, xA,    JH,     iX,   iB,   hs, Qb, QS, Wg, Nat.reduceAdd, Nat.reduceLT, Nat.reduceLeDiff]
    simp only[xB,Qb,QS]
    refine ht _ _ Ci fun s2 ho2=>?_
    have hnx:(ext s [R 76 0 false [iv f.kind,iv f.num,iv f.p0,iv f.p1,.str f.rest],R 86 0 false [iv f.kind,iv f.num,iv f.p0,iv f.p1,.str f.rest,kv,x0,x1,x2,x3,x4,iv 0,.str []]]).next=b+2:=by rw[Ce,CN,hs];rfl
    have g0:s2.heap.get (nid b 0)=some (R 76 0 false [iv f.kind,iv f.num,iv f.p0,iv f.p1,.str f.rest]):=by
      rw[ho2.2 _ (by rw[hnx,CN];omega),CR hs (by simp)];rfl
    have g1:s2.heap.get (nid b 1)=some (R 86 0 false [iv f.kind,iv f.num,iv f.p0,iv f.p1,.str f.rest,kv,x0,x1,x2,x3,x4,iv 0,.str []]):=by
      rw[ho2.2 _ (by rw[hnx,CN];omega),CR hs (by simp)];rfl
    have hn2:b+2≤s2.next:=by have:=ho2.1;rw[hnx]at this;exact this
    have ho3:DL s.next s s2:=⟨by omega,fun j hj=>by rw[ho2.2 j (by rw[hnx];omega),Cm hj]⟩
    have hfin:∀ (s3:CO) (a6 a9 a10:AV),s2.next=s3.next→(∀j,j≠nid b 1→s3.heap.get j=s2.heap.get j)→s3.heap.get (nid b 1)=some (R 86 0 false (F7 f.cut [kv,x0,x1,x2,x3,x4])) →
        Qb E cJ (fun v s'=>Qb E cK (fun v s'=>Qb E U7 (fun v s'=>K (Hw v 6) s') [] v s') [] v s') []
          [.ptr (some (p,0)),.agg [iv f.kind,iv f.num,iv f.p0,iv f.p1,.str f.rest],.agg [iv 0,iv 0,iv 0,iv 0,.str [],kv,x0,x1,x2,x3,x4,iv 0,.str []],.func g fs cs,.ptr (some (nid b 0,0)),.ptr (some (nid b 1,0)),a6,iv 0,.bool false,a9,a10] s3:=by
      intro s3 a6 a9 a10 hn3 hg3 h1
      have ho4:DL s.next s s3:=⟨by omega,fun j hj=>by rw[hg3 j (by rw[CN];omega)];exact ho3.2 j hj⟩
      have n0:nid b 0=b:=LH b
      have hend:=fun a2 a3=>fj (E:=E) (K:=K) (hL.old ho4) (e.old ho4) hsm hSm hf hu (hx.old ho4) hxo (kb:=nid b 0) (fb:=nid b 1) (by rw[hg3 _ (by rw[CN,CN];omega)];exact g0) h1 (by rw[CN];omega) (by rw[CN];omega) (fun hm=>by have:=hltO _ hm;rw[CN]at this;omega) (.agg [iv f.kind,iv f.num,iv f.p0,iv f.p1,.str f.rest]) a2 a3 a6 (iv 0) (.bool false) a9 a10 fun s' O' k1 k2 k3=>by
        have:=hK s' O' (by rw[UP hu];exact k1) ((ho4.frO O).trans k2 (DR.refl O s)) (fun j hj=>(k3 j hj).imp id fun h=>by have:=ho4.1;omega)
        rw[UP hu,sk hu]at this
        exact this
      simp only[Ri,Qm]at hend
      exact hend _ _
    simp only[xC,xD,VQ,VR,Ee,HC,A3b,g1,Wa,Qb,QS,Wg,Nat.reduceAdd,Nat.reduceLeDiff]
    by_cases hbig:4096<f.size
    · simp only[hbig,A9Z,VQ,VR,HC,A3b,Co,QS,Wg,Nat.reduceAdd,Nat.reduceLeDiff]
      refine hfin _ _ _ _ (by simp only[Cp]) (fun j hj=>by simp only[CS _ hj]) ?_
      rw[Co]
      simp[F7,It,Fm.key,Fm.cut,hbig]
    · simp only[hbig,A9a,QS]
      refine hfin _ _ _ _ (by simp only[Cp]) (fun j hj=>by simp only[CS _ hj]) ?_
      rw[Co]
      simp[F7,It,Fm.key,Fm.cut,hbig]
end
def N8(n:Nat)(x:Int):Int:=if 0≤x∧x<n then x else 0
theorem WJ{n:Nat}{x:Int}(h:0<n):0≤N8 n x∧N8 n x<n:=by
 unfold N8
 split
 ·assumption
 ·omega
theorem Gh{n:Nat}{x:Int}(h:0≤x∧x<n):N8 n x=x:=if_pos h
def A6W:Fm:=⟨0,0,0,0,[],[],none,1,[]⟩
def CP(F:List Fm)(x:Int):Fm:=F.getD (N8 F.length x).toNat A6W
theorem Gr{F:List Fm}{x:Int}(h:0≤x∧x<F.length):F[x.toNat]? = some (CP F x):=by
 have hl:x.toNat<F.length:=by omega
 unfold CP
 rw[Gh h,A9K,A8O hl];rfl
theorem XM{F:List Fm}{x:Int}(h:0<F.length):∃i:Nat,i<F.length∧F[i]? = some (CP F x)∧(i:Int)=N8 F.length x:=by
 have h1:=WJ (x:=x) h
 have hl:(N8 F.length x).toNat<F.length:=by omega
 refine⟨(N8 F.length x).toNat,hl,?_,by omega⟩
 unfold CP
 rw[A9K,A8O hl];rfl
theorem Gy(i o:Nat):Ch prog .eql 24 (.ptr (some (i,o))) (.ptr none)=some (.bool false):=by kernel_rfl
section
variable{E:Dw}(hE:Cn E){s:CO}{p:Nat}{L:LG}{O:List Nat}(hL:DG s p L O){K:AV→CO→Prop}
include hE hL
set_option maxRecDepth 20000 in
theorem Md{x:Int}(hx:i64 x)(hK:K (iv (N8 L.F.length x)) s):WF E 40 [.ptr (some (p,0)),iv x] K s:=by
 obtain⟨q,fv,mf,av,mk,X,OS,OB,OA,e⟩:=hL.ex
 refine hE.go A1n (by decide) rfl ?_
 have hobj:=e.obj
 obtain⟨a,c,hfv,_⟩:=e.buf.slice
 subst hfv
 simp only[A7K,wt,wu,wv,ww,Qa,Qb,QS]
 by_cases h0:x<0
 ·have:N8 L.F.length x=0:=by unfold N8;rw[if_neg (by omega)]
  rw[this]at hK
  simp only[h0,A9Z,QS]
  exact hK
 ·simp only[h0,A9a,QS,Wg]
  by_cases h1:(L.F.length:Int)≤x
  ·have:N8 L.F.length x=0:=by unfold N8;rw[if_neg (by omega)]
   rw[this]at hK
   simp only[GS,Lq,hobj,DQ underlying46,h1,A9Z,QS,Wg]
   exact hK
  ·have:N8 L.F.length x=x:=Gh (by omega)
   rw[this]at hK
   simp only[GS,Lq,hobj,DQ underlying46,h1,A9a,QS,Wg]
   exact hK
def A0r:List Nat:=[116,114,117,101]
def nR:List Nat:=[102,97,108,115,101]
def ER(b:Bool):Fm:=⟨if b then 0 else 1,0,0,0,[],[],none,1,if b then A0r else nR⟩
end
theorem A3F{E:Dw}(hE:Cn E){s:CO}{K:AV→CO→Prop}{b:Bool}(hK:K (.str (if b then A0r else nR)) s):WF E 48 [.bool b] K s:=by
 refine hE.go A1u (by decide) rfl ?_
 simp only[A7R,xa,xc,Qa,Qb,QS]
 refine hE.go A2S (by decide) rfl ?_
 simp only[A7p,ze,zg,zh,zi,Qa,Qb,QS]
 cases b with
 | true=>simp only[QS];exact hK
 | false=>simp only[QS];exact hK
theorem Yp(b:Bool):(ER b).cut=ER b:=rfl
theorem uG(n a i:Nat)(b:Bool):OG n a i (ER b):=by
 cases b<;>exact⟨by decide,⟨by decide,by decide⟩,⟨by decide,by show(0:Int)≤n;omega⟩,⟨by decide,by show(0:Int)≤n;omega⟩,by decide,(fun k h=>by cases h),(fun h=>by cases h),(fun h=>by cases h),by decide,by decide,by decide⟩
theorem A5l(s:CO){f:Fm}(h1:f.kids=[])(h2:f.lin=none):TF s f (.slice none 0 (some 0)::KE) []:=⟨⟨_,_,rfl,.inl ⟨h1,rfl⟩,(fun j hj=>by cases hj),by rw[h2];rfl⟩,fun j hj=>by cases hj⟩
theorem Wo(a:Int):C8 prog 76 (zipIdx [0] [iv a])=some (.agg [iv a,iv 0,iv 0,iv 0,.str []]):=by kernel_rfl
theorem QP:C8 prog 86 (zipIdx [] [])=some (.agg ([iv 0,iv 0,iv 0,iv 0,.str []]++(.slice none 0 (some 0)::KE)++[iv 0,.str []])):=by kernel_rfl
section
variable{E:Dw}(hE:Cn E){s:CO}{p:Nat}{L:LG}{O:List Nat}(hL:DG s p L O)(hsm:L.F.length<1000000)(hSm:L.S.length≤1000000){K:AV→CO→Prop}
include hE hL hsm hSm
theorem HA{b:Bool}(hK:∀s' O',DG s' p ⟨L.S,DN L.F (ER b),L.A,L.q⟩ O'→Eb O s s'→DR O O' s→K (iv (IH (DN L.F (ER b)) (ER b).key:Int)) s'):WF E 21 [.ptr (some (p,0)),.bool b] K s:=by
  refine hE.go A1b (by decide) rfl ?_
  generalize hs:s.next=b0
  have hs0:s=ext s []:=(Ca s).symm
  have ho:DL s.next s (ext s [R 4 0 false [.bool b]]):=Ci
  have hput:=fun(K1:AV→CO→Prop)=>NX (E:=E) (K:=K1) hE (hL.old ho) hsm hSm (f:=ER b) (uG _ _ _ b) (A5l _ rfl rfl) (fun j hj=>by cases hj) (g:=47) (fs:=[]) (cs:=[.ptr (some (nid b0 0,0))])
    (fun s1 K1 k1 k2=>by
      refine hE.go A1t (by decide) rfl ?_
      have hg:s1.heap.get (nid b0 0)=some (R 4 0 false [.bool b]):=by
        rw[k1.2 _ (by rw[Ce,hs,CN,CN];simp),CR hs (by simp)];rfl
      simp only[A7Q,xY,xZ,hg,A6p,Qa,Qb,QS,Wg]
      refine A3F hE ?_
      simp only[QS]
      exact k2 s1 (DL.refl _ _))
  have hend:=fun s' O' (g1:DG s' p ⟨L.S,DN L.F (ER b),L.A,L.q⟩ O') (g2:Eb O (ext s [R 4 0 false [.bool b]]) s') (g3:DR ([]++O) O' (ext s [R 4 0 false [.bool b]]))=>hK s' O' g1 ((ho.frO O).trans g2 (DR.refl O s)) (fun j hj=>(g3 j hj).imp (fun h=>by simpa using h) (fun h=>by have:=ho.1;omega))
  rw[hs0]
  simp only[A6y,vY,vZ,vc,vd,ve,vf,vg,Gy,hs,A6p,Qa,Qb,QS,Wg]
  cases b with
  | true =>
    simp only[Wo,QP,QS,Wg]
    refine hput _ fun s' O' g1 g2 g3=>?_
    simp only[QS]
    exact hend s' O' g1 g2 g3
  | false =>
    simp only[Wo,QP,QS,Wg]
    refine hput _ fun s' O' g1 g2 g3=>?_
    simp only[QS]
    exact hend s' O' g1 g2 g3
end
theorem GQ.tm{s:CO}{p:Nat}{L:LG}{O:List Nat}{q:Nat}{fv:AV}{mf:Nat}{av:AV}{mk:Nat}{X:List (List AV×List Nat)}{OS OB OA:List Nat}(e:GQ s p L O q fv mf av mk X OS OB OA)(hg:Fp s O):Fp s OS:=
 ⟨hg.1,hg.2.1,fun h=>hg.2.2 (e.parts.2.2.2.1 1 h)⟩
section
variable{E:Dw}(hE:Cn E){s:CO}{p:Nat}{L:LG}{O:List Nat}(hL:DG s p L O)(hSm:L.S.length<99990){K:AV→CO→Prop}
include hE hL hSm
set_option maxRecDepth 20000 in
theorem Je{t:Tm}(ht:t∈L.S)(hK:K (iv (ix L.S t:Int)) s):WF E 34 [.ptr (some (p,0)),iv (ix L.S t:Int)] K s:=by
 obtain⟨q,fv,mf,av,mk,X,OS,OB,OA,e⟩:=hL.ex
 refine hE.go A1i (by decide) rfl ?_
 have hobj:=e.obj
 have hlen:=fun(K:AV→CO→Prop) (hK:K (iv (L.S.length:Int)) s)=>oL hE e.terms (by omega) hK
 simp only[A7F,wL,wM,wN,Ho,OJ,hobj,oR,Qa,Qb,QS,Wg]
 refine hlen _ ?_
 simp only[A0h ht,QS]
 exact hK
end
def Ge (ts:List Tm):List Nat:=ts.flatMap fun t=>32::Iv t
def Lu(z:Int):List Tm→Int
 | []=>z
 | t::l=>Lu (z+t.sz) l
def bY (name:List Nat) (ts:List Tm):List Nat:=40::name++Ge ts++[41]
theorem Yq{S:List Tm}(hS:QI S){t:Tm}(h:t∈S):(Iv t).length≤122880:=by
 unfold Iv
 split
 ·exact A8T _
 ·have:=JC hS t h (by omega);omega
theorem KK{S:List Tm}(hS:QI S):∀ {ts:List Tm},(∀t∈ts,t∈S)→(Ge ts).length≤122881 * ts.length
 | [],_=>by simp[Ge]
 | t::l,h=>by
  have h1:=Yq hS (h t A8M)
  have h2:=KK hS (ts:=l) fun x hx=>h x (A8J _ hx)
  simp only[Ge,List.flatMap_cons,A8X,A8P]at *
  omega
theorem WG:∀ (ts:List Tm)(z:Int),z+ts.length≤Lu z ts∧Lu z ts≤z+4097 * ts.length
 | [],z=>by simp[Lu]
 | t::l,z=>by
  have h1:=t.sz_pos
  have h2:=WG l (z+t.sz)
  simp only[Lu,A8P]
  omega
section
variable{E:Dw}(hE:Cn E){s:CO}{p:Nat}{L:LG}{O:List Nat}(hL:DG s p L O)(hSm:L.S.length<99990)(hg:Fp s O){K:AV→CO→Prop}
  {name:List Nat} (hname:name.length≤100) {ts:List Tm} (hts:∀t∈ts,t∈L.S) (hl:ts.length≤1000) {pv:AV} (hpv:Cl s pv (ts.map fun t=>(ix L.S t:Int)))
  {bn bp bl:Nat} (hbn:s.heap.get bn=some (R 9 0 false [.str name])) (hbp:s.heap.get bp=some (R 30 0 false [pv])) (hbl:s.heap.get bl=some (R 24 0 false [.ptr (some (p,0))])) (hb1:bn<s.next) (hb2:bp<s.next) (hb3:bl<s.next)
include hE hL hSm hg hname hts hl hpv hbn hbp hbl hb1 hb2 hb3
theorem Y1{Q:Da→Prop}{marks:List Nat}:∀ (rest done:List Tm)(s1:CO)(x5 x9:AV),ts=done++rest→DL s.next s s1 →
    (∀ (s2:CO) (y5 y9:AV),DL s.next s s2→Cs 0 Q ⟨.exit 0,[.ptr (some (bn,0)),.ptr (some (bp,0)),.ptr (some (bl,0)),iv (Lu 1 ts),.str (40::name++Ge ts),y5,pv,iv (ts.length:Int),iv (ts.length:Int),y9],marks,s2⟩) →
    WC E none (Ck.loop W0) (Cs 0 Q) [.ptr (some (bn,0)),.ptr (some (bp,0)),.ptr (some (bl,0)),iv (Lu 1 done),.str (40::name++Ge done),x5,pv,iv (ts.length:Int),iv (done.length:Int),x9] marks s1:=by
  intro rest
  induction rest with
  | nil =>
    intro done s1 x5 x9 hd ho hq
    have:ts=done:=by simpa using hd
    subst this
    refine WC.loop' ?_
    simp only[W0,mL,A8l,A9a,Qa,Qb,QS]
    exact hq s1 _ _ ho
  | cons t rest ih =>
    intro done s1 x5 x9 hd ho hq
    refine WC.loop' ?_
    obtain⟨W,hW⟩:∃W,W=Ck.loop W0:=⟨_,rfl⟩
    rw[← hW]
    have hlt:((done.length:Int)<(ts.length:Int)):=by rw[hd];simp;omega
    have hltn:done.length<(ts.map fun t=>(ix L.S t:Int)).length:=by rw[A8c];omega
    have hat:(ts.map fun t=>(ix L.S t:Int))[done.length]? = some (ix L.S t:Int):=by rw[hd];simp
    obtain⟨j,q0,cap,rfl,hj,hld⟩:=(hpv.old ho).at hat
    have ht:=hts t (by rw[hd];simp)
    have hL1:=hL.old ho
    obtain⟨q,fv,mf,av,mk,X,OS,OB,OA,e⟩:=hL1.ex
    have hobj:=e.obj
    have hbl1:s1.heap.get bl=some (R 24 0 false [.ptr (some (p,0))]):=by rw[ho.2 bl hb3];exact hbl
    have hadd:i64 ((done.length:Int)+1):=by unfold i64;omega
    have hsz:=t.sz_pos
    have hz:=WG done 1
    have hzs:i64 (Lu 1 done+(t.sz:Int)):=by
      have:done.length≤1000:=by have:=hd▸hl;simp at this;omega
      unfold i64;omega
    have hdn:∀x∈done,x∈L.S:=fun x hx=>hts x (by rw[hd];simp[hx])
    have hpl:=KK e.terms.ok hdn
    have htl:=Yq e.terms.ok ht
    have hdl:done.length≤1000:=by have:=hd▸hl;simp at this;omega
    have e1:=Cj (cap:=cap) (i:=j) (o:=q0) underlying30 HC hltn
    simp only[W0,mL,zH,zI,zJ,zK,hlt,A9Z,Qa,Qb,QS,e1,Ee,hld,A8S,hbl1,Dt,Ho,OJ,hobj,Wg]
    refine tp hE e.terms ht fun s2 ho2=>?_
    have hplt:=e.plt
    have hobj2:s2.heap.get p=some (R 49 0 false [.ptr (some (q,0)),fv,.map (some mf),av,.map (some mk)]):=by rw[ho2.2 p hplt];exact hobj
    have hbl2:s2.heap.get bl=some (R 24 0 false [.ptr (some (p,0))]):=by rw[ho2.2 bl (by have:=ho.1;omega)];exact hbl1
    simp only[QS,Db _ _ _ _ hzs,hbl2,hobj2,Dt,Ho,OJ,Wg]
    have hg2:Fp s2 OS:=((e.old ho2).tm ((hg.old ho).old ho2))
    refine WH hE (ix L.S t+1) t (A8k _) ht s2 _ ((e.old ho2).terms) hg2 fun s3 ho3=>?_
    have a1:Ch prog .add 9 (.str [32]) (.str (Iv t))=some (.str (32::Iv t)):=GY (by simp;omega)
    have a2:Ch prog .add 9 (.str (40::(name++Ge done))) (.str (32::Iv t))=some (.str (40::(name++Ge done)++32::Iv t)):=GY (by simp only[A8P,A8X];omega)
    simp only[QS,a1,a2,Db _ _ _ _ hadd,Wg]
    have:=ih (done++[t]) s3 (iv (ix L.S t:Int)) (.bool true) (by rw[hd];simp) (ho.trans ((ho2.trans (ho3.mono ho2.1)).mono ho.1)) hq
    have es:Lu 1 (done++[t])=Lu 1 done+(t.sz:Int):=by
      have:∀ (l:List Tm) (z:Int),Lu z (l++[t])=Lu z l+(t.sz:Int):=fun l=>by
        induction l with
        | nil=>intro z;rfl
        | cons a l ih=>intro z;exact ih _
      exact this done 1
    have ep:Ge (done++[t])=Ge done++32::Iv t:=by simp[Ge]
    rw[← hW,es,ep,show(done++[t]).length=done.length+1 from by simp,← A8n]at this
    exact this
theorem ik(hK:∀s',DL s.next s s'→K (.tuple [iv (Lu 1 ts),.str (bY name ts)]) s'):WF E 78 [.ptr (some (bn,0)),.ptr (some (bp,0)),.ptr (some (bl,0))] K s:=by
 obtain⟨q,fv,mf,av,mk,X,OS,OB,OA,e⟩:=hL.ex
 have hlen:=hpv.len
 refine hE.go A2M (by decide) rfl ?_
 have a1:Ch prog .add 9 (.str [40]) (.str name)=some (.str (40::name)):=GY (by simp;omega)
 simp only[A7j,zE,zF,zG,hbn,hbp,qZ,IT,a1,hlen,A8c,Qa,Qb,QS,Wg]
 have hpl:=KK e.terms.ok hts
 rw[show AV.str (40::name)=.str (40::name++Ge [])from by simp[Ge]]
 refine Y1 hE hL hSm hg hname hts hl hpv hbn hbp hbl hb1 hb2 hb3 ts [] s _ _ rfl (DL.refl _ _) fun s2 y5 y9 ho=>?_
 have a2:Ch prog .add 9 (.str (40::(name++Ge ts))) (.str [41])=some (.str (40::(name++Ge ts)++[41])):=GY (by simp only[A8P,A8X,A8b];omega)
 simp only[QS]
 rw[if_pos trivial]
 simp only[zL,a2,A8e,Qb,QS]
 exact hK s2 ho
end
theorem ol{E:Dw}(hE:Cn E){s:CO}{K:AV→CO→Prop}{x:Int}(hK:K (.bool false) s):WF E 116 [iv x] K s:=by
 refine hE.go rl (by decide) rfl ?_
 simp only[A4W,jl,jm,Qa,Qb,QS,ne_eq,not_true,A9a]
 exact hK
def W6(x y:Int):Int:=if x<y then -1 else if y<x then 1 else 0
theorem eb{E:Dw}(hE:Cn E){s:CO}{K:AV→CO→Prop}{x y:Int}(hK:K (iv (W6 x y)) s):WF E 77 [iv x,iv y] K s:=by
  refine hE.go A2L (by decide) rfl ?_
  simp only[A7i,yy,yz,Qa,Qb,QS]
  refine ol hE ?_
  simp only[zA,Qb,QS]
  refine ol hE ?_
  simp only[zB,zC,zD,Qb,QS]
  by_cases h1:x<y
  · simp only [h1, A9Z,         mH,     Qb, QS]
    simp only[W6,h1,if_true]at hK
    exact hK
  · simp only[h1,A9a,mI,Qb,QS]
    by_cases h2:y<x
    · simp only [h2, A9Z,         mJ,     Qb, QS]
      simp only[W6,h1,h2,if_true,if_false]at hK
      exact hK
    · simp only [h2, A9a,          mK,     Qb, QS]
      simp only[W6,h1,h2,if_false]at hK
      exact hK
def mT(a b:List Nat):Int:=bif G0 a b then -1 else bif Fb a b then 0 else 1
theorem ef{E:Dw}(hE:Cn E){s:CO}{K:AV→CO→Prop}{a b:List Nat}(hK:K (iv (mT a b)) s):WF E 76 [.str a,.str b] K s:=by
 refine hE.go A2K (by decide) rfl ?_
 simp only[A7h,yw,yx,Qa,Qb,QS]
 refine hE.go rh (by decide) rfl ?_
 simp only[A4V,jh,jj,Py,Qa,Qb,QS]
 exact hK
def QM (S:List Tm) (t u:Tm):Int:=if mT (Iv t) (Iv u)=0 then W6 (ix S t) (ix S u)else mT (Iv t) (Iv u)
set_option maxRecDepth 20000 in
theorem mS{E:Dw}(hE:Cn E){s:CO}{K:AV→CO→Prop}{x y:Int}{j:Nat}(hj:s.heap.get j=some (R 3 1 false (Dv [x,y])))(hK:K (iv (if x=0 then y else x)) s):WF E 75 [.slice (some (j,0)) 2 (some 2)] K s:=by
  refine hE.go A2J (by decide) rfl ?_
  have e0:=Cj (cap:=some 2) (i:=j) (o:=0) underlying30 HC (show 0<2 by omega)
  have e1:=Cj (cap:=some 2) (i:=j) (o:=0) underlying30 HC (show 1<2 by omega)
  have l0:DY (s.heap.get j) (0+0 * 1)=some (iv x):=by rw[hj];rfl
  have l1:DY (s.heap.get j) (0+1 * 1)=some (iv y):=by rw[hj];rfl
  have hlen:D9 prog s 30 (.slice (some (j,0)) 2 (some 2))=some (iv ((2:Nat):Int)):=DQ underlying30
  simp only[A7g,yr,yt,yu,hlen,Qa,Qb,QS]
  refine WC.loop' ?_
  obtain⟨W,hW⟩:∃W,W=Ck.loop Wz:=⟨_,rfl⟩
  rw[← hW]
  have d0:decide ((0:Int)<((2:Nat):Int))=true:=rfl
  have d1:decide ((0:Int)+1<((2:Nat):Int))=true:=rfl
  have d2:decide ((0:Int)+1+1<((2:Nat):Int))=false:=rfl
  have a0:=Db prog 3 0 1 (by unfold i64;omega)
  have a1:=Db prog 3 (0+1) 1 (by unfold i64;omega)
  have e0:CQ prog 30 (.slice (some (j,0)) 2 (some 2)) (.int .i64 0)=some (.ptr (some (j,0+0 * 1))):=e0
  have e1:CQ prog 30 (.slice (some (j,0)) 2 (some 2)) (.int .i64 (0+1))=some (.ptr (some (j,0+1 * 1))):=e1
  simp only[Wz,cP,mD,mE,d0,e0,Ee,l0,Rz,Qa,Qb,QS,Wg]
  by_cases hx:x=0
  · rw[if_pos hx]at hK
    subst hx
    simp only[ne_eq,not_true,A9a,mG,a0,Qb,QS]
    rw[hW]
    refine WC.loop' ?_
    rw[← hW]
    simp only[Wz,cP,mD,mE,d1,e1,Ee,l1,Rz,Qa,Qb,QS,Wg]
    by_cases hy:y=0
    · subst hy
      simp only[ne_eq,not_true,A9a,mG,a1,Qb,QS]
      rw[hW]
      refine WC.loop' ?_
      rw[← hW]
      simp only[Wz,cP,d2,Rz,Qa,Qb,QS]
      rw[if_pos trivial]
      simp only[yv,Qb,QS]
      exact hK
    · simp only[ne_eq,hy,not_false_eq_true,A9Z,mF,Qb,QS]
      exact hK
  · rw[if_neg hx]at hK
    simp only[ne_eq,hx,not_false_eq_true,A9Z,mF,Qb,QS]
    exact hK
section
variable{E:Dw}(hE:Cn E){s:CO}{p:Nat}{L:LG}{O:List Nat}(hL:DG s p L O)(hg:Fp s O){K:AV→CO→Prop}
include hE hL hg
set_option maxRecDepth 20000 in
theorem ib{t u:Tm}(ht:t∈L.S)(hu:u∈L.S)(hK:∀s',DL s.next s s'→K (iv (QM L.S t u)) s'):WF E 36 [.ptr (some (p,0)),iv (ix L.S t:Int),iv (ix L.S u:Int)] K s:=by
 obtain⟨q,fv,mf,av,mk,X,OS,OB,OA,e⟩:=hL.ex
 refine hE.go A1k (by decide) rfl ?_
 have hobj:=e.obj
 simp only[A7H,wQ,wR,Ho,OJ,hobj,Qa,Qb,QS,Wg]
 refine WH hE (ix L.S t+1) t (A8k _) ht s _ e.terms (e.tm hg) fun s1 h1=>?_
 have hobj1:s1.heap.get p=some (R 49 0 false [.ptr (some (q,0)),fv,.map (some mf),av,.map (some mk)]):=by rw[h1.2 p e.plt];exact hobj
 refine⟨⟨Hh ?_ (Jz q 0),trivial⟩,?_⟩
 ·simp only[QS,OJ,hobj1,Wg]
 simp only[QS]
 refine WH hE (ix L.S u+1) u (A8k _) hu s1 _ (e.old h1).terms ((e.old h1).tm (hg.old h1)) fun s2 h2=>?_
 simp only[QS]
 refine ef hE ?_
 simp only[QS]
 refine eb hE ?_
 have hs0:s2=ext s2 []:=(Ca s2).symm
 generalize hs:s2.next=b
 have hor:=fun(K:AV→CO→Prop) (x y:Int) (hK:K (iv (if x=0 then y else x)) (ext s2 [R 3 1 false (Dv [x,y])]))=>mS hE (s:=ext s2 [R 3 1 false (Dv [x,y])]) (j:=nid b 0) (x:=x) (y:=y) (by rw[CR hs (by simp)];rfl) hK
 rw[hs0]
 simp only[EO,hs,QS,Wg]
 refine hor _ _ _ ?_
 simp only[QS]
 exact hK _ (h1.trans ((h2.trans ((Ci (s:=s2)).mono h2.1)).mono h1.1))
end
def JK(S:List Tm)(ts:List Tm)(k:Nat):Int:=match ts[k]? with
 | some t=>(ix S t:Int)
 | none=>-1
def Fi (S:List Tm) (kind num:Int) (name:List Nat) (ts:List Tm):Fm:=⟨kind,num,JK S ts 0,JK S ts 1,[],[],none,Lu 1 ts,bY name ts⟩
theorem Zf(f:Fm):(4096<f.size∧f.cut.size=4097∧f.cut.text=[])∨(f.size≤4096∧f.cut=f):=by
 by_cases h:4096<f.size
 ·exact .inl ⟨h,by simp[Fm.cut,h],by simp[Fm.cut,h]⟩
 ·exact .inr ⟨by omega,by simp[Fm.cut,h]⟩
theorem cW(f:Fm):f.cut.num=f.num:=by unfold Fm.cut;split<;>rfl
theorem ma(f:Fm):f.cut.p0=f.p0:=by unfold Fm.cut;split<;>rfl
theorem mb(f:Fm):f.cut.p1=f.p1:=by unfold Fm.cut;split<;>rfl
theorem W8(f:Fm):f.cut.rest=f.rest:=by unfold Fm.cut;split<;>rfl
theorem Ze{n a i:Nat}{f:Fm}(kd:0≤f.kind∧f.kind≤9)(nm:i64 f.num)(q0:-1≤f.p0∧f.p0≤n)(q1:-1≤f.p1∧f.p1≤n)(rs:f.rest.length≤1000000000)(kids:∀k∈f.kids,0≤k∧k<i)(nt:f.kind=4→∃k,f.kids=[k])
    (is:f.kind=9→0≤f.num∧f.num<a) (sz:1≤f.size) (tx:f.size≤4096→(f.text.length:Int)≤200000 * f.size) (kl:f.kids.length≤1000000):OG n a i f.cut:=by
  refine⟨by rw[NC];exact kd,by rw[cW];exact nm,by rw[ma];exact q0,by rw[mb];exact q1,by rw[W8];exact rs,by rw[JV];exact kids,by rw[NC,JV];exact nt,by rw[NC,cW];exact is,?_,?_,by rw[JV];exact kl⟩
  · rcases Zf     f with ⟨h1, h2, _⟩ | ⟨h1, h2⟩
    · rw[h2];omega
    · rw[h2];omega
  · rcases Zf     f with ⟨h1, _, h2⟩ | ⟨h1, h2⟩
    · rw[h2];have:=Zf f;simp only[A8b];omega
    · rw[h2];exact tx h1
theorem qz(a b:Int):C8 prog 74 (zipIdx [0,1] [iv a,iv b])=some (.agg [iv a,iv b]):=by kernel_rfl
theorem iw(a b c d:Int):C8 prog 76 (zipIdx [0,1,2] [iv a,iv b,.agg [iv c,iv d]])=some (.agg [iv a,iv b,iv c,iv d,.str []]):=by kernel_rfl
theorem di(s:CO)(i o:Nat):DK prog 74 false false false s [.ptr (some (i,o))]=some (.slice (some (i,o)) 2 (some 2)):=by
 have:DK prog 74 false false false s [.ptr (some (i,o))]=some (.slice (some (i,o+0 * 1)) 2 (some 2)):=by kernel_rfl
 exact this
theorem mZ{s:CO}{i o:Nat}{l:List Int}{v:AV}(hn:l.length≤2)(h:Cl s v l):
  Kx prog s [30,30] [.slice (some (i,o)) 2 (some 2),v]=(EC s i o (Dv l)).bind fun s'=>some (iv (l.length:Int),s'):=by
 rcases h with⟨rfl,rfl⟩ | ⟨j,q,cap,rfl,_,h⟩
 ·simp only[Kx,underlying30,HC,Option.bind_some]
  rfl
 ·have hb:Nat.ble l.length 2=true:=EA hn
  simp only[Kx,underlying30,HC,Option.bind_some,hb,cond_true,A8S,Et,h]
  rfl
section
variable{E:Dw}(hE:Cn E){s:CO}{p:Nat}{L:LG}{O:List Nat}(hL:DG s p L O)(hsm:L.F.length<1000000)(hSm:L.S.length<99990)(hg:Fp s O){K:AV→CO→Prop}
  {name:List Nat} (hname:name.length≤100) {ts:List Tm} (hts:∀t∈ts,t∈L.S) (hl:ts.length≤2) {pv:AV} (hpv:Cl s pv (ts.map fun t=>(ix L.S t:Int))) {kind num:Int} (hkd:5<kind∧kind≤9) (hnum:i64 num) (hin:kind=9→0≤num∧num<L.A.length)
include hE hL hsm hSm hg hname hts hl hpv hkd hnum hin
theorem P5(k:Nat):-1≤JK L.S ts k∧JK L.S ts k<L.S.length:=by
 unfold JK
 cases h:ts[k]? with
 | none=>show(-1:Int)≤-1∧(-1:Int)<L.S.length;omega
 | some t=>have:=NR (hts t (A8a h));show(-1:Int)≤(ix L.S t:Int)∧(ix L.S t:Int)<L.S.length;omega
theorem im:OG L.S.length L.A.length L.F.length (Fi L.S kind num name ts).cut:=by
 obtain⟨q,fv,mf,av,mk,X,OS,OB,OA,e⟩:=hL.ex
 have hz:=WG ts 1
 have hpl:=KK e.terms.ok hts
 refine Ze ⟨by show 0≤kind;omega,hkd.2⟩ hnum ⟨(P5 hE hL hsm hSm hg hname hts hl hpv hkd hnum hin 0).1,Int.le_of_lt (P5 hE hL hsm hSm hg hname hts hl hpv hkd hnum hin 0).2⟩ ⟨(P5 hE hL hsm hSm hg hname hts hl hpv hkd hnum hin 1).1,Int.le_of_lt (P5 hE hL hsm hSm hg hname hts hl hpv hkd hnum hin 1).2⟩ (A8T _) (fun k h=>by cases h) (fun h=>by have h:kind=4:=h;omega) hin (by show 1≤Lu 1 ts;omega) (fun _=>?_) (A8T _)
 show((bY name ts).length:Int)≤200000 * Lu 1 ts
 unfold bY
 simp only[A8P,A8X,A8b]
 omega
set_option maxRecDepth 20000 in
theorem Od(hK:∀s' O',DG s' p ⟨L.S,DN L.F (Fi L.S kind num name ts),L.A,L.q⟩ O'→Eb O s s'→DR O O' s→K (iv (IH (DN L.F (Fi L.S kind num name ts)) (Fi L.S kind num name ts).key:Int)) s'):
  WF E 37 [.ptr (some (p,0)),iv kind,iv num,.str name,pv] K s:=by
 have hfok:=im hE hL hsm hSm hg hname hts hl hpv hkd hnum hin
 refine hE.go A1l (by decide) rfl ?_
 generalize hs:s.next=b
 have hs0:s=ext s []:=(Ca s).symm
 have hcp:=fun os i o=>mZ (s:=ext s os) (i:=i) (o:=o) (l:=ts.map fun t=>(ix L.S t:Int)) (by rw[A8c];exact hl) (hpv.old Ci)
 have hkey:It (Fi L.S kind num name ts).key=[iv kind,iv num,iv (JK L.S ts 0),iv (JK L.S ts 1),.str []]:=rfl
 have hst:EC (ext s [R 24 0 false [.ptr (some (p,0))],R 9 0 false [.str name],R 30 0 false [pv],R 76 0 false [iv kind,iv num,iv (-1),iv (-1),.str []]]) (nid b 3) 2 (Dv (ts.map fun t=>(ix L.S t:Int))) =
   some (ext s [R 24 0 false [.ptr (some (p,0))],R 9 0 false [.str name],R 30 0 false [pv],R 76 0 false [iv kind,iv num,iv (JK L.S ts 0),iv (JK L.S ts 1),.str []]]):=by
  match ts,hl with
  | [],_=>simp[Dv,JK,Wg]
  | [t],_=>simp[Dv,JK,hs,Wg,Nat.reduceAdd,Nat.reduceLeDiff]
  | [t,u],_=>simp[Dv,JK,hs,Wg,Nat.reduceAdd,Nat.reduceLeDiff]
  | _::_::_::_,h=>simp at h
 have hpc:pv.cells=[pv]:=by rcases hpv with⟨_,rfl⟩ | ⟨_,_,_,rfl,_⟩<;>rfl
 have ho:DL s.next s (ext s [R 24 0 false [.ptr (some (p,0))],R 9 0 false [.str name],R 30 0 false [pv],R 76 0 false [iv kind,iv num,iv (JK L.S ts 0),iv (JK L.S ts 1),.str []]]):=Ci
 generalize hse:ext s [R 24 0 false [.ptr (some (p,0))],R 9 0 false [.str name],R 30 0 false [pv],R 76 0 false [iv kind,iv num,iv (JK L.S ts 0),iv (JK L.S ts 1),.str []]]=se at hst ho
 have hnx:se.next=b+4:=by rw[← hse,Ce,CN,hs];rfl
 have g0:se.heap.get (nid b 0)=some (R 24 0 false [.ptr (some (p,0))]):=by rw[← hse,CR hs (by simp)];rfl
 have g1:se.heap.get (nid b 1)=some (R 9 0 false [.str name]):=by rw[← hse,CR hs (by simp)];rfl
 have g2:se.heap.get (nid b 2)=some (R 30 0 false [pv]):=by rw[← hse,CR hs (by simp)];rfl
 have g3:se.heap.get (nid b 3)=some (R 76 0 false [iv kind,iv num,iv (JK L.S ts 0),iv (JK L.S ts 1),.str []]):=by rw[← hse,CR hs (by simp)];rfl
 have hput:=fun(K1:AV→CO→Prop)=>NX (E:=E) (K:=K1) hE (hL.old ho) hsm (by omega) (f:=Fi L.S kind num name ts) hfok (A5l _ rfl rfl) (fun j hj=>by cases hj) (g:=78) (fs:=[]) (cs:=[.ptr (some (nid b 1,0)),.ptr (some (nid b 2,0)),.ptr (some (nid b 0,0))])
  (fun s1 K1 k1 k2=>by
   have hne:nid b 0<se.next∧nid b 1<se.next∧nid b 2<se.next:=by rw[hnx,CN,CN,CN];omega
   have h1:=k1.1
   refine ik hE ((hL.old ho).old k1) hSm ((hg.old ho).old k1) hname hts (by omega) ((hpv.old ho).old k1) (bn:=nid b 1) (bp:=nid b 2) (bl:=nid b 0) ((k1.2 _ hne.2.1).trans g1) ((k1.2 _ hne.2.2).trans g2) ((k1.2 _ hne.1).trans g0) (by omega) (by omega) (by omega) k2)
 have hend:=fun s' O' (g1:DG s' p ⟨L.S,DN L.F (Fi L.S kind num name ts),L.A,L.q⟩ O') (g2:Eb O se s') (g3:DR ([]++O) O' se)=>hK s' O' g1 ((ho.frO O).trans g2 (DR.refl O s)) (fun j hj=>(g3 j hj).imp (fun h=>by simpa using h) (fun h=>by have:=ho.1;omega))
 rw[hkey]at hput
 rw[hs0]
 simp only[A7I,wS,wT,wU,qz,iw,A6n,iB,hs,hpc,nM,di,IT,hcp,hst,Qa,Qb,QS,Wg,Nat.reduceAdd,Nat.reduceLT]
 simp only[wV,g0,g3,Dt,iX,iB,QP,List.take,List.drop,Qb,QS,Wg,Nat.reduceAdd]
 refine hput _ fun s' O' g1 g2 g3=>?_
 simp only[QS]
 exact hend s' O' g1 g2 g3
end
end
end Go.Proofs.YtoaaclpjkelofaaGreatDoor.Am
