/- Compiled code of package lin, printed by a program of ours (dev/Print2.lean) and checked by the kernel; conditions: none. -/
import Derived.Test.YtjnkfbpadpmakaaGreatDoorAmM07
import Derived.Test.YtjnkfbpadpmakaaGreatDoorAmM06
import Derived.Lib.SlKeysI
import Derived.Test.YtjnkfbpadpmakaaGreatDoorAmM04
import Derived.Test.YtjnkfbpadpmakaaGreatDoorChecked
set_option linter.unusedVariables false
set_option linter.unusedSimpArgs false
set_option maxRecDepth 100000
namespace Go.Proofs.YtjnkfbpadpmakaaGreatDoor.Am
open Go Go.Proofs
noncomputable section
theorem Do:BJ Tryz.prog 30=some 5:=by kernel_rfl
theorem D7:EO Tryz.prog 30=some true:=by kernel_rfl
theorem HJ(i o:Nat):AC Tryz.prog 30 (.ptr (some (i,o))) 0=some (.ptr (some (i,o+0))):=by kernel_rfl
theorem CE(i o:Nat):AC Tryz.prog 30 (.ptr (some (i,o))) 1=some (.ptr (some (i,o+3))):=by kernel_rfl
theorem DE(i o:Nat):AC Tryz.prog 30 (.ptr (some (i,o))) 2=some (.ptr (some (i,o+4))):=by kernel_rfl
theorem K8:BJ Tryz.prog 56=some 4:=by kernel_rfl
theorem QL:EO Tryz.prog 56=some true:=by kernel_rfl
theorem PW(i o:Nat):AC Tryz.prog 56 (.ptr (some (i,o))) 0=some (.ptr (some (i,o+0))):=by kernel_rfl
theorem J7(i o:Nat):AC Tryz.prog 56 (.ptr (some (i,o))) 1=some (.ptr (some (i,o+3))):=by kernel_rfl
theorem TF:EO Tryz.prog 54=some false:=by kernel_rfl
theorem xK:BJ Tryz.prog 27=some 1:=by kernel_rfl
theorem D6:EO Tryz.prog 27=some false:=by kernel_rfl
def pK:List AA:=[
 A1r 56 0]
def pM:List AA:=[
 A1u 72 [],
 ⟨none,.mk (fun l=>match l with | []=>(KC Tryz.prog 54).bind fun kt=>some (.map kt [],.map) | _=>none),[],.push,[]⟩,
 ⟨none,.p (fun l=>Be Tryz.prog 56 (zipIdx [0,1] l)),[.loc 1,.loc 0],.push,[]⟩,
 A1o 56 (.var 0) (.loc 0)]
def yu:Ah:=⟨0,1,(.seq (.ops pK) (.seq (.ops pM) .ret)),[((.var 0),some 56)]⟩
def p7:List AA:=[
 A1r 26 0]
def p8:List AA:=[
 A1u 52 [(.const (.int .i64 (0)))],
 A1o 26 (.var 0) (.loc 0)]
def zB:Ah:=⟨0,1,(.seq (.ops p7) (.seq (.ops p8) .ret)),[((.var 0),some 26)]⟩
def pN:List AA:=[
 A1q 56 (.var 0) 3]
def pO:List AA:=[
 A1n 56 1 (.var 3),
 A1m 54 (.loc 0),
 ⟨none,.r (fun s=>Xy (fun m k=>Da Tryz.prog s 54 m k true)),[.loc 0,.var 1],.push,[]⟩,
 ⟨none,.p1 (fun x=>Zb x 0),[.loc 0],.push,[]⟩,
 ⟨none,.p1 (fun x=>Zb x 1),[.loc 1],.push,[]⟩,
 A1r 26 4,
 A1o 26 (.var 4) (.loc 1),
 A1p (.loc 1) 5]
def dp:List AA:=[
 ⟨none,.p1 (Sy Tryz.prog Go.UnOp.not),[.var 5],(.set 6),[]⟩]
def pP:List AA:=[
 A1u 72 [],
 A1o 26 (.var 4) (.loc 0)]
def dr:List AA:=[
 A1n 56 1 (.var 3),
 A1m 54 (.loc 0),
 A1m 26 (.var 4),
 ⟨none,.callv,[.var 2,.loc 0],.push,[⟨none,.r1 (fun s a=>AB Tryz.prog s 54 a),[.loc 3],(.loc 2)⟩]⟩,
 ⟨none,.e (fun s=>Xz (fun m k x=>Za (IB Tryz.prog s 54 m k x))),[.loc 2,.var 1,.loc 0],.push,[]⟩]
def yv:Ah:=⟨3,7,(.seq (.ops pN) (.seq (.ops pO) (.seq (.seq (.ops dp) (.cond (.var 6)
 (.ops pP)
 .skip)) (.ops dr)))),[]⟩
def md:List AA:=[
 A1q 30 (.var 1) 3,
 A1q 26 (.var 2) 4]
def me:List AA:=[
 ⟨none,.p1 EY,[.var 0],.push,[]⟩,
 A1n 56 0 (.loc 0),
 A1m 26 (.loc 0),
 A1n 30 0 (.var 3),
 A1m 26 (.loc 0),
 A1m 26 (.var 4),
 ⟨none,.call 29,[.loc 1,.loc 0],.push,[⟨none,.r1 (fun s a=>AB Tryz.prog s 26 a),[.loc 5],(.loc 4)⟩]⟩,
 A1u 27 [.loc 4,.loc 0],
 ⟨none,.p1 EY,[.var 0],.push,[]⟩,
 A1n 56 0 (.loc 0),
 A1o 26 (.loc 0) (.loc 2)]
def mf:List AA:=[
 A1n 30 2 (.var 3),
 A1m 28 (.loc 0),
 A1n 30 2 (.var 3),
 A1m 28 (.loc 0),
 A1s 28 (.loc 0),
 A1n 30 1 (.var 3),
 A1m 27 (.loc 0),
 A1s 27 (.loc 0),
 ⟨none,.p (fun l=>match l with | v::l=>Ch false v l | []=>none),[.loc 3,.loc 0],.push,[]⟩,
 ⟨none,.r (At Tryz.prog 28 false true false),[.loc 7,.loc 0],(.set 7),[]⟩,
 ⟨none,.r (fun s l=>match l with | [x]=>Ay Tryz.prog s 28 x | _=>none),[.var 7],(.set 8),[]⟩,
 A1p (.const (.int .i64 (0))) 9]
def cT:List AA:=[
 A1x .lss 3 (.var 9) (.var 8) 10]
def mh:List AA:=[
 A1v 28 (.var 7) (.var 9),
 A1m 26 (.loc 0),
 A1r 26 6,
 A1p (.var 9) 5,
 A1o 26 (.var 6) (.loc 0)]
def ml:List AA:=[
 ⟨none,.p1 EY,[.var 0],.push,[]⟩,
 A1m 56 (.loc 0),
 A1n 30 1 (.var 3),
 A1m 27 (.loc 0),
 A1v 27 (.loc 0) (.var 5),
 A1m 3 (.loc 0),
 ⟨none,.p (fun l=>some (.func 73 (l.take 0) (l.drop 0))),[.var 6,.var 4],.push,[]⟩,
 A1u 62 [.loc 5,.loc 1,.loc 0]]
def mn:List AA:=[
 ⟨none,.p2 (AN Tryz.prog .add 3),[(.var 9),(.const (.int .i64 (1)))],.push,[]⟩,
 A1p (.loc 0) 9]
def Q9:Ac:=(.seq (.ops cT) (.seq (.cond (.var 10)
 .skip
 (.exit 0)) (.seq (.block 1 (.seq (.ops mh) (.ops ml))) (.ops mn))))
def yS:Ah:=⟨3,11,(.seq (.ops md) (.seq (.ops me) (.seq (.ops mf) (.block 0 (.loop Q9))))),[]⟩
def qA:List AA:=[
 A1q 26 (.var 0) 3,
 A1r 26 4]
def qB:List AA:=[
 A1m 26 (.var 3),
 A1m 26 (.var 1),
 A1m 26 (.var 2),
 ⟨none,.call 29,[.loc 1,.loc 0],.push,[⟨none,.r1 (fun s a=>AB Tryz.prog s 26 a),[.var 3],(.loc 3)⟩]⟩,
 A1u 27 [.loc 3,.loc 0],
 A1o 26 (.var 4) (.loc 0)]
def zC:Ah:=⟨3,5,(.seq (.ops qA) (.seq (.ops qB) .ret)),[((.var 4),some 26)]⟩
def mQ:List AA:=[
 A1q 30 (.var 0) 1,
 A1r 56 2]
def mR:List AA:=[
 A1u 61 [],
 A1r 56 3,
 A1o 56 (.var 3) (.loc 0)]
def mS:List AA:=[
 A1m 30 (.var 1),
 ⟨none,.call 52,[(.const (.int .i64 (1)))],.push,[⟨none,.r1 (fun s a=>AB Tryz.prog s 30 a),[.var 1],(.loc 1)⟩]⟩,
 A1u 34 [.var 3,.loc 1,.loc 0]]
def mT:List AA:=[
 A1m 56 (.var 3),
 A1o 56 (.var 2) (.loc 0)]
def yQ:Ah:=⟨1,4,(.seq (.ops mQ) (.seq (.ops mR) (.seq (.ops mS) (.seq (.ops mT) .ret)))),[((.var 2),some 56)]⟩
def mU:List AA:=[
 A1q 56 (.var 0) 1,
 A1r 30 2]
def mV:List AA:=[
 A1n 56 0 (.var 1),
 A1m 26 (.loc 0),
 A1n 30 0 (.var 2),
 A1o 26 (.loc 0) (.loc 1)]
def mW:List AA:=[
 A1m 56 (.var 1),
 ⟨none,.call 41,[.loc 0],(.set 5),[]⟩]
def mX:List AA:=[
 A1p (.var 6) 3]
def mY:List AA:=[
 A1r 26 4,
 A1o 26 (.var 4) (.var 7)]
def mZ:List AA:=[
 A1n 30 1 (.var 2),
 A1m 27 (.loc 0),
 ⟨none,.mk (fun l=>(Ad Tryz.prog 27 1 (zipIdx [0] l)).bind fun r=>some (r,.slice 1)),[.var 3],.push,[]⟩,
 A1n 30 2 (.var 2),
 A1m 28 (.loc 0),
 A1m 26 (.var 4),
 ⟨none,.mk (fun l=>(Ad Tryz.prog 28 1 (zipIdx [0] l)).bind fun r=>some (r,.slice 1)),[.loc 0],.push,[]⟩,
 ⟨none,.e (fun s l=>Aj Tryz.prog s [27,27] l),[.loc 5,.loc 4],.push,[⟨none,.r1 (fun s a=>AB Tryz.prog s 26 a),[.var 4],(.loc 2)⟩,⟨none,.r1 (fun s a=>AB Tryz.prog s 28 a),[.loc 4],(.loc 3)⟩]⟩,
 A1n 30 1 (.var 2),
 ⟨none,.e (fun s l=>Aj Tryz.prog s [28,28] l),[.loc 4,.loc 2],.push,[]⟩,
 A1o 27 (.loc 1) (.loc 2),
 A1n 30 2 (.var 2),
 A1o 28 (.loc 0) (.loc 2)]
def cP:Ac:=(.seq (.ops mX) (.ops mY))
def cQ:Ac:=(.block 1 (.ops mZ))
def cN:Code:=(Fl 33 0).1
def cO:Code:=(Fl 33 0).2
theorem tA:ER Tryz.prog 33 cN=some cP:=by kernel_rfl
theorem tB:ER Tryz.prog 33 cO=some cQ:=by kernel_rfl
theorem cR:Dh Tryz.prog 33=[0,1,2,3,4,9,10,11]:=by kernel_rfl
def mc:List AA:=[
 A1m 30 (.var 2),
 A1o 30 (.var 2) (.loc 0)]
def yR:Ah:=⟨1,8,(.seq (.ops mU) (.seq (.ops mV) (.seq (.seq (.ops mW) (.block 0 (.rangeFunc 33 (.var 5) #[10,11] cN cO))) (.seq (.ops mc) .ret)))),[((.var 2),some 30)]⟩
def nW:List AA:=[
 A1q 56 (.var 0) 1,
 ⟨none,.p1 some,[(.const .nilFunc)],(.set 2),[]⟩]
def nX:List AA:=[
 ⟨none,.p (fun l=>some (.func 77 (l.take 0) (l.drop 0))),[.var 1],.push,[]⟩,
 A1p (.loc 0) 2]
def yZ:Ah:=⟨1,3,(.seq (.ops nW) (.seq (.ops nX) .ret)),[((.var 2),none)]⟩
def qJ:List AA:=[
 A1n 56 1 (.var 1),
 A1m 54 (.loc 0),
 A1u 79 [.loc 0],
 ⟨none,.call 78,[.loc 0],(.set 4),[]⟩,
 ⟨none,.r (fun s l=>match l with | [x]=>Ay Tryz.prog s 27 x | _=>none),[.var 4],(.set 5),[]⟩,
 A1p (.const (.int .i64 (0))) 6]
def dy:List AA:=[
 A1x .lss 3 (.var 6) (.var 5) 7]
def qK:List AA:=[
 A1v 27 (.var 4) (.var 6),
 A1m 3 (.loc 0),
 A1p (.loc 0) 2]
def qL:List AA:=[
 A1n 56 1 (.var 1),
 A1m 54 (.loc 0),
 ⟨none,.r (fun s=>Xy (fun m k=>Da Tryz.prog s 54 m k false)),[.loc 0,.var 2],.push,[]⟩,
 A1r 26 3,
 A1o 26 (.var 3) (.loc 0)]
def qM:List AA:=[
 A1m 26 (.var 3),
 A1u 53 [.loc 0],
 ⟨none,.p2 (AN Tryz.prog .neq 3),[(.loc 0),(.const (.int .i64 (0)))],.push,[]⟩,
 ⟨(some ((.loc 0),true)),.p1 some,[.var 0],.push,[]⟩,
 ⟨(some ((.loc 1),true)),.p1 some,[.var 2],.push,[]⟩,
 ⟨(some ((.loc 2),true)),.r1 (fun s a=>AB Tryz.prog s 26 a),[.var 3],.push,[]⟩,
 ⟨(some ((.loc 3),true)),.callv,[.loc 2,.loc 1,.loc 0],.push,[]⟩,
 ⟨(some ((.loc 4),true)),.p1 (Sy Tryz.prog Go.UnOp.not),[.loc 0],.push,[]⟩,
 ⟨none,.p Ru,[(.loc 5),(.loc 0),(.const (.bool false))],(.set 8),[]⟩]
def eC:List AA:=[
 ⟨none,.p2 (AN Tryz.prog .add 3),[(.var 6),(.const (.int .i64 (1)))],.push,[]⟩,
 A1p (.loc 0) 6]
def Kd:Ac:=(.seq (.ops dy) (.seq (.cond (.var 7)
 .skip
 (.exit 0)) (.seq (.block 1 (.seq (.ops qK) (.seq (.ops qL) (.seq (.ops qM) (.cond (.var 8)
 .ret
 .skip))))) (.ops eC))))
def zG:Ah:=⟨2,9,(.seq (.ops qJ) (.block 0 (.loop Kd))),[]⟩
def lI:List AA:=[
 A1q 30 (.var 0) 3,
 A1q 30 (.var 2) 4,
 A1r 30 5]
def lJ:List AA:=[
 A1m 30 (.var 3),
 A1u 32 [.loc 0],
 A1r 56 6,
 A1o 56 (.var 6) (.loc 0)]
def lK:List AA:=[
 A1n 56 1 (.var 6),
 A1m 54 (.loc 0),
 ⟨none,.r (fun s=>Xy (fun m k=>Da Tryz.prog s 54 m k true)),[.loc 0,.var 1],.push,[]⟩,
 ⟨none,.p1 (fun x=>Zb x 0),[.loc 0],.push,[]⟩,
 ⟨none,.p1 (fun x=>Zb x 1),[.loc 1],.push,[]⟩,
 A1r 26 7,
 A1o 26 (.var 7) (.loc 1),
 A1p (.loc 1) 8]
def ZJ:List AA:=[
 ⟨none,.p1 (Sy Tryz.prog Go.UnOp.not),[.var 8],(.set 9),[]⟩]
def lL:List AA:=[
 A1m 56 (.var 6),
 A1u 33 [.loc 0],
 A1o 30 (.var 5) (.loc 0)]
def lM:List AA:=[
 A1n 56 1 (.var 6),
 A1m 54 (.loc 0),
 ⟨none,.e (fun s=>Xy (fun m k=>Za (Ge Tryz.prog s 54 m k))),[.loc 0,.var 1],.push,[]⟩]
def lN:List AA:=[
 A1m 30 (.var 4),
 A1m 26 (.var 7),
 A1u 34 [.var 6,.loc 1,.loc 0]]
def lO:List AA:=[
 A1m 56 (.var 6),
 A1u 33 [.loc 0],
 A1o 30 (.var 5) (.loc 0)]
def yI:Ah:=⟨3,10,(.seq (.ops lI) (.seq (.ops lJ) (.seq (.ops lK) (.seq (.seq (.ops ZJ) (.cond (.var 9)
 (.seq (.ops lL) .ret)
 .skip)) (.seq (.ops lM) (.seq (.ops lN) (.seq (.ops lO) .ret))))))),[((.var 5),some 30)]⟩
def lW:List AA:=[
 A1q 30 (.var 0) 3,
 A1q 27 (.var 1) 4,
 A1q 28 (.var 2) 5,
 A1r 26 6]
def lX:List AA:=[
 A1m 30 (.var 3),
 A1u 32 [.loc 0],
 A1r 56 7,
 A1o 56 (.var 7) (.loc 0)]
def lY:List AA:=[
 A1n 56 0 (.var 7),
 A1m 26 (.loc 0),
 A1r 26 8,
 A1o 26 (.var 8) (.loc 0)]
def lZ:List AA:=[
 A1m 56 (.var 7),
 ⟨none,.call 41,[.loc 0],(.set 12),[]⟩]
def lh:List AA:=[
 A1p (.var 13) 9]
def lj:List AA:=[
 A1r 26 10,
 A1o 26 (.var 10) (.var 14)]
def ln:List AA:=[
 A1m 27 (.var 4),
 A1u 42 [.loc 0,.var 9],
 A1p (.loc 0) 11]
def VU:List AA:=[
 ⟨none,.p2 (AN Tryz.prog .geq 3),[(.var 11),(.const (.int .i64 (0)))],.push,[]⟩,
 ⟨(some ((.loc 0),true)),.p1 some,[.var 11],.push,[]⟩,
 ⟨(some ((.loc 1),true)),.r1 (fun s a=>AB Tryz.prog s 28 a),[.var 5],.push,[]⟩,
 ⟨(some ((.loc 2),true)),.r (fun s l=>match l with | [x]=>Ay Tryz.prog s 28 x | _=>none),[.loc 0],.push,[]⟩,
 ⟨(some ((.loc 3),true)),.p2 (AN Tryz.prog .lss 3),[.loc 2,.loc 0],.push,[]⟩,
 ⟨none,.p Ru,[(.loc 4),(.loc 0),(.const (.bool false))],(.set 15),[]⟩]
def ls:List AA:=[
 A1m 26 (.var 8),
 A1m 26 (.var 10),
 A1m 28 (.var 5),
 A1v 28 (.loc 0) (.var 11),
 A1m 26 (.loc 0),
 ⟨none,.call 29,[.loc 3,.loc 0],.push,[⟨none,.r1 (fun s a=>AB Tryz.prog s 26 a),[.var 8],(.loc 5)⟩]⟩,
 A1u 27 [.loc 5,.loc 0],
 A1o 26 (.var 8) (.loc 0)]
def aW:Ac:=(.seq (.ops lh) (.ops lj))
def aX:Ac:=(.block 1 (.seq (.ops ln) (.seq (.ops VU) (.cond (.var 15)
 (.ops ls)
 .skip))))
def aT:Code:=(Fl 13 0).1
def aU:Code:=(Fl 13 0).2
theorem so:ER Tryz.prog 13 aT=some aW:=by kernel_rfl
theorem sq:ER Tryz.prog 13 aU=some aX:=by kernel_rfl
theorem aY:Dh Tryz.prog 13=[0,1,2,3,4,5,6,7,8,9,10,11,17,18,19,30]:=by kernel_rfl
def aV:List AA:=[
 A1m 26 (.var 8),
 A1o 26 (.var 6) (.loc 0)]
def yL:Ah:=⟨3,16,(.seq (.ops lW) (.seq (.ops lX) (.seq (.ops lY) (.seq (.seq (.ops lZ) (.block 0 (.rangeFunc 13 (.var 12) #[18,19] aT aU))) (.seq (.ops aV) .ret))))),[((.var 6),some 26)]⟩
theorem tx:AL Tryz.prog 61=some yu:=by kernel_rfl
theorem uC:AL Tryz.prog 72=some zB:=by kernel_rfl
theorem tz:AL Tryz.prog 62=some yv:=by kernel_rfl
theorem tT:AL Tryz.prog 34=some yS:=by kernel_rfl
theorem uD:AL Tryz.prog 73=some zC:=by kernel_rfl
theorem tR:AL Tryz.prog 32=some yQ:=by kernel_rfl
theorem tS:AL Tryz.prog 33=some yR:=by kernel_rfl
theorem ta:AL Tryz.prog 41=some yZ:=by kernel_rfl
theorem uH:AL Tryz.prog 77=some zG:=by kernel_rfl
theorem tJ:AL Tryz.prog 10=some yI:=by kernel_rfl
theorem tM:AL Tryz.prog 13=some yL:=by kernel_rfl
def qN:List AA:=[
 A1q 54 (.var 0) 1,
 ⟨none,.p1 some,[(.const .nilFunc)],(.set 2),[]⟩]
def qO:List AA:=[
 ⟨none,.p (fun l=>some (.func 121 (l.take 0) (l.drop 0))),[.var 1],.push,[]⟩,
 A1p (.loc 0) 2]
def zH:Ah:=⟨1,3,(.seq (.ops qN) (.seq (.ops qO) .ret)),[((.var 2),none)]⟩
def nY:List AA:=[
 A1p (.const (.int .i64 (0))) 2]
def nZ:List AA:=[
 ⟨none,.r (fun s l=>match l with | [x]=>Ay Tryz.prog s 27 x | _=>none),[.var 0],(.set 4),[]⟩,
 A1p (.const (.int .i64 (0))) 5]
def Vf:List AA:=[
 A1x .lss 3 (.var 5) (.var 4) 6]
def cY:List AA:=[
 A1p (.var 5) 3]
def cZ:List AA:=[
 A1v 27 (.var 0) (.var 3),
 A1m 3 (.loc 0),
 A1x .eql 3 (.var 1) (.loc 0) 7]
def ne:List AA:=[
 A1p (.var 3) 2]
def nf:List AA:=[
 ⟨none,.p2 (AN Tryz.prog .add 3),[(.var 5),(.const (.int .i64 (1)))],.push,[]⟩,
 A1p (.loc 0) 5]
def Nn:Ac:=(.seq (.ops Vf) (.seq (.cond (.var 6)
 .skip
 (.exit 0)) (.seq (.block 1 (.seq (.ops cY) (.seq (.ops cZ) (.cond (.var 7)
 (.seq (.ops ne) .ret)
 .skip)))) (.ops nf))))
def cg:List AA:=[
 A1p (.const (.int .i64 (-1))) 2]
def ya:Ah:=⟨2,8,(.seq (.ops nY) (.seq (.seq (.ops nZ) (.block 0 (.loop Nn))) (.seq (.ops cg) .ret))),[((.var 2),none)]⟩
theorem uI:AL Tryz.prog 79=some zH:=by kernel_rfl
theorem tb:AL Tryz.prog 42=some ya:=by kernel_rfl
end
end Go.Proofs.YtjnkfbpadpmakaaGreatDoor.Am
set_option linter.unusedVariables false
set_option linter.unusedSimpArgs false
namespace Go.Proofs.YtjnkfbpadpmakaaGreatDoor.Am
open Go Go.RowKit
noncomputable section
def UJ(x:Int):List Int→List Int
 | []=>[x]
 | y::l=>bif NV x y then x::y::l else y::UJ x l
def Dk:List Int→List Int
 | []=>[]
 | x::l=>UJ x (Dk l)
theorem KA(x:Int):∀l:List Int,(UJ x l).Perm (x::l)
 | []=>.refl _
 | y::l=>by
  unfold UJ
  cases NV x y with
  | true=>exact .refl _
  | false=>exact((KA x l).cons y).trans (.swap x y l)
theorem Dv:∀l:List Int,(Dk l).Perm l
 | []=>.refl _
 | x::l=>(KA x _).trans ((Dv l).cons x)
theorem Ki(x:Int):∀l:List Int,l.Pairwise (·≤·)→(UJ x l).Pairwise (·≤·)
 | [],_=>by simp[UJ]
 | y::l,h=>by
  unfold UJ
  have hl:=List.pairwise_cons.1 h
  rw[DF]
  by_cases hxy:x<y
  ·simp only[hxy,decide_true,cond_true]
   refine List.pairwise_cons.2 ⟨fun z hz=>?_,h⟩
   rcases List.mem_cons.1 hz with rfl | hz
   ·omega
   ·have:=hl.1 z hz;omega
  ·simp only[hxy,decide_false,cond_false]
   refine List.pairwise_cons.2 ⟨fun z hz=>?_,Ki x l hl.2⟩
   rcases List.mem_cons.1 ((KA x l).mem_iff.1 hz)with rfl | hz
   ·omega
   ·exact hl.1 z hz
theorem Gh:∀l:List Int,(Dk l).Pairwise (·≤·)
 | []=>.nil
 | x::l=>Ki x _ (Gh l)
theorem Xx        {l m : List Int} (hp : l.Perm m) (hl : l.Pairwise (· ≤ ·)) (hm : m.Pairwise (· ≤ ·)) : l = m := by
  induction l generalizing m with
  | nil=>exact(List.nil_perm.1 hp).symm
  | cons a l ih =>
    cases m with
    | nil=>exact absurd hp.length_eq (by simp)
    | cons b m =>
      have hl':=List.pairwise_cons.1 hl
      have hm':=List.pairwise_cons.1 hm
      have hab:a=b:=by
        have h1:a∈b::m:=hp.mem_iff.1 zs
        have h2:b∈a::l:=hp.mem_iff.2 zs
        rcases List.mem_cons.1 h1 with e | h1
        · exact e
        · rcases List.mem_cons.1 h2 with e | h2
          · exact e.symm
          · have:=hm'.1 a h1;have:=hl'.1 b h2;omega
      subst hab
      rw[ih hp.cons_inv hl'.2 hm'.2]
theorem R4{l m:List Int}(h:l.Perm m):m.mergeSort (fun x y=>decide (x≤y))=Dk l:=by
 refine Xx ((List.mergeSort_perm _ _).trans (h.symm.trans (Dv l).symm)) ?_ (Gh l)
 have:=List.pairwise_mergeSort (le:=fun(x y:Int)=>decide (x≤y)) (by intro a b c;simp;omega) (by intro a b;simp;omega) m
 exact this.imp (by intro a b h;simpa using h)
def Kn:List (AV×AV)→Option (List Int)
 | []=>some []
 | (.int .i64 n,_)::l=>(Kn l).bind fun r=>some (n::r)
 | _=>none
def XK(n:Int):AV:=.int .i64 n
def H6(tI:TypeId)(ks:List Int)(s:AE):Option (AV×AE):=match ks with
 | []=>some (.slice none 0 (some 0),s)
 | k::ks=>AQ (Nat.ble (k::ks).length 1000000) (some (.slice (some (s.next,0)) (k::ks).length none,newObj s (Cy tI 1 (Ab.fill .leaf 0 ((Dk (k::ks)).map XK)) (k::ks).length none true)))
def GP(g:FuncId)(kt tI:TypeId)(s:AE):List AV→Option (AV×AE)
 | [.func f [] [.ptr (some (i,o))]]=>AQ (Nat.beq f g && Nat.beq o 0) <| (rowAt s i).bind fun r=>AQ r.bytes <| (DB s i o).bind fun m=>match m with
  | .map none=>some (.slice none 0 (some 0),s)
  | .map (some j)=>(HT s kt j).bind fun es=>(Kn es).bind fun ks=>H6 tI ks s
  | _=>none
 | _=>none
section
variable{P:Program}{ρ ρ1 ρ2:BU}{s s1 s2:AE}{w w1 w2:World}
def U3(P:Program)(f g:FuncId)(kt tI:TypeId):Prop:=
 (∀ (Bm b nn:Nat) (D0:DataW Value) (w:World),Bm<w.heap.size→w.cell? ⟨Bm,0,none⟩=some (.map (some b))→w.ownsMap P kt Rv b nn D0→Maps.size D0≤1000000 →
  Calls P f #[.func (.func g) #[] #[.pointer (some ⟨Bm,0,none⟩)]] w fun e w'=>∃ (v:Value) (ss:List Int),e=.returned v∧ss.Perm (intKeys D0) ∧
   w'.ownsRow w.heap.size tI 1 v ss.length ((ss.mergeSort (fun x y=>decide (x≤y))).map fun n=>.int .i64 n)∧(v=.slice none 0 0↔ss=[])∧Below w.heap.size w w') ∧
 ∀ (Bm:Nat) (w:World),Bm<w.heap.size→w.cell? ⟨Bm,0,none⟩=some (.map none) →
  Calls P f #[.func (.func g) #[] #[.pointer (some ⟨Bm,0,none⟩)]] w fun e w'=>e=.returned (.slice none 0 0)∧Below w.heap.size w w'
theorem N7:∀ {es:List (AV×AV)}{ks:List Int}{l:List MapEntry},Kn es=some ks→Eh ρ es l→l.map (·.key)=ks.map fun n=>Value.int .i64 n
  | [],ks,l,h,he=>by cases he;injection h with h;subst h;rfl
  | (k,v)::es,ks,l,h,he=>by
    cases he with
    | cons hk hv hs =>
      cases k<;>try (simp[Kn]at h;done)
      rename_i q n
      cases q<;>try (simp[Kn]at h;done)
      simp only[Kn,zV]at h
      obtain⟨r,h1,h2⟩:=h
      injection h2 with h2
      subst h2
      have:=N7 h1 hs
      generalize hkk:(_:MapEntry).key=kk at hk
      cases hk
      simp[this,hkk]
theorem HK(h:Below w.heap.size w w1):w.grownBy w1 none:=⟨h.os,h.tape,h.output,h.size,fun k hk _=>h.block k hk⟩
theorem Sp          {f g : FuncId} {kt tI : TypeId} (hko : Gi     P kt = true) (hu : P.underlying kt = some (.int .i64)) (hc : U3      P f g kt tI) (h : Bd  P ρ s w) (hf : BE     ρ s) {aS : List AV} {as' : Array Value} {v : AV} (hs : GP       g kt tI s aS = some (v, s1)) (has : AW    ρ aS as'.toList) :
    CallsIn Fence.wide 0 P f as' w (Fn P ρ s w v s1):=by
  refine callsIn_wide.2 ?_
  unfold GP at hs
  split at hs<;>first | (cases hs;done) | skip
  rename_i f' i o
  obtain⟨hg,hs⟩:=AD hs
  simp only[zV,Bool.and_eq_true]at hs hg
  obtain⟨r,hrow,hs⟩:=hs
  obtain⟨hby,hs⟩:=AD hs
  simp only[zV]at hs
  obtain⟨m,hm,hs⟩:=hs
  have e1:=zr hg.1
  have e2:=zr hg.2
  subst e1;subst e2
  obtain⟨l0⟩:=as'
  cases has with
  | cons h1 h2 =>
  cases h2
  cases h1 with
  | func ha hcap =>
  rename_i a' c'
  obtain⟨la⟩:=a'
  obtain⟨lc⟩:=c'
  cases ha
  cases hcap with
  | cons hp hn =>
  cases hn
  cases hp with
  | ptr hr =>
  rename_i rb
  have hok:Ct ρ w r rb:=h.obj i _ rb (Bj hrow) hr
  have hoff:=hok.base hby
  obtain⟨m',hvm,hcell⟩:=MX h hr hm
  rw[hoff]at hcell ⊢
  have hlt:=h.lt i rb hr
  cases m<;>try (simp at hs;done)
  rename_i mj
  have nilDone:∀ (hs:some ((.slice none 0 (some 0),s):AV×AE)=some (v,s1)) (w':World),Below w.heap.size w w'→Fn P ρ s w v s1 (.returned (.slice none 0 0)) w':=by
    intro hs w' hb
    injection hs with hs
    injection hs with q1 q2
    subst q1;subst q2
    obtain⟨g1,g2⟩:=h.grown (HK hb)
    exact⟨ρ,.sliceNil,g1,g2⟩
  cases mj with
  | none =>
    cases hvm
    refine(hc.2 rb.b w hlt hcell).mono ?_
    rintro e w' ⟨rfl,hb⟩
    exact nilDone hs w' hb
  | some j =>
    simp only[zV]at hs
    obtain⟨es,hes,ks,hks,hs⟩:=hs
    cases hvm with
    | map hrj =>
    rename_i rj
    obtain⟨ed,cd,d1,d2,⟨ld,d3,d4⟩,d5⟩:=(show Ka P ρ w kt es rj from h.obj j _ rj (KF hes) hrj).ex
    have hkl:=N7 hks d4
    have hlenk:ks.length=ed.size:=by have:=congrArg List.length hkl;have:=d3.length_eq;simp at *;omega
    have hk6:ks.length≤1000000:=by
      cases ks with
      | nil=>simp
      | cons k ks =>
        simp only[H6]at hs
        have:=(AD hs).1
        simpa[zh]using this
    have hmax:(1000000:Nat)≤maxLen:=by unfold maxLen;omega
    have od:=kE d1 d2 d5 (by omega)
    have hsz:Maps.size (DataW.map ((ed.toList.map (WideElems.rg P kt Rv)).foldr DataW.insert []))=ed.size:=by
      show((ed.toList.map (WideElems.rg P kt Rv)).foldr DataW.insert []).length=_
      rw[(Go.WideShapes.sorted_perm _).length_eq]
      simp
    have hints:(intKeys (DataW.map ((ed.toList.map (WideElems.rg P kt Rv)).foldr DataW.insert []))).Perm ks:=by
      show(((ed.toList.map (WideElems.rg P kt Rv)).foldr DataW.insert []).map fun p=>Go.intOf p.1).Perm ks
      refine((Go.WideShapes.sorted_perm _).map _).trans ?_
      rw[A0q]
      have:((ld.map fun e=>Go.intOf (WideElems.rg P kt Rv e).1))=ks:=by
        have:∀ (L:List MapEntry) (K:List Int),(∀e∈L,∃l,keyOf P kt e.key=some l)→L.map (·.key)=K.map (fun n=>Value.int .i64 n)→(L.map fun e=>Go.intOf (WideElems.rg P kt Rv e).1)=K:=by
          intro L
          induction L with
          | nil=>intro K _ hK;cases K with | nil=>rfl | cons=>simp at hK
          | cons e L ih =>
            intro K hty hK
            cases K with
            | nil=>simp at hK
            | cons n K =>
              simp only[A0e,List.cons.injEq]at hK
              obtain⟨l,hl⟩:=hty e zs
              rw[A0e,ih K (fun x hx=>hty x (A0B _ hx)) hK.2,xJ hl]
              congr 1
              rw[hK.1]at hl
              simp only[keyOf,hu,mapKey]at hl
              split at hl
              · injection hl with hl;subst hl;rfl
              · cases hl
        exact this ld ks (fun e he=>d5 e (d3.mem_iff.1 he)) hkl
      rw[← this]
      exact d3.symm.map _
    refine(hc.1 rb.b rj.b _ _ w hlt hcell od (by rw[hsz];omega)).mono ?_
    rintro e w' ⟨v',ss,rfl,hperm,hrow',hnil,hb⟩
    have hss:ss.Perm ks:=hperm.trans hints
    cases ks with
    | nil =>
      have:ss=[]:=List.perm_nil.1 hss
      rw[hnil.2 this]
      exact nilDone hs w' hb
    | cons k ks =>
      simp only[H6]at hs
      obtain⟨_,hs⟩:=AD hs
      injection hs with hs
      injection hs with q1 q2
      subst q1;subst q2
      have hne:ss≠[]:=fun e=>by subst e;exact absurd (List.nil_perm.1 hss) (by simp)
      rw[R4 hss.symm]at hrow'
      have hl:ss.length=(k::ks).length:=hss.length_eq
      rcases hrow'.2 with⟨q,_⟩ | ⟨gb,cap,cur,rfl,hbase,hgb,r1,r2,r3,r4⟩
      · exact absurd (hnil.1 q) hne
      · rw[hl]at r1 r4 ⊢
        have hilen:(Dk (k::ks)).length=(k::ks).length:=(Dv _).length_eq
        generalize hn:(k::ks).length=n at r1 r4 hilen ⊢
        have hglt:gb<w'.heap.size:=(Array.getElem?_eq_some_iff.1 hgb).1
        obtain⟨g1,g2⟩:=h.grown (HK hb)
        let rbn:RB:=⟨gb,0,cap,1⟩
        have hfn:=(hf s.next (zU _)).1
        have hle:=Bk (rb:=rbn) hfn
        have hrok:Ct (CF ρ s.next rbn) w' { elem:=tI,sz:=1,n:=n,c:=Ab.fill .leaf 0 ((Dk (k::ks)).map XK),spare:=true,mode:=.own,par:=none,bytes:=true } rbn:=by
          refine⟨?_,r1,rfl,(fun hh=>by cases hh),fun _=>⟨cur,hgb,by simp only[rbn];omega⟩,fun _=>rfl,(fun g hg=>by cases hg),fun p hp=>by cases hp⟩
          intro q u hq hu'
          simp only at hq
          simp only[Ab.get_fill,ze,zk,true_and,Nat.sub_zero,zi,hilen]at hu'
          rw[if_pos hq,A0N]at hu'
          obtain⟨x,hx,hx2⟩:=Option.map_eq_some_iff.1 hu'
          subst hx2
          refine⟨.int .i64 x,?_,.int _ _⟩
          have:(cur.toList.take (n * 1))[q]? = some (Value.int .i64 x):=by rw[r4,A0N,hx];rfl
          rw[A0m (by omega)]at this
          simp only[World.cell?,rbn,zk,hgb]
          simpa using this
        refine⟨CF ρ s.next rbn,.sliceOpen (Af _ _) (Nat.one_pos) r1 (by simp[rbn]) (by simp[rbn]),⟨?_,?_,?_,?_⟩,?_⟩
        · intro x ox rx hx hrx
          rw[BA]at hx
          by_cases e:x=s.next
          · subst e
            rw[if_pos rfl]at hx
            injection hx with hx
            rw[Af]at hrx
            injection hrx with hrx
            subst hx;subst hrx
            exact hrok
          · rw [if_neg e] at hx
            rw[AZ rbn e]at hrx
            exact(g1.obj x ox rx hx hrx).mono hle rfl
        · intro x rx hrx
          by_cases e:x=s.next
          · subst e
            rw[Af]at hrx
            injection hrx with hrx
            subst hrx
            exact hglt
          · rw[AZ rbn e]at hrx
            exact g1.lt x rx hrx
        · intro x y ox oy rx ry hxy hx hy hrx hry hbb hw
          rw[BA]at hx hy
          by_cases ex:x=s.next
          · subst ex
            have ey:y≠s.next:=fun e=>hxy e.symm
            rw[Af]at hrx
            injection hrx with hrx
            subst hrx
            rw[AZ rbn ey]at hry
            have:=h.lt y ry hry
            simp only[rbn]at hbb
            omega
          · by_cases ey : y = s.next
            · subst ey
              rw[Af]at hry
              injection hry with hry
              subst hry
              rw[AZ rbn ex]at hrx
              have:=h.lt x rx hrx
              simp only[rbn]at hbb
              omega
            · rw [if_neg ex] at hx
              rw[if_neg ey]at hy
              rw[AZ rbn ex]at hrx
              rw[AZ rbn ey]at hry
              exact g1.sep x y ox oy rx ry hxy hx hy hrx hry hbb hw
        · intro x ox g hx hgo
          rw[BA]at hx
          by_cases e:x=s.next
          · subst e;exact⟨_,Af _ _⟩
          · rw[if_neg e]at hx
            obtain⟨r',hr'⟩:=h.glb x ox g hx hgo
            exact⟨r',hle _ _ hr'⟩
        · refine ⟨hle, ?_, by simp [newObj], hb.size, hb.os, hb.tape, hb.output, fun b hb' _ => hb.block b hb', ?_, ?_⟩
          · intro x hx hxr
            have:x≠s.next:=by simp[newObj]at hxr;omega
            rw[AZ rbn this];exact hx
          · rintro b ⟨x, ox, rx, hx, hw, hrx, rfl⟩
            rw[BA]at hx
            by_cases e:x=s.next
            · subst e
              rw[Af]at hrx
              injection hrx with hrx
              subst hrx
              exact .inr hbase
            · rw [if_neg e] at hx
              rw[AZ rbn e]at hrx
              exact .inl ⟨x,ox,rx,hx,hw,hrx,rfl⟩
          · intro x _ hx
            rw[BA,if_neg (by simp[newObj]at hx;omega)]
end
end
end Go.Proofs.YtjnkfbpadpmakaaGreatDoor.Am
set_option linter.unusedVariables false
set_option linter.unusedSimpArgs false
set_option maxRecDepth 16000
namespace Go.Proofs.YtjnkfbpadpmakaaGreatDoor.Am
open Go Go.Proofs
noncomputable section
abbrev CW:=Int×Rat×AV
def G1(T:List CW):List (AV×AV):=T.map fun t=>(iv t.1,t.2.2)
def E8(n:Int):List CW→Option (Rat×AV)
 | []=>none
 | t::T=>if n=t.1 then some t.2 else E8 n T
def Dx(n:Int)(q:Rat)(v:AV):List CW→List CW
 | []=>[(n,q,v)]
 | t::T=>if n=t.1 then (n,q,v)::T else t::Dx n q v T
def FT(n:Int):List CW→List CW
 | []=>[]
 | t::T=>if n=t.1 then T else t::FT n T
theorem WA(n m:Int):HQ (iv n) (iv m)=some (decide (n=m)):=by
 show AQ (CC .i64 .i64) (some (NX n m))=_
 rw[Ev]
 rfl
theorem HU       (n : Int) (q : Rat) (v : AV) : ∀ (T : List CW)  (i : Nat), (E8   n T = none ∧ G2    (iv n) (G1  T) i = some none ∧ Dx   n q v T = T ++ [(n, q, v)] ∧ FT   n T = T) ∨
    (∃j p,E8 n T=some p∧G2 (iv n) (G1 T) i=some (some (i+j,p.2))∧setNth (G1 T) j v=G1 (Dx n q v T)∧delNth (G1 T) j=G1 (FT n T))
  | [],i=>.inl ⟨rfl,rfl,rfl,rfl⟩
  | t::T,i=>by
    by_cases h:n=t.1
    · refine .inr ⟨0, t.2, if_pos h, ?_, ?_, ?_⟩
      · show(HQ (iv n) (iv t.1)).bind _=_
        rw[WA,decide_eq_true h];rfl
      · show setNth ((iv t.1,t.2.2)::G1 T) 0 v=G1 (if n=t.1 then (n,q,v)::T else t::Dx n q v T)
        rw[if_pos h]
        show(iv t.1,v)::G1 T=(iv n,v)::G1 T
        rw[h]
      · show G1 T=G1 (if n=t.1 then T else t::FT n T)
        rw[if_pos h]
    · have hf:G2 (iv n) (G1 (t::T)) i=G2 (iv n) (G1 T) (i+1):=by
        show(HQ (iv n) (iv t.1)).bind _=_
        rw[WA,decide_eq_false h];rfl
      have hg:E8 n (t::T)=E8 n T:=if_neg h
      have hp:Dx n q v (t::T)=t::Dx n q v T:=if_neg h
      have hd:FT n (t::T)=t::FT n T:=if_neg h
      rcases HU n q v T (i+1)with⟨h1,h2,h3,h4⟩ | ⟨j,p,h1,h2,h3,h4⟩
      · exact .inl ⟨hg.trans h1,hf.trans h2,by rw[hp,h3];rfl,by rw[hd,h4]⟩
      · refine .inr ⟨j + 1, p, hg.trans h1, ?_, ?_, ?_⟩
        · rw[hf,h2,show i+1+j=i+(j+1) by omega]
        · rw[hp]
          show(iv t.1,t.2.2)::setNth (G1 T) j v=(iv t.1,t.2.2)::G1 (Dx n q v T)
          rw[h3]
        · rw[hd]
          show(iv t.1,t.2.2)::delNth (G1 T) j=(iv t.1,t.2.2)::G1 (FT n T)
          rw[h4]
def Cd(n:Int)(T:List CW):Rat:=match E8 n T with
 | some p=>p.1
 | none=>0
def J5(a:Int→Rat):List CW→Rat
 | []=>0
 | t::T=>t.2.1 * a t.1+J5 a T
theorem IC(n:Int)(t:CW)(T:List CW):Cd n (t::T)=if n=t.1 then t.2.1 else Cd n T:=by
 unfold Cd
 show(match (if n=t.1 then some t.2 else E8 n T)with | some p=>p.1 | none=>0)=_
 by_cases h:n=t.1
 ·rw[if_pos h,if_pos h]
 ·rw[if_neg h,if_neg h]
theorem fN(a:Int→Rat)(n:Int)(d:Rat)(v:AV):∀T:List CW,J5 a (Dx n (Cd n T+d) v T)=J5 a T+d * a n
 | []=>by
  show(0+d) * a n+0=0+d * a n
  rw[Rat.zero_add,Rat.add_zero,Rat.zero_add]
 | t::T=>by
  rw[IC]
  by_cases h:n=t.1
  ·rw[if_pos h]
   show J5 a (if n=t.1 then (n,t.2.1+d,v)::T else t::Dx n (t.2.1+d) v T)=t.2.1 * a t.1+J5 a T+d * a n
   rw[if_pos h]
   show(t.2.1+d) * a n+J5 a T=t.2.1 * a t.1+J5 a T+d * a n
   rw[h,Rat.add_mul,Rat.add_assoc,Rat.add_comm (d * a t.1),Rat.add_assoc]
  ·rw[if_neg h]
   show J5 a (if n=t.1 then (n,Cd n T+d,v)::T else t::Dx n (Cd n T+d) v T)=t.2.1 * a t.1+J5 a T+d * a n
   rw[if_neg h]
   show t.2.1 * a t.1+J5 a (Dx n (Cd n T+d) v T)=_
   rw[fN a n d v T,Rat.add_assoc]
theorem UB(a:Int→Rat)(n:Int):∀T:List CW,J5 a (FT n T)+Cd n T * a n=J5 a T
 | []=>by show(0:Rat)+0 * a n=0;rw[Rat.zero_mul,Rat.add_zero]
 | t::T=>by
  rw[IC]
  by_cases h:n=t.1
  ·rw[if_pos h]
   show J5 a (if n=t.1 then T else t::FT n T)+t.2.1 * a n=t.2.1 * a t.1+J5 a T
   rw[if_pos h,h,Rat.add_comm]
  ·rw[if_neg h]
   show J5 a (if n=t.1 then T else t::FT n T)+_=t.2.1 * a t.1+J5 a T
   rw[if_neg h]
   show t.2.1 * a t.1+J5 a (FT n T)+_=_
   rw[Rat.add_assoc,UB a n T]
def BD(T:List CW):List Int:=T.map (·.1)
theorem N0{n:Int}:∀ {T:List CW},E8 n T=none↔n ∉ BD T
 | []=>by simp[E8,BD]
 | t::T=>by
  show(if n=t.1 then some t.2 else E8 n T)=none↔n ∉ t.1::BD T
  by_cases h:n=t.1
  ·rw[if_pos h];simp[h]
  ·rw[if_neg h,N0 (T:=T)];simp[h]
theorem F7{n:Int}{p:Rat×AV}:∀ {T:List CW},E8 n T=some p→(n,p)∈T
 | [],h=>by cases h
 | t::T,h=>by
  have h':(if n=t.1 then some t.2 else E8 n T)=some p:=h
  by_cases hn:n=t.1
  ·rw[if_pos hn]at h'
   injection h' with h'
   have:(n,p)=t:=by rw[hn,← h']
   rw[this];exact zs
  ·rw[if_neg hn]at h'
   exact A0B _ (F7 h')
theorem R5       {n : Int} {q : Rat} {v : AV} {x : Int} : ∀ {T : List CW},  x ∈ BD    (Dx   n q v T) ↔ x = n ∨ x ∈ BD    T
  | []=>by simp[Dx,BD]
  | t::T=>by
    show x∈BD (if n=t.1 then (n,q,v)::T else t::Dx n q v T)↔x=n∨x∈t.1::BD T
    by_cases h:n=t.1
    · rw[if_pos h]
      show x∈n::BD T↔_
      rw[h];simp
    · rw[if_neg h]
      show x∈t.1::BD (Dx n q v T)↔_
      rw[List.mem_cons,R5 (T:=T),List.mem_cons]
      constructor
      · rintro (h | h | h)
        · exact .inr (.inl h)
        · exact .inl h
        · exact .inr (.inr h)
      · rintro (h | h | h)
        · exact .inr (.inl h)
        · exact .inl h
        · exact .inr (.inr h)
theorem KJ{n:Int}{q:Rat}{v:AV}:∀ {T:List CW},(BD T).Nodup→(BD (Dx n q v T)).Nodup
 | [],_=>by simp[Dx,BD]
 | t::T,h=>by
  obtain⟨h1,h2⟩:=List.nodup_cons.1 h
  show(BD (if n=t.1 then (n,q,v)::T else t::Dx n q v T)).Nodup
  by_cases hn:n=t.1
  ·rw[if_pos hn]
   show(n::BD T).Nodup
   rw[hn];exact h
  ·rw[if_neg hn]
   show(t.1::BD (Dx n q v T)).Nodup
   refine List.nodup_cons.2 ⟨fun hm=>?_,KJ h2⟩
   rcases R5.1 hm with e | e
   ·exact hn e.symm
   ·exact h1 e
theorem LU      {n : Int} {q : Rat} {v : AV} {t : CW}  : ∀ {T : List CW},  t ∈ Dx   n q v T → t = (n, q, v) ∨ t ∈ T
  | [],h=>.inl (A1d.1 h)
  | u::T,h=>by
    have h':t∈(if n=u.1 then (n,q,v)::T else u::Dx n q v T):=h
    by_cases hn:n=u.1
    · rw [if_pos hn] at h'
      rcases List.mem_cons.1 h' with e | e
      · exact .inl e
      · exact .inr (A0B _ e)
    · rw [if_neg hn] at h'
      rcases List.mem_cons.1 h' with e | e
      · exact .inr (e▸zs)
      · rcases LU      e with e | e
        · exact .inl e
        · exact .inr (A0B _ e)
theorem SR{Rl:CW→CW→Prop}{n:Int}{q:Rat}{v:AV}:∀ {T:List CW},T.Pairwise Rl→(∀t∈T,Rl t (n,q,v)∧Rl (n,q,v) t)→(Dx n q v T).Pairwise Rl
  | [],_,_=>by simp[Dx]
  | t::T,h,hn=>by
    obtain⟨h1,h2⟩:=List.pairwise_cons.1 h
    show(if n=t.1 then (n,q,v)::T else t::Dx n q v T).Pairwise Rl
    by_cases hk:n=t.1
    · rw[if_pos hk]
      exact List.pairwise_cons.2 ⟨fun u hu=>(hn u (A0B _ hu)).2,h2⟩
    · rw [if_neg hk]
      refine List.pairwise_cons.2 ⟨fun u hu=>?_,SR h2 fun u hu=>hn u (A0B _ hu)⟩
      rcases LU hu with rfl | hu
      · exact(hn t zs).1
      · exact h1 u hu
theorem Ho(n:Int):∀T:List CW,(FT n T).Sublist T
 | []=>.slnil
 | t::T=>by
  show(if n=t.1 then T else t::FT n T).Sublist (t::T)
  by_cases h:n=t.1
  ·rw[if_pos h];exact List.sublist_cons_self t T
  ·rw[if_neg h];exact(Ho n T).cons_cons t
theorem WB{n:Int}{q:Rat}{v:AV}:∀ {T:List CW},(Dx n q v T).length≤T.length+1
 | []=>zU _
 | t::T=>by
  show(if n=t.1 then (n,q,v)::T else t::Dx n q v T).length≤_
  by_cases h:n=t.1
  ·rw[if_pos h];simp
  ·rw[if_neg h];have:=WB (n:=n) (q:=q) (v:=v) (T:=T);simp only[A0G];omega
theorem P3(k:Int):FL Tryz.prog 3 (iv k)=CG .i64 k:=by kernel_rfl
abbrev Ws:AV:=.agg [.bool false,.slice none 0 (some 0),.slice none 0 (some 0)]
section
variable{s:AE}{mi:Nat}{T:List CW}{n:Int}
theorem SC(hg:s.heap.get mi=some (.map 3 (G1 T)))(hn:i64 n):Da Tryz.prog s 54 (.map (some mi)) (iv n) true=some (.tuple [match E8 n T with | some p=>p.2 | none=>Ws,.bool (E8 n T).isSome]):=by
 have hrd:Kp s 3 mi=some (G1 T):=by unfold Kp;rw[hg];rfl
 unfold Da
 simp only[Tryz.underlying54,P3,Eo hn,Xg,hrd,Option.bind_some]
 rcases HU n 0 Ws T 0 with⟨h1,h2,_⟩ | ⟨j,p,h1,h2,_⟩
 ·rw[h2,h1,Option.bind_some,yF];rfl
 ·rw[h2,h1];rfl
theorem XR{p:Rat×AV}(hg:s.heap.get mi=some (.map 3 (G1 T)))(hn:i64 n)(hp:E8 n T=some p):Da Tryz.prog s 54 (.map (some mi)) (iv n) false=some p.2:=by
 have hrd:Kp s 3 mi=some (G1 T):=by unfold Kp;rw[hg];rfl
 unfold Da
 simp only[Tryz.underlying54,P3,Eo hn,Xg,hrd,Option.bind_some]
 rcases HU n 0 Ws T 0 with⟨h1,h2,_⟩ | ⟨j,p',h1,h2,_⟩
 ·rw[hp]at h1;cases h1
 ·rw[hp]at h1
  injection h1 with h1
  subst h1
  rw[h2];rfl
theorem iI(hg:s.heap.get mi=some (.map 3 (G1 T)))(hn:i64 n)(q:Rat)(v:AV):IB Tryz.prog s 54 (.map (some mi)) (iv n) v=some (setObj s mi (.map 3 (G1 (Dx n q v T)))):=by
 have hat:HT s 3 mi=some (G1 T):=by unfold HT;rw[hg];rfl
 unfold IB
 simp only[Tryz.underlying54,P3,Eo hn,Xg,hat,Option.bind_some]
 unfold un
 rcases HU n q v T 0 with⟨h1,h2,h3,_⟩ | ⟨j,p,h1,h2,h3,_⟩
 ·rw[h2,h3,Option.bind_some]
  show some (setObj s mi (.map 3 (G1 T++[(iv n,v)])))=_
  unfold G1
  rw[A0o];rfl
 ·rw[h2,Option.bind_some,zk]
  show some (setObj s mi (.map 3 (setNth (G1 T) j v)))=_
  rw[h3]
theorem fC(hg:s.heap.get mi=some (.map 3 (G1 T)))(hn:i64 n)(hp:E8 n T≠none):Ge Tryz.prog s 54 (.map (some mi)) (iv n)=some (setObj s mi (.map 3 (G1 (FT n T)))):=by
 have hat:HT s 3 mi=some (G1 T):=by unfold HT;rw[hg];rfl
 unfold Ge
 simp only[Tryz.underlying54,P3,Eo hn,Xg,hat,Option.bind_some]
 rcases HU n 0 Ws T 0 with⟨h1,_⟩ | ⟨j,p,h1,h2,_,h4⟩
 ·exact absurd h1 hp
 ·rw[h2,Option.bind_some,zk,← h4]
end
def Dg:AV→List Nat
 | .agg [_,m,d]=>(B6 m).toList++(B6 d).toList
 | _=>[]
def YE(u v:AV):Prop:=∀j∈Dg u,j ∉ Dg v
theorem YE.symm{u v:AV}(h:YE u v):YE v u:=fun j h1 h2=>h j h2 h1
def YG(s:AE)(j:Nat):Prop:=∃r,s.heap.get j=some (.row r)∧r.elem=76
theorem NR.u32{b:Nat}{s:AE}{v:AV}{l:List Nat}(h:NR b s v l)(hl:l≠[]){j:Nat}(hj:B6 v=some j):YG s j:=by
 obtain⟨O,h1,_,_,h4⟩:=h
 obtain⟨i,e,_,_⟩:=h4 hl
 rcases h1 with⟨a,e',_⟩ | ⟨i',p,e',h6,_⟩
 ·rw[e]at e';injection e' with _ _ e';cases e'
 ·rw[e']at hj
  injection hj with hj
  subst hj
  rcases h6.ex with⟨e'',_⟩ | ⟨_,_,_,_,r,k4,_,_,_,_,_,k9⟩
  ·rw[e']at e'';cases e''
  ·exact⟨r,k4,k9⟩
theorem Cb{v:AV}{x m d:AV}(e:v=.agg [x,m,d]){j:Nat}:j∈Dg v↔B6 m=some j∨B6 d=some j:=by
 subst e
 show j∈(B6 m).toList++(B6 d).toList↔_
 rw[A1V,Option.mem_toList,Option.mem_toList]
theorem QR.u32{b:Nat}{s:AE}{v:AV}{q:Rat}(h:QR b s v q){j:Nat}(hj:j∈Dg v):YG s j:=by
  obtain⟨m,d,e,h2,h3,_,h5⟩:=h
  rcases(Cb e).1 hj with hj | hj
  · by_cases h0 : q.num = 0
    · rw[h5 h0]at hj;cases hj
    · exact h2.u32 (Cz (by omega)) hj
  · exact h3.u32 (Cz q.den_nz) hj
theorem QR.slots{b:Nat}{s:AE}{v:AV}{q:Rat}(h:QR b s v q){j:Nat}(hj:j∈Dg v):b≤j∧j<s.next:=by
 obtain⟨m,d,e,h2,h3,_⟩:=h
 rcases(Cb e).1 hj with hj | hj
 ·exact h2.lt hj
 ·exact h3.lt hj
theorem QR.dj{b b':Nat}{s s':AE}{u v:AV}{p q:Rat}(h:QR b s u p)(h':QR b' s' v q)(hb:s.next≤b'):YE u v:=fun j h1 h2=>by
 have:=(h.slots h1).2
 have:=(h'.slots h2).1
 omega
structure HA(b:Nat)(s:AE)(mi:Nat)(T:List CW)(k:Nat):Prop where
 obj:s.heap.get mi=some (.map 3 (G1 T))
 lo:b≤mi
 lt:mi<s.next
 ent:∀t∈T,QR b s t.2.2 t.2.1∧QH t.2.1 k∧i64 t.1
 nd:(BD T).Nodup
 dj:T.Pairwise fun t u=>YE t.2.2 u.2.2
structure FO(b:Nat)(s:AE)(cv:AV)(mi:Nat)(c:Rat)(T:List CW)(k:Nat):Prop where
 cq:QR b s cv c
 ch:QH c k
 map:HA b s mi T k
 dj:∀t∈T,YE cv t.2.2
def PV(b:Nat)(s:AE)(v:AV)(mi:Nat)(c:Rat)(T:List CW)(k:Nat):Prop:=∃x a n ca d m cd,v=.agg [.bool x,.slice a n ca,.slice d m cd,.map (some mi)]∧FO b s (.agg [.bool x,.slice a n ca,.slice d m cd]) mi c T k
theorem Fi{s:AE}{mi kt:Nat}{es:List (AV×AV)}(h:s.heap.get mi=some (.map kt es)){j:Nat}(hj:YG s j):j≠mi:=by
 rintro rfl
 obtain⟨r,h1,_⟩:=hj
 rw[h]at h1;cases h1
theorem Fj{s:AE}{p e sz:Nat}{sp:Bool}{cs:List AV}(h:s.heap.get p=some (R e sz sp cs))(he:e≠76){j:Nat}(hj:YG s j):j≠p:=by
 rintro rfl
 obtain⟨r,h1,h2⟩:=hj
 rw[h]at h1
 injection h1 with h1
 injection h1 with h1
 subst h1
 exact he h2
theorem QR.keepS{b:Nat}{s s':AE}{v:AV}{q:Rat}(h:QR b s v q)(hn:s.next≤s'.next)(hf:∀j,j<s.next→YG s j→s'.heap.get j=s.heap.get j):QR b s' v q:=by
 have hu:=fun j=>h.u32 (j:=j)
 have hl:=fun j=>h.slots (j:=j)
 obtain⟨m,d,e,h2,h3,h4⟩:=h
 exact⟨m,d,e,h2.keep hn fun j hj=>hf j (hl j ((Cb e).2 (.inl hj))).2 (hu j ((Cb e).2 (.inl hj))),h3.keep hn fun j hj=>hf j (hl j ((Cb e).2 (.inr hj))).2 (hu j ((Cb e).2 (.inr hj))),h4⟩
theorem HA.keepS{b:Nat}{s s':AE}{mi:Nat}{T:List CW}{k:Nat}(h:HA b s mi T k)(hn:s.next≤s'.next)(hm:s'.heap.get mi=s.heap.get mi)(hf:∀j,j<s.next→YG s j→s'.heap.get j=s.heap.get j):HA b s' mi T k:=
 ⟨hm.trans h.obj,h.lo,zZ h.lt hn,fun t ht=>⟨(h.ent t ht).1.keepS hn hf,(h.ent t ht).2⟩,h.nd,h.dj⟩
theorem HA.old{b:Nat}{s s':AE}{mi:Nat}{T:List CW}{k:Nat}(h:HA b s mi T k)(o:Aa s.next s s'):HA b s' mi T k:=h.keepS o.1 (o.2 mi h.lt) fun j hj _=>o.2 j hj
theorem HA.le{b:Nat}{s:AE}{mi:Nat}{T:List CW}{k k':Nat}(h:HA b s mi T k)(hk:k≤k'):HA b s mi T k':=⟨h.obj,h.lo,h.lt,fun t ht=>⟨(h.ent t ht).1,(h.ent t ht).2.1.le hk,(h.ent t ht).2.2⟩,h.nd,h.dj⟩
theorem HA.mono{b b':Nat}{s:AE}{mi:Nat}{T:List CW}{k:Nat}(h:HA b s mi T k)(hb:b'≤b):HA b' s mi T k:=⟨h.obj,zY hb h.lo,h.lt,fun t ht=>⟨(h.ent t ht).1.mono hb,(h.ent t ht).2⟩,h.nd,h.dj⟩
theorem FO.keepS{b:Nat}{s s':AE}{cv:AV}{mi:Nat}{c:Rat}{T:List CW}{k:Nat}(h:FO b s cv mi c T k)(hn:s.next≤s'.next)(hm:s'.heap.get mi=s.heap.get mi)(hf:∀j,j<s.next→YG s j→s'.heap.get j=s.heap.get j):FO b s' cv mi c T k:=
 ⟨h.cq.keepS hn hf,h.ch,h.map.keepS hn hm hf,h.dj⟩
theorem FO.old{b:Nat}{s s':AE}{cv:AV}{mi:Nat}{c:Rat}{T:List CW}{k:Nat}(h:FO b s cv mi c T k)(o:Aa s.next s s'):FO b s' cv mi c T k:=h.keepS o.1 (o.2 mi h.map.lt) fun j hj _=>o.2 j hj
theorem FO.le{b:Nat}{s:AE}{cv:AV}{mi:Nat}{c:Rat}{T:List CW}{k k':Nat}(h:FO b s cv mi c T k)(hk:k≤k'):FO b s cv mi c T k':=⟨h.cq,h.ch.le hk,h.map.le hk,h.dj⟩
theorem FO.mono{b b':Nat}{s:AE}{cv:AV}{mi:Nat}{c:Rat}{T:List CW}{k:Nat}(h:FO b s cv mi c T k)(hb:b'≤b):FO b' s cv mi c T k:=⟨h.cq.mono hb,h.ch,h.map.mono hb,h.dj⟩
theorem FO.set{b:Nat}{s:AE}{cv:AV}{mi:Nat}{c:Rat}{T:List CW}{k p e sz:Nat}{sp:Bool}{cs:List AV}(h:FO b s cv mi c T k)(hp:s.heap.get p=some (R e sz sp cs))(he:e≠76)(o:BF):FO b (setObj s p o) cv mi c T k:=
 h.keepS (zU _) (Wx _ (by rintro rfl;have:=h.map.obj;rw[hp]at this;cases this)) fun j _ hj=>Wx _ (Fj hp he hj)
theorem kp{b:Nat}{s:AE}{mi:Nat}{T:List CW}{k:Nat}(h:HA b s mi T k)(hk:1≤k)(n:Int):QH (Cd n T) k:=by
 unfold Cd
 cases hg:E8 n T with
 | none=>exact sR.le hk
 | some p=>exact(h.ent _ (F7 hg)).2.1
theorem W5(x:Bool)(a b:Option (Nat×Nat))(n m:Nat)(c d:Option Nat)(mi:Nat):Be Tryz.prog 56 (zipIdx [0,1] [.agg [.bool x,.slice a n c,.slice b m d],.map (some mi)])=some (.agg [.bool x,.slice a n c,.slice b m d,.map (some mi)]):=by kernel_rfl
theorem I1:Ag Tryz.prog 56=some (R 56 0 false [.bool false,.slice none 0 (some 0),.slice none 0 (some 0),.map none],.ptr):=by kernel_rfl
theorem j7:KC Tryz.prog 54=some 3:=by kernel_rfl
section
variable{E:CR}{s:AE}
theorem SE(hE:GoodN E){K:AV→AE→Prop}(hK:∀s' v,Aa s.next s s'→QR s.next s' v 0→K v s'):WF E 72 [] K s:=by
 refine hE.go uC (by decide) rfl ?_
 obtain⟨n1,o1,g1⟩:=Bs s ZQ
 simp only[zB,p7,p8,Bh,Xc,Qa,Qb,Qc,Qd,Qf,Qh,Qi,Qj,Qk,Ql,Qm,Qo,true_and,Qp,Qt,Qv,Rb,Rh,Rj,A1r,A1u,A1o]
 generalize newObj s ZQ=s1 at *
 refine Mz hE (n:=0) (.inl rfl) fun s2 v2 o2 r2=>?_
 have h2:=o2.1
 obtain⟨x,a,n,c,b,m,d,rfl⟩:=r2.shape
 obtain⟨st,ld⟩:=BM (cs0:=[.bool false,.slice none 0 (some 0),.slice none 0 (some 0)]) rfl (x:=x) (a:=a) (n:=n) (c:=c) (b:=b) (m:=m) (d:=d) ((o2.2 s.next (by omega)).trans g1)
 simp only[st,ld,AM,Xy,Za,Qd,Qj,Qm,Qo,true_and,Qr,Rk,Rn,Yc]
 exact hK _ _ ((o1.trans (o2.mono o1.1)).set (zU _) _) ((r2.set (by omega) _).mono (by omega))
theorem fm(hE:GoodN E){K:AV→AE→Prop}(hK:∀s' v mi,Aa s.next s s'→PV s.next s' v mi 0 [] 1→K v s'):WF E 61 [] K s:=by
 refine hE.go tx (by decide) rfl ?_
 obtain⟨n1,o1,g1⟩:=Bs s (R 56 0 false [.bool false,.slice none 0 (some 0),.slice none 0 (some 0),.map none])
 simp only[yu,pK,pM,I1,Xc,Qa,Qb,Qc,Qd,Qf,Qh,Qj,Qk,Ql,Qm,Qo,true_and,Qp,Qr,Qs,Qt,Qv,Rb,Rh,Rj,A1r,A1u,A1o]
 generalize newObj s (R 56 0 false [.bool false,.slice none 0 (some 0),.slice none 0 (some 0),.map none])=s1 at *
 refine SE hE fun s2 v2 o2 r2=>?_
 have h2:=o2.1
 obtain⟨x,a,n,c,b,m,d,rfl⟩:=r2.shape
 obtain⟨n3,o3,g3⟩:=Bs s2 (.map 3 [])
 have g4:(newObj s2 (.map 3 [])).heap.get s.next=some (R 56 0 false [.bool false,.slice none 0 (some 0),.slice none 0 (some 0),.map none]):=by
  rw[o3.2 _ (by omega),o2.2 _ (by omega)];exact g1
 simp only[j7,Option.bind_some,Xd,W5,Qd,Qm,Qo,true_and,Qr,Yc]
 generalize newObj s2 (.map 3 [])=s3 at *
 have st:=Ai (P:=Tryz.prog) (t:=56) (cs:=[.bool x,.slice a n c,.slice b m d,.map (some s2.next)]) K8 g4 rfl rfl rfl (by simp)
 have ld:=AK (P:=Tryz.prog) (t:=56) (s:=setObj s3 s.next (R 56 0 false [.bool x,.slice a n c,.slice b m d,.map (some s2.next)])) (i:=s.next) QL K8 (Ww _ _ _) rfl
 have o13:=o1.trans ((o2.trans (o3.mono h2)).mono o1.1)
 simp only[st,ld,AM,Xy,Za,Qj,Qm,Qr,Rk,Rn,Yc]
 refine hK _ _ s2.next (o13.set (zU _) _) ⟨_,_,_,_,_,_,_,rfl,((r2.old o3).set (by omega) _).mono (by omega),sR,⟨?_,by omega,by show s2.next<s3.next;omega,fun t ht=>(by cases ht),List.nodup_nil,.nil⟩,fun t ht=>by cases ht⟩
 rw[Wx _ (by omega)];exact g3
theorem iT(hE:GoodN E){va:AV}{a c o:Rat}{ka kc ko pc po:Nat}{cc co:List AV}(ha:QI s va a ka)(hc:QI s (.agg cc) c kc)(ho:QI s (.agg co) o ko)(gc:s.heap.get pc=some (R 26 0 false cc))(go:s.heap.get po=some (R 26 0 false co))(hpc:pc<s.next)(hpo:po<s.next)
  (hka:1≤ka) (hkc:1≤kc) (hko:1≤ko) (hk:2 * (ka+(kc+ko))+1≤1000000000) {K:AV→AE→Prop} (hK:∀s' v,Aa s.next s s'→QR s.next s' v (a+c * o)→K v s'):WF E 73 [va,.ptr (some (pc,0)),.ptr (some (po,0))] K s:=by
 have hcl:cc.length=3:=by obtain⟨_,_,_,_,_,_,_,e⟩:=hc.shape;injection e with e;rw[e];rfl
 have hol:co.length=3:=by obtain⟨_,_,_,_,_,_,_,e⟩:=ho.shape;injection e with e;rw[e];rfl
 have hqc:=hc.qh hkc
 have hqo:=ho.qh hko
 obtain⟨x1,a1,n1,c1,b1,m1,d1,rfl⟩:=ha.shape
 refine hE.go uD (by decide) rfl ?_
 obtain⟨n2,o1,g1,g2⟩:=EK s (BQ x1 (.slice a1 n1 c1) (.slice b1 m1 d1)) ZQ
 simp only[zC,qA,qB,Xa,Xh,Bh,Xc,Ak,Qa,Qb,Qc,Qd,Qf,Qh,Qj,Qk,Ql,Qm,Qo,true_and,Qp,Qq,Qr,Qs,Qt,Qv,Rb,Rh,Rj,A1q,A1r,A1m,A1u,A1o]
 generalize newObj (newObj s (BQ x1 (.slice a1 n1 c1) (.slice b1 m1 d1))) ZQ=s1 at *
 have l1:=AK (P:=Tryz.prog) (t:=26) BZ Aw g1 rfl
 have l2:=AK (P:=Tryz.prog) (t:=26) BZ Aw ((o1.2 pc hpc).trans gc) hcl
 have l3:=AK (P:=Tryz.prog) (t:=26) BZ Aw ((o1.2 po hpo).trans go) hol
 simp only[l1,l2,l3,Qm]
 refine LZ hE (hc.old o1) (ho.old o1) hkc hko (by omega) fun s2 v2 o2 r2=>?_
 have h2:=o2.1
 have f1:=(o2.2 s.next (by omega)).trans g1
 refine⟨⟨Au (by simp only[Qj,Qk,Qr,Qs];exact AK BZ Aw f1 rfl) (CI _ _ _ _ _ _ _),trivial⟩,?_⟩
 simp only[Qr,Qs]
 have o12:=o1.trans (o2.mono o1.1)
 refine LY hE (ha.old o12) (r2.qi (hqc.mul hqo)) hka (by omega) hk fun s3 v3 o3 r3=>?_
 obtain⟨x3,a3,n3,c3,b3,m3,d3,rfl⟩:=r3.shape
 obtain⟨st,ld⟩:=BM (cs0:=[.bool false,.slice none 0 (some 0),.slice none 0 (some 0)]) rfl (x:=x3) (a:=a3) (n:=n3) (c:=c3) (b:=b3) (m:=m3) (d:=d3) ((o3.2 (s.next+1) (by omega)).trans ((o2.2 (s.next+1) (by omega)).trans g2))
 simp only[st,ld,AM,Xy,Za,Qd,Qj,Qm,Qo,true_and,Qr,Qs,Rk,Rn,Yc]
 exact hK _ _ ((o12.trans (o3.mono o12.1)).set (by omega) _) ((r3.set (by omega) _).mono (by omega))
end
theorem Pp:Tryz.prog.follows .mixedOrders=true:=by kernel_rfl
theorem Mj:Mi Tryz.prog=true:=by kernel_rfl
theorem N3:GoodN (xS Tryz.prog):=⟨rfl,fun _ _ _ _=>rfl⟩
def j9:List AV→Option (List Nat)
 | []=>some []
 | .int .u32 (.ofNat x)::l=>AQ (Nat.blt x LB) ((j9 l).bind fun r=>some (x::r))
 | _=>none
theorem WD:∀ {cs:List AV}{l:List Nat},j9 cs=some l→cs=us l∧Bi l
 | [],l,h=>by
  injection h with h
  subst h
  exact⟨rfl,fun x hx=>by cases hx⟩
 | v::cs,l,h=>by
  unfold j9 at h
  split at h
  ·rename_i e;cases e
  ·rename_i x l' e
   injection e with e1 e2
   subst e1;subst e2
   obtain⟨h1,h2⟩:=AD h
   simp only[zV]at h2
   obtain⟨r,h3,h4⟩:=h2
   injection h4 with h4
   subst h4
   obtain⟨h5,h6⟩:=WD h3
   refine⟨by rw[h5];rfl,fun y hy=>?_⟩
   rcases List.mem_cons.1 hy with rfl | hy
   ·simpa[zx]using h1
   ·exact h6 y hy
  ·cases h
def M2(s:AE):AV→Option (List Nat)
 | .slice none n (some c)=>AQ (Nat.beq n 0 && Nat.beq c 0) (some [])
 | .slice (some (i,o)) n cap=>AQ (Nat.blt i s.next) <| (rowAt s i).bind fun r=>AQ (Nat.ble (o+n) r.n && (match cap with | some c=>Nat.ble n c | none=>Nat.beq r.sz 1)) <| (r.c.take o n).bind j9
 | _=>none
theorem j0{s:AE}{i:Nat}{r:D5}(h:s.heap.get i=some (.row r)):(frz s.next s.heap).heap.get i=some (.row { r with mode:=.ro,par:=none }):=by
 unfold frz
 simp only[Ab.get_mapO,h]
 rfl
theorem Hb       {s : AE}  {v : AV} {l : List Nat} (h : M2    s v = some l) : By  (frz s.next s.heap) v l ∧ Bi  l := by
  unfold M2 at h
  split at h
  · obtain⟨h1,h2⟩:=AD h
    simp only[Bool.and_eq_true]at h1
    injection h2 with h2
    subst h2
    have e1:=zr h1.1
    have e2:=zr h1.2
    subst e1;subst e2
    exact⟨⟨none,some 0,rfl,.inl ⟨0,rfl,zU _,fun _=>rfl⟩,AS.nil⟩,fun x hx=>by cases hx⟩
  · rename_i i o n cap
    obtain⟨h1,h2⟩:=AD h
    simp only[zV]at h2
    obtain⟨r,h3,h4⟩:=h2
    obtain⟨h5,h6⟩:=AD h4
    simp only[zV]at h6
    obtain⟨cs,h7,h8⟩:=h6
    obtain⟨rfl,hsm⟩:=WD h8
    simp only[Bool.and_eq_true]at h5
    have hle:o+n≤r.n:=by simpa[zh]using h5.1
    have hlt:i<s.next:=by simpa[zx]using h1
    have hlen:l.length=n:=by have:=Ab.take_length h7;rw[DW]at this;exact this
    have hg:=j0 (Bj h3)
    refine⟨⟨some (i,o),cap,by rw[hlen],?_,fun k u hk=>⟨i,o,rfl,hlt,?_⟩⟩,hsm⟩
    · rw[hlen]
      cases cap with
      | some c=>exact .inl ⟨c,rfl,by simpa[zh]using h5.2,fun e=>by cases e⟩
      | none=>exact .inr ⟨rfl,i,o,_,rfl,hlt,hg,zr h5.2,hle⟩
    · have hkn:k<n:=by
        rw[← hlen,← DW]
        rcases zX k (us l).length with h' | h'
        · exact h'
        · rw[zj h']at hk;cases hk
      have:=Ab.take_get h7 k hkn
      unfold DB rowAt
      rw[hg]
      simp only[Option.bind_some,AQ,show Nat.blt (o+k) r.n=true from by simp[zx];omega,cond_true]
      rw[this];exact hk
  · cases h
def M3(s:AE):AV→Option Rat
 | .agg [.bool neg,m,d]=>(M2 s m).bind fun lm=>(M2 s d).bind fun ld=>AQ (Nat.ble lm.length 1000 && Nat.ble ld.length 1000) (some (Fe neg (AG lm) (AG ld)))
 | _=>none
theorem Hc{s:AE}{v:AV}{q:Rat}(h:M3 s v=some q):QI (frz s.next s.heap) v q 1000:=by
 unfold M3 at h
 split at h
 ·rename_i neg m d
  simp only[zV]at h
  obtain⟨lm,h1,ld,h2,h3⟩:=h
  obtain⟨h4,h5⟩:=AD h3
  injection h5 with h5
  simp only[Bool.and_eq_true,zh]at h4
  obtain⟨q1,q2⟩:=Hb h1
  obtain⟨q3,q4⟩:=Hb h2
  exact⟨neg,m,d,lm,ld,rfl,q1,q3,q2,q4,h4.1,h4.2,h5⟩
 ·cases h
def Pe:Nat→Nat→List Nat
 | 0,_=>[]
 | f+1,n=>bif Nat.beq n 0 then []else n % LB::Pe f (n / LB)
theorem LT:∀ (f n:Nat),n<LB ^ f→Pe f n=AR n
 | 0,n,h=>by
  have:n=0:=by simpa using h
  rw[this,BN];rfl
 | f+1,n,h=>by
  unfold Pe
  by_cases h0:n=0
  ·subst h0;rw[BN];rfl
  ·rw[show Nat.beq n 0=false from Dp h0,cond_false,EV h0,LT f (n / LB) (by rw[A0a BY];rwa[zy]at h)]
def Xj(s:AE)(q:Rat):Option (AV×AE):=
 AQ (Nat.blt q.num.natAbs (LB ^ 8) && Nat.blt q.den (LB ^ 8)) (some (.agg [.bool (NV q.num 0),(In s (Pe 8 q.num.natAbs)).1,(In (In s (Pe 8 q.num.natAbs)).2 (Pe 8 q.den)).1],(In (In s (Pe 8 q.num.natAbs)).2 (Pe 8 q.den)).2))
theorem NR.slotV{b:Nat}{s:AE}{v:AV}{l:List Nat}(h:NR b s v l)(h0:l=[]→v=.slice none 0 (some 0)):Lh b s v l:=by
 by_cases hl:l=[]
 ·exact .inl ⟨hl,h0 hl⟩
 ·refine .inr ⟨hl,?_⟩
  have h1:=h
  obtain⟨O,_,_,q3,q4⟩:=h
  obtain⟨i,rfl,hi,r,hg,hh,hm,hsz,_⟩:=q4 hl
  obtain⟨r',hg',hel⟩:=h1.u32 hl (j:=i) rfl
  rw[hg]at hg'
  injection hg' with hg'
  injection hg' with hg'
  subst hg'
  exact⟨i,rfl,q3 i rfl,r,hg,hh,hm,hsz,hel⟩
theorem Lh.obj{b:Nat}{s:AE}{v:AV}{l:List Nat}(h:Lh b s v l){i:Nat}(hi:B6 v=some i):∃o,s.heap.get i=some o∧wr o=true∧b≤i:=by
 rcases h with⟨_,rfl⟩ | ⟨_,j,rfl,hb,r,hg,_,hm,_⟩
 ·cases hi
 ·injection hi with hi
  subst hi
  exact⟨_,hg,hm,hb⟩
section
variable{ρ:BU}{s:AE}{w:World}
theorem V4{f:FuncId}{xs:List AV}{xs':Array Value}(h:Bd Tryz.prog ρ s w)(hf:BE ρ s)(hxs:AW ρ xs xs'.toList){K:AV→AE→Prop}(hw:WF (xS Tryz.prog) f xs K (frz s.next s.heap)){Q:Ending→World→Prop}
  (hQ:∀v0 s0 ρ' v' w',K v0 s0→Ae ρ' v0 v'→Bd Tryz.prog ρ' s0 w'→Bd Tryz.prog ρ s w'→Fr ρ s w ρ s w'→(∀i o rb,s0.heap.get i=some o→wr o=true→ρ' i=some rb→w.heap.size≤rb.b)→Q (.returned v') w'):
  (∃fn c,Tryz.prog.funcs[f]? = some fn∧fn.body=some c)∧CallsIn Fence.wide 0 Tryz.prog f xs' w Q:=by
 obtain⟨n,p,hrun,hK⟩:=hw
 have hcall:=(yC Pp (Ii Mj) rfl (gJ Tryz.prog) n).call ρ (frz s.next s.heap) w f xs p.1 p.2 xs' hrun (h.frz _) hf.frz hxs
 refine⟨hcall.1,CallsIn.mono hcall.2 ?_⟩
 intro e w' he
 cases e with
 | panicked c=>exact he.elim
 | outgrown=>exact he.elim
 | returned v' =>
  obtain⟨ρ',k1,k2,k3⟩:=he
  obtain⟨g1,g2⟩:=h.grown (w1:=w') ⟨k3.os,k3.tape,k3.output,k3.size,fun b hb _=>k3.keep b hb (J9 Tryz.prog _ _ b)⟩
  refine hQ p.1 p.2 ρ' v' w' hK k1 k2 g1 g2 fun i o rb hi hwr hr=>?_
  rcases k3.own rb.b ⟨i,o,rb,hi,hwr,hr,rfl⟩with h' | h'
  ·exact absurd h' (J9 Tryz.prog _ _ _)
  ·exact h'
theorem JU{f:FuncId}{xs:List AV}{xs':Array Value}(h:Bd Tryz.prog ρ s w)(hf:BE ρ s)(hxs:AW ρ xs xs'.toList){q:Rat}(hw:WF (xS Tryz.prog) f xs (fun v s'=>QR s.next s' v q) (frz s.next s.heap)){v:AV}{s1:AE}(hp:Xj s q=some (v,s1)):
    (∃fn c,Tryz.prog.funcs[f]? = some fn∧fn.body=some c)∧CallsIn Fence.wide 0 Tryz.prog f xs' w (Fn Tryz.prog ρ s w v s1):=by
  refine V4 h hf hxs hw fun v0 s0 ρ' v' w' hK hv hi hs hfr hge=>?_
  obtain⟨g1,g2⟩:=AD hp
  simp only[Bool.and_eq_true,zx]at g1
  rw[LT 8 _ g1.1,LT 8 _ g1.2]at g2
  injection g2 with g2
  injection g2 with e1 e2
  obtain⟨m,d,rfl,hm,hd,hdj,hz⟩:=hK
  have sm:Lh s.next s0 m (AR q.num.natAbs):=hm.slotV fun e=>hz (by
    rcases A0R q.num.natAbs with h' | h'
    · omega
    · exact absurd e (Cz (by omega)))
  have sd:Lh s.next s0 d (AR q.den):=hd.slotV fun e=>absurd e (Cz q.den_nz)
  cases hv with
  | agg hv =>
  rename_i cs'
  obtain⟨lc⟩:=cs'
  cases hv with
  | cons hb hv =>
  cases hv with
  | cons hvm hv =>
  cases hv with
  | cons hvd hv =>
  cases hv
  obtain⟨ρ1,a1,a2,a3,a4,a5,a6⟩:=My (w0:=w) sm hi hvm (fun i o rb _ hio hwo hr=>hge i o rb hio hwo hr) hs (hf.step hfr) hfr (fun i rb hsl hr j oj rj hj hrj=>by
    obtain⟨o,hg,hwo,_⟩:=sm.obj hsl
    have h1:=hge i o rb hg hwo hr
    have h2:=h.lt j rj hrj
    omega)
  obtain⟨ρ2,b1,b2,b3,b4,b5,_⟩:=My (w0:=w) sd hi hvd (fun i o rb _ hio hwo hr=>hge i o rb hio hwo hr) a1 a2 a3 (fun i rb hsl hr j oj rj hj hrj=>by
    obtain⟨o,hg,hwo,_⟩:=sd.obj hsl
    rcases a6 j oj rj hj hrj with⟨o1,_,h2⟩ | ⟨i2,rb2,hs2,hr2,e⟩
    · have h1 := hge i o rb hg hwo hr
      have h3:=h.lt j rj h2
      omega
    · obtain⟨o2,hg2,hwo2,_⟩:=sm.obj hs2
      intro hbb
      have hne:i≠i2:=fun e=>by subst e;exact hdj i hs2 hsl
      have:=(hi.sep i i2 o o2 rb rb2 hne hg hg2 hr hr2 (by rw[← hbb,e]) hwo2).2
      rw[hwo]at this
      cases this)
  subst e1;subst e2
  refine⟨ρ2,.agg (.cons ?_ (.cons (a5.mono b4) (.cons b5 .nil))),b1,b3⟩
  rw[DF]
  exact FI rfl hb
end
def sG(s:AE):List AV→Option (AV×AE)
 | [x,y]=>(M3 s x).bind fun a=>(M3 s y).bind fun b=>Xj s (a+b)
 | _=>none
def sH(s:AE):List AV→Option (AV×AE)
 | [x,y]=>(M3 s x).bind fun a=>(M3 s y).bind fun b=>Xj s (a * b)
 | _=>none
def gE(s:AE):List AV→Option (AV×AE)
 | [x]=>(M3 s x).bind fun a=>Xj s a
 | _=>none
def sI(s:AE):List AV→Option (AV×AE)
 | [.agg [.bool neg,m],d]=>(M2 s m).bind fun lm=>(M2 s d).bind fun ld=>AQ (Nat.ble lm.length 1000 && Nat.ble ld.length 1000 && Nat.blt 0 (AG ld)) (Xj s (mkRat (Bw neg (AG lm)) (AG ld)))
 | _=>none
def gD(s:AE):List AV→Option (AV×AE)
 | [.int .i64 n]=>bif NX n 0 || (NX n 1 || NX n (-1))then Xj s (n:Rat)else none
 | _=>none
def gF(s:AE):List AV→Option (AV×AE)
 | [v]=>(M2 s v).bind fun l=>AQ (Nat.ble l.length 1000 && Nat.blt 0 (AG l) && Nat.blt (AG l) (LB ^ 8)) (some (In s (Pe 8 (AG l))))
 | _=>none
def ue:QJ:=fun f xs s =>
 bif Nat.beq f 27 then sG s xs else bif Nat.beq f 29 then sH s xs else bif Nat.beq f 69 then gE s xs else
 bif Nat.beq f 70 then sI s xs else bif Nat.beq f 52 then gD s xs else bif Nat.beq f 92 then gF s xs else none
section
variable{ρ:BU}{s:AE}{w:World}
theorem kI{f:FuncId}{xs:List AV}{xs':Array Value}(h:Bd Tryz.prog ρ s w)(hf:BE ρ s)(hxs:AW ρ xs xs'.toList){l:List Nat}(hl:l≠[])(hw:WF (xS Tryz.prog) f xs (fun v s'=>NR s.next s' v l) (frz s.next s.heap)):
  (∃fn c,Tryz.prog.funcs[f]? = some fn∧fn.body=some c)∧CallsIn Fence.wide 0 Tryz.prog f xs' w (Fn Tryz.prog ρ s w (In s l).1 (In s l).2):=by
 refine V4 h hf hxs hw fun v0 s0 ρ' v' w' hK hv hi hs hfr hge=>?_
 have sm:Lh s.next s0 v0 l:=hK.slotV fun e=>absurd e hl
 obtain⟨ρ1,a1,a2,a3,a4,a5,a6⟩:=My (w0:=w) sm hi hv (fun i o rb _ hio hwo hr=>hge i o rb hio hwo hr) hs (hf.step hfr) hfr (fun i rb hsl hr j oj rj hj hrj=>by
  obtain⟨o,hg,hwo,_⟩:=sm.obj hsl
  have h1:=hge i o rb hg hwo hr
  have h2:=h.lt j rj hrj
  omega)
 exact⟨ρ1,a5,a1,a3⟩
theorem kB      : Es     Tryz.prog ue   := by
  intro ρ s w f xs v s1 xs' hc h hf ha
  unfold ue at hc
  have nx:(frz s.next s.heap).next=s.next:=rfl
  cases h1:Nat.beq f 27 with
  | true =>
    rw[h1]at hc
    have:=zr h1
    subst this
    rw[cond_true]at hc
    unfold sG at hc
    split at hc
    · simp only[zV]at hc
      obtain⟨a,ha',b,hb',hp⟩:=hc
      exact JU h hf ha (LY N3 (Hc ha') (Hc hb') (by decide) (by decide) (by decide) fun s' v _ hv=>hv) hp
    · cases hc
  | false =>
  rw[h1,cond_false]at hc
  cases h2:Nat.beq f 29 with
  | true =>
    rw[h2]at hc
    have:=zr h2
    subst this
    rw[cond_true]at hc
    unfold sH at hc
    split at hc
    · simp only[zV]at hc
      obtain⟨a,ha',b,hb',hp⟩:=hc
      exact JU h hf ha (LZ N3 (Hc ha') (Hc hb') (by decide) (by decide) (by decide) fun s' v _ hv=>hv) hp
    · cases hc
  | false =>
  rw[h2,cond_false]at hc
  cases h3:Nat.beq f 69 with
  | true =>
    rw[h3]at hc
    have:=zr h3
    subst this
    rw[cond_true]at hc
    unfold gE at hc
    split at hc
    · simp only[zV]at hc
      obtain⟨a,ha',hp⟩:=hc
      exact JU h hf ha (Ha N3 (Hc ha') (by decide) fun s' v _ hv=>hv) hp
    · cases hc
  | false =>
  rw[h3,cond_false]at hc
  cases h4:Nat.beq f 70 with
  | true =>
    rw[h4]at hc
    have:=zr h4
    subst this
    rw[cond_true]at hc
    unfold sI at hc
    split at hc
    · simp only[zV]at hc
      obtain⟨lm,hm,ld,hd,hp⟩:=hc
      obtain⟨hg,hp⟩:=AD hp
      simp only[Bool.and_eq_true,zh,zx]at hg
      obtain⟨⟨g1,g2⟩,g3⟩:=hg
      obtain⟨m1,m2⟩:=Hb hm
      obtain⟨d1,d2⟩:=Hb hd
      exact JU h hf ha (Fa N3 (kn:=1000) ⟨_,_,lm,rfl,m1,m2,g1,rfl⟩ d1 (by decide) (by omega) d2 (by omega) fun s' v _ hv=>hv) hp
    · cases hc
  | false =>
  rw[h4,cond_false]at hc
  cases h5:Nat.beq f 52 with
  | true =>
    rw[h5]at hc
    have:=zr h5
    subst this
    rw[cond_true]at hc
    unfold gD at hc
    split at hc
    · rename_i n
      cases hn:NX n 0 || (NX n 1 || NX n (-1))with
      | false=>rw[hn]at hc;cases hc
      | true =>
        rw[hn,cond_true]at hc
        simp only[Bool.or_eq_true,Ev,beq_iff_eq]at hn
        exact JU h hf ha (Mz N3 hn fun s' v _ hv=>hv) hc
    · cases hc
  | false =>
  rw[h5,cond_false]at hc
  cases h6:Nat.beq f 92 with
  | true =>
    rw[h6]at hc
    have:=zr h6
    subst this
    rw[cond_true]at hc
    unfold gF at hc
    split at hc
    · simp only[zV]at hc
      obtain⟨l,hl,hp⟩:=hc
      obtain⟨hg,hp⟩:=AD hp
      simp only[Bool.and_eq_true,zh,zx]at hg
      obtain⟨⟨g1,g2⟩,g3⟩:=hg
      obtain⟨l1,l2⟩:=Hb hl
      rw[LT 8 _ g3]at hp
      injection hp with hp
      have e1:(In s (AR (AG l))).1=v:=by rw[hp]
      have e2:(In s (AR (AG l))).2=s1:=by rw[hp]
      rw[← e1,← e2]
      refine kI h hf ha (Cz (by omega)) (C8 N3 l1 (by omega) fun s' v' _ hv=>?_)
      rw[B8 l2]at hv
      exact hv
    · cases hc
  | false =>
    rw[h6]at hc
    cases hc
end
end
end Go.Proofs.YtjnkfbpadpmakaaGreatDoor.Am
set_option linter.unusedVariables false
set_option linter.unusedSimpArgs false
namespace Go.Proofs.YtjnkfbpadpmakaaGreatDoor.Am
open Go Go.Proofs Go.RowKit
noncomputable section
theorem gx(m:Nat):AnyZI.SortsIn Tryz.prog HR Fence.wide m:=
  ⟨fun blk off cap ss W hH hblk hsz=>callsIn_wide.2 (AnyM.slices_Sort_int R7 blk off cap ss W hH hblk hsz),
   fun p cap W=>callsIn_wide.2 (AnyM.slices_Sort_int_none R7 p cap W)⟩
theorem kY:U3 Tryz.prog 78 121 3 3:=by
  refine⟨fun Bm b nn D0 w hBm hm hown hsz=>?_,fun Bm w hBm hm=>?_⟩
  · have hseq := AnyZI.keys_gives (ρ := Gj)           { R6       with } Fence.wide 2 trivial rfl (by omega) Bm b nn D0 w hBm hm hown
    have cS:=AnyZI.sorted_in MT Fence.wide 5 trivial trivial trivial trivial rfl (by omega) (gx _) (enters_of Tryz.func120 (by kernel_rfl) rfl) 121 #[.pointer (some ⟨Bm,0,none⟩)] trivial (enters_of Tryz.func121 (by kernel_rfl) rfl) _ _ (zY hsz (by unfold maxLen;omega)) (by omega) _ hseq
    exact callsIn_wide.1 cS
  · have hseq := AnyZI.keys_gives_nil (ρ := Gj)           { R6       with } Fence.wide 2 trivial rfl Bm w hBm hm
    have cS:=AnyZI.sorted_in MT Fence.wide 5 trivial trivial trivial trivial rfl (by omega) (gx _) (enters_of Tryz.func120 (by kernel_rfl) rfl) 121 #[.pointer (some ⟨Bm,0,none⟩)] trivial (enters_of Tryz.func121 (by kernel_rfl) rfl) _ 0 (ze _) (by omega) _ hseq
    refine(callsIn_wide.1 cS).mono ?_
    rintro e w' ⟨v,ss,rfl,hS,_,hnil,hb⟩
    rw[hnil.2 hS]
    exact⟨rfl,hb⟩
def UW:QJ:=fun f xs s=>bif Nat.beq f 78 then GP 121 3 3 s xs else none
theorem WK:Es Tryz.prog UW:=by
 intro ρ s w f xs v s1 xs' hc hi hf ha
 unfold UW at hc
 cases h2:Nat.beq f 78 with
 | true =>
  rw[h2]at hc
  have:=zr h2
  subst this
  exact⟨⟨_,_,Tryz.func78,rfl⟩,Sp (by kernel_rfl) Tryz.underlying3 kY hi hf hc ha⟩
 | false=>rw[h2]at hc;cases hc
def uf:QJ:=fun f xs s=>match UW f xs s with
 | some p=>some p
 | none=>ue f xs s
theorem kC:Es Tryz.prog uf:=by
 intro ρ s w f xs v s1 xs' hc hi hf ha
 unfold uf at hc
 cases h:UW f xs s with
 | some p=>rw[h]at hc;injection hc with hc;subst hc;exact WK ρ s w f xs v s1 xs' h hi hf ha
 | none=>rw[h]at hc;exact kB ρ s w f xs v s1 xs' hc hi hf ha
def xu:CR:=⟨Tryz.prog,uf⟩
end
end Go.Proofs.YtjnkfbpadpmakaaGreatDoor.Am
set_option linter.unusedVariables false
set_option linter.unusedSimpArgs false
namespace Go.Proofs.YtjnkfbpadpmakaaGreatDoor.Am
open Go
noncomputable section
def LW(fs:List FuncId)(T:List Row):QJ:=fun f xs s=>bif fs.any (Nat.beq f)then (V1 T f xs).bind fun r=>some (r,s)else none
theorem UX         {P : Program} (hm : P.follows .mixedOrders = true) (hng : E2      P) {E : CR}  (hE : E.P = P) (hnat : Es     P E.nat) {n : Nat} {fs : List FuncId} {T : List Row}
    (hT:∀r∈T,J8 r.args=true∧Ny r.res=true∧sT r.res ((Ea E n).call r.f r.args ⟨0,.leaf⟩)=true):Es P (LW fs T):=by
  intro ρ s w f xs v s1 as' hc h hf ha
  unfold LW at hc
  cases hfs:fs.any (Nat.beq f)with
  | false=>rw[hfs]at hc;cases hc
  | true =>
    rw[hfs]at hc
    simp only[cond_true,zV]at hc
    obtain⟨u,hu,hc⟩:=hc
    injection hc with hc
    injection hc with e1 e2
    subst e1;subst e2
    obtain⟨r,hr,rfl,rfl,rfl⟩:=ML hu
    obtain⟨p1,p2,p3⟩:=hT r hr
    cases hrun:(Ea E n).call r.f r.args ⟨0,.leaf⟩with
    | none=>rw[hrun]at p3;cases p3
    | some p =>
      obtain⟨v0,s2⟩:=p
      rw[hrun]at p3
      have hv0:r.res=v0:=ME (show Fs r.res v0=true from p3)
      subst hv0
      let ρ0:BU:=fun _=>none
      have hinv:Bd P ρ0 ⟨0,.leaf⟩ w:=
        ⟨fun i o x hi hx=>(by cases hx),fun i x hx=>(by cases hx),fun i j oi oj ri rj hne hi hj hri hrj=>(by cases hri),fun i o g' hi _=>(by cases (show(Ab.leaf:Ab BF).get i=some o from hi))⟩
      have hfr:BE ρ0 ⟨0,.leaf⟩:=fun i hi=>⟨rfl,rfl⟩
      have hcall:=(yC hm hng hE hnat n).call ρ0 ⟨0,.leaf⟩ w r.f r.args r.res s2 as' hrun hinv hfr (Id p1 ha)
      refine⟨hcall.1,CallsIn.mono hcall.2 ?_⟩
      intro e w' he
      cases e with
      | panicked c=>exact he.elim
      | outgrown=>exact he.elim
      | returned v' =>
        obtain⟨ρ',k1,k2,k3⟩:=he
        have hno:∀b,¬ Gx ρ0 (⟨0,.leaf⟩:AE) b:=by
          rintro b ⟨i,o,x,hi,hw,hx,_⟩
          cases hx
        obtain⟨g1,g2⟩:=h.grown (w1:=w') ⟨k3.os,k3.tape,k3.output,k3.size,fun b hb' _=>k3.keep b hb' (hno b)⟩
        exact⟨ρ,FI p2 k1,g1,g2⟩
end
end Go.Proofs.YtjnkfbpadpmakaaGreatDoor.Am
