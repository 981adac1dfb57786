/- Compiled code of package lin, printed by a program of ours (dev/Print2.lean) and checked by the kernel; conditions: none. -/
import Derived.Test.YtjnkfbpadpmakaaGreatDoorAmM07
import Derived.Test.YtjnkfbpadpmakaaGreatDoorAmM06
import Derived.Lib.SlKeysI
import Derived.Test.YtjnkfbpadpmakaaGreatDoorAmM04
import Derived.Test.YtjnkfbpadpmakaaGreatDoorChecked
set_option linter.unusedVariables false
set_option linter.unusedSimpArgs false
set_option maxRecDepth 100000
namespace Go.Proofs.YtjnkfbpadpmakaaGreatDoor.Am
open Go Go.Proofs
noncomputable section
theorem Fk:BG Tryz.prog 30=some 5:=by kernel_rfl
theorem GJ:EF Tryz.prog 30=some true:=by kernel_rfl
theorem IP(i o:Nat):AB Tryz.prog 30 (.ptr (some (i,o))) 0=some (.ptr (some (i,o+0))):=by kernel_rfl
theorem Cz(i o:Nat):AB Tryz.prog 30 (.ptr (some (i,o))) 1=some (.ptr (some (i,o+3))):=by kernel_rfl
theorem C0(i o:Nat):AB Tryz.prog 30 (.ptr (some (i,o))) 2=some (.ptr (some (i,o+4))):=by kernel_rfl
theorem Kt:BG Tryz.prog 56=some 4:=by kernel_rfl
theorem QE:EF Tryz.prog 56=some true:=by kernel_rfl
theorem PI(i o:Nat):AB Tryz.prog 56 (.ptr (some (i,o))) 0=some (.ptr (some (i,o+0))):=by kernel_rfl
theorem PJ(i o:Nat):AB Tryz.prog 56 (.ptr (some (i,o))) 1=some (.ptr (some (i,o+3))):=by kernel_rfl
theorem YJ:EF Tryz.prog 54=some false:=by kernel_rfl
theorem vM:BG Tryz.prog 27=some 1:=by kernel_rfl
theorem Fc:EF Tryz.prog 27=some false:=by kernel_rfl
def nl:List AA:=[
 ⟨none,.mk (fun l=>match l with | []=>Ag Tryz.prog 56 | _=>none),[],(.set 0),[]⟩]
def np:List AA:=[
 ⟨none,.call 72,[],.push,[]⟩,
 ⟨none,.mk (fun l=>match l with | []=>(J0 Tryz.prog 54).bind fun kt=>some (.map kt [],.map) | _=>none),[],.push,[]⟩,
 ⟨none,.p (fun l=>BT Tryz.prog 56 (zipIdx [0,1] l)),[.loc 1,.loc 0],.push,[]⟩,
 ⟨none,.e (fun s=>Xy (fun a x=>Za (AS Tryz.prog s 56 a x))),[.var 0,.loc 0],.push,[]⟩]
def xB:Ah:=⟨0,1,(.seq (.ops nl) (.seq (.ops np) .ret)),[((.var 0),some 56)]⟩
def oW:List AA:=[
 ⟨none,.mk (fun l=>match l with | []=>Ag Tryz.prog 26 | _=>none),[],(.set 0),[]⟩]
def oX:List AA:=[
 ⟨none,.call 52,[(.const (.int .i64 (0)))],.push,[]⟩,
 ⟨none,.e (fun s=>Xy (fun a x=>Za (AS Tryz.prog s 26 a x))),[.var 0,.loc 0],.push,[]⟩]
def xI:Ah:=⟨0,1,(.seq (.ops oW) (.seq (.ops oX) .ret)),[((.var 0),some 26)]⟩
def nr:List AA:=[
 ⟨none,.mk (fun l=>match l with | [v]=>Bf 56 v | _=>none),[.var 0],(.set 3),[]⟩]
def nz:List AA:=[
 ⟨none,.p1 (fun x=>AB Tryz.prog 56 x 1),[.var 3],.push,[]⟩,
 ⟨none,.r1 (fun s a=>AC Tryz.prog s 54 a),[.loc 0],.push,[]⟩,
 ⟨none,.r (fun s=>Xy (fun m k=>Do Tryz.prog s 54 m k true)),[.loc 0,.var 1],.push,[]⟩,
 ⟨none,.p1 (fun x=>Zb x 0),[.loc 0],.push,[]⟩,
 ⟨none,.p1 (fun x=>Zb x 1),[.loc 1],.push,[]⟩,
 ⟨none,.mk (fun l=>match l with | []=>Ag Tryz.prog 26 | _=>none),[],(.set 4),[]⟩,
 ⟨none,.e (fun s=>Xy (fun a x=>Za (AS Tryz.prog s 26 a x))),[.var 4,.loc 1],.push,[]⟩,
 ⟨none,.p1 some,[.loc 1],(.set 5),[]⟩]
def dh:List AA:=[
 ⟨none,.p1 (WT Tryz.prog Go.UnOp.not),[.var 5],(.set 6),[]⟩]
def oA:List AA:=[
 ⟨none,.call 72,[],.push,[]⟩,
 ⟨none,.e (fun s=>Xy (fun a x=>Za (AS Tryz.prog s 26 a x))),[.var 4,.loc 0],.push,[]⟩]
def di:List AA:=[
 ⟨none,.p1 (fun x=>AB Tryz.prog 56 x 1),[.var 3],.push,[]⟩,
 ⟨none,.r1 (fun s a=>AC Tryz.prog s 54 a),[.loc 0],.push,[]⟩,
 ⟨none,.r1 (fun s a=>AC Tryz.prog s 26 a),[.var 4],.push,[]⟩,
 ⟨none,.callv,[.var 2,.loc 0],.push,[⟨none,.r1 (fun s a=>AC Tryz.prog s 54 a),[.loc 3],(.loc 2)⟩]⟩,
 ⟨none,.e (fun s=>Xz (fun m k x=>Za (Hu Tryz.prog s 54 m k x))),[.loc 2,.var 1,.loc 0],.push,[]⟩]
def xC:Ah:=⟨3,7,(.seq (.ops nr) (.seq (.ops nz) (.seq (.seq (.ops dh) (.cond (.var 6)
 (.ops oA)
 .skip)) (.ops di)))),[]⟩
def l7:List AA:=[
 ⟨none,.mk (fun l=>match l with | [v]=>Bf 30 v | _=>none),[.var 1],(.set 3),[]⟩,
 ⟨none,.mk (fun l=>match l with | [v]=>Bf 26 v | _=>none),[.var 2],(.set 4),[]⟩]
def mA:List AA:=[
 ⟨none,.p1 EP,[.var 0],.push,[]⟩,
 ⟨none,.p1 (fun x=>AB Tryz.prog 56 x 0),[.loc 0],.push,[]⟩,
 ⟨none,.r1 (fun s a=>AC Tryz.prog s 26 a),[.loc 0],.push,[]⟩,
 ⟨none,.p1 (fun x=>AB Tryz.prog 30 x 0),[.var 3],.push,[]⟩,
 ⟨none,.r1 (fun s a=>AC Tryz.prog s 26 a),[.loc 0],.push,[]⟩,
 ⟨none,.r1 (fun s a=>AC Tryz.prog s 26 a),[.var 4],.push,[]⟩,
 ⟨none,.call 29,[.loc 1,.loc 0],.push,[⟨none,.r1 (fun s a=>AC Tryz.prog s 26 a),[.loc 5],(.loc 4)⟩]⟩,
 ⟨none,.call 27,[.loc 4,.loc 0],.push,[]⟩,
 ⟨none,.p1 EP,[.var 0],.push,[]⟩,
 ⟨none,.p1 (fun x=>AB Tryz.prog 56 x 0),[.loc 0],.push,[]⟩,
 ⟨none,.e (fun s=>Xy (fun a x=>Za (AS Tryz.prog s 26 a x))),[.loc 0,.loc 2],.push,[]⟩]
def mB:List AA:=[
 ⟨none,.p1 (fun x=>AB Tryz.prog 30 x 2),[.var 3],.push,[]⟩,
 ⟨none,.r1 (fun s a=>AC Tryz.prog s 28 a),[.loc 0],.push,[]⟩,
 ⟨none,.p1 (fun x=>AB Tryz.prog 30 x 2),[.var 3],.push,[]⟩,
 ⟨none,.r1 (fun s a=>AC Tryz.prog s 28 a),[.loc 0],.push,[]⟩,
 ⟨none,.r (fun s l=>match l with | [x]=>A6 Tryz.prog s 28 x | _=>none),[.loc 0],.push,[]⟩,
 ⟨none,.p1 (fun x=>AB Tryz.prog 30 x 1),[.var 3],.push,[]⟩,
 ⟨none,.r1 (fun s a=>AC Tryz.prog s 27 a),[.loc 0],.push,[]⟩,
 ⟨none,.r (fun s l=>match l with | [x]=>A6 Tryz.prog s 27 x | _=>none),[.loc 0],.push,[]⟩,
 ⟨none,.p (fun l=>match l with | v::l=>Ct false v l | []=>none),[.loc 3,.loc 0],.push,[]⟩,
 ⟨none,.r (At Tryz.prog 28 false true false),[.loc 7,.loc 0],(.set 7),[]⟩,
 ⟨none,.r (fun s l=>match l with | [x]=>A6 Tryz.prog s 28 x | _=>none),[.var 7],(.set 8),[]⟩,
 ⟨none,.p1 some,[(.const (.int .i64 (0)))],(.set 9),[]⟩]
def cT:List AA:=[
 ⟨none,.p2 (AL Tryz.prog .lss 3),[.var 9,.var 8],(.set 10),[]⟩]
def mC:List AA:=[
 ⟨none,.p2 (AM Tryz.prog 28),[.var 7,.var 9],.push,[]⟩,
 ⟨none,.r1 (fun s a=>AC Tryz.prog s 26 a),[.loc 0],.push,[]⟩,
 ⟨none,.mk (fun l=>match l with | []=>Ag Tryz.prog 26 | _=>none),[],(.set 6),[]⟩,
 ⟨none,.p1 some,[.var 9],(.set 5),[]⟩,
 ⟨none,.e (fun s=>Xy (fun a x=>Za (AS Tryz.prog s 26 a x))),[.var 6,.loc 0],.push,[]⟩]
def mD:List AA:=[
 ⟨none,.p1 EP,[.var 0],.push,[]⟩,
 ⟨none,.r1 (fun s a=>AC Tryz.prog s 56 a),[.loc 0],.push,[]⟩,
 ⟨none,.p1 (fun x=>AB Tryz.prog 30 x 1),[.var 3],.push,[]⟩,
 ⟨none,.r1 (fun s a=>AC Tryz.prog s 27 a),[.loc 0],.push,[]⟩,
 ⟨none,.p2 (AM Tryz.prog 27),[.loc 0,.var 5],.push,[]⟩,
 ⟨none,.r1 (fun s a=>AC Tryz.prog s 3 a),[.loc 0],.push,[]⟩,
 ⟨none,.p (fun l=>some (.func 73 (l.take 0) (l.drop 0))),[.var 6,.var 4],.push,[]⟩,
 ⟨none,.call 62,[.loc 5,.loc 1,.loc 0],.push,[]⟩]
def mE:List AA:=[
 ⟨none,.p2 (AL Tryz.prog .add 3),[(.var 9),(.const (.int .i64 (1)))],.push,[]⟩,
 ⟨none,.p1 some,[.loc 0],(.set 9),[]⟩]
def Q1:Aa:=(.seq (.ops cT) (.seq (.cond (.var 10)
 .skip
 (.exit 0)) (.seq (.block 1 (.seq (.ops mC) (.ops mD))) (.ops mE))))
def wZ:Ah:=⟨3,11,(.seq (.ops l7) (.seq (.ops mA) (.seq (.ops mB) (.block 0 (.loop Q1))))),[]⟩
def oY:List AA:=[
 ⟨none,.mk (fun l=>match l with | [v]=>Bf 26 v | _=>none),[.var 0],(.set 3),[]⟩,
 ⟨none,.mk (fun l=>match l with | []=>Ag Tryz.prog 26 | _=>none),[],(.set 4),[]⟩]
def oZ:List AA:=[
 ⟨none,.r1 (fun s a=>AC Tryz.prog s 26 a),[.var 3],.push,[]⟩,
 ⟨none,.r1 (fun s a=>AC Tryz.prog s 26 a),[.var 1],.push,[]⟩,
 ⟨none,.r1 (fun s a=>AC Tryz.prog s 26 a),[.var 2],.push,[]⟩,
 ⟨none,.call 29,[.loc 1,.loc 0],.push,[⟨none,.r1 (fun s a=>AC Tryz.prog s 26 a),[.var 3],(.loc 3)⟩]⟩,
 ⟨none,.call 27,[.loc 3,.loc 0],.push,[]⟩,
 ⟨none,.e (fun s=>Xy (fun a x=>Za (AS Tryz.prog s 26 a x))),[.var 4,.loc 0],.push,[]⟩]
def xJ:Ah:=⟨3,5,(.seq (.ops oY) (.seq (.ops oZ) .ret)),[((.var 4),some 26)]⟩
def lV:List AA:=[
 ⟨none,.mk (fun l=>match l with | [v]=>Bf 30 v | _=>none),[.var 0],(.set 1),[]⟩,
 ⟨none,.mk (fun l=>match l with | []=>Ag Tryz.prog 56 | _=>none),[],(.set 2),[]⟩]
def lW:List AA:=[
 ⟨none,.call 61,[],.push,[]⟩,
 ⟨none,.mk (fun l=>match l with | []=>Ag Tryz.prog 56 | _=>none),[],(.set 3),[]⟩,
 ⟨none,.e (fun s=>Xy (fun a x=>Za (AS Tryz.prog s 56 a x))),[.var 3,.loc 0],.push,[]⟩]
def lX:List AA:=[
 ⟨none,.r1 (fun s a=>AC Tryz.prog s 30 a),[.var 1],.push,[]⟩,
 ⟨none,.call 52,[(.const (.int .i64 (1)))],.push,[⟨none,.r1 (fun s a=>AC Tryz.prog s 30 a),[.var 1],(.loc 1)⟩]⟩,
 ⟨none,.call 34,[.var 3,.loc 1,.loc 0],.push,[]⟩]
def lY:List AA:=[
 ⟨none,.r1 (fun s a=>AC Tryz.prog s 56 a),[.var 3],.push,[]⟩,
 ⟨none,.e (fun s=>Xy (fun a x=>Za (AS Tryz.prog s 56 a x))),[.var 2,.loc 0],.push,[]⟩]
def wX:Ah:=⟨1,4,(.seq (.ops lV) (.seq (.ops lW) (.seq (.ops lX) (.seq (.ops lY) .ret)))),[((.var 2),some 56)]⟩
def lZ:List AA:=[
 ⟨none,.mk (fun l=>match l with | [v]=>Bf 56 v | _=>none),[.var 0],(.set 1),[]⟩,
 ⟨none,.mk (fun l=>match l with | []=>Ag Tryz.prog 30 | _=>none),[],(.set 2),[]⟩]
def lh:List AA:=[
 ⟨none,.p1 (fun x=>AB Tryz.prog 56 x 0),[.var 1],.push,[]⟩,
 ⟨none,.r1 (fun s a=>AC Tryz.prog s 26 a),[.loc 0],.push,[]⟩,
 ⟨none,.p1 (fun x=>AB Tryz.prog 30 x 0),[.var 2],.push,[]⟩,
 ⟨none,.e (fun s=>Xy (fun a x=>Za (AS Tryz.prog s 26 a x))),[.loc 0,.loc 1],.push,[]⟩]
def lj:List AA:=[
 ⟨none,.r1 (fun s a=>AC Tryz.prog s 56 a),[.var 1],.push,[]⟩,
 ⟨none,.call 41,[.loc 0],(.set 5),[]⟩]
def ln:List AA:=[
 ⟨none,.p1 some,[.var 6],(.set 3),[]⟩]
def ls:List AA:=[
 ⟨none,.mk (fun l=>match l with | []=>Ag Tryz.prog 26 | _=>none),[],(.set 4),[]⟩,
 ⟨none,.e (fun s=>Xy (fun a x=>Za (AS Tryz.prog s 26 a x))),[.var 4,.var 7],.push,[]⟩]
def lw:List AA:=[
 ⟨none,.p1 (fun x=>AB Tryz.prog 30 x 1),[.var 2],.push,[]⟩,
 ⟨none,.r1 (fun s a=>AC Tryz.prog s 27 a),[.loc 0],.push,[]⟩,
 ⟨none,.mk (fun l=>(Ad Tryz.prog 27 1 (zipIdx [0] l)).bind fun r=>some (r,.slice 1)),[.var 3],.push,[]⟩,
 ⟨none,.p1 (fun x=>AB Tryz.prog 30 x 2),[.var 2],.push,[]⟩,
 ⟨none,.r1 (fun s a=>AC Tryz.prog s 28 a),[.loc 0],.push,[]⟩,
 ⟨none,.r1 (fun s a=>AC Tryz.prog s 26 a),[.var 4],.push,[]⟩,
 ⟨none,.mk (fun l=>(Ad Tryz.prog 28 1 (zipIdx [0] l)).bind fun r=>some (r,.slice 1)),[.loc 0],.push,[]⟩,
 ⟨none,.e (fun s l=>Ar Tryz.prog s [27,27] l),[.loc 5,.loc 4],.push,[⟨none,.r1 (fun s a=>AC Tryz.prog s 26 a),[.var 4],(.loc 2)⟩,⟨none,.r1 (fun s a=>AC Tryz.prog s 28 a),[.loc 4],(.loc 3)⟩]⟩,
 ⟨none,.p1 (fun x=>AB Tryz.prog 30 x 1),[.var 2],.push,[]⟩,
 ⟨none,.e (fun s l=>Ar Tryz.prog s [28,28] l),[.loc 4,.loc 2],.push,[]⟩,
 ⟨none,.e (fun s=>Xy (fun a x=>Za (AS Tryz.prog s 27 a x))),[.loc 1,.loc 2],.push,[]⟩,
 ⟨none,.p1 (fun x=>AB Tryz.prog 30 x 2),[.var 2],.push,[]⟩,
 ⟨none,.e (fun s=>Xy (fun a x=>Za (AS Tryz.prog s 28 a x))),[.loc 0,.loc 2],.push,[]⟩]
def cP:Aa:=(.seq (.ops ln) (.ops ls))
def cQ:Aa:=(.block 1 (.ops lw))
def cN:Code:=(FX 33 0).1
def cO:Code:=(FX 33 0).2
theorem rO:EI Tryz.prog 33 cN=some cP:=by kernel_rfl
theorem rP:EI Tryz.prog 33 cO=some cQ:=by kernel_rfl
theorem cR:De Tryz.prog 33=[0,1,2,3,4,9,10,11]:=by kernel_rfl
def lz:List AA:=[
 ⟨none,.r1 (fun s a=>AC Tryz.prog s 30 a),[.var 2],.push,[]⟩,
 ⟨none,.e (fun s=>Xy (fun a x=>Za (AS Tryz.prog s 30 a x))),[.var 2,.loc 0],.push,[]⟩]
def wY:Ah:=⟨1,8,(.seq (.ops lZ) (.seq (.ops lh) (.seq (.seq (.ops lj) (.block 0 (.rangeFunc 33 (.var 5) #[10,11] cN cO))) (.seq (.ops lz) .ret)))),[((.var 2),some 30)]⟩
def mS:List AA:=[
 ⟨none,.mk (fun l=>match l with | [v]=>Bf 56 v | _=>none),[.var 0],(.set 1),[]⟩,
 ⟨none,.p1 some,[(.const .nilFunc)],(.set 2),[]⟩]
def mT:List AA:=[
 ⟨none,.p (fun l=>some (.func 77 (l.take 0) (l.drop 0))),[.var 1],.push,[]⟩,
 ⟨none,.p1 some,[.loc 0],(.set 2),[]⟩]
def wh:Ah:=⟨1,3,(.seq (.ops mS) (.seq (.ops mT) .ret)),[((.var 2),none)]⟩
def ol:List AA:=[
 ⟨none,.p1 (fun x=>AB Tryz.prog 56 x 1),[.var 1],.push,[]⟩,
 ⟨none,.r1 (fun s a=>AC Tryz.prog s 54 a),[.loc 0],.push,[]⟩,
 ⟨none,.call 79,[.loc 0],.push,[]⟩,
 ⟨none,.call 78,[.loc 0],(.set 4),[]⟩,
 ⟨none,.r (fun s l=>match l with | [x]=>A6 Tryz.prog s 27 x | _=>none),[.var 4],(.set 5),[]⟩,
 ⟨none,.p1 some,[(.const (.int .i64 (0)))],(.set 6),[]⟩]
def du:List AA:=[
 ⟨none,.p2 (AL Tryz.prog .lss 3),[.var 6,.var 5],(.set 7),[]⟩]
def oo:List AA:=[
 ⟨none,.p2 (AM Tryz.prog 27),[.var 4,.var 6],.push,[]⟩,
 ⟨none,.r1 (fun s a=>AC Tryz.prog s 3 a),[.loc 0],.push,[]⟩,
 ⟨none,.p1 some,[.loc 0],(.set 2),[]⟩]
def oq:List AA:=[
 ⟨none,.p1 (fun x=>AB Tryz.prog 56 x 1),[.var 1],.push,[]⟩,
 ⟨none,.r1 (fun s a=>AC Tryz.prog s 54 a),[.loc 0],.push,[]⟩,
 ⟨none,.r (fun s=>Xy (fun m k=>Do Tryz.prog s 54 m k false)),[.loc 0,.var 2],.push,[]⟩,
 ⟨none,.mk (fun l=>match l with | []=>Ag Tryz.prog 26 | _=>none),[],(.set 3),[]⟩,
 ⟨none,.e (fun s=>Xy (fun a x=>Za (AS Tryz.prog s 26 a x))),[.var 3,.loc 0],.push,[]⟩]
def ot:List AA:=[
 ⟨none,.r1 (fun s a=>AC Tryz.prog s 26 a),[.var 3],.push,[]⟩,
 ⟨none,.call 53,[.loc 0],.push,[]⟩,
 ⟨none,.p2 (AL Tryz.prog .neq 3),[(.loc 0),(.const (.int .i64 (0)))],.push,[]⟩,
 ⟨(some ((.loc 0),true)),.p1 some,[.var 0],.push,[]⟩,
 ⟨(some ((.loc 1),true)),.p1 some,[.var 2],.push,[]⟩,
 ⟨(some ((.loc 2),true)),.r1 (fun s a=>AC Tryz.prog s 26 a),[.var 3],.push,[]⟩,
 ⟨(some ((.loc 3),true)),.callv,[.loc 2,.loc 1,.loc 0],.push,[]⟩,
 ⟨(some ((.loc 4),true)),.p1 (WT Tryz.prog Go.UnOp.not),[.loc 0],.push,[]⟩,
 ⟨none,.p Ru,[(.loc 5),(.loc 0),(.const (.bool false))],(.set 8),[]⟩]
def dv:List AA:=[
 ⟨none,.p2 (AL Tryz.prog .add 3),[(.var 6),(.const (.int .i64 (1)))],.push,[]⟩,
 ⟨none,.p1 some,[.loc 0],(.set 6),[]⟩]
def KR:Aa:=(.seq (.ops du) (.seq (.cond (.var 7)
 .skip
 (.exit 0)) (.seq (.block 1 (.seq (.ops oo) (.seq (.ops oq) (.seq (.ops ot) (.cond (.var 8)
 .ret
 .skip))))) (.ops dv))))
def xL:Ah:=⟨2,9,(.seq (.ops ol) (.block 0 (.loop KR))),[]⟩
def lJ:List AA:=[
 ⟨none,.mk (fun l=>match l with | [v]=>Bf 26 v | _=>none),[.var 0],(.set 1),[]⟩,
 ⟨none,.mk (fun l=>match l with | []=>Ag Tryz.prog 30 | _=>none),[],(.set 2),[]⟩]
def lK:List AA:=[
 ⟨none,.r1 (fun s a=>AC Tryz.prog s 26 a),[.var 1],.push,[]⟩,
 ⟨none,.p (fun l=>BT Tryz.prog 30 (zipIdx [0] l)),[.loc 0],.push,[]⟩,
 ⟨none,.call 32,[.loc 0],.push,[]⟩,
 ⟨none,.call 33,[.loc 0],.push,[]⟩,
 ⟨none,.e (fun s=>Xy (fun a x=>Za (AS Tryz.prog s 30 a x))),[.var 2,.loc 0],.push,[]⟩]
def wT:Ah:=⟨1,3,(.seq (.ops lJ) (.seq (.ops lK) .ret)),[((.var 2),some 30)]⟩
def lF:List AA:=[
 ⟨none,.mk (fun l=>match l with | [v]=>Bf 30 v | _=>none),[.var 0],(.set 2),[]⟩,
 ⟨none,.mk (fun l=>match l with | [v]=>Bf 26 v | _=>none),[.var 1],(.set 3),[]⟩,
 ⟨none,.mk (fun l=>match l with | []=>Ag Tryz.prog 30 | _=>none),[],(.set 4),[]⟩]
def lG:List AA:=[
 ⟨none,.call 61,[],.push,[]⟩,
 ⟨none,.mk (fun l=>match l with | []=>Ag Tryz.prog 56 | _=>none),[],(.set 5),[]⟩,
 ⟨none,.e (fun s=>Xy (fun a x=>Za (AS Tryz.prog s 56 a x))),[.var 5,.loc 0],.push,[]⟩]
def lH:List AA:=[
 ⟨none,.r1 (fun s a=>AC Tryz.prog s 30 a),[.var 2],.push,[]⟩,
 ⟨none,.r1 (fun s a=>AC Tryz.prog s 26 a),[.var 3],.push,[]⟩,
 ⟨none,.call 34,[.var 5,.loc 1,.loc 0],.push,[]⟩]
def lI:List AA:=[
 ⟨none,.r1 (fun s a=>AC Tryz.prog s 56 a),[.var 5],.push,[]⟩,
 ⟨none,.call 33,[.loc 0],.push,[]⟩,
 ⟨none,.e (fun s=>Xy (fun a x=>Za (AS Tryz.prog s 30 a x))),[.var 4,.loc 0],.push,[]⟩]
def wS:Ah:=⟨2,6,(.seq (.ops lF) (.seq (.ops lG) (.seq (.ops lH) (.seq (.ops lI) .ret)))),[((.var 4),some 30)]⟩
theorem sS:AO Tryz.prog 61=some xB:=by kernel_rfl
theorem sZ:AO Tryz.prog 72=some xI:=by kernel_rfl
theorem sT:AO Tryz.prog 62=some xC:=by kernel_rfl
theorem rn:AO Tryz.prog 34=some wZ:=by kernel_rfl
theorem sa:AO Tryz.prog 73=some xJ:=by kernel_rfl
theorem rf:AO Tryz.prog 32=some wX:=by kernel_rfl
theorem rl:AO Tryz.prog 33=some wY:=by kernel_rfl
theorem sD:AO Tryz.prog 41=some wh:=by kernel_rfl
theorem sc:AO Tryz.prog 77=some xL:=by kernel_rfl
theorem rX:AO Tryz.prog 23=some wT:=by kernel_rfl
theorem rW:AO Tryz.prog 22=some wS:=by kernel_rfl
def ou:List AA:=[
 ⟨none,.mk (fun l=>match l with | [v]=>Bf 54 v | _=>none),[.var 0],(.set 1),[]⟩,
 ⟨none,.p1 some,[(.const .nilFunc)],(.set 2),[]⟩]
def ov:List AA:=[
 ⟨none,.p (fun l=>some (.func 121 (l.take 0) (l.drop 0))),[.var 1],.push,[]⟩,
 ⟨none,.p1 some,[.loc 0],(.set 2),[]⟩]
def xM:Ah:=⟨1,3,(.seq (.ops ou) (.seq (.ops ov) .ret)),[((.var 2),none)]⟩
theorem se:AO Tryz.prog 79=some xM:=by kernel_rfl
end
end Go.Proofs.YtjnkfbpadpmakaaGreatDoor.Am
set_option linter.unusedVariables false
set_option linter.unusedSimpArgs false
namespace Go.Proofs.YtjnkfbpadpmakaaGreatDoor.Am
open Go Go.RowKit
noncomputable section
def UL(x:Int):List Int→List Int
 | []=>[x]
 | y::l=>bif NE x y then x::y::l else y::UL x l
def Di:List Int→List Int
 | []=>[]
 | x::l=>UL x (Di l)
theorem Jy(x:Int):∀l:List Int,(UL x l).Perm (x::l)
 | []=>.refl _
 | y::l=>by
  unfold UL
  cases NE x y with
  | true=>exact .refl _
  | false=>exact((Jy x l).cons y).trans (.swap x y l)
theorem Ds:∀l:List Int,(Di l).Perm l
 | []=>.refl _
 | x::l=>(Jy x _).trans ((Ds l).cons x)
theorem KU(x:Int):∀l:List Int,l.Pairwise (·≤·)→(UL x l).Pairwise (·≤·)
 | [],_=>by simp[UL]
 | y::l,h=>by
  unfold UL
  have hl:=List.pairwise_cons.1 h
  rw[DD]
  by_cases hxy:x<y
  ·simp only[hxy,decide_true,cond_true]
   refine List.pairwise_cons.2 ⟨fun z hz=>?_,h⟩
   rcases List.mem_cons.1 hz with rfl | hz
   ·omega
   ·have:=hl.1 z hz;omega
  ·simp only[hxy,decide_false,cond_false]
   refine List.pairwise_cons.2 ⟨fun z hz=>?_,KU x l hl.2⟩
   rcases List.mem_cons.1 ((Jy x l).mem_iff.1 hz)with rfl | hz
   ·omega
   ·exact hl.1 z hz
theorem GT:∀l:List Int,(Di l).Pairwise (·≤·)
 | []=>.nil
 | x::l=>KU x _ (GT l)
theorem X0        {l m : List Int} (hp : l.Perm m) (hl : l.Pairwise (· ≤ ·)) (hm : m.Pairwise (· ≤ ·)) : l = m := by
  induction l generalizing m with
  | nil=>exact(List.nil_perm.1 hp).symm
  | cons a l ih =>
    cases m with
    | nil=>exact absurd hp.length_eq (by simp)
    | cons b m =>
      have hl':=List.pairwise_cons.1 hl
      have hm':=List.pairwise_cons.1 hm
      have hab:a=b:=by
        have h1:a∈b::m:=hp.mem_iff.1 yC
        have h2:b∈a::l:=hp.mem_iff.2 yC
        rcases List.mem_cons.1 h1 with e | h1
        · exact e
        · rcases List.mem_cons.1 h2 with e | h2
          · exact e.symm
          · have:=hm'.1 a h1;have:=hl'.1 b h2;omega
      subst hab
      rw[ih hp.cons_inv hl'.2 hm'.2]
theorem Rx{l m:List Int}(h:l.Perm m):m.mergeSort (fun x y=>decide (x≤y))=Di l:=by
 refine X0 ((List.mergeSort_perm _ _).trans (h.symm.trans (Ds l).symm)) ?_ (GT l)
 have:=List.pairwise_mergeSort (le:=fun(x y:Int)=>decide (x≤y)) (by intro a b c;simp;omega) (by intro a b;simp;omega) m
 exact this.imp (by intro a b h;simpa using h)
def Ka:List (AV×AV)→Option (List Int)
 | []=>some []
 | (.int .i64 n,_)::l=>(Ka l).bind fun r=>some (n::r)
 | _=>none
def XM(n:Int):AV:=.int .i64 n
def Hq(tI:TypeId)(ks:List Int)(s:AE):Option (AV×AE):=match ks with
 | []=>some (.slice none 0 (some 0),s)
 | k::ks=>AP (Nat.ble (k::ks).length 1000000) (some (.slice (some (s.next,0)) (k::ks).length none,newObj s (Cs tI 1 (AZ.fill .leaf 0 ((Di (k::ks)).map XM)) (k::ks).length none true)))
def GB(g:FuncId)(kt tI:TypeId)(s:AE):List AV→Option (AV×AE)
 | [.func f [] [.ptr (some (i,o))]]=>AP (Nat.beq f g && Nat.beq o 0) <| (rowAt s i).bind fun r=>AP r.bytes <| (DA s i o).bind fun m=>match m with
  | .map none=>some (.slice none 0 (some 0),s)
  | .map (some j)=>(JC s kt j).bind fun es=>(Ka es).bind fun ks=>Hq tI ks s
  | _=>none
 | _=>none
section
variable{P:Program}{ρ ρ1 ρ2:BU}{s s1 s2:AE}{w w1 w2:World}
def U6(P:Program)(f g:FuncId)(kt tI:TypeId):Prop:=
 (∀ (Bm b nn:Nat) (D0:DataW Value) (w:World),Bm<w.heap.size→w.cell? ⟨Bm,0,none⟩=some (.map (some b))→w.ownsMap P kt Rv b nn D0→Maps.size D0≤1000000 →
  Calls P f #[.func (.func g) #[] #[.pointer (some ⟨Bm,0,none⟩)]] w fun e w'=>∃ (v:Value) (ss:List Int),e=.returned v∧ss.Perm (intKeys D0) ∧
   w'.ownsRow w.heap.size tI 1 v ss.length ((ss.mergeSort (fun x y=>decide (x≤y))).map fun n=>.int .i64 n)∧(v=.slice none 0 0↔ss=[])∧Below w.heap.size w w') ∧
 ∀ (Bm:Nat) (w:World),Bm<w.heap.size→w.cell? ⟨Bm,0,none⟩=some (.map none) →
  Calls P f #[.func (.func g) #[] #[.pointer (some ⟨Bm,0,none⟩)]] w fun e w'=>e=.returned (.slice none 0 0)∧Below w.heap.size w w'
theorem Ns:∀ {es:List (AV×AV)}{ks:List Int}{l:List MapEntry},Ka es=some ks→EZ ρ es l→l.map (·.key)=ks.map fun n=>Value.int .i64 n
  | [],ks,l,h,he=>by cases he;injection h with h;subst h;rfl
  | (k,v)::es,ks,l,h,he=>by
    cases he with
    | cons hk hv hs =>
      cases k<;>try (simp[Ka]at h;done)
      rename_i q n
      cases q<;>try (simp[Ka]at h;done)
      simp only[Ka,xY]at h
      obtain⟨r,h1,h2⟩:=h
      injection h2 with h2
      subst h2
      have:=Ns h1 hs
      generalize hkk:(_:MapEntry).key=kk at hk
      cases hk
      simp[this,hkk]
theorem G7(h:Below w.heap.size w w1):w.grownBy w1 none:=⟨h.os,h.tape,h.output,h.size,fun k hk _=>h.block k hk⟩
theorem Sp          {f g : FuncId} {kt tI : TypeId} (hko : GU     P kt = true) (hu : P.underlying kt = some (.int .i64)) (hc : U6      P f g kt tI) (h : Ba  P ρ s w) (hf : BA     ρ s) {aS : List AV} {as' : Array Value} {v : AV} (hs : GB       g kt tI s aS = some (v, s1)) (has : AX    ρ aS as'.toList) :
    CallsIn Fence.wide 0 P f as' w (FZ P ρ s w v s1):=by
  refine callsIn_wide.2 ?_
  unfold GB at hs
  split at hs<;>first | (cases hs;done) | skip
  rename_i f' i o
  obtain⟨hg,hs⟩:=AD hs
  simp only[xY,Bool.and_eq_true]at hs hg
  obtain⟨r,hrow,hs⟩:=hs
  obtain⟨hby,hs⟩:=AD hs
  simp only[xY]at hs
  obtain⟨m,hm,hs⟩:=hs
  have e1:=yD hg.1
  have e2:=yD hg.2
  subst e1;subst e2
  obtain⟨l0⟩:=as'
  cases has with
  | cons h1 h2 =>
  cases h2
  cases h1 with
  | func ha hcap =>
  rename_i a' c'
  obtain⟨la⟩:=a'
  obtain⟨lc⟩:=c'
  cases ha
  cases hcap with
  | cons hp hn =>
  cases hn
  cases hp with
  | ptr hr =>
  rename_i rb
  have hok:Cn ρ w r rb:=h.obj i _ rb (Bg hrow) hr
  have hoff:=hok.base hby
  obtain⟨m',hvm,hcell⟩:=MK h hr hm
  rw[hoff]at hcell ⊢
  have hlt:=h.lt i rb hr
  cases m<;>try (simp at hs;done)
  rename_i mj
  have nilDone:∀ (hs:some ((.slice none 0 (some 0),s):AV×AE)=some (v,s1)) (w':World),Below w.heap.size w w'→FZ P ρ s w v s1 (.returned (.slice none 0 0)) w':=by
    intro hs w' hb
    injection hs with hs
    injection hs with q1 q2
    subst q1;subst q2
    obtain⟨g1,g2⟩:=h.grown (G7 hb)
    exact⟨ρ,.sliceNil,g1,g2⟩
  cases mj with
  | none =>
    cases hvm
    refine(hc.2 rb.b w hlt hcell).mono ?_
    rintro e w' ⟨rfl,hb⟩
    exact nilDone hs w' hb
  | some j =>
    simp only[xY]at hs
    obtain⟨es,hes,ks,hks,hs⟩:=hs
    cases hvm with
    | map hrj =>
    rename_i rj
    obtain⟨ed,cd,d1,d2,⟨ld,d3,d4⟩,d5⟩:=(show KN P ρ w kt es rj from h.obj j _ rj (J3 hes) hrj).ex
    have hkl:=Ns hks d4
    have hlenk:ks.length=ed.size:=by have:=congrArg List.length hkl;have:=d3.length_eq;simp at *;omega
    have hk6:ks.length≤1000000:=by
      cases ks with
      | nil=>simp
      | cons k ks =>
        simp only[Hq]at hs
        have:=(AD hs).1
        simpa[xo]using this
    have hmax:(1000000:Nat)≤maxLen:=by unfold maxLen;omega
    have od:=jw d1 d2 d5 (by omega)
    have hsz:Maps.size (DataW.map ((ed.toList.map (WideElems.rg P kt Rv)).foldr DataW.insert []))=ed.size:=by
      show((ed.toList.map (WideElems.rg P kt Rv)).foldr DataW.insert []).length=_
      rw[(Go.WideShapes.sorted_perm _).length_eq]
      simp
    have hints:(intKeys (DataW.map ((ed.toList.map (WideElems.rg P kt Rv)).foldr DataW.insert []))).Perm ks:=by
      show(((ed.toList.map (WideElems.rg P kt Rv)).foldr DataW.insert []).map fun p=>Go.intOf p.1).Perm ks
      refine((Go.WideShapes.sorted_perm _).map _).trans ?_
      rw[yr]
      have:((ld.map fun e=>Go.intOf (WideElems.rg P kt Rv e).1))=ks:=by
        have:∀ (L:List MapEntry) (K:List Int),(∀e∈L,∃l,keyOf P kt e.key=some l)→L.map (·.key)=K.map (fun n=>Value.int .i64 n)→(L.map fun e=>Go.intOf (WideElems.rg P kt Rv e).1)=K:=by
          intro L
          induction L with
          | nil=>intro K _ hK;cases K with | nil=>rfl | cons=>simp at hK
          | cons e L ih =>
            intro K hty hK
            cases K with
            | nil=>simp at hK
            | cons n K =>
              simp only[yw,List.cons.injEq]at hK
              obtain⟨l,hl⟩:=hty e yC
              rw[yw,ih K (fun x hx=>hty x (yK _ hx)) hK.2,vK hl]
              congr 1
              rw[hK.1]at hl
              simp only[keyOf,hu,mapKey]at hl
              split at hl
              · injection hl with hl;subst hl;rfl
              · cases hl
        exact this ld ks (fun e he=>d5 e (d3.mem_iff.1 he)) hkl
      rw[← this]
      exact d3.symm.map _
    refine(hc.1 rb.b rj.b _ _ w hlt hcell od (by rw[hsz];omega)).mono ?_
    rintro e w' ⟨v',ss,rfl,hperm,hrow',hnil,hb⟩
    have hss:ss.Perm ks:=hperm.trans hints
    cases ks with
    | nil =>
      have:ss=[]:=List.perm_nil.1 hss
      rw[hnil.2 this]
      exact nilDone hs w' hb
    | cons k ks =>
      simp only[Hq]at hs
      obtain⟨_,hs⟩:=AD hs
      injection hs with hs
      injection hs with q1 q2
      subst q1;subst q2
      have hne:ss≠[]:=fun e=>by subst e;exact absurd (List.nil_perm.1 hss) (by simp)
      rw[Rx hss.symm]at hrow'
      have hl:ss.length=(k::ks).length:=hss.length_eq
      rcases hrow'.2 with⟨q,_⟩ | ⟨gb,cap,cur,rfl,hbase,hgb,r1,r2,r3,r4⟩
      · exact absurd (hnil.1 q) hne
      · rw[hl]at r1 r4 ⊢
        have hilen:(Di (k::ks)).length=(k::ks).length:=(Ds _).length_eq
        generalize hn:(k::ks).length=n at r1 r4 hilen ⊢
        have hglt:gb<w'.heap.size:=(Array.getElem?_eq_some_iff.1 hgb).1
        obtain⟨g1,g2⟩:=h.grown (G7 hb)
        let rbn:RB:=⟨gb,0,cap,1⟩
        have hfn:=(hf s.next (xZ _)).1
        have hle:=Bh (rb:=rbn) hfn
        have hrok:Cn (B9 ρ s.next rbn) w' { elem:=tI,sz:=1,n:=n,c:=AZ.fill .leaf 0 ((Di (k::ks)).map XM),spare:=true,mode:=.own,par:=none,bytes:=true } rbn:=by
          refine⟨?_,r1,rfl,(fun hh=>by cases hh),fun _=>⟨cur,hgb,by simp only[rbn];omega⟩,fun _=>rfl,(fun g hg=>by cases hg),fun p hp=>by cases hp⟩
          intro q u hq hu'
          simp only at hq
          simp only[AZ.get_fill,xg,xu,true_and,Nat.sub_zero,yE,hilen]at hu'
          rw[if_pos hq,yY]at hu'
          obtain⟨x,hx,hx2⟩:=Option.map_eq_some_iff.1 hu'
          subst hx2
          refine⟨.int .i64 x,?_,.int _ _⟩
          have:(cur.toList.take (n * 1))[q]? = some (Value.int .i64 x):=by rw[r4,yY,hx];rfl
          rw[yy (by omega)]at this
          simp only[World.cell?,rbn,xu,hgb]
          simpa using this
        refine⟨B9 ρ s.next rbn,.sliceOpen (Ac _ _) (Nat.one_pos) r1 (by simp[rbn]) (by simp[rbn]),⟨?_,?_,?_,?_⟩,?_⟩
        · intro x ox rx hx hrx
          rw[A7]at hx
          by_cases e:x=s.next
          · subst e
            rw[if_pos rfl]at hx
            injection hx with hx
            rw[Ac]at hrx
            injection hrx with hrx
            subst hx;subst hrx
            exact hrok
          · rw [if_neg e] at hx
            rw[AY rbn e]at hrx
            exact(g1.obj x ox rx hx hrx).mono hle rfl
        · intro x rx hrx
          by_cases e:x=s.next
          · subst e
            rw[Ac]at hrx
            injection hrx with hrx
            subst hrx
            exact hglt
          · rw[AY rbn e]at hrx
            exact g1.lt x rx hrx
        · intro x y ox oy rx ry hxy hx hy hrx hry hbb hw
          rw[A7]at hx hy
          by_cases ex:x=s.next
          · subst ex
            have ey:y≠s.next:=fun e=>hxy e.symm
            rw[Ac]at hrx
            injection hrx with hrx
            subst hrx
            rw[AY rbn ey]at hry
            have:=h.lt y ry hry
            simp only[rbn]at hbb
            omega
          · by_cases ey : y = s.next
            · subst ey
              rw[Ac]at hry
              injection hry with hry
              subst hry
              rw[AY rbn ex]at hrx
              have:=h.lt x rx hrx
              simp only[rbn]at hbb
              omega
            · rw [if_neg ex] at hx
              rw[if_neg ey]at hy
              rw[AY rbn ex]at hrx
              rw[AY rbn ey]at hry
              exact g1.sep x y ox oy rx ry hxy hx hy hrx hry hbb hw
        · intro x ox g hx hgo
          rw[A7]at hx
          by_cases e:x=s.next
          · subst e;exact⟨_,Ac _ _⟩
          · rw[if_neg e]at hx
            obtain⟨r',hr'⟩:=h.glb x ox g hx hgo
            exact⟨r',hle _ _ hr'⟩
        · refine ⟨hle, ?_, by simp [newObj], hb.size, hb.os, hb.tape, hb.output, fun b hb' _ => hb.block b hb', ?_, ?_⟩
          · intro x hx hxr
            have:x≠s.next:=by simp[newObj]at hxr;omega
            rw[AY rbn this];exact hx
          · rintro b ⟨x, ox, rx, hx, hw, hrx, rfl⟩
            rw[A7]at hx
            by_cases e:x=s.next
            · subst e
              rw[Ac]at hrx
              injection hrx with hrx
              subst hrx
              exact .inr hbase
            · rw [if_neg e] at hx
              rw[AY rbn e]at hrx
              exact .inl ⟨x,ox,rx,hx,hw,hrx,rfl⟩
          · intro x _ hx
            rw[A7,if_neg (by simp[newObj]at hx;omega)]
end
end
end Go.Proofs.YtjnkfbpadpmakaaGreatDoor.Am
set_option linter.unusedVariables false
set_option linter.unusedSimpArgs false
set_option maxRecDepth 16000
namespace Go.Proofs.YtjnkfbpadpmakaaGreatDoor.Am
open Go Go.Proofs
noncomputable section
abbrev Co:=Int×Rat×AV
def Hx(T:List Co):List (AV×AV):=T.map fun t=>(iv t.1,t.2.2)
def Fs(n:Int):List Co→Option (Rat×AV)
 | []=>none
 | t::T=>if n=t.1 then some t.2 else Fs n T
def Dv(n:Int)(q:Rat)(v:AV):List Co→List Co
 | []=>[(n,q,v)]
 | t::T=>if n=t.1 then (n,q,v)::T else t::Dv n q v T
def T8(n:Int):List Co→List Co
 | []=>[]
 | t::T=>if n=t.1 then T else t::T8 n T
theorem V6(n m:Int):HE (iv n) (iv m)=some (decide (n=m)):=by
 show AP (B7 .i64 .i64) (some (NF n m))=_
 rw[Em]
 rfl
theorem JD       (n : Int) (q : Rat) (v : AV) : ∀ (T : List Co)  (i : Nat), (Fs   n T = none ∧ Gk    (iv n) (Hx  T) i = some none ∧ Dv   n q v T = T ++ [(n, q, v)] ∧ T8   n T = T) ∨
    (∃j p,Fs n T=some p∧Gk (iv n) (Hx T) i=some (some (i+j,p.2))∧setNth (Hx T) j v=Hx (Dv n q v T)∧delNth (Hx T) j=Hx (T8 n T))
  | [],i=>.inl ⟨rfl,rfl,rfl,rfl⟩
  | t::T,i=>by
    by_cases h:n=t.1
    · refine .inr ⟨0, t.2, if_pos h, ?_, ?_, ?_⟩
      · show(HE (iv n) (iv t.1)).bind _=_
        rw[V6,decide_eq_true h];rfl
      · show setNth ((iv t.1,t.2.2)::Hx T) 0 v=Hx (if n=t.1 then (n,q,v)::T else t::Dv n q v T)
        rw[if_pos h]
        show(iv t.1,v)::Hx T=(iv n,v)::Hx T
        rw[h]
      · show Hx T=Hx (if n=t.1 then T else t::T8 n T)
        rw[if_pos h]
    · have hf:Gk (iv n) (Hx (t::T)) i=Gk (iv n) (Hx T) (i+1):=by
        show(HE (iv n) (iv t.1)).bind _=_
        rw[V6,decide_eq_false h];rfl
      have hg:Fs n (t::T)=Fs n T:=if_neg h
      have hp:Dv n q v (t::T)=t::Dv n q v T:=if_neg h
      have hd:T8 n (t::T)=t::T8 n T:=if_neg h
      rcases JD n q v T (i+1)with⟨h1,h2,h3,h4⟩ | ⟨j,p,h1,h2,h3,h4⟩
      · exact .inl ⟨hg.trans h1,hf.trans h2,by rw[hp,h3];rfl,by rw[hd,h4]⟩
      · refine .inr ⟨j + 1, p, hg.trans h1, ?_, ?_, ?_⟩
        · rw[hf,h2,show i+1+j=i+(j+1) by omega]
        · rw[hp]
          show(iv t.1,t.2.2)::setNth (Hx T) j v=(iv t.1,t.2.2)::Hx (Dv n q v T)
          rw[h3]
        · rw[hd]
          show(iv t.1,t.2.2)::delNth (Hx T) j=(iv t.1,t.2.2)::Hx (T8 n T)
          rw[h4]
def Cy(n:Int)(T:List Co):Rat:=match Fs n T with
 | some p=>p.1
 | none=>0
def RP(a:Int→Rat):List Co→Rat
 | []=>0
 | t::T=>t.2.1 * a t.1+RP a T
theorem KK(n:Int)(t:Co)(T:List Co):Cy n (t::T)=if n=t.1 then t.2.1 else Cy n T:=by
 unfold Cy
 show(match (if n=t.1 then some t.2 else Fs n T)with | some p=>p.1 | none=>0)=_
 by_cases h:n=t.1
 ·rw[if_pos h,if_pos h]
 ·rw[if_neg h,if_neg h]
theorem fG(a:Int→Rat)(n:Int)(d:Rat)(v:AV):∀T:List Co,RP a (Dv n (Cy n T+d) v T)=RP a T+d * a n
 | []=>by
  show(0+d) * a n+0=0+d * a n
  rw[Rat.zero_add,Rat.add_zero,Rat.zero_add]
 | t::T=>by
  rw[KK]
  by_cases h:n=t.1
  ·rw[if_pos h]
   show RP a (if n=t.1 then (n,t.2.1+d,v)::T else t::Dv n (t.2.1+d) v T)=t.2.1 * a t.1+RP a T+d * a n
   rw[if_pos h]
   show(t.2.1+d) * a n+RP a T=t.2.1 * a t.1+RP a T+d * a n
   rw[h,Rat.add_mul,Rat.add_assoc,Rat.add_comm (d * a t.1),Rat.add_assoc]
  ·rw[if_neg h]
   show RP a (if n=t.1 then (n,Cy n T+d,v)::T else t::Dv n (Cy n T+d) v T)=t.2.1 * a t.1+RP a T+d * a n
   rw[if_neg h]
   show t.2.1 * a t.1+RP a (Dv n (Cy n T+d) v T)=_
   rw[fG a n d v T,Rat.add_assoc]
def BM(T:List Co):List Int:=T.map (·.1)
theorem Nn{n:Int}:∀ {T:List Co},Fs n T=none↔n ∉ BM T
 | []=>by simp[Fs,BM]
 | t::T=>by
  show(if n=t.1 then some t.2 else Fs n T)=none↔n ∉ t.1::BM T
  by_cases h:n=t.1
  ·rw[if_pos h];simp[h]
  ·rw[if_neg h,Nn (T:=T)];simp[h]
theorem G6{n:Int}{p:Rat×AV}:∀ {T:List Co},Fs n T=some p→(n,p)∈T
 | [],h=>by cases h
 | t::T,h=>by
  have h':(if n=t.1 then some t.2 else Fs n T)=some p:=h
  by_cases hn:n=t.1
  ·rw[if_pos hn]at h'
   injection h' with h'
   have:(n,p)=t:=by rw[hn,← h']
   rw[this];exact yC
  ·rw[if_neg hn]at h'
   exact yK _ (G6 h')
theorem R0       {n : Int} {q : Rat} {v : AV} {x : Int} : ∀ {T : List Co},  x ∈ BM    (Dv   n q v T) ↔ x = n ∨ x ∈ BM    T
  | []=>by simp[Dv,BM]
  | t::T=>by
    show x∈BM (if n=t.1 then (n,q,v)::T else t::Dv n q v T)↔x=n∨x∈t.1::BM T
    by_cases h:n=t.1
    · rw[if_pos h]
      show x∈n::BM T↔_
      rw[h];simp
    · rw[if_neg h]
      show x∈t.1::BM (Dv n q v T)↔_
      rw[List.mem_cons,R0 (T:=T),List.mem_cons]
      constructor
      · rintro (h | h | h)
        · exact .inr (.inl h)
        · exact .inl h
        · exact .inr (.inr h)
      · rintro (h | h | h)
        · exact .inr (.inl h)
        · exact .inl h
        · exact .inr (.inr h)
theorem J6{n:Int}{q:Rat}{v:AV}:∀ {T:List Co},(BM T).Nodup→(BM (Dv n q v T)).Nodup
 | [],_=>by simp[Dv,BM]
 | t::T,h=>by
  obtain⟨h1,h2⟩:=List.nodup_cons.1 h
  show(BM (if n=t.1 then (n,q,v)::T else t::Dv n q v T)).Nodup
  by_cases hn:n=t.1
  ·rw[if_pos hn]
   show(n::BM T).Nodup
   rw[hn];exact h
  ·rw[if_neg hn]
   show(t.1::BM (Dv n q v T)).Nodup
   refine List.nodup_cons.2 ⟨fun hm=>?_,J6 h2⟩
   rcases R0.1 hm with e | e
   ·exact hn e.symm
   ·exact h1 e
theorem LH      {n : Int} {q : Rat} {v : AV} {t : Co}  : ∀ {T : List Co},  t ∈ Dv   n q v T → t = (n, q, v) ∨ t ∈ T
  | [],h=>.inl (A0H.1 h)
  | u::T,h=>by
    have h':t∈(if n=u.1 then (n,q,v)::T else u::Dv n q v T):=h
    by_cases hn:n=u.1
    · rw [if_pos hn] at h'
      rcases List.mem_cons.1 h' with e | e
      · exact .inl e
      · exact .inr (yK _ e)
    · rw [if_neg hn] at h'
      rcases List.mem_cons.1 h' with e | e
      · exact .inr (e▸yC)
      · rcases LH      e with e | e
        · exact .inl e
        · exact .inr (yK _ e)
theorem SO{Rl:Co→Co→Prop}{n:Int}{q:Rat}{v:AV}:∀ {T:List Co},T.Pairwise Rl→(∀t∈T,Rl t (n,q,v)∧Rl (n,q,v) t)→(Dv n q v T).Pairwise Rl
  | [],_,_=>by simp[Dv]
  | t::T,h,hn=>by
    obtain⟨h1,h2⟩:=List.pairwise_cons.1 h
    show(if n=t.1 then (n,q,v)::T else t::Dv n q v T).Pairwise Rl
    by_cases hk:n=t.1
    · rw[if_pos hk]
      exact List.pairwise_cons.2 ⟨fun u hu=>(hn u (yK _ hu)).2,h2⟩
    · rw [if_neg hk]
      refine List.pairwise_cons.2 ⟨fun u hu=>?_,SO h2 fun u hu=>hn u (yK _ hu)⟩
      rcases LH hu with rfl | hu
      · exact(hn t yC).1
      · exact h1 u hu
theorem V7{n:Int}{q:Rat}{v:AV}:∀ {T:List Co},(Dv n q v T).length≤T.length+1
 | []=>xZ _
 | t::T=>by
  show(if n=t.1 then (n,q,v)::T else t::Dv n q v T).length≤_
  by_cases h:n=t.1
  ·rw[if_pos h];simp
  ·rw[if_neg h];have:=V7 (n:=n) (q:=q) (v:=v) (T:=T);simp only[yU];omega
theorem Uq(k:Int):FC Tryz.prog 3 (iv k)=CB .i64 k:=by kernel_rfl
abbrev hY:AV:=.agg [.bool false,.slice none 0 (some 0),.slice none 0 (some 0)]
section
variable{s:AE}{mi:Nat}{T:List Co}{n:Int}
theorem fZ(hg:s.heap.get mi=some (.map 3 (Hx T)))(hn:i64 n):Do Tryz.prog s 54 (.map (some mi)) (iv n) true=some (.tuple [match Fs n T with | some p=>p.2 | none=>hY,.bool (Fs n T).isSome]):=by
 have hrd:Kc s 3 mi=some (Hx T):=by unfold Kc;rw[hg];rfl
 unfold Do
 simp only[Tryz.underlying54,Uq,FU hn,Xg,hrd,Option.bind_some]
 rcases JD n 0 hY T 0 with⟨h1,h2,_⟩ | ⟨j,p,h1,h2,_⟩
 ·rw[h2,h1,Option.bind_some,wL];rfl
 ·rw[h2,h1];rfl
theorem XS{p:Rat×AV}(hg:s.heap.get mi=some (.map 3 (Hx T)))(hn:i64 n)(hp:Fs n T=some p):Do Tryz.prog s 54 (.map (some mi)) (iv n) false=some p.2:=by
 have hrd:Kc s 3 mi=some (Hx T):=by unfold Kc;rw[hg];rfl
 unfold Do
 simp only[Tryz.underlying54,Uq,FU hn,Xg,hrd,Option.bind_some]
 rcases JD n 0 hY T 0 with⟨h1,h2,_⟩ | ⟨j,p',h1,h2,_⟩
 ·rw[hp]at h1;cases h1
 ·rw[hp]at h1
  injection h1 with h1
  subst h1
  rw[h2];rfl
theorem gt(hg:s.heap.get mi=some (.map 3 (Hx T)))(hn:i64 n)(q:Rat)(v:AV):Hu Tryz.prog s 54 (.map (some mi)) (iv n) v=some (setObj s mi (.map 3 (Hx (Dv n q v T)))):=by
 have hat:JC s 3 mi=some (Hx T):=by unfold JC;rw[hg];rfl
 unfold Hu
 simp only[Tryz.underlying54,Uq,FU hn,Xg,hat,Option.bind_some]
 unfold tV
 rcases JD n q v T 0 with⟨h1,h2,h3,_⟩ | ⟨j,p,h1,h2,h3,_⟩
 ·rw[h2,h3,Option.bind_some]
  show some (setObj s mi (.map 3 (Hx T++[(iv n,v)])))=_
  unfold Hx
  rw[zj];rfl
 ·rw[h2,Option.bind_some,xu]
  show some (setObj s mi (.map 3 (setNth (Hx T) j v)))=_
  rw[h3]
end
def Dd:AV→List Nat
 | .agg [_,m,d]=>(By m).toList++(By d).toList
 | _=>[]
def YH(u v:AV):Prop:=∀j∈Dd u,j ∉ Dd v
theorem YH.symm{u v:AV}(h:YH u v):YH v u:=fun j h1 h2=>h j h2 h1
def U8(s:AE)(j:Nat):Prop:=∃r,s.heap.get j=some (.row r)∧r.elem=76
theorem NR.u32{b:Nat}{s:AE}{v:AV}{l:List Nat}(h:NR b s v l)(hl:l≠[]){j:Nat}(hj:By v=some j):U8 s j:=by
 obtain⟨O,h1,_,_,h4⟩:=h
 obtain⟨i,e,_,_⟩:=h4 hl
 rcases h1 with⟨a,e',_⟩ | ⟨i',p,e',h6,_⟩
 ·rw[e]at e';injection e' with _ _ e';cases e'
 ·rw[e']at hj
  injection hj with hj
  subst hj
  rcases h6.ex with⟨e'',_⟩ | ⟨_,_,_,_,r,k4,_,_,_,_,_,k9⟩
  ·rw[e']at e'';cases e''
  ·exact⟨r,k4,k9⟩
theorem CW{v:AV}{x m d:AV}(e:v=.agg [x,m,d]){j:Nat}:j∈Dd v↔By m=some j∨By d=some j:=by
 subst e
 show j∈(By m).toList++(By d).toList↔_
 rw[zx,Option.mem_toList,Option.mem_toList]
theorem QR.u32{b:Nat}{s:AE}{v:AV}{q:Rat}(h:QR b s v q){j:Nat}(hj:j∈Dd v):U8 s j:=by
  obtain⟨m,d,e,h2,h3,_,h5⟩:=h
  rcases(CW e).1 hj with hj | hj
  · by_cases h0 : q.num = 0
    · rw[h5 h0]at hj;cases hj
    · exact h2.u32 (Br (by omega)) hj
  · exact h3.u32 (Br q.den_nz) hj
theorem QR.slots{b:Nat}{s:AE}{v:AV}{q:Rat}(h:QR b s v q){j:Nat}(hj:j∈Dd v):b≤j∧j<s.next:=by
 obtain⟨m,d,e,h2,h3,_⟩:=h
 rcases(CW e).1 hj with hj | hj
 ·exact h2.lt hj
 ·exact h3.lt hj
theorem QR.dj{b b':Nat}{s s':AE}{u v:AV}{p q:Rat}(h:QR b s u p)(h':QR b' s' v q)(hb:s.next≤b'):YH u v:=fun j h1 h2=>by
 have:=(h.slots h1).2
 have:=(h'.slots h2).1
 omega
structure Gv(b:Nat)(s:AE)(mi:Nat)(T:List Co)(k:Nat):Prop where
 obj:s.heap.get mi=some (.map 3 (Hx T))
 lo:b≤mi
 lt:mi<s.next
 ent:∀t∈T,QR b s t.2.2 t.2.1∧QH t.2.1 k∧i64 t.1
 nd:(BM T).Nodup
 dj:T.Pairwise fun t u=>YH t.2.2 u.2.2
structure Fb(b:Nat)(s:AE)(cv:AV)(mi:Nat)(c:Rat)(T:List Co)(k:Nat):Prop where
 cq:QR b s cv c
 ch:QH c k
 map:Gv b s mi T k
 dj:∀t∈T,YH cv t.2.2
def PV(b:Nat)(s:AE)(v:AV)(mi:Nat)(c:Rat)(T:List Co)(k:Nat):Prop:=∃x a n ca d m cd,v=.agg [.bool x,.slice a n ca,.slice d m cd,.map (some mi)]∧Fb b s (.agg [.bool x,.slice a n ca,.slice d m cd]) mi c T k
theorem HI{s:AE}{mi kt:Nat}{es:List (AV×AV)}(h:s.heap.get mi=some (.map kt es)){j:Nat}(hj:U8 s j):j≠mi:=by
 rintro rfl
 obtain⟨r,h1,_⟩:=hj
 rw[h]at h1;cases h1
theorem FV{s:AE}{p e sz:Nat}{sp:Bool}{cs:List AV}(h:s.heap.get p=some (R e sz sp cs))(he:e≠76){j:Nat}(hj:U8 s j):j≠p:=by
 rintro rfl
 obtain⟨r,h1,h2⟩:=hj
 rw[h]at h1
 injection h1 with h1
 injection h1 with h1
 subst h1
 exact he h2
theorem QR.keepS{b:Nat}{s s':AE}{v:AV}{q:Rat}(h:QR b s v q)(hn:s.next≤s'.next)(hf:∀j,j<s.next→U8 s j→s'.heap.get j=s.heap.get j):QR b s' v q:=by
 have hu:=fun j=>h.u32 (j:=j)
 have hl:=fun j=>h.slots (j:=j)
 obtain⟨m,d,e,h2,h3,h4⟩:=h
 exact⟨m,d,e,h2.keep hn fun j hj=>hf j (hl j ((CW e).2 (.inl hj))).2 (hu j ((CW e).2 (.inl hj))),h3.keep hn fun j hj=>hf j (hl j ((CW e).2 (.inr hj))).2 (hu j ((CW e).2 (.inr hj))),h4⟩
theorem Gv.keepS{b:Nat}{s s':AE}{mi:Nat}{T:List Co}{k:Nat}(h:Gv b s mi T k)(hn:s.next≤s'.next)(hm:s'.heap.get mi=s.heap.get mi)(hf:∀j,j<s.next→U8 s j→s'.heap.get j=s.heap.get j):Gv b s' mi T k:=
 ⟨hm.trans h.obj,h.lo,xi h.lt hn,fun t ht=>⟨(h.ent t ht).1.keepS hn hf,(h.ent t ht).2⟩,h.nd,h.dj⟩
theorem Gv.old{b:Nat}{s s':AE}{mi:Nat}{T:List Co}{k:Nat}(h:Gv b s mi T k)(o:Af s.next s s'):Gv b s' mi T k:=h.keepS o.1 (o.2 mi h.lt) fun j hj _=>o.2 j hj
theorem Gv.le{b:Nat}{s:AE}{mi:Nat}{T:List Co}{k k':Nat}(h:Gv b s mi T k)(hk:k≤k'):Gv b s mi T k':=⟨h.obj,h.lo,h.lt,fun t ht=>⟨(h.ent t ht).1,(h.ent t ht).2.1.le hk,(h.ent t ht).2.2⟩,h.nd,h.dj⟩
theorem Gv.mono{b b':Nat}{s:AE}{mi:Nat}{T:List Co}{k:Nat}(h:Gv b s mi T k)(hb:b'≤b):Gv b' s mi T k:=⟨h.obj,xh hb h.lo,h.lt,fun t ht=>⟨(h.ent t ht).1.mono hb,(h.ent t ht).2⟩,h.nd,h.dj⟩
theorem Fb.keepS{b:Nat}{s s':AE}{cv:AV}{mi:Nat}{c:Rat}{T:List Co}{k:Nat}(h:Fb b s cv mi c T k)(hn:s.next≤s'.next)(hm:s'.heap.get mi=s.heap.get mi)(hf:∀j,j<s.next→U8 s j→s'.heap.get j=s.heap.get j):Fb b s' cv mi c T k:=
 ⟨h.cq.keepS hn hf,h.ch,h.map.keepS hn hm hf,h.dj⟩
theorem Fb.old{b:Nat}{s s':AE}{cv:AV}{mi:Nat}{c:Rat}{T:List Co}{k:Nat}(h:Fb b s cv mi c T k)(o:Af s.next s s'):Fb b s' cv mi c T k:=h.keepS o.1 (o.2 mi h.map.lt) fun j hj _=>o.2 j hj
theorem Fb.le{b:Nat}{s:AE}{cv:AV}{mi:Nat}{c:Rat}{T:List Co}{k k':Nat}(h:Fb b s cv mi c T k)(hk:k≤k'):Fb b s cv mi c T k':=⟨h.cq,h.ch.le hk,h.map.le hk,h.dj⟩
theorem Fb.mono{b b':Nat}{s:AE}{cv:AV}{mi:Nat}{c:Rat}{T:List Co}{k:Nat}(h:Fb b s cv mi c T k)(hb:b'≤b):Fb b' s cv mi c T k:=⟨h.cq.mono hb,h.ch,h.map.mono hb,h.dj⟩
theorem Fb.set{b:Nat}{s:AE}{cv:AV}{mi:Nat}{c:Rat}{T:List Co}{k p e sz:Nat}{sp:Bool}{cs:List AV}(h:Fb b s cv mi c T k)(hp:s.heap.get p=some (R e sz sp cs))(he:e≠76)(o:BD):Fb b (setObj s p o) cv mi c T k:=
 h.keepS (xZ _) (Wx _ (by rintro rfl;have:=h.map.obj;rw[hp]at this;cases this)) fun j _ hj=>Wx _ (FV hp he hj)
theorem kP{b:Nat}{s:AE}{mi:Nat}{T:List Co}{k:Nat}(h:Gv b s mi T k)(hk:1≤k)(n:Int):QH (Cy n T) k:=by
 unfold Cy
 cases hg:Fs n T with
 | none=>exact tu.le hk
 | some p=>exact(h.ent _ (G6 hg)).2.1
theorem W2(x:Bool)(a b:Option (Nat×Nat))(n m:Nat)(c d:Option Nat)(mi:Nat):BT Tryz.prog 56 (zipIdx [0,1] [.agg [.bool x,.slice a n c,.slice b m d],.map (some mi)])=some (.agg [.bool x,.slice a n c,.slice b m d,.map (some mi)]):=by kernel_rfl
theorem Iq:Ag Tryz.prog 56=some (R 56 0 false [.bool false,.slice none 0 (some 0),.slice none 0 (some 0),.map none],.ptr):=by kernel_rfl
theorem jl:J0 Tryz.prog 54=some 3:=by kernel_rfl
section
variable{E:CU}{s:AE}
theorem SB(hE:GoodN E){K:AV→AE→Prop}(hK:∀s' v,Af s.next s s'→QR s.next s' v 0→K v s'):WF E 72 [] K s:=by
 refine hE.go sZ (by decide) rfl ?_
 obtain⟨n1,o1,g1⟩:=CC s ZQ
 simp only[xI,oW,oX,CE,Xc,Qa,Qb,Qc,Qd,Qf,Qh,Qi,Qj,Qk,Ql,Qm,Qo,true_and,Qp,Qt,Qv,Rb,Rh,Rj]
 generalize newObj s ZQ=s1 at *
 refine JL hE (n:=0) (.inl rfl) fun s2 v2 o2 r2=>?_
 have h2:=o2.1
 obtain⟨x,a,n,c,b,m,d,rfl⟩:=r2.shape
 obtain⟨st,ld⟩:=CG (cs0:=[.bool false,.slice none 0 (some 0),.slice none 0 (some 0)]) rfl (x:=x) (a:=a) (n:=n) (c:=c) (b:=b) (m:=m) (d:=d) ((o2.2 s.next (by omega)).trans g1)
 simp only[st,ld,AQ,Xy,Za,Qd,Qj,Qm,Qo,true_and,Qr,Rk,Rn,Yc]
 exact hK _ _ ((o1.trans (o2.mono o1.1)).set (xZ _) _) ((r2.set (by omega) _).mono (by omega))
theorem R7(hE:GoodN E){K:AV→AE→Prop}(hK:∀s' v mi,Af s.next s s'→PV s.next s' v mi 0 [] 1→K v s'):WF E 61 [] K s:=by
 refine hE.go sS (by decide) rfl ?_
 obtain⟨n1,o1,g1⟩:=CC s (R 56 0 false [.bool false,.slice none 0 (some 0),.slice none 0 (some 0),.map none])
 simp only[xB,nl,np,Iq,Xc,Qa,Qb,Qc,Qd,Qf,Qh,Qj,Qk,Ql,Qm,Qo,true_and,Qp,Qr,Qs,Qt,Qv,Rb,Rh,Rj]
 generalize newObj s (R 56 0 false [.bool false,.slice none 0 (some 0),.slice none 0 (some 0),.map none])=s1 at *
 refine SB hE fun s2 v2 o2 r2=>?_
 have h2:=o2.1
 obtain⟨x,a,n,c,b,m,d,rfl⟩:=r2.shape
 obtain⟨n3,o3,g3⟩:=CC s2 (.map 3 [])
 have g4:(newObj s2 (.map 3 [])).heap.get s.next=some (R 56 0 false [.bool false,.slice none 0 (some 0),.slice none 0 (some 0),.map none]):=by
  rw[o3.2 _ (by omega),o2.2 _ (by omega)];exact g1
 simp only[jl,Option.bind_some,Xd,W2,Qd,Qm,Qo,true_and,Qr,Yc]
 generalize newObj s2 (.map 3 [])=s3 at *
 have st:=Ak (P:=Tryz.prog) (t:=56) (cs:=[.bool x,.slice a n c,.slice b m d,.map (some s2.next)]) Kt g4 rfl rfl rfl (by simp)
 have ld:=AT (P:=Tryz.prog) (t:=56) (s:=setObj s3 s.next (R 56 0 false [.bool x,.slice a n c,.slice b m d,.map (some s2.next)])) (i:=s.next) QE Kt (Ww _ _ _) rfl
 have o13:=o1.trans ((o2.trans (o3.mono h2)).mono o1.1)
 simp only[st,ld,AQ,Xy,Za,Qj,Qm,Qr,Rk,Rn,Yc]
 refine hK _ _ s2.next (o13.set (xZ _) _) ⟨_,_,_,_,_,_,_,rfl,((r2.old o3).set (by omega) _).mono (by omega),tu,⟨?_,by omega,by show s2.next<s3.next;omega,fun t ht=>(by cases ht),List.nodup_nil,.nil⟩,fun t ht=>by cases ht⟩
 rw[Wx _ (by omega)];exact g3
theorem iH(hE:GoodN E){va:AV}{a c o:Rat}{ka kc ko pc po:Nat}{cc co:List AV}(ha:QI s va a ka)(hc:QI s (.agg cc) c kc)(ho:QI s (.agg co) o ko)(gc:s.heap.get pc=some (R 26 0 false cc))(go:s.heap.get po=some (R 26 0 false co))(hpc:pc<s.next)(hpo:po<s.next)
  (hka:1≤ka) (hkc:1≤kc) (hko:1≤ko) (hk:2 * (ka+(kc+ko))+1≤1000000000) {K:AV→AE→Prop} (hK:∀s' v,Af s.next s s'→QR s.next s' v (a+c * o)→K v s'):WF E 73 [va,.ptr (some (pc,0)),.ptr (some (po,0))] K s:=by
 have hcl:cc.length=3:=by obtain⟨_,_,_,_,_,_,_,e⟩:=hc.shape;injection e with e;rw[e];rfl
 have hol:co.length=3:=by obtain⟨_,_,_,_,_,_,_,e⟩:=ho.shape;injection e with e;rw[e];rfl
 have hqc:=hc.qh hkc
 have hqo:=ho.qh hko
 obtain⟨x1,a1,n1,c1,b1,m1,d1,rfl⟩:=ha.shape
 refine hE.go sa (by decide) rfl ?_
 obtain⟨n2,o1,g1,g2⟩:=EO s (BQ x1 (.slice a1 n1 c1) (.slice b1 m1 d1)) ZQ
 simp only[xJ,oY,oZ,Xa,Xh,CE,Xc,Aq,Qa,Qb,Qc,Qd,Qf,Qh,Qj,Qk,Ql,Qm,Qo,true_and,Qp,Qq,Qr,Qs,Qt,Qv,Rb,Rh,Rj]
 generalize newObj (newObj s (BQ x1 (.slice a1 n1 c1) (.slice b1 m1 d1))) ZQ=s1 at *
 have l1:=AT (P:=Tryz.prog) (t:=26) Bt A9 g1 rfl
 have l2:=AT (P:=Tryz.prog) (t:=26) Bt A9 ((o1.2 pc hpc).trans gc) hcl
 have l3:=AT (P:=Tryz.prog) (t:=26) Bt A9 ((o1.2 po hpo).trans go) hol
 simp only[l1,l2,l3,Qm]
 refine Pk hE (hc.old o1) (ho.old o1) hkc hko (by omega) fun s2 v2 o2 r2=>?_
 have h2:=o2.1
 have f1:=(o2.2 s.next (by omega)).trans g1
 refine⟨⟨As (by simp only[Qj,Qk,Qr,Qs];exact AT Bt A9 f1 rfl) (Cr _ _ _ _ _ _ _),trivial⟩,?_⟩
 simp only[Qr,Qs]
 have o12:=o1.trans (o2.mono o1.1)
 refine Pj hE (ha.old o12) (r2.qi (hqc.mul hqo)) hka (by omega) hk fun s3 v3 o3 r3=>?_
 obtain⟨x3,a3,n3,c3,b3,m3,d3,rfl⟩:=r3.shape
 obtain⟨st,ld⟩:=CG (cs0:=[.bool false,.slice none 0 (some 0),.slice none 0 (some 0)]) rfl (x:=x3) (a:=a3) (n:=n3) (c:=c3) (b:=b3) (m:=m3) (d:=d3) ((o3.2 (s.next+1) (by omega)).trans ((o2.2 (s.next+1) (by omega)).trans g2))
 simp only[st,ld,AQ,Xy,Za,Qd,Qj,Qm,Qo,true_and,Qr,Qs,Rk,Rn,Yc]
 exact hK _ _ ((o12.trans (o3.mono o12.1)).set (by omega) _) ((r3.set (by omega) _).mono (by omega))
end
theorem Pi:Tryz.prog.follows .mixedOrders=true:=by kernel_rfl
theorem MZ:MY Tryz.prog=true:=by kernel_rfl
theorem No:GoodN (vS Tryz.prog):=⟨rfl,fun _ _ _ _=>rfl⟩
def jn:List AV→Option (List Nat)
 | []=>some []
 | .int .u32 (.ofNat x)::l=>AP (Nat.blt x LB) ((jn l).bind fun r=>some (x::r))
 | _=>none
theorem V8:∀ {cs:List AV}{l:List Nat},jn cs=some l→cs=us l∧Be l
 | [],l,h=>by
  injection h with h
  subst h
  exact⟨rfl,fun x hx=>by cases hx⟩
 | v::cs,l,h=>by
  unfold jn at h
  split at h
  ·rename_i e;cases e
  ·rename_i x l' e
   injection e with e1 e2
   subst e1;subst e2
   obtain⟨h1,h2⟩:=AD h
   simp only[xY]at h2
   obtain⟨r,h3,h4⟩:=h2
   injection h4 with h4
   subst h4
   obtain⟨h5,h6⟩:=V8 h3
   refine⟨by rw[h5];rfl,fun y hy=>?_⟩
   rcases List.mem_cons.1 hy with rfl | hy
   ·simpa[yI]using h1
   ·exact h6 y hy
  ·cases h
def Mr(s:AE):AV→Option (List Nat)
 | .slice none n (some c)=>AP (Nat.beq n 0 && Nat.beq c 0) (some [])
 | .slice (some (i,o)) n cap=>AP (Nat.blt i s.next) <| (rowAt s i).bind fun r=>AP (Nat.ble (o+n) r.n && (match cap with | some c=>Nat.ble n c | none=>Nat.beq r.sz 1)) <| (r.c.take o n).bind jn
 | _=>none
theorem jd{s:AE}{i:Nat}{r:D2}(h:s.heap.get i=some (.row r)):(frz s.next s.heap).heap.get i=some (.row { r with mode:=.ro,par:=none }):=by
 unfold frz
 simp only[AZ.get_mapO,h]
 rfl
theorem HO       {s : AE}  {v : AV} {l : List Nat} (h : Mr    s v = some l) : Bo  (frz s.next s.heap) v l ∧ Be  l := by
  unfold Mr at h
  split at h
  · obtain⟨h1,h2⟩:=AD h
    simp only[Bool.and_eq_true]at h1
    injection h2 with h2
    subst h2
    have e1:=yD h1.1
    have e2:=yD h1.2
    subst e1;subst e2
    exact⟨⟨none,some 0,rfl,.inl ⟨0,rfl,xZ _,fun _=>rfl⟩,AU.nil⟩,fun x hx=>by cases hx⟩
  · rename_i i o n cap
    obtain⟨h1,h2⟩:=AD h
    simp only[xY]at h2
    obtain⟨r,h3,h4⟩:=h2
    obtain⟨h5,h6⟩:=AD h4
    simp only[xY]at h6
    obtain⟨cs,h7,h8⟩:=h6
    obtain⟨rfl,hsm⟩:=V8 h8
    simp only[Bool.and_eq_true]at h5
    have hle:o+n≤r.n:=by simpa[xo]using h5.1
    have hlt:i<s.next:=by simpa[yI]using h1
    have hlen:l.length=n:=by have:=AZ.take_length h7;rw[DS]at this;exact this
    have hg:=jd (Bg h3)
    refine⟨⟨some (i,o),cap,by rw[hlen],?_,fun k u hk=>⟨i,o,rfl,hlt,?_⟩⟩,hsm⟩
    · rw[hlen]
      cases cap with
      | some c=>exact .inl ⟨c,rfl,by simpa[xo]using h5.2,fun e=>by cases e⟩
      | none=>exact .inr ⟨rfl,i,o,_,rfl,hlt,hg,yD h5.2,hle⟩
    · have hkn:k<n:=by
        rw[← hlen,← DS]
        rcases xf k (us l).length with h' | h'
        · exact h'
        · rw[xr h']at hk;cases hk
      have:=AZ.take_get h7 k hkn
      unfold DA rowAt
      rw[hg]
      simp only[Option.bind_some,AP,show Nat.blt (o+k) r.n=true from by simp[yI];omega,cond_true]
      rw[this];exact hk
  · cases h
def Ms(s:AE):AV→Option Rat
 | .agg [.bool neg,m,d]=>(Mr s m).bind fun lm=>(Mr s d).bind fun ld=>AP (Nat.ble lm.length 1000 && Nat.ble ld.length 1000) (some (Cb neg (AG lm) (AG ld)))
 | _=>none
theorem HP{s:AE}{v:AV}{q:Rat}(h:Ms s v=some q):QI (frz s.next s.heap) v q 1000:=by
 unfold Ms at h
 split at h
 ·rename_i neg m d
  simp only[xY]at h
  obtain⟨lm,h1,ld,h2,h3⟩:=h
  obtain⟨h4,h5⟩:=AD h3
  injection h5 with h5
  simp only[Bool.and_eq_true,xo]at h4
  obtain⟨q1,q2⟩:=HO h1
  obtain⟨q3,q4⟩:=HO h2
  exact⟨neg,m,d,lm,ld,rfl,q1,q3,q2,q4,h4.1,h4.2,h5⟩
 ·cases h
def PU:Nat→Nat→List Nat
 | 0,_=>[]
 | f+1,n=>bif Nat.beq n 0 then []else n % LB::PU f (n / LB)
theorem LG:∀ (f n:Nat),n<LB ^ f→PU f n=AJ n
 | 0,n,h=>by
  have:n=0:=by simpa using h
  rw[this,A8];rfl
 | f+1,n,h=>by
  unfold PU
  by_cases h0:n=0
  ·subst h0;rw[A8];rfl
  ·rw[show Nat.beq n 0=false from Dl h0,cond_false,EK h0,LG f (n / LB) (by rw[yu BO];rwa[yJ]at h)]
def Xk(s:AE)(q:Rat):Option (AV×AE):=
 AP (Nat.blt q.num.natAbs (LB ^ 8) && Nat.blt q.den (LB ^ 8)) (some (.agg [.bool (NE q.num 0),(Ib s (PU 8 q.num.natAbs)).1,(Ib (Ib s (PU 8 q.num.natAbs)).2 (PU 8 q.den)).1],(Ib (Ib s (PU 8 q.num.natAbs)).2 (PU 8 q.den)).2))
theorem NR.slotV{b:Nat}{s:AE}{v:AV}{l:List Nat}(h:NR b s v l)(h0:l=[]→v=.slice none 0 (some 0)):LU b s v l:=by
 by_cases hl:l=[]
 ·exact .inl ⟨hl,h0 hl⟩
 ·refine .inr ⟨hl,?_⟩
  have h1:=h
  obtain⟨O,_,_,q3,q4⟩:=h
  obtain⟨i,rfl,hi,r,hg,hh,hm,hsz,_⟩:=q4 hl
  obtain⟨r',hg',hel⟩:=h1.u32 hl (j:=i) rfl
  rw[hg]at hg'
  injection hg' with hg'
  injection hg' with hg'
  subst hg'
  exact⟨i,rfl,q3 i rfl,r,hg,hh,hm,hsz,hel⟩
theorem LU.obj{b:Nat}{s:AE}{v:AV}{l:List Nat}(h:LU b s v l){i:Nat}(hi:By v=some i):∃o,s.heap.get i=some o∧wr o=true∧b≤i:=by
 rcases h with⟨_,rfl⟩ | ⟨_,j,rfl,hb,r,hg,_,hm,_⟩
 ·cases hi
 ·injection hi with hi
  subst hi
  exact⟨_,hg,hm,hb⟩
section
variable{ρ:BU}{s:AE}{w:World}
theorem V1{f:FuncId}{xs:List AV}{xs':Array Value}(h:Ba Tryz.prog ρ s w)(hf:BA ρ s)(hxs:AX ρ xs xs'.toList){K:AV→AE→Prop}(hw:WF (vS Tryz.prog) f xs K (frz s.next s.heap)){Q:Ending→World→Prop}
  (hQ:∀v0 s0 ρ' v' w',K v0 s0→Ab ρ' v0 v'→Ba Tryz.prog ρ' s0 w'→Ba Tryz.prog ρ s w'→Fr ρ s w ρ s w'→(∀i o rb,s0.heap.get i=some o→wr o=true→ρ' i=some rb→w.heap.size≤rb.b)→Q (.returned v') w'):
  (∃fn c,Tryz.prog.funcs[f]? = some fn∧fn.body=some c)∧CallsIn Fence.wide 0 Tryz.prog f xs' w Q:=by
 obtain⟨n,p,hrun,hK⟩:=hw
 have hcall:=(wI Pi (IW MZ) rfl (fu Tryz.prog) n).call ρ (frz s.next s.heap) w f xs p.1 p.2 xs' hrun (h.frz _) hf.frz hxs
 refine⟨hcall.1,CallsIn.mono hcall.2 ?_⟩
 intro e w' he
 cases e with
 | panicked c=>exact he.elim
 | outgrown=>exact he.elim
 | returned v' =>
  obtain⟨ρ',k1,k2,k3⟩:=he
  obtain⟨g1,g2⟩:=h.grown (w1:=w') ⟨k3.os,k3.tape,k3.output,k3.size,fun b hb _=>k3.keep b hb (Jx Tryz.prog _ _ b)⟩
  refine hQ p.1 p.2 ρ' v' w' hK k1 k2 g1 g2 fun i o rb hi hwr hr=>?_
  rcases k3.own rb.b ⟨i,o,rb,hi,hwr,hr,rfl⟩with h' | h'
  ·exact absurd h' (Jx Tryz.prog _ _ _)
  ·exact h'
theorem JK{f:FuncId}{xs:List AV}{xs':Array Value}(h:Ba Tryz.prog ρ s w)(hf:BA ρ s)(hxs:AX ρ xs xs'.toList){q:Rat}(hw:WF (vS Tryz.prog) f xs (fun v s'=>QR s.next s' v q) (frz s.next s.heap)){v:AV}{s1:AE}(hp:Xk s q=some (v,s1)):
    (∃fn c,Tryz.prog.funcs[f]? = some fn∧fn.body=some c)∧CallsIn Fence.wide 0 Tryz.prog f xs' w (FZ Tryz.prog ρ s w v s1):=by
  refine V1 h hf hxs hw fun v0 s0 ρ' v' w' hK hv hi hs hfr hge=>?_
  obtain⟨g1,g2⟩:=AD hp
  simp only[Bool.and_eq_true,yI]at g1
  rw[LG 8 _ g1.1,LG 8 _ g1.2]at g2
  injection g2 with g2
  injection g2 with e1 e2
  obtain⟨m,d,rfl,hm,hd,hdj,hz⟩:=hK
  have sm:LU s.next s0 m (AJ q.num.natAbs):=hm.slotV fun e=>hz (by
    rcases yX q.num.natAbs with h' | h'
    · omega
    · exact absurd e (Br (by omega)))
  have sd:LU s.next s0 d (AJ q.den):=hd.slotV fun e=>absurd e (Br q.den_nz)
  cases hv with
  | agg hv =>
  rename_i cs'
  obtain⟨lc⟩:=cs'
  cases hv with
  | cons hb hv =>
  cases hv with
  | cons hvm hv =>
  cases hv with
  | cons hvd hv =>
  cases hv
  obtain⟨ρ1,a1,a2,a3,a4,a5,a6⟩:=Mo (w0:=w) sm hi hvm (fun i o rb _ hio hwo hr=>hge i o rb hio hwo hr) hs (hf.step hfr) hfr (fun i rb hsl hr j oj rj hj hrj=>by
    obtain⟨o,hg,hwo,_⟩:=sm.obj hsl
    have h1:=hge i o rb hg hwo hr
    have h2:=h.lt j rj hrj
    omega)
  obtain⟨ρ2,b1,b2,b3,b4,b5,_⟩:=Mo (w0:=w) sd hi hvd (fun i o rb _ hio hwo hr=>hge i o rb hio hwo hr) a1 a2 a3 (fun i rb hsl hr j oj rj hj hrj=>by
    obtain⟨o,hg,hwo,_⟩:=sd.obj hsl
    rcases a6 j oj rj hj hrj with⟨o1,_,h2⟩ | ⟨i2,rb2,hs2,hr2,e⟩
    · have h1 := hge i o rb hg hwo hr
      have h3:=h.lt j rj h2
      omega
    · obtain⟨o2,hg2,hwo2,_⟩:=sm.obj hs2
      intro hbb
      have hne:i≠i2:=fun e=>by subst e;exact hdj i hs2 hsl
      have:=(hi.sep i i2 o o2 rb rb2 hne hg hg2 hr hr2 (by rw[← hbb,e]) hwo2).2
      rw[hwo]at this
      cases this)
  subst e1;subst e2
  refine⟨ρ2,.agg (.cons ?_ (.cons (a5.mono b4) (.cons b5 .nil))),b1,b3⟩
  rw[DD]
  exact E8 rfl hb
end
def qj(s:AE):List AV→Option (AV×AE)
 | [x,y]=>(Ms s x).bind fun a=>(Ms s y).bind fun b=>Xk s (a+b)
 | _=>none
def qk(s:AE):List AV→Option (AV×AE)
 | [x,y]=>(Ms s x).bind fun a=>(Ms s y).bind fun b=>Xk s (a * b)
 | _=>none
def fj(s:AE):List AV→Option (AV×AE)
 | [x]=>(Ms s x).bind fun a=>Xk s a
 | _=>none
def ql(s:AE):List AV→Option (AV×AE)
 | [.agg [.bool neg,m],d]=>(Mr s m).bind fun lm=>(Mr s d).bind fun ld=>AP (Nat.ble lm.length 1000 && Nat.ble ld.length 1000 && Nat.blt 0 (AG ld)) (Xk s (mkRat (Bx neg (AG lm)) (AG ld)))
 | _=>none
def fi(s:AE):List AV→Option (AV×AE)
 | [.int .i64 n]=>bif NF n 0 || (NF n 1 || NF n (-1))then Xk s (n:Rat)else none
 | _=>none
def fk(s:AE):List AV→Option (AV×AE)
 | [v]=>(Mr s v).bind fun l=>AP (Nat.ble l.length 1000 && Nat.blt 0 (AG l) && Nat.blt (AG l) (LB ^ 8)) (some (Ib s (PU 8 (AG l))))
 | _=>none
def tL:P9:=fun f xs s =>
 bif Nat.beq f 27 then qj s xs else bif Nat.beq f 29 then qk s xs else bif Nat.beq f 69 then fj s xs else
 bif Nat.beq f 70 then ql s xs else bif Nat.beq f 52 then fi s xs else bif Nat.beq f 92 then fk s xs else none
section
variable{ρ:BU}{s:AE}{w:World}
theorem jz{f:FuncId}{xs:List AV}{xs':Array Value}(h:Ba Tryz.prog ρ s w)(hf:BA ρ s)(hxs:AX ρ xs xs'.toList){l:List Nat}(hl:l≠[])(hw:WF (vS Tryz.prog) f xs (fun v s'=>NR s.next s' v l) (frz s.next s.heap)):
  (∃fn c,Tryz.prog.funcs[f]? = some fn∧fn.body=some c)∧CallsIn Fence.wide 0 Tryz.prog f xs' w (FZ Tryz.prog ρ s w (Ib s l).1 (Ib s l).2):=by
 refine V1 h hf hxs hw fun v0 s0 ρ' v' w' hK hv hi hs hfr hge=>?_
 have sm:LU s.next s0 v0 l:=hK.slotV fun e=>absurd e hl
 obtain⟨ρ1,a1,a2,a3,a4,a5,a6⟩:=Mo (w0:=w) sm hi hv (fun i o rb _ hio hwo hr=>hge i o rb hio hwo hr) hs (hf.step hfr) hfr (fun i rb hsl hr j oj rj hj hrj=>by
  obtain⟨o,hg,hwo,_⟩:=sm.obj hsl
  have h1:=hge i o rb hg hwo hr
  have h2:=h.lt j rj hrj
  omega)
 exact⟨ρ1,a5,a1,a3⟩
theorem jq      : Ei     Tryz.prog tL   := by
  intro ρ s w f xs v s1 xs' hc h hf ha
  unfold tL at hc
  have nx:(frz s.next s.heap).next=s.next:=rfl
  cases h1:Nat.beq f 27 with
  | true =>
    rw[h1]at hc
    have:=yD h1
    subst this
    rw[cond_true]at hc
    unfold qj at hc
    split at hc
    · simp only[xY]at hc
      obtain⟨a,ha',b,hb',hp⟩:=hc
      exact JK h hf ha (Pj No (HP ha') (HP hb') (by decide) (by decide) (by decide) fun s' v _ hv=>hv) hp
    · cases hc
  | false =>
  rw[h1,cond_false]at hc
  cases h2:Nat.beq f 29 with
  | true =>
    rw[h2]at hc
    have:=yD h2
    subst this
    rw[cond_true]at hc
    unfold qk at hc
    split at hc
    · simp only[xY]at hc
      obtain⟨a,ha',b,hb',hp⟩:=hc
      exact JK h hf ha (Pk No (HP ha') (HP hb') (by decide) (by decide) (by decide) fun s' v _ hv=>hv) hp
    · cases hc
  | false =>
  rw[h2,cond_false]at hc
  cases h3:Nat.beq f 69 with
  | true =>
    rw[h3]at hc
    have:=yD h3
    subst this
    rw[cond_true]at hc
    unfold fj at hc
    split at hc
    · simp only[xY]at hc
      obtain⟨a,ha',hp⟩:=hc
      exact JK h hf ha (HN No (HP ha') (by decide) fun s' v _ hv=>hv) hp
    · cases hc
  | false =>
  rw[h3,cond_false]at hc
  cases h4:Nat.beq f 70 with
  | true =>
    rw[h4]at hc
    have:=yD h4
    subst this
    rw[cond_true]at hc
    unfold ql at hc
    split at hc
    · simp only[xY]at hc
      obtain⟨lm,hm,ld,hd,hp⟩:=hc
      obtain⟨hg,hp⟩:=AD hp
      simp only[Bool.and_eq_true,xo,yI]at hg
      obtain⟨⟨g1,g2⟩,g3⟩:=hg
      obtain⟨m1,m2⟩:=HO hm
      obtain⟨d1,d2⟩:=HO hd
      exact JK h hf ha (FP No (kn:=1000) ⟨_,_,lm,rfl,m1,m2,g1,rfl⟩ d1 (by decide) (by omega) d2 (by omega) fun s' v _ hv=>hv) hp
    · cases hc
  | false =>
  rw[h4,cond_false]at hc
  cases h5:Nat.beq f 52 with
  | true =>
    rw[h5]at hc
    have:=yD h5
    subst this
    rw[cond_true]at hc
    unfold fi at hc
    split at hc
    · rename_i n
      cases hn:NF n 0 || (NF n 1 || NF n (-1))with
      | false=>rw[hn]at hc;cases hc
      | true =>
        rw[hn,cond_true]at hc
        simp only[Bool.or_eq_true,Em,beq_iff_eq]at hn
        exact JK h hf ha (JL No hn fun s' v _ hv=>hv) hc
    · cases hc
  | false =>
  rw[h5,cond_false]at hc
  cases h6:Nat.beq f 92 with
  | true =>
    rw[h6]at hc
    have:=yD h6
    subst this
    rw[cond_true]at hc
    unfold fk at hc
    split at hc
    · simp only[xY]at hc
      obtain⟨l,hl,hp⟩:=hc
      obtain⟨hg,hp⟩:=AD hp
      simp only[Bool.and_eq_true,xo,yI]at hg
      obtain⟨⟨g1,g2⟩,g3⟩:=hg
      obtain⟨l1,l2⟩:=HO hl
      rw[LG 8 _ g3]at hp
      injection hp with hp
      have e1:(Ib s (AJ (AG l))).1=v:=by rw[hp]
      have e2:(Ib s (AJ (AG l))).2=s1:=by rw[hp]
      rw[← e1,← e2]
      refine jz h hf ha (Br (by omega)) (C6 No l1 (by omega) fun s' v' _ hv=>?_)
      rw[B0 l2]at hv
      exact hv
    · cases hc
  | false =>
    rw[h6]at hc
    cases hc
end
end
end Go.Proofs.YtjnkfbpadpmakaaGreatDoor.Am
set_option linter.unusedVariables false
set_option linter.unusedSimpArgs false
namespace Go.Proofs.YtjnkfbpadpmakaaGreatDoor.Am
open Go Go.Proofs Go.RowKit
noncomputable section
theorem gW(m:Nat):AnyZI.SortsIn Tryz.prog HF Fence.wide m:=
  ⟨fun blk off cap ss W hH hblk hsz=>callsIn_wide.2 (AnyM.slices_Sort_int R4 blk off cap ss W hH hblk hsz),
   fun p cap W=>callsIn_wide.2 (AnyM.slices_Sort_int_none R4 p cap W)⟩
theorem kG:U6 Tryz.prog 78 121 3 3:=by
  refine⟨fun Bm b nn D0 w hBm hm hown hsz=>?_,fun Bm w hBm hm=>?_⟩
  · have hseq := AnyZI.keys_gives (ρ := GV)           { R3       with } Fence.wide 2 trivial rfl (by omega) Bm b nn D0 w hBm hm hown
    have cS:=AnyZI.sorted_in MG Fence.wide 5 trivial trivial trivial trivial rfl (by omega) (gW _) (enters_of Tryz.func120 (by kernel_rfl) rfl) 121 #[.pointer (some ⟨Bm,0,none⟩)] trivial (enters_of Tryz.func121 (by kernel_rfl) rfl) _ _ (xh hsz (by unfold maxLen;omega)) (by omega) _ hseq
    exact callsIn_wide.1 cS
  · have hseq := AnyZI.keys_gives_nil (ρ := GV)           { R3       with } Fence.wide 2 trivial rfl Bm w hBm hm
    have cS:=AnyZI.sorted_in MG Fence.wide 5 trivial trivial trivial trivial rfl (by omega) (gW _) (enters_of Tryz.func120 (by kernel_rfl) rfl) 121 #[.pointer (some ⟨Bm,0,none⟩)] trivial (enters_of Tryz.func121 (by kernel_rfl) rfl) _ 0 (xg _) (by omega) _ hseq
    refine(callsIn_wide.1 cS).mono ?_
    rintro e w' ⟨v,ss,rfl,hS,_,hnil,hb⟩
    rw[hnil.2 hS]
    exact⟨rfl,hb⟩
def UZ:P9:=fun f xs s=>bif Nat.beq f 78 then GB 121 3 3 s xs else none
theorem WD:Ei Tryz.prog UZ:=by
 intro ρ s w f xs v s1 xs' hc hi hf ha
 unfold UZ at hc
 cases h2:Nat.beq f 78 with
 | true =>
  rw[h2]at hc
  have:=yD h2
  subst this
  exact⟨⟨_,_,Tryz.func78,rfl⟩,Sp (by kernel_rfl) Tryz.underlying3 kG hi hf hc ha⟩
 | false=>rw[h2]at hc;cases hc
def tM:P9:=fun f xs s=>match UZ f xs s with
 | some p=>some p
 | none=>tL f xs s
theorem jr:Ei Tryz.prog tM:=by
 intro ρ s w f xs v s1 xs' hc hi hf ha
 unfold tM at hc
 cases h:UZ f xs s with
 | some p=>rw[h]at hc;injection hc with hc;subst hc;exact WD ρ s w f xs v s1 xs' h hi hf ha
 | none=>rw[h]at hc;exact jq ρ s w f xs v s1 xs' hc hi hf ha
def wD:CU:=⟨Tryz.prog,tM⟩
end
end Go.Proofs.YtjnkfbpadpmakaaGreatDoor.Am
set_option linter.unusedVariables false
set_option linter.unusedSimpArgs false
namespace Go.Proofs.YtjnkfbpadpmakaaGreatDoor.Am
open Go
noncomputable section
def LK(fs:List FuncId)(T:List Row):P9:=fun f xs s=>bif fs.any (Nat.beq f)then (Vz T f xs).bind fun r=>some (r,s)else none
theorem Ua         {P : Program} (hm : P.follows .mixedOrders = true) (hng : Ev      P) {E : CU}  (hE : E.P = P) (hnat : Ei     P E.nat) {n : Nat} {fs : List FuncId} {T : List Row}
    (hT:∀r∈T,Jw r.args=true∧Nl r.res=true∧qw r.res ((ER E n).call r.f r.args ⟨0,.leaf⟩)=true):Ei P (LK fs T):=by
  intro ρ s w f xs v s1 as' hc h hf ha
  unfold LK at hc
  cases hfs:fs.any (Nat.beq f)with
  | false=>rw[hfs]at hc;cases hc
  | true =>
    rw[hfs]at hc
    simp only[cond_true,xY]at hc
    obtain⟨u,hu,hc⟩:=hc
    injection hc with hc
    injection hc with e1 e2
    subst e1;subst e2
    obtain⟨r,hr,rfl,rfl,rfl⟩:=L9 hu
    obtain⟨p1,p2,p3⟩:=hT r hr
    cases hrun:(ER E n).call r.f r.args ⟨0,.leaf⟩with
    | none=>rw[hrun]at p3;cases p3
    | some p =>
      obtain⟨v0,s2⟩:=p
      rw[hrun]at p3
      have hv0:r.res=v0:=L4 (show Fl r.res v0=true from p3)
      subst hv0
      let ρ0:BU:=fun _=>none
      have hinv:Ba P ρ0 ⟨0,.leaf⟩ w:=
        ⟨fun i o x hi hx=>(by cases hx),fun i x hx=>(by cases hx),fun i j oi oj ri rj hne hi hj hri hrj=>(by cases hri),fun i o g' hi _=>(by cases (show(AZ.leaf:AZ BD).get i=some o from hi))⟩
      have hfr:BA ρ0 ⟨0,.leaf⟩:=fun i hi=>⟨rfl,rfl⟩
      have hcall:=(wI hm hng hE hnat n).call ρ0 ⟨0,.leaf⟩ w r.f r.args r.res s2 as' hrun hinv hfr (IQ p1 ha)
      refine⟨hcall.1,CallsIn.mono hcall.2 ?_⟩
      intro e w' he
      cases e with
      | panicked c=>exact he.elim
      | outgrown=>exact he.elim
      | returned v' =>
        obtain⟨ρ',k1,k2,k3⟩:=he
        have hno:∀b,¬ Gi ρ0 (⟨0,.leaf⟩:AE) b:=by
          rintro b ⟨i,o,x,hi,hw,hx,_⟩
          cases hx
        obtain⟨g1,g2⟩:=h.grown (w1:=w') ⟨k3.os,k3.tape,k3.output,k3.size,fun b hb' _=>k3.keep b hb' (hno b)⟩
        exact⟨ρ,E8 p2 k1,g1,g2⟩
end
end Go.Proofs.YtjnkfbpadpmakaaGreatDoor.Am
