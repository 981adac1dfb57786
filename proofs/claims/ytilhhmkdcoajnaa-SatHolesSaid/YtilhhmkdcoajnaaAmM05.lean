/- The compiled code of the solver, printed by a program of ours (dev/Print.lean) and checked by the kernel; conditions: none. -/
import Derived.Test.YtilhhmkdcoajnaaAmM04
set_option linter.unusedVariables false
set_option linter.unusedSimpArgs false
namespace Go.Proofs.Ytilhhmkdcoajnaa.Am
open Go Go.Proofs
noncomputable section
theorem Dg:Fy Try.prog 44=some false:=by kernel_rfl
theorem Gz:BD Try.prog 88=some 1:=by kernel_rfl
theorem iO:Fy Try.prog 88=some false:=by kernel_rfl
theorem EB:BD Try.prog 89=some 1:=by kernel_rfl
theorem jm:Cf Try.prog 89=some 24:=by kernel_rfl
theorem Jr:Fy Try.prog 89=some false:=by kernel_rfl
theorem jT:CL Try.prog 89=some (.slice none 0 (some 0)):=by kernel_rfl
theorem kF:CL Try.prog 91=some (.agg [(.slice none 0 (some 0)),(.slice none 0 (some 0)),(.slice none 0 (some 0)),(.slice none 0 (some 0)),(.slice none 0 (some 0)),(.slice none 0 (some 0)),(.slice none 0 (some 0)),(.slice none 0 (some 0)),(.slice none 0 (some 0)),(.int .i64 (0)),(.bool false),(.slice none 0 (some 0)),(.slice none 0 (some 0)),(.int .i64 (0)),(.int .i64 (0))]):=by kernel_rfl
theorem El:BD Try.prog 92=some 1:=by kernel_rfl
theorem Uv:Cf Try.prog 92=some 8:=by kernel_rfl
theorem KK:Fy Try.prog 92=some false:=by kernel_rfl
theorem SQ:CL Try.prog 92=some (.ptr none):=by kernel_rfl
theorem fA:CL Try.prog 104=some (.agg [(.slice none 0 (some 0)),(.bool false),(.bool false)]):=by kernel_rfl
theorem jP:BD Try.prog 115=some 1:=by kernel_rfl
theorem Nz:Fy Try.prog 115=some false:=by kernel_rfl
theorem jS:CL Try.prog 115=some (.map none):=by kernel_rfl
theorem jQ:BD Try.prog 119=some 0:=by kernel_rfl
theorem Yx:CL Try.prog 119=some (.agg []):=by kernel_rfl
def dW:List AA:=[
 ⟨none,.p1 some,[(.const (.int .i64 (0)))],(.set 1),[]⟩]
def dX:List AA:=[
 ⟨none,.p1 (G3 Try.prog Go.UnOp.neg),[.var 0],.push,[]⟩,
 ⟨none,.p (fun l=>match l with | v::l=>D8 true v l | []=>none),[.var 0,.loc 0],.push,[]⟩,
 ⟨none,.p1 some,[.loc 0],(.set 1),[]⟩]
def ke:As:=⟨1,2,(.seq (.ops dW) (.seq (.ops dX) .ret)),[((.var 1),none)]⟩
def W8:List AA:=[
 ⟨none,.p1 some,[(.const (.int .i64 (0)))],(.set 1),[]⟩]
def W9:List AA:=[
 ⟨none,.p2 (AM Try.prog .lss 3),[(.var 0),(.const (.int .i64 (0)))],(.set 2),[]⟩]
def dY:List AA:=[
 ⟨none,.p2 (AM Try.prog .mul 3),[(.const (.int .i64 (2))),(.var 0)],.push,[]⟩,
 ⟨none,.p2 (AM Try.prog .sub 3),[(.const (.int .i64 (1))),(.loc 0)],.push,[]⟩,
 ⟨none,.p1 some,[.loc 0],(.set 1),[]⟩]
def dZ:List AA:=[
 ⟨none,.p2 (AM Try.prog .mul 3),[(.const (.int .i64 (2))),(.var 0)],.push,[]⟩,
 ⟨none,.p1 some,[.loc 0],(.set 1),[]⟩]
def jv:As:=⟨1,3,(.seq (.ops W8) (.seq (.seq (.ops W9) (.cond (.var 2)
 (.seq (.ops dY) .ret)
 .skip)) (.seq (.ops dZ) .ret))),[((.var 1),none)]⟩
def Ww:List AA:=[
 ⟨none,.p1 some,[(.const (.int .i64 (0)))],(.set 2),[]⟩]
def Wx:List AA:=[
 ⟨none,.p2 (AM Try.prog .lss 3),[(.var 1),(.const (.int .i64 (0)))],(.set 3),[]⟩]
def dN:List AA:=[
 ⟨none,.p1 AE,[.var 0],.push,[]⟩,
 ⟨none,.p1 (fun x=>AB Try.prog 91 x 2),[.loc 0],.push,[]⟩,
 ⟨none,.r1 (fun s a=>AC Try.prog s 23 a),[.loc 0],.push,[]⟩,
 ⟨none,.p1 (G3 Try.prog Go.UnOp.neg),[.var 1],.push,[]⟩,
 ⟨none,.p2 (AD Try.prog 23),[.loc 1,.loc 0],.push,[]⟩,
 ⟨none,.r1 (fun s a=>AC Try.prog s 3 a),[.loc 0],.push,[]⟩,
 ⟨none,.p1 (G3 Try.prog Go.UnOp.neg),[.loc 0],.push,[]⟩,
 ⟨none,.p1 some,[.loc 0],(.set 2),[]⟩]
def dO:List AA:=[
 ⟨none,.p1 AE,[.var 0],.push,[]⟩,
 ⟨none,.p1 (fun x=>AB Try.prog 91 x 2),[.loc 0],.push,[]⟩,
 ⟨none,.r1 (fun s a=>AC Try.prog s 23 a),[.loc 0],.push,[]⟩,
 ⟨none,.p2 (AD Try.prog 23),[.loc 0,.var 1],.push,[]⟩,
 ⟨none,.r1 (fun s a=>AC Try.prog s 3 a),[.loc 0],.push,[]⟩,
 ⟨none,.p1 some,[.loc 0],(.set 2),[]⟩]
def jt:As:=⟨2,4,(.seq (.ops Ww) (.seq (.seq (.ops Wx) (.cond (.var 3)
 (.seq (.ops dN) .ret)
 .skip)) (.seq (.ops dO) .ret))),[((.var 2),none)]⟩
def dA:List AA:=[
 ⟨none,.call 90,[.var 1],.push,[]⟩,
 ⟨none,.p1 some,[.loc 0],(.set 3),[]⟩]
def dB:List AA:=[
 ⟨none,.p1 AE,[.var 0],.push,[]⟩,
 ⟨none,.p1 (fun x=>AB Try.prog 91 x 2),[.loc 0],.push,[]⟩,
 ⟨none,.r1 (fun s a=>AC Try.prog s 23 a),[.loc 0],.push,[]⟩,
 ⟨none,.p1 AE,[.var 0],.push,[]⟩,
 ⟨none,.p1 (fun x=>AB Try.prog 91 x 3),[.loc 0],.push,[]⟩,
 ⟨none,.r1 (fun s a=>AC Try.prog s 23 a),[.loc 0],.push,[]⟩,
 ⟨none,.p1 AE,[.var 0],.push,[]⟩,
 ⟨none,.p1 (fun x=>AB Try.prog 91 x 4),[.loc 0],.push,[]⟩,
 ⟨none,.r1 (fun s a=>AC Try.prog s 89 a),[.loc 0],.push,[]⟩,
 ⟨none,.p2 (AM Try.prog .quo 3),[.var 1,.var 3],.push,[]⟩,
 ⟨none,.p1 AE,[.var 0],.push,[]⟩,
 ⟨none,.p1 (fun x=>AB Try.prog 91 x 8),[.loc 0],.push,[]⟩,
 ⟨none,.r1 (fun s a=>AC Try.prog s 23 a),[.loc 0],.push,[]⟩,
 ⟨none,.r (fun s l=>match l with | [x]=>A6 Try.prog s 23 x | _=>none),[.loc 0],.push,[]⟩,
 ⟨none,.p2 (AD Try.prog 23),[.loc 11,.var 3],.push,[]⟩,
 ⟨none,.e (fun s=>BU (fun a x=>AX (AN Try.prog s 3 a x))),[.loc 0,.loc 5],.push,[⟨none,.r (fun s l=>match l with | [x]=>A6 Try.prog s 23 x | _=>none),[.loc 3],(.loc 2)⟩]⟩,
 ⟨none,.p2 (AD Try.prog 23),[.loc 10,.var 3],.push,[]⟩,
 ⟨none,.e (fun s=>BU (fun a x=>AX (AN Try.prog s 3 a x))),[.loc 0,.loc 3],.push,[]⟩,
 ⟨none,.p2 (AD Try.prog 89),[.loc 9,.var 3],.push,[]⟩,
 ⟨none,.e (fun s=>BU (fun a x=>AX (AN Try.prog s 92 a x))),[.loc 0,.var 2],.push,[]⟩]
def dC:List AA:=[
 ⟨none,.p1 AE,[.var 0],.push,[]⟩,
 ⟨none,.p1 (fun x=>AB Try.prog 91 x 7),[.loc 0],.push,[]⟩,
 ⟨none,.r1 (fun s a=>AC Try.prog s 23 a),[.loc 0],.push,[]⟩,
 ⟨none,.mk (fun l=>(Ab Try.prog 23 1 (zipIdx [0] l)).bind fun r=>some (r,.slice 1)),[.var 1],.push,[]⟩,
 ⟨none,.e (fun s l=>Ad Try.prog s [23,23] l),[.loc 1,.loc 0],.push,[]⟩,
 ⟨none,.p1 AE,[.var 0],.push,[]⟩,
 ⟨none,.p1 (fun x=>AB Try.prog 91 x 7),[.loc 0],.push,[]⟩,
 ⟨none,.e (fun s=>BU (fun a x=>AX (AN Try.prog s 23 a x))),[.loc 0,.loc 2],.push,[]⟩]
def kV:As:=⟨3,4,(.seq (.ops dA) (.seq (.ops dB) (.ops dC))),[]⟩
def dP:List AA:=[
 ⟨none,.p1 AE,[.var 1],.push,[]⟩,
 ⟨none,.p1 (fun x=>AB Try.prog 104 x 0),[.loc 0],.push,[]⟩,
 ⟨none,.r1 (fun s a=>AC Try.prog s 23 a),[.loc 0],.push,[]⟩,
 ⟨none,.r (Ai Try.prog 23 false true false),[(.loc 0),(.const (.int .i64 (2)))],(.set 3),[]⟩,
 ⟨none,.r (fun s l=>match l with | [x]=>A6 Try.prog s 23 x | _=>none),[.var 3],(.set 4),[]⟩,
 ⟨none,.p1 some,[(.const (.int .i64 (0)))],(.set 5),[]⟩]
def Sk:List AA:=[
 ⟨none,.p2 (AM Try.prog .lss 3),[.var 5,.var 4],(.set 6),[]⟩]
def Wy:List AA:=[
 ⟨none,.p2 (AD Try.prog 23),[.var 3,.var 5],.push,[]⟩,
 ⟨none,.r1 (fun s a=>AC Try.prog s 3 a),[.loc 0],.push,[]⟩,
 ⟨none,.p1 some,[.loc 0],(.set 2),[]⟩]
def Wz:List AA:=[
 ⟨none,.p1 AE,[.var 0],.push,[]⟩,
 ⟨none,.p1 (fun x=>AB Try.prog 91 x 0),[.loc 0],.push,[]⟩,
 ⟨none,.r1 (fun s a=>AC Try.prog s 88 a),[.loc 0],.push,[]⟩,
 ⟨none,.p1 AE,[.var 0],.push,[]⟩,
 ⟨none,.p1 (fun x=>AB Try.prog 91 x 0),[.loc 0],.push,[]⟩,
 ⟨none,.r1 (fun s a=>AC Try.prog s 88 a),[.loc 0],.push,[]⟩,
 ⟨none,.mk (fun l=>(Ab Try.prog 89 1 (zipIdx [0] l)).bind fun r=>some (r,.slice 1)),[.var 1],.push,[]⟩,
 ⟨none,.call 91,[.var 2],.push,[⟨none,.r1 (fun s a=>AC Try.prog s 88 a),[.loc 3],(.loc 2)⟩,⟨none,.r1 (fun s a=>AC Try.prog s 88 a),[.loc 6],(.loc 5)⟩]⟩,
 ⟨none,.call 91,[.var 2],.push,[⟨none,.r1 (fun s a=>AC Try.prog s 88 a),[.loc 4],(.loc 3)⟩,⟨none,.r1 (fun s a=>AC Try.prog s 88 a),[.loc 7],(.loc 6)⟩]⟩,
 ⟨none,.p2 (AD Try.prog 88),[.loc 3,.loc 0],.push,[]⟩,
 ⟨none,.r1 (fun s a=>AC Try.prog s 89 a),[.loc 0],.push,[]⟩,
 ⟨none,.e (fun s l=>Ad Try.prog s [89,89] l),[.loc 0,.loc 4],.push,[⟨none,.r1 (fun s a=>AC Try.prog s 88 a),[.loc 10],(.loc 9)⟩]⟩,
 ⟨none,.p2 (AD Try.prog 88),[.loc 9,.loc 4],.push,[]⟩,
 ⟨none,.e (fun s=>BU (fun a x=>AX (AN Try.prog s 89 a x))),[.loc 0,.loc 1],.push,[]⟩]
def W0:List AA:=[
 ⟨none,.p2 (AM Try.prog .add 3),[(.var 5),(.const (.int .i64 (1)))],.push,[]⟩,
 ⟨none,.p1 some,[.loc 0],(.set 5),[]⟩]
def L7:Aa:=(.seq (.ops Sk) (.seq (.cond (.var 6)
 .skip
 (.exit 0)) (.seq (.block 1 (.seq (.ops Wy) (.ops Wz))) (.ops W0))))
def ka:As:=⟨2,7,(.seq (.ops dP) (.block 0 (.loop L7))),[]⟩
def WX:List AA:=[
 ⟨none,.p1 AE,[.var 0],.push,[]⟩,
 ⟨none,.p1 (fun x=>AB Try.prog 91 x 8),[.loc 0],.push,[]⟩,
 ⟨none,.r1 (fun s a=>AC Try.prog s 23 a),[.loc 0],.push,[]⟩,
 ⟨none,.r (fun s l=>match l with | [x]=>A6 Try.prog s 23 x | _=>none),[.loc 0],.push,[]⟩,
 ⟨none,.p2 (AM Try.prog .leq 3),[.loc 0,.var 1],(.set 5),[]⟩]
def cB:List AA:=[
 ⟨none,.p1 AE,[.var 0],.push,[]⟩,
 ⟨none,.p1 (fun x=>AB Try.prog 91 x 8),[.loc 0],.push,[]⟩,
 ⟨none,.r1 (fun s a=>AC Try.prog s 23 a),[.loc 0],.push,[]⟩,
 ⟨none,.p2 (AD Try.prog 23),[.loc 0,.var 1],.push,[]⟩,
 ⟨none,.r1 (fun s a=>AC Try.prog s 3 a),[.loc 0],.push,[]⟩,
 ⟨none,.p1 some,[.loc 0],(.set 2),[]⟩]
def cC:List AA:=[
 ⟨none,.p1 AE,[.var 0],.push,[]⟩,
 ⟨none,.p1 (fun x=>AB Try.prog 91 x 7),[.loc 0],.push,[]⟩,
 ⟨none,.r1 (fun s a=>AC Try.prog s 23 a),[.loc 0],.push,[]⟩,
 ⟨none,.r (Ai Try.prog 23 true false false),[.loc 0,.var 2],(.set 6),[]⟩,
 ⟨none,.r (fun s l=>match l with | [x]=>A6 Try.prog s 23 x | _=>none),[.var 6],(.set 7),[]⟩,
 ⟨none,.p1 some,[(.const (.int .i64 (0)))],(.set 8),[]⟩]
def WY:List AA:=[
 ⟨none,.p2 (AM Try.prog .lss 3),[.var 8,.var 7],(.set 9),[]⟩]
def cD:List AA:=[
 ⟨none,.p2 (AD Try.prog 23),[.var 6,.var 8],.push,[]⟩,
 ⟨none,.r1 (fun s a=>AC Try.prog s 3 a),[.loc 0],.push,[]⟩,
 ⟨none,.p1 some,[.loc 0],(.set 3),[]⟩]
def cE:List AA:=[
 ⟨none,.call 90,[.var 3],.push,[]⟩,
 ⟨none,.p1 some,[.loc 0],(.set 4),[]⟩]
def cF:List AA:=[
 ⟨none,.p1 AE,[.var 0],.push,[]⟩,
 ⟨none,.p1 (fun x=>AB Try.prog 91 x 6),[.loc 0],.push,[]⟩,
 ⟨none,.r1 (fun s a=>AC Try.prog s 23 a),[.loc 0],.push,[]⟩,
 ⟨none,.p1 AE,[.var 0],.push,[]⟩,
 ⟨none,.p1 (fun x=>AB Try.prog 91 x 2),[.loc 0],.push,[]⟩,
 ⟨none,.r1 (fun s a=>AC Try.prog s 23 a),[.loc 0],.push,[]⟩,
 ⟨none,.p1 AE,[.var 0],.push,[]⟩,
 ⟨none,.p1 (fun x=>AB Try.prog 91 x 4),[.loc 0],.push,[]⟩,
 ⟨none,.r1 (fun s a=>AC Try.prog s 89 a),[.loc 0],.push,[]⟩,
 ⟨none,.p1 AE,[.var 0],.push,[]⟩,
 ⟨none,.p1 (fun x=>AB Try.prog 91 x 2),[.loc 0],.push,[]⟩,
 ⟨none,.r1 (fun s a=>AC Try.prog s 23 a),[.loc 0],.push,[]⟩,
 ⟨none,.p2 (AD Try.prog 23),[.loc 0,.var 4],.push,[]⟩,
 ⟨none,.r1 (fun s a=>AC Try.prog s 3 a),[.loc 0],.push,[]⟩,
 ⟨none,.p2 (AD Try.prog 23),[.loc 11,.var 4],.push,[]⟩,
 ⟨none,.e (fun s=>BU (fun a x=>AX (AN Try.prog s 3 a x))),[.loc 0,.loc 1],.push,[]⟩,
 ⟨none,.p2 (AD Try.prog 23),[.loc 10,.var 4],.push,[]⟩,
 ⟨none,.e (fun s=>BU (fun a x=>AX (AN Try.prog s 3 a x))),[(.loc 0),(.const (.int .i64 (0)))],.push,[]⟩,
 ⟨none,.p2 (AD Try.prog 89),[.loc 9,.var 4],.push,[]⟩,
 ⟨none,.e (fun s=>BU (fun a x=>AX (AN Try.prog s 92 a x))),[(.loc 0),(.const (.ptr none))],.push,[]⟩]
def cG:List AA:=[
 ⟨none,.p2 (AM Try.prog .add 3),[(.var 8),(.const (.int .i64 (1)))],.push,[]⟩,
 ⟨none,.p1 some,[.loc 0],(.set 8),[]⟩]
def OE:Aa:=(.seq (.ops WY) (.seq (.cond (.var 9)
 .skip
 (.exit 0)) (.seq (.block 1 (.seq (.ops cD) (.seq (.ops cE) (.ops cF)))) (.ops cG))))
def cH:List AA:=[
 ⟨none,.p1 AE,[.var 0],.push,[]⟩,
 ⟨none,.p1 (fun x=>AB Try.prog 91 x 7),[.loc 0],.push,[]⟩,
 ⟨none,.r1 (fun s a=>AC Try.prog s 23 a),[.loc 0],.push,[]⟩,
 ⟨none,.r (Ai Try.prog 23 false true false),[.loc 0,.var 2],.push,[]⟩,
 ⟨none,.p1 AE,[.var 0],.push,[]⟩,
 ⟨none,.p1 (fun x=>AB Try.prog 91 x 8),[.loc 0],.push,[]⟩,
 ⟨none,.r1 (fun s a=>AC Try.prog s 23 a),[.loc 0],.push,[]⟩,
 ⟨none,.r (Ai Try.prog 23 false true false),[.loc 0,.var 1],.push,[]⟩,
 ⟨none,.p1 AE,[.var 0],.push,[]⟩,
 ⟨none,.p1 (fun x=>AB Try.prog 91 x 7),[.loc 0],.push,[]⟩,
 ⟨none,.e (fun s=>BU (fun a x=>AX (AN Try.prog s 23 a x))),[.loc 0,.loc 6],.push,[⟨none,.r (Ai Try.prog 23 false true false),[.loc 4,.var 1],(.loc 3)⟩]⟩,
 ⟨none,.p1 AE,[.var 0],.push,[]⟩,
 ⟨none,.p1 (fun x=>AB Try.prog 91 x 8),[.loc 0],.push,[]⟩,
 ⟨none,.e (fun s=>BU (fun a x=>AX (AN Try.prog s 23 a x))),[.loc 0,.loc 5],.push,[]⟩,
 ⟨none,.p1 AE,[.var 0],.push,[]⟩,
 ⟨none,.p1 (fun x=>AB Try.prog 91 x 9),[.loc 0],.push,[]⟩,
 ⟨none,.e (fun s=>BU (fun a x=>AX (AN Try.prog s 3 a x))),[.loc 0,.var 2],.push,[]⟩]
def jp:As:=⟨2,10,(.seq (.seq (.ops WX) (.cond (.var 5)
 .ret
 .skip)) (.seq (.ops cB) (.seq (.seq (.ops cC) (.block 0 (.loop OE))) (.ops cH)))),[]⟩
def Wj:List AA:=[
 ⟨none,.p1 AE,[.var 0],.push,[]⟩,
 ⟨none,.p1 (fun x=>AB Try.prog 91 x 10),[.loc 0],.push,[]⟩,
 ⟨none,.r1 (fun s a=>AC Try.prog s 4 a),[.loc 0],.push,[]⟩,
 ⟨none,.p1 (G3 Try.prog Go.UnOp.not),[.loc 0],(.set 1),[]⟩]
def cO:List AA:=[
 ⟨none,.p1 AE,[.var 0],.push,[]⟩,
 ⟨none,.p1 (fun x=>AB Try.prog 91 x 12),[.loc 0],.push,[]⟩,
 ⟨none,.r1 (fun s a=>AC Try.prog s 33 a),[.loc 0],.push,[]⟩,
 ⟨none,.p (fun l=>Bw Try.prog 27 (zipIdx [] l)),[],.push,[]⟩,
 ⟨none,.mk (fun l=>(Ab Try.prog 33 1 (zipIdx [0] l)).bind fun r=>some (r,.slice 1)),[.loc 0],.push,[]⟩,
 ⟨none,.e (fun s l=>Ad Try.prog s [33,33] l),[.loc 2,.loc 0],.push,[]⟩,
 ⟨none,.p1 AE,[.var 0],.push,[]⟩,
 ⟨none,.p1 (fun x=>AB Try.prog 91 x 10),[.loc 0],.push,[]⟩,
 ⟨none,.e (fun s=>BU (fun a x=>AX (AN Try.prog s 4 a x))),[(.loc 0),(.const (.bool true))],.push,[]⟩,
 ⟨none,.p1 AE,[.var 0],.push,[]⟩,
 ⟨none,.p1 (fun x=>AB Try.prog 91 x 12),[.loc 0],.push,[]⟩,
 ⟨none,.e (fun s=>BU (fun a x=>AX (AN Try.prog s 33 a x))),[.loc 0,.loc 5],.push,[]⟩]
def jq:As:=⟨1,2,(.seq (.ops Wj) (.cond (.var 1)
 (.ops cO)
 .skip)),[]⟩
def bc:List AA:=[
 ⟨none,.p1 some,[(.const (.int .i64 (0)))],(.set 1),[]⟩]
def bf:List AA:=[
 ⟨none,.p2 (AM Try.prog .eql 44),[(.var 0),(.const (.ptr none))],(.set 2),[]⟩]
def ik:List AA:=[
 ⟨none,.p1 some,[(.const (.int .i64 (0)))],(.set 1),[]⟩]
def bh:List AA:=[
 ⟨none,.p1 AE,[.var 0],.push,[]⟩,
 ⟨none,.p1 (fun x=>AB Try.prog 91 x 2),[.loc 0],.push,[]⟩,
 ⟨none,.r1 (fun s a=>AC Try.prog s 23 a),[.loc 0],.push,[]⟩,
 ⟨none,.r (fun s l=>match l with | [x]=>A6 Try.prog s 23 x | _=>none),[.loc 0],.push,[]⟩,
 ⟨none,.p2 (AM Try.prog .sub 3),[(.loc 0),(.const (.int .i64 (1)))],.push,[]⟩,
 ⟨none,.p1 some,[.loc 0],(.set 1),[]⟩]
def kL:As:=⟨1,3,(.seq (.ops bc) (.seq (.seq (.ops bf) (.cond (.var 2)
 (.seq (.ops ik) .ret)
 .skip)) (.seq (.ops bh) .ret))),[((.var 1),none)]⟩
def bZ:List AA:=[
 ⟨none,.p2 (AM Try.prog .eql 44),[(.var 0),(.const (.ptr none))],(.set 2),[]⟩]
def WG:List AA:=[
 ⟨none,.p1 AE,[.var 0],.push,[]⟩,
 ⟨none,.p1 (fun x=>AB Try.prog 91 x 2),[.loc 0],.push,[]⟩,
 ⟨none,.r1 (fun s a=>AC Try.prog s 23 a),[.loc 0],.push,[]⟩,
 ⟨none,.r (fun s l=>match l with | [x]=>A6 Try.prog s 23 x | _=>none),[.loc 0],.push,[]⟩,
 ⟨none,.p2 (AM Try.prog .leq 3),[.loc 0,.var 1],(.set 3),[]⟩]
def WH:List AA:=[
 ⟨none,.p1 AE,[.var 0],.push,[]⟩,
 ⟨none,.p1 (fun x=>AB Try.prog 91 x 0),[.loc 0],.push,[]⟩,
 ⟨none,.r1 (fun s a=>AC Try.prog s 88 a),[.loc 0],.push,[]⟩,
 ⟨none,.mk (fun l=>(Ab Try.prog 88 2 (zipIdx [0,1] l)).bind fun r=>some (r,.slice 2)),[(.const (.slice none 0 (some 0))),(.const (.slice none 0 (some 0)))],.push,[]⟩,
 ⟨none,.e (fun s l=>Ad Try.prog s [88,88] l),[.loc 1,.loc 0],.push,[]⟩,
 ⟨none,.p1 AE,[.var 0],.push,[]⟩,
 ⟨none,.p1 (fun x=>AB Try.prog 91 x 0),[.loc 0],.push,[]⟩,
 ⟨none,.e (fun s=>BU (fun a x=>AX (AN Try.prog s 88 a x))),[.loc 0,.loc 2],.push,[]⟩]
def WJ:List AA:=[
 ⟨none,.p1 AE,[.var 0],.push,[]⟩,
 ⟨none,.p1 (fun x=>AB Try.prog 91 x 2),[.loc 0],.push,[]⟩,
 ⟨none,.r1 (fun s a=>AC Try.prog s 23 a),[.loc 0],.push,[]⟩,
 ⟨none,.mk (fun l=>(Ab Try.prog 23 1 (zipIdx [0] l)).bind fun r=>some (r,.slice 1)),[(.const (.int .i64 (0)))],.push,[]⟩,
 ⟨none,.p1 AE,[.var 0],.push,[]⟩,
 ⟨none,.p1 (fun x=>AB Try.prog 91 x 3),[.loc 0],.push,[]⟩,
 ⟨none,.r1 (fun s a=>AC Try.prog s 23 a),[.loc 0],.push,[]⟩,
 ⟨none,.mk (fun l=>(Ab Try.prog 23 1 (zipIdx [0] l)).bind fun r=>some (r,.slice 1)),[(.const (.int .i64 (0)))],.push,[]⟩,
 ⟨none,.p1 AE,[.var 0],.push,[]⟩,
 ⟨none,.p1 (fun x=>AB Try.prog 91 x 4),[.loc 0],.push,[]⟩,
 ⟨none,.r1 (fun s a=>AC Try.prog s 89 a),[.loc 0],.push,[]⟩,
 ⟨none,.mk (fun l=>(Ab Try.prog 89 1 (zipIdx [0] l)).bind fun r=>some (r,.slice 1)),[(.const (.ptr none))],.push,[]⟩,
 ⟨none,.e (fun s l=>Ad Try.prog s [23,23] l),[.loc 9,.loc 8],.push,[⟨none,.r1 (fun s a=>AC Try.prog s 89 a),[.loc 3],(.loc 2)⟩,⟨none,.r1 (fun s a=>AC Try.prog s 23 a),[.loc 7],(.loc 6)⟩]⟩,
 ⟨none,.e (fun s l=>Ad Try.prog s [23,23] l),[.loc 6,.loc 5],.push,[⟨none,.r1 (fun s a=>AC Try.prog s 89 a),[.loc 4],(.loc 3)⟩]⟩,
 ⟨none,.e (fun s l=>Ad Try.prog s [89,89] l),[.loc 3,.loc 2],.push,[]⟩,
 ⟨none,.p1 AE,[.var 0],.push,[]⟩,
 ⟨none,.p1 (fun x=>AB Try.prog 91 x 2),[.loc 0],.push,[]⟩,
 ⟨none,.e (fun s=>BU (fun a x=>AX (AN Try.prog s 23 a x))),[.loc 0,.loc 4],.push,[]⟩,
 ⟨none,.p1 AE,[.var 0],.push,[]⟩,
 ⟨none,.p1 (fun x=>AB Try.prog 91 x 3),[.loc 0],.push,[]⟩,
 ⟨none,.e (fun s=>BU (fun a x=>AX (AN Try.prog s 23 a x))),[.loc 0,.loc 6],.push,[]⟩,
 ⟨none,.p1 AE,[.var 0],.push,[]⟩,
 ⟨none,.p1 (fun x=>AB Try.prog 91 x 4),[.loc 0],.push,[]⟩,
 ⟨none,.e (fun s=>BU (fun a x=>AX (AN Try.prog s 89 a x))),[.loc 0,.loc 8],.push,[]⟩]
def WK:List AA:=[
 ⟨none,.p1 AE,[.var 0],.push,[]⟩,
 ⟨none,.p1 (fun x=>AB Try.prog 91 x 5),[.loc 0],.push,[]⟩,
 ⟨none,.r1 (fun s a=>AC Try.prog s 23 a),[.loc 0],.push,[]⟩,
 ⟨none,.mk (fun l=>(Ab Try.prog 23 1 (zipIdx [0] l)).bind fun r=>some (r,.slice 1)),[(.const (.int .i64 (0)))],.push,[]⟩,
 ⟨none,.p1 AE,[.var 0],.push,[]⟩,
 ⟨none,.p1 (fun x=>AB Try.prog 91 x 6),[.loc 0],.push,[]⟩,
 ⟨none,.r1 (fun s a=>AC Try.prog s 23 a),[.loc 0],.push,[]⟩,
 ⟨none,.mk (fun l=>(Ab Try.prog 23 1 (zipIdx [0] l)).bind fun r=>some (r,.slice 1)),[(.const (.int .i64 (-1)))],.push,[]⟩,
 ⟨none,.e (fun s l=>Ad Try.prog s [23,23] l),[.loc 5,.loc 4],.push,[⟨none,.r1 (fun s a=>AC Try.prog s 23 a),[.loc 3],(.loc 2)⟩]⟩,
 ⟨none,.e (fun s l=>Ad Try.prog s [23,23] l),[.loc 2,.loc 1],.push,[]⟩,
 ⟨none,.p1 AE,[.var 0],.push,[]⟩,
 ⟨none,.p1 (fun x=>AB Try.prog 91 x 5),[.loc 0],.push,[]⟩,
 ⟨none,.e (fun s=>BU (fun a x=>AX (AN Try.prog s 23 a x))),[.loc 0,.loc 3],.push,[]⟩,
 ⟨none,.p1 AE,[.var 0],.push,[]⟩,
 ⟨none,.p1 (fun x=>AB Try.prog 91 x 6),[.loc 0],.push,[]⟩,
 ⟨none,.e (fun s=>BU (fun a x=>AX (AN Try.prog s 23 a x))),[.loc 0,.loc 5],.push,[]⟩]
def N6:Aa:=(.seq (.seq (.ops WG) (.cond (.var 3)
 .skip
 (.exit 0))) (.block 1 (.seq (.ops WH) (.seq (.ops WJ) (.ops WK)))))
def kK:As:=⟨2,4,(.seq (.seq (.ops bZ) (.cond (.var 2)
 .ret
 .skip)) (.block 0 (.loop N6))),[]⟩
def bV:List AA:=[
 ⟨none,.p1 some,[(.const (.ptr none))],(.set 1),[]⟩]
def bW:List AA:=[
 ⟨none,.p (fun l=>Bw Try.prog 91 (zipIdx [14] l)),[(.const (.int .i64 (2000)))],.push,[]⟩,
 ⟨none,.mk (fun l=>match l with | [v]=>DD 91 v | _=>none),[.loc 0],.push,[]⟩,
 ⟨none,.p1 some,[.loc 0],(.set 2),[]⟩]
def bX:List AA:=[
 ⟨none,.p (fun l=>match l with | v::l=>D8 true v l | []=>none),[(.var 0),(.const (.int .i64 (0)))],.push,[]⟩,
 ⟨none,.call 46,[.var 2,.loc 0],.push,[]⟩]
def bY:List AA:=[
 ⟨none,.p1 some,[.var 2],(.set 1),[]⟩]
def kJ:As:=⟨1,3,(.seq (.ops bV) (.seq (.ops bW) (.seq (.ops bX) (.seq (.ops bY) .ret)))),[((.var 1),none)]⟩
def ce:List AA:=[
 ⟨none,.p1 AE,[.var 0],.push,[]⟩,
 ⟨none,.p1 (fun x=>AB Try.prog 91 x 5),[.loc 0],.push,[]⟩,
 ⟨none,.r1 (fun s a=>AC Try.prog s 23 a),[.loc 0],.push,[]⟩,
 ⟨none,.r (fun s l=>match l with | [x]=>A6 Try.prog s 23 x | _=>none),[.loc 0],(.set 2),[]⟩,
 ⟨none,.p1 some,[(.const (.int .i64 (0)))],(.set 3),[]⟩]
def Wq:List AA:=[
 ⟨none,.p2 (AM Try.prog .lss 3),[.var 3,.var 2],(.set 4),[]⟩]
def cg:List AA:=[
 ⟨none,.p1 some,[.var 3],(.set 1),[]⟩]
def ck:List AA:=[
 ⟨none,.p1 AE,[.var 0],.push,[]⟩,
 ⟨none,.p1 (fun x=>AB Try.prog 91 x 5),[.loc 0],.push,[]⟩,
 ⟨none,.r1 (fun s a=>AC Try.prog s 23 a),[.loc 0],.push,[]⟩,
 ⟨none,.p2 (AD Try.prog 23),[.loc 0,.var 1],.push,[]⟩,
 ⟨none,.r1 (fun s a=>AC Try.prog s 3 a),[.loc 0],.push,[]⟩,
 ⟨none,.p2 (AM Try.prog .quo 3),[(.loc 0),(.const (.int .i64 (2)))],.push,[]⟩,
 ⟨none,.p2 (AD Try.prog 23),[.loc 3,.var 1],.push,[]⟩,
 ⟨none,.e (fun s=>BU (fun a x=>AX (AN Try.prog s 3 a x))),[.loc 0,.loc 1],.push,[]⟩]
def cm:List AA:=[
 ⟨none,.p2 (AM Try.prog .add 3),[(.var 3),(.const (.int .i64 (1)))],.push,[]⟩,
 ⟨none,.p1 some,[.loc 0],(.set 3),[]⟩]
def OF:Aa:=(.seq (.ops Wq) (.seq (.cond (.var 4)
 .skip
 (.exit 0)) (.seq (.block 1 (.seq (.ops cg) (.ops ck))) (.ops cm))))
def kT:As:=⟨1,5,(.seq (.ops ce) (.block 0 (.loop OF))),[]⟩
def Wr:List AA:=[
 ⟨none,.mk (fun l=>match l with | [v]=>DD 44 v | _=>none),[.var 0],(.set 1),[]⟩]
def Ws:List AA:=[
 ⟨none,.r1 (fun s a=>AC Try.prog s 44 a),[.var 1],.push,[]⟩,
 ⟨none,.p1 AE,[.loc 0],.push,[]⟩,
 ⟨none,.p1 (fun x=>AB Try.prog 91 x 1),[.loc 0],.push,[]⟩,
 ⟨none,.r1 (fun s a=>AC Try.prog s 89 a),[.loc 0],.push,[]⟩,
 ⟨none,.r (fun s l=>match l with | [x]=>A6 Try.prog s 89 x | _=>none),[.loc 0],.push,[]⟩,
 ⟨none,.r1 (fun s a=>AC Try.prog s 44 a),[.var 1],.push,[]⟩,
 ⟨none,.p1 AE,[.loc 0],.push,[]⟩,
 ⟨none,.p1 (fun x=>AB Try.prog 91 x 14),[.loc 0],.push,[]⟩,
 ⟨none,.r1 (fun s a=>AC Try.prog s 3 a),[.loc 0],.push,[]⟩,
 ⟨none,.p2 (AM Try.prog .lss 3),[.loc 4,.loc 0],(.set 3),[]⟩]
def co:List AA:=[
 ⟨none,.r1 (fun s a=>AC Try.prog s 44 a),[.var 1],.push,[]⟩,
 ⟨none,.p1 AE,[.loc 0],.push,[]⟩,
 ⟨none,.p1 (fun x=>AB Try.prog 91 x 14),[.loc 0],.push,[]⟩,
 ⟨none,.r1 (fun s a=>AC Try.prog s 3 a),[.loc 0],.push,[]⟩,
 ⟨none,.r1 (fun s a=>AC Try.prog s 44 a),[.var 1],.push,[]⟩,
 ⟨none,.p1 AE,[.loc 0],.push,[]⟩,
 ⟨none,.p1 (fun x=>AB Try.prog 91 x 14),[.loc 0],.push,[]⟩,
 ⟨none,.r1 (fun s a=>AC Try.prog s 3 a),[.loc 0],.push,[]⟩,
 ⟨none,.p2 (AM Try.prog .quo 3),[(.loc 0),(.const (.int .i64 (8)))],.push,[]⟩,
 ⟨none,.p2 (AM Try.prog .add 3),[.loc 5,.loc 0],.push,[]⟩,
 ⟨none,.p1 AE,[.loc 9],.push,[]⟩,
 ⟨none,.p1 (fun x=>AB Try.prog 91 x 14),[.loc 0],.push,[]⟩,
 ⟨none,.e (fun s=>BU (fun a x=>AX (AN Try.prog s 3 a x))),[.loc 0,.loc 2],.push,[]⟩]
def cq:List AA:=[
 ⟨none,.mk (fun l=>match l with | []=>Bv Try.prog 3 | _=>none),[],(.set 2),[]⟩,
 ⟨none,.e (fun s=>BU (fun a x=>AX (AN Try.prog s 3 a x))),[(.var 2),(.const (.int .i64 (0)))],.push,[]⟩]
def cu:List AA:=[
 ⟨none,.r1 (fun s a=>AC Try.prog s 44 a),[.var 1],.push,[]⟩,
 ⟨none,.r1 (fun s a=>AC Try.prog s 44 a),[.var 1],.push,[]⟩,
 ⟨none,.p1 AE,[.loc 0],.push,[]⟩,
 ⟨none,.p1 (fun x=>AB Try.prog 91 x 1),[.loc 0],.push,[]⟩,
 ⟨none,.r1 (fun s a=>AC Try.prog s 89 a),[.loc 0],.push,[]⟩,
 ⟨none,.p (fun l=>some (.func 97 (l.take 0) (l.drop 0))),[.var 1,.var 2],.push,[]⟩,
 ⟨none,.call 96,[.loc 1,.loc 0],.push,[⟨none,.r1 (fun s a=>AC Try.prog s 44 a),[.var 1],(.loc 6)⟩]⟩,
 ⟨none,.p1 AE,[.loc 6],.push,[]⟩,
 ⟨none,.p1 (fun x=>AB Try.prog 91 x 1),[.loc 0],.push,[]⟩,
 ⟨none,.e (fun s=>BU (fun a x=>AX (AN Try.prog s 89 a x))),[.loc 0,.loc 2],.push,[]⟩]
def jr:As:=⟨1,4,(.seq (.ops Wr) (.seq (.seq (.ops Ws) (.cond (.var 3)
 .ret
 .skip)) (.seq (.ops co) (.seq (.ops cq) (.ops cu))))),[]⟩
def cv:List AA:=[
 ⟨none,.mk (fun l=>match l with | [v]=>DD 44 v | _=>none),[.var 0],(.set 1),[]⟩,
 ⟨none,.p1 some,[(.const (.int .i64 (0)))],(.set 2),[]⟩]
def cy:List AA:=[
 ⟨none,.mk (fun l=>match l with | []=>Bv Try.prog 3 | _=>none),[],(.set 3),[]⟩,
 ⟨none,.e (fun s=>BU (fun a x=>AX (AN Try.prog s 3 a x))),[(.var 3),(.const (.int .i64 (0)))],.push,[]⟩]
def cz:List AA:=[
 ⟨none,.p (fun l=>some (.func 99 (l.take 0) (l.drop 0))),[.var 3,.var 1],.push,[]⟩,
 ⟨none,.p1 some,[.loc 0],(.set 4),[]⟩]
def c6:List AA:=[
 ⟨none,.p1 some,[(.const (.int .i64 (1)))],(.set 5),[]⟩]
def Si:List AA:=[
 ⟨none,.r1 (fun s a=>AC Try.prog s 44 a),[.var 1],.push,[]⟩,
 ⟨none,.p1 AE,[.loc 0],.push,[]⟩,
 ⟨none,.p1 (fun x=>AB Try.prog 91 x 2),[.loc 0],.push,[]⟩,
 ⟨none,.r1 (fun s a=>AC Try.prog s 23 a),[.loc 0],.push,[]⟩,
 ⟨none,.r (fun s l=>match l with | [x]=>A6 Try.prog s 23 x | _=>none),[.loc 0],.push,[]⟩,
 ⟨none,.p2 (AM Try.prog .lss 3),[.var 5,.loc 0],(.set 6),[]⟩]
def Wt:List AA:=[
 ⟨none,.r1 (fun s a=>AC Try.prog s 44 a),[.var 1],.push,[]⟩,
 ⟨none,.p1 AE,[.loc 0],.push,[]⟩,
 ⟨none,.p1 (fun x=>AB Try.prog 91 x 2),[.loc 0],.push,[]⟩,
 ⟨none,.r1 (fun s a=>AC Try.prog s 23 a),[.loc 0],.push,[]⟩,
 ⟨none,.p2 (AD Try.prog 23),[.loc 0,.var 5],.push,[]⟩,
 ⟨none,.r1 (fun s a=>AC Try.prog s 3 a),[.loc 0],.push,[]⟩,
 ⟨none,.p2 (AM Try.prog .eql 3),[(.loc 0),(.const (.int .i64 (0)))],.push,[]⟩,
 ⟨(some ((.loc 0),true)),.p1 some,[.var 4],.push,[]⟩,
 ⟨(some ((.loc 1),true)),.p1 some,[.var 5],.push,[]⟩,
 ⟨(some ((.loc 2),true)),.callv,[.loc 1,.loc 0],.push,[]⟩,
 ⟨none,.p Rn,[(.loc 3),(.loc 0),(.const (.bool false))],(.set 7),[]⟩]
def c7:List AA:=[
 ⟨none,.e (fun s=>BU (fun a x=>AX (AN Try.prog s 3 a x))),[.var 3,.var 5],.push,[]⟩]
def Sj:List AA:=[
 ⟨none,.p1 some,[.var 5],.push,[]⟩,
 ⟨none,.p2 (AM Try.prog .add 3),[(.loc 0),(.const (.int .i64 (1)))],.push,[]⟩,
 ⟨none,.p1 some,[.loc 0],(.set 5),[]⟩]
def L6:Aa:=(.seq (.seq (.ops Si) (.cond (.var 6)
 .skip
 (.exit 0))) (.seq (.block 1 (.seq (.ops Wt) (.cond (.var 7)
 (.ops c7)
 .skip))) (.ops Sj)))
def c8:List AA:=[
 ⟨none,.r1 (fun s a=>AC Try.prog s 3 a),[.var 3],.push,[]⟩,
 ⟨none,.p1 some,[.loc 0],(.set 2),[]⟩]
def kU:As:=⟨1,8,(.seq (.ops cv) (.seq (.ops cy) (.seq (.ops cz) (.seq (.seq (.ops c6) (.block 0 (.loop L6))) (.seq (.ops c8) .ret))))),[((.var 2),none)]⟩
def XO:List AA:=[
 ⟨none,.p1 some,[(.const (.bool false))],(.set 3),[]⟩]
def XP:List AA:=[
 ⟨none,.r1 (fun s a=>AC Try.prog s 3 a),[.var 1],.push,[]⟩,
 ⟨none,.p2 (AM Try.prog .eql 3),[(.loc 0),(.const (.int .i64 (0)))],.push,[]⟩,
 ⟨(some ((.loc 0),false)),.r1 (fun s a=>AC Try.prog s 44 a),[.var 2],.push,[]⟩,
 ⟨(some ((.loc 1),false)),.p1 AE,[.loc 0],.push,[]⟩,
 ⟨(some ((.loc 2),false)),.p1 (fun x=>AB Try.prog 91 x 5),[.loc 0],.push,[]⟩,
 ⟨(some ((.loc 3),false)),.r1 (fun s a=>AC Try.prog s 23 a),[.loc 0],.push,[]⟩,
 ⟨(some ((.loc 4),false)),.p1 some,[.var 0],.push,[]⟩,
 ⟨(some ((.loc 5),false)),.p2 (AD Try.prog 23),[.loc 1,.loc 0],.push,[]⟩,
 ⟨(some ((.loc 6),false)),.r1 (fun s a=>AC Try.prog s 3 a),[.loc 0],.push,[]⟩,
 ⟨(some ((.loc 7),false)),.r1 (fun s a=>AC Try.prog s 44 a),[.var 2],.push,[]⟩,
 ⟨(some ((.loc 8),false)),.p1 AE,[.loc 0],.push,[]⟩,
 ⟨(some ((.loc 9),false)),.p1 (fun x=>AB Try.prog 91 x 5),[.loc 0],.push,[]⟩,
 ⟨(some ((.loc 10),false)),.r1 (fun s a=>AC Try.prog s 23 a),[.loc 0],.push,[]⟩,
 ⟨(some ((.loc 11),false)),.r1 (fun s a=>AC Try.prog s 3 a),[.var 1],.push,[]⟩,
 ⟨(some ((.loc 12),false)),.p2 (AD Try.prog 23),[.loc 1,.loc 0],.push,[]⟩,
 ⟨(some ((.loc 13),false)),.r1 (fun s a=>AC Try.prog s 3 a),[.loc 0],.push,[]⟩,
 ⟨(some ((.loc 14),false)),.p2 (AM Try.prog .gtr 3),[.loc 7,.loc 0],.push,[]⟩,
 ⟨none,.p Rn,[(.loc 15),(.const (.bool true)),(.loc 0)],.push,[]⟩,
 ⟨none,.p1 some,[.loc 0],(.set 3),[]⟩]
def jw:As:=⟨3,4,(.seq (.ops XO) (.seq (.ops XP) .ret)),[((.var 3),none)]⟩
def dD:List AA:=[
 ⟨none,.p1 some,[(.const (.bool false))],(.set 2),[]⟩]
def dE:List AA:=[
 ⟨none,.call 94,[.var 0,.var 1],.push,[]⟩,
 ⟨none,.p2 (AM Try.prog .geq 3),[(.loc 0),(.const (.int .i64 (0)))],.push,[]⟩,
 ⟨none,.p1 some,[.loc 0],(.set 2),[]⟩]
def kW:As:=⟨2,3,(.seq (.ops dD) (.seq (.ops dE) .ret)),[((.var 2),none)]⟩
def Wu:List AA:=[
 ⟨none,.p1 some,[(.const (.bool false))],(.set 2),[]⟩]
def Wv:List AA:=[
 ⟨none,.p2 (AM Try.prog .eql 3),[(.var 0),(.const (.int .i64 (0)))],.push,[]⟩,
 ⟨(some ((.loc 0),false)),.p1 some,[.var 0],.push,[]⟩,
 ⟨(some ((.loc 1),false)),.r1 (fun s a=>AC Try.prog s 44 a),[.var 1],.push,[]⟩,
 ⟨(some ((.loc 2),false)),.call 47,[.loc 0],.push,[]⟩,
 ⟨(some ((.loc 3),false)),.p1 (G3 Try.prog Go.UnOp.neg),[.loc 0],.push,[]⟩,
 ⟨(some ((.loc 4),false)),.p2 (AM Try.prog .lss 3),[.loc 3,.loc 0],.push,[]⟩,
 ⟨none,.p Rn,[(.loc 5),(.const (.bool true)),(.loc 0)],.push,[]⟩,
 ⟨(some ((.loc 0),false)),.p1 some,[.var 0],.push,[]⟩,
 ⟨(some ((.loc 1),false)),.r1 (fun s a=>AC Try.prog s 44 a),[.var 1],.push,[]⟩,
 ⟨(some ((.loc 2),false)),.call 47,[.loc 0],.push,[]⟩,
 ⟨(some ((.loc 3),false)),.p2 (AM Try.prog .gtr 3),[.loc 2,.loc 0],.push,[]⟩,
 ⟨none,.p Rn,[(.loc 4),(.const (.bool true)),(.loc 0)],.push,[]⟩,
 ⟨none,.p1 some,[.loc 0],(.set 2),[]⟩]
def js:As:=⟨2,3,(.seq (.ops Wu) (.seq (.ops Wv) .ret)),[((.var 2),none)]⟩
def Uw:List AA:=[
 ⟨none,.p1 some,[(.const (.bool false))],(.set 2),[]⟩]
def Ux:List AA:=[
 ⟨none,.r1 (fun s a=>AC Try.prog s 23 a),[.var 1],.push,[]⟩,
 ⟨none,.p1 (G3 Try.prog Go.UnOp.neg),[.var 0],.push,[]⟩,
 ⟨none,.call 101,[.loc 1,.loc 0],.push,[]⟩,
 ⟨none,.p1 some,[.loc 0],(.set 2),[]⟩]
def iR:As:=⟨2,3,(.seq (.ops Uw) (.seq (.ops Ux) .ret)),[((.var 2),none)]⟩
def Uy:List AA:=[
 ⟨none,.p1 some,[(.const (.bool false))],(.set 2),[]⟩]
def Uz:List AA:=[
 ⟨none,.call 113,[.var 0,.var 1],.push,[]⟩,
 ⟨none,.p2 (AM Try.prog .geq 3),[(.loc 0),(.const (.int .i64 (0)))],.push,[]⟩,
 ⟨none,.p1 some,[.loc 0],(.set 2),[]⟩]
def iS:As:=⟨2,3,(.seq (.ops Uy) (.seq (.ops Uz) .ret)),[((.var 2),none)]⟩
def VU:List AA:=[
 ⟨none,.p1 some,[(.const (.int .i64 (0)))],(.set 2),[]⟩]
def VV:List AA:=[
 ⟨none,.r (fun s l=>match l with | [x]=>A6 Try.prog s 23 x | _=>none),[.var 0],(.set 4),[]⟩,
 ⟨none,.p1 some,[(.const (.int .i64 (0)))],(.set 5),[]⟩]
def M6:List AA:=[
 ⟨none,.p2 (AM Try.prog .lss 3),[.var 5,.var 4],(.set 6),[]⟩]
def Pt:List AA:=[
 ⟨none,.p1 some,[.var 5],(.set 3),[]⟩]
def Pu:List AA:=[
 ⟨none,.p2 (AD Try.prog 23),[.var 0,.var 3],.push,[]⟩,
 ⟨none,.r1 (fun s a=>AC Try.prog s 3 a),[.loc 0],.push,[]⟩,
 ⟨none,.p2 (AM Try.prog .eql 3),[.var 1,.loc 0],(.set 7),[]⟩]
def VW:List AA:=[
 ⟨none,.p1 some,[.var 3],(.set 2),[]⟩]
def VX:List AA:=[
 ⟨none,.p2 (AM Try.prog .add 3),[(.var 5),(.const (.int .i64 (1)))],.push,[]⟩,
 ⟨none,.p1 some,[.loc 0],(.set 5),[]⟩]
def Ik:Aa:=(.seq (.ops M6) (.seq (.cond (.var 6)
 .skip
 (.exit 0)) (.seq (.block 1 (.seq (.ops Pt) (.seq (.ops Pu) (.cond (.var 7)
 (.seq (.ops VW) .ret)
 .skip)))) (.ops VX))))
def VY:List AA:=[
 ⟨none,.p1 some,[(.const (.int .i64 (-1)))],(.set 2),[]⟩]
def iZ:As:=⟨2,8,(.seq (.ops VU) (.seq (.seq (.ops VV) (.block 0 (.loop Ik))) (.seq (.ops VY) .ret))),[((.var 2),none)]⟩
def dF:List AA:=[
 ⟨none,.p1 some,[(.const (.slice none 0 (some 0)))],(.set 1),[]⟩,
 ⟨none,.p1 some,[(.const (.bool false))],(.set 2),[]⟩]
def dG:List AA:=[
 ⟨none,.call 60,[.var 0],.push,[]⟩,
 ⟨none,.mk (fun l=>match l with | []=>Bv Try.prog 23 | _=>none),[],(.set 3),[]⟩,
 ⟨none,.e (fun s=>BU (fun a x=>AX (AN Try.prog s 23 a x))),[.var 3,.loc 0],.push,[]⟩]
def dH:List AA:=[
 ⟨none,.r1 (fun s a=>AC Try.prog s 23 a),[.var 3],.push,[]⟩,
 ⟨none,.call 87,[.loc 0],.push,[]⟩]
def dI:List AA:=[
 ⟨none,.r1 (fun s a=>AC Try.prog s 23 a),[.var 3],.push,[]⟩,
 ⟨none,.call 88,[.loc 0],.push,[]⟩,
 ⟨none,.e (fun s=>BU (fun a x=>AX (AN Try.prog s 23 a x))),[.var 3,.loc 0],.push,[]⟩]
def dJ:List AA:=[
 ⟨none,.r1 (fun s a=>AC Try.prog s 23 a),[.var 3],.push,[]⟩,
 ⟨none,.r1 (fun s a=>AC Try.prog s 23 a),[.var 3],.push,[]⟩,
 ⟨none,.p (fun l=>some (.func 100 (l.take 0) (l.drop 0))),[.var 3],.push,[]⟩,
 ⟨none,.call 72,[.loc 1,.loc 0],.push,[⟨none,.r1 (fun s a=>AC Try.prog s 23 a),[.var 3],(.loc 3)⟩]⟩,
 ⟨none,.p1 (G3 Try.prog Go.UnOp.not),[.loc 0],.push,[]⟩,
 ⟨none,.p1 some,[.loc 4],(.set 1),[]⟩,
 ⟨none,.p1 some,[.loc 0],(.set 2),[]⟩]
def kX:As:=⟨1,4,(.seq (.ops dF) (.seq (.ops dG) (.seq (.ops dH) (.seq (.ops dI) (.seq (.ops dJ) .ret))))),[((.var 1),none),((.var 2),none)]⟩
def dK:List AA:=[
 ⟨none,.r (fun s l=>match l with | [x]=>A6 Try.prog s 23 x | _=>none),[.var 0],.push,[]⟩,
 ⟨none,.call 102,[.var 0,.loc 0,.var 1],.push,[]⟩]
def kY:As:=⟨2,2,(.ops dK),[]⟩
def dL:List AA:=[
 ⟨none,.p1 some,[(.const (.int .i64 (0)))],(.set 3),[]⟩]
def dM:List AA:=[
 ⟨none,.r1 (fun s a=>AC Try.prog s 44 a),[.var 2],.push,[]⟩,
 ⟨none,.r1 (fun s a=>AC Try.prog s 44 a),[.var 2],.push,[]⟩,
 ⟨none,.call 77,[.loc 1,.var 1],.push,[⟨none,.r1 (fun s a=>AC Try.prog s 44 a),[.var 2],(.loc 1)⟩]⟩,
 ⟨none,.call 77,[.loc 1,.var 0],.push,[]⟩,
 ⟨none,.p2 (AM Try.prog .sub 3),[.loc 1,.loc 0],.push,[]⟩,
 ⟨none,.p1 some,[.loc 0],(.set 3),[]⟩]
def kZ:As:=⟨3,4,(.seq (.ops dL) (.seq (.ops dM) .ret)),[((.var 3),none)]⟩
def U1:List AA:=[
 ⟨none,.p1 some,[(.const (.int .i64 (20)))],(.set 3),[]⟩]
def U2:List AA:=[
 ⟨none,.p1 some,[(.const (.int .i64 (0)))],(.set 4),[]⟩,
 ⟨none,.p1 some,[.var 3],(.set 5),[]⟩]
def U3:List AA:=[
 ⟨none,.p2 (AM Try.prog .leq 3),[.var 5,.var 1],(.set 7),[]⟩]
def fH:List AA:=[
 ⟨none,.call 114,[.var 0,.var 4,.var 5,.var 2],.push,[]⟩]
def fI:List AA:=[
 ⟨none,.p1 some,[.var 5],(.set 4),[]⟩]
def fJ:List AA:=[
 ⟨none,.p1 some,[.var 5],.push,[]⟩,
 ⟨none,.p2 (AM Try.prog .add 3),[.loc 0,.var 3],.push,[]⟩,
 ⟨none,.p1 some,[.loc 0],(.set 5),[]⟩]
def U0:Aa:=(.seq (.seq (.ops U3) (.cond (.var 7)
 .skip
 (.exit 0))) (.block 1 (.seq (.ops fH) (.seq (.ops fI) (.ops fJ)))))
def U4:List AA:=[
 ⟨none,.call 114,[.var 0,.var 4,.var 1,.var 2],.push,[]⟩]
def U5:List AA:=[
 ⟨none,.p2 (AM Try.prog .lss 3),[.var 3,.var 1],(.set 8),[]⟩]
def fK:List AA:=[
 ⟨none,.p2 (AM Try.prog .mul 3),[(.const (.int .i64 (2))),(.var 3)],.push,[]⟩,
 ⟨none,.p1 some,[(.const (.int .i64 (0)))],(.set 4),[]⟩,
 ⟨none,.p1 some,[.loc 0],(.set 5),[]⟩]
def ZG:List AA:=[
 ⟨none,.p2 (AM Try.prog .leq 3),[.var 5,.var 1],(.set 9),[]⟩]
def ZH:List AA:=[
 ⟨none,.p2 (AM Try.prog .add 3),[.var 4,.var 3],.push,[]⟩,
 ⟨none,.call 115,[.var 0,.var 4,.loc 0,.var 5,.var 2],.push,[]⟩]
def ZI:List AA:=[
 ⟨none,.p1 some,[.var 5],(.set 4),[]⟩]
def ZJ:List AA:=[
 ⟨none,.p1 some,[.var 5],.push,[]⟩,
 ⟨none,.p2 (AM Try.prog .mul 3),[(.const (.int .i64 (2))),(.var 3)],.push,[]⟩,
 ⟨none,.p2 (AM Try.prog .add 3),[.loc 1,.loc 0],.push,[]⟩,
 ⟨none,.p1 some,[.loc 0],(.set 5),[]⟩]
def ZF:Aa:=(.seq (.seq (.ops ZG) (.cond (.var 9)
 .skip
 (.exit 4))) (.block 5 (.seq (.ops ZH) (.seq (.ops ZI) (.ops ZJ)))))
def ZK:List AA:=[
 ⟨none,.p2 (AM Try.prog .add 3),[.var 4,.var 3],.push,[]⟩,
 ⟨none,.p1 some,[.loc 0],(.set 6),[]⟩]
def ZL:List AA:=[
 ⟨none,.p2 (AM Try.prog .lss 3),[.var 6,.var 1],(.set 10),[]⟩]
def ZM:List AA:=[
 ⟨none,.call 115,[.var 0,.var 4,.var 6,.var 1,.var 2],.push,[]⟩]
def ZN:List AA:=[
 ⟨none,.p1 some,[.var 3],.push,[]⟩,
 ⟨none,.p2 (AM Try.prog .mul 3),[(.loc 0),(.const (.int .i64 (2)))],.push,[]⟩,
 ⟨none,.p1 some,[.loc 0],(.set 3),[]⟩]
def SZ:Aa:=(.seq (.seq (.ops U5) (.cond (.var 8)
 .skip
 (.exit 2))) (.block 3 (.seq (.ops fK) (.seq (.block 4 (.loop ZF)) (.seq (.seq (.ops ZK) (.seq (.ops ZL) (.cond (.var 10)
 (.ops ZM)
 .skip))) (.ops ZN))))))
def iT:As:=⟨3,11,(.seq (.ops U1) (.seq (.ops U2) (.seq (.block 0 (.loop U0)) (.seq (.ops U4) (.block 2 (.loop SZ)))))),[]⟩
def Pv:List AA:=[
 ⟨none,.p2 (AM Try.prog .add 3),[(.var 1),(.const (.int .i64 (1)))],.push,[]⟩,
 ⟨none,.p1 some,[.loc 0],(.set 4),[]⟩]
def KR:List AA:=[
 ⟨none,.p2 (AM Try.prog .lss 3),[.var 4,.var 2],(.set 6),[]⟩]
def VZ:List AA:=[
 ⟨none,.p1 some,[.var 4],(.set 5),[]⟩]
def Pw:List AA:=[
 ⟨none,.p2 (AM Try.prog .gtr 3),[.var 5,.var 1],.push,[]⟩,
 ⟨(some ((.loc 0),true)),.p1 some,[.var 3],.push,[]⟩,
 ⟨(some ((.loc 1),true)),.p1 some,[.var 0],.push,[]⟩,
 ⟨(some ((.loc 2),true)),.p1 some,[.var 5],.push,[]⟩,
 ⟨(some ((.loc 3),true)),.p2 (AD Try.prog 23),[.loc 1,.loc 0],.push,[]⟩,
 ⟨(some ((.loc 4),true)),.r1 (fun s a=>AC Try.prog s 3 a),[.loc 0],.push,[]⟩,
 ⟨(some ((.loc 5),true)),.p1 some,[.var 0],.push,[]⟩,
 ⟨(some ((.loc 6),true)),.p1 some,[.var 5],.push,[]⟩,
 ⟨(some ((.loc 7),true)),.p2 (AM Try.prog .sub 3),[(.loc 0),(.const (.int .i64 (1)))],.push,[]⟩,
 ⟨(some ((.loc 8),true)),.p2 (AD Try.prog 23),[.loc 2,.loc 0],.push,[]⟩,
 ⟨(some ((.loc 9),true)),.r1 (fun s a=>AC Try.prog s 3 a),[.loc 0],.push,[]⟩,
 ⟨(some ((.loc 10),true)),.callv,[.loc 9,.loc 5,.loc 0],.push,[]⟩,
 ⟨(some ((.loc 11),true)),.p2 (AM Try.prog .lss 3),[(.loc 0),(.const (.int .i64 (0)))],.push,[]⟩,
 ⟨none,.p Rn,[(.loc 12),(.loc 0),(.const (.bool false))],(.set 7),[]⟩]
def Va:List AA:=[
 ⟨none,.p2 (AM Try.prog .sub 3),[(.var 5),(.const (.int .i64 (1)))],.push,[]⟩,
 ⟨none,.p2 (AM Try.prog .sub 3),[(.var 5),(.const (.int .i64 (1)))],.push,[]⟩,
 ⟨none,.p2 (AD Try.prog 23),[.var 0,.loc 0],.push,[]⟩,
 ⟨none,.r1 (fun s a=>AC Try.prog s 3 a),[.loc 0],.push,[]⟩,
 ⟨none,.p2 (AD Try.prog 23),[.var 0,.var 5],.push,[]⟩,
 ⟨none,.r1 (fun s a=>AC Try.prog s 3 a),[.loc 0],.push,[]⟩,
 ⟨none,.p2 (AD Try.prog 23),[.var 0,.var 5],.push,[]⟩,
 ⟨none,.e (fun s=>BU (fun a x=>AX (AN Try.prog s 3 a x))),[.loc 0,.loc 3],.push,[]⟩,
 ⟨none,.p2 (AD Try.prog 23),[.var 0,.loc 7],.push,[]⟩,
 ⟨none,.e (fun s=>BU (fun a x=>AX (AN Try.prog s 3 a x))),[.loc 0,.loc 3],.push,[]⟩]
def Vb:List AA:=[
 ⟨none,.p1 some,[.var 5],.push,[]⟩,
 ⟨none,.p2 (AM Try.prog .sub 3),[(.loc 0),(.const (.int .i64 (1)))],.push,[]⟩,
 ⟨none,.p1 some,[.loc 0],(.set 5),[]⟩]
def KQ:Aa:=(.seq (.seq (.ops Pw) (.cond (.var 7)
 .skip
 (.exit 2))) (.seq (.block 3 (.ops Va)) (.ops Vb)))
def Vc:List AA:=[
 ⟨none,.p1 some,[.var 4],.push,[]⟩,
 ⟨none,.p2 (AM Try.prog .add 3),[(.loc 0),(.const (.int .i64 (1)))],.push,[]⟩,
 ⟨none,.p1 some,[.loc 0],(.set 4),[]⟩]
def HT:Aa:=(.seq (.seq (.ops KR) (.cond (.var 6)
 .skip
 (.exit 0))) (.seq (.block 1 (.seq (.ops VZ) (.block 2 (.loop KQ)))) (.ops Vc)))
def fR:As:=⟨4,8,(.seq (.ops Pv) (.block 0 (.loop HT))),[]⟩
def bG:List AA:=[
 ⟨none,.mk (fun l=>match l with | [v]=>DD 44 v | _=>none),[.var 0],(.set 2),[]⟩,
 ⟨none,.p1 some,[(.const (.int .i64 (0)))],(.set 3),[]⟩]
def bH:List AA:=[
 ⟨none,.r1 (fun s a=>AC Try.prog s 44 a),[.var 2],.push,[]⟩,
 ⟨none,.p2 (AM Try.prog .eql 44),[(.loc 0),(.const (.ptr none))],.push,[]⟩,
 ⟨none,.p1 some,[.loc 0],(.set 7),[]⟩]
def ig:List AA:=[
 ⟨none,.p1 some,[(.const (.int .i64 (1)))],(.set 3),[]⟩]
def bI:List AA:=[
 ⟨none,.p (fun l=>some (.func 73 (l.take 0) (l.drop 0))),[.var 2],.push,[]⟩,
 ⟨none,.call 72,[.var 1,.loc 0],.push,[]⟩,
 ⟨none,.p1 some,[.loc 0],(.set 8),[]⟩]
def ii:List AA:=[
 ⟨none,.p1 some,[(.const (.int .i64 (2)))],(.set 3),[]⟩]
def bJ:List AA:=[
 ⟨none,.r1 (fun s a=>AC Try.prog s 44 a),[.var 2],.push,[]⟩,
 ⟨none,.call 63,[(.loc 0),(.const (.int .i64 (0)))],.push,[]⟩]
def bK:List AA:=[
 ⟨none,.call 74,[.var 1],.push,[]⟩,
 ⟨none,.p1 (fun x=>Rp x 0),[.loc 0],.push,[]⟩,
 ⟨none,.p1 (fun x=>Rp x 1),[.loc 1],.push,[]⟩,
 ⟨none,.p1 some,[.loc 1],(.set 4),[]⟩,
 ⟨none,.p1 some,[.loc 0],(.set 5),[]⟩]
def Sc:List AA:=[
 ⟨none,.p1 (G3 Try.prog Go.UnOp.not),[.var 5],.push,[]⟩,
 ⟨(some ((.loc 0),false)),.r1 (fun s a=>AC Try.prog s 44 a),[.var 2],.push,[]⟩,
 ⟨(some ((.loc 1),false)),.p1 AE,[.loc 0],.push,[]⟩,
 ⟨(some ((.loc 2),false)),.p1 (fun x=>AB Try.prog 91 x 10),[.loc 0],.push,[]⟩,
 ⟨(some ((.loc 3),false)),.r1 (fun s a=>AC Try.prog s 4 a),[.loc 0],.push,[]⟩,
 ⟨none,.p Rn,[(.loc 4),(.const (.bool true)),(.loc 0)],(.set 9),[]⟩]
def V9:List AA:=[
 ⟨none,.p1 some,[(.const (.int .i64 (0)))],(.set 3),[]⟩]
def bL:List AA:=[
 ⟨none,.p (fun l=>some (.func 76 (l.take 0) (l.drop 0))),[.var 2],.push,[]⟩,
 ⟨none,.call 75,[.var 4,.loc 0],.push,[]⟩]
def QM:List AA:=[
 ⟨none,.p (fun l=>Bw Try.prog 104 (zipIdx [0] l)),[.var 4],.push,[]⟩,
 ⟨none,.mk (fun l=>match l with | [v]=>DD 104 v | _=>none),[.loc 0],.push,[]⟩,
 ⟨none,.p1 some,[.loc 0],(.set 6),[]⟩]
def KW:List AA:=[
 ⟨none,.r (fun s l=>match l with | [x]=>A6 Try.prog s 23 x | _=>none),[.var 4],.push,[]⟩,
 ⟨none,.p2 (AM Try.prog .gtr 3),[(.loc 0),(.const (.int .i64 (1)))],(.set 10),[]⟩]
def QN:List AA:=[
 ⟨none,.r1 (fun s a=>AC Try.prog s 44 a),[.var 2],.push,[]⟩,
 ⟨none,.call 78,[.loc 0,.var 6],.push,[]⟩]
def KX:List AA:=[
 ⟨none,.r (fun s l=>match l with | [x]=>A6 Try.prog s 23 x | _=>none),[.var 4],.push,[]⟩,
 ⟨none,.p2 (AM Try.prog .eql 3),[(.loc 0),(.const (.int .i64 (0)))],.push,[]⟩,
 ⟨(some ((.loc 0),false)),.r1 (fun s a=>AC Try.prog s 44 a),[.var 2],.push,[]⟩,
 ⟨(some ((.loc 1),false)),.p1 some,[.var 4],.push,[]⟩,
 ⟨(some ((.loc 2),false)),.p2 (AD Try.prog 23),[(.loc 0),(.const (.int .i64 (0)))],.push,[]⟩,
 ⟨(some ((.loc 3),false)),.r1 (fun s a=>AC Try.prog s 3 a),[.loc 0],.push,[]⟩,
 ⟨(some ((.loc 4),false)),.call 77,[.loc 3,.loc 0],.push,[]⟩,
 ⟨(some ((.loc 5),false)),.p2 (AM Try.prog .lss 3),[(.loc 0),(.const (.int .i64 (0)))],.push,[]⟩,
 ⟨none,.p Rn,[(.loc 6),(.const (.bool true)),(.loc 0)],.push,[]⟩,
 ⟨none,.p1 some,[.loc 0],(.set 11),[]⟩]
def KY:List AA:=[
 ⟨none,.r1 (fun s a=>AC Try.prog s 44 a),[.var 2],.push,[]⟩,
 ⟨none,.call 65,[.loc 0],.push,[]⟩]
def NB:List AA:=[
 ⟨none,.r1 (fun s a=>AC Try.prog s 44 a),[.var 2],.push,[]⟩,
 ⟨none,.p2 (AD Try.prog 23),[(.var 4),(.const (.int .i64 (0)))],.push,[]⟩,
 ⟨none,.r1 (fun s a=>AC Try.prog s 3 a),[.loc 0],.push,[]⟩,
 ⟨none,.call 77,[.loc 2,.loc 0],.push,[]⟩,
 ⟨none,.p2 (AM Try.prog .eql 3),[(.loc 0),(.const (.int .i64 (0)))],.push,[]⟩,
 ⟨(some ((.loc 0),true)),.p1 some,[.var 4],.push,[]⟩,
 ⟨(some ((.loc 1),true)),.r (fun s l=>match l with | [x]=>A6 Try.prog s 23 x | _=>none),[.loc 0],.push,[]⟩,
 ⟨(some ((.loc 2),true)),.p2 (AM Try.prog .eql 3),[(.loc 0),(.const (.int .i64 (1)))],.push,[]⟩,
 ⟨(some ((.loc 3),true)),.p1 some,[.loc 0],.push,[]⟩,
 ⟨(some ((.loc 0),false)),.r1 (fun s a=>AC Try.prog s 44 a),[.var 2],.push,[]⟩,
 ⟨(some ((.loc 1),false)),.p1 some,[.var 4],.push,[]⟩,
 ⟨(some ((.loc 2),false)),.p2 (AD Try.prog 23),[(.loc 0),(.const (.int .i64 (1)))],.push,[]⟩,
 ⟨(some ((.loc 3),false)),.r1 (fun s a=>AC Try.prog s 3 a),[.loc 0],.push,[]⟩,
 ⟨(some ((.loc 4),false)),.call 77,[.loc 3,.loc 0],.push,[]⟩,
 ⟨(some ((.loc 5),false)),.p2 (AM Try.prog .lss 3),[(.loc 0),(.const (.int .i64 (0)))],.push,[]⟩,
 ⟨(some ((.loc 10),true)),.p Rn,[(.loc 6),(.const (.bool true)),(.loc 0)],.push,[]⟩,
 ⟨none,.p Rn,[(.loc 11),(.loc 0),(.const (.bool false))],.push,[]⟩,
 ⟨none,.p1 some,[.loc 0],(.set 12),[]⟩]
def KZ:List AA:=[
 ⟨none,.r1 (fun s a=>AC Try.prog s 44 a),[.var 2],.push,[]⟩,
 ⟨none,.p2 (AD Try.prog 23),[(.var 4),(.const (.int .i64 (0)))],.push,[]⟩,
 ⟨none,.r1 (fun s a=>AC Try.prog s 3 a),[.loc 0],.push,[]⟩,
 ⟨none,.call 71,[.loc 2,.loc 0,.var 6],.push,[]⟩]
def Fz:List AA:=[
 ⟨none,.p1 some,[(.const (.int .i64 (0)))],(.set 3),[]⟩]
def jW:As:=⟨2,13,(.seq (.ops bG) (.seq (.block 0 (.seq (.ops bH) (.cond (.var 7)
 (.seq (.ops ig) .ret)
 (.seq (.ops bI) (.cond (.var 8)
 (.seq (.ops ii) .ret)
 .skip))))) (.seq (.ops bJ) (.seq (.ops bK) (.seq (.seq (.ops Sc) (.cond (.var 9)
 (.seq (.ops V9) .ret)
 .skip)) (.seq (.ops bL) (.seq (.ops QM) (.seq (.seq (.ops KW) (.cond (.var 10)
 (.ops QN)
 .skip)) (.seq (.block 1 (.seq (.ops KX) (.cond (.var 11)
 (.ops KY)
 (.seq (.ops NB) (.cond (.var 12)
 (.ops KZ)
 .skip))))) (.seq (.ops Fz) .ret)))))))))),[((.var 3),none)]⟩
def VD:List AA:=[
 ⟨none,.p1 some,[(.const (.bool false))],(.set 2),[]⟩]
def VE:List AA:=[
 ⟨none,.p1 some,[(.const (.int .i64 (2)))],(.set 3),[]⟩]
def Po:List AA:=[
 ⟨none,.p1 AE,[.var 1],.push,[]⟩,
 ⟨none,.p1 (fun x=>AB Try.prog 104 x 0),[.loc 0],.push,[]⟩,
 ⟨none,.r1 (fun s a=>AC Try.prog s 23 a),[.loc 0],.push,[]⟩,
 ⟨none,.r (fun s l=>match l with | [x]=>A6 Try.prog s 23 x | _=>none),[.loc 0],.push,[]⟩,
 ⟨none,.p2 (AM Try.prog .lss 3),[.var 3,.loc 0],(.set 4),[]⟩]
def VF:List AA:=[
 ⟨none,.p1 AE,[.var 1],.push,[]⟩,
 ⟨none,.p1 (fun x=>AB Try.prog 104 x 0),[.loc 0],.push,[]⟩,
 ⟨none,.r1 (fun s a=>AC Try.prog s 23 a),[.loc 0],.push,[]⟩,
 ⟨none,.p2 (AD Try.prog 23),[.loc 0,.var 3],.push,[]⟩,
 ⟨none,.r1 (fun s a=>AC Try.prog s 3 a),[.loc 0],.push,[]⟩,
 ⟨none,.call 77,[.var 0,.loc 0],.push,[]⟩,
 ⟨none,.p2 (AM Try.prog .geq 3),[(.loc 0),(.const (.int .i64 (0)))],(.set 5),[]⟩]
def VG:List AA:=[
 ⟨none,.p1 AE,[.var 1],.push,[]⟩,
 ⟨none,.p1 (fun x=>AB Try.prog 104 x 0),[.loc 0],.push,[]⟩,
 ⟨none,.r1 (fun s a=>AC Try.prog s 23 a),[.loc 0],.push,[]⟩,
 ⟨none,.p1 AE,[.var 1],.push,[]⟩,
 ⟨none,.p1 (fun x=>AB Try.prog 104 x 0),[.loc 0],.push,[]⟩,
 ⟨none,.r1 (fun s a=>AC Try.prog s 23 a),[.loc 0],.push,[]⟩,
 ⟨none,.p1 AE,[.var 1],.push,[]⟩,
 ⟨none,.p1 (fun x=>AB Try.prog 104 x 0),[.loc 0],.push,[]⟩,
 ⟨none,.r1 (fun s a=>AC Try.prog s 23 a),[.loc 0],.push,[]⟩,
 ⟨none,.p2 (AD Try.prog 23),[.loc 0,.var 3],.push,[]⟩,
 ⟨none,.r1 (fun s a=>AC Try.prog s 3 a),[.loc 0],.push,[]⟩,
 ⟨none,.p1 AE,[.var 1],.push,[]⟩,
 ⟨none,.p1 (fun x=>AB Try.prog 104 x 0),[.loc 0],.push,[]⟩,
 ⟨none,.r1 (fun s a=>AC Try.prog s 23 a),[.loc 0],.push,[]⟩,
 ⟨none,.p2 (AD Try.prog 23),[(.loc 0),(.const (.int .i64 (1)))],.push,[]⟩,
 ⟨none,.r1 (fun s a=>AC Try.prog s 3 a),[.loc 0],.push,[]⟩,
 ⟨none,.p2 (AD Try.prog 23),[(.loc 13),(.const (.int .i64 (1)))],.push,[]⟩,
 ⟨none,.e (fun s=>BU (fun a x=>AX (AN Try.prog s 3 a x))),[.loc 0,.loc 6],.push,[]⟩,
 ⟨none,.p2 (AD Try.prog 23),[.loc 12,.var 3],.push,[]⟩,
 ⟨none,.e (fun s=>BU (fun a x=>AX (AN Try.prog s 3 a x))),[.loc 0,.loc 3],.push,[]⟩]
def VH:List AA:=[
 ⟨none,.p1 AE,[.var 0],.push,[]⟩,
 ⟨none,.p1 (fun x=>AB Try.prog 91 x 0),[.loc 0],.push,[]⟩,
 ⟨none,.r1 (fun s a=>AC Try.prog s 88 a),[.loc 0],.push,[]⟩,
 ⟨none,.p1 AE,[.var 1],.push,[]⟩,
 ⟨none,.p1 (fun x=>AB Try.prog 104 x 0),[.loc 0],.push,[]⟩,
 ⟨none,.r1 (fun s a=>AC Try.prog s 23 a),[.loc 0],.push,[]⟩,
 ⟨none,.p2 (AD Try.prog 23),[(.loc 0),(.const (.int .i64 (1)))],.push,[]⟩,
 ⟨none,.r1 (fun s a=>AC Try.prog s 3 a),[.loc 0],.push,[]⟩,
 ⟨none,.p1 AE,[.var 0],.push,[]⟩,
 ⟨none,.p1 (fun x=>AB Try.prog 91 x 0),[.loc 0],.push,[]⟩,
 ⟨none,.r1 (fun s a=>AC Try.prog s 88 a),[.loc 0],.push,[]⟩,
 ⟨none,.p1 AE,[.var 1],.push,[]⟩,
 ⟨none,.p1 (fun x=>AB Try.prog 104 x 0),[.loc 0],.push,[]⟩,
 ⟨none,.r1 (fun s a=>AC Try.prog s 23 a),[.loc 0],.push,[]⟩,
 ⟨none,.p2 (AD Try.prog 23),[(.loc 0),(.const (.int .i64 (1)))],.push,[]⟩,
 ⟨none,.r1 (fun s a=>AC Try.prog s 3 a),[.loc 0],.push,[]⟩,
 ⟨none,.mk (fun l=>(Ab Try.prog 89 1 (zipIdx [0] l)).bind fun r=>some (r,.slice 1)),[.var 1],.push,[]⟩,
 ⟨none,.call 91,[.loc 9],.push,[⟨none,.r1 (fun s a=>AC Try.prog s 3 a),[.loc 3],(.loc 2)⟩,⟨none,.r1 (fun s a=>AC Try.prog s 23 a),[.loc 5],(.loc 4)⟩,⟨none,.r1 (fun s a=>AC Try.prog s 88 a),[.loc 8],(.loc 7)⟩,⟨none,.r1 (fun s a=>AC Try.prog s 88 a),[.loc 16],(.loc 15)⟩]⟩,
 ⟨none,.call 91,[.loc 2],.push,[⟨none,.r1 (fun s a=>AC Try.prog s 88 a),[.loc 9],(.loc 8)⟩,⟨none,.r1 (fun s a=>AC Try.prog s 88 a),[.loc 17],(.loc 16)⟩]⟩,
 ⟨none,.p2 (AD Try.prog 88),[.loc 8,.loc 0],.push,[]⟩,
 ⟨none,.r1 (fun s a=>AC Try.prog s 89 a),[.loc 0],.push,[]⟩,
 ⟨none,.e (fun s l=>Ad Try.prog s [89,89] l),[.loc 0,.loc 4],.push,[⟨none,.r1 (fun s a=>AC Try.prog s 88 a),[.loc 20],(.loc 19)⟩]⟩,
 ⟨none,.p2 (AD Try.prog 88),[.loc 19,.loc 4],.push,[]⟩,
 ⟨none,.e (fun s=>BU (fun a x=>AX (AN Try.prog s 89 a x))),[.loc 0,.loc 1],.push,[]⟩]
def VI:List AA:=[
 ⟨none,.p1 some,[(.const (.bool true))],(.set 2),[]⟩]
def VJ:List AA:=[
 ⟨none,.p1 some,[.var 3],.push,[]⟩,
 ⟨none,.p2 (AM Try.prog .add 3),[(.loc 0),(.const (.int .i64 (1)))],.push,[]⟩,
 ⟨none,.p1 some,[.loc 0],(.set 3),[]⟩]
def KO:Aa:=(.seq (.seq (.ops Po) (.cond (.var 4)
 .skip
 (.exit 0))) (.seq (.block 1 (.seq (.ops VF) (.cond (.var 5)
 (.seq (.ops VG) (.seq (.ops VH) (.seq (.ops VI) .ret)))
 .skip))) (.ops VJ)))
def VK:List AA:=[
 ⟨none,.p1 some,[(.const (.bool false))],(.set 2),[]⟩]
def iW:As:=⟨2,6,(.seq (.ops VD) (.seq (.seq (.ops VE) (.block 0 (.loop KO))) (.seq (.ops VK) .ret))),[((.var 2),none)]⟩
def Sn:List AA:=[
 ⟨none,.p1 some,[(.const (.bool false))],(.set 3),[]⟩,
 ⟨none,.p1 some,[(.const (.bool false))],(.set 4),[]⟩]
def So:List AA:=[
 ⟨none,.p1 AE,[.var 1],.push,[]⟩,
 ⟨none,.p1 (fun x=>AB Try.prog 104 x 2),[.loc 0],.push,[]⟩,
 ⟨none,.r1 (fun s a=>AC Try.prog s 4 a),[.loc 0],(.set 5),[]⟩]
def da:List AA:=[
 ⟨none,.p1 some,[(.const (.bool false))],(.set 3),[]⟩,
 ⟨none,.p1 some,[(.const (.bool false))],(.set 4),[]⟩]
def XA:List AA:=[
 ⟨none,.p1 AE,[.var 1],.push,[]⟩,
 ⟨none,.p1 (fun x=>AB Try.prog 104 x 0),[.loc 0],.push,[]⟩,
 ⟨none,.r1 (fun s a=>AC Try.prog s 23 a),[.loc 0],.push,[]⟩,
 ⟨none,.p2 (AD Try.prog 23),[(.loc 0),(.const (.int .i64 (0)))],.push,[]⟩,
 ⟨none,.r1 (fun s a=>AC Try.prog s 3 a),[.loc 0],.push,[]⟩,
 ⟨none,.p2 (AM Try.prog .eql 3),[.loc 0,.var 2],(.set 6),[]⟩]
def db:List AA:=[
 ⟨none,.p1 AE,[.var 1],.push,[]⟩,
 ⟨none,.p1 (fun x=>AB Try.prog 104 x 0),[.loc 0],.push,[]⟩,
 ⟨none,.r1 (fun s a=>AC Try.prog s 23 a),[.loc 0],.push,[]⟩,
 ⟨none,.p1 AE,[.var 1],.push,[]⟩,
 ⟨none,.p1 (fun x=>AB Try.prog 104 x 0),[.loc 0],.push,[]⟩,
 ⟨none,.r1 (fun s a=>AC Try.prog s 23 a),[.loc 0],.push,[]⟩,
 ⟨none,.p1 AE,[.var 1],.push,[]⟩,
 ⟨none,.p1 (fun x=>AB Try.prog 104 x 0),[.loc 0],.push,[]⟩,
 ⟨none,.r1 (fun s a=>AC Try.prog s 23 a),[.loc 0],.push,[]⟩,
 ⟨none,.p2 (AD Try.prog 23),[(.loc 0),(.const (.int .i64 (1)))],.push,[]⟩,
 ⟨none,.r1 (fun s a=>AC Try.prog s 3 a),[.loc 0],.push,[]⟩,
 ⟨none,.p1 AE,[.var 1],.push,[]⟩,
 ⟨none,.p1 (fun x=>AB Try.prog 104 x 0),[.loc 0],.push,[]⟩,
 ⟨none,.r1 (fun s a=>AC Try.prog s 23 a),[.loc 0],.push,[]⟩,
 ⟨none,.p2 (AD Try.prog 23),[(.loc 0),(.const (.int .i64 (0)))],.push,[]⟩,
 ⟨none,.r1 (fun s a=>AC Try.prog s 3 a),[.loc 0],.push,[]⟩,
 ⟨none,.p2 (AD Try.prog 23),[(.loc 13),(.const (.int .i64 (0)))],.push,[]⟩,
 ⟨none,.e (fun s=>BU (fun a x=>AX (AN Try.prog s 3 a x))),[.loc 0,.loc 6],.push,[]⟩,
 ⟨none,.p2 (AD Try.prog 23),[(.loc 12),(.const (.int .i64 (1)))],.push,[]⟩,
 ⟨none,.e (fun s=>BU (fun a x=>AX (AN Try.prog s 3 a x))),[.loc 0,.loc 3],.push,[]⟩]
def XB:List AA:=[
 ⟨none,.p1 AE,[.var 1],.push,[]⟩,
 ⟨none,.p1 (fun x=>AB Try.prog 104 x 0),[.loc 0],.push,[]⟩,
 ⟨none,.r1 (fun s a=>AC Try.prog s 23 a),[.loc 0],.push,[]⟩,
 ⟨none,.p2 (AD Try.prog 23),[(.loc 0),(.const (.int .i64 (0)))],.push,[]⟩,
 ⟨none,.r1 (fun s a=>AC Try.prog s 3 a),[.loc 0],.push,[]⟩,
 ⟨none,.call 77,[.var 0,.loc 0],.push,[]⟩,
 ⟨none,.p2 (AM Try.prog .gtr 3),[(.loc 0),(.const (.int .i64 (0)))],.push,[]⟩,
 ⟨none,.p1 some,[.loc 0],(.set 7),[]⟩]
def XC:List AA:=[
 ⟨none,.p1 some,[(.const (.bool true))],(.set 3),[]⟩,
 ⟨none,.p1 some,[(.const (.bool false))],(.set 4),[]⟩]
def XD:List AA:=[
 ⟨none,.call 110,[.var 0,.var 1],.push,[]⟩,
 ⟨none,.p1 some,[.loc 0],(.set 8),[]⟩]
def XE:List AA:=[
 ⟨none,.p1 some,[(.const (.bool false))],(.set 3),[]⟩,
 ⟨none,.p1 some,[(.const (.bool false))],(.set 4),[]⟩]
def XF:List AA:=[
 ⟨none,.p1 AE,[.var 1],.push,[]⟩,
 ⟨none,.p1 (fun x=>AB Try.prog 104 x 0),[.loc 0],.push,[]⟩,
 ⟨none,.r1 (fun s a=>AC Try.prog s 23 a),[.loc 0],.push,[]⟩,
 ⟨none,.p2 (AD Try.prog 23),[(.loc 0),(.const (.int .i64 (0)))],.push,[]⟩,
 ⟨none,.r1 (fun s a=>AC Try.prog s 3 a),[.loc 0],.push,[]⟩,
 ⟨none,.call 77,[.var 0,.loc 0],.push,[]⟩,
 ⟨none,.p2 (AM Try.prog .lss 3),[(.loc 0),(.const (.int .i64 (0)))],.push,[]⟩,
 ⟨none,.p1 some,[.loc 0],(.set 9),[]⟩]
def Q9:List AA:=[
 ⟨none,.p1 some,[(.const (.bool true))],(.set 3),[]⟩,
 ⟨none,.p1 some,[(.const (.bool true))],(.set 4),[]⟩]
def RA:List AA:=[
 ⟨none,.p1 AE,[.var 1],.push,[]⟩,
 ⟨none,.p1 (fun x=>AB Try.prog 104 x 0),[.loc 0],.push,[]⟩,
 ⟨none,.r1 (fun s a=>AC Try.prog s 23 a),[.loc 0],.push,[]⟩,
 ⟨none,.p2 (AD Try.prog 23),[(.loc 0),(.const (.int .i64 (0)))],.push,[]⟩,
 ⟨none,.r1 (fun s a=>AC Try.prog s 3 a),[.loc 0],.push,[]⟩,
 ⟨none,.call 71,[.var 0,.loc 0,.var 1],.push,[]⟩]
def RC:List AA:=[
 ⟨none,.p1 some,[(.const (.bool true))],(.set 3),[]⟩,
 ⟨none,.p1 some,[(.const (.bool false))],(.set 4),[]⟩]
def jY:As:=⟨3,10,(.seq (.ops Sn) (.seq (.seq (.ops So) (.cond (.var 5)
 (.seq (.ops da) .ret)
 .skip)) (.seq (.seq (.ops XA) (.cond (.var 6)
 (.ops db)
 .skip)) (.seq (.block 0 (.seq (.ops XB) (.cond (.var 7)
 (.seq (.ops XC) .ret)
 (.seq (.ops XD) (.cond (.var 8)
 (.seq (.ops XE) .ret)
 (.seq (.ops XF) (.cond (.var 9)
 (.seq (.ops Q9) .ret)
 .skip))))))) (.seq (.ops RA) (.seq (.ops RC) .ret)))))),[((.var 3),none),((.var 4),none)]⟩
def cI:List AA:=[
 ⟨none,.p1 some,[(.const (.ptr none))],(.set 1),[]⟩]
def WZ:List AA:=[
 ⟨none,.p1 AE,[.var 0],.push,[]⟩,
 ⟨none,.p1 (fun x=>AB Try.prog 91 x 9),[.loc 0],.push,[]⟩,
 ⟨none,.r1 (fun s a=>AC Try.prog s 3 a),[.loc 0],.push,[]⟩,
 ⟨none,.p1 AE,[.var 0],.push,[]⟩,
 ⟨none,.p1 (fun x=>AB Try.prog 91 x 7),[.loc 0],.push,[]⟩,
 ⟨none,.r1 (fun s a=>AC Try.prog s 23 a),[.loc 0],.push,[]⟩,
 ⟨none,.r (fun s l=>match l with | [x]=>A6 Try.prog s 23 x | _=>none),[.loc 0],.push,[]⟩,
 ⟨none,.p2 (AM Try.prog .lss 3),[.loc 4,.loc 0],(.set 10),[]⟩]
def We:List AA:=[
 ⟨none,.p1 AE,[.var 0],.push,[]⟩,
 ⟨none,.p1 (fun x=>AB Try.prog 91 x 7),[.loc 0],.push,[]⟩,
 ⟨none,.r1 (fun s a=>AC Try.prog s 23 a),[.loc 0],.push,[]⟩,
 ⟨none,.p1 AE,[.var 0],.push,[]⟩,
 ⟨none,.p1 (fun x=>AB Try.prog 91 x 9),[.loc 0],.push,[]⟩,
 ⟨none,.r1 (fun s a=>AC Try.prog s 3 a),[.loc 0],.push,[]⟩,
 ⟨none,.p2 (AD Try.prog 23),[.loc 3,.loc 0],.push,[]⟩,
 ⟨none,.r1 (fun s a=>AC Try.prog s 3 a),[.loc 0],.push,[]⟩,
 ⟨none,.p1 (G3 Try.prog Go.UnOp.neg),[.loc 0],.push,[]⟩,
 ⟨none,.p1 some,[.loc 0],(.set 2),[]⟩]
def Wh:List AA:=[
 ⟨none,.p1 AE,[.var 0],.push,[]⟩,
 ⟨none,.p1 (fun x=>AB Try.prog 91 x 9),[.loc 0],.push,[]⟩,
 ⟨none,.r1 (fun s a=>AC Try.prog s 3 a),[.loc 0],.push,[]⟩,
 ⟨none,.p2 (AM Try.prog .add 3),[(.loc 0),(.const (.int .i64 (1)))],.push,[]⟩,
 ⟨none,.p1 AE,[.var 0],.push,[]⟩,
 ⟨none,.p1 (fun x=>AB Try.prog 91 x 9),[.loc 0],.push,[]⟩,
 ⟨none,.e (fun s=>BU (fun a x=>AX (AN Try.prog s 3 a x))),[.loc 0,.loc 2],.push,[]⟩]
def cJ:List AA:=[
 ⟨none,.p1 AE,[.var 0],.push,[]⟩,
 ⟨none,.p1 (fun x=>AB Try.prog 91 x 0),[.loc 0],.push,[]⟩,
 ⟨none,.r1 (fun s a=>AC Try.prog s 88 a),[.loc 0],.push,[]⟩,
 ⟨none,.call 91,[.var 2],.push,[⟨none,.r1 (fun s a=>AC Try.prog s 88 a),[.loc 2],(.loc 1)⟩]⟩,
 ⟨none,.p2 (AD Try.prog 88),[.loc 1,.loc 0],.push,[]⟩,
 ⟨none,.r1 (fun s a=>AC Try.prog s 89 a),[.loc 0],.push,[]⟩,
 ⟨none,.p1 some,[.loc 0],(.set 3),[]⟩]
def cK:List AA:=[
 ⟨none,.r (fun s l=>match l with | [x]=>A6 Try.prog s 89 x | _=>none),[.var 3],.push,[]⟩,
 ⟨none,.r (Ai Try.prog 89 false true true),[(.var 3),(.const (.int .i64 (0))),(.loc 0)],.push,[]⟩,
 ⟨none,.p1 some,[.loc 0],(.set 4),[]⟩]
def cL:List AA:=[
 ⟨none,.p1 some,[(.const (.ptr none))],(.set 5),[]⟩]
def cM:List AA:=[
 ⟨none,.p1 some,[.var 3],(.set 11),[]⟩,
 ⟨none,.r (fun s l=>match l with | [x]=>A6 Try.prog s 89 x | _=>none),[.var 11],(.set 12),[]⟩,
 ⟨none,.p1 some,[(.const (.int .i64 (0)))],(.set 13),[]⟩]
def Wi:List AA:=[
 ⟨none,.p2 (AM Try.prog .lss 3),[.var 13,.var 12],(.set 14),[]⟩]
def cN:List AA:=[
 ⟨none,.p2 (AD Try.prog 89),[.var 11,.var 13],.push,[]⟩,
 ⟨none,.r1 (fun s a=>AC Try.prog s 92 a),[.loc 0],.push,[]⟩,
 ⟨none,.p1 some,[.var 13],(.set 6),[]⟩,
 ⟨none,.p1 some,[.loc 0],(.set 7),[]⟩]
def Wa:List AA:=[
 ⟨none,.call 92,[.var 0,.var 7,.var 2],.push,[]⟩,
 ⟨none,.p1 (fun x=>Rp x 0),[.loc 0],.push,[]⟩,
 ⟨none,.p1 (fun x=>Rp x 1),[.loc 1],.push,[]⟩,
 ⟨none,.p1 some,[.loc 1],(.set 8),[]⟩,
 ⟨none,.p1 some,[.loc 0],(.set 9),[]⟩]
def NC:List AA:=[
 ⟨none,.p1 some,[.var 8],(.set 15),[]⟩]
def QO:List AA:=[
 ⟨none,.p1 some,[.var 4],.push,[]⟩,
 ⟨none,.mk (fun l=>(Ab Try.prog 89 1 (zipIdx [0] l)).bind fun r=>some (r,.slice 1)),[.var 7],.push,[]⟩,
 ⟨none,.e (fun s l=>Ad Try.prog s [89,89] l),[.loc 1,.loc 0],.push,[]⟩,
 ⟨none,.p1 some,[.loc 0],(.set 4),[]⟩]
def ND:List AA:=[
 ⟨none,.p1 some,[.var 9],(.set 16),[]⟩]
def Wb:List AA:=[
 ⟨none,.p1 some,[.var 4],.push,[]⟩,
 ⟨none,.p2 (AM Try.prog .add 3),[(.var 6),(.const (.int .i64 (1)))],.push,[]⟩,
 ⟨none,.r (Ai Try.prog 89 true false false),[.var 3,.loc 0],.push,[]⟩,
 ⟨none,.e (fun s l=>Ad Try.prog s [89,89] l),[.loc 2,.loc 0],.push,[]⟩,
 ⟨none,.p1 some,[.loc 0],(.set 4),[]⟩,
 ⟨none,.p1 some,[.var 7],(.set 5),[]⟩]
def QP:List AA:=[
 ⟨none,.p2 (AM Try.prog .add 3),[(.var 13),(.const (.int .i64 (1)))],.push,[]⟩,
 ⟨none,.p1 some,[.loc 0],(.set 13),[]⟩]
def Kc:Aa:=(.seq (.ops Wi) (.seq (.cond (.var 14)
 .skip
 (.exit 2)) (.seq (.block 3 (.seq (.ops cN) (.seq (.ops Wa) (.seq (.seq (.ops NC) (.cond (.var 15)
 (.ops QO)
 .skip)) (.seq (.ops ND) (.cond (.var 16)
 (.seq (.ops Wb) (.exit 2))
 .skip)))))) (.ops QP))))
def Wc:List AA:=[
 ⟨none,.p1 AE,[.var 0],.push,[]⟩,
 ⟨none,.p1 (fun x=>AB Try.prog 91 x 0),[.loc 0],.push,[]⟩,
 ⟨none,.r1 (fun s a=>AC Try.prog s 88 a),[.loc 0],.push,[]⟩,
 ⟨none,.call 91,[.var 2],.push,[⟨none,.r1 (fun s a=>AC Try.prog s 88 a),[.loc 2],(.loc 1)⟩]⟩,
 ⟨none,.p2 (AD Try.prog 88),[.loc 1,.loc 0],.push,[]⟩,
 ⟨none,.e (fun s=>BU (fun a x=>AX (AN Try.prog s 89 a x))),[.loc 0,.var 4],.push,[]⟩]
def QQ:List AA:=[
 ⟨none,.p2 (AM Try.prog .neq 92),[(.var 5),(.const (.ptr none))],(.set 17),[]⟩]
def Wd:List AA:=[
 ⟨none,.p1 AE,[.var 0],.push,[]⟩,
 ⟨none,.p1 (fun x=>AB Try.prog 91 x 7),[.loc 0],.push,[]⟩,
 ⟨none,.r1 (fun s a=>AC Try.prog s 23 a),[.loc 0],.push,[]⟩,
 ⟨none,.r (fun s l=>match l with | [x]=>A6 Try.prog s 23 x | _=>none),[.loc 0],.push,[]⟩,
 ⟨none,.p1 AE,[.var 0],.push,[]⟩,
 ⟨none,.p1 (fun x=>AB Try.prog 91 x 9),[.loc 0],.push,[]⟩,
 ⟨none,.e (fun s=>BU (fun a x=>AX (AN Try.prog s 3 a x))),[.loc 0,.loc 2],.push,[]⟩]
def Wf:List AA:=[
 ⟨none,.p1 some,[.var 5],(.set 1),[]⟩]
def Kd:Aa:=(.seq (.seq (.ops WZ) (.cond (.var 10)
 .skip
 (.exit 0))) (.block 1 (.seq (.ops We) (.seq (.ops Wh) (.seq (.ops cJ) (.seq (.ops cK) (.seq (.ops cL) (.seq (.seq (.ops cM) (.block 2 (.loop Kc))) (.seq (.ops Wc) (.seq (.ops QQ) (.cond (.var 17)
 (.seq (.ops Wd) (.seq (.ops Wf) .ret))
 .skip)))))))))))
def Wg:List AA:=[
 ⟨none,.p1 some,[(.const (.ptr none))],(.set 1),[]⟩]
def kQ:As:=⟨1,18,(.seq (.ops cI) (.seq (.block 0 (.loop Kd)) (.seq (.ops Wg) .ret))),[((.var 1),none)]⟩
def dc:List AA:=[
 ⟨none,.mk (fun l=>match l with | [v]=>DD 92 v | _=>none),[.var 0],(.set 2),[]⟩,
 ⟨none,.mk (fun l=>match l with | [v]=>DD 3 v | _=>none),[.var 1],(.set 3),[]⟩,
 ⟨none,.p1 some,[(.const .nilFunc)],(.set 4),[]⟩]
def de:List AA:=[
 ⟨none,.p (fun l=>some (.func 111 (l.take 0) (l.drop 0))),[.var 2,.var 3],.push,[]⟩,
 ⟨none,.p1 some,[.loc 0],(.set 4),[]⟩]
def kf:As:=⟨2,5,(.seq (.ops dc) (.seq (.ops de) .ret)),[((.var 4),none)]⟩
def VM:List AA:=[
 ⟨none,.r1 (fun s a=>AC Try.prog s 92 a),[.var 1],.push,[]⟩,
 ⟨none,.p1 AE,[.loc 0],.push,[]⟩,
 ⟨none,.p1 (fun x=>AB Try.prog 104 x 0),[.loc 0],.push,[]⟩,
 ⟨none,.r1 (fun s a=>AC Try.prog s 23 a),[.loc 0],(.set 4),[]⟩,
 ⟨none,.r (fun s l=>match l with | [x]=>A6 Try.prog s 23 x | _=>none),[.var 4],(.set 5),[]⟩,
 ⟨none,.p1 some,[(.const (.int .i64 (0)))],(.set 6),[]⟩]
def M5:List AA:=[
 ⟨none,.p2 (AM Try.prog .lss 3),[.var 6,.var 5],(.set 7),[]⟩]
def Pp:List AA:=[
 ⟨none,.p2 (AD Try.prog 23),[.var 4,.var 6],.push,[]⟩,
 ⟨none,.r1 (fun s a=>AC Try.prog s 3 a),[.loc 0],.push,[]⟩,
 ⟨none,.p1 some,[.loc 0],(.set 3),[]⟩]
def Pq:List AA:=[
 ⟨none,.r1 (fun s a=>AC Try.prog s 3 a),[.var 2],.push,[]⟩,
 ⟨none,.p2 (AM Try.prog .neq 3),[.var 3,.loc 0],.push,[]⟩,
 ⟨(some ((.loc 0),true)),.p1 some,[.var 0],.push,[]⟩,
 ⟨(some ((.loc 1),true)),.p1 some,[.var 3],.push,[]⟩,
 ⟨(some ((.loc 2),true)),.callv,[.loc 1,.loc 0],.push,[]⟩,
 ⟨(some ((.loc 3),true)),.p1 (G3 Try.prog Go.UnOp.not),[.loc 0],.push,[]⟩,
 ⟨none,.p Rn,[(.loc 4),(.loc 0),(.const (.bool false))],(.set 8),[]⟩]
def Pr:List AA:=[
 ⟨none,.p2 (AM Try.prog .add 3),[(.var 6),(.const (.int .i64 (1)))],.push,[]⟩,
 ⟨none,.p1 some,[.loc 0],(.set 6),[]⟩]
def Ij:Aa:=(.seq (.ops M5) (.seq (.cond (.var 7)
 .skip
 (.exit 0)) (.seq (.block 1 (.seq (.ops Pp) (.seq (.ops Pq) (.cond (.var 8)
 .ret
 .skip)))) (.ops Pr))))
def iX:As:=⟨3,9,(.seq (.ops VM) (.block 0 (.loop Ij))),[]⟩
def cU:List AA:=[
 ⟨none,.mk (fun l=>match l with | [v]=>DD 44 v | _=>none),[.var 0],(.set 2),[]⟩,
 ⟨none,.mk (fun l=>match l with | []=>Bv Try.prog 23 | _=>none),[],(.set 3),[]⟩,
 ⟨none,.mk (fun l=>match l with | []=>Bv Try.prog 3 | _=>none),[],(.set 4),[]⟩]
def cV:List AA:=[
 ⟨none,.mk (fun l=>match l with | []=>some (.map [] 0,.map) | _=>none),[],.push,[]⟩,
 ⟨none,.mk (fun l=>match l with | []=>Bv Try.prog 115 | _=>none),[],(.set 5),[]⟩,
 ⟨none,.e (fun s=>BU (fun a x=>AX (AN Try.prog s 115 a x))),[.var 5,.loc 0],.push,[]⟩]
def cW:List AA:=[
 ⟨none,.mk (fun l=>(Ab Try.prog 23 1 (zipIdx [0] l)).bind fun r=>some (r,.slice 1)),[(.const (.int .i64 (0)))],.push,[]⟩,
 ⟨none,.e (fun s=>BU (fun a x=>AX (AN Try.prog s 23 a x))),[.var 3,.loc 0],.push,[]⟩]
def cX:List AA:=[
 ⟨none,.r1 (fun s a=>AC Try.prog s 44 a),[.var 2],.push,[]⟩,
 ⟨none,.p1 AE,[.loc 0],.push,[]⟩,
 ⟨none,.p1 (fun x=>AB Try.prog 91 x 7),[.loc 0],.push,[]⟩,
 ⟨none,.r1 (fun s a=>AC Try.prog s 23 a),[.loc 0],.push,[]⟩,
 ⟨none,.r (fun s l=>match l with | [x]=>A6 Try.prog s 23 x | _=>none),[.loc 0],.push,[]⟩,
 ⟨none,.mk (fun l=>match l with | []=>Bv Try.prog 3 | _=>none),[],(.set 6),[]⟩,
 ⟨none,.e (fun s=>BU (fun a x=>AX (AN Try.prog s 3 a x))),[(.var 6),(.const (.int .i64 (0)))],.push,[⟨none,.r (fun s l=>match l with | [x]=>A6 Try.prog s 23 x | _=>none),[.loc 2],(.loc 1)⟩,⟨none,.r1 (fun s a=>AC Try.prog s 23 a),[.loc 3],(.loc 2)⟩,⟨none,.r1 (fun s a=>AC Try.prog s 44 a),[.var 2],(.loc 5)⟩]⟩,
 ⟨none,.p1 some,[.loc 1],(.set 7),[]⟩]
def cY:List AA:=[
 ⟨none,.p1 some,[(.const (.int .i64 (0)))],(.set 8),[]⟩]
def cZ:List AA:=[
 ⟨none,.call 93,[.var 1,.var 8],(.set 14),[]⟩]
def cc:List AA:=[
 ⟨none,.p1 some,[.var 15],(.set 9),[]⟩]
def cd:List AA:=[
 ⟨none,.call 90,[.var 9],.push,[]⟩,
 ⟨none,.p1 some,[.loc 0],(.set 10),[]⟩]
def Wp:List AA:=[
 ⟨none,.r1 (fun s a=>AC Try.prog s 115 a),[.var 5],.push,[]⟩,
 ⟨none,.r (fun s=>BU (fun m k=>C0 Try.prog s 115 m k true)),[.loc 0,.var 10],.push,[]⟩,
 ⟨none,.p1 (fun x=>Rp x 0),[.loc 0],.push,[]⟩,
 ⟨none,.p1 (fun x=>Rp x 1),[.loc 1],.push,[]⟩,
 ⟨none,.mk (fun l=>match l with | []=>Bv Try.prog 119 | _=>none),[],.push,[]⟩,
 ⟨none,.e (fun s=>BU (fun a x=>AX (AN Try.prog s 119 a x))),[.loc 0,.loc 2],.push,[]⟩,
 ⟨none,.p1 some,[.loc 2],(.set 11),[]⟩]
def Sg:List AA:=[
 ⟨(some ((.var 11),false)),.r1 (fun s a=>AC Try.prog s 44 a),[.var 2],.push,[]⟩,
 ⟨(some ((.var 11),false)),.p1 AE,[.loc 0],.push,[]⟩,
 ⟨(some ((.var 11),false)),.p1 (fun x=>AB Try.prog 91 x 3),[.loc 0],.push,[]⟩,
 ⟨(some ((.var 11),false)),.r1 (fun s a=>AC Try.prog s 23 a),[.loc 0],.push,[]⟩,
 ⟨(some ((.var 11),false)),.p1 some,[.var 10],.push,[]⟩,
 ⟨(some ((.var 11),false)),.p2 (AD Try.prog 23),[.loc 1,.loc 0],.push,[]⟩,
 ⟨(some ((.var 11),false)),.r1 (fun s a=>AC Try.prog s 3 a),[.loc 0],.push,[]⟩,
 ⟨(some ((.var 11),false)),.p2 (AM Try.prog .eql 3),[(.loc 0),(.const (.int .i64 (0)))],.push,[]⟩,
 ⟨none,.p Rn,[(.var 11),(.const (.bool true)),(.loc 0)],(.set 16),[]⟩]
def QR:List AA:=[
 ⟨none,.r1 (fun s a=>AC Try.prog s 115 a),[.var 5],.push,[]⟩,
 ⟨none,.p (fun l=>Bw Try.prog 119 (zipIdx [] l)),[],.push,[]⟩,
 ⟨none,.e (fun s=>jM (fun m k x=>AX (EH Try.prog s 115 m k x))),[.loc 1,.var 10,.loc 0],.push,[]⟩]
def QS:List AA:=[
 ⟨none,.r1 (fun s a=>AC Try.prog s 44 a),[.var 2],.push,[]⟩,
 ⟨none,.p1 AE,[.loc 0],.push,[]⟩,
 ⟨none,.p1 (fun x=>AB Try.prog 91 x 5),[.loc 0],.push,[]⟩,
 ⟨none,.r1 (fun s a=>AC Try.prog s 23 a),[.loc 0],.push,[]⟩,
 ⟨none,.p2 (AD Try.prog 23),[.loc 0,.var 10],.push,[]⟩,
 ⟨none,.r1 (fun s a=>AC Try.prog s 3 a),[.loc 0],.push,[]⟩,
 ⟨none,.p2 (AM Try.prog .add 3),[(.loc 0),(.const (.int .i64 (1)))],.push,[]⟩,
 ⟨none,.p2 (AD Try.prog 23),[.loc 3,.var 10],.push,[]⟩,
 ⟨none,.e (fun s=>BU (fun a x=>AX (AN Try.prog s 3 a x))),[.loc 0,.loc 1],.push,[]⟩]
def QT:List AA:=[
 ⟨none,.r1 (fun s a=>AC Try.prog s 44 a),[.var 2],.push,[]⟩,
 ⟨none,.p1 AE,[.loc 0],.push,[]⟩,
 ⟨none,.p1 (fun x=>AB Try.prog 91 x 3),[.loc 0],.push,[]⟩,
 ⟨none,.r1 (fun s a=>AC Try.prog s 23 a),[.loc 0],.push,[]⟩,
 ⟨none,.p2 (AD Try.prog 23),[.loc 0,.var 10],.push,[]⟩,
 ⟨none,.r1 (fun s a=>AC Try.prog s 3 a),[.loc 0],.push,[]⟩,
 ⟨none,.r1 (fun s a=>AC Try.prog s 44 a),[.var 2],.push,[]⟩,
 ⟨none,.p1 AE,[.loc 0],.push,[]⟩,
 ⟨none,.p1 (fun x=>AB Try.prog 91 x 8),[.loc 0],.push,[]⟩,
 ⟨none,.r1 (fun s a=>AC Try.prog s 23 a),[.loc 0],.push,[]⟩,
 ⟨none,.r (fun s l=>match l with | [x]=>A6 Try.prog s 23 x | _=>none),[.loc 0],.push,[]⟩,
 ⟨none,.p2 (AM Try.prog .eql 3),[.loc 5,.loc 0],(.set 17),[]⟩]
def QU:List AA:=[
 ⟨none,.r1 (fun s a=>AC Try.prog s 3 a),[.var 6],.push,[]⟩,
 ⟨none,.p2 (AM Try.prog .add 3),[(.loc 0),(.const (.int .i64 (1)))],.push,[]⟩,
 ⟨none,.e (fun s=>BU (fun a x=>AX (AN Try.prog s 3 a x))),[.var 6,.loc 0],.push,[]⟩]
def QV:List AA:=[
 ⟨none,.r1 (fun s a=>AC Try.prog s 23 a),[.var 3],.push,[]⟩,
 ⟨none,.mk (fun l=>(Ab Try.prog 23 1 (zipIdx [0] l)).bind fun r=>some (r,.slice 1)),[.var 9],.push,[]⟩,
 ⟨none,.e (fun s l=>Ad Try.prog s [23,23] l),[.loc 1,.loc 0],.push,[]⟩,
 ⟨none,.e (fun s=>BU (fun a x=>AX (AN Try.prog s 23 a x))),[.var 3,.loc 0],.push,[]⟩]
def QW:List AA:=[
 ⟨none,.r1 (fun s a=>AC Try.prog s 3 a),[.var 4],.push,[]⟩,
 ⟨none,.r1 (fun s a=>AC Try.prog s 44 a),[.var 2],.push,[]⟩,
 ⟨none,.p1 AE,[.loc 0],.push,[]⟩,
 ⟨none,.p1 (fun x=>AB Try.prog 91 x 3),[.loc 0],.push,[]⟩,
 ⟨none,.r1 (fun s a=>AC Try.prog s 23 a),[.loc 0],.push,[]⟩,
 ⟨none,.p2 (AD Try.prog 23),[.loc 0,.var 10],.push,[]⟩,
 ⟨none,.r1 (fun s a=>AC Try.prog s 3 a),[.loc 0],.push,[]⟩,
 ⟨none,.p (fun l=>match l with | v::l=>D8 true v l | []=>none),[.loc 6,.loc 0],.push,[]⟩,
 ⟨none,.e (fun s=>BU (fun a x=>AX (AN Try.prog s 3 a x))),[.var 4,.loc 0],.push,[]⟩]
def im:Aa:=(.ops cc)
def ip:Aa:=(.block 3 (.seq (.ops cd) (.seq (.seq (.ops Wp) (.seq (.ops Sg) (.cond (.var 16)
 (.exit 3)
 .skip))) (.seq (.ops QR) (.seq (.ops QS) (.seq (.ops QT) (.cond (.var 17)
 (.ops QU)
 (.seq (.ops QV) (.ops QW)))))))))
def jg:Code:=(TA 67).1
def jk:Code:=(TA 67).2
def Wm:List AA:=[
 ⟨none,.p1 some,[(.const (.bool false))],(.set 12),[]⟩]
def QX:List AA:=[
 ⟨none,.p1 (G3 Try.prog Go.UnOp.not),[.var 12],(.set 18),[]⟩]
def Wn:List AA:=[
 ⟨none,.p1 some,[.var 7],.push,[]⟩,
 ⟨none,.p2 (AM Try.prog .sub 3),[(.loc 0),(.const (.int .i64 (1)))],.push,[]⟩,
 ⟨none,.p1 some,[.loc 0],(.set 7),[]⟩]
def Wo:List AA:=[
 ⟨none,.r1 (fun s a=>AC Try.prog s 115 a),[.var 5],.push,[]⟩,
 ⟨none,.r1 (fun s a=>AC Try.prog s 44 a),[.var 2],.push,[]⟩,
 ⟨none,.p1 AE,[.loc 0],.push,[]⟩,
 ⟨none,.p1 (fun x=>AB Try.prog 91 x 7),[.loc 0],.push,[]⟩,
 ⟨none,.r1 (fun s a=>AC Try.prog s 23 a),[.loc 0],.push,[]⟩,
 ⟨none,.p2 (AD Try.prog 23),[.loc 0,.var 7],.push,[]⟩,
 ⟨none,.r1 (fun s a=>AC Try.prog s 3 a),[.loc 0],.push,[]⟩,
 ⟨none,.call 90,[.loc 0],.push,[⟨none,.r1 (fun s a=>AC Try.prog s 115 a),[.var 5],(.loc 7)⟩]⟩,
 ⟨none,.r (fun s=>BU (fun m k=>C0 Try.prog s 115 m k true)),[.loc 7,.loc 0],.push,[]⟩,
 ⟨none,.p1 (fun x=>Rp x 0),[.loc 0],.push,[]⟩,
 ⟨none,.p1 (fun x=>Rp x 1),[.loc 1],.push,[]⟩,
 ⟨none,.p1 some,[.loc 0],(.set 12),[]⟩]
def Il:Aa:=(.seq (.seq (.ops QX) (.cond (.var 18)
 .skip
 (.exit 4))) (.block 5 (.seq (.ops Wn) (.ops Wo))))
def QY:List AA:=[
 ⟨none,.r1 (fun s a=>AC Try.prog s 44 a),[.var 2],.push,[]⟩,
 ⟨none,.p1 AE,[.loc 0],.push,[]⟩,
 ⟨none,.p1 (fun x=>AB Try.prog 91 x 7),[.loc 0],.push,[]⟩,
 ⟨none,.r1 (fun s a=>AC Try.prog s 23 a),[.loc 0],.push,[]⟩,
 ⟨none,.p2 (AD Try.prog 23),[.loc 0,.var 7],.push,[]⟩,
 ⟨none,.r1 (fun s a=>AC Try.prog s 3 a),[.loc 0],.push,[]⟩,
 ⟨none,.p1 some,[.loc 0],(.set 8),[]⟩]
def QZ:List AA:=[
 ⟨none,.r1 (fun s a=>AC Try.prog s 44 a),[.var 2],.push,[]⟩,
 ⟨none,.p1 AE,[.loc 0],.push,[]⟩,
 ⟨none,.p1 (fun x=>AB Try.prog 91 x 4),[.loc 0],.push,[]⟩,
 ⟨none,.r1 (fun s a=>AC Try.prog s 89 a),[.loc 0],.push,[]⟩,
 ⟨none,.call 90,[.var 8],.push,[⟨none,.r1 (fun s a=>AC Try.prog s 89 a),[.loc 2],(.loc 1)⟩,⟨none,.r1 (fun s a=>AC Try.prog s 44 a),[.var 2],(.loc 4)⟩]⟩,
 ⟨none,.p2 (AD Try.prog 89),[.loc 1,.loc 0],.push,[]⟩,
 ⟨none,.r1 (fun s a=>AC Try.prog s 92 a),[.loc 0],.push,[]⟩,
 ⟨none,.p1 some,[.loc 0],(.set 1),[]⟩]
def Q0:List AA:=[
 ⟨none,.r1 (fun s a=>AC Try.prog s 3 a),[.var 6],.push,[]⟩,
 ⟨none,.p2 (AM Try.prog .sub 3),[(.loc 0),(.const (.int .i64 (1)))],.push,[]⟩,
 ⟨none,.e (fun s=>BU (fun a x=>AX (AN Try.prog s 3 a x))),[.var 6,.loc 0],.push,[]⟩]
def Q1:List AA:=[
 ⟨none,.r1 (fun s a=>AC Try.prog s 3 a),[.var 6],.push,[]⟩,
 ⟨none,.p2 (AM Try.prog .eql 3),[(.loc 0),(.const (.int .i64 (0)))],(.set 19),[]⟩]
def Q2:List AA:=[
 ⟨none,.r1 (fun s a=>AC Try.prog s 23 a),[.var 3],.push,[]⟩,
 ⟨none,.p1 (G3 Try.prog Go.UnOp.neg),[.var 8],.push,[]⟩,
 ⟨none,.p2 (AD Try.prog 23),[(.loc 1),(.const (.int .i64 (0)))],.push,[]⟩,
 ⟨none,.e (fun s=>BU (fun a x=>AX (AN Try.prog s 3 a x))),[.loc 0,.loc 1],.push,[]⟩]
def Im:Aa:=(.block 1 (.seq (.seq (.ops cZ) (.block 2 (.rangeFunc 67 (.var 14) #[26] jg jk))) (.seq (.seq (.ops Wm) (.block 4 (.loop Il))) (.seq (.ops QY) (.seq (.ops QZ) (.seq (.ops Q0) (.seq (.ops Q1) (.cond (.var 19)
 (.seq (.ops Q2) (.exit 0))
 .skip))))))))
def Q3:List AA:=[
 ⟨none,.r1 (fun s a=>AC Try.prog s 23 a),[.var 3],.push,[]⟩,
 ⟨none,.r (Ai Try.prog 23 true false false),[(.loc 0),(.const (.int .i64 (1)))],.push,[]⟩,
 ⟨none,.p (fun l=>some (.func 95 (l.take 0) (l.drop 0))),[.var 2,.var 4],.push,[]⟩,
 ⟨none,.call 94,[.loc 1,.loc 0],.push,[]⟩,
 ⟨none,.p1 some,[.loc 0],(.set 13),[]⟩]
def Ke:List AA:=[
 ⟨none,.p2 (AM Try.prog .geq 3),[(.var 13),(.const (.int .i64 (0)))],(.set 20),[]⟩]
def Q4:List AA:=[
 ⟨none,.r1 (fun s a=>AC Try.prog s 23 a),[.var 3],.push,[]⟩,
 ⟨none,.r1 (fun s a=>AC Try.prog s 23 a),[.var 3],.push,[]⟩,
 ⟨none,.p2 (AM Try.prog .add 3),[(.var 13),(.const (.int .i64 (1)))],.push,[]⟩,
 ⟨none,.r1 (fun s a=>AC Try.prog s 23 a),[.var 3],.push,[]⟩,
 ⟨none,.p2 (AM Try.prog .add 3),[(.var 13),(.const (.int .i64 (1)))],.push,[]⟩,
 ⟨none,.p2 (AD Try.prog 23),[.loc 1,.loc 0],.push,[]⟩,
 ⟨none,.r1 (fun s a=>AC Try.prog s 3 a),[.loc 0],.push,[]⟩,
 ⟨none,.r1 (fun s a=>AC Try.prog s 23 a),[.var 3],.push,[]⟩,
 ⟨none,.p2 (AD Try.prog 23),[(.loc 0),(.const (.int .i64 (1)))],.push,[]⟩,
 ⟨none,.r1 (fun s a=>AC Try.prog s 3 a),[.loc 0],.push,[]⟩,
 ⟨none,.p2 (AD Try.prog 23),[(.loc 9),(.const (.int .i64 (1)))],.push,[]⟩,
 ⟨none,.e (fun s=>BU (fun a x=>AX (AN Try.prog s 3 a x))),[.loc 0,.loc 4],.push,[⟨none,.r1 (fun s a=>AC Try.prog s 23 a),[.var 3],(.loc 10)⟩]⟩,
 ⟨none,.p2 (AD Try.prog 23),[.loc 10,.loc 9],.push,[]⟩,
 ⟨none,.e (fun s=>BU (fun a x=>AX (AN Try.prog s 3 a x))),[.loc 0,.loc 3],.push,[]⟩]
def Q5:List AA:=[
 ⟨none,.r1 (fun s a=>AC Try.prog s 23 a),[.var 3],.push,[]⟩,
 ⟨none,.r1 (fun s a=>AC Try.prog s 3 a),[.var 4],.push,[]⟩,
 ⟨none,.e (fun s=>BU (fun a x=>AX (AN Try.prog s 23 a x))),[.var 3,.loc 1],.push,[⟨none,.r1 (fun s a=>AC Try.prog s 3 a),[.var 4],(.loc 1)⟩]⟩,
 ⟨none,.e (fun s=>BU (fun a x=>AX (AN Try.prog s 3 a x))),[.var 4,.loc 1],.push,[]⟩]
def kS:As:=⟨2,21,(.seq (.ops cU) (.seq (.ops cV) (.seq (.ops cW) (.seq (.ops cX) (.seq (.seq (.ops cY) (.block 0 (.loop Im))) (.seq (.seq (.ops Q3) (.seq (.ops Ke) (.cond (.var 20)
 (.ops Q4)
 .skip))) (.seq (.ops Q5) .ret))))))),[((.var 3),some 23),((.var 4),some 3)]⟩
def dp:List AA:=[
 ⟨none,.p1 some,[(.const (.bool false))],(.set 3),[]⟩]
def dr:List AA:=[
 ⟨none,.r1 (fun s a=>AC Try.prog s 44 a),[.var 1],.push,[]⟩,
 ⟨none,.p1 AE,[.loc 0],.push,[]⟩,
 ⟨none,.p1 (fun x=>AB Try.prog 91 x 3),[.loc 0],.push,[]⟩,
 ⟨none,.r1 (fun s a=>AC Try.prog s 23 a),[.loc 0],.push,[]⟩,
 ⟨none,.r1 (fun s a=>AC Try.prog s 3 a),[.var 2],.push,[]⟩,
 ⟨none,.call 90,[.var 0],.push,[⟨none,.r1 (fun s a=>AC Try.prog s 3 a),[.var 2],(.loc 1)⟩,⟨none,.r1 (fun s a=>AC Try.prog s 23 a),[.loc 3],(.loc 2)⟩,⟨none,.r1 (fun s a=>AC Try.prog s 44 a),[.var 1],(.loc 5)⟩]⟩,
 ⟨none,.p2 (AD Try.prog 23),[.loc 2,.loc 0],.push,[]⟩,
 ⟨none,.r1 (fun s a=>AC Try.prog s 3 a),[.loc 0],.push,[]⟩,
 ⟨none,.p2 (AM Try.prog .eql 3),[.loc 0,.loc 3],.push,[]⟩,
 ⟨none,.p1 some,[.loc 0],(.set 3),[]⟩]
def kh:As:=⟨3,4,(.seq (.ops dp) (.seq (.ops dr) .ret)),[((.var 3),none)]⟩
def cP:List AA:=[
 ⟨none,.call 63,[.var 0,.var 2],.push,[]⟩]
def Wk:List AA:=[
 ⟨none,.p1 AE,[.var 0],.push,[]⟩,
 ⟨none,.p1 (fun x=>AB Try.prog 91 x 12),[.loc 0],.push,[]⟩,
 ⟨none,.r1 (fun s a=>AC Try.prog s 33 a),[.loc 0],.push,[]⟩,
 ⟨none,.call 60,[.var 1],.push,[⟨none,.r1 (fun s a=>AC Try.prog s 33 a),[.loc 2],(.loc 1)⟩]⟩,
 ⟨none,.p (fun l=>Bw Try.prog 27 (zipIdx [1] l)),[.loc 0],.push,[]⟩,
 ⟨none,.mk (fun l=>(Ab Try.prog 33 1 (zipIdx [0] l)).bind fun r=>some (r,.slice 1)),[.loc 0],.push,[]⟩,
 ⟨none,.e (fun s l=>Ad Try.prog s [33,33] l),[.loc 3,.loc 0],.push,[]⟩,
 ⟨none,.p1 AE,[.var 0],.push,[]⟩,
 ⟨none,.p1 (fun x=>AB Try.prog 91 x 12),[.loc 0],.push,[]⟩,
 ⟨none,.e (fun s=>BU (fun a x=>AX (AN Try.prog s 33 a x))),[.loc 0,.loc 2],.push,[]⟩]
def cQ:List AA:=[
 ⟨none,.p (fun l=>Bw Try.prog 104 (zipIdx [0,1] l)),[(.var 1),(.const (.bool true))],.push,[]⟩,
 ⟨none,.mk (fun l=>match l with | [v]=>DD 104 v | _=>none),[.loc 0],.push,[]⟩,
 ⟨none,.p1 some,[.loc 0],(.set 3),[]⟩]
def cR:List AA:=[
 ⟨none,.r (fun s l=>match l with | [x]=>A6 Try.prog s 23 x | _=>none),[.var 1],.push,[]⟩,
 ⟨none,.p2 (AM Try.prog .gtr 3),[(.loc 0),(.const (.int .i64 (1)))],(.set 4),[]⟩]
def cS:List AA:=[
 ⟨none,.call 78,[.var 0,.var 3],.push,[]⟩]
def cT:List AA:=[
 ⟨none,.p1 AE,[.var 0],.push,[]⟩,
 ⟨none,.p1 (fun x=>AB Try.prog 91 x 1),[.loc 0],.push,[]⟩,
 ⟨none,.r1 (fun s a=>AC Try.prog s 89 a),[.loc 0],.push,[]⟩,
 ⟨none,.mk (fun l=>(Ab Try.prog 89 1 (zipIdx [0] l)).bind fun r=>some (r,.slice 1)),[.var 3],.push,[]⟩,
 ⟨none,.e (fun s l=>Ad Try.prog s [89,89] l),[.loc 1,.loc 0],.push,[]⟩,
 ⟨none,.p1 AE,[.var 0],.push,[]⟩,
 ⟨none,.p1 (fun x=>AB Try.prog 91 x 1),[.loc 0],.push,[]⟩,
 ⟨none,.e (fun s=>BU (fun a x=>AX (AN Try.prog s 89 a x))),[.loc 0,.loc 2],.push,[]⟩]
def Wl:List AA:=[
 ⟨none,.p2 (AD Try.prog 23),[(.var 1),(.const (.int .i64 (0)))],.push,[]⟩,
 ⟨none,.r1 (fun s a=>AC Try.prog s 3 a),[.loc 0],.push,[]⟩,
 ⟨none,.call 71,[.var 0,.loc 0,.var 3],.push,[]⟩]
def kR:As:=⟨3,5,(.seq (.ops cP) (.seq (.ops Wk) (.seq (.ops cQ) (.seq (.seq (.ops cR) (.cond (.var 4)
 (.seq (.ops cS) (.ops cT))
 .skip)) (.ops Wl))))),[]⟩
def V2:List AA:=[
 ⟨none,.p1 some,[(.const (.int .i64 (0)))],(.set 2),[]⟩]
def V3:List AA:=[
 ⟨none,.p2 (AM Try.prog .eql 44),[(.var 0),(.const (.ptr none))],(.set 7),[]⟩]
def ie:List AA:=[
 ⟨none,.p1 some,[(.const (.int .i64 (2)))],(.set 2),[]⟩]
def V4:List AA:=[
 ⟨none,.call 63,[(.var 0),(.const (.int .i64 (0)))],.push,[]⟩]
def V5:List AA:=[
 ⟨none,.p1 some,[(.const (.int .i64 (32)))],(.set 3),[]⟩]
def V6:List AA:=[
 ⟨none,.p1 some,[(.const (.int .i64 (0)))],(.set 4),[]⟩]
def Sb:List AA:=[
 ⟨none,.p1 AE,[.var 0],.push,[]⟩,
 ⟨none,.p1 (fun x=>AB Try.prog 91 x 10),[.loc 0],.push,[]⟩,
 ⟨none,.r1 (fun s a=>AC Try.prog s 4 a),[.loc 0],.push,[]⟩,
 ⟨none,.p1 (G3 Try.prog Go.UnOp.not),[.loc 0],(.set 8),[]⟩]
def V7:List AA:=[
 ⟨none,.call 64,[.var 0],.push,[]⟩,
 ⟨none,.p1 some,[.loc 0],(.set 5),[]⟩]
def N5:List AA:=[
 ⟨none,.p2 (AM Try.prog .neq 92),[(.var 5),(.const (.ptr none))],(.set 9),[]⟩]
def V8:List AA:=[
 ⟨none,.p1 AE,[.var 0],.push,[]⟩,
 ⟨none,.p1 (fun x=>AB Try.prog 91 x 8),[.loc 0],.push,[]⟩,
 ⟨none,.r1 (fun s a=>AC Try.prog s 23 a),[.loc 0],.push,[]⟩,
 ⟨none,.r (fun s l=>match l with | [x]=>A6 Try.prog s 23 x | _=>none),[.loc 0],.push,[]⟩,
 ⟨none,.p2 (AM Try.prog .eql 3),[(.loc 0),(.const (.int .i64 (0)))],.push,[]⟩,
 ⟨none,.p1 some,[.loc 0],(.set 10),[]⟩]
def P4:List AA:=[
 ⟨none,.call 65,[.var 0],.push,[]⟩]
def KU:List AA:=[
 ⟨none,.p2 (AM Try.prog .geq 3),[.var 4,.var 1],.push,[]⟩,
 ⟨none,.p1 some,[.loc 0],(.set 11),[]⟩]
def P5:List AA:=[
 ⟨none,.call 63,[(.var 0),(.const (.int .i64 (0)))],.push,[]⟩]
def P6:List AA:=[
 ⟨none,.p1 some,[(.const (.int .i64 (2)))],(.set 2),[]⟩]
def P7:List AA:=[
 ⟨none,.p1 some,[.var 4],.push,[]⟩,
 ⟨none,.p2 (AM Try.prog .add 3),[(.loc 0),(.const (.int .i64 (1)))],.push,[]⟩,
 ⟨none,.p1 some,[.loc 0],(.set 4),[]⟩]
def P8:List AA:=[
 ⟨none,.p1 AE,[.var 0],.push,[]⟩,
 ⟨none,.p1 (fun x=>AB Try.prog 91 x 13),[.loc 0],.push,[]⟩,
 ⟨none,.r1 (fun s a=>AC Try.prog s 3 a),[.loc 0],.push,[]⟩,
 ⟨none,.p2 (AM Try.prog .add 3),[(.loc 0),(.const (.int .i64 (1)))],.push,[]⟩,
 ⟨none,.p1 AE,[.var 0],.push,[]⟩,
 ⟨none,.p1 (fun x=>AB Try.prog 91 x 13),[.loc 0],.push,[]⟩,
 ⟨none,.e (fun s=>BU (fun a x=>AX (AN Try.prog s 3 a x))),[.loc 0,.loc 2],.push,[]⟩]
def P9:List AA:=[
 ⟨none,.call 67,[.var 0,.var 5],.push,[]⟩,
 ⟨none,.p1 (fun x=>Rp x 0),[.loc 0],.push,[]⟩,
 ⟨none,.p1 (fun x=>Rp x 1),[.loc 1],.push,[]⟩,
 ⟨none,.call 66,[.var 0,.loc 1,.loc 0],.push,[]⟩]
def QA:List AA:=[
 ⟨none,.p2 (AM Try.prog .geq 3),[.var 4,.var 3],(.set 12),[]⟩]
def QB:List AA:=[
 ⟨none,.p1 some,[.var 3],.push,[]⟩,
 ⟨none,.p2 (AM Try.prog .add 3),[(.loc 0),(.const (.int .i64 (32)))],.push,[]⟩,
 ⟨none,.p1 some,[.loc 0],(.set 3),[]⟩]
def QC:List AA:=[
 ⟨none,.call 68,[.var 0],.push,[]⟩]
def QD:List AA:=[
 ⟨none,.call 63,[(.var 0),(.const (.int .i64 (0)))],.push,[]⟩]
def QE:List AA:=[
 ⟨none,.call 69,[.var 0],.push,[]⟩]
def QF:List AA:=[
 ⟨none,.call 70,[.var 0],.push,[]⟩,
 ⟨none,.p1 some,[.loc 0],(.set 6),[]⟩]
def KV:List AA:=[
 ⟨none,.p2 (AM Try.prog .eql 3),[(.var 6),(.const (.int .i64 (0)))],(.set 13),[]⟩]
def QG:List AA:=[
 ⟨none,.p1 AE,[.var 0],.push,[]⟩,
 ⟨none,.p1 (fun x=>AB Try.prog 91 x 2),[.loc 0],.push,[]⟩,
 ⟨none,.r1 (fun s a=>AC Try.prog s 23 a),[.loc 0],.push,[]⟩,
 ⟨none,.call 60,[.loc 0],.push,[]⟩,
 ⟨none,.p1 AE,[.var 0],.push,[]⟩,
 ⟨none,.p1 (fun x=>AB Try.prog 91 x 11),[.loc 0],.push,[]⟩,
 ⟨none,.e (fun s=>BU (fun a x=>AX (AN Try.prog s 23 a x))),[.loc 0,.loc 2],.push,[]⟩]
def QH:List AA:=[
 ⟨none,.call 63,[(.var 0),(.const (.int .i64 (0)))],.push,[]⟩]
def QI:List AA:=[
 ⟨none,.p1 some,[(.const (.int .i64 (1)))],(.set 2),[]⟩]
def QJ:List AA:=[
 ⟨none,.p1 AE,[.var 0],.push,[]⟩,
 ⟨none,.p1 (fun x=>AB Try.prog 91 x 8),[.loc 0],.push,[]⟩,
 ⟨none,.r1 (fun s a=>AC Try.prog s 23 a),[.loc 0],.push,[]⟩,
 ⟨none,.p1 AE,[.var 0],.push,[]⟩,
 ⟨none,.p1 (fun x=>AB Try.prog 91 x 7),[.loc 0],.push,[]⟩,
 ⟨none,.r1 (fun s a=>AC Try.prog s 23 a),[.loc 0],.push,[]⟩,
 ⟨none,.r (fun s l=>match l with | [x]=>A6 Try.prog s 23 x | _=>none),[.loc 0],.push,[]⟩,
 ⟨none,.mk (fun l=>(Ab Try.prog 23 1 (zipIdx [0] l)).bind fun r=>some (r,.slice 1)),[.loc 0],.push,[]⟩,
 ⟨none,.e (fun s l=>Ad Try.prog s [23,23] l),[.loc 5,.loc 0],.push,[]⟩,
 ⟨none,.p1 AE,[.var 0],.push,[]⟩,
 ⟨none,.p1 (fun x=>AB Try.prog 91 x 8),[.loc 0],.push,[]⟩,
 ⟨none,.e (fun s=>BU (fun a x=>AX (AN Try.prog s 23 a x))),[.loc 0,.loc 2],.push,[]⟩]
def QK:List AA:=[
 ⟨none,.p1 AE,[.var 0],.push,[]⟩,
 ⟨none,.p1 (fun x=>AB Try.prog 91 x 6),[.loc 0],.push,[]⟩,
 ⟨none,.r1 (fun s a=>AC Try.prog s 23 a),[.loc 0],.push,[]⟩,
 ⟨none,.p2 (AD Try.prog 23),[.loc 0,.var 6],.push,[]⟩,
 ⟨none,.r1 (fun s a=>AC Try.prog s 3 a),[.loc 0],.push,[]⟩,
 ⟨none,.p2 (AM Try.prog .mul 3),[.var 6,.loc 0],.push,[]⟩,
 ⟨none,.call 71,[(.var 0),(.loc 0),(.const (.ptr none))],.push,[]⟩]
def C9:Aa:=(.seq (.seq (.ops Sb) (.cond (.var 8)
 .skip
 (.exit 0))) (.block 1 (.seq (.seq (.ops V7) (.seq (.ops N5) (.cond (.var 9)
 (.seq (.block 2 (.seq (.ops V8) (.cond (.var 10)
 (.ops P4)
 (.seq (.ops KU) (.cond (.var 11)
 (.seq (.ops P5) (.seq (.ops P6) .ret))
 (.seq (.ops P7) (.seq (.ops P8) (.ops P9)))))))) (.exit 1))
 .skip))) (.seq (.seq (.ops QA) (.cond (.var 12)
 (.seq (.ops QB) (.seq (.ops QC) (.seq (.ops QD) (.seq (.ops QE) (.exit 1)))))
 .skip)) (.seq (.ops QF) (.seq (.seq (.ops KV) (.cond (.var 13)
 (.seq (.ops QG) (.seq (.ops QH) (.seq (.ops QI) .ret)))
 .skip)) (.seq (.ops QJ) (.ops QK))))))))
def QL:List AA:=[
 ⟨none,.p1 some,[(.const (.int .i64 (0)))],(.set 2),[]⟩]
def jn:As:=⟨2,14,(.seq (.ops V2) (.seq (.seq (.ops V3) (.cond (.var 7)
 (.seq (.ops ie) .ret)
 .skip)) (.seq (.ops V4) (.seq (.ops V5) (.seq (.seq (.ops V6) (.block 0 (.loop C9))) (.seq (.ops QL) .ret)))))),[((.var 2),none)]⟩
def WD:List AA:=[
 ⟨none,.p1 some,[(.const (.bool false))],(.set 2),[]⟩]
def WE:List AA:=[
 ⟨none,.p2 (AM Try.prog .neq 44),[(.var 0),(.const (.ptr none))],.push,[]⟩,
 ⟨(some ((.loc 0),true)),.p1 some,[.var 1],.push,[]⟩,
 ⟨(some ((.loc 1),true)),.p2 (AM Try.prog .gtr 3),[(.loc 0),(.const (.int .i64 (0)))],.push,[]⟩,
 ⟨none,.p Rn,[(.loc 2),(.loc 0),(.const (.bool false))],.push,[]⟩,
 ⟨(some ((.loc 0),true)),.p1 some,[.var 1],.push,[]⟩,
 ⟨(some ((.loc 1),true)),.p1 some,[.var 0],.push,[]⟩,
 ⟨(some ((.loc 2),true)),.p1 AE,[.loc 0],.push,[]⟩,
 ⟨(some ((.loc 3),true)),.p1 (fun x=>AB Try.prog 91 x 11),[.loc 0],.push,[]⟩,
 ⟨(some ((.loc 4),true)),.r1 (fun s a=>AC Try.prog s 23 a),[.loc 0],.push,[]⟩,
 ⟨(some ((.loc 5),true)),.r (fun s l=>match l with | [x]=>A6 Try.prog s 23 x | _=>none),[.loc 0],.push,[]⟩,
 ⟨(some ((.loc 6),true)),.p2 (AM Try.prog .lss 3),[.loc 5,.loc 0],.push,[]⟩,
 ⟨none,.p Rn,[(.loc 7),(.loc 0),(.const (.bool false))],.push,[]⟩,
 ⟨(some ((.loc 0),true)),.p1 some,[.var 0],.push,[]⟩,
 ⟨(some ((.loc 1),true)),.p1 AE,[.loc 0],.push,[]⟩,
 ⟨(some ((.loc 2),true)),.p1 (fun x=>AB Try.prog 91 x 11),[.loc 0],.push,[]⟩,
 ⟨(some ((.loc 3),true)),.r1 (fun s a=>AC Try.prog s 23 a),[.loc 0],.push,[]⟩,
 ⟨(some ((.loc 4),true)),.p1 some,[.var 1],.push,[]⟩,
 ⟨(some ((.loc 5),true)),.p2 (AD Try.prog 23),[.loc 1,.loc 0],.push,[]⟩,
 ⟨(some ((.loc 6),true)),.r1 (fun s a=>AC Try.prog s 3 a),[.loc 0],.push,[]⟩,
 ⟨(some ((.loc 7),true)),.p2 (AM Try.prog .gtr 3),[(.loc 0),(.const (.int .i64 (0)))],.push,[]⟩,
 ⟨none,.p Rn,[(.loc 8),(.loc 0),(.const (.bool false))],.push,[]⟩,
 ⟨none,.p1 some,[.loc 0],(.set 2),[]⟩]
def jo:As:=⟨2,3,(.seq (.ops WD) (.seq (.ops WE) .ret)),[((.var 2),none)]⟩
theorem gM:AR Try.prog 90=some ke:=by kernel_rfl
theorem gN:AR Try.prog 91=some jv:=by kernel_rfl
theorem gI:AR Try.prog 77=some jt:=by kernel_rfl
theorem gC:AR Try.prog 71=some kV:=by kernel_rfl
theorem gJ:AR Try.prog 78=some ka:=by kernel_rfl
theorem fv:AR Try.prog 63=some jp:=by kernel_rfl
theorem fx:AR Try.prog 65=some jq:=by kernel_rfl
theorem fj:AR Try.prog 47=some kL:=by kernel_rfl
theorem fi:AR Try.prog 46=some kK:=by kernel_rfl
theorem fg:AR Try.prog 40=some kJ:=by kernel_rfl
theorem gA:AR Try.prog 68=some kT:=by kernel_rfl
theorem Xa:AR Try.prog 69=some jr:=by kernel_rfl
theorem gB:AR Try.prog 70=some kU:=by kernel_rfl
theorem gV:AR Try.prog 99=some jw:=by kernel_rfl
theorem gD:AR Try.prog 72=some kW:=by kernel_rfl
theorem gE:AR Try.prog 73=some js:=by kernel_rfl
theorem Zn:AR Try.prog 100=some iR:=by kernel_rfl
theorem Zo:AR Try.prog 101=some iS:=by kernel_rfl
theorem Zv:AR Try.prog 113=some iZ:=by kernel_rfl
theorem gF:AR Try.prog 74=some kX:=by kernel_rfl
theorem gG:AR Try.prog 75=some kY:=by kernel_rfl
theorem gH:AR Try.prog 76=some kZ:=by kernel_rfl
theorem Zp:AR Try.prog 102=some iT:=by kernel_rfl
theorem Zw:AR Try.prog 114=some fR:=by kernel_rfl
theorem fe:AR Try.prog 36=some jW:=by kernel_rfl
theorem Zs:AR Try.prog 110=some iW:=by kernel_rfl
theorem gO:AR Try.prog 92=some jY:=by kernel_rfl
theorem fw:AR Try.prog 64=some kQ:=by kernel_rfl
theorem gP:AR Try.prog 93=some kf:=by kernel_rfl
theorem Zt:AR Try.prog 111=some iX:=by kernel_rfl
theorem fz:AR Try.prog 67=some kS:=by kernel_rfl
theorem gt:FU Try.prog 67=[0,1,2,4,5,6,7,8,9,10,11,13,14,15,25,26,45,70,87,121,131]:=by kernel_rfl
theorem jy:HV Try.prog 67 jg=some im:=by kernel_rfl
theorem jz:HV Try.prog 67 jk=some ip:=by kernel_rfl
theorem gR:AR Try.prog 95=some kh:=by kernel_rfl
theorem fy:AR Try.prog 66=some kR:=by kernel_rfl
theorem XZ:AR Try.prog 34=some jn:=by kernel_rfl
theorem fh:AR Try.prog 41=some jo:=by kernel_rfl
end
end Go.Proofs.Ytilhhmkdcoajnaa.Am
set_option linter.unusedVariables false
set_option linter.unusedSimpArgs false
set_option maxRecDepth 16000
namespace Go.Proofs.Ytilhhmkdcoajnaa.Am
open Go Go.Proofs
noncomputable section
abbrev BT:=Nat×Nat×Nat
abbrev Ow:=Nat→BT
structure AH(m:BT→Prop)(ow:Ow)(s:AG)(ow':Ow)(s':AG):Prop where
 next:s.next≤s'.next
 tags:∀x,x<s.next→¬ m (ow x)→ow' x=ow x
 heap:∀x,x<s.next→¬ m (ow x)→s'.heap.get x=s.heap.get x
theorem AH.refl(m:BT→Prop)(ow:Ow)(s:AG):AH m ow s ow s:=⟨kp _,fun _ _ _=>rfl,fun _ _ _=>rfl⟩
theorem AH.trans{m:BT→Prop}{ow ow1 ow2:Ow}{s s1 s2:AG}(h:AH m ow s ow1 s1)(k:AH m ow1 s1 ow2 s2):AH m ow s ow2 s2:=by
 have h1:=h.next
 refine⟨lF h.next k.next,fun x hx hm=>(k.tags x (by omega) (by rw[h.tags x hx hm];exact hm)).trans (h.tags x hx hm),fun x hx hm=>?_⟩
 rw[k.heap x (by omega) (by rw[h.tags x hx hm];exact hm),h.heap x hx hm]
theorem AH.mono{m m':BT→Prop}{ow ow':Ow}{s s':AG}(h:AH m ow s ow' s')(k:∀t,m t→m' t):AH m' ow s ow' s':=⟨h.next,fun x hx hm=>h.tags x hx fun q=>hm (k _ q),fun x hx hm=>h.heap x hx fun q=>hm (k _ q)⟩
def ext(ow:Ow)(n:Nat)(T:BT):Ow:=fun x=>if x<n then ow x else T
theorem Dj{ow:Ow}{n:Nat}{T:BT}{x:Nat}(h:x<n):ext ow n T x=ow x:=if_pos h
theorem Cn{ow:Ow}{n:Nat}{T:BT}{x:Nat}(h:n≤x):ext ow n T x=T:=if_neg (by omega)
theorem AH.old{m:BT→Prop}{ow:Ow}{s s':AG}(h:B6 s.next s s')(T:BT):AH m ow s (ext ow s.next T) s':=⟨h.1,fun x hx _=>Dj hx,fun x hx _=>h.2 x hx⟩
theorem AH.new(m:BT→Prop)(ow:Ow)(s:AG)(o:Cl)(T:BT):AH m ow s (ext ow s.next T) (newObj s o):=AH.old (B6.new s o) T
structure Pf(ow:Ow)(T:BT)(s:AG)(i:Nat)(r:EI):Prop where
 get:s.heap.get i=some (.row r)
 whose:ow i=T
 lt:i<s.next
 own:r.mode=.own
 sz:r.sz=1
 par:∀p,r.par=some p→ow p=T∧p<s.next∧p≠i
theorem Pf.step{m:BT→Prop}{ow ow':Ow}{T:BT}{s s':AG}{i:Nat}{r:EI}(h:Pf ow T s i r)(k:AH m ow s ow' s')(hm:¬ m T):Pf ow' T s' i r:=by
 have hn:=k.next
 have hl:=h.lt
 refine⟨by rw[k.heap i h.lt (by rw[h.whose];exact hm)];exact h.get,by rw[k.tags i h.lt (by rw[h.whose];exact hm)];exact h.whose,by omega,h.own,h.sz,fun p hp=>?_⟩
 obtain⟨h1,h2,h3⟩:=h.par p hp
 exact⟨by rw[k.tags p h2 (by rw[h1];exact hm)];exact h1,by omega,h3⟩
theorem Pf.store{ow:Ow}{T:BT}{s:AG}{i o:Nat}{r:EI}(h:Pf ow T s i r){vs:List AV}(hne:vs≠[])(ho:o+vs.length≤r.n)(hc:A7 vs=true):
  ∃s',B7 s i o vs=some s'∧Pf ow T s' i { r with c:=r.c.fill o vs,par:=none }∧AH (· = T) ow s ow s'∧s'.next=s.next:=by
 have hrow:rowAt s i=some r:=by simp[rowAt,h.get]
 have hst:B7 s i o vs=some (setObj (Al s i r) i (.row { r with c:=r.c.fill o vs,par:=none })):=by
  cases vs with
  | nil=>exact absurd rfl hne
  | cons v vs =>
   have hb:=BY ho
   rw[lO]at hb
   simp[B7,hrow,h.own,EK,hb,hc,AI]
 have hun:(Al s i r).next=s.next:=by
  unfold Al
  split
  ·rfl
  ·rename_i p _
   cases Nat.beq p i<;>rfl
 refine⟨_,hst,⟨by rw[BL,if_pos rfl],h.whose,by show i<(Al s i r).next;rw[hun];exact h.lt,h.own,h.sz,fun p hp=>by cases hp⟩,⟨by show s.next≤(Al s i r).next;omega,fun _ _ _=>rfl,fun x hx hm=>?_⟩,hun⟩
 have hxi:x≠i:=fun e=>hm (by rw[e];exact h.whose)
 rw[BL,if_neg hxi]
 unfold Al
 cases hp:r.par with
 | none=>rfl
 | some p =>
  obtain⟨h1,h2,h3⟩:=h.par p hp
  have hb:Nat.beq p i=false:=Di h3
  simp only[hb,cond_false]
  rw[E2,if_neg (fun e=>hm (by rw[e];exact h1))]
theorem Ey{a:Option (Nat×Nat)}{n:Nat}{cx:Option Nat}:Fs (.slice a n cx) (.slice a n cx)=true:=by
 cases a with
 | none=>cases cx<;>simp[Fs]
 | some io=>obtain⟨i,o⟩:=io;cases cx<;>simp[Fs]
def BO(ow:Ow)(T:BT)(s:AG)(v:AV)(cs:List AV):Prop:=(v=.slice none 0 (some 0)∧cs=[]) ∨
 ∃i o cap r,v=.slice (some (i,o)) cs.length cap∧Pf ow T s i r∧(∀k u,cs[k]? = some u→r.c.get (o+k)=some u)∧o+cs.length≤r.n∧(match cap with
  | some c=>cs.length≤c∧o+c≤r.n
  | none=>o=0∧0<r.n)
theorem BO.nil(ow:Ow)(T:BT)(s:AG):BO ow T s (.slice none 0 (some 0)) []:=.inl ⟨rfl,rfl⟩
theorem BO.step{m:BT→Prop}{ow ow':Ow}{T:BT}{s s':AG}{v:AV}{cs:List AV}(h:BO ow T s v cs)(k:AH m ow s ow' s')(hm:¬ m T):BO ow' T s' v cs:=by
 rcases h with h | ⟨i,o,cap,r,h1,h2,h3⟩
 ·exact .inl h
 ·exact .inr ⟨i,o,cap,r,h1,h2.step k hm,h3⟩
theorem BO.isCell{ow:Ow}{T:BT}{s:AG}{v:AV}{cs:List AV}(h:BO ow T s v cs):v.isCell=true∧v.cells=[v]:=by
 rcases h with⟨rfl,_⟩ | ⟨i,o,cap,r,rfl,_⟩<;>exact⟨rfl,rfl⟩
theorem BO.slice{ow:Ow}{T:BT}{s:AG}{v:AV}{cs:List AV}(h:BO ow T s v cs):Ae s.next s v cs:=by
 rcases h with⟨rfl,rfl⟩ | ⟨i,o,cap,r,rfl,h2,h3,h4,h5⟩
 ·exact⟨none,some 0,rfl,BM.nil⟩
 ·exact⟨_,_,rfl,fun k u hk=>⟨i,o,rfl,h2.lt,B9 h2.get (by have:=Af hk;omega) (h3 k u hk)⟩⟩
theorem BO.self{ow:Ow}{T:BT}{s:AG}{v:AV}{cs:List AV}(h:BO ow T s v cs):Fs v v=true:=by
 obtain⟨a,cap,rfl,_⟩:=h.slice
 exact Ey
theorem BO.len{ow:Ow}{T:BT}{s:AG}{v:AV}{cs:List AV}(h:BO ow T s v cs){t e:TypeId}(ht:Try.prog.underlying t=some (.slice e))(s':AG):A6 Try.prog s' t v=some (iv (cs.length:Int)):=by
 rcases h with⟨rfl,rfl⟩ | ⟨i,o,cap,r,rfl,_⟩
 ·exact BV ht
 ·exact BV ht
def Az(v:AV)(k:Nat):AV:=match v with
 | .slice (some (i,o)) _ _=>.ptr (some (i,o+k * 1))
 | _=>BE
theorem BO.addr{ow:Ow}{T:BT}{s:AG}{v:AV}{cs:List AV}(h:BO ow T s v cs){t e:TypeId}(ht:Try.prog.underlying t=some (.slice e))(hs:BD Try.prog e=some 1){k:Nat}(hk:k<cs.length):AD Try.prog t v (iv (k:Int))=some (Az v k):=by
 rcases h with⟨rfl,rfl⟩ | ⟨i,o,cap,r,rfl,_⟩
 ·simp at hk
 ·exact Bc ht hs hk
theorem BO.get{ow:Ow}{T:BT}{s:AG}{v:AV}{cs:List AV}(h:BO ow T s v cs){t:TypeId}(ht:Fy Try.prog t=some false){k:Nat}{u:AV}(hk:cs[k]? = some u):AC Try.prog s t (Az v k)=some u:=by
  rcases h with⟨rfl,rfl⟩ | ⟨i,o,cap,r,rfl,h2,h3,h4,h5⟩
  · simp at hk
  · refine CG       ht ?_
    rw[lY]
    exact B9 h2.get (by have:=Af hk;omega) (h3 k u hk)
theorem BO.set  {ow : Ow} {T : BT}  {s : AG}  {v : AV} {cs : List AV} (h : BO  ow T s v cs) {t : TypeId} (ht : BD    Try.prog t = some 1) {k : Nat} (hk : k < cs.length) {x : AV} (h1 : x.isCell = true) (h2 : x.cells = [x]) :
    ∃s',AN Try.prog s t (Az v k) x=some s'∧BO ow T s' v (cs.set k x)∧AH (· = T) ow s ow s'∧s'.next=s.next:=by
  rcases h with⟨rfl,rfl⟩ | ⟨i,o,cap,r,rfl,hm,h3,h4,h5⟩
  · simp at hk
  · obtain⟨s',g1,g2,g3,g4⟩:=hm.store (o:=o+k * 1) (vs:=[x]) (by simp) (by simp;omega) (by simp[A7,h1])
    refine⟨s',?_,.inr ⟨i,o,cap,_,by rw[kv],g2,fun j u hj=>?_,by rw[kv];exact h4,?_⟩,g3,g4⟩
    · simp[Az,AN,ht,h2,AI]
      rw[← g1]
      congr 1
      omega
    · show(Ag.fill r.c (o+k * 1) [x]).get (o+j)=some u
      rw[Ag.get_fill]
      rw[lH]at hj
      by_cases e:k=j
      · subst e
        rw[if_pos rfl,if_pos hk]at hj
        rw[if_pos ⟨by omega,by show o+k<o+k * 1+1;omega⟩,show o+k - (o+k * 1)=0 by omega]
        exact hj
      · rw [if_neg e] at hj
        rw[if_neg (fun q=>e (by have q1:=q.1;have q2:o+j<o+k * 1+1:=q.2;omega))]
        exact h3 j u hj
    · cases cap with
      | none=>exact h5
      | some c=>exact⟨by rw[kv];exact h5.1,h5.2⟩
def FE(v:AV)(k:Nat):AV:=match v with
 | .slice a _ cap=>.slice a k cap
 | _=>v
theorem BO.cut{ow:Ow}{T:BT}{s:AG}{v:AV}{cs:List AV}(h:BO ow T s v cs){k:Nat}(hk:k≤cs.length):BO ow T s (FE v k) (cs.take k):=by
 rcases h with⟨rfl,rfl⟩ | ⟨i,o,cap,r,rfl,h2,h3,h4,h5⟩
 ·have:k=0:=by simpa using hk
  subst this
  exact .inl ⟨rfl,rfl⟩
 ·have hl:(cs.take k).length=k:=by rw[lI];omega
  refine .inr ⟨i,o,cap,r,by rw[hl];rfl,h2,fun j u hj=>?_,by omega,?_⟩
  ·rw[mY]at hj
   split at hj
   ·exact h3 j u hj
   ·cases hj
  ·cases cap with
   | none=>exact h5
   | some c=>exact⟨by omega,h5.2⟩
theorem BO.cut_op{ow:Ow}{T:BT}{s:AG}{v:AV}{cs:List AV}(h:BO ow T s v cs){t e:TypeId}(ht:Try.prog.underlying t=some (.slice e))(hs:BD Try.prog e=some 1){k:Nat}(hk:k≤cs.length):
  Ai Try.prog t false true false s [v,iv (k:Int)]=some (FE v k):=by
 rcases h with⟨rfl,rfl⟩ | ⟨i,o,cap,r,rfl,h2,h3,h4,h5⟩
 ·have:k=0:=by simpa using hk
  subst this
  have hb:BA (.int .i64 0) 0=some 0:=rfl
  show A2 Try.prog s t (.slice none 0 (some 0)) none (some (iv ((0:Nat):Int))) none=_
  simp[A2,ht,hs,hb,AI,FE]
 ·cases cap with
  | some c =>
   have hb:BA (iv (k:Int)) c=some k:=by simp[BA,E5,C1,AI,BY (show k≤c by have:=h5.1;omega)]
   show A2 Try.prog s t (.slice (some (i,o)) cs.length (some c)) none (some (iv (k:Int))) none=_
   cases hz:Nat.beq c 0<;>simp[A2,ht,hs,hb,AI,hz,FE]
  | none =>
   have h5:o=0:=h5.1
   subst h5
   have hb:BA (iv (k:Int)) r.n=some k:=by simp[BA,E5,C1,AI,BY (show k≤r.n by omega)]
   have hrow:rowAt s i=some r:=by simp[rowAt,h2.get]
   show A2 Try.prog s t (.slice (some (i,0)) cs.length none) none (some (iv (k:Int))) none=_
   simp[A2,ht,hs,hrow,h2.sz,AI,hb,BY (ku r.n),show Nat.beq 1 0=false from rfl,FE]
def Dw(v:AV)(k:Nat):AV:=match v with
 | .slice none n (some c)=>.slice none (n - k) (some (c - k))
 | .slice (some (i,o)) n (some c)=>.slice (some (bif Nat.beq c k then (i,o)else (i,o+k * 1))) (n - k) (some (c - k))
 | .slice (some (i,o)) n none=>.slice (some (i,o+k * 1)) (n - k) none
 | v=>v
theorem BO.rest  {ow : Ow} {T : BT}  {s : AG}  {v : AV} {cs : List AV} (h : BO  ow T s v cs) {t e : TypeId} (ht : Try.prog.underlying t = some (.slice e)) (hs : BD    Try.prog e = some 1) {k : Nat} (hk : k ≤ cs.length) :
    Ai Try.prog t true false false s [v,iv (k:Int)]=some (Dw v k)∧Ae s.next s (Dw v k) (cs.drop k):=by
  have hb:BA (iv (k:Int)) cs.length=some k:=by simp[BA,E5,C1,AI,BY hk]
  rcases h with⟨rfl,rfl⟩ | ⟨i,o,cap,r,rfl,h2,h3,h4,h5⟩
  · have:k=0:=by simpa using hk
    subst this
    have hb0:BA (.int .i64 0) 0=some 0:=rfl
    refine⟨?_,⟨none,some 0,rfl,BM.nil⟩⟩
    show A2 Try.prog s t (.slice none 0 (some 0)) (some (iv ((0:Nat):Int))) none none=_
    simp[A2,ht,hs,hb0,AI,Dw]
  · have cells:∀cap',Ae s.next s (.slice (some (i,o+k * 1)) (cs.length - k) cap') (cs.drop k):=fun cap'=>by
      refine⟨_,_,by rw[lw],fun j u hj=>⟨i,o+k * 1,rfl,h2.lt,?_⟩⟩
      rw[lX]at hj
      rw[show o+k * 1+j=o+(k+j) by omega]
      exact B9 h2.get (by have:=Af hj;omega) (h3 _ u hj)
    cases cap with
    | some c =>
      cases hz:Nat.beq c k with
      | false =>
        refine⟨?_,by simp only[Dw,hz,cond_false];exact cells (some (c - k))⟩
        show A2 Try.prog s t (.slice (some (i,o)) cs.length (some c)) (some (iv (k:Int))) none none=_
        simp[A2,ht,hs,hb,AI,hz,Dw]
      | true =>
        have hck:=lf hz
        have hkl:k=cs.length:=by have:=h5.1;omega
        refine⟨?_,by simp only[Dw,hz,cond_true];exact⟨_,_,by rw[lw],fun j u hj=>by rw[hkl,List.drop_length]at hj;simp at hj⟩⟩
        show A2 Try.prog s t (.slice (some (i,o)) cs.length (some c)) (some (iv (k:Int))) none none=_
        simp[A2,ht,hs,hb,AI,hz,Dw]
    | none =>
      have h5:o=0:=h5.1
      subst h5
      have hrow:rowAt s i=some r:=by simp[rowAt,h2.get]
      refine⟨?_,by simp only[Dw];exact cells none⟩
      show A2 Try.prog s t (.slice (some (i,0)) cs.length none) (some (iv (k:Int))) none none=_
      simp[A2,ht,hs,hrow,h2.sz,AI,hb,BY (ku r.n),show Nat.beq 1 0=false from rfl,Dw]
theorem Co{t:Ag AV}{n:Nat}{vs:List AV}{j:Nat}{u:AV}(h:vs[j]? = some u):(t.fill n vs).get (n+j)=some u:=by
 have:=Af h
 rw[Ag.get_fill,if_pos ⟨by omega,by omega⟩,Nat.add_sub_cancel_left]
 exact h
theorem E1{t:Ag AV}{n:Nat}{vs:List AV}{j:Nat}(h:j<n):(t.fill n vs).get j=t.get j:=by
 rw[Ag.get_fill,if_neg (by omega)]
theorem NN{cs:List AV}{x u:AV}{k:Nat}(h:(cs++[x])[k]? = some u):(k<cs.length∧cs[k]? = some u)∨(k=cs.length∧u=x):=by
 rcases ks k cs.length with hlt | hge
 ·rw[lG hlt]at h;exact .inl ⟨hlt,h⟩
 ·rw[lL hge]at h
  have hk:k=cs.length:=by
   rcases ks (k - cs.length) 1 with h' | h'
   ·omega
   ·rw[lQ (by simpa using h')]at h;cases h
  subst hk
  exact .inr ⟨rfl,by simpa using h.symm⟩
theorem BO.push  {ow : Ow} {T : BT}  {s : AG}  {v : AV} {cs : List AV} (h : BO  ow T s v cs) {st e : TypeId} {by_ : Nat} (ht : Try.prog.underlying st = some (.slice e)) (hs : BD    Try.prog e = some 1) (hb : Cf     Try.prog e = some by_) (hby : by_ ≤ 100) (hx : BG           Try.prog st = true) (hz : B8     Try.prog e 1 = true)
    (hl:cs.length≤1000000000) {x:AV} (hc:x.isCell=true) {q:Nat} {ty:TypeId} {sz':Nat} (hq:s.heap.get q=some (AO ty sz' [x])):
    ∃v' s' ow',Ad Try.prog s [st,st] [v,.slice (some (q,0)) 1 (some 1)]=some (v',s')∧BO ow' T s' v' (cs++[x])∧AH (· = T) ow s ow' s':=by
  have hsrc:CK Try.prog s e 1 (.slice (some (q,0)) 1 (some 1))=some (1,[x]):=KB ty sz' hq rfl
  have hac:A7 [x]=true:=by simp[A7,hc]
  have hmul:(cs.length+1) * by_≤(cs.length+1) * 100:=mg _ hby
  have fresh:∀ (s1:AG),AH (· = T) ow s ow s1→s1.next=s.next→(∀ (c:Ag AV) (par:Option Nat),(∀k u,(cs++[x])[k]? = some u→c.get k=some u)→(∀p,par=some p→ow p=T∧p<s.next) →
      ∃ow',BO ow' T (newObj s1 (Ca e 1 c (cs++[x]).length par)) (.slice (some (s.next,0)) (cs.length+1) none) (cs++[x])∧AH (· = T) ow s ow' (newObj s1 (Ca e 1 c (cs++[x]).length par))):=by
    intro s1 hst hn c par hcg hpar
    refine⟨ext ow s1.next T,.inr ⟨s.next,0,none,{ elem:=e,sz:=1,n:=(cs++[x]).length,c,spare:=true,mode:=.own,par,bytes:=false },by rw[kr];rfl,⟨by rw[AY,if_pos hn.symm];rfl,Cn (by omega),by show s.next<s1.next+1;omega,rfl,rfl,fun p hp=>?_⟩,fun k u hk=>by rw[lD];exact hcg k u hk,by rw[lD];exact kp _,⟨rfl,by show 0<(cs++[x]).length;simp⟩⟩,hst.trans (AH.new _ ow s1 _ T)⟩
    obtain⟨h1,h2⟩:=hpar p hp
    exact⟨by rw[Dj (by omega)];exact h1,by show p<s1.next+1;omega,by omega⟩
  rcases h with⟨rfl,rfl⟩ | ⟨i,o,cap,r,rfl,h2,h3,h4,h5⟩
  · obtain⟨ow',g1,g2⟩:=fresh s (AH.refl _ _ _) rfl (Ag.fill .leaf 0 [x]) none (fun k u hk=>by
      have:=Co (t:=Ag.leaf) (n:=0) hk
      rw[lD]at this
      exact this) (fun p hp=>by cases hp)
    refine⟨_,_,ow',?_,g1,g2⟩
    rw[Bs ht hs hb (by decide) hx hsrc hac (by simp;omega) (by simp)]
    simp only[appTo,Di (show(1:Nat)≠0 by decide),cond_false,Bg,AI,hz,cond_true]
    rfl
  · have happ := Bs         (st := st) (xt := st) (a := some (i, o)) (n := cs.length) (cap := cap) ht hs hb (by decide) hx hsrc hac (by omega) (by omega)
    have hcells:loadN s i o (cs.length * 1)=some cs:=by
      have hrow:rowAt s i=some r:=by simp[rowAt,h2.get]
      simp only[loadN,hrow,Option.bind_some,lY,BY h4,AI,cond_true]
      exact KC _ _ fun j u hj=>h3 j u hj
    have freshC:∀k u,(cs++[x])[k]? = some u→(Ag.fill .leaf 0 (cs++[x])).get k=some u:=fun k u hk=>by
      have:=Co (t:=Ag.leaf) (n:=0) hk
      rw[lD]at this
      exact this
    cases cap with
    | some c =>
      obtain⟨h6,h7⟩:=h5
      by_cases hfit:cs.length+1≤c
      · obtain⟨s',g1,g2,g3,g4⟩:=h2.store (o:=o+cs.length * 1) (vs:=[x]) (by simp) (by simp;omega) hac
        refine⟨.slice (some (i,o)) (cs.length+1) (some c),s',ow,?_,.inr ⟨i,o,some c,_,by rw[kr];rfl,g2,fun k u hk=>?_,by rw[kr];show o+(cs.length+1)≤r.n;omega,by rw[kr];exact⟨hfit,h7⟩⟩,g3⟩
        · rw[happ]
          simp only[appTo,DA,BY hfit,cond_true,g1,Option.bind_some]
        · show(Ag.fill r.c (o+cs.length * 1) [x]).get (o+k)=some u
          rcases NN hk with⟨k1,k2⟩ | ⟨rfl,rfl⟩
          · rw[E1 (by omega)];exact h3 k u k2
          · have:=Co (t:=r.c) (n:=o+cs.length * 1) (vs:=[u]) (j:=0) rfl
            rw[show o+cs.length=o+cs.length * 1+0 by omega];exact this
      · obtain⟨ow',g1,g2⟩:=fresh s (AH.refl _ _ _) rfl (Ag.fill .leaf 0 (cs++[x])) none freshC (fun p hp=>by cases hp)
        refine⟨_,_,ow',?_,g1,g2⟩
        rw[happ]
        simp only[appTo,DA,FF (show c<cs.length+1 by omega),cond_false,hcells,Option.bind_some,Bg,AI,hz,cond_true]
    | none =>
      have h5:o=0:=h5.1
      subst h5
      have hrow:rowAt s i=some r:=by simp[rowAt,h2.get]
      by_cases hfit:cs.length+1≤r.n
      · obtain⟨s',g1,g2,g3,g4⟩:=h2.store (o:=0+cs.length * 1) (vs:=[x]) (by simp) (by simp;omega) hac
        refine⟨.slice (some (i,0)) (cs.length+1) none,s',ow,?_,.inr ⟨i,0,none,_,by rw[kr];rfl,g2,fun k u hk=>?_,by rw[kr];show 0+(cs.length+1)≤r.n;omega,⟨rfl,by show 0<r.n;omega⟩⟩,g3⟩
        · rw[happ]
          simp only[appTo,hrow,Option.bind_some,Dh,h2.sz,D1 rfl,AI,cond_true,BY (show 0+(cs.length+1) * 1≤r.n by omega),g1]
        · show(Ag.fill r.c (0+cs.length * 1) [x]).get (0+k)=some u
          rcases NN hk with⟨k1,k2⟩ | ⟨rfl,rfl⟩
          · rw[E1 (by omega)];exact h3 k u k2
          · have:=Co (t:=r.c) (n:=0+cs.length * 1) (vs:=[u]) (j:=0) rfl
            rw[show 0+cs.length=0+cs.length * 1+0 by omega];exact this
      · have hnf : Nat.ble (0 + (cs.length + 1) * 1) r.n = false := FF      (by omega)
        have hends:Nat.beq (0+cs.length * 1) r.n=true:=D1 (by omega)
        cases hsp:r.spare with
        | false =>
          obtain⟨ow',g1,g2⟩:=fresh s (AH.refl _ _ _) rfl (Ag.fill .leaf 0 (cs++[x])) none freshC (fun p hp=>by cases hp)
          refine⟨_,_,ow',?_,g1,g2⟩
          rw[happ]
          simp only[appTo,hrow,Option.bind_some,Dh,h2.sz,D1 rfl,AI,cond_true,hnf,cond_false,hcells,hsp,Bg,hz]
        | true =>
          have hun:(Al s i r).next=s.next:=by
            unfold Al
            split
            · rfl
            · rename_i p _
              cases Nat.beq p i<;>rfl
          have hst:AH (· = T) ow s ow (setObj (Al s i r) i (.row { r with mode:=.sealed,par:=none })):=by
            refine⟨by show s.next≤(Al s i r).next;omega,fun _ _ _=>rfl,fun y hy hm=>?_⟩
            have hyi:y≠i:=fun e=>hm (by rw[e];exact h2.whose)
            rw[BL,if_neg hyi]
            unfold Al
            cases hp:r.par with
            | none=>rfl
            | some p =>
              obtain⟨k1,k2,k3⟩:=h2.par p hp
              simp only[Di k3,cond_false]
              rw[E2,if_neg (fun e=>hm (by rw[e];exact k1))]
          obtain⟨ow',g1,g2⟩:=fresh _ hst hun (r.c.fill (cs.length * 1) [x]) (some i) (fun k u hk=>by
            rcases NN hk with⟨k1,k2⟩ | ⟨rfl,rfl⟩
            · rw[E1 (by omega)]
              have:=h3 k u k2
              rw[lD]at this
              exact this
            · have:=Co (t:=r.c) (n:=cs.length * 1) (vs:=[u]) (j:=0) rfl
              rw[show cs.length=cs.length * 1+0 by omega]
              rw[show(cs.length * 1+0) * 1=cs.length * 1 by omega]
              exact this) (fun p hp=>by injection hp with hp;subst hp;exact⟨h2.whose,h2.lt⟩)
          refine⟨_,_,ow',?_,g1,g2⟩
          rw[happ]
          simp only[appTo,hrow,Option.bind_some,Dh,h2.sz,D1 rfl,AI,cond_true,hnf,cond_false,hcells,hsp,DB,h2.own,EK,hz,Bool.and_self,hends,CY]
def C8(s:AG)(i:Nat)(cs:List AV):Prop:=∃r,s.heap.get i=some (.row r)∧JR r cs∧r.mode=.own∧r.par=none
theorem C8.keep{s s':AG}{i:Nat}{cs:List AV}(h:C8 s i cs)(k:s'.heap.get i=s.heap.get i):C8 s' i cs:=by
 obtain⟨r,h1,h2⟩:=h
 exact⟨r,k.trans h1,h2⟩
theorem C8.load{s:AG}{i k:Nat}{cs:List AV}{u:AV}(h:C8 s i cs)(hk:cs[k]? = some u){t:TypeId}(ht:Fy Try.prog t=some false):AC Try.prog s t (.ptr (some (i,k)))=some u:=by
 obtain⟨r,h1,h2,_⟩:=h
 exact CG ht (B9 h1 (by rw[h2.1];exact Af hk) (h2.2 k u hk))
theorem C8.store{s:AG}{i k:Nat}{cs:List AV}{d:AV}(h:C8 s i cs)(hk:k<cs.length){t:TypeId}(ht:BD Try.prog t=some 1)(h1:d.isCell=true)(h2:d.cells=[d]):
    ∃s',AN Try.prog s t (.ptr (some (i,k))) d=some s'∧C8 s' i (cs.set k d)∧s'.next=s.next∧∀x,x≠i→s'.heap.get x=s.heap.get x:=by
  obtain⟨r,g1,g2,g3,g4⟩:=h
  refine⟨_,Mm ht g1 g3 g4 (by rw[g2.1];exact hk) h2 h1,⟨{ r with c:=r.c.fill k [d],par:=none },by rw[BL,if_pos rfl],⟨by show r.n=_;rw[g2.1,kv],fun j u hj=>?_⟩,g3,rfl⟩,rfl,fun x hx=>by rw[BL,if_neg hx]⟩
  show(Ag.fill r.c k [d]).get j=some u
  rw[lH]at hj
  by_cases e:k=j
  · subst e
    rw[if_pos rfl,if_pos hk]at hj
    rw[Ag.get_fill,if_pos ⟨kp _,by show k<k+1;omega⟩,mH]
    exact hj
  · rw [if_neg e] at hj
    rw[Ag.get_fill,if_neg (fun q=>e (by have q1:=q.1;have q2:j<k+1:=q.2;omega))]
    exact g2.2 j u hj
theorem C8.new{s:AG}{t:TypeId}{cs:List AV}:C8 (newObj s (AO t 0 cs)) s.next cs:=by
 obtain⟨r,h1,h2,h3,h4,h5,h6⟩:=CP t 0 cs
 exact⟨r,by rw[AY,if_pos rfl,h1],h2,h5,h6⟩
abbrev A5:=List Int×Bool×Bool
structure Sv where
 watches:List (List Nat)
 learned:List Nat
 value:List Int
 level:List Int
 why:List (Option Nat)
 heat:List Int
 phase:List Int
 trail:List Int
 limits:List Int
 head:Int
 broken:Bool
 model:List Int
 trace:List (Bool×List Int)
 many:Int
 room:Int
 cl:Nat→Option A5
structure Sf where
 w:AV
 l:AV
 val:AV
 lev:AV
 why:AV
 heat:AV
 ph:AV
 tr:AV
 lim:AV
 mo:AV
 trc:AV
def AJ(c:Nat):AV:=.ptr (some (c,0))
def G4:Option Nat→AV
 | none=>.ptr none
 | some c=>AJ c
abbrev DL(x:Sf)(v:Sv):List AV:=[x.w,x.l,x.val,x.lev,x.why,x.heat,x.ph,x.tr,x.lim,iv v.head,.bool v.broken,x.mo,x.trc,iv v.many,iv v.room]
abbrev ES(L:List Nat):List AV:=L.map AJ
def UZ(ow:Ow)(s:AG)(p c:Nat)(l:A5):Prop:=∃u,C8 s c [u,.bool l.2.1,.bool l.2.2]∧ow c=(p,14,c)∧c<s.next∧BO ow (p,15,c) s u (A3 l.1)
def jU(ow:Ow)(s:AG)(p:Nat)(v:AV)(ws:List (List Nat)):Prop:=∃us:List AV,us.length=ws.length∧BO ow (p,1,0) s v us∧∀ (k:Nat)(L:List Nat),ws[k]? = some L→∃u:AV,us[k]? = some u∧BO ow (p,2,k) s u (ES L)
def Pj(ow:Ow)(s:AG)(p:Nat)(v:AV)(T:Fw):Prop:=∃us O,Dv s v T.length 2 us O∧(∀j∈O,ow j=(p,12,0))∧(∀j,EO v=some j→ow j=(p,12,0)∧j<s.next)∧B1 s.next s us T∧∀u∈us,∀j,EO u=some j→ow j=(p,13,0)∧j<s.next
structure Ac(ow:Ow)(s:AG)(p:Nat)(x:Sf)(v:Sv):Prop where
 box:C8 s p (DL x v)
 tag:ow p=(p,0,0)
 lt:p<s.next
 w:jU ow s p x.w v.watches
 learned:BO ow (p,3,0) s x.l (v.learned.map AJ)
 value:BO ow (p,4,0) s x.val (A3 v.value)
 level:BO ow (p,5,0) s x.lev (A3 v.level)
 why:BO ow (p,6,0) s x.why (v.why.map G4)
 heat:BO ow (p,7,0) s x.heat (A3 v.heat)
 phase:BO ow (p,8,0) s x.ph (A3 v.phase)
 trail:BO ow (p,9,0) s x.tr (A3 v.trail)
 limits:BO ow (p,10,0) s x.lim (A3 v.limits)
 model:BO ow (p,11,0) s x.mo (A3 v.model)
 trace:Pj ow s p x.trc v.trace
 cls:∀c l,v.cl c=some l→UZ ow s p c l
def BN(p:Nat)(t:BT):Prop:=t.1=p
def BI(p:Nat)(t:BT):Prop:=t.1=p∧t.2.1≠1∧t.2.1≠2∧t.2.1<16
def Ja(p:Nat)(t:BT):Prop:=t.1=p∧(t.2.1=1∨t.2.1=2)
theorem AH.w{p:Nat}{ow ow':Ow}{s s':AG}(h:AH (Ja p) ow s ow' s'):AH (BN p) ow s ow' s':=h.mono fun t ht=>ht.1
def S4(p k:Nat)(t:BT):Prop:=t=(p,0,0)∨t=(p,k,0)
theorem AH.n{p k:Nat}{ow ow':Ow}{s s':AG}(h:AH (S4 p k) ow s ow' s')(h1:k≠1)(h2:k≠2)(h3:k<16):AH (BI p) ow s ow' s':=h.mono fun t ht=>by
 rcases ht with e | e
 ·rw[e];exact⟨rfl,by simp,by simp,by simp⟩
 ·rw[e];exact⟨rfl,h1,h2,h3⟩
theorem AH.b{p:Nat}{ow ow':Ow}{s s':AG}(h:AH (BI p) ow s ow' s'):AH (BN p) ow s ow' s':=h.mono fun t ht=>ht.1
theorem UZ.step{m:BT→Prop}{ow ow':Ow}{s s':AG}{p c:Nat}{l:A5}(h:UZ ow s p c l)(k:AH m ow s ow' s')(h1:¬ m (p,14,c))(h2:¬ m (p,15,c)):UZ ow' s' p c l:=by
 obtain⟨u,g1,g2,g3,g4⟩:=h
 have hn:=k.next
 exact⟨u,g1.keep (k.heap c g3 (by rw[g2];exact h1)),by rw[k.tags c g3 (by rw[g2];exact h1)];exact g2,by omega,g4.step k h2⟩
theorem jU.step{m:BT→Prop}{ow ow':Ow}{s s':AG}{p:Nat}{v:AV}{ws:List (List Nat)}(h:jU ow s p v ws)(k:AH m ow s ow' s')(h1:¬ m (p,1,0))(h2:∀j,¬ m (p,2,j)):jU ow' s' p v ws:=by
 obtain⟨us,g1,g2,g3⟩:=h
 exact⟨us,g1,g2.step k h1,fun j L hj=>let ⟨u,q1,q2⟩:=g3 j L hj;⟨u,q1,q2.step k (h2 j)⟩⟩
theorem Pj.step{m:BT→Prop}{ow ow':Ow}{s s':AG}{p:Nat}{v:AV}{T:Fw}(h:Pj ow s p v T)(k:AH m ow s ow' s')(h1:¬ m (p,12,0))(h2:¬ m (p,13,0)):Pj ow' s' p v T:=by
 obtain⟨us,O,g1,g2,g3,g4,g5⟩:=h
 have hn:=k.next
 refine⟨us,O,g1.frame k.next fun j hj=>k.heap j (g3 j hj).2 (by rw[(g3 j hj).1];exact h1),fun j hj=>by rw[k.tags j (g1.lt j hj) (by rw[g2 j hj];exact h1)];exact g2 j hj,fun j hj=>?_,(g4.mono hn).keep fun u hu j hj=>k.heap j (g5 u hu j hj).2 (by rw[(g5 u hu j hj).1];exact h2),fun u hu j hj=>?_⟩
 ·obtain⟨q1,q2⟩:=g3 j hj
  exact⟨by rw[k.tags j q2 (by rw[q1];exact h1)];exact q1,by omega⟩
 ·obtain⟨q1,q2⟩:=g5 u hu j hj
  exact⟨by rw[k.tags j q2 (by rw[q1];exact h2)];exact q1,by omega⟩
theorem C8.step{m:BT→Prop}{ow ow':Ow}{s s':AG}{i:Nat}{cs:List AV}{T:BT}(h:C8 s i cs)(k:AH m ow s ow' s')(ht:ow i=T)(hl:i<s.next)(hm:¬ m T):C8 s' i cs:=h.keep (k.heap i hl (by rw[ht];exact hm))
theorem CA{p a b i j:Nat}(h:a≠b):¬ ((p,a,i):BT)=(p,b,j):=fun e=>by
 injection e with _ e
 injection e with e _
 exact h e
theorem Ac.keep{m:BT→Prop}{ow ow':Ow}{s s':AG}{p:Nat}{x:Sf}{v:Sv}(h:Ac ow s p x v)(k:AH m ow s ow' s')(hm':∀t,m t→t.1≠p):Ac ow' s' p x v:=by
 have hm:∀a i,¬ m (p,a,i):=fun a i q=>hm' _ q rfl
 have hn:=k.next
 have hl:=h.lt
 exact { box:=h.box.step k h.tag h.lt (hm 0 0),tag:=by rw[k.tags p h.lt (by rw[h.tag];exact hm 0 0)];exact h.tag,lt:=by omega,w:=h.w.step k (hm 1 0) (fun j=>hm 2 j),learned:=h.learned.step k (hm 3 0),value:=h.value.step k (hm 4 0),level:=h.level.step k (hm 5 0),why:=h.why.step k (hm 6 0),heat:=h.heat.step k (hm 7 0),phase:=h.phase.step k (hm 8 0),trail:=h.trail.step k (hm 9 0),limits:=h.limits.step k (hm 10 0),model:=h.model.step k (hm 11 0),trace:=h.trace.step k (hm 12 0) (hm 13 0),cls:=fun c l hc=>(h.cls c l hc).step k (hm 14 c) (hm 15 c) }
theorem Ac.put_value{ow:Ow}{s:AG}{p:Nat}{x:Sf}{v:Sv}(h:Ac ow s p x v){k:Nat}(hk:k<v.value.length)(y:Int):
  ∃s',AN Try.prog s 3 (Az x.val k) (iv y)=some s'∧Ac ow s' p x { v with value:=v.value.set k y }∧AH (BI p) ow s ow s'∧s'.next=s.next:=by
 obtain⟨s',g1,g2,g3,g4⟩:=h.value.set (t:=3) Be (k:=k) (x:=iv y) (by rw[kn];exact hk) rfl rfl
 have hm:∀a i,a≠4→¬ ((p,a,i):BT)=(p,4,0):=fun a i ha=>CA ha
 have hl:=h.lt
 refine⟨s',g1,{ box:=h.box.step g3 h.tag h.lt (hm 0 0 (by decide)),tag:=h.tag,lt:=by omega,w:=h.w.step g3 (hm 1 0 (by decide)) (fun j=>hm 2 j (by decide)),learned:=h.learned.step g3 (hm 3 0 (by decide)),value:=by show BO ow (p,4,0) s' x.val (List.map _ (List.set v.value k y));rw[lx];exact g2,level:=h.level.step g3 (hm 5 0 (by decide)),why:=h.why.step g3 (hm 6 0 (by decide)),heat:=h.heat.step g3 (hm 7 0 (by decide)),phase:=h.phase.step g3 (hm 8 0 (by decide)),trail:=h.trail.step g3 (hm 9 0 (by decide)),limits:=h.limits.step g3 (hm 10 0 (by decide)),model:=h.model.step g3 (hm 11 0 (by decide)),trace:=h.trace.step g3 (hm 12 0 (by decide)) (hm 13 0 (by decide)),cls:=fun c l hc=>(h.cls c l hc).step g3 (hm 14 c (by decide)) (hm 15 c (by decide)) },g3.mono fun t ht=>by rw[ht];exact⟨rfl,by simp,by simp,by simp⟩,g4⟩
theorem Ac.put_level{ow:Ow}{s:AG}{p:Nat}{x:Sf}{v:Sv}(h:Ac ow s p x v){k:Nat}(hk:k<v.level.length)(y:Int):
  ∃s',AN Try.prog s 3 (Az x.lev k) (iv y)=some s'∧Ac ow s' p x { v with level:=v.level.set k y }∧AH (BI p) ow s ow s'∧s'.next=s.next:=by
 obtain⟨s',g1,g2,g3,g4⟩:=h.level.set (t:=3) Be (k:=k) (x:=iv y) (by rw[kn];exact hk) rfl rfl
 have hm:∀a i,a≠5→¬ ((p,a,i):BT)=(p,5,0):=fun a i ha=>CA ha
 have hl:=h.lt
 refine⟨s',g1,{ box:=h.box.step g3 h.tag h.lt (hm 0 0 (by decide)),tag:=h.tag,lt:=by omega,w:=h.w.step g3 (hm 1 0 (by decide)) (fun j=>hm 2 j (by decide)),learned:=h.learned.step g3 (hm 3 0 (by decide)),value:=h.value.step g3 (hm 4 0 (by decide)),level:=by show BO ow (p,5,0) s' x.lev (List.map _ (List.set v.level k y));rw[lx];exact g2,why:=h.why.step g3 (hm 6 0 (by decide)),heat:=h.heat.step g3 (hm 7 0 (by decide)),phase:=h.phase.step g3 (hm 8 0 (by decide)),trail:=h.trail.step g3 (hm 9 0 (by decide)),limits:=h.limits.step g3 (hm 10 0 (by decide)),model:=h.model.step g3 (hm 11 0 (by decide)),trace:=h.trace.step g3 (hm 12 0 (by decide)) (hm 13 0 (by decide)),cls:=fun c l hc=>(h.cls c l hc).step g3 (hm 14 c (by decide)) (hm 15 c (by decide)) },g3.mono fun t ht=>by rw[ht];exact⟨rfl,by simp,by simp,by simp⟩,g4⟩
theorem Ac.put_why{ow:Ow}{s:AG}{p:Nat}{x:Sf}{v:Sv}(h:Ac ow s p x v){k:Nat}(hk:k<v.why.length)(y:Option Nat):
  ∃s',AN Try.prog s 92 (Az x.why k) (G4 y)=some s'∧Ac ow s' p x { v with why:=v.why.set k y }∧AH (BI p) ow s ow s'∧s'.next=s.next:=by
 obtain⟨s',g1,g2,g3,g4⟩:=h.why.set (t:=92) El (k:=k) (x:=G4 y) (by rw[kn];exact hk) (by cases y<;>rfl) (by cases y<;>rfl)
 have hm:∀a i,a≠6→¬ ((p,a,i):BT)=(p,6,0):=fun a i ha=>CA ha
 have hl:=h.lt
 refine⟨s',g1,{ box:=h.box.step g3 h.tag h.lt (hm 0 0 (by decide)),tag:=h.tag,lt:=by omega,w:=h.w.step g3 (hm 1 0 (by decide)) (fun j=>hm 2 j (by decide)),learned:=h.learned.step g3 (hm 3 0 (by decide)),value:=h.value.step g3 (hm 4 0 (by decide)),level:=h.level.step g3 (hm 5 0 (by decide)),why:=by show BO ow (p,6,0) s' x.why (List.map _ (List.set v.why k y));rw[lx];exact g2,heat:=h.heat.step g3 (hm 7 0 (by decide)),phase:=h.phase.step g3 (hm 8 0 (by decide)),trail:=h.trail.step g3 (hm 9 0 (by decide)),limits:=h.limits.step g3 (hm 10 0 (by decide)),model:=h.model.step g3 (hm 11 0 (by decide)),trace:=h.trace.step g3 (hm 12 0 (by decide)) (hm 13 0 (by decide)),cls:=fun c l hc=>(h.cls c l hc).step g3 (hm 14 c (by decide)) (hm 15 c (by decide)) },g3.mono fun t ht=>by rw[ht];exact⟨rfl,by simp,by simp,by simp⟩,g4⟩
theorem Ac.put_heat{ow:Ow}{s:AG}{p:Nat}{x:Sf}{v:Sv}(h:Ac ow s p x v){k:Nat}(hk:k<v.heat.length)(y:Int):
  ∃s',AN Try.prog s 3 (Az x.heat k) (iv y)=some s'∧Ac ow s' p x { v with heat:=v.heat.set k y }∧AH (BI p) ow s ow s'∧s'.next=s.next:=by
 obtain⟨s',g1,g2,g3,g4⟩:=h.heat.set (t:=3) Be (k:=k) (x:=iv y) (by rw[kn];exact hk) rfl rfl
 have hm:∀a i,a≠7→¬ ((p,a,i):BT)=(p,7,0):=fun a i ha=>CA ha
 have hl:=h.lt
 refine⟨s',g1,{ box:=h.box.step g3 h.tag h.lt (hm 0 0 (by decide)),tag:=h.tag,lt:=by omega,w:=h.w.step g3 (hm 1 0 (by decide)) (fun j=>hm 2 j (by decide)),learned:=h.learned.step g3 (hm 3 0 (by decide)),value:=h.value.step g3 (hm 4 0 (by decide)),level:=h.level.step g3 (hm 5 0 (by decide)),why:=h.why.step g3 (hm 6 0 (by decide)),heat:=by show BO ow (p,7,0) s' x.heat (List.map _ (List.set v.heat k y));rw[lx];exact g2,phase:=h.phase.step g3 (hm 8 0 (by decide)),trail:=h.trail.step g3 (hm 9 0 (by decide)),limits:=h.limits.step g3 (hm 10 0 (by decide)),model:=h.model.step g3 (hm 11 0 (by decide)),trace:=h.trace.step g3 (hm 12 0 (by decide)) (hm 13 0 (by decide)),cls:=fun c l hc=>(h.cls c l hc).step g3 (hm 14 c (by decide)) (hm 15 c (by decide)) },g3.mono fun t ht=>by rw[ht];exact⟨rfl,by simp,by simp,by simp⟩,g4⟩
theorem Ac.put_phase{ow:Ow}{s:AG}{p:Nat}{x:Sf}{v:Sv}(h:Ac ow s p x v){k:Nat}(hk:k<v.phase.length)(y:Int):
  ∃s',AN Try.prog s 3 (Az x.ph k) (iv y)=some s'∧Ac ow s' p x { v with phase:=v.phase.set k y }∧AH (BI p) ow s ow s'∧s'.next=s.next:=by
 obtain⟨s',g1,g2,g3,g4⟩:=h.phase.set (t:=3) Be (k:=k) (x:=iv y) (by rw[kn];exact hk) rfl rfl
 have hm:∀a i,a≠8→¬ ((p,a,i):BT)=(p,8,0):=fun a i ha=>CA ha
 have hl:=h.lt
 refine⟨s',g1,{ box:=h.box.step g3 h.tag h.lt (hm 0 0 (by decide)),tag:=h.tag,lt:=by omega,w:=h.w.step g3 (hm 1 0 (by decide)) (fun j=>hm 2 j (by decide)),learned:=h.learned.step g3 (hm 3 0 (by decide)),value:=h.value.step g3 (hm 4 0 (by decide)),level:=h.level.step g3 (hm 5 0 (by decide)),why:=h.why.step g3 (hm 6 0 (by decide)),heat:=h.heat.step g3 (hm 7 0 (by decide)),phase:=by show BO ow (p,8,0) s' x.ph (List.map _ (List.set v.phase k y));rw[lx];exact g2,trail:=h.trail.step g3 (hm 9 0 (by decide)),limits:=h.limits.step g3 (hm 10 0 (by decide)),model:=h.model.step g3 (hm 11 0 (by decide)),trace:=h.trace.step g3 (hm 12 0 (by decide)) (hm 13 0 (by decide)),cls:=fun c l hc=>(h.cls c l hc).step g3 (hm 14 c (by decide)) (hm 15 c (by decide)) },g3.mono fun t ht=>by rw[ht];exact⟨rfl,by simp,by simp,by simp⟩,g4⟩
theorem Ac.set_head{ow:Ow}{s:AG}{p:Nat}{x:Sf}{v:Sv}(h:Ac ow s p x v)(y:Int):
  ∃s',AN Try.prog s 3 (.ptr (some (p,9))) (iv y)=some s'∧Ac ow s' p x { v with head:=y }∧AH (BI p) ow s ow s'∧s'.next=s.next:=by
 obtain⟨s',g1,g2,g3,g4⟩:=h.box.store (k:=9) (d:=iv y) (by simp) (t:=3) Be rfl rfl
 have st:AH (· = (p,0,0)) ow s ow s':=⟨by omega,fun _ _ _=>rfl,fun y _ hm=>g4 y fun e=>hm (by rw[e];exact h.tag)⟩
 have hm:∀a i,a≠0→¬ ((p,a,i):BT)=(p,0,0):=fun a i ha=>CA ha
 have hl:=h.lt
 refine⟨s',g1,{ box:=g2,tag:=h.tag,lt:=by omega,w:=h.w.step st (hm 1 0 (by decide)) (fun j=>hm 2 j (by decide)),learned:=h.learned.step st (hm 3 0 (by decide)),value:=h.value.step st (hm 4 0 (by decide)),level:=h.level.step st (hm 5 0 (by decide)),why:=h.why.step st (hm 6 0 (by decide)),heat:=h.heat.step st (hm 7 0 (by decide)),phase:=h.phase.step st (hm 8 0 (by decide)),trail:=h.trail.step st (hm 9 0 (by decide)),limits:=h.limits.step st (hm 10 0 (by decide)),model:=h.model.step st (hm 11 0 (by decide)),trace:=h.trace.step st (hm 12 0 (by decide)) (hm 13 0 (by decide)),cls:=fun c l hc=>(h.cls c l hc).step st (hm 14 c (by decide)) (hm 15 c (by decide)) },st.mono fun t ht=>by rw[ht];exact⟨rfl,by simp,by simp,by simp⟩,g3⟩
theorem Ac.set_many{ow:Ow}{s:AG}{p:Nat}{x:Sf}{v:Sv}(h:Ac ow s p x v)(y:Int):
  ∃s',AN Try.prog s 3 (.ptr (some (p,13))) (iv y)=some s'∧Ac ow s' p x { v with many:=y }∧AH (BI p) ow s ow s'∧s'.next=s.next:=by
 obtain⟨s',g1,g2,g3,g4⟩:=h.box.store (k:=13) (d:=iv y) (by simp) (t:=3) Be rfl rfl
 have st:AH (· = (p,0,0)) ow s ow s':=⟨by omega,fun _ _ _=>rfl,fun y _ hm=>g4 y fun e=>hm (by rw[e];exact h.tag)⟩
 have hm:∀a i,a≠0→¬ ((p,a,i):BT)=(p,0,0):=fun a i ha=>CA ha
 have hl:=h.lt
 refine⟨s',g1,{ box:=g2,tag:=h.tag,lt:=by omega,w:=h.w.step st (hm 1 0 (by decide)) (fun j=>hm 2 j (by decide)),learned:=h.learned.step st (hm 3 0 (by decide)),value:=h.value.step st (hm 4 0 (by decide)),level:=h.level.step st (hm 5 0 (by decide)),why:=h.why.step st (hm 6 0 (by decide)),heat:=h.heat.step st (hm 7 0 (by decide)),phase:=h.phase.step st (hm 8 0 (by decide)),trail:=h.trail.step st (hm 9 0 (by decide)),limits:=h.limits.step st (hm 10 0 (by decide)),model:=h.model.step st (hm 11 0 (by decide)),trace:=h.trace.step st (hm 12 0 (by decide)) (hm 13 0 (by decide)),cls:=fun c l hc=>(h.cls c l hc).step st (hm 14 c (by decide)) (hm 15 c (by decide)) },st.mono fun t ht=>by rw[ht];exact⟨rfl,by simp,by simp,by simp⟩,g3⟩
theorem Ac.set_room{ow:Ow}{s:AG}{p:Nat}{x:Sf}{v:Sv}(h:Ac ow s p x v)(y:Int):
  ∃s',AN Try.prog s 3 (.ptr (some (p,14))) (iv y)=some s'∧Ac ow s' p x { v with room:=y }∧AH (BI p) ow s ow s'∧s'.next=s.next:=by
 obtain⟨s',g1,g2,g3,g4⟩:=h.box.store (k:=14) (d:=iv y) (by simp) (t:=3) Be rfl rfl
 have st:AH (· = (p,0,0)) ow s ow s':=⟨by omega,fun _ _ _=>rfl,fun y _ hm=>g4 y fun e=>hm (by rw[e];exact h.tag)⟩
 have hm:∀a i,a≠0→¬ ((p,a,i):BT)=(p,0,0):=fun a i ha=>CA ha
 have hl:=h.lt
 refine⟨s',g1,{ box:=g2,tag:=h.tag,lt:=by omega,w:=h.w.step st (hm 1 0 (by decide)) (fun j=>hm 2 j (by decide)),learned:=h.learned.step st (hm 3 0 (by decide)),value:=h.value.step st (hm 4 0 (by decide)),level:=h.level.step st (hm 5 0 (by decide)),why:=h.why.step st (hm 6 0 (by decide)),heat:=h.heat.step st (hm 7 0 (by decide)),phase:=h.phase.step st (hm 8 0 (by decide)),trail:=h.trail.step st (hm 9 0 (by decide)),limits:=h.limits.step st (hm 10 0 (by decide)),model:=h.model.step st (hm 11 0 (by decide)),trace:=h.trace.step st (hm 12 0 (by decide)) (hm 13 0 (by decide)),cls:=fun c l hc=>(h.cls c l hc).step st (hm 14 c (by decide)) (hm 15 c (by decide)) },st.mono fun t ht=>by rw[ht];exact⟨rfl,by simp,by simp,by simp⟩,g3⟩
theorem Ac.set_learned{ow:Ow}{s:AG}{p:Nat}{x:Sf}{v:Sv}(h:Ac ow s p x v){u:AV}{y:List Nat}(hu:BO ow (p,3,0) s u (y.map AJ)):
  ∃s',AN Try.prog s 89 (.ptr (some (p,1))) u=some s'∧Ac ow s' p { x with l:=u } { v with learned:=y }∧AH (BI p) ow s ow s'∧s'.next=s.next:=by
 obtain⟨s',g1,g2,g3,g4⟩:=h.box.store (k:=1) (d:=u) (by simp) (t:=89) EB hu.isCell.1 hu.isCell.2
 have st:AH (· = (p,0,0)) ow s ow s':=⟨by omega,fun _ _ _=>rfl,fun y _ hm=>g4 y fun e=>hm (by rw[e];exact h.tag)⟩
 have hm:∀a i,a≠0→¬ ((p,a,i):BT)=(p,0,0):=fun a i ha=>CA ha
 have hl:=h.lt
 refine⟨s',g1,{ box:=g2,tag:=h.tag,lt:=by omega,w:=h.w.step st (hm 1 0 (by decide)) (fun j=>hm 2 j (by decide)),learned:=hu.step st (hm 3 0 (by decide)),value:=h.value.step st (hm 4 0 (by decide)),level:=h.level.step st (hm 5 0 (by decide)),why:=h.why.step st (hm 6 0 (by decide)),heat:=h.heat.step st (hm 7 0 (by decide)),phase:=h.phase.step st (hm 8 0 (by decide)),trail:=h.trail.step st (hm 9 0 (by decide)),limits:=h.limits.step st (hm 10 0 (by decide)),model:=h.model.step st (hm 11 0 (by decide)),trace:=h.trace.step st (hm 12 0 (by decide)) (hm 13 0 (by decide)),cls:=fun c l hc=>(h.cls c l hc).step st (hm 14 c (by decide)) (hm 15 c (by decide)) },st.mono fun t ht=>by rw[ht];exact⟨rfl,by simp,by simp,by simp⟩,g3⟩
theorem Ac.set_trail{ow:Ow}{s:AG}{p:Nat}{x:Sf}{v:Sv}(h:Ac ow s p x v){u:AV}{y:List Int}(hu:BO ow (p,9,0) s u (A3 y)):
  ∃s',AN Try.prog s 23 (.ptr (some (p,7))) u=some s'∧Ac ow s' p { x with tr:=u } { v with trail:=y }∧AH (BI p) ow s ow s'∧s'.next=s.next:=by
 obtain⟨s',g1,g2,g3,g4⟩:=h.box.store (k:=7) (d:=u) (by simp) (t:=23) Cb hu.isCell.1 hu.isCell.2
 have st:AH (· = (p,0,0)) ow s ow s':=⟨by omega,fun _ _ _=>rfl,fun y _ hm=>g4 y fun e=>hm (by rw[e];exact h.tag)⟩
 have hm:∀a i,a≠0→¬ ((p,a,i):BT)=(p,0,0):=fun a i ha=>CA ha
 have hl:=h.lt
 refine⟨s',g1,{ box:=g2,tag:=h.tag,lt:=by omega,w:=h.w.step st (hm 1 0 (by decide)) (fun j=>hm 2 j (by decide)),learned:=h.learned.step st (hm 3 0 (by decide)),value:=h.value.step st (hm 4 0 (by decide)),level:=h.level.step st (hm 5 0 (by decide)),why:=h.why.step st (hm 6 0 (by decide)),heat:=h.heat.step st (hm 7 0 (by decide)),phase:=h.phase.step st (hm 8 0 (by decide)),trail:=hu.step st (hm 9 0 (by decide)),limits:=h.limits.step st (hm 10 0 (by decide)),model:=h.model.step st (hm 11 0 (by decide)),trace:=h.trace.step st (hm 12 0 (by decide)) (hm 13 0 (by decide)),cls:=fun c l hc=>(h.cls c l hc).step st (hm 14 c (by decide)) (hm 15 c (by decide)) },st.mono fun t ht=>by rw[ht];exact⟨rfl,by simp,by simp,by simp⟩,g3⟩
theorem Ac.set_limits{ow:Ow}{s:AG}{p:Nat}{x:Sf}{v:Sv}(h:Ac ow s p x v){u:AV}{y:List Int}(hu:BO ow (p,10,0) s u (A3 y)):
  ∃s',AN Try.prog s 23 (.ptr (some (p,8))) u=some s'∧Ac ow s' p { x with lim:=u } { v with limits:=y }∧AH (BI p) ow s ow s'∧s'.next=s.next:=by
 obtain⟨s',g1,g2,g3,g4⟩:=h.box.store (k:=8) (d:=u) (by simp) (t:=23) Cb hu.isCell.1 hu.isCell.2
 have st:AH (· = (p,0,0)) ow s ow s':=⟨by omega,fun _ _ _=>rfl,fun y _ hm=>g4 y fun e=>hm (by rw[e];exact h.tag)⟩
 have hm:∀a i,a≠0→¬ ((p,a,i):BT)=(p,0,0):=fun a i ha=>CA ha
 have hl:=h.lt
 refine⟨s',g1,{ box:=g2,tag:=h.tag,lt:=by omega,w:=h.w.step st (hm 1 0 (by decide)) (fun j=>hm 2 j (by decide)),learned:=h.learned.step st (hm 3 0 (by decide)),value:=h.value.step st (hm 4 0 (by decide)),level:=h.level.step st (hm 5 0 (by decide)),why:=h.why.step st (hm 6 0 (by decide)),heat:=h.heat.step st (hm 7 0 (by decide)),phase:=h.phase.step st (hm 8 0 (by decide)),trail:=h.trail.step st (hm 9 0 (by decide)),limits:=hu.step st (hm 10 0 (by decide)),model:=h.model.step st (hm 11 0 (by decide)),trace:=h.trace.step st (hm 12 0 (by decide)) (hm 13 0 (by decide)),cls:=fun c l hc=>(h.cls c l hc).step st (hm 14 c (by decide)) (hm 15 c (by decide)) },st.mono fun t ht=>by rw[ht];exact⟨rfl,by simp,by simp,by simp⟩,g3⟩
theorem Ac.set_model{ow:Ow}{s:AG}{p:Nat}{x:Sf}{v:Sv}(h:Ac ow s p x v){u:AV}{y:List Int}(hu:BO ow (p,11,0) s u (A3 y)):
  ∃s',AN Try.prog s 23 (.ptr (some (p,11))) u=some s'∧Ac ow s' p { x with mo:=u } { v with model:=y }∧AH (BI p) ow s ow s'∧s'.next=s.next:=by
 obtain⟨s',g1,g2,g3,g4⟩:=h.box.store (k:=11) (d:=u) (by simp) (t:=23) Cb hu.isCell.1 hu.isCell.2
 have st:AH (· = (p,0,0)) ow s ow s':=⟨by omega,fun _ _ _=>rfl,fun y _ hm=>g4 y fun e=>hm (by rw[e];exact h.tag)⟩
 have hm:∀a i,a≠0→¬ ((p,a,i):BT)=(p,0,0):=fun a i ha=>CA ha
 have hl:=h.lt
 refine⟨s',g1,{ box:=g2,tag:=h.tag,lt:=by omega,w:=h.w.step st (hm 1 0 (by decide)) (fun j=>hm 2 j (by decide)),learned:=h.learned.step st (hm 3 0 (by decide)),value:=h.value.step st (hm 4 0 (by decide)),level:=h.level.step st (hm 5 0 (by decide)),why:=h.why.step st (hm 6 0 (by decide)),heat:=h.heat.step st (hm 7 0 (by decide)),phase:=h.phase.step st (hm 8 0 (by decide)),trail:=h.trail.step st (hm 9 0 (by decide)),limits:=h.limits.step st (hm 10 0 (by decide)),model:=hu.step st (hm 11 0 (by decide)),trace:=h.trace.step st (hm 12 0 (by decide)) (hm 13 0 (by decide)),cls:=fun c l hc=>(h.cls c l hc).step st (hm 14 c (by decide)) (hm 15 c (by decide)) },st.mono fun t ht=>by rw[ht];exact⟨rfl,by simp,by simp,by simp⟩,g3⟩
end
end Go.Proofs.Ytilhhmkdcoajnaa.Am
