/- Compiled code of the statements' own Go, and of litmusref14, printed by a program of ours (dev/Print2.lean) and checked by the kernel; conditions: none. -/
import Derived.Test.YtickdehehcmfbaaGreatDoorAmM06
set_option linter.unusedVariables false
set_option linter.unusedSimpArgs false
set_option maxRecDepth 100000
namespace Go.Proofs.YtickdehehcmfbaaGreatDoor.Am
open Go Go.Proofs
noncomputable section
theorem Cf(i o:Nat):AA Tryz.prog 80 (.ptr (some (i,o))) 0=some (.ptr (some (i,o+0))):=by kernel_rfl
theorem JD:Ap Tryz.prog 122=some 10:=by kernel_rfl
theorem Zt:CE Tryz.prog 122=some 144:=by kernel_rfl
theorem Nj:Cw Tryz.prog 122=some true:=by kernel_rfl
theorem YF:Bv Tryz.prog 122=some (.agg [(.int .i64 (0)),(.int .i64 (0)),(.int .i64 (0)),(.bool false),(.str []),(.str []),(.slice none 0 (some 0)),(.slice none 0 (some 0)),(.int .i64 (0)),(.slice none 0 (some 0))]):=by kernel_rfl
theorem Ka(i o:Nat):AA Tryz.prog 122 (.ptr (some (i,o))) 0=some (.ptr (some (i,o+0))):=by kernel_rfl
theorem OC(i o:Nat):AA Tryz.prog 122 (.ptr (some (i,o))) 1=some (.ptr (some (i,o+1))):=by kernel_rfl
theorem UB(i o:Nat):AA Tryz.prog 122 (.ptr (some (i,o))) 2=some (.ptr (some (i,o+2))):=by kernel_rfl
theorem Do(i o:Nat):AA Tryz.prog 122 (.ptr (some (i,o))) 3=some (.ptr (some (i,o+9))):=by kernel_rfl
theorem aq:Ap Tryz.prog 78=some 1:=by kernel_rfl
theorem G0:Cw Tryz.prog 78=some false:=by kernel_rfl
theorem ar:Ap Tryz.prog 82=some 4:=by kernel_rfl
theorem bF:Cw Tryz.prog 82=some true:=by kernel_rfl
theorem Ez(i o:Nat):AA Tryz.prog 82 (.ptr (some (i,o))) 0=some (.ptr (some (i,o+0))):=by kernel_rfl
theorem DW(i o:Nat):AA Tryz.prog 82 (.ptr (some (i,o))) 1=some (.ptr (some (i,o+1))):=by kernel_rfl
theorem Y9(i o:Nat):AA Tryz.prog 82 (.ptr (some (i,o))) 2=some (.ptr (some (i,o+2))):=by kernel_rfl
theorem ZA(i o:Nat):AA Tryz.prog 82 (.ptr (some (i,o))) 3=some (.ptr (some (i,o+3))):=by kernel_rfl
theorem Fe:Ap Tryz.prog 46=some 12:=by kernel_rfl
theorem bH:CE Tryz.prog 46=some 144:=by kernel_rfl
theorem GK:Cw Tryz.prog 46=some true:=by kernel_rfl
theorem az:Bv Tryz.prog 46=some (.agg [(.int .i64 (0)),(.int .i64 (0)),(.int .i64 (0)),(.bool false),(.str []),(.str []),(.slice none 0 (some 0)),(.slice none 0 (some 0)),(.int .i64 (0)),(.int .i64 (0)),(.int .i64 (0)),(.int .i64 (0))]):=by kernel_rfl
theorem Bf(i o:Nat):AA Tryz.prog 46 (.ptr (some (i,o))) 0=some (.ptr (some (i,o+0))):=by kernel_rfl
theorem B3(i o:Nat):AA Tryz.prog 46 (.ptr (some (i,o))) 1=some (.ptr (some (i,o+1))):=by kernel_rfl
theorem SL(i o:Nat):AA Tryz.prog 46 (.ptr (some (i,o))) 2=some (.ptr (some (i,o+2))):=by kernel_rfl
theorem Kb(i o:Nat):AA Tryz.prog 46 (.ptr (some (i,o))) 3=some (.ptr (some (i,o+9))):=by kernel_rfl
def aI:List AC:=[
 ⟨none,.p1 some,[(.const (.ptr none))],(.set 1),[]⟩]
def aJ:List AC:=[
 ⟨none,.call 16,[.var 0],.push,[]⟩,
 ⟨none,.p1 (fun x=>Xv x 0),[.loc 0],.push,[]⟩,
 ⟨none,.p1 (fun x=>Xv x 1),[.loc 1],.push,[]⟩,
 ⟨none,.p1 some,[.loc 1],.push,[]⟩,
 ⟨none,.p1 some,[.loc 1],(.set 2),[]⟩]
def aK:List AC:=[
 ⟨none,.call 28,[],.push,[]⟩,
 ⟨none,.p1 some,[.loc 0],(.set 3),[]⟩]
def aL:List AC:=[
 ⟨none,.p1 some,[(.const (.int .i64 (0)))],(.set 4),[]⟩]
def YM:List AC:=[
 ⟨none,.r (fun s l=>match l with | [x]=>BN Tryz.prog s 36 x | _=>none),[.var 2],.push,[]⟩,
 ⟨none,.p2 (AQ Tryz.prog .lss 3),[.var 4,.loc 0],(.set 5),[]⟩]
def aM:List AC:=[
 ⟨none,.p2 (AK Tryz.prog 36),[.var 2,.var 4],.push,[]⟩,
 ⟨none,.r1 (fun s a=>AG Tryz.prog s 46 a),[.loc 0],.push,[]⟩,
 ⟨none,.call 17,[.var 3,.loc 0],.push,[]⟩]
def aN:List AC:=[
 ⟨none,.p1 some,[.var 4],.push,[]⟩,
 ⟨none,.p2 (AQ Tryz.prog .add 3),[(.loc 0),(.const (.int .i64 (1)))],.push,[]⟩,
 ⟨none,.p1 some,[.loc 0],(.set 4),[]⟩]
def R0:AW:=(.seq (.seq (.ops YM) (.cond (.var 5)
 .skip
 (.exit 0))) (.seq (.block 1 (.ops aM)) (.ops aN)))
def aO:List AC:=[
 ⟨none,.p1 some,[.var 3],(.set 1),[]⟩]
def c8:Al:=⟨1,6,(.seq (.ops aI) (.seq (.ops aJ) (.seq (.ops aK) (.seq (.seq (.ops aL) (.block 0 (.loop R0))) (.seq (.ops aO) .ret))))),[((.var 1),none)]⟩
def aP:List AC:=[
 ⟨none,.p1 some,[(.const (.bool false))],(.set 2),[]⟩]
def aQ:List AC:=[
 ⟨none,.p1 some,[(.const (.int .i64 (0)))],(.set 3),[]⟩]
def Tw:List AC:=[
 ⟨none,.r (fun s l=>match l with | [x]=>BN Tryz.prog s 27 x | _=>none),[.var 0],.push,[]⟩,
 ⟨none,.p2 (AQ Tryz.prog .lss 3),[.var 3,.loc 0],(.set 4),[]⟩]
def YN:List AC:=[
 ⟨none,.p2 (AK Tryz.prog 27),[.var 0,.var 3],.push,[]⟩,
 ⟨none,.r1 (fun s a=>AG Tryz.prog s 3 a),[.loc 0],.push,[]⟩,
 ⟨none,.p2 (AQ Tryz.prog .eql 3),[.loc 0,.var 1],(.set 5),[]⟩]
def aR:List AC:=[
 ⟨none,.p1 some,[(.const (.bool true))],(.set 2),[]⟩]
def aT:List AC:=[
 ⟨none,.p1 some,[.var 3],.push,[]⟩,
 ⟨none,.p2 (AQ Tryz.prog .add 3),[(.loc 0),(.const (.int .i64 (1)))],.push,[]⟩,
 ⟨none,.p1 some,[.loc 0],(.set 3),[]⟩]
def Ow:AW:=(.seq (.seq (.ops Tw) (.cond (.var 4)
 .skip
 (.exit 0))) (.seq (.block 1 (.seq (.ops YN) (.cond (.var 5)
 (.seq (.ops aR) .ret)
 .skip))) (.ops aT)))
def YO:List AC:=[
 ⟨none,.p1 some,[(.const (.bool false))],(.set 2),[]⟩]
def c9:Al:=⟨2,6,(.seq (.ops aP) (.seq (.seq (.ops aQ) (.block 0 (.loop Ow))) (.seq (.ops YO) .ret))),[((.var 2),none)]⟩
def JX:List AC:=[
 ⟨none,.mk (fun l=>match l with | [v]=>Cx 46 v | _=>none),[.var 1],(.set 2),[]⟩,
 ⟨none,.p1 some,[(.const (.int .i64 (0)))],(.set 3),[]⟩]
def JY:List AC:=[
 ⟨none,.p1 (fun x=>AA Tryz.prog 46 x 0),[.var 2],.push,[]⟩,
 ⟨none,.r1 (fun s a=>AG Tryz.prog s 3 a),[.loc 0],(.set 4),[]⟩]
def JZ:List AC:=[
 ⟨none,.p2 (AQ Tryz.prog .eql 3),[(.var 4),(.const (.int .i64 (0)))],.push,[]⟩,
 ⟨none,.p1 some,[.loc 0],(.set 5),[]⟩]
def VI:List AC:=[
 ⟨none,.p1 (fun x=>AA Tryz.prog 46 x 1),[.var 2],.push,[]⟩,
 ⟨none,.r1 (fun s a=>AG Tryz.prog s 3 a),[.loc 0],.push,[]⟩,
 ⟨none,.call 11,[.var 0,.loc 0],.push,[]⟩,
 ⟨none,.p1 some,[.loc 0],(.set 3),[]⟩]
def LK:List AC:=[
 ⟨none,.p2 (AQ Tryz.prog .eql 3),[(.var 4),(.const (.int .i64 (1)))],.push,[]⟩,
 ⟨none,.p1 some,[.loc 0],(.set 6),[]⟩]
def VJ:List AC:=[
 ⟨none,.p1 (fun x=>AA Tryz.prog 46 x 1),[.var 2],.push,[]⟩,
 ⟨none,.r1 (fun s a=>AG Tryz.prog s 3 a),[.loc 0],.push,[]⟩,
 ⟨none,.call 21,[.var 0,.loc 0],.push,[]⟩,
 ⟨none,.p1 some,[.loc 0],(.set 3),[]⟩]
def Nn:List AC:=[
 ⟨none,.p2 (AQ Tryz.prog .eql 3),[(.var 4),(.const (.int .i64 (2)))],.push,[]⟩,
 ⟨none,.p1 some,[.loc 0],(.set 7),[]⟩]
def VK:List AC:=[
 ⟨none,.p1 (fun x=>AA Tryz.prog 46 x 2),[.var 2],.push,[]⟩,
 ⟨none,.r1 (fun s a=>AG Tryz.prog s 43 a),[.loc 0],.push,[]⟩,
 ⟨none,.call 22,[.var 0,.loc 0],.push,[]⟩,
 ⟨none,.p1 some,[.loc 0],(.set 3),[]⟩]
def QQ:List AC:=[
 ⟨none,.p2 (AQ Tryz.prog .eql 3),[(.var 4),(.const (.int .i64 (3)))],.push,[]⟩,
 ⟨none,.p1 some,[.loc 0],(.set 8),[]⟩]
def VL:List AC:=[
 ⟨none,.p1 (fun x=>AA Tryz.prog 46 x 3),[.var 2],.push,[]⟩,
 ⟨none,.p2 (AK Tryz.prog 44),[(.loc 0),(.const (.int .i64 (0)))],.push,[]⟩,
 ⟨none,.r1 (fun s a=>AG Tryz.prog s 3 a),[.loc 0],.push,[]⟩,
 ⟨none,.p1 (fun x=>AA Tryz.prog 46 x 3),[.var 2],.push,[]⟩,
 ⟨none,.p2 (AK Tryz.prog 44),[(.loc 0),(.const (.int .i64 (1)))],.push,[]⟩,
 ⟨none,.r1 (fun s a=>AG Tryz.prog s 3 a),[.loc 0],.push,[]⟩,
 ⟨none,.call 24,[.var 0,.loc 3,.loc 0],.push,[]⟩,
 ⟨none,.p1 some,[.loc 0],(.set 3),[]⟩]
def QP:List AC:=[
 ⟨none,.p1 (fun x=>AA Tryz.prog 46 x 3),[.var 2],.push,[]⟩,
 ⟨none,.p2 (AK Tryz.prog 44),[(.loc 0),(.const (.int .i64 (0)))],.push,[]⟩,
 ⟨none,.r1 (fun s a=>AG Tryz.prog s 3 a),[.loc 0],.push,[]⟩,
 ⟨none,.p1 (fun x=>AA Tryz.prog 46 x 3),[.var 2],.push,[]⟩,
 ⟨none,.p2 (AK Tryz.prog 44),[(.loc 0),(.const (.int .i64 (1)))],.push,[]⟩,
 ⟨none,.r1 (fun s a=>AG Tryz.prog s 3 a),[.loc 0],.push,[]⟩,
 ⟨none,.p1 (fun x=>AA Tryz.prog 46 x 3),[.var 2],.push,[]⟩,
 ⟨none,.p2 (AK Tryz.prog 44),[(.loc 0),(.const (.int .i64 (2)))],.push,[]⟩,
 ⟨none,.r1 (fun s a=>AG Tryz.prog s 3 a),[.loc 0],.push,[]⟩,
 ⟨none,.call 25,[.var 0,.loc 6,.loc 3,.loc 0],.push,[]⟩,
 ⟨none,.p1 some,[.loc 0],(.set 3),[]⟩]
def Zc:Al:=⟨2,9,(.seq (.ops JX) (.seq (.seq (.ops JY) (.block 0 (.seq (.ops JZ) (.cond (.var 5)
 (.seq (.ops VI) .ret)
 (.seq (.ops LK) (.cond (.var 6)
 (.seq (.ops VJ) .ret)
 (.seq (.ops Nn) (.cond (.var 7)
 (.seq (.ops VK) .ret)
 (.seq (.ops QQ) (.cond (.var 8)
 (.seq (.ops VL) .ret)
 .skip)))))))))) (.seq (.ops QP) .ret))),[((.var 3),none)]⟩
def Z8:List AC:=[
 ⟨none,.p1 some,[(.const (.bool false))],(.set 2),[]⟩]
def Z9:List AC:=[
 ⟨none,.call 7,[],.push,[]⟩,
 ⟨none,.p1 (Uh Tryz.prog Go.UnOp.not),[.loc 0],(.set 16),[]⟩]
def bJ:List AC:=[
 ⟨none,.p1 some,[(.const (.bool false))],(.set 2),[]⟩]
def aB:List AC:=[
 ⟨none,.call 8,[.var 0],.push,[]⟩,
 ⟨none,.p1 some,[.loc 0],(.set 3),[]⟩]
def aD:List AC:=[
 ⟨none,.p1 some,[(.const (.slice none 0 (some 0)))],(.set 4),[]⟩,
 ⟨none,.p1 some,[(.const (.slice none 0 (some 0)))],(.set 5),[]⟩,
 ⟨none,.p1 some,[(.const (.slice none 0 (some 0)))],(.set 6),[]⟩,
 ⟨none,.p1 some,[(.const (.slice none 0 (some 0)))],(.set 7),[]⟩]
def aE:List AC:=[
 ⟨none,.p1 some,[(.const (.int .i64 (0)))],(.set 8),[]⟩]
def Q8:List AC:=[
 ⟨none,.r (fun s l=>match l with | [x]=>BN Tryz.prog s 23 x | _=>none),[.var 1],.push,[]⟩,
 ⟨none,.p2 (AQ Tryz.prog .lss 3),[.var 8,.loc 0],.push,[]⟩,
 ⟨(some ((.loc 0),true)),.p1 some,[.var 8],.push,[]⟩,
 ⟨(some ((.loc 1),true)),.p2 (AQ Tryz.prog .lss 3),[(.loc 0),(.const (.int .i64 (5)))],.push,[]⟩,
 ⟨none,.p Rn,[(.loc 2),(.loc 0),(.const (.bool false))],(.set 17),[]⟩]
def YK:List AC:=[
 ⟨none,.p2 (AK Tryz.prog 23),[.var 1,.var 8],.push,[]⟩,
 ⟨none,.r1 (fun s a=>AG Tryz.prog s 28 a),[.loc 0],.push,[]⟩,
 ⟨none,.r1 (fun s x=>BB Tryz.prog s 28 3 x),[.loc 0],.push,[]⟩,
 ⟨none,.p1 some,[.loc 0],(.set 9),[]⟩]
def YL:List AC:=[
 ⟨none,.call 9,[.var 4,.var 9],(.set 18),[]⟩]
def aF:List AC:=[
 ⟨none,.p1 some,[.var 4],.push,[]⟩,
 ⟨none,.mk (fun l=>(AY Tryz.prog 27 1 (zipIdx [0] l)).bind fun r=>some (r,.slice 1)),[.var 9],.push,[]⟩,
 ⟨none,.e (fun s l=>Aj Tryz.prog s [27,27] l),[.loc 1,.loc 0],.push,[]⟩,
 ⟨none,.p1 some,[.loc 0],(.set 4),[]⟩]
def V5:List AC:=[
 ⟨none,.p1 some,[.var 5],.push,[]⟩,
 ⟨none,.p2 (AQ Tryz.prog .add 3),[(.const (.int .i64 (1000))),(.var 8)],.push,[]⟩,
 ⟨none,.mk (fun l=>(AY Tryz.prog 27 1 (zipIdx [0] l)).bind fun r=>some (r,.slice 1)),[.loc 0],.push,[]⟩,
 ⟨none,.e (fun s l=>Aj Tryz.prog s [27,27] l),[.loc 2,.loc 0],.push,[]⟩,
 ⟨none,.p1 some,[.loc 0],(.set 5),[]⟩]
def Q4:List AC:=[
 ⟨none,.p1 some,[.var 8],.push,[]⟩,
 ⟨none,.p2 (AQ Tryz.prog .add 3),[(.loc 0),(.const (.int .i64 (1)))],.push,[]⟩,
 ⟨none,.p1 some,[.loc 0],(.set 8),[]⟩]
def IP:AW:=(.seq (.seq (.ops Q8) (.cond (.var 17)
 .skip
 (.exit 0))) (.seq (.block 1 (.seq (.ops YK) (.seq (.seq (.ops YL) (.cond (.var 18)
 (.exit 1)
 .skip)) (.seq (.ops aF) (.ops V5))))) (.ops Q4)))
def V6:List AC:=[
 ⟨none,.call 10,[.var 3],.push,[]⟩,
 ⟨none,.p1 some,[.loc 0],(.set 10),[]⟩]
def V7:List AC:=[
 ⟨none,.p1 some,[(.const (.int .i64 (0)))],(.set 11),[]⟩]
def Q5:List AC:=[
 ⟨none,.r (fun s l=>match l with | [x]=>BN Tryz.prog s 27 x | _=>none),[.var 4],.push,[]⟩,
 ⟨none,.p2 (AQ Tryz.prog .lss 3),[.var 11,.loc 0],(.set 19),[]⟩]
def V8:List AC:=[
 ⟨none,.p1 some,[.var 6],.push,[]⟩,
 ⟨none,.p2 (AK Tryz.prog 27),[.var 4,.var 11],.push,[]⟩,
 ⟨none,.r1 (fun s a=>AG Tryz.prog s 3 a),[.loc 0],.push,[]⟩,
 ⟨none,.call 11,[.var 3,.loc 0],.push,[]⟩,
 ⟨none,.mk (fun l=>(AY Tryz.prog 27 1 (zipIdx [0] l)).bind fun r=>some (r,.slice 1)),[.loc 0],.push,[]⟩,
 ⟨none,.e (fun s l=>Aj Tryz.prog s [27,27] l),[.loc 4,.loc 0],.push,[]⟩,
 ⟨none,.p1 some,[.loc 0],(.set 6),[]⟩]
def V9:List AC:=[
 ⟨none,.p1 some,[.var 7],.push,[]⟩,
 ⟨none,.p2 (AK Tryz.prog 27),[.var 5,.var 11],.push,[]⟩,
 ⟨none,.r1 (fun s a=>AG Tryz.prog s 3 a),[.loc 0],.push,[]⟩,
 ⟨none,.call 11,[.var 3,.loc 0],.push,[]⟩,
 ⟨none,.mk (fun l=>(AY Tryz.prog 27 1 (zipIdx [0] l)).bind fun r=>some (r,.slice 1)),[.loc 0],.push,[]⟩,
 ⟨none,.e (fun s l=>Aj Tryz.prog s [27,27] l),[.loc 4,.loc 0],.push,[]⟩,
 ⟨none,.p1 some,[.loc 0],(.set 7),[]⟩]
def WA:List AC:=[
 ⟨none,.p1 some,[.var 11],.push,[]⟩,
 ⟨none,.p2 (AQ Tryz.prog .add 3),[(.loc 0),(.const (.int .i64 (1)))],.push,[]⟩,
 ⟨none,.p1 some,[.loc 0],(.set 11),[]⟩]
def LN:AW:=(.seq (.seq (.ops Q5) (.cond (.var 19)
 .skip
 (.exit 2))) (.seq (.block 3 (.seq (.ops V8) (.ops V9))) (.ops WA)))
def WB:List AC:=[
 ⟨none,.p1 some,[(.const (.int .i64 (0)))],(.set 12),[]⟩]
def Q6:List AC:=[
 ⟨none,.p2 (AQ Tryz.prog .lss 3),[.var 12,.var 10],(.set 20),[]⟩]
def WD:List AC:=[
 ⟨none,.call 12,[.var 3,.var 12,.var 4],.push,[]⟩,
 ⟨none,.p1 some,[.loc 0],(.set 13),[]⟩]
def WE:List AC:=[
 ⟨none,.call 13,[.var 3,.var 13],.push,[]⟩,
 ⟨none,.p1 some,[.loc 0],(.set 14),[]⟩]
def WG:List AC:=[
 ⟨none,.p1 some,[(.const (.int .i64 (0)))],(.set 15),[]⟩]
def Q7:List AC:=[
 ⟨none,.r (fun s l=>match l with | [x]=>BN Tryz.prog s 27 x | _=>none),[.var 4],.push,[]⟩,
 ⟨none,.p2 (AQ Tryz.prog .lss 3),[.var 15,.loc 0],(.set 21),[]⟩]
def WH:List AC:=[
 ⟨none,.p2 (AK Tryz.prog 27),[.var 4,.var 15],.push,[]⟩,
 ⟨none,.r1 (fun s a=>AG Tryz.prog s 3 a),[.loc 0],.push,[]⟩,
 ⟨none,.call 9,[.var 14,.loc 0],(.set 22),[]⟩]
def aA:List AC:=[
 ⟨none,.p1 some,[(.const (.bool false))],(.set 2),[]⟩]
def WJ:List AC:=[
 ⟨none,.p1 some,[.var 15],.push,[]⟩,
 ⟨none,.p2 (AQ Tryz.prog .add 3),[(.loc 0),(.const (.int .i64 (1)))],.push,[]⟩,
 ⟨none,.p1 some,[.loc 0],(.set 15),[]⟩]
def LO:AW:=(.seq (.seq (.ops Q7) (.cond (.var 21)
 .skip
 (.exit 6))) (.seq (.block 7 (.seq (.ops WH) (.cond (.var 22)
 (.seq (.ops aA) .ret)
 .skip))) (.ops WJ)))
def WK:List AC:=[
 ⟨none,.call 14,[.var 3,.var 13,.var 6],.push,[]⟩,
 ⟨none,.p2 (AQ Tryz.prog .neq 3),[.loc 0,.var 12],.push,[]⟩,
 ⟨(some ((.loc 0),false)),.p1 some,[.var 3],.push,[]⟩,
 ⟨(some ((.loc 1),false)),.p1 some,[.var 3],.push,[]⟩,
 ⟨(some ((.loc 2),false)),.p1 some,[.var 12],.push,[]⟩,
 ⟨(some ((.loc 3),false)),.p1 some,[.var 7],.push,[]⟩,
 ⟨(some ((.loc 4),false)),.call 14,[.loc 2,.loc 1,.loc 0],.push,[]⟩,
 ⟨(some ((.loc 5),false)),.p1 some,[.var 5],.push,[]⟩,
 ⟨(some ((.loc 6),false)),.call 12,[.loc 5,.loc 1,.loc 0],.push,[]⟩,
 ⟨(some ((.loc 7),false)),.p1 some,[.var 12],.push,[]⟩,
 ⟨(some ((.loc 8),false)),.p2 (AQ Tryz.prog .neq 3),[.loc 1,.loc 0],.push,[]⟩,
 ⟨none,.p Rn,[(.loc 9),(.const (.bool true)),(.loc 0)],.push,[]⟩,
 ⟨(some ((.loc 0),false)),.p1 some,[.var 3],.push,[]⟩,
 ⟨(some ((.loc 1),false)),.p1 some,[.var 12],.push,[]⟩,
 ⟨(some ((.loc 2),false)),.call 14,[(.loc 1),(.loc 0),(.const (.slice none 0 (some 0)))],.push,[]⟩,
 ⟨(some ((.loc 3),false)),.p1 some,[.var 12],.push,[]⟩,
 ⟨(some ((.loc 4),false)),.p2 (AQ Tryz.prog .neq 3),[.loc 1,.loc 0],.push,[]⟩,
 ⟨none,.p Rn,[(.loc 5),(.const (.bool true)),(.loc 0)],.push,[]⟩,
 ⟨(some ((.loc 0),false)),.p1 some,[.var 3],.push,[]⟩,
 ⟨(some ((.loc 1),false)),.p1 some,[.var 12],.push,[]⟩,
 ⟨(some ((.loc 2),false)),.call 12,[(.loc 1),(.loc 0),(.const (.slice none 0 (some 0)))],.push,[]⟩,
 ⟨(some ((.loc 3),false)),.p1 some,[.var 12],.push,[]⟩,
 ⟨(some ((.loc 4),false)),.p2 (AQ Tryz.prog .neq 3),[.loc 1,.loc 0],.push,[]⟩,
 ⟨none,.p Rn,[(.loc 5),(.const (.bool true)),(.loc 0)],.push,[]⟩,
 ⟨(some ((.loc 0),false)),.p1 some,[.var 3],.push,[]⟩,
 ⟨(some ((.loc 1),false)),.p1 some,[.var 13],.push,[]⟩,
 ⟨(some ((.loc 2),false)),.call 15,[.loc 1,.loc 0],.push,[]⟩,
 ⟨(some ((.loc 3),false)),.p1 some,[.var 3],.push,[]⟩,
 ⟨(some ((.loc 4),false)),.p1 some,[.var 12],.push,[]⟩,
 ⟨(some ((.loc 5),false)),.call 15,[.loc 1,.loc 0],.push,[]⟩,
 ⟨(some ((.loc 6),false)),.p2 (AQ Tryz.prog .neq 3),[.loc 3,.loc 0],.push,[]⟩,
 ⟨none,.p Rn,[(.loc 7),(.const (.bool true)),(.loc 0)],(.set 23),[]⟩]
def aC:List AC:=[
 ⟨none,.p1 some,[(.const (.bool false))],(.set 2),[]⟩]
def WL:List AC:=[
 ⟨none,.p1 some,[.var 12],.push,[]⟩,
 ⟨none,.p2 (AQ Tryz.prog .add 3),[(.loc 0),(.const (.int .i64 (1)))],.push,[]⟩,
 ⟨none,.p1 some,[.loc 0],(.set 12),[]⟩]
def LP:AW:=(.seq (.seq (.ops Q6) (.cond (.var 20)
 .skip
 (.exit 4))) (.seq (.block 5 (.seq (.ops WD) (.seq (.ops WE) (.seq (.seq (.ops WG) (.block 6 (.loop LO))) (.seq (.ops WK) (.cond (.var 23)
 (.seq (.ops aC) .ret)
 .skip)))))) (.ops WL)))
def WM:List AC:=[
 ⟨none,.p1 some,[(.const (.bool true))],(.set 2),[]⟩]
def c3:Al:=⟨2,24,(.seq (.ops Z8) (.seq (.seq (.ops Z9) (.cond (.var 16)
 (.seq (.ops bJ) .ret)
 .skip)) (.seq (.ops aB) (.seq (.ops aD) (.seq (.seq (.ops aE) (.block 0 (.loop IP))) (.seq (.ops V6) (.seq (.seq (.ops V7) (.block 2 (.loop LN))) (.seq (.seq (.ops WB) (.block 4 (.loop LP))) (.seq (.ops WM) .ret))))))))),[((.var 2),none)]⟩
def VA:List AC:=[
 ⟨none,.p1 some,[(.const (.ptr none))],(.set 1),[]⟩,
 ⟨none,.p1 some,[(.const (.slice none 0 (some 0)))],(.set 2),[]⟩]
def VB:List AC:=[
 ⟨none,.p (fun l=>AT Tryz.prog 80 (zipIdx [] l)),[],.push,[]⟩,
 ⟨none,.mk (fun l=>match l with | [v]=>Cx 80 v | _=>none),[.loc 0],.push,[]⟩,
 ⟨none,.p1 some,[.loc 0],(.set 3),[]⟩]
def VC:List AC:=[
 ⟨none,.p1 some,[(.const (.slice none 0 (some 0)))],(.set 4),[]⟩]
def VD:List AC:=[
 ⟨none,.p1 some,[(.const (.int .i64 (0)))],(.set 5),[]⟩]
def Nm:List AC:=[
 ⟨none,.r (fun s l=>match l with | [x]=>BN Tryz.prog s 22 x | _=>none),[.var 0],.push,[]⟩,
 ⟨none,.p2 (AQ Tryz.prog .lss 3),[.var 5,.loc 0],.push,[]⟩,
 ⟨(some ((.loc 0),true)),.p1 some,[.var 5],.push,[]⟩,
 ⟨(some ((.loc 1),true)),.p2 (AQ Tryz.prog .lss 3),[(.loc 0),(.const (.int .i64 (40)))],.push,[]⟩,
 ⟨none,.p Rn,[(.loc 2),(.loc 0),(.const (.bool false))],(.set 7),[]⟩]
def VE:List AC:=[
 ⟨none,.p2 (AK Tryz.prog 22),[.var 0,.var 5],.push,[]⟩,
 ⟨none,.r1 (fun s a=>AG Tryz.prog s 82 a),[.loc 0],.push,[]⟩,
 ⟨none,.call 41,[.loc 0,.var 3],.push,[]⟩,
 ⟨none,.mk (fun l=>match l with | []=>Bl Tryz.prog 46 | _=>none),[],(.set 6),[]⟩,
 ⟨none,.e (fun s=>Xs (fun a x=>Xu (At Tryz.prog s 46 a x))),[.var 6,.loc 0],.push,[]⟩]
def VF:List AC:=[
 ⟨none,.r1 (fun s a=>AG Tryz.prog s 46 a),[.var 6],.push,[]⟩,
 ⟨none,.call 42,[.var 3,.loc 0],.push,[]⟩]
def VG:List AC:=[
 ⟨none,.p1 some,[.var 4],.push,[]⟩,
 ⟨none,.r1 (fun s a=>AG Tryz.prog s 46 a),[.var 6],.push,[]⟩,
 ⟨none,.mk (fun l=>(AY Tryz.prog 36 1 (zipIdx [0] l)).bind fun r=>some (r,.slice 1)),[.loc 0],.push,[]⟩,
 ⟨none,.e (fun s l=>Aj Tryz.prog s [36,36] l),[.loc 2,.loc 0],.push,[]⟩,
 ⟨none,.p1 some,[.loc 0],(.set 4),[]⟩]
def VH:List AC:=[
 ⟨none,.p1 some,[.var 5],.push,[]⟩,
 ⟨none,.p2 (AQ Tryz.prog .add 3),[(.loc 0),(.const (.int .i64 (1)))],.push,[]⟩,
 ⟨none,.p1 some,[.loc 0],(.set 5),[]⟩]
def JW:AW:=(.seq (.seq (.ops Nm) (.cond (.var 7)
 .skip
 (.exit 0))) (.seq (.block 1 (.seq (.ops VE) (.seq (.ops VF) (.ops VG)))) (.ops VH)))
def QO:List AC:=[
 ⟨none,.p1 some,[.var 3],(.set 1),[]⟩,
 ⟨none,.p1 some,[.var 4],(.set 2),[]⟩]
def bh:Al:=⟨1,8,(.seq (.ops VA) (.seq (.ops VB) (.seq (.ops VC) (.seq (.seq (.ops VD) (.block 0 (.loop JW))) (.seq (.ops QO) .ret))))),[((.var 1),none),((.var 2),none)]⟩
def WQ:List AC:=[
 ⟨none,.mk (fun l=>match l with | [v]=>Cx 82 v | _=>none),[.var 0],(.set 2),[]⟩,
 ⟨none,.mk (fun l=>match l with | []=>Bl Tryz.prog 46 | _=>none),[],(.set 3),[]⟩]
def WS:List AC:=[
 ⟨none,.p1 (fun x=>AA Tryz.prog 82 x 1),[.var 2],.push,[]⟩,
 ⟨none,.r1 (fun s a=>AG Tryz.prog s 5 a),[.loc 0],.push,[]⟩,
 ⟨none,.p1 (fun x=>AA Tryz.prog 82 x 1),[.var 2],.push,[]⟩,
 ⟨none,.r1 (fun s a=>AG Tryz.prog s 5 a),[.loc 0],.push,[]⟩,
 ⟨none,.p2 (AQ Tryz.prog .rem 5),[(.loc 0),(.const (.int .u8 (7)))],.push,[]⟩,
 ⟨none,.r1 (fun s x=>BB Tryz.prog s 5 3 x),[.loc 0],.push,[]⟩,
 ⟨none,.p2 (AQ Tryz.prog .sub 3),[(.loc 0),(.const (.int .i64 (2)))],.push,[]⟩,
 ⟨none,.p1 (fun x=>AA Tryz.prog 82 x 1),[.var 2],.push,[]⟩,
 ⟨none,.r1 (fun s a=>AG Tryz.prog s 5 a),[.loc 0],.push,[]⟩,
 ⟨none,.p1 (fun x=>AA Tryz.prog 82 x 2),[.var 2],.push,[]⟩,
 ⟨none,.r1 (fun s a=>AG Tryz.prog s 5 a),[.loc 0],.push,[]⟩,
 ⟨none,.p1 (fun x=>AA Tryz.prog 82 x 3),[.var 2],.push,[]⟩,
 ⟨none,.r1 (fun s a=>AG Tryz.prog s 5 a),[.loc 0],.push,[]⟩,
 ⟨none,.mk (fun l=>match l with | []=>Bl Tryz.prog 46 | _=>none),[],(.set 4),[]⟩,
 ⟨none,.call 61,[.loc 11],.push,[⟨none,.r1 (fun s a=>AG Tryz.prog s 5 a),[.loc 2],(.loc 1)⟩,⟨none,.r1 (fun s a=>AG Tryz.prog s 5 a),[.loc 4],(.loc 3)⟩,⟨none,.r1 (fun s a=>AG Tryz.prog s 5 a),[.loc 6],(.loc 5)⟩,⟨none,.r1 (fun s x=>BB Tryz.prog s 5 3 x),[.loc 9],(.loc 8)⟩,⟨none,.r1 (fun s a=>AG Tryz.prog s 5 a),[.loc 11],(.loc 10)⟩]⟩,
 ⟨none,.call 62,[.var 1,.loc 5],.push,[⟨none,.r1 (fun s a=>AG Tryz.prog s 5 a),[.loc 3],(.loc 2)⟩,⟨none,.r1 (fun s a=>AG Tryz.prog s 5 a),[.loc 5],(.loc 4)⟩,⟨none,.r1 (fun s x=>BB Tryz.prog s 5 3 x),[.loc 10],(.loc 9)⟩,⟨none,.r1 (fun s a=>AG Tryz.prog s 5 a),[.loc 12],(.loc 11)⟩]⟩,
 ⟨none,.call 62,[.var 1,.loc 4],.push,[⟨none,.r1 (fun s a=>AG Tryz.prog s 5 a),[.loc 4],(.loc 3)⟩,⟨none,.r1 (fun s x=>BB Tryz.prog s 5 3 x),[.loc 11],(.loc 10)⟩,⟨none,.r1 (fun s a=>AG Tryz.prog s 5 a),[.loc 13],(.loc 12)⟩]⟩,
 ⟨none,.call 62,[.var 1,.loc 3],.push,[⟨none,.r1 (fun s x=>BB Tryz.prog s 5 3 x),[.loc 12],(.loc 11)⟩,⟨none,.r1 (fun s a=>AG Tryz.prog s 5 a),[.loc 14],(.loc 13)⟩]⟩,
 ⟨none,.p (fun l=>AT Tryz.prog 44 (zipIdx [0,1,2] l)),[.loc 2,.loc 1,.loc 0],.push,[]⟩,
 ⟨none,.p (fun l=>AT Tryz.prog 46 (zipIdx [2,1,3] l)),[.loc 4,.loc 11,.loc 0],.push,[]⟩,
 ⟨none,.e (fun s=>Xs (fun a x=>Xu (At Tryz.prog s 46 a x))),[.var 4,.loc 0],.push,[]⟩]
def GM:List AC:=[
 ⟨none,.p1 (fun x=>AA Tryz.prog 82 x 0),[.var 2],.push,[]⟩,
 ⟨none,.r1 (fun s a=>AG Tryz.prog s 5 a),[.loc 0],.push,[]⟩,
 ⟨none,.p2 (AQ Tryz.prog .rem 5),[(.loc 0),(.const (.int .u8 (8)))],(.set 5),[]⟩]
def GN:List AC:=[
 ⟨none,.p2 (AQ Tryz.prog .eql 5),[(.var 5),(.const (.int .u8 (0)))],.push,[]⟩,
 ⟨none,.p1 some,[.loc 0],(.set 6),[]⟩]
def HV:List AC:=[
 ⟨none,.p2 (AQ Tryz.prog .eql 5),[(.var 5),(.const (.int .u8 (1)))],.push,[]⟩,
 ⟨none,.p1 some,[.loc 0],(.set 6),[]⟩]
def RC:List AC:=[
 ⟨none,.p1 (fun x=>AA Tryz.prog 46 x 0),[.var 4],.push,[]⟩,
 ⟨none,.e (fun s=>Xs (fun a x=>Xu (At Tryz.prog s 3 a x))),[(.loc 0),(.const (.int .i64 (0)))],.push,[]⟩]
def IR:List AC:=[
 ⟨none,.p2 (AQ Tryz.prog .eql 5),[(.var 5),(.const (.int .u8 (2)))],.push,[]⟩,
 ⟨none,.p1 some,[.loc 0],(.set 7),[]⟩]
def WT:List AC:=[
 ⟨none,.p1 (fun x=>AA Tryz.prog 46 x 0),[.var 4],.push,[]⟩,
 ⟨none,.e (fun s=>Xs (fun a x=>Xu (At Tryz.prog s 3 a x))),[(.loc 0),(.const (.int .i64 (1)))],.push,[]⟩]
def WU:List AC:=[
 ⟨none,.p1 (fun x=>AA Tryz.prog 82 x 1),[.var 2],.push,[]⟩,
 ⟨none,.r1 (fun s a=>AG Tryz.prog s 5 a),[.loc 0],.push,[]⟩,
 ⟨none,.p2 (AQ Tryz.prog .rem 5),[(.loc 0),(.const (.int .u8 (5)))],.push,[]⟩,
 ⟨none,.r1 (fun s x=>BB Tryz.prog s 5 3 x),[.loc 0],.push,[]⟩,
 ⟨none,.p1 (fun x=>AA Tryz.prog 46 x 1),[.var 4],.push,[]⟩,
 ⟨none,.e (fun s=>Xs (fun a x=>Xu (At Tryz.prog s 3 a x))),[.loc 0,.loc 1],.push,[]⟩]
def Jb:List AC:=[
 ⟨none,.p2 (AQ Tryz.prog .eql 5),[(.var 5),(.const (.int .u8 (3)))],.push,[]⟩,
 ⟨none,.p1 some,[.loc 0],(.set 8),[]⟩]
def IQ:List AC:=[
 ⟨none,.p2 (AQ Tryz.prog .eql 5),[(.var 5),(.const (.int .u8 (4)))],.push,[]⟩,
 ⟨none,.p1 some,[.loc 0],(.set 8),[]⟩]
def Mg:List AC:=[
 ⟨none,.p1 (fun x=>AA Tryz.prog 46 x 0),[.var 4],.push,[]⟩,
 ⟨none,.e (fun s=>Xs (fun a x=>Xu (At Tryz.prog s 3 a x))),[(.loc 0),(.const (.int .i64 (2)))],.push,[]⟩]
def KX:List AC:=[
 ⟨none,.p2 (AQ Tryz.prog .eql 5),[(.var 5),(.const (.int .u8 (5)))],.push,[]⟩,
 ⟨none,.p1 some,[.loc 0],(.set 9),[]⟩]
def Mh:List AC:=[
 ⟨none,.p2 (AQ Tryz.prog .eql 5),[(.var 5),(.const (.int .u8 (6)))],.push,[]⟩,
 ⟨none,.p1 some,[.loc 0],(.set 9),[]⟩]
def Mi:List AC:=[
 ⟨none,.p1 (fun x=>AA Tryz.prog 46 x 0),[.var 4],.push,[]⟩,
 ⟨none,.e (fun s=>Xs (fun a x=>Xu (At Tryz.prog s 3 a x))),[(.loc 0),(.const (.int .i64 (3)))],.push,[]⟩]
def RA:List AC:=[
 ⟨none,.p1 (fun x=>AA Tryz.prog 46 x 0),[.var 4],.push,[]⟩,
 ⟨none,.e (fun s=>Xs (fun a x=>Xu (At Tryz.prog s 3 a x))),[(.loc 0),(.const (.int .i64 (4)))],.push,[]⟩]
def EN:List AC:=[
 ⟨none,.r1 (fun s a=>AG Tryz.prog s 46 a),[.var 4],.push,[]⟩,
 ⟨none,.e (fun s=>Xs (fun a x=>Xu (At Tryz.prog s 46 a x))),[.var 3,.loc 0],.push,[]⟩]
def bw:Al:=⟨2,10,(.seq (.ops WQ) (.seq (.ops WS) (.seq (.seq (.ops GM) (.block 0 (.seq (.seq (.ops GN) (.cond (.var 6)
 .skip
 (.ops HV))) (.cond (.var 6)
 (.ops RC)
 (.seq (.ops IR) (.cond (.var 7)
 (.seq (.ops WT) (.ops WU))
 (.seq (.seq (.ops Jb) (.cond (.var 8)
 .skip
 (.ops IQ))) (.cond (.var 8)
 (.ops Mg)
 (.seq (.seq (.ops KX) (.cond (.var 9)
 .skip
 (.ops Mh))) (.cond (.var 9)
 (.ops Mi)
 (.ops RA))))))))))) (.seq (.ops EN) .ret)))),[((.var 3),some 46)]⟩
def Jc:List AC:=[
 ⟨none,.mk (fun l=>match l with | [v]=>Cx 46 v | _=>none),[.var 1],(.set 2),[]⟩,
 ⟨none,.p1 some,[(.const (.int .i64 (0)))],(.set 3),[]⟩]
def Jd:List AC:=[
 ⟨none,.p1 (fun x=>AA Tryz.prog 46 x 0),[.var 2],.push,[]⟩,
 ⟨none,.r1 (fun s a=>AG Tryz.prog s 3 a),[.loc 0],(.set 4),[]⟩]
def Je:List AC:=[
 ⟨none,.p2 (AQ Tryz.prog .eql 3),[(.var 4),(.const (.int .i64 (0)))],.push,[]⟩,
 ⟨none,.p1 some,[.loc 0],(.set 5),[]⟩]
def WV:List AC:=[
 ⟨none,.p1 (fun x=>AA Tryz.prog 46 x 1),[.var 2],.push,[]⟩,
 ⟨none,.r1 (fun s a=>AG Tryz.prog s 3 a),[.loc 0],.push,[]⟩,
 ⟨none,.call 63,[.var 0,.loc 0],.push,[]⟩,
 ⟨none,.p1 some,[.loc 0],(.set 3),[]⟩]
def LQ:List AC:=[
 ⟨none,.p2 (AQ Tryz.prog .eql 3),[(.var 4),(.const (.int .i64 (1)))],.push,[]⟩,
 ⟨none,.p1 some,[.loc 0],(.set 6),[]⟩]
def WW:List AC:=[
 ⟨none,.p1 (fun x=>AA Tryz.prog 46 x 1),[.var 2],.push,[]⟩,
 ⟨none,.r1 (fun s a=>AG Tryz.prog s 3 a),[.loc 0],.push,[]⟩,
 ⟨none,.call 64,[.var 0,.loc 0],.push,[]⟩,
 ⟨none,.p1 some,[.loc 0],(.set 3),[]⟩]
def Nv:List AC:=[
 ⟨none,.p2 (AQ Tryz.prog .eql 3),[(.var 4),(.const (.int .i64 (2)))],.push,[]⟩,
 ⟨none,.p1 some,[.loc 0],(.set 7),[]⟩]
def WX:List AC:=[
 ⟨none,.p1 (fun x=>AA Tryz.prog 46 x 2),[.var 2],.push,[]⟩,
 ⟨none,.r1 (fun s a=>AG Tryz.prog s 43 a),[.loc 0],.push,[]⟩,
 ⟨none,.call 65,[.var 0,.loc 0],.push,[]⟩,
 ⟨none,.p1 some,[.loc 0],(.set 3),[]⟩]
def RE:List AC:=[
 ⟨none,.p2 (AQ Tryz.prog .eql 3),[(.var 4),(.const (.int .i64 (3)))],.push,[]⟩,
 ⟨none,.p1 some,[.loc 0],(.set 8),[]⟩]
def WY:List AC:=[
 ⟨none,.p1 (fun x=>AA Tryz.prog 46 x 3),[.var 2],.push,[]⟩,
 ⟨none,.p2 (AK Tryz.prog 44),[(.loc 0),(.const (.int .i64 (0)))],.push,[]⟩,
 ⟨none,.r1 (fun s a=>AG Tryz.prog s 3 a),[.loc 0],.push,[]⟩,
 ⟨none,.p1 (fun x=>AA Tryz.prog 46 x 3),[.var 2],.push,[]⟩,
 ⟨none,.p2 (AK Tryz.prog 44),[(.loc 0),(.const (.int .i64 (1)))],.push,[]⟩,
 ⟨none,.r1 (fun s a=>AG Tryz.prog s 3 a),[.loc 0],.push,[]⟩,
 ⟨none,.call 66,[.var 0,.loc 3,.loc 0],.push,[]⟩,
 ⟨none,.p1 some,[.loc 0],(.set 3),[]⟩]
def RD:List AC:=[
 ⟨none,.p1 (fun x=>AA Tryz.prog 46 x 3),[.var 2],.push,[]⟩,
 ⟨none,.p2 (AK Tryz.prog 44),[(.loc 0),(.const (.int .i64 (0)))],.push,[]⟩,
 ⟨none,.r1 (fun s a=>AG Tryz.prog s 3 a),[.loc 0],.push,[]⟩,
 ⟨none,.p1 (fun x=>AA Tryz.prog 46 x 3),[.var 2],.push,[]⟩,
 ⟨none,.p2 (AK Tryz.prog 44),[(.loc 0),(.const (.int .i64 (1)))],.push,[]⟩,
 ⟨none,.r1 (fun s a=>AG Tryz.prog s 3 a),[.loc 0],.push,[]⟩,
 ⟨none,.p1 (fun x=>AA Tryz.prog 46 x 3),[.var 2],.push,[]⟩,
 ⟨none,.p2 (AK Tryz.prog 44),[(.loc 0),(.const (.int .i64 (2)))],.push,[]⟩,
 ⟨none,.r1 (fun s a=>AG Tryz.prog s 3 a),[.loc 0],.push,[]⟩,
 ⟨none,.call 67,[.var 0,.loc 6,.loc 3,.loc 0],.push,[]⟩,
 ⟨none,.p1 some,[.loc 0],(.set 3),[]⟩]
def Zd:Al:=⟨2,9,(.seq (.ops Jc) (.seq (.seq (.ops Jd) (.block 0 (.seq (.ops Je) (.cond (.var 5)
 (.seq (.ops WV) .ret)
 (.seq (.ops LQ) (.cond (.var 6)
 (.seq (.ops WW) .ret)
 (.seq (.ops Nv) (.cond (.var 7)
 (.seq (.ops WX) .ret)
 (.seq (.ops RE) (.cond (.var 8)
 (.seq (.ops WY) .ret)
 .skip)))))))))) (.seq (.ops RD) .ret))),[((.var 3),none)]⟩
def W9:List AC:=[
 ⟨none,.mk (fun l=>match l with | []=>Bl Tryz.prog 43 | _=>none),[],(.set 1),[]⟩]
def XA:List AC:=[
 ⟨none,.p (fun l=>AT Tryz.prog 43 (zipIdx [] l)),[],.push,[]⟩,
 ⟨none,.p (fun l=>AT Tryz.prog 43 (zipIdx [0,1] l)),[(.const (.int .i64 (1))),(.const (.bool true))],.push,[]⟩,
 ⟨none,.p (fun l=>AT Tryz.prog 43 (zipIdx [0] l)),[(.const (.int .i64 (1)))],.push,[]⟩,
 ⟨none,.p (fun l=>AT Tryz.prog 43 (zipIdx [0,2] l)),[(.const (.int .i64 (2))),(.const (.str [48]))],.push,[]⟩,
 ⟨none,.p (fun l=>AT Tryz.prog 43 (zipIdx [0,2] l)),[(.const (.int .i64 (2))),(.const (.str [49]))],.push,[]⟩,
 ⟨none,.p (fun l=>AT Tryz.prog 43 (zipIdx [0,2] l)),[(.const (.int .i64 (2))),(.const (.str [45,53]))],.push,[]⟩,
 ⟨none,.p (fun l=>AT Tryz.prog 43 (zipIdx [0,2] l)),[(.const (.int .i64 (2))),(.const (.str [49,56,52,52,54,55,52,52,48,55,51,55,48,57,53,53,49,54,49,54]))],.push,[]⟩,
 ⟨none,.p (fun l=>AT Tryz.prog 43 (zipIdx [0,3] l)),[(.const (.int .i64 (3))),(.const (.str [97]))],.push,[]⟩,
 ⟨none,.p (fun l=>AT Tryz.prog 43 (zipIdx [0,3] l)),[(.const (.int .i64 (3))),(.const (.str [98]))],.push,[]⟩,
 ⟨none,.p (fun l=>AT Tryz.prog 43 (zipIdx [0] l)),[(.const (.int .i64 (3)))],.push,[]⟩,
 ⟨none,.p (fun l=>AT Tryz.prog 43 (zipIdx [0] l)),[(.const (.int .i64 (4)))],.push,[]⟩,
 ⟨none,.mk (fun l=>(AY Tryz.prog 41 11 (zipIdx [0,1,2,3,4,5,6,7,8,9,10] l)).bind fun r=>some (r,.slice 11)),[.loc 10,.loc 9,.loc 8,.loc 7,.loc 6,.loc 5,.loc 4,.loc 3,.loc 2,.loc 1,.loc 0],.push,[]⟩,
 ⟨none,.p1 some,[.loc 0],(.set 2),[]⟩]
def XB:List AC:=[
 ⟨none,.r1 (fun s x=>BB Tryz.prog s 5 3 x),[.var 0],.push,[]⟩,
 ⟨none,.r (fun s l=>match l with | [x]=>BN Tryz.prog s 41 x | _=>none),[.var 2],.push,[]⟩,
 ⟨none,.p2 (AQ Tryz.prog .rem 3),[.loc 1,.loc 0],.push,[]⟩,
 ⟨none,.p2 (AK Tryz.prog 41),[.var 2,.loc 0],.push,[]⟩,
 ⟨none,.r1 (fun s a=>AG Tryz.prog s 43 a),[.loc 0],.push,[]⟩,
 ⟨none,.e (fun s=>Xs (fun a x=>Xu (At Tryz.prog s 43 a x))),[.var 1,.loc 0],.push,[]⟩]
def b3:Al:=⟨1,3,(.seq (.ops W9) (.seq (.ops XA) (.seq (.ops XB) .ret))),[((.var 1),some 43)]⟩
def Nx:List AC:=[
 ⟨none,.p1 some,[(.const (.int .i64 (0)))],(.set 2),[]⟩]
def Ny:List AC:=[
 ⟨none,.p1 AX,[.var 0],.push,[]⟩,
 ⟨none,.p1 (fun x=>AA Tryz.prog 80 x 0),[.loc 0],.push,[]⟩,
 ⟨none,.r1 (fun s a=>AG Tryz.prog s 78 a),[.loc 0],.push,[]⟩,
 ⟨none,.r (fun s l=>match l with | [x]=>BN Tryz.prog s 78 x | _=>none),[.loc 0],.push,[]⟩,
 ⟨none,.p2 (AQ Tryz.prog .eql 3),[(.loc 0),(.const (.int .i64 (0)))],(.set 4),[]⟩]
def XC:List AC:=[
 ⟨none,.p1 some,[(.const (.int .i64 (0)))],(.set 2),[]⟩]
def RM:List AC:=[
 ⟨none,.r1 (fun s x=>BB Tryz.prog s 5 3 x),[.var 1],.push,[]⟩,
 ⟨none,.p1 AX,[.var 0],.push,[]⟩,
 ⟨none,.p1 (fun x=>AA Tryz.prog 80 x 0),[.loc 0],.push,[]⟩,
 ⟨none,.r1 (fun s a=>AG Tryz.prog s 78 a),[.loc 0],.push,[]⟩,
 ⟨none,.r (fun s l=>match l with | [x]=>BN Tryz.prog s 78 x | _=>none),[.loc 0],.push,[]⟩,
 ⟨none,.p2 (AQ Tryz.prog .rem 3),[.loc 4,.loc 0],.push,[]⟩,
 ⟨none,.p1 some,[.loc 0],(.set 3),[]⟩]
def RN:List AC:=[
 ⟨none,.p2 (AQ Tryz.prog .geq 5),[(.var 1),(.const (.int .u8 (128)))],(.set 5),[]⟩]
def XD:List AC:=[
 ⟨none,.p1 AX,[.var 0],.push,[]⟩,
 ⟨none,.p1 (fun x=>AA Tryz.prog 80 x 0),[.loc 0],.push,[]⟩,
 ⟨none,.r1 (fun s a=>AG Tryz.prog s 78 a),[.loc 0],.push,[]⟩,
 ⟨none,.r (fun s l=>match l with | [x]=>BN Tryz.prog s 78 x | _=>none),[.loc 0],.push,[]⟩,
 ⟨none,.p2 (AQ Tryz.prog .sub 3),[(.loc 0),(.const (.int .i64 (1)))],.push,[]⟩,
 ⟨none,.r1 (fun s x=>BB Tryz.prog s 5 3 x),[.var 1],.push,[]⟩,
 ⟨none,.p1 AX,[.var 0],.push,[]⟩,
 ⟨none,.p1 (fun x=>AA Tryz.prog 80 x 0),[.loc 0],.push,[]⟩,
 ⟨none,.r1 (fun s a=>AG Tryz.prog s 78 a),[.loc 0],.push,[]⟩,
 ⟨none,.r (fun s l=>match l with | [x]=>BN Tryz.prog s 78 x | _=>none),[.loc 0],.push,[]⟩,
 ⟨none,.p (fun l=>match l with | v::l=>CF false v l | []=>none),[(.loc 0),(.const (.int .i64 (6)))],.push,[]⟩,
 ⟨none,.p2 (AQ Tryz.prog .rem 3),[.loc 5,.loc 0],.push,[]⟩,
 ⟨none,.p2 (AQ Tryz.prog .sub 3),[.loc 7,.loc 0],.push,[]⟩,
 ⟨none,.p1 some,[.loc 0],(.set 3),[]⟩]
def RO:List AC:=[
 ⟨none,.call 80,[.var 0,.var 3],.push,[]⟩,
 ⟨none,.p2 (AQ Tryz.prog .gtr 3),[(.loc 0),(.const (.int .i64 (8)))],(.set 6),[]⟩]
def RP:List AC:=[
 ⟨none,.p1 some,[(.const (.int .i64 (0)))],(.set 2),[]⟩]
def RQ:List AC:=[
 ⟨none,.p1 some,[.var 3],(.set 2),[]⟩]
def bC:Al:=⟨2,7,(.seq (.ops Nx) (.seq (.seq (.ops Ny) (.cond (.var 4)
 (.seq (.ops XC) .ret)
 .skip)) (.seq (.ops RM) (.seq (.seq (.ops RN) (.cond (.var 5)
 (.ops XD)
 .skip)) (.seq (.seq (.ops RO) (.cond (.var 6)
 (.seq (.ops RP) .ret)
 .skip)) (.seq (.ops RQ) .ret)))))),[((.var 2),none)]⟩
def XE:List AC:=[
 ⟨none,.p1 some,[(.const (.int .i64 (0)))],(.set 2),[]⟩]
def XF:List AC:=[
 ⟨none,.p (fun l=>AT Tryz.prog 122 (zipIdx [0,1] l)),[(.const (.int .i64 (0))),(.var 1)],.push,[]⟩,
 ⟨none,.call 81,[.var 0,.loc 0],.push,[]⟩,
 ⟨none,.p1 some,[.loc 0],(.set 2),[]⟩]
def b4:Al:=⟨2,3,(.seq (.ops XE) (.seq (.ops XF) .ret)),[((.var 2),none)]⟩
def XG:List AC:=[
 ⟨none,.p1 some,[(.const (.int .i64 (0)))],(.set 2),[]⟩]
def XH:List AC:=[
 ⟨none,.p (fun l=>match l with | v::l=>CF true v l | []=>none),[(.var 1),(.const (.int .i64 (0)))],.push,[]⟩,
 ⟨none,.p (fun l=>AT Tryz.prog 122 (zipIdx [0,1] l)),[(.const (.int .i64 (1))),(.loc 0)],.push,[]⟩,
 ⟨none,.call 81,[.var 0,.loc 0],.push,[]⟩,
 ⟨none,.p1 some,[.loc 0],(.set 2),[]⟩]
def b5:Al:=⟨2,3,(.seq (.ops XG) (.seq (.ops XH) .ret)),[((.var 2),none)]⟩
def XI:List AC:=[
 ⟨none,.mk (fun l=>match l with | [v]=>Cx 43 v | _=>none),[.var 1],(.set 2),[]⟩,
 ⟨none,.p1 some,[(.const (.int .i64 (0)))],(.set 3),[]⟩]
def XJ:List AC:=[
 ⟨none,.r1 (fun s a=>AG Tryz.prog s 43 a),[.var 2],.push,[]⟩,
 ⟨none,.call 82,[.loc 0],.push,[]⟩,
 ⟨none,.p (fun l=>AT Tryz.prog 122 (zipIdx [0,2] l)),[(.const (.int .i64 (2))),(.loc 0)],.push,[]⟩,
 ⟨none,.call 81,[.var 0,.loc 0],.push,[]⟩,
 ⟨none,.p1 some,[.loc 0],(.set 3),[]⟩]
def cA:Al:=⟨2,4,(.seq (.ops XI) (.seq (.ops XJ) .ret)),[((.var 3),none)]⟩
def XK:List AC:=[
 ⟨none,.p1 some,[(.const (.int .i64 (0)))],(.set 3),[]⟩]
def XL:List AC:=[
 ⟨none,.mk (fun l=>(AY Tryz.prog 27 2 (zipIdx [0,1] l)).bind fun r=>some (r,.slice 2)),[.var 1,.var 2],.push,[]⟩,
 ⟨none,.call 83,[(.var 0),(.const (.int .i64 (3))),(.loc 0)],.push,[]⟩,
 ⟨none,.p1 some,[.loc 0],(.set 3),[]⟩]
def cB:Al:=⟨3,4,(.seq (.ops XK) (.seq (.ops XL) .ret)),[((.var 3),none)]⟩
def XM:List AC:=[
 ⟨none,.p1 some,[(.const (.int .i64 (0)))],(.set 4),[]⟩]
def XN:List AC:=[
 ⟨none,.mk (fun l=>(AY Tryz.prog 27 3 (zipIdx [0,1,2] l)).bind fun r=>some (r,.slice 3)),[.var 1,.var 2,.var 3],.push,[]⟩,
 ⟨none,.call 83,[(.var 0),(.const (.int .i64 (4))),(.loc 0)],.push,[]⟩,
 ⟨none,.p1 some,[.loc 0],(.set 4),[]⟩]
def cC:Al:=⟨4,5,(.seq (.ops XM) (.seq (.ops XN) .ret)),[((.var 4),none)]⟩
def XO:List AC:=[
 ⟨none,.p1 some,[(.const (.int .i64 (0)))],(.set 2),[]⟩]
def XP:List AC:=[
 ⟨none,.p1 some,[(.const (.int .i64 (0)))],(.set 3),[]⟩]
def XQ:List AC:=[
 ⟨none,.call 107,[.var 0,.var 1],.push,[]⟩,
 ⟨none,.mk (fun l=>match l with | []=>Bl Tryz.prog 122 | _=>none),[],(.set 4),[]⟩,
 ⟨none,.e (fun s=>Xs (fun a x=>Xu (At Tryz.prog s 122 a x))),[.var 4,.loc 0],.push,[]⟩]
def XR:List AC:=[
 ⟨none,.p1 some,[(.const (.int .i64 (0)))],(.set 5),[]⟩]
def RR:List AC:=[
 ⟨none,.p1 (fun x=>AA Tryz.prog 122 x 3),[.var 4],.push,[]⟩,
 ⟨none,.r1 (fun s a=>AG Tryz.prog s 27 a),[.loc 0],.push,[]⟩,
 ⟨none,.r (fun s l=>match l with | [x]=>BN Tryz.prog s 27 x | _=>none),[.loc 0],.push,[]⟩,
 ⟨none,.p2 (AQ Tryz.prog .lss 3),[.var 5,.loc 0],(.set 6),[]⟩]
def XS:List AC:=[
 ⟨none,.p1 some,[.var 3],.push,[]⟩,
 ⟨none,.p1 (fun x=>AA Tryz.prog 122 x 3),[.var 4],.push,[]⟩,
 ⟨none,.r1 (fun s a=>AG Tryz.prog s 27 a),[.loc 0],.push,[]⟩,
 ⟨none,.p2 (AK Tryz.prog 27),[.loc 0,.var 5],.push,[]⟩,
 ⟨none,.r1 (fun s a=>AG Tryz.prog s 3 a),[.loc 0],.push,[]⟩,
 ⟨none,.call 80,[.var 0,.loc 0],.push,[]⟩,
 ⟨none,.p (fun l=>match l with | v::l=>CF true v l | []=>none),[.loc 5,.loc 0],.push,[]⟩,
 ⟨none,.p1 some,[.loc 0],(.set 3),[]⟩]
def XT:List AC:=[
 ⟨none,.p1 some,[.var 5],.push,[]⟩,
 ⟨none,.p2 (AQ Tryz.prog .add 3),[(.loc 0),(.const (.int .i64 (1)))],.push,[]⟩,
 ⟨none,.p1 some,[.loc 0],(.set 5),[]⟩]
def LR:AW:=(.seq (.seq (.ops RR) (.cond (.var 6)
 .skip
 (.exit 0))) (.seq (.block 1 (.ops XS)) (.ops XT)))
def RU:List AC:=[
 ⟨none,.p2 (AQ Tryz.prog .add 3),[(.var 3),(.const (.int .i64 (1)))],.push,[]⟩,
 ⟨none,.p1 some,[.loc 0],(.set 2),[]⟩]
def cD:Al:=⟨2,7,(.seq (.ops XO) (.seq (.ops XP) (.seq (.ops XQ) (.seq (.seq (.ops XR) (.block 0 (.loop LR))) (.seq (.ops RU) .ret))))),[((.var 2),none)]⟩
def XU:List AC:=[
 ⟨none,.mk (fun l=>match l with | [v]=>Cx 122 v | _=>none),[.var 1],(.set 2),[]⟩,
 ⟨none,.p1 some,[(.const (.int .i64 (0)))],(.set 3),[]⟩]
def XV:List AC:=[
 ⟨none,.p1 some,[(.const (.int .i64 (0)))],(.set 4),[]⟩]
def RV:List AC:=[
 ⟨none,.p1 AX,[.var 0],.push,[]⟩,
 ⟨none,.p1 (fun x=>AA Tryz.prog 80 x 0),[.loc 0],.push,[]⟩,
 ⟨none,.r1 (fun s a=>AG Tryz.prog s 78 a),[.loc 0],.push,[]⟩,
 ⟨none,.r (fun s l=>match l with | [x]=>BN Tryz.prog s 78 x | _=>none),[.loc 0],.push,[]⟩,
 ⟨none,.p2 (AQ Tryz.prog .lss 3),[.var 4,.loc 0],(.set 5),[]⟩]
def XW:List AC:=[
 ⟨none,.p1 AX,[.var 0],.push,[]⟩,
 ⟨none,.p1 (fun x=>AA Tryz.prog 80 x 0),[.loc 0],.push,[]⟩,
 ⟨none,.r1 (fun s a=>AG Tryz.prog s 78 a),[.loc 0],.push,[]⟩,
 ⟨none,.p2 (AK Tryz.prog 78),[.loc 0,.var 4],.push,[]⟩,
 ⟨none,.r1 (fun s a=>AG Tryz.prog s 122 a),[.loc 0],.push,[]⟩,
 ⟨none,.r1 (fun s a=>AG Tryz.prog s 122 a),[.var 2],.push,[]⟩,
 ⟨none,.call 108,[.loc 1,.loc 0],(.set 6),[]⟩]
def XX:List AC:=[
 ⟨none,.p1 some,[.var 4],(.set 3),[]⟩]
def XY:List AC:=[
 ⟨none,.p1 some,[.var 4],.push,[]⟩,
 ⟨none,.p2 (AQ Tryz.prog .add 3),[(.loc 0),(.const (.int .i64 (1)))],.push,[]⟩,
 ⟨none,.p1 some,[.loc 0],(.set 4),[]⟩]
def LS:AW:=(.seq (.seq (.ops RV) (.cond (.var 5)
 .skip
 (.exit 0))) (.seq (.block 1 (.seq (.ops XW) (.cond (.var 6)
 (.seq (.ops XX) .ret)
 .skip))) (.ops XY)))
def XZ:List AC:=[
 ⟨none,.p1 AX,[.var 0],.push,[]⟩,
 ⟨none,.p1 (fun x=>AA Tryz.prog 80 x 0),[.loc 0],.push,[]⟩,
 ⟨none,.r1 (fun s a=>AG Tryz.prog s 78 a),[.loc 0],.push,[]⟩,
 ⟨none,.r1 (fun s a=>AG Tryz.prog s 122 a),[.var 2],.push,[]⟩,
 ⟨none,.mk (fun l=>(AY Tryz.prog 78 1 (zipIdx [0] l)).bind fun r=>some (r,.slice 1)),[.loc 0],.push,[]⟩,
 ⟨none,.e (fun s l=>Aj Tryz.prog s [78,78] l),[.loc 2,.loc 0],.push,[]⟩,
 ⟨none,.p1 AX,[.var 0],.push,[]⟩,
 ⟨none,.p1 (fun x=>AA Tryz.prog 80 x 0),[.loc 0],.push,[]⟩,
 ⟨none,.e (fun s=>Xs (fun a x=>Xu (At Tryz.prog s 78 a x))),[.loc 0,.loc 2],.push,[]⟩]
def Xw:List AC:=[
 ⟨none,.p1 AX,[.var 0],.push,[]⟩,
 ⟨none,.p1 (fun x=>AA Tryz.prog 80 x 0),[.loc 0],.push,[]⟩,
 ⟨none,.r1 (fun s a=>AG Tryz.prog s 78 a),[.loc 0],.push,[]⟩,
 ⟨none,.r (fun s l=>match l with | [x]=>BN Tryz.prog s 78 x | _=>none),[.loc 0],.push,[]⟩,
 ⟨none,.p2 (AQ Tryz.prog .sub 3),[(.loc 0),(.const (.int .i64 (1)))],.push,[]⟩,
 ⟨none,.p1 some,[.loc 0],(.set 3),[]⟩]
def cE:Al:=⟨2,7,(.seq (.ops XU) (.seq (.seq (.ops XV) (.block 0 (.loop LS))) (.seq (.ops XZ) (.seq (.ops Xw) .ret)))),[((.var 3),none)]⟩
def Xx:List AC:=[
 ⟨none,.mk (fun l=>match l with | [v]=>Cx 43 v | _=>none),[.var 0],(.set 1),[]⟩,
 ⟨none,.mk (fun l=>match l with | []=>Bl Tryz.prog 43 | _=>none),[],(.set 2),[]⟩]
def Xy:List AC:=[
 ⟨none,.r1 (fun s a=>AG Tryz.prog s 43 a),[.var 1],.push,[]⟩,
 ⟨none,.call 109,[.loc 0],.push,[]⟩,
 ⟨none,.p1 (Uh Tryz.prog Go.UnOp.not),[.loc 0],.push,[]⟩,
 ⟨(some ((.loc 0),false)),.p1 (fun x=>AA Tryz.prog 43 x 0),[.var 1],.push,[]⟩,
 ⟨(some ((.loc 1),false)),.r1 (fun s a=>AG Tryz.prog s 3 a),[.loc 0],.push,[]⟩,
 ⟨(some ((.loc 2),false)),.p2 (AQ Tryz.prog .eql 3),[(.loc 0),(.const (.int .i64 (5)))],.push,[]⟩,
 ⟨none,.p Rn,[(.loc 3),(.const (.bool true)),(.loc 0)],.push,[]⟩,
 ⟨(some ((.loc 0),false)),.p1 (fun x=>AA Tryz.prog 43 x 4),[.var 1],.push,[]⟩,
 ⟨(some ((.loc 1),false)),.r1 (fun s a=>AG Tryz.prog s 39 a),[.loc 0],.push,[]⟩,
 ⟨(some ((.loc 2),false)),.r (fun s l=>match l with | [x]=>BN Tryz.prog s 39 x | _=>none),[.loc 0],.push,[]⟩,
 ⟨(some ((.loc 3),false)),.p2 (AQ Tryz.prog .gtr 3),[(.loc 0),(.const (.int .i64 (0)))],.push,[]⟩,
 ⟨none,.p Rn,[(.loc 4),(.const (.bool true)),(.loc 0)],(.set 3),[]⟩]
def aH:List AC:=[
 ⟨none,.p (fun l=>AT Tryz.prog 43 (zipIdx [] l)),[],.push,[]⟩,
 ⟨none,.e (fun s=>Xs (fun a x=>Xu (At Tryz.prog s 43 a x))),[.var 2,.loc 0],.push,[]⟩]
def Xz:List AC:=[
 ⟨none,.r1 (fun s a=>AG Tryz.prog s 43 a),[.var 1],.push,[]⟩,
 ⟨none,.e (fun s=>Xs (fun a x=>Xu (At Tryz.prog s 43 a x))),[.var 2,.loc 0],.push,[]⟩]
def cF:Al:=⟨1,4,(.seq (.ops Xx) (.seq (.seq (.ops Xy) (.cond (.var 3)
 (.seq (.ops aH) .ret)
 .skip)) (.seq (.ops Xz) .ret))),[((.var 2),some 43)]⟩
def X0:List AC:=[
 ⟨none,.p1 some,[(.const (.int .i64 (0)))],(.set 3),[]⟩]
def X1:List AC:=[
 ⟨none,.p1 AX,[.var 0],.push,[]⟩,
 ⟨none,.p1 (fun x=>AA Tryz.prog 80 x 0),[.loc 0],.push,[]⟩,
 ⟨none,.r1 (fun s a=>AG Tryz.prog s 78 a),[.loc 0],.push,[]⟩,
 ⟨none,.r (fun s l=>match l with | [x]=>BN Tryz.prog s 78 x | _=>none),[.loc 0],.push,[]⟩,
 ⟨none,.p1 some,[.loc 0],(.set 4),[]⟩]
def X2:List AC:=[
 ⟨none,.p1 some,[(.const (.slice none 0 (some 0)))],(.set 5),[]⟩]
def X3:List AC:=[
 ⟨none,.p1 some,[(.const (.int .i64 (0)))],(.set 6),[]⟩]
def Nz:List AC:=[
 ⟨none,.r (fun s l=>match l with | [x]=>BN Tryz.prog s 27 x | _=>none),[.var 2],.push,[]⟩,
 ⟨none,.p2 (AQ Tryz.prog .lss 3),[.var 6,.loc 0],(.set 8),[]⟩]
def RX:List AC:=[
 ⟨none,.p2 (AK Tryz.prog 27),[.var 2,.var 6],.push,[]⟩,
 ⟨none,.r1 (fun s a=>AG Tryz.prog s 3 a),[.loc 0],.push,[]⟩,
 ⟨none,.p1 some,[.loc 0],(.set 7),[]⟩]
def RY:List AC:=[
 ⟨none,.p2 (AQ Tryz.prog .geq 3),[.var 7,.var 4],(.set 9),[]⟩]
def X4:List AC:=[
 ⟨none,.p1 some,[(.const (.int .i64 (-1)))],(.set 7),[]⟩]
def RZ:List AC:=[
 ⟨none,.p1 some,[.var 5],.push,[]⟩,
 ⟨none,.call 110,[.var 0,.var 7],.push,[]⟩,
 ⟨none,.mk (fun l=>(AY Tryz.prog 27 1 (zipIdx [0] l)).bind fun r=>some (r,.slice 1)),[.loc 0],.push,[]⟩,
 ⟨none,.e (fun s l=>Aj Tryz.prog s [27,27] l),[.loc 2,.loc 0],.push,[]⟩,
 ⟨none,.p1 some,[.loc 0],(.set 5),[]⟩]
def Rp:List AC:=[
 ⟨none,.p1 some,[.var 6],.push,[]⟩,
 ⟨none,.p2 (AQ Tryz.prog .add 3),[(.loc 0),(.const (.int .i64 (1)))],.push,[]⟩,
 ⟨none,.p1 some,[.loc 0],(.set 6),[]⟩]
def G3:AW:=(.seq (.seq (.ops Nz) (.cond (.var 8)
 .skip
 (.exit 0))) (.seq (.block 1 (.seq (.ops RX) (.seq (.seq (.ops RY) (.cond (.var 9)
 (.ops X4)
 .skip)) (.ops RZ)))) (.ops Rp)))
def RW:List AC:=[
 ⟨none,.p (fun l=>AT Tryz.prog 122 (zipIdx [0,3] l)),[.var 1,.var 5],.push,[]⟩,
 ⟨none,.call 81,[.var 0,.loc 0],.push,[]⟩,
 ⟨none,.p1 some,[.loc 0],(.set 3),[]⟩]
def cG:Al:=⟨3,10,(.seq (.ops X0) (.seq (.ops X1) (.seq (.ops X2) (.seq (.seq (.ops X3) (.block 0 (.loop G3))) (.seq (.ops RW) .ret))))),[((.var 3),none)]⟩
def QH:List AC:=[
 ⟨none,.mk (fun l=>match l with | []=>Bl Tryz.prog 122 | _=>none),[],(.set 2),[]⟩]
def QI:List AC:=[
 ⟨none,.call 126,[.var 0,.var 1],.push,[]⟩,
 ⟨none,.p1 (Uh Tryz.prog Go.UnOp.not),[.loc 0],(.set 3),[]⟩]
def YI:List AC:=[
 ⟨none,.p (fun l=>AT Tryz.prog 122 (zipIdx [0] l)),[(.const (.int .i64 (2)))],.push,[]⟩,
 ⟨none,.e (fun s=>Xs (fun a x=>Xu (At Tryz.prog s 122 a x))),[.var 2,.loc 0],.push,[]⟩]
def QJ:List AC:=[
 ⟨none,.p1 AX,[.var 0],.push,[]⟩,
 ⟨none,.p1 (fun x=>AA Tryz.prog 80 x 0),[.loc 0],.push,[]⟩,
 ⟨none,.r1 (fun s a=>AG Tryz.prog s 78 a),[.loc 0],.push,[]⟩,
 ⟨none,.p2 (AK Tryz.prog 78),[.loc 0,.var 1],.push,[]⟩,
 ⟨none,.r1 (fun s a=>AG Tryz.prog s 122 a),[.loc 0],.push,[]⟩,
 ⟨none,.e (fun s=>Xs (fun a x=>Xu (At Tryz.prog s 122 a x))),[.var 2,.loc 0],.push,[]⟩]
def Zv:Al:=⟨2,4,(.seq (.ops QH) (.seq (.seq (.ops QI) (.cond (.var 3)
 (.seq (.ops YI) .ret)
 .skip)) (.seq (.ops QJ) .ret))),[((.var 2),some 122)]⟩
def KO:List AC:=[
 ⟨none,.mk (fun l=>match l with | [v]=>Cx 122 v | _=>none),[.var 0],(.set 2),[]⟩,
 ⟨none,.mk (fun l=>match l with | [v]=>Cx 122 v | _=>none),[.var 1],(.set 3),[]⟩,
 ⟨none,.p1 some,[(.const (.bool false))],(.set 4),[]⟩]
def KP:List AC:=[
 ⟨none,.p1 (fun x=>AA Tryz.prog 122 x 0),[.var 2],.push,[]⟩,
 ⟨none,.r1 (fun s a=>AG Tryz.prog s 3 a),[.loc 0],.push,[]⟩,
 ⟨none,.p1 (fun x=>AA Tryz.prog 122 x 0),[.var 3],.push,[]⟩,
 ⟨none,.r1 (fun s a=>AG Tryz.prog s 3 a),[.loc 0],.push,[]⟩,
 ⟨none,.p2 (AQ Tryz.prog .neq 3),[.loc 2,.loc 0],.push,[]⟩,
 ⟨(some ((.loc 0),false)),.p1 (fun x=>AA Tryz.prog 122 x 1),[.var 2],.push,[]⟩,
 ⟨(some ((.loc 1),false)),.r1 (fun s a=>AG Tryz.prog s 3 a),[.loc 0],.push,[]⟩,
 ⟨(some ((.loc 2),false)),.p1 (fun x=>AA Tryz.prog 122 x 1),[.var 3],.push,[]⟩,
 ⟨(some ((.loc 3),false)),.r1 (fun s a=>AG Tryz.prog s 3 a),[.loc 0],.push,[]⟩,
 ⟨(some ((.loc 4),false)),.p2 (AQ Tryz.prog .neq 3),[.loc 2,.loc 0],.push,[]⟩,
 ⟨none,.p Rn,[(.loc 5),(.const (.bool true)),(.loc 0)],.push,[]⟩,
 ⟨(some ((.loc 0),false)),.p1 (fun x=>AA Tryz.prog 122 x 2),[.var 2],.push,[]⟩,
 ⟨(some ((.loc 1),false)),.r1 (fun s a=>AG Tryz.prog s 43 a),[.loc 0],.push,[]⟩,
 ⟨(some ((.loc 2),false)),.p1 (fun x=>AA Tryz.prog 122 x 2),[.var 3],.push,[]⟩,
 ⟨(some ((.loc 3),false)),.r1 (fun s a=>AG Tryz.prog s 43 a),[.loc 0],.push,[]⟩,
 ⟨(some ((.loc 4),false)),.call 127,[.loc 2,.loc 0],.push,[]⟩,
 ⟨(some ((.loc 5),false)),.p1 (Uh Tryz.prog Go.UnOp.not),[.loc 0],.push,[]⟩,
 ⟨none,.p Rn,[(.loc 6),(.const (.bool true)),(.loc 0)],.push,[]⟩,
 ⟨(some ((.loc 0),false)),.p1 (fun x=>AA Tryz.prog 122 x 3),[.var 2],.push,[]⟩,
 ⟨(some ((.loc 1),false)),.r1 (fun s a=>AG Tryz.prog s 27 a),[.loc 0],.push,[]⟩,
 ⟨(some ((.loc 2),false)),.r (fun s l=>match l with | [x]=>BN Tryz.prog s 27 x | _=>none),[.loc 0],.push,[]⟩,
 ⟨(some ((.loc 3),false)),.p1 (fun x=>AA Tryz.prog 122 x 3),[.var 3],.push,[]⟩,
 ⟨(some ((.loc 4),false)),.r1 (fun s a=>AG Tryz.prog s 27 a),[.loc 0],.push,[]⟩,
 ⟨(some ((.loc 5),false)),.r (fun s l=>match l with | [x]=>BN Tryz.prog s 27 x | _=>none),[.loc 0],.push,[]⟩,
 ⟨(some ((.loc 6),false)),.p2 (AQ Tryz.prog .neq 3),[.loc 3,.loc 0],.push,[]⟩,
 ⟨none,.p Rn,[(.loc 7),(.const (.bool true)),(.loc 0)],(.set 6),[]⟩]
def IM:List AC:=[
 ⟨none,.p1 some,[(.const (.bool false))],(.set 4),[]⟩]
def QK:List AC:=[
 ⟨none,.p1 some,[(.const (.int .i64 (0)))],(.set 5),[]⟩]
def KQ:List AC:=[
 ⟨none,.p1 (fun x=>AA Tryz.prog 122 x 3),[.var 2],.push,[]⟩,
 ⟨none,.r1 (fun s a=>AG Tryz.prog s 27 a),[.loc 0],.push,[]⟩,
 ⟨none,.r (fun s l=>match l with | [x]=>BN Tryz.prog s 27 x | _=>none),[.loc 0],.push,[]⟩,
 ⟨none,.p2 (AQ Tryz.prog .lss 3),[.var 5,.loc 0],(.set 7),[]⟩]
def Mb:List AC:=[
 ⟨none,.p1 (fun x=>AA Tryz.prog 122 x 3),[.var 2],.push,[]⟩,
 ⟨none,.r1 (fun s a=>AG Tryz.prog s 27 a),[.loc 0],.push,[]⟩,
 ⟨none,.p2 (AK Tryz.prog 27),[.loc 0,.var 5],.push,[]⟩,
 ⟨none,.r1 (fun s a=>AG Tryz.prog s 3 a),[.loc 0],.push,[]⟩,
 ⟨none,.p1 (fun x=>AA Tryz.prog 122 x 3),[.var 3],.push,[]⟩,
 ⟨none,.r1 (fun s a=>AG Tryz.prog s 27 a),[.loc 0],.push,[]⟩,
 ⟨none,.p2 (AK Tryz.prog 27),[.loc 0,.var 5],.push,[]⟩,
 ⟨none,.r1 (fun s a=>AG Tryz.prog s 3 a),[.loc 0],.push,[]⟩,
 ⟨none,.p2 (AQ Tryz.prog .neq 3),[.loc 4,.loc 0],(.set 8),[]⟩]
def QL:List AC:=[
 ⟨none,.p1 some,[(.const (.bool false))],(.set 4),[]⟩]
def QM:List AC:=[
 ⟨none,.p1 some,[.var 5],.push,[]⟩,
 ⟨none,.p2 (AQ Tryz.prog .add 3),[(.loc 0),(.const (.int .i64 (1)))],.push,[]⟩,
 ⟨none,.p1 some,[.loc 0],(.set 5),[]⟩]
def G1:AW:=(.seq (.seq (.ops KQ) (.cond (.var 7)
 .skip
 (.exit 0))) (.seq (.block 1 (.seq (.ops Mb) (.cond (.var 8)
 (.seq (.ops QL) .ret)
 .skip))) (.ops QM)))
def Mc:List AC:=[
 ⟨none,.p1 some,[(.const (.bool true))],(.set 4),[]⟩]
def Tu:Al:=⟨2,9,(.seq (.ops KO) (.seq (.seq (.ops KP) (.cond (.var 6)
 (.seq (.ops IM) .ret)
 .skip)) (.seq (.seq (.ops QK) (.block 0 (.loop G1))) (.seq (.ops Mc) .ret)))),[((.var 4),none)]⟩
def KR:List AC:=[
 ⟨none,.p1 some,[(.const (.int .i64 (0)))],(.set 2),[]⟩]
def KS:List AC:=[
 ⟨none,.p2 (AQ Tryz.prog .lss 3),[(.var 1),(.const (.int .i64 (0)))],.push,[]⟩,
 ⟨(some ((.loc 0),false)),.p1 some,[.var 1],.push,[]⟩,
 ⟨(some ((.loc 1),false)),.p1 some,[.var 0],.push,[]⟩,
 ⟨(some ((.loc 2),false)),.p1 AX,[.loc 0],.push,[]⟩,
 ⟨(some ((.loc 3),false)),.p1 (fun x=>AA Tryz.prog 80 x 0),[.loc 0],.push,[]⟩,
 ⟨(some ((.loc 4),false)),.r1 (fun s a=>AG Tryz.prog s 78 a),[.loc 0],.push,[]⟩,
 ⟨(some ((.loc 5),false)),.r (fun s l=>match l with | [x]=>BN Tryz.prog s 78 x | _=>none),[.loc 0],.push,[]⟩,
 ⟨(some ((.loc 6),false)),.p2 (AQ Tryz.prog .geq 3),[.loc 5,.loc 0],.push,[]⟩,
 ⟨none,.p Rn,[(.loc 7),(.const (.bool true)),(.loc 0)],(.set 3),[]⟩]
def Md:List AC:=[
 ⟨none,.p (fun l=>AT Tryz.prog 43 (zipIdx [] l)),[],.push,[]⟩,
 ⟨none,.call 65,[.var 0,.loc 0],.push,[]⟩,
 ⟨none,.p1 some,[.loc 0],(.set 2),[]⟩]
def QN:List AC:=[
 ⟨none,.p1 some,[.var 1],(.set 2),[]⟩]
def Tv:Al:=⟨2,4,(.seq (.ops KR) (.seq (.seq (.ops KS) (.cond (.var 3)
 (.seq (.ops Md) .ret)
 .skip)) (.seq (.ops QN) .ret))),[((.var 2),none)]⟩
def Me:List AC:=[
 ⟨none,.p1 some,[(.const (.bool false))],(.set 2),[]⟩]
def Mf:List AC:=[
 ⟨none,.p2 (AQ Tryz.prog .geq 3),[(.var 1),(.const (.int .i64 (0)))],.push,[]⟩,
 ⟨(some ((.loc 0),true)),.p1 some,[.var 1],.push,[]⟩,
 ⟨(some ((.loc 1),true)),.p1 some,[.var 0],.push,[]⟩,
 ⟨(some ((.loc 2),true)),.p1 AX,[.loc 0],.push,[]⟩,
 ⟨(some ((.loc 3),true)),.p1 (fun x=>AA Tryz.prog 80 x 0),[.loc 0],.push,[]⟩,
 ⟨(some ((.loc 4),true)),.r1 (fun s a=>AG Tryz.prog s 78 a),[.loc 0],.push,[]⟩,
 ⟨(some ((.loc 5),true)),.r (fun s l=>match l with | [x]=>BN Tryz.prog s 78 x | _=>none),[.loc 0],.push,[]⟩,
 ⟨(some ((.loc 6),true)),.p2 (AQ Tryz.prog .lss 3),[.loc 5,.loc 0],.push,[]⟩,
 ⟨none,.p Rn,[(.loc 7),(.loc 0),(.const (.bool false))],.push,[]⟩,
 ⟨none,.p1 some,[.loc 0],(.set 2),[]⟩]
def YJ:Al:=⟨2,3,(.seq (.ops Me) (.seq (.ops Mf) .ret)),[((.var 2),none)]⟩
theorem aW:AN Tryz.prog 8=some c8:=by kernel_rfl
theorem aX:AN Tryz.prog 9=some c9:=by kernel_rfl
theorem YW:AN Tryz.prog 17=some Zc:=by kernel_rfl
theorem aV:AN Tryz.prog 3=some c3:=by kernel_rfl
theorem YV:AN Tryz.prog 16=some bh:=by kernel_rfl
theorem Yp:AN Tryz.prog 41=some bw:=by kernel_rfl
theorem Yq:AN Tryz.prog 42=some Zd:=by kernel_rfl
theorem Yt:AN Tryz.prog 61=some b3:=by kernel_rfl
theorem Yu:AN Tryz.prog 62=some bC:=by kernel_rfl
theorem Yv:AN Tryz.prog 63=some b4:=by kernel_rfl
theorem Yw:AN Tryz.prog 64=some b5:=by kernel_rfl
theorem Yx:AN Tryz.prog 65=some cA:=by kernel_rfl
theorem Yy:AN Tryz.prog 66=some cB:=by kernel_rfl
theorem Yz:AN Tryz.prog 67=some cC:=by kernel_rfl
theorem Y0:AN Tryz.prog 80=some cD:=by kernel_rfl
theorem Y1:AN Tryz.prog 81=some cE:=by kernel_rfl
theorem Y2:AN Tryz.prog 82=some cF:=by kernel_rfl
theorem Y3:AN Tryz.prog 83=some cG:=by kernel_rfl
theorem Tz:AN Tryz.prog 107=some Zv:=by kernel_rfl
theorem T0:AN Tryz.prog 108=some Tu:=by kernel_rfl
theorem T4:AN Tryz.prog 110=some Tv:=by kernel_rfl
theorem T5:AN Tryz.prog 126=some YJ:=by kernel_rfl
end
end Go.Proofs.YtickdehehcmfbaaGreatDoor.Am
set_option linter.unusedVariables false
set_option linter.unusedSimpArgs false
namespace Go.Proofs.YtickdehehcmfbaaGreatDoor.Am
open Go Go.Proofs
noncomputable section
theorem Si:DN Tryz.prog 60=some 65:=by kernel_rfl
theorem QG(m:Nat):AT Tryz.prog 62 (zipIdx [1] [.map (some m)])=some (.agg [.slice none 0 (some 0),.map (some m)]):=by kernel_rfl
theorem ZL{E:Bb}(hE:Ah E){s:AD}(hg:Co s 1 BC=true)(h1:1<s.next){K:AV→AD→Prop}
  (hK:∀p s' O',BK s.next s s'→AS s' p [] O'→Bw s' O'→(∀j∈O',s.next≤j)→K (.ptr (some (p,0))) s'):WF E 28 [] K s:=by
 refine hE.go Yg (by decide) rfl ?_
 generalize hs:s.next=b
 have hs0:s=ext s []:=(Ac s).symm
 rw[hs]at h1
 have hnx:(ext s [.map 65 [],R 62 0 false [.slice none 0 (some 0),.map (some (nid b 0))]]).next=b+2:=by rw[Wm,hs,AF];rfl
 rw[hs0]
 simp only[bm,VZ,Va,Si,QG,hs,Qa,Qb,Qc,Qd,Qe,Qf,Qg,Qh,Qi,Qj,Qk,Ql,Qm,Qn,true_and,and_true,Qo,Qp,Qq,Qr,Qs,Qt,Qu,Qv,Qw,Qx,Qy,Qz,Ra,Rb,Rc,Rd,Re,Rf,Rg,Rh,Ri,Rj,Rk,Rl,Rm,Ya,Yb,Yc,Rn,Ro,Xv,Yd,Ye,Rq,Rs,Rt,Ru,Rw,Rx,Ry,Rz,Wa,Wb,Wc,Wd,We,Wf,Wg,Wh,Wi,Wj,Wl,Wm,Wn,Wp,Wq,Wr,Ws,Wt,Wu,Wv,Ww,Wx,Wy,Wz,Xa,Xb,Xc,Xd,Xe,Xf,Xg,Xh,Xi,Xj,Xk,Xl,Xm,Xn,Xo,Xp,Xq,Xr,cN,cP,cO,cL,cQ,cR,List.getElem?_cons_zero,List.getElem?_cons_succ,cM,cT,cU,cV,cK,Nat.reduceAdd,Nat.reduceLT,Nat.reduceLeDiff,decide_true,decide_false,Bool.true_and,Bool.and_true,cW,cJ,Option.some.injEq,Xs,Xt,Xu,Xv]
 have hge:∀j∈[nid b 1,nid b 0],b≤j:=fun j hj=>by
  simp only[dE,dS,or_false]at hj
  rcases hj with rfl | rfl<;>rw[AF]<;>omega
 refine hK (nid b 1) _ [nid b 1,nid b 0] AM ?_ ⟨by rw[BT (Wh (by omega))];exact hg,by rw[hnx];omega,fun hm=>by have:=hge 1 hm;omega⟩ (by rw[hs];exact hge)
 refine⟨⟨db,fun i t h=>by simp at h,fun t h=>by cases h⟩,cp _,.slice none 0 (some 0),nid b 0,[],[],?_,C2.nil _ _ _,?_,rfl,fun i t m h=>by simp at h,rfl,?_,?_,?_,by simp,by simp⟩
 ·rw[Wg hs (by simp)];rfl
 ·rw[Wg hs (by simp)];rfl
 ·rw[hnx,AF];omega
 ·rw[hnx,AF];omega
 ·rw[AF,AF];omega
set_option maxRecDepth 20000 in
theorem X7    {E : Bb}  (hE : Ah    E) {s : AD}  {v : AV} {l : List Int} (h : Ad     s v l) (hl : l.length ≤ 1000000) {x : Int} {K : AV → AD  → Prop} (hK : K (.bool (decide (x ∈ l))) s) : WF E 9 [v, iv x] K s := by
  refine hE.go aX (by decide) rfl ?_
  have hlen:=h.len
  simp only[c9,aP,aQ,Qa,Qb,Qc,Qd,Qe,Qf,Qg,Qh,Qi,Qj,Qk,Ql,Qm,Qn,true_and,and_true,Qo,Qp,Qq,Qr,Qs,Qt,Qu,Qv,Qw,Qx,Qy,Qz,Ra,Rb,Rc,Rd,Re,Rf,Rg,Rh,Ri,Rj,Rk,Rl,Rm,Ya,Yb,Yc,Rn,Ro,Xv,Yd,Ye,Rq,Rs,Rt,Ru,Rw,Rx,Ry,Rz,Wa,Wb,Wc,Wd,We,Wf,Wg,Wh,Wi,Wj,Wl,Wm,Wn,Wp,Wq,Wr,Ws,Wt,Wu,Wv,Ww,Wx,Wy,Wz,Xa,Xb,Xc,Xd,Xe,Xf,Xg,Xh,Xi,Xj,Xk,Xl,Xm,Xn,Xo,Xp,Xq,Xr,cN,cP,cO,cL,cQ,cR,List.getElem?_cons_zero,List.getElem?_cons_succ,cM,cT,cU,cV,cK,Nat.reduceAdd,Nat.reduceLT,Nat.reduceLeDiff,decide_true,decide_false,Bool.true_and,Bool.and_true,cW,cJ,Option.some.injEq,Xs,Xt,Xu,Xv]
  have key:∀ (l2 l1:List Int) (a4 a5:AV),l=l1++l2→x ∉ l1→WC E none (AW.loop Ow) (Ab 0 (Hy (fun x_1 x_2 x_3=>Qb E YO (fun v s'=>JO (B5 s' x_2) fun s'=>K (Iu v 2) s') [] x_1 x_3) (Ends Tryz.prog [(CX.var 2,none)] K)))
      [v,iv x,.bool false,iv (l1.length:Int),a4,a5] [] s:=by
    intro l2
    induction l2 with
    | nil =>
      intro l1 a4 a5 hll hx
      refine WC.loop' ?_
      have hlt:¬ ((l1.length:Int)<(l.length:Int)):=by rw[hll];simp
      simp only[Ow,Tw,hlen,hlt,decide_false,Qa,Qb,Qc,Qd,Qe,Qf,Qg,Qh,Qi,Qj,Qk,Ql,Qm,Qn,true_and,and_true,Qo,Qp,Qq,Qr,Qs,Qt,Qu,Qv,Qw,Qx,Qy,Qz,Ra,Rb,Rc,Rd,Re,Rf,Rg,Rh,Ri,Rj,Rk,Rl,Rm,Ya,Yb,Yc,Rn,Ro,Xv,Yd,Ye,Rq,Rs,Rt,Ru,Rw,Rx,Ry,Rq]
      rw[if_pos trivial]
      simp only[YO,Qa,Qb,Qc,Qd,Qe,Qf,Qg,Qh,Qi,Qj,Qk,Ql,Qm,Qn,true_and,and_true,Qo,Qp,Qq,Qr,Qs,Qt,Qu,Qv,Qw,Qx,Qy,Qz,Ra,Rb,Rc,Rd,Re,Rf,Rg,Rh,Ri,Rj,Rk,Rl,Rm,Ya,Yb,Yc,Rn,Ro,Xv,Yd,Ye,Rq,Rs,Rt,Ru,Rw,Rx,Ry]
      have hx2:decide (x∈l)=false:=decide_eq_false (by rw[hll];simpa using hx)
      rw[hx2]at hK
      exact hK
    | cons y l2 ih =>
      intro l1 a4 a5 hll hx
      refine WC.loop' ?_
      obtain⟨W,hW⟩:∃W,W=AW.loop Ow:=⟨_,rfl⟩
      rw[← hW]
      have hlt:((l1.length:Int)<(l.length:Int)):=by rw[hll];simp;omega
      have hltn:l1.length<l.length:=by omega
      have hadd:i64 ((l1.length:Int)+1):=by unfold i64;omega
      obtain⟨j,q,cap,rfl,hj,hld⟩:=h.at (k:=l1.length) (x:=y) (by rw[hll];simp)
      by_cases e:y=x
      · have hd:decide (y=x)=true:=decide_eq_true e
        simp only[Ow,Tw,YN,aR,hlen,hlt,decide_true,Qa,Qb,Qc,Qd,Qe,Qf,Qg,Qh,Qi,Qj,Qk,Ql,Qm,Qn,true_and,and_true,Qo,Qp,Qq,Qr,Qs,Qt,Qu,Qv,Qw,Qx,Qy,Qz,Ra,Rb,Rc,Rd,Re,Rf,Rg,Rh,Ri,Rj,Rk,Rl,Rm,Ya,Yb,Yc,Rn,Ro,Xv,Yd,Ye,Rq,Rs,Rt,Ru,Rw,Rx,Ry,Rq,Rw,AU Tryz.underlying27 Dt hltn,CV,hld,hd,ct,Rz,Wa,Wb,Wc,Wd,We,Wf,Wg,Wh,Wi,Wj,Wl,Wm,Wn,Wp,Wq,Wr,Ws,Wt,Wu,Wv,Ww,Wx,Wy,Wz,Xa,Xb,Xc,Xd,Xe,Xf,Xg,Xh,Xi,Xj,Xk,Xl,Xm,Xn,Xo,Xp,Xq,Xr,cN,cP,cO,cL,cQ,cR,List.getElem?_cons_zero,List.getElem?_cons_succ,cM,cT,cU,cV,cK,Nat.reduceAdd,Nat.reduceLT,Nat.reduceLeDiff,decide_true,decide_false,Bool.true_and,Bool.and_true,cW,cJ,Option.some.injEq,Xs,Xt,Xu,Xv]
        subst e
        have hx2:decide (y∈l)=true:=decide_eq_true (by rw[hll];simp)
        rw[hx2]at hK
        exact hK
      · have hd : decide (y = x) = false := decide_eq_false e
        have:=ih (l1++[y]) (.bool true) (.bool false) (by rw[hll];simp) (by simp[hx];exact fun h=>e h.symm)
        rw[← hW,show(l1++[y]).length=l1.length+1 from by simp]at this
        simp only[Ow,Tw,YN,aT,hlen,hlt,decide_true,Qa,Qb,Qc,Qd,Qe,Qf,Qg,Qh,Qi,Qj,Qk,Ql,Qm,Qn,true_and,and_true,Qo,Qp,Qq,Qr,Qs,Qt,Qu,Qv,Qw,Qx,Qy,Qz,Ra,Rb,Rc,Rd,Re,Rf,Rg,Rh,Ri,Rj,Rk,Rl,Rm,Ya,Yb,Yc,Rn,Ro,Xv,Yd,Ye,Rq,Rs,Rt,Ru,Rw,Rx,Ry,Rq,Rw,AU Tryz.underlying27 Dt hltn,CV,hld,hd,ct,A0 _ _ _ _ hadd,Rz,Wa,Wb,Wc,Wd,We,Wf,Wg,Wh,Wi,Wj,Wl,Wm,Wn,Wp,Wq,Wr,Ws,Wt,Wu,Wv,Ww,Wx,Wy,Wz,Xa,Xb,Xc,Xd,Xe,Xf,Xg,Xh,Xi,Xj,Xk,Xl,Xm,Xn,Xo,Xp,Xq,Xr,cN,cP,cO,cL,cQ,cR,List.getElem?_cons_zero,List.getElem?_cons_succ,cM,cT,cU,cV,cK,Nat.reduceAdd,Nat.reduceLT,Nat.reduceLeDiff,decide_true,decide_false,Bool.true_and,Bool.and_true,cW,cJ,Option.some.injEq,Xs,Xt,Xu,Xv]
        exact this
  exact key l [] _ _ rfl (by simp)
structure Fa where
 kind:Int
 id:Int
 con:Nat
 a:Int
 b:Int
 c:Int
def Fa.cells(o:Fa):List AV:=[iv o.kind,iv o.id]++(Tm.con o.con).cells++[iv o.a,iv o.b,iv o.c]
def Fa.ok(o:Fa):Prop:=(o.kind=0∨o.kind=1∨o.kind=2∨o.kind=3∨o.kind=4)∧o.con<13∧-1000≤o.id∧o.id≤900
def Ze(S:List Tm)(o:Fa):List Tm:=if o.kind=3 then Dl S.length S [o.a,o.b]else if o.kind=4 then Dl S.length S [o.a,o.b,o.c]else S
def Y6(S:List Tm)(o:Fa):Tm:=
 if o.kind=0 then .var o.id else if o.kind=1 then .bnd (max o.id 0)else if o.kind=2 then .con o.con else if o.kind=3 then .sel (As S o.a) (As S o.b)else .upd (As S o.a) (As S o.b) (As S o.c)
def X5(S:List Tm)(o:Fa):List Tm:=push (Ze S o) (Y6 S o)
theorem OF(i o:Nat):AK Tryz.prog 44 (.ptr (some (i,o))) (.int .i64 0)=some (.ptr (some (i,o+0))):=by kernel_rfl
theorem OG(i o:Nat):AK Tryz.prog 44 (.ptr (some (i,o))) (.int .i64 1)=some (.ptr (some (i,o+1))):=by kernel_rfl
theorem X6(i o:Nat):AK Tryz.prog 44 (.ptr (some (i,o))) (.int .i64 2)=some (.ptr (some (i,o+2))):=by kernel_rfl
set_option maxRecDepth 20000 in
theorem aZ{E:Bb}(hE:Ah E){s:AD}{p:Nat}{S:List Tm}{O:List Nat}(h:AS s p S O)(hg:Bw s O)(hsm:S.length<90000){o:Fa}(ho:o.ok){K:AV→AD→Prop}
  (hK:∀s' O',AS s' p (X5 S o) O'→Bw s' O'→Bk O s s'→AR O O' s→K (iv (ix (X5 S o) (Y6 S o):Int)) s'):WF E 17 [.ptr (some (p,0)),.agg o.cells] K s:=by
 obtain⟨kind,id,n,a,b',c⟩:=o
 obtain⟨hkd,hn,hi1,hi2⟩:=ho
 obtain⟨tag,c1,c2,c3,c5,c6,hc,_,d1,d2,d3,d5,d6⟩:=BL n hn
 have hcells:Fa.cells ⟨kind,id,n,a,b',c⟩=[iv kind,iv id,iv tag,c1,c2,c3,.slice none 0 (some 0),c5,c6,iv a,iv b',iv c]:=by
  show [iv kind,iv id]++(Tm.con n).cells++_=_
  rw[hc];rfl
 have hid:i64 id:=by have h1:-1000≤id:=hi1;have h2:id≤900:=hi2;unfold i64;omega
 have hkd:kind=0∨kind=1∨kind=2∨kind=3∨kind=4:=hkd
 have hst:=fun os=>h.old (AM (os:=os))
 have hgl:=fun os=>hg.old (AM (os:=os))
 have hend:∀os s' O',AS s' p (X5 S ⟨kind,id,n,a,b',c⟩) O'→Bk O (ext s os) s'→AR O O' (ext s os)→K (iv (ix (X5 S ⟨kind,id,n,a,b',c⟩) (Y6 S ⟨kind,id,n,a,b',c⟩):Int)) s':=fun os s' O' g1 g2 g3 =>
  hK s' O' g1 ((hgl os).step g2 g3) ((AM.frO O).trans g2 (AR.refl O s)) (AR.trans (AR.refl O s) g3 (by rw[Wm,AF];omega))
 have hvar:=fun os K=>Oe (K:=K) hE (hst os) (by omega) hid
 have hbnd:=fun os K=>K4 (K:=K) hE (hst os) (by omega) hid
 have hcon:=fun os K=>Oc (K:=K) hE (hst os) (by omega) hn (hgl os)
 have hsel:=fun os K=>ZT (K:=K) hE (hst os) (by omega) (hgl os) (d:=a) (k:=b')
 have hupd:=fun os K=>ZY (K:=K) hE (hst os) (by omega) (hgl os) (d:=a) (k:=b') (a:=c)
 rw[hc]at hcon
 rw[hcells]
 refine hE.go YW (by decide) rfl ?_
 generalize hs:s.next=b
 have hs0:s=ext s []:=(Ac s).symm
 rw[hs0]
 rcases hkd with rfl | rfl | rfl | rfl | rfl
 ·simp only[Zc,JX,JY,JZ,VI,Qa,Qb,Qc,Qd,Qe,Qf,Qg,Qh,Qi,Qj,Qk,Ql,Qm,Qn,true_and,and_true,Qo,Qp,Qq,Qr,Qs,Qt,Qu,Qv,Qw,Qx,Qy,Qz,Ra,Rb,Rc,Rd,Re,Rf,Rg,Rh,Ri,Rj,Rk,Rl,Rm,Ya,Yb,Yc,Rn,Ro,Xv,Yd,Ye,Rq,Rs,Rt,Ru,Rw,Rx,Ry,hs,CV,Bf,B3,Rw,Int.reduceEq,Rz,Wa,Wb,Wc,Wd,We,Wf,Wg,Wh,Wi,Wj,Wl,Wm,Wn,Wp,Wq,Wr,Ws,Wt,Wu,Wv,Ww,Wx,Wy,Wz,Xa,Xb,Xc,Xd,Xe,Xf,Xg,Xh,Xi,Xj,Xk,Xl,Xm,Xn,Xo,Xp,Xq,Xr,cN,cP,cO,cL,cQ,cR,List.getElem?_cons_zero,List.getElem?_cons_succ,cM,cT,cU,cV,cK,Nat.reduceAdd,Nat.reduceLT,Nat.reduceLeDiff,decide_true,decide_false,Bool.true_and,Bool.and_true,cW,cJ,Option.some.injEq,Xs,Xt,Xu,Xv]
  refine hvar _ _ fun s' O' g1 g2 g3=>?_
  simp only[Qa,Qb,Qc,Qd,Qe,Qf,Qg,Qh,Qi,Qj,Qk,Ql,Qm,Qn,true_and,and_true,Qo,Qp,Qq,Qr,Qs,Qt,Qu,Qv,Qw,Qx,Qy,Qz,Ra,Rb,Rc,Rd,Re,Rf,Rg,Rh,Ri,Rj,Rk,Rl,Rm,Ya,Yb,Yc,Rn,Ro,Xv,Yd,Ye,Rq,Rs,Rt,Ru,Rw,Rx,Ry]
  exact hend _ s' O' g1 g2 g3
 ·simp only[Zc,JX,JY,JZ,LK,VJ,Qa,Qb,Qc,Qd,Qe,Qf,Qg,Qh,Qi,Qj,Qk,Ql,Qm,Qn,true_and,and_true,Qo,Qp,Qq,Qr,Qs,Qt,Qu,Qv,Qw,Qx,Qy,Qz,Ra,Rb,Rc,Rd,Re,Rf,Rg,Rh,Ri,Rj,Rk,Rl,Rm,Ya,Yb,Yc,Rn,Ro,Xv,Yd,Ye,Rq,Rs,Rt,Ru,Rw,Rx,Ry,hs,CV,Bf,B3,Rw,Int.reduceEq,Rz,Wa,Wb,Wc,Wd,We,Wf,Wg,Wh,Wi,Wj,Wl,Wm,Wn,Wp,Wq,Wr,Ws,Wt,Wu,Wv,Ww,Wx,Wy,Wz,Xa,Xb,Xc,Xd,Xe,Xf,Xg,Xh,Xi,Xj,Xk,Xl,Xm,Xn,Xo,Xp,Xq,Xr,cN,cP,cO,cL,cQ,cR,List.getElem?_cons_zero,List.getElem?_cons_succ,cM,cT,cU,cV,cK,Nat.reduceAdd,Nat.reduceLT,Nat.reduceLeDiff,decide_true,decide_false,Bool.true_and,Bool.and_true,cW,cJ,Option.some.injEq,Xs,Xt,Xu,Xv]
  refine hbnd _ _ fun s' O' g1 g2 g3=>?_
  simp only[Qa,Qb,Qc,Qd,Qe,Qf,Qg,Qh,Qi,Qj,Qk,Ql,Qm,Qn,true_and,and_true,Qo,Qp,Qq,Qr,Qs,Qt,Qu,Qv,Qw,Qx,Qy,Qz,Ra,Rb,Rc,Rd,Re,Rf,Rg,Rh,Ri,Rj,Rk,Rl,Rm,Ya,Yb,Yc,Rn,Ro,Xv,Yd,Ye,Rq,Rs,Rt,Ru,Rw,Rx,Ry]
  exact hend _ s' O' g1 g2 g3
 ·simp only[Zc,JX,JY,JZ,LK,Nn,VK,Qa,Qb,Qc,Qd,Qe,Qf,Qg,Qh,Qi,Qj,Qk,Ql,Qm,Qn,true_and,and_true,Qo,Qp,Qq,Qr,Qs,Qt,Qu,Qv,Qw,Qx,Qy,Qz,Ra,Rb,Rc,Rd,Re,Rf,Rg,Rh,Ri,Rj,Rk,Rl,Rm,Ya,Yb,Yc,Rn,Ro,Xv,Yd,Ye,Rq,Rs,Rt,Ru,Rw,Rx,Ry,hs,CV,II,H0,Bf,B3,SL,Rw,Int.reduceEq,Rz,Wa,Wb,Wc,Wd,We,Wf,Wg,Wh,Wi,Wj,Wl,Wm,Wn,Wp,Wq,Wr,Ws,Wt,Wu,Wv,Ww,Wx,Wy,Wz,Xa,Xb,Xc,Xd,Xe,Xf,Xg,Xh,Xi,Xj,Xk,Xl,Xm,Xn,Xo,Xp,Xq,Xr,cN,cP,cO,cL,cQ,cR,List.getElem?_cons_zero,List.getElem?_cons_succ,cM,cT,cU,cV,cK,Nat.reduceAdd,Nat.reduceLT,Nat.reduceLeDiff,decide_true,decide_false,Bool.true_and,Bool.and_true,cW,cJ,Option.some.injEq,Xs,Xt,Xu,Xv]
  refine hcon _ _ fun s' O' g1 g2 g3=>?_
  simp only[Qa,Qb,Qc,Qd,Qe,Qf,Qg,Qh,Qi,Qj,Qk,Ql,Qm,Qn,true_and,and_true,Qo,Qp,Qq,Qr,Qs,Qt,Qu,Qv,Qw,Qx,Qy,Qz,Ra,Rb,Rc,Rd,Re,Rf,Rg,Rh,Ri,Rj,Rk,Rl,Rm,Ya,Yb,Yc,Rn,Ro,Xv,Yd,Ye,Rq,Rs,Rt,Ru,Rw,Rx,Ry]
  exact hend _ s' O' g1 g2 g3
 ·simp only[Zc,JX,JY,JZ,LK,Nn,QQ,VL,Qa,Qb,Qc,Qd,Qe,Qf,Qg,Qh,Qi,Qj,Qk,Ql,Qm,Qn,true_and,and_true,Qo,Qp,Qq,Qr,Qs,Qt,Qu,Qv,Qw,Qx,Qy,Qz,Ra,Rb,Rc,Rd,Re,Rf,Rg,Rh,Ri,Rj,Rk,Rl,Rm,Ya,Yb,Yc,Rn,Ro,Xv,Yd,Ye,Rq,Rs,Rt,Ru,Rw,Rx,Ry,hs,CV,Bf,Kb,OF,OG,Rw,Int.reduceEq,Rz,Wa,Wb,Wc,Wd,We,Wf,Wg,Wh,Wi,Wj,Wl,Wm,Wn,Wp,Wq,Wr,Ws,Wt,Wu,Wv,Ww,Wx,Wy,Wz,Xa,Xb,Xc,Xd,Xe,Xf,Xg,Xh,Xi,Xj,Xk,Xl,Xm,Xn,Xo,Xp,Xq,Xr,cN,cP,cO,cL,cQ,cR,List.getElem?_cons_zero,List.getElem?_cons_succ,cM,cT,cU,cV,cK,Nat.reduceAdd,Nat.reduceLT,Nat.reduceLeDiff,decide_true,decide_false,Bool.true_and,Bool.and_true,cW,cJ,Option.some.injEq,Xs,Xt,Xu,Xv]
  refine hsel _ _ fun s' O' g1 _ g2 g3=>?_
  simp only[Qa,Qb,Qc,Qd,Qe,Qf,Qg,Qh,Qi,Qj,Qk,Ql,Qm,Qn,true_and,and_true,Qo,Qp,Qq,Qr,Qs,Qt,Qu,Qv,Qw,Qx,Qy,Qz,Ra,Rb,Rc,Rd,Re,Rf,Rg,Rh,Ri,Rj,Rk,Rl,Rm,Ya,Yb,Yc,Rn,Ro,Xv,Yd,Ye,Rq,Rs,Rt,Ru,Rw,Rx,Ry]
  exact hend _ s' O' g1 g2 g3
 ·simp only[Zc,JX,JY,JZ,LK,Nn,QQ,QP,Qa,Qb,Qc,Qd,Qe,Qf,Qg,Qh,Qi,Qj,Qk,Ql,Qm,Qn,true_and,and_true,Qo,Qp,Qq,Qr,Qs,Qt,Qu,Qv,Qw,Qx,Qy,Qz,Ra,Rb,Rc,Rd,Re,Rf,Rg,Rh,Ri,Rj,Rk,Rl,Rm,Ya,Yb,Yc,Rn,Ro,Xv,Yd,Ye,Rq,Rs,Rt,Ru,Rw,Rx,Ry,hs,CV,Bf,Kb,OF,OG,X6,Rw,Int.reduceEq,Rz,Wa,Wb,Wc,Wd,We,Wf,Wg,Wh,Wi,Wj,Wl,Wm,Wn,Wp,Wq,Wr,Ws,Wt,Wu,Wv,Ww,Wx,Wy,Wz,Xa,Xb,Xc,Xd,Xe,Xf,Xg,Xh,Xi,Xj,Xk,Xl,Xm,Xn,Xo,Xp,Xq,Xr,cN,cP,cO,cL,cQ,cR,List.getElem?_cons_zero,List.getElem?_cons_succ,cM,cT,cU,cV,cK,Nat.reduceAdd,Nat.reduceLT,Nat.reduceLeDiff,decide_true,decide_false,Bool.true_and,Bool.and_true,cW,cJ,Option.some.injEq,Xs,Xt,Xu,Xv]
  refine hupd _ _ fun s' O' g1 _ g2 g3=>?_
  simp only[Qa,Qb,Qc,Qd,Qe,Qf,Qg,Qh,Qi,Qj,Qk,Ql,Qm,Qn,true_and,and_true,Qo,Qp,Qq,Qr,Qs,Qt,Qu,Qv,Qw,Qx,Qy,Qz,Ra,Rb,Rc,Rd,Re,Rf,Rg,Rh,Ri,Rj,Rk,Rl,Rm,Ya,Yb,Yc,Rn,Ro,Xv,Yd,Ye,Rq,Rs,Rt,Ru,Rw,Rx,Ry]
  exact hend _ s' O' g1 g2 g3
structure RT where
 kind:Int
 id:Int
 con:Nat
 kids:List Int
 kv:AV
def RT.cells(t:RT):List AV:=[iv t.kind,iv t.id]++(Tm.con t.con).cells++[t.kv]
def FG(T:List RT):List AV:=T.flatMap RT.cells
def Gv(s:AD)(O Q:List Nat)(t:RT):Prop:=
 (t.kids=[]∧t.kv=.slice none 0 (some 0))∨∃j,t.kv=.slice (some (j,0)) t.kids.length none∧j∈O∧j ∉ Q∧BF (s.heap.get j) 0 t.kids.length=some (BP t.kids)
structure Nf(s:AD)(q:Nat)(T:List RT)(O:List Nat):Prop where
 ex:∃tv OT,s.heap.get q=some (R 80 0 false [tv])∧C2 122 10 s tv T.length (FG T) OT∧(∀t∈T,t.con<11∧Gv s O (q::OT) t)∧(∀j∈q::OT,j∈O)∧q ∉ OT
 low:∀ (i:Nat) (t:RT),T[i]? = some t→∀k∈t.kids,0≤k∧k<(i:Int)
 lt:∀j∈O,j<s.next
theorem Gv.frame{s s':AD}{O Q:List Nat}{t:RT}(h:Gv s O Q t)(k:∀j∈O,s'.heap.get j=s.heap.get j):Gv s' O Q t:=by
 rcases h with h | ⟨j,h1,h2,h3,h4⟩
 ·exact .inl h
 ·exact .inr ⟨j,h1,h2,h3,by rw[k j h2];exact h4⟩
theorem Nf.frame{s s':AD}{q:Nat}{T:List RT}{O:List Nat}(h:Nf s q T O)(hn:s.next≤s'.next)(k:∀j∈O,s'.heap.get j=s.heap.get j):Nf s' q T O:=by
 obtain⟨tv,OT,h1,h2,h3,h4,h5⟩:=h.ex
 refine⟨⟨tv,OT,by rw[k q (h4 q (by simp))];exact h1,h2.frame hn fun j hj=>k j (h4 j (by simp[hj])),fun t ht=>⟨(h3 t ht).1,(h3 t ht).2.frame k⟩,h4,h5⟩,h.low,fun j hj=>cg (h.lt j hj) hn⟩
theorem Nf.old{s s':AD}{q:Nat}{T:List RT}{O:List Nat}(h:Nf s q T O)(k:BK s.next s s'):Nf s' q T O:=h.frame k.1 fun j hj=>k.2 j (h.lt j hj)
theorem Gv.rd{s:AD}{O Q:List Nat}{t:RT}(h:Gv s O Q t)(hlt:∀j∈O,j<s.next):Ad s t.kv t.kids:=by
 rcases h with⟨h1,h2⟩ | ⟨j,h1,h2,h3,h4⟩
 ·exact .inl ⟨h1,h2⟩
 ·exact .inr ⟨j,0,none,h1,hlt j h2,h4⟩
theorem RT.len{t:RT}(h:t.con<11):t.cells.length=10:=by
 obtain⟨tag,c1,c2,c3,c5,c6,hc,_⟩:=BL _ (dT h (by omega))
 simp[RT.cells,hc]
theorem HJ:∀ {T:List RT},(∀t∈T,t.con<11)→∀ {i:Nat}{t:RT},T[i]? = some t→((FG T).drop (i * 10)).take 10=t.cells∧i * 10+10≤(FG T).length
 | [],_,i,t,h=>by simp at h
 | u::T,hT,i,t,h=>by
  have hl:=RT.len (hT u ck)
  have he:FG (u::T)=u.cells++FG T:=rfl
  rw[he]
  cases i with
  | zero =>
   simp at h
   subst h
   rw[Nat.zero_mul,cM,dv (by omega),dD (by omega)]
   exact⟨rfl,by simp;omega⟩
  | succ i =>
   obtain⟨h1,h2⟩:=HJ (fun x hx=>hT x (cn _ hx)) (i:=i) (t:=t) (by simpa using h)
   rw[show(i+1) * 10=u.cells.length+i * 10 from by omega,List.drop_append,List.drop_of_length_le (show u.cells.length≤u.cells.length+i * 10 by omega),cL,show u.cells.length+i * 10 - u.cells.length=i * 10 from by omega]
   exact⟨h1,by simp;omega⟩
section
variable{E:Bb}(hE:Ah E){s:AD}{q:Nat}{T:List RT}{O:List Nat}(h:Nf s q T O){K:AV→AD→Prop}
include hE h
theorem ZQ{x:Int}(hK:K (.bool (H9 T.length x)) s):WF E 126 [.ptr (some (q,0)),iv x] K s:=by
 obtain⟨tv,OT,hobj,hbuf,_⟩:=h.ex
 obtain⟨a,c,rfl,_⟩:=hbuf.slice
 refine hE.go T5 (by decide) rfl ?_
 unfold H9 at hK
 by_cases h0:0≤x
 ·have hd:decide (0≤x)=true:=decide_eq_true h0
  rw[hd,Bool.true_and]at hK
  simp only[YJ,Me,Mf,Qa,Qb,Qc,Qd,Qe,Qf,Qg,Qh,Qi,Qj,Qk,Ql,Qm,Qn,true_and,and_true,Qo,Qp,Qq,Qr,Qs,Qt,Qu,Qv,Qw,Qx,Qy,Qz,Ra,Rb,Rc,Rd,Re,Rf,Rg,Rh,Ri,Rj,Rk,Rl,Rm,Ya,Yb,Yc,Rn,Ro,Xv,Yd,Ye,Rq,Rs,Rt,Ru,Rw,Rx,Ry,Ru,Rq,hd,hobj,Cf,G0,Af Tryz.underlying78,Rz,Wa,Wb,Wc,Wd,We,Wf,Wg,Wh,Wi,Wj,Wl,Wm,Wn,Wp,Wq,Wr,Ws,Wt,Wu,Wv,Ww,Wx,Wy,Wz,Xa,Xb,Xc,Xd,Xe,Xf,Xg,Xh,Xi,Xj,Xk,Xl,Xm,Xn,Xo,Xp,Xq,Xr,cN,cP,cO,cL,cQ,cR,List.getElem?_cons_zero,List.getElem?_cons_succ,cM,cT,cU,cV,cK,Nat.reduceAdd,Nat.reduceLT,Nat.reduceLeDiff,decide_true,decide_false,Bool.true_and,Bool.and_true,cW,cJ,Option.some.injEq,Xs,Xt,Xu,Xv]
  exact hK
 ·have hd:decide (0≤x)=false:=decide_eq_false h0
  rw[hd,Bool.false_and]at hK
  simp only[YJ,Me,Mf,Qa,Qb,Qc,Qd,Qe,Qf,Qg,Qh,Qi,Qj,Qk,Ql,Qm,Qn,true_and,and_true,Qo,Qp,Qq,Qr,Qs,Qt,Qu,Qv,Qw,Qx,Qy,Qz,Ra,Rb,Rc,Rd,Re,Rf,Rg,Rh,Ri,Rj,Rk,Rl,Rm,Ya,Yb,Yc,Rn,Ro,Xv,Yd,Ye,Rq,Rs,Rt,Ru,Rw,Rx,Ry,Ru,Rq,hd,hobj,Cf,G0,Af Tryz.underlying78,Rz,Wa,Wb,Wc,Wd,We,Wf,Wg,Wh,Wi,Wj,Wl,Wm,Wn,Wp,Wq,Wr,Ws,Wt,Wu,Wv,Ww,Wx,Wy,Wz,Xa,Xb,Xc,Xd,Xe,Xf,Xg,Xh,Xi,Xj,Xk,Xl,Xm,Xn,Xo,Xp,Xq,Xr,cN,cP,cO,cL,cQ,cR,List.getElem?_cons_zero,List.getElem?_cons_succ,cM,cT,cU,cV,cK,Nat.reduceAdd,Nat.reduceLT,Nat.reduceLeDiff,decide_true,decide_false,Bool.true_and,Bool.and_true,cW,cJ,Option.some.injEq,Xs,Xt,Xu,Xv]
  exact hK
theorem ZO{x:Int}{t:RT}(hx:0≤x)(ht:T[x.toNat]? = some t)(hK:∀s',BK s.next s s'→K (.agg t.cells) s'):WF E 107 [.ptr (some (q,0)),iv x] K s:=by
 obtain⟨tv,OT,hobj,hbuf,hk,hO,_⟩:=h.ex
 have hT:∀t∈T,t.con<11:=fun t ht=>(hk t ht).1
 have hxl:x.toNat<T.length:=by
  rcases cZ x.toNat T.length with h' | h'
  ·exact h'
  ·rw[cm h']at ht;cases ht
 have hin:H9 T.length x=true:=by simp[H9];omega
 obtain⟨hat,hle⟩:=HJ hT ht
 obtain⟨tag,c1,c2,c3,c5,c6,hc,_,d1,d2,d3,d5,d6⟩:=BL _ (dT (hT t (cu ht)) (by omega))
 have hcl:t.cells=[iv t.kind,iv t.id,iv tag,c1,c2,c3,.slice none 0 (some 0),c5,c6,t.kv]:=by
  show [iv t.kind,iv t.id]++(Tm.con t.con).cells++_=_
  rw[hc];rfl
 have hkv:t.kv.isCell=true:=by
  rcases(hk t (cu ht)).2 with⟨_,e⟩ | ⟨_,e,_⟩<;>rw[e]<;>rfl
 rcases hbuf.row with⟨_,h0,_⟩ | ⟨j,r,rfl,hjO,hjr,hh⟩
 ·omega
 have hln:BF (s.heap.get j) (x.toNat * 10) 10=some t.cells:=by rw[hjr,ES hh hle,hat]
 rw[hcl]at hln hK
 have hql:=h.lt q (hO q (by simp))
 have hjl:=h.lt j (hO j (by simp[hjO]))
 have hidx:AK Tryz.prog 78 (.slice (some (j,0)) T.length none) (iv x)=some (.ptr (some (j,x.toNat * 10))):=by
  have:=AU (P:=Tryz.prog) (i:=j) (o:=0) (cap:=none) (k:=x.toNat) (len:=T.length) Tryz.underlying78 JD hxl
  rw[show((x.toNat:Nat):Int)=x from by omega,cK]at this
  exact this
 have his:=fun os (K:AV→AD→Prop)=>ZQ (K:=K) hE (h.old (AM (os:=os))) (x:=x)
 rw[hin]at his
 refine hE.go Tz (by decide) rfl ?_
 generalize hs:s.next=b at hK hql hjl
 have hs0:s=ext s []:=(Ac s).symm
 have hfin:∀os,K (.agg [iv t.kind,iv t.id,iv tag,c1,c2,c3,.slice none 0 (some 0),c5,c6,t.kv]) (ext s os):=fun os=>hK _ (by rw[← hs];exact AM)
 rw[hs0]
 simp only[Zv,QH,QI,YF,hs,Qa,Qb,Qc,Qd,Qe,Qf,Qg,Qh,Qi,Qj,Qk,Ql,Qm,Qn,true_and,and_true,Qo,Qp,Qq,Qr,Qs,Qt,Qu,Qv,Qw,Qx,Qy,Qz,Ra,Rb,Rc,Rd,Re,Rf,Rg,Rh,Ri,Rj,Rk,Rl,Rm,Ya,Yb,Yc,Rn,Ro,Xv,Yd,Ye,Rq,Rs,Rt,Ru,Rw,Rx,Ry,Rz,Wa,Wb,Wc,Wd,We,Wf,Wg,Wh,Wi,Wj,Wl,Wm,Wn,Wp,Wq,Wr,Ws,Wt,Wu,Wv,Ww,Wx,Wy,Wz,Xa,Xb,Xc,Xd,Xe,Xf,Xg,Xh,Xi,Xj,Xk,Xl,Xm,Xn,Xo,Xp,Xq,Xr,cN,cP,cO,cL,cQ,cR,List.getElem?_cons_zero,List.getElem?_cons_succ,cM,cT,cU,cV,cK,Nat.reduceAdd,Nat.reduceLT,Nat.reduceLeDiff,decide_true,decide_false,Bool.true_and,Bool.and_true,cW,cJ,Option.some.injEq,Xs,Xt,Xu,Xv]
 refine his _ _ ?_
 simp only[QJ,Qa,Qb,Qc,Qd,Qe,Qf,Qg,Qh,Qi,Qj,Qk,Ql,Qm,Qn,true_and,and_true,Qo,Qp,Qq,Qr,Qs,Qt,Qu,Qv,Qw,Qx,Qy,Qz,Ra,Rb,Rc,Rd,Re,Rf,Rg,Rh,Ri,Rj,Rk,Rl,Rm,Ya,Yb,Yc,Rn,Ro,Xv,Yd,Ye,Rq,Rs,Rt,Ru,Rw,Rx,Ry,hs,Ry,Bool.not_true,hql,hjl,hobj,Cf,G0,Nj,JD,hidx,hln,An,d1,d2,d3,d5,d6,hkv,Rz,Wa,Wb,Wc,Wd,We,Wf,Wg,Wh,Wi,Wj,Wl,Wm,Wn,Wp,Wq,Wr,Ws,Wt,Wu,Wv,Ww,Wx,Wy,Wz,Xa,Xb,Xc,Xd,Xe,Xf,Xg,Xh,Xi,Xj,Xk,Xl,Xm,Xn,Xo,Xp,Xq,Xr,cN,cP,cO,cL,cQ,cR,List.getElem?_cons_zero,List.getElem?_cons_succ,cM,cT,cU,cV,cK,Nat.reduceAdd,Nat.reduceLT,Nat.reduceLeDiff,decide_true,decide_false,Bool.true_and,Bool.and_true,cW,cJ,Option.some.injEq,Xs,Xt,Xu,Xv]
 exact hfin _
end
def OY(i j:Nat):Bool:=match C3 C6 127 [.agg (Tm.con i).cells,.agg (Tm.con j).cells]with
 | some (.bool b)=>b == decide (i=j)
 | _=>false
theorem TV:((List.range 11).all fun i=>(List.range 11).all fun j=>OY i j)=true:=by kernel_rfl
theorem Pw{i j:Nat}(hi:i<11)(hj:j<11):C3 C6 127 [.agg (Tm.con i).cells,.agg (Tm.con j).cells]=some (.bool (decide (i=j))):=by
  have h:=List.all_eq_true.1 (List.all_eq_true.1 TV i (List.mem_range.2 hi)) j (List.mem_range.2 hj)
  unfold OY at h
  split at h
  · rename_i b hb
    rw[hb,eq_of_beq h]
  · cases h
theorem Pv{E:Bb}(hE:Ah E){s:AD}(hg:Co s 1 BC=true){i j:Nat}(hi:i<11)(hj:j<11){K:AV→AD→Prop}(hK:K (.bool (decide (i=j))) s):WF E 127 [.agg (Tm.con i).cells,.agg (Tm.con j).cells] K s:=by
 refine WF.native (hE.tab _ _ _ (.bool (decide (i=j)),s) ?_) hK
 have h2:Cn 127 [.agg (Tm.con i).cells,.agg (Tm.con j).cells] s=(C3 C6 127 [.agg (Tm.con i).cells,.agg (Tm.con j).cells]).bind fun r=>AH (Co s 1 BC) (some (r,s)):=rfl
 unfold HE
 rw[h2,Pw hi hj,Option.bind_some,hg]
 rfl
def MC(i:Nat):Bool:=match C3 C6 109 [.agg (Tm.con i).cells]with
 | some (.bool b)=>b
 | _=>false
theorem Pg:((List.range 11).all MC)=true:=by kernel_rfl
theorem NK{i:Nat}(hi:i<11):C3 C6 109 [.agg (Tm.con i).cells]=some (.bool true):=by
  have h:=List.all_eq_true.1 Pg i (List.mem_range.2 hi)
  unfold MC at h
  split at h
  · rename_i b hb
    rw[hb,h]
  · cases h
theorem MG{E:Bb}(hE:Ah E){s:AD}(hg:Co s 1 BC=true){i:Nat}(hi:i<11){K:AV→AD→Prop}(hK:K (.bool true) s):WF E 109 [.agg (Tm.con i).cells] K s:=by
 refine WF.native (hE.tab _ _ _ (.bool true,s) ?_) hK
 have h1:=NK hi
 have h2:Cn 109 [.agg (Tm.con i).cells] s=(C3 C6 109 [.agg (Tm.con i).cells]).bind fun r=>AH (Co s 1 BC) (some (r,s)):=rfl
 unfold HE
 rw[h2,h1,Option.bind_some,hg]
 rfl
theorem Na{E:Bb}(hE:Ah E){s:AD}(hg:Co s 1 BC=true){K:AV→AD→Prop}(hK:K (.bool true) s):WF E 7 [] K s:=by
 refine WF.native (hE.tab _ _ _ (.bool true,s) ?_) hK
 have h1:C3 C6 7 []=some (.bool true):=by kernel_rfl
 have h2:Cn 7 [] s=(C3 C6 7 []).bind fun r=>AH (Co s 1 BC) (some (r,s)):=rfl
 unfold HE
 rw[h2,h1,Option.bind_some,hg]
 rfl
theorem RT.ten{t:RT}(h:t.con<11):∃c0 c1 c2 c3 c4 c5 c6,(Tm.con t.con).cells=[c0,c1,c2,c3,c4,c5,c6]∧t.cells=[iv t.kind,iv t.id,c0,c1,c2,c3,c4,c5,c6,t.kv]:=by
 obtain⟨tag,c1,c2,c3,c5,c6,hc,_⟩:=BL _ (dT h (by omega:11<13))
 refine⟨_,_,_,_,_,_,_,hc,?_⟩
 show [iv t.kind,iv t.id]++(Tm.con t.con).cells++_=_
 rw[hc];rfl
set_option maxRecDepth 20000 in
theorem QA       {E : Bb}  (hE : Ah    E) {s : AD}  (hg : Co   s 1 BC    = true) (h1 : 1 < s.next) {t u : RT} (ht : t.con < 11) (hu : u.con < 11) (rt : Ad     s t.kv t.kids) (ru : Ad     s u.kv u.kids) (hl : t.kids.length ≤ 1000) {K : AV → AD  → Prop}
    (hK:∀b s',BK s.next s s'→K (.bool b) s'):WF E 108 [.agg t.cells,.agg u.cells] K s:=by
  obtain⟨c0,c1,c2,c3,c4,c5,c6,hc,hct⟩:=t.ten ht
  obtain⟨e0,e1,e2,e3,e4,e5,e6,he,heu⟩:=u.ten hu
  rw[hct,heu]
  have hsame:=fun os (K:AV→AD→Prop)=>Pv (K:=K) hE (s:=ext s os) (by rw[BT (Wh h1)];exact hg) ht hu
  rw[hc,he]at hsame
  have lt:=rt.len
  have lu:=ru.len
  refine hE.go T0 (by decide) rfl ?_
  have hend:∀os b,K (.bool b) (ext s os):=fun os b=>hK b _ AM
  generalize hs:s.next=b
  have hs0:s=ext s []:=(Ac s).symm
  rw[hs0]
  by_cases hk:t.kind=u.kind
  · have dk : decide (t.kind ≠ u.kind) = false := by simp [hk]
    by_cases hi:t.id=u.id
    · have di : decide (t.id ≠ u.id) = false := by simp [hi]
      simp only[Tu,KO,KP,Qa,Qb,Qc,Qd,Qe,Qf,Qg,Qh,Qi,Qj,Qk,Ql,Qm,Qn,true_and,and_true,Qo,Qp,Qq,Qr,Qs,Qt,Qu,Qv,Qw,Qx,Qy,Qz,Ra,Rb,Rc,Rd,Re,Rf,Rg,Rh,Ri,Rj,Rk,Rl,Rm,Ya,Yb,Yc,Rn,Ro,Xv,Yd,Ye,Rq,Rs,Rt,Ru,Rw,Rx,Ry,hs,Rx,dk,di,CV,II,H0,Ka,OC,UB,Do,Rz,Wa,Wb,Wc,Wd,We,Wf,Wg,Wh,Wi,Wj,Wl,Wm,Wn,Wp,Wq,Wr,Ws,Wt,Wu,Wv,Ww,Wx,Wy,Wz,Xa,Xb,Xc,Xd,Xe,Xf,Xg,Xh,Xi,Xj,Xk,Xl,Xm,Xn,Xo,Xp,Xq,Xr,cN,cP,cO,cL,cQ,cR,List.getElem?_cons_zero,List.getElem?_cons_succ,cM,cT,cU,cV,cK,Nat.reduceAdd,Nat.reduceLT,Nat.reduceLeDiff,decide_true,decide_false,Bool.true_and,Bool.and_true,cW,cJ,Option.some.injEq,Xs,Xt,Xu,Xv]
      refine hsame _ _ ?_
      by_cases hcn:t.con=u.con
      · have dc : decide (t.con = u.con) = true := decide_eq_true hcn
        by_cases hln:t.kids.length=u.kids.length
        · have dl:decide ((t.kids.length:Int)≠(u.kids.length:Int))=false:=by simp[hln]
          simp only[dc,QK,Qa,Qb,Qc,Qd,Qe,Qf,Qg,Qh,Qi,Qj,Qk,Ql,Qm,Qn,true_and,and_true,Qo,Qp,Qq,Qr,Qs,Qt,Qu,Qv,Qw,Qx,Qy,Qz,Ra,Rb,Rc,Rd,Re,Rf,Rg,Rh,Ri,Rj,Rk,Rl,Rm,Ya,Yb,Yc,Rn,Ro,Xv,Yd,Ye,Rq,Rs,Rt,Ru,Rw,Rx,Ry,hs,Ry,Bool.not_true,Fb,Do,lt,lu,Rx,dl,Rz,Wa,Wb,Wc,Wd,We,Wf,Wg,Wh,Wi,Wj,Wl,Wm,Wn,Wp,Wq,Wr,Ws,Wt,Wu,Wv,Ww,Wx,Wy,Wz,Xa,Xb,Xc,Xd,Xe,Xf,Xg,Xh,Xi,Xj,Xk,Xl,Xm,Xn,Xo,Xp,Xq,Xr,cN,cP,cO,cL,cQ,cR,List.getElem?_cons_zero,List.getElem?_cons_succ,cM,cT,cU,cV,cK,Nat.reduceAdd,Nat.reduceLT,Nat.reduceLeDiff,decide_true,decide_false,Bool.true_and,Bool.and_true,cW,cJ,Option.some.injEq,Xs,Xt,Xu,Xv]
          have hgen:∀os,∃s2,s2=ext s os:=fun os=>⟨_,rfl⟩
          have key:∀ (m i:Nat) (a7 a8:AV),m+i=t.kids.length →
              WC E none (AW.loop G1) (Ab 0 (Hy (fun x x_1 x_2=>Qb E Mc (fun v s'=>JO (B5 s' x_1) fun s'=>K (Iu v 4) s') [] x x_2) (Ends Tryz.prog [(CX.var 4,none)] K)))
                [.agg [iv t.kind,iv t.id,c0,c1,c2,c3,c4,c5,c6,t.kv],.agg [iv u.kind,iv u.id,e0,e1,e2,e3,e4,e5,e6,u.kv],.ptr (some (nid b 0,0)),.ptr (some (nid b 1,0)),.bool false,iv (i:Int),.bool false,a7,a8] []
                (ext s [R 122 0 false [iv t.kind,iv t.id,c0,c1,c2,c3,c4,c5,c6,t.kv],R 122 0 false [iv u.kind,iv u.id,e0,e1,e2,e3,e4,e5,e6,u.kv]]):=by
            intro m
            induction m with
            | zero =>
              intro i a7 a8 hi2
              refine WC.loop' ?_
              have hlt:¬ ((i:Int)<(t.kids.length:Int)):=by omega
              simp only[G1,KQ,Qa,Qb,Qc,Qd,Qe,Qf,Qg,Qh,Qi,Qj,Qk,Ql,Qm,Qn,true_and,and_true,Qo,Qp,Qq,Qr,Qs,Qt,Qu,Qv,Qw,Qx,Qy,Qz,Ra,Rb,Rc,Rd,Re,Rf,Rg,Rh,Ri,Rj,Rk,Rl,Rm,Ya,Yb,Yc,Rn,Ro,Xv,Yd,Ye,Rq,Rs,Rt,Ru,Rw,Rx,Ry,hs,Fb,Do,lt,Rq,hlt,decide_false,Rz,Wa,Wb,Wc,Wd,We,Wf,Wg,Wh,Wi,Wj,Wl,Wm,Wn,Wp,Wq,Wr,Ws,Wt,Wu,Wv,Ww,Wx,Wy,Wz,Xa,Xb,Xc,Xd,Xe,Xf,Xg,Xh,Xi,Xj,Xk,Xl,Xm,Xn,Xo,Xp,Xq,Xr,cN,cP,cO,cL,cQ,cR,List.getElem?_cons_zero,List.getElem?_cons_succ,cM,cT,cU,cV,cK,Nat.reduceAdd,Nat.reduceLT,Nat.reduceLeDiff,decide_true,decide_false,Bool.true_and,Bool.and_true,cW,cJ,Option.some.injEq,Xs,Xt,Xu,Xv]
              rw[if_pos trivial]
              simp only[Mc,Qa,Qb,Qc,Qd,Qe,Qf,Qg,Qh,Qi,Qj,Qk,Ql,Qm,Qn,true_and,and_true,Qo,Qp,Qq,Qr,Qs,Qt,Qu,Qv,Qw,Qx,Qy,Qz,Ra,Rb,Rc,Rd,Re,Rf,Rg,Rh,Ri,Rj,Rk,Rl,Rm,Ya,Yb,Yc,Rn,Ro,Xv,Yd,Ye,Rq,Rs,Rt,Ru,Rw,Rx,Ry]
              exact hend _ _
            | succ m ih =>
              intro i a7 a8 hi2
              refine WC.loop' ?_
              obtain⟨W,hW⟩:∃W,W=AW.loop G1:=⟨_,rfl⟩
              rw[← hW]
              have hlt:((i:Int)<(t.kids.length:Int)):=by omega
              have hadd:i64 ((i:Int)+1):=by unfold i64;omega
              have hit:i<t.kids.length:=by omega
              have hiu:i<u.kids.length:=by omega
              obtain⟨j,q,cap,hv,hj,hld⟩:=rt.at (k:=i) (cY hit)
              obtain⟨j2,q2,cap2,hv2,hj2,hld2⟩:=ru.at (k:=i) (cY hiu)
              rw[hs]at hj hj2
              have hih:=ih (i+1) (.bool true) (.bool false) (by omega)
              rw[← hW,show((i+1:Nat):Int)=(i:Int)+1 from by omega,hv,hv2]at hih
              rw[hv]at lt
              by_cases hne:t.kids[i]=u.kids[i]
              · have dn:decide (t.kids[i]≠u.kids[i])=false:=by simp[hne]
                simp only[G1,KQ,Mb,QM,hv,hv2,Qa,Qb,Qc,Qd,Qe,Qf,Qg,Qh,Qi,Qj,Qk,Ql,Qm,Qn,true_and,and_true,Qo,Qp,Qq,Qr,Qs,Qt,Qu,Qv,Qw,Qx,Qy,Qz,Ra,Rb,Rc,Rd,Re,Rf,Rg,Rh,Ri,Rj,Rk,Rl,Rm,Ya,Yb,Yc,Rn,Ro,Xv,Yd,Ye,Rq,Rs,Rt,Ru,Rw,Rx,Ry,hs,Fb,CV,Do,lt,Rq,Rx,hlt,decide_true,AU Tryz.underlying27 Dt hit,AU Tryz.underlying27 Dt hiu,ct,hj,hj2,hld,hld2,dn,A0 _ _ _ _ hadd,Rz,Wa,Wb,Wc,Wd,We,Wf,Wg,Wh,Wi,Wj,Wl,Wm,Wn,Wp,Wq,Wr,Ws,Wt,Wu,Wv,Ww,Wx,Wy,Wz,Xa,Xb,Xc,Xd,Xe,Xf,Xg,Xh,Xi,Xj,Xk,Xl,Xm,Xn,Xo,Xp,Xq,Xr,cN,cP,cO,cL,cQ,cR,List.getElem?_cons_zero,List.getElem?_cons_succ,cM,cT,cU,cV,cK,Nat.reduceAdd,Nat.reduceLT,Nat.reduceLeDiff,decide_true,decide_false,Bool.true_and,Bool.and_true,cW,cJ,Option.some.injEq,Xs,Xt,Xu,Xv]
                exact hih
              · have dn:decide (t.kids[i]≠u.kids[i])=true:=by simp[hne]
                simp only[G1,KQ,Mb,QL,hv,hv2,Qa,Qb,Qc,Qd,Qe,Qf,Qg,Qh,Qi,Qj,Qk,Ql,Qm,Qn,true_and,and_true,Qo,Qp,Qq,Qr,Qs,Qt,Qu,Qv,Qw,Qx,Qy,Qz,Ra,Rb,Rc,Rd,Re,Rf,Rg,Rh,Ri,Rj,Rk,Rl,Rm,Ya,Yb,Yc,Rn,Ro,Xv,Yd,Ye,Rq,Rs,Rt,Ru,Rw,Rx,Ry,hs,Fb,CV,Do,lt,Rq,Rx,hlt,decide_true,AU Tryz.underlying27 Dt hit,AU Tryz.underlying27 Dt hiu,ct,hj,hj2,hld,hld2,dn,Rz,Wa,Wb,Wc,Wd,We,Wf,Wg,Wh,Wi,Wj,Wl,Wm,Wn,Wp,Wq,Wr,Ws,Wt,Wu,Wv,Ww,Wx,Wy,Wz,Xa,Xb,Xc,Xd,Xe,Xf,Xg,Xh,Xi,Xj,Xk,Xl,Xm,Xn,Xo,Xp,Xq,Xr,cN,cP,cO,cL,cQ,cR,List.getElem?_cons_zero,List.getElem?_cons_succ,cM,cT,cU,cV,cK,Nat.reduceAdd,Nat.reduceLT,Nat.reduceLeDiff,decide_true,decide_false,Bool.true_and,Bool.and_true,cW,cJ,Option.some.injEq,Xs,Xt,Xu,Xv]
                exact hend _ _
          exact key t.kids.length 0 _ _ (by omega)
        · have dl:decide ((t.kids.length:Int)≠(u.kids.length:Int))=true:=by simp;omega
          simp only[dc,IM,Qa,Qb,Qc,Qd,Qe,Qf,Qg,Qh,Qi,Qj,Qk,Ql,Qm,Qn,true_and,and_true,Qo,Qp,Qq,Qr,Qs,Qt,Qu,Qv,Qw,Qx,Qy,Qz,Ra,Rb,Rc,Rd,Re,Rf,Rg,Rh,Ri,Rj,Rk,Rl,Rm,Ya,Yb,Yc,Rn,Ro,Xv,Yd,Ye,Rq,Rs,Rt,Ru,Rw,Rx,Ry,hs,Ry,Bool.not_true,Fb,Do,lt,lu,Rx,dl,Rz,Wa,Wb,Wc,Wd,We,Wf,Wg,Wh,Wi,Wj,Wl,Wm,Wn,Wp,Wq,Wr,Ws,Wt,Wu,Wv,Ww,Wx,Wy,Wz,Xa,Xb,Xc,Xd,Xe,Xf,Xg,Xh,Xi,Xj,Xk,Xl,Xm,Xn,Xo,Xp,Xq,Xr,cN,cP,cO,cL,cQ,cR,List.getElem?_cons_zero,List.getElem?_cons_succ,cM,cT,cU,cV,cK,Nat.reduceAdd,Nat.reduceLT,Nat.reduceLeDiff,decide_true,decide_false,Bool.true_and,Bool.and_true,cW,cJ,Option.some.injEq,Xs,Xt,Xu,Xv]
          exact hend _ _
      · have dc:decide (t.con=u.con)=false:=decide_eq_false hcn
        simp only[dc,IM,Qa,Qb,Qc,Qd,Qe,Qf,Qg,Qh,Qi,Qj,Qk,Ql,Qm,Qn,true_and,and_true,Qo,Qp,Qq,Qr,Qs,Qt,Qu,Qv,Qw,Qx,Qy,Qz,Ra,Rb,Rc,Rd,Re,Rf,Rg,Rh,Ri,Rj,Rk,Rl,Rm,Ya,Yb,Yc,Rn,Ro,Xv,Yd,Ye,Rq,Rs,Rt,Ru,Rw,Rx,Ry,hs,Ry,Bool.not_false,Rz,Wa,Wb,Wc,Wd,We,Wf,Wg,Wh,Wi,Wj,Wl,Wm,Wn,Wp,Wq,Wr,Ws,Wt,Wu,Wv,Ww,Wx,Wy,Wz,Xa,Xb,Xc,Xd,Xe,Xf,Xg,Xh,Xi,Xj,Xk,Xl,Xm,Xn,Xo,Xp,Xq,Xr,cN,cP,cO,cL,cQ,cR,List.getElem?_cons_zero,List.getElem?_cons_succ,cM,cT,cU,cV,cK,Nat.reduceAdd,Nat.reduceLT,Nat.reduceLeDiff,decide_true,decide_false,Bool.true_and,Bool.and_true,cW,cJ,Option.some.injEq,Xs,Xt,Xu,Xv]
        exact hend _ _
    · have di:decide (t.id≠u.id)=true:=by simp[hi]
      simp only[Tu,KO,KP,IM,Qa,Qb,Qc,Qd,Qe,Qf,Qg,Qh,Qi,Qj,Qk,Ql,Qm,Qn,true_and,and_true,Qo,Qp,Qq,Qr,Qs,Qt,Qu,Qv,Qw,Qx,Qy,Qz,Ra,Rb,Rc,Rd,Re,Rf,Rg,Rh,Ri,Rj,Rk,Rl,Rm,Ya,Yb,Yc,Rn,Ro,Xv,Yd,Ye,Rq,Rs,Rt,Ru,Rw,Rx,Ry,hs,Rx,dk,di,CV,Ka,OC,Rz,Wa,Wb,Wc,Wd,We,Wf,Wg,Wh,Wi,Wj,Wl,Wm,Wn,Wp,Wq,Wr,Ws,Wt,Wu,Wv,Ww,Wx,Wy,Wz,Xa,Xb,Xc,Xd,Xe,Xf,Xg,Xh,Xi,Xj,Xk,Xl,Xm,Xn,Xo,Xp,Xq,Xr,cN,cP,cO,cL,cQ,cR,List.getElem?_cons_zero,List.getElem?_cons_succ,cM,cT,cU,cV,cK,Nat.reduceAdd,Nat.reduceLT,Nat.reduceLeDiff,decide_true,decide_false,Bool.true_and,Bool.and_true,cW,cJ,Option.some.injEq,Xs,Xt,Xu,Xv]
      exact hend _ _
  · have dk:decide (t.kind≠u.kind)=true:=by simp[hk]
    simp only[Tu,KO,KP,IM,Qa,Qb,Qc,Qd,Qe,Qf,Qg,Qh,Qi,Qj,Qk,Ql,Qm,Qn,true_and,and_true,Qo,Qp,Qq,Qr,Qs,Qt,Qu,Qv,Qw,Qx,Qy,Qz,Ra,Rb,Rc,Rd,Re,Rf,Rg,Rh,Ri,Rj,Rk,Rl,Rm,Ya,Yb,Yc,Rn,Ro,Xv,Yd,Ye,Rq,Rs,Rt,Ru,Rw,Rx,Ry,hs,Rx,dk,CV,Ka,Rz,Wa,Wb,Wc,Wd,We,Wf,Wg,Wh,Wi,Wj,Wl,Wm,Wn,Wp,Wq,Wr,Ws,Wt,Wu,Wv,Ww,Wx,Wy,Wz,Xa,Xb,Xc,Xd,Xe,Xf,Xg,Xh,Xi,Xj,Xk,Xl,Xm,Xn,Xo,Xp,Xq,Xr,cN,cP,cO,cL,cQ,cR,List.getElem?_cons_zero,List.getElem?_cons_succ,cM,cT,cU,cV,cK,Nat.reduceAdd,Nat.reduceLT,Nat.reduceLeDiff,decide_true,decide_false,Bool.true_and,Bool.and_true,cW,cJ,Option.some.injEq,Xs,Xt,Xu,Xv]
    exact hend _ _
set_option maxRecDepth 20000 in
theorem Pt{E:Bb}(hE:Ah E){q:Nat}{T:List RT}{O:List Nat}(hT:T.length≤1000){u:RT}(hu:u.con<11){s0:AD}(h0:Nf s0 q T O)(hg0:Co s0 1 BC=true)(h10:1<s0.next)(hru:Ad s0 u.kv u.kids)(hkl:∀t∈T,t.kids.length≤3){bx:Nat}(hbx:s0.heap.get bx=some (R 122 0 false u.cells))(hbl:bx<s0.next)(a1:AV){Q:Aw→Prop}{marks:List Nat}
  (hfound:∀ (i:Nat) (y5 y6:AV) s',i<T.length→BK s0.next s0 s'→Q ⟨.ret,[.ptr (some (q,0)),a1,.ptr (some (bx,0)),iv (i:Int),iv (i:Int),y5,y6],marks,s'⟩)
  (hnot:∀ (y4 y5 y6:AV) s',BK s0.next s0 s'→Ab 0 Q ⟨.exit 0,[.ptr (some (q,0)),a1,.ptr (some (bx,0)),iv 0,y4,y5,y6],marks,s'⟩):
  ∀ (m i:Nat) (s:AD) (a5 a6:AV),m+i=T.length→BK s0.next s0 s→WC E none (AW.loop LS) (Ab 0 Q) [.ptr (some (q,0)),a1,.ptr (some (bx,0)),iv 0,iv (i:Int),a5,a6] marks s:=by
 obtain⟨c0,c1,c2,c3,c4,c5,c6,hc,huc⟩:=u.ten hu
 intro m
 induction m with
 | zero =>
  intro i s a5 a6 hi ho
  have h:=h0.old ho
  obtain⟨tv,OT,hobj,hbuf,_⟩:=h.ex
  obtain⟨a,c,rfl,_⟩:=hbuf.slice
  refine WC.loop' ?_
  have hlt:¬ ((i:Int)<(T.length:Int)):=by omega
  simp only[LS,RV,Qa,Qb,Qc,Qd,Qe,Qf,Qg,Qh,Qi,Qj,Qk,Ql,Qm,Qn,true_and,and_true,Qo,Qp,Qq,Qr,Qs,Qt,Qu,Qv,Qw,Qx,Qy,Qz,Ra,Rb,Rc,Rd,Re,Rf,Rg,Rh,Ri,Rj,Rk,Rl,Rm,Ya,Yb,Yc,Rn,Ro,Xv,Yd,Ye,Rq,Rs,Rt,Ru,Rw,Rx,Ry,hobj,Cf,G0,Af Tryz.underlying78,Rq,hlt,decide_false,Rz,Wa,Wb,Wc,Wd,We,Wf,Wg,Wh,Wi,Wj,Wl,Wm,Wn,Wp,Wq,Wr,Ws,Wt,Wu,Wv,Ww,Wx,Wy,Wz,Xa,Xb,Xc,Xd,Xe,Xf,Xg,Xh,Xi,Xj,Xk,Xl,Xm,Xn,Xo,Xp,Xq,Xr,cN,cP,cO,cL,cQ,cR,List.getElem?_cons_zero,List.getElem?_cons_succ,cM,cT,cU,cV,cK,Nat.reduceAdd,Nat.reduceLT,Nat.reduceLeDiff,decide_true,decide_false,Bool.true_and,Bool.and_true,cW,cJ,Option.some.injEq,Xs,Xt,Xu,Xv]
  exact hnot _ _ _ _ ho
 | succ m ih =>
  intro i s a5 a6 hi ho
  have h:=h0.old ho
  obtain⟨tv,OT,hobj,hbuf,hk,hO,_⟩:=h.ex
  have hil:i<T.length:=by omega
  have ht:T[i]? = some T[i]:=cY hil
  have htm:T[i]∈T:=dd _
  have hTc:∀t∈T,t.con<11:=fun t ht=>(hk t ht).1
  obtain⟨hat,hle⟩:=HJ hTc ht
  rcases hbuf.row with⟨_,hz,_⟩ | ⟨j,r,rfl,hjO,hjr,hh⟩
  ·omega
  have hln:BF (s.heap.get j) (i * 10) 10=some T[i].cells:=by rw[hjr,ES hh hle,hat]
  have hlt:((i:Int)<(T.length:Int)):=by omega
  have hadd:i64 ((i:Int)+1):=by unfold i64;omega
  have hbx1:s.heap.get bx=some (R 122 0 false u.cells):=by rw[ho.2 bx hbl];exact hbx
  have hlb:BF (some (R 122 0 false u.cells)) 0 10=some u.cells:=by
   rw[Wj (by rw[RT.len hu];exact cJ _),cM,dD (by rw[RT.len hu];exact cJ _)]
  have hal:=fun(K:AV→AD→Prop)=>QA (K:=K) hE (s:=s) (by rw[BT (ho.2 1 h10)];exact hg0) (cg h10 ho.1) (hTc _ htm) hu ((hk _ htm).2.rd h.lt) (hru.old ho) (by have:=hkl _ htm;omega)
  refine WC.loop' ?_
  obtain⟨W,hW⟩:∃W,W=AW.loop LS:=⟨_,rfl⟩
  rw[← hW]
  simp only[LS,RV,XW,Qa,Qb,Qc,Qd,Qe,Qf,Qg,Qh,Qi,Qj,Qk,Ql,Qm,Qn,true_and,and_true,Qo,Qp,Qq,Qr,Qs,Qt,Qu,Qv,Qw,Qx,Qy,Qz,Ra,Rb,Rc,Rd,Re,Rf,Rg,Rh,Ri,Rj,Rk,Rl,Rm,Ya,Yb,Yc,Rn,Ro,Xv,Yd,Ye,Rq,Rs,Rt,Ru,Rw,Rx,Ry,hobj,Cf,G0,Nj,JD,Af Tryz.underlying78,Rq,hlt,decide_true,AU Tryz.underlying78 JD hil,hln,hbx1,hlb,Rz,Wa,Wb,Wc,Wd,We,Wf,Wg,Wh,Wi,Wj,Wl,Wm,Wn,Wp,Wq,Wr,Ws,Wt,Wu,Wv,Ww,Wx,Wy,Wz,Xa,Xb,Xc,Xd,Xe,Xf,Xg,Xh,Xi,Xj,Xk,Xl,Xm,Xn,Xo,Xp,Xq,Xr,cN,cP,cO,cL,cQ,cR,List.getElem?_cons_zero,List.getElem?_cons_succ,cM,cT,cU,cV,cK,Nat.reduceAdd,Nat.reduceLT,Nat.reduceLeDiff,decide_true,decide_false,Bool.true_and,Bool.and_true,cW,cJ,Option.some.injEq,Xs,Xt,Xu,Xv]
  refine hal _ fun b s' ho'=>?_
  have ho2:BK s0.next s0 s':=ho.trans (ho'.mono ho.1)
  cases b with
  | true =>
   simp only[Qa,Qb,Qc,Qd,Qe,Qf,Qg,Qh,Qi,Qj,Qk,Ql,Qm,Qn,true_and,and_true,Qo,Qp,Qq,Qr,Qs,Qt,Qu,Qv,Qw,Qx,Qy,Qz,Ra,Rb,Rc,Rd,Re,Rf,Rg,Rh,Ri,Rj,Rk,Rl,Rm,Ya,Yb,Yc,Rn,Ro,Xv,Yd,Ye,Rq,Rs,Rt,Ru,Rw,Rx,Ry,XX]
   exact hfound i _ _ s' hil ho2
  | false =>
   have:=ih (i+1) s' (.bool true) (.bool false) (by omega) ho2
   rw[← hW,show((i+1:Nat):Int)=(i:Int)+1 from by omega]at this
   simp only[Qa,Qb,Qc,Qd,Qe,Qf,Qg,Qh,Qi,Qj,Qk,Ql,Qm,Qn,true_and,and_true,Qo,Qp,Qq,Qr,Qs,Qt,Qu,Qv,Qw,Qx,Qy,Qz,Ra,Rb,Rc,Rd,Re,Rf,Rg,Rh,Ri,Rj,Rk,Rl,Rm,Ya,Yb,Yc,Rn,Ro,Xv,Yd,Ye,Rq,Rs,Rt,Ru,Rw,Rx,Ry,XY,A0 _ _ _ _ hadd]
   exact this
theorem TI(c0 c1 c2 c3 c4 c5 c6 c7 c8 c9:AV):AY Tryz.prog 78 1 (zipIdx [0] [.agg [c0,c1,c2,c3,c4,c5,c6,c7,c8,c9]])=some (R 122 10 false [c0,c1,c2,c3,c4,c5,c6,c7,c8,c9]):=by kernel_rfl
theorem Uo:B6 Tryz.prog 122 10=true:=by kernel_rfl
theorem Ti:BW Tryz.prog 78=true:=by kernel_rfl
set_option maxRecDepth 20000 in
theorem OX      {E : Bb}  (hE : Ah    E) {s : AD}  {q : Nat} {T : List RT} {O : List Nat} (h : Nf  s q T O) (hg : Co   s 1 BC    = true) (h1 : 1 < s.next) (hT : T.length ≤ 900) (hkl : ∀ t ∈ T, t.kids.length ≤ 3) {u : RT} (hu : u.con < 11) (hul : u.kids.length ≤ 3)
    (hrow:(u.kids=[]∧u.kv=.slice none 0 (some 0))∨∃j,u.kv=.slice (some (j,0)) u.kids.length none∧j<s.next∧j ∉ O∧BF (s.heap.get j) 0 u.kids.length=some (BP u.kids)) (hlow:∀k∈u.kids,0≤k∧k<(T.length:Int)) {K:AV→AD→Prop}
    (hK:∀ (i:Nat) s' O' T',(T'=T∨T'=T++[u])→i<T'.length→Nf s' q T' O'→Bk O s s'→(∀j∈O',j∈O∨s.next≤j∨I9 u.kv=some j)→K (iv (i:Int)) s'):
    WF E 81 [.ptr (some (q,0)),.agg u.cells] K s:=by
  obtain⟨c0,c1,c2,c3,c4,c5,c6,hc,huc⟩:=u.ten hu
  have hru:Ad s u.kv u.kids:=by
    rcases hrow with⟨e1,e2⟩ | ⟨j,e1,e2,e3,e4⟩
    · exact .inl ⟨e1,e2⟩
    · exact .inr ⟨j,0,none,e1,e2,e4⟩
  rw[huc]
  refine hE.go Y1 (by decide) rfl ?_
  have hlt:=h.lt
  have hql:q<s.next:=by obtain⟨_,_,_,_,_,hO,_⟩:=h.ex;exact hlt q (hO q (by simp))
  generalize hs:s.next=b at hql
  have hs0:s=ext s []:=(Ac s).symm
  have hold:BK s.next s (ext s [R 122 0 false u.cells]):=AM
  have hr1:=h.old hold
  have hbx:(ext s [R 122 0 false u.cells]).heap.get (nid b 0)=some (R 122 0 false u.cells):=by rw[Wg hs (by simp)];rfl
  have hnx:(ext s [R 122 0 false u.cells]).next=b+1:=by rw[Wm,hs,AF];rfl
  have hloop:=fun a1 Q marks hf hn m i s' a5 a6=>Pt (Q:=Q) (marks:=marks) hE (by omega) hu hr1 (by rw[BT (Wh h1)];exact hg) (by rw[hnx];omega) (hru.old hold) hkl hbx (by rw[hnx,AF];omega) a1 hf hn m i s' a5 a6
  rw[huc]at hloop
  rw[hs0]
  simp only[cE,XU,XV,Qa,Qb,Qc,Qd,Qe,Qf,Qg,Qh,Qi,Qj,Qk,Ql,Qm,Qn,true_and,and_true,Qo,Qp,Qq,Qr,Qs,Qt,Qu,Qv,Qw,Qx,Qy,Qz,Ra,Rb,Rc,Rd,Re,Rf,Rg,Rh,Ri,Rj,Rk,Rl,Rm,Ya,Yb,Yc,Rn,Ro,Xv,Yd,Ye,Rq,Rs,Rt,Ru,Rw,Rx,Ry,hs,Rz,Wa,Wb,Wc,Wd,We,Wf,Wg,Wh,Wi,Wj,Wl,Wm,Wn,Wp,Wq,Wr,Ws,Wt,Wu,Wv,Ww,Wx,Wy,Wz,Xa,Xb,Xc,Xd,Xe,Xf,Xg,Xh,Xi,Xj,Xk,Xl,Xm,Xn,Xo,Xp,Xq,Xr,cN,cP,cO,cL,cQ,cR,List.getElem?_cons_zero,List.getElem?_cons_succ,cM,cT,cU,cV,cK,Nat.reduceAdd,Nat.reduceLT,Nat.reduceLeDiff,decide_true,decide_false,Bool.true_and,Bool.and_true,cW,cJ,Option.some.injEq,Xs,Xt,Xu,Xv]
  refine hloop _ _ _ (fun i y5 y6 s' hi ho=>?_) (fun y4 y5 y6 s' ho=>?_) T.length 0 _ _ _ (by omega) (BK.refl _ _)
  · simp only[Qa,Qb,Qc,Qd,Qe,Qf,Qg,Qh,Qi,Qj,Qk,Ql,Qm,Qn,true_and,and_true,Qo,Qp,Qq,Qr,Qs,Qt,Qu,Qv,Qw,Qx,Qy,Qz,Ra,Rb,Rc,Rd,Re,Rf,Rg,Rh,Ri,Rj,Rk,Rl,Rm,Ya,Yb,Yc,Rn,Ro,Xv,Yd,Ye,Rq,Rs,Rt,Ru,Rw,Rx,Ry]
    rw[← huc]at ho
    have ho2:BK s.next s s':=hold.trans (ho.mono hold.1)
    exact hK i s' O T (.inl rfl) hi (h.old ho2) (ho2.frO O) fun j hj=>.inl hj
  · simp only[Qa,Qb,Qc,Qd,Qe,Qf,Qg,Qh,Qi,Qj,Qk,Ql,Qm,Qn,true_and,and_true,Qo,Qp,Qq,Qr,Qs,Qt,Qu,Qv,Qw,Qx,Qy,Qz,Ra,Rb,Rc,Rd,Re,Rf,Rg,Rh,Ri,Rj,Rk,Rl,Rm,Ya,Yb,Yc,Rn,Ro,Xv,Yd,Ye,Rq,Rs,Rt,Ru,Rw,Rx,Ry]
    rw[if_pos trivial]
    rw[← huc]at ho
    have ho2:BK s.next s s':=hold.trans (ho.mono hold.1)
    have h2:=h.old ho2
    obtain⟨tv,OT,hobj,hbuf,hk,hO,hqT⟩:=h2.ex
    have hTc:∀t∈T,t.con<11:=fun t ht=>(hk t ht).1
    have hbx2:s'.heap.get (nid b 0)=some (R 122 0 false [iv u.kind,iv u.id,c0,c1,c2,c3,c4,c5,c6,u.kv]):=by
      rw[ho.2 _ (by rw[hnx,AF];omega),hbx,huc]
    have hsb:b+1≤s'.next:=by have:=ho.1;rw[hnx]at this;exact this
    generalize hs':s'.next=b' at hsb
    have hs0':s'=ext s' []:=(Ac s').symm
    have hucl:u.cells.length=10:=RT.len hu
    have hsrc:CU Tryz.prog (ext s' [R 122 10 false u.cells]) 122 10 (.slice (some (nid b' 0,0)) 1 (some 1))=some (1,u.cells):=by
      show(JR _ (nid b' 0) 0 1 10).bind _=_
      rw[HP (l:=u.cells) (by rw[EY,Wg hs' (by simp)];show BF (some (R 122 10 false u.cells)) _ _=_;rw[Wj (by rw[hucl];exact cJ _),cM,dD (by rw[hucl];exact cJ _)])]
      rfl
    have hkv:u.kv.isCell=true:=by rcases hrow with⟨_,e⟩ | ⟨_,e,_⟩<;>rw[e]<;>rfl
    have hac:Aa u.cells=true:=by
      obtain⟨tag,d1,d2,d3,d5,d6,hd,_,q1,q2,q3,q5,q6⟩:=BL _ (dT hu (by omega:11<13))
      show Aa ([iv u.kind,iv u.id]++(Tm.con u.con).cells++[u.kv])=true
      rw[hd]
      simp only[cO,cL,Aa,Xl,Xq,q1,q2,q3,q5,q6,hkv,Bool.and_self]
    have hbuf2:=hbuf.frame (s':=ext s' [R 122 10 false u.cells]) (by rw[Wm,AF];omega) fun j hj=>Wh (hbuf.lt j hj)
    obtain⟨v2,s2,OB2,happ,hb2,hn2,hf2,hO2,hsl⟩:=hbuf2.append (xt:=78) (m:=1) Tryz.underlying78 JD Zt (by omega) Ti Uo (by omega) hsrc (by rw[hucl]) hac (by omega) (by omega)
    have hnx2:(ext s' [R 122 10 false u.cells]).next=b'+1:=by rw[Wm,hs',AF];rfl
    rw[hnx2]at hn2 hf2 hO2
    obtain⟨av,cv,hv2⟩:∃a c,v2=.slice a (T.length+1) c:=let ⟨a,c,h,_⟩:=hb2.slice;⟨a,c,h⟩
    subst hv2
    have hql':q<b':=by omega
    have gq:s2.heap.get q=some (R 80 0 false [tv]):=by rw[hf2 q (by omega) hqT,Wh (by omega)];exact hobj
    have hne:newObj s' (R 122 10 false [iv u.kind,iv u.id,c0,c1,c2,c3,c4,c5,c6,u.kv])=ext s' [R 122 10 false u.cells]:=by
      have:=Wl s' [] (R 122 10 false u.cells)
      rw[Ac,huc]at this
      rw[huc];exact this
    have hge:∀j,j<b'→(ext s' [R 122 10 false u.cells]).heap.get j=s'.heap.get j:=fun j hj=>Wh (by omega)
    have gobj:(ext s' [R 122 10 false u.cells]).heap.get q=some (R 80 0 false [tv]):=by rw[hge q hql'];exact hobj
    have hsub:i64 (((T.length+1:Nat):Int) - 1):=by unfold i64;omega
    have hsub2:((T.length+1:Nat):Int) - 1=(T.length:Int):=by omega
    simp only[XZ,Xw,Qa,Qb,Qc,Qd,Qe,Qf,Qg,Qh,Qi,Qj,Qk,Ql,Qm,Qn,true_and,and_true,Qo,Qp,Qq,Qr,Qs,Qt,Qu,Qv,Qw,Qx,Qy,Qz,Ra,Rb,Rc,Rd,Re,Rf,Rg,Rh,Ri,Rj,Rk,Rl,Rm,Ya,Yb,Yc,Rn,Ro,Xv,Yd,Ye,Rq,Rs,Rt,Ru,Rw,Rx,Ry,hobj,hbx2,Cf,G0,aq,Nj,JD,TI,hne,hs',Rz,Wa,Wb,Wc,Wd,We,Wf,Wg,Wh,Wi,Wj,Wl,Wm,Wn,Wp,Wq,Wr,Ws,Wt,Wu,Wv,Ww,Wx,Wy,Wz,Xa,Xb,Xc,Xd,Xe,Xf,Xg,Xh,Xi,Xj,Xk,Xl,Xm,Xn,Xo,Xp,Xq,Xr,cN,cP,cO,cL,cQ,cR,List.getElem?_cons_zero,List.getElem?_cons_succ,cM,cT,cU,cV,cK,Nat.reduceAdd,Nat.reduceLT,Nat.reduceLeDiff,decide_true,decide_false,Bool.true_and,Bool.and_true,cW,cJ,Option.some.injEq,Xs,Xt,Xu,Xv]
    rw[ED]at happ
    simp only[Qa,Qb,Qc,Qd,Qe,Qf,Qg,Qh,Qi,Qj,Qk,Ql,Qm,Qn,true_and,and_true,Qo,Qp,Qq,Qr,Qs,Qt,Qu,Qv,Qw,Qx,Qy,Qz,Ra,Rb,Rc,Rd,Re,Rf,Rg,Rh,Ri,Rj,Rk,Rl,Rm,Ya,Yb,Yc,Rn,Ro,Xv,Yd,Ye,Rq,Rs,Rt,Ru,Rw,Rx,Ry,happ,gq,gobj,Cf,G0,aq,Af Tryz.underlying78,FM _ _ _ _ hsub,hsub2,Rz,Wa,Wb,Wc,Wd,We,Wf,Wg,Wh,Wi,Wj,Wl,Wm,Wn,Wp,Wq,Wr,Ws,Wt,Wu,Wv,Ww,Wx,Wy,Wz,Xa,Xb,Xc,Xd,Xe,Xf,Xg,Xh,Xi,Xj,Xk,Xl,Xm,Xn,Xo,Xp,Xq,Xr,cN,cP,cO,cL,cQ,cR,List.getElem?_cons_zero,List.getElem?_cons_succ,cM,cT,cU,cV,cK,Nat.reduceAdd,Nat.reduceLT,Nat.reduceLeDiff,decide_true,decide_false,Bool.true_and,Bool.and_true,cW,cJ,Option.some.injEq,Xs,Xt,Xu,Xv]
    have hOT:∀j∈OT,j∈O:=fun j hj=>hO j (by simp[hj])
    have hqO:q∈O:=hO q (by simp)
    have hqB:q ∉ OB2:=fun hm=>(hO2 q hm).elim hqT (fun h=>by omega)
    have hlt':∀j∈O,j<b':=fun j hj=>by have:=h2.lt j hj;omega
    have hget:∀j,j<b'→j≠q→j ∉ OT→(setObj s2 q (R 80 0 false [.slice av (T.length+1) cv])).heap.get j=s'.heap.get j:=fun j hj hq hT=>by
      rw[Wr _ hq,hf2 j (by omega) hT,hge j hj]
    have hnx3:(setObj s2 q (R 80 0 false [.slice av (T.length+1) cv])).next=b'+2:=by rw[Wp,hn2]
    have hob:∀j,s.heap.get j=s.heap.get j:=fun _=>rfl
    refine hK T.length _ (O++(OB2++(I9 u.kv).toList)) (T++[u]) (.inr rfl) (by simp) ⟨⟨.slice av (T.length+1) cv,OB2,Wq _ _ _,?_,?_,?_,hqB⟩,?_,?_⟩ ⟨?_,?_⟩ ?_
    · rw[dC,show FG (T++[u])=FG T++u.cells from by simp[FG]]
      exact hb2.frame (cJ _) fun j hj=>Wr _ fun e=>hqB (e▸hj)
    · intro t ht
      rcases List.mem_append.1 ht with ht | ht
      · refine ⟨(hk t ht).1, ?_⟩
        rcases(hk t ht).2 with h3 | ⟨j,g1,g2,g3,g4⟩
        · exact .inl h3
        · have hjq : j ≠ q := fun e => g3 (by simp [e])
          have hjT:j ∉ OT:=fun hm=>g3 (by simp[hm])
          refine .inr ⟨j,g1,dV _ g2,fun hm=>?_,by rw[hget j (hlt' j g2) hjq hjT];exact g4⟩
          rcases dE.1 hm with hm | hm
          · exact hjq hm
          · exact(hO2 j hm).elim hjT (fun h=>by have:=hlt' j g2;omega)
      · rw [List.mem_singleton.1 ht]
        refine⟨hu,?_⟩
        rcases hrow with h3 | ⟨j,g1,g2,g3,g4⟩
        · exact .inl h3
        · have hjq : j ≠ q := fun e => g3 (e ▸ hqO)
          have hjT:j ∉ OT:=fun hm=>g3 (hOT j hm)
          have hjb:j<b':=by omega
          refine .inr ⟨j,g1,dI _ (dI _ (by rw[g1];simp[I9])),fun hm=>?_,by rw[hget j hjb hjq hjT,ho2.2 j g2];exact g4⟩
          rcases dE.1 hm with hm | hm
          · exact hjq hm
          · exact(hO2 j hm).elim hjT (fun h=>by omega)
    · intro j hj
      rcases dE.1 hj with rfl | hj
      · exact dV _ hqO
      · exact dI _ (dV _ hj)
    · intro i t hi k hkk
      rcases cZ i T.length with hl | hl
      · rw[dA hl]at hi
        exact h.low i t hi k hkk
      · rw[dB hl]at hi
        have:t=u:=by
          cases hz:i - T.length with
          | zero=>rw[hz]at hi;simpa using hi.symm
          | succ n=>rw[hz]at hi;simp at hi
        subst this
        have:=hlow k hkk
        omega
    · intro j hj
      rw[hnx3]
      rcases List.mem_append.1 hj with hj | hj
      · have:=hlt' j hj;omega
      · rcases List.mem_append.1 hj with hj | hj
        · have:=hb2.lt j hj;omega
        · rcases hrow with ⟨_, e⟩ | ⟨j', e, g2, _⟩
          · rw[e]at hj;simp[I9]at hj
          · rw[e]at hj
            simp[I9]at hj
            omega
    · rw[hnx3];omega
    · intro j hj hjO
      rw[hget j (by omega) (fun e=>hjO (e▸hqO)) (fun hm=>hjO (hOT j hm)),ho2.2 j hj]
    · intro j hj
      rcases List.mem_append.1 hj with hj | hj
      · exact .inl hj
      · rcases List.mem_append.1 hj with hj | hj
        · exact(hO2 j hj).imp (hOT j) (fun h=>.inl (by omega))
        · refine .inr (.inr ?_)
          cases hz:I9 u.kv with
          | none=>rw[hz]at hj;simp at hj
          | some y=>rw[hz]at hj;simp at hj;rw[hj]
structure RS(s:AD)(q:Nat)(T:List RT)(O:List Nat):Prop where
 at_:Nf s q T O
 gl:Bw s O
 kl:∀t∈T,t.kids.length≤3
theorem RS.old{s s':AD}{q:Nat}{T:List RT}{O:List Nat}(h:RS s q T O)(k:BK s.next s s'):RS s' q T O:=⟨h.at_.old k,h.gl.old k,h.kl⟩
theorem I6{E:Bb}(hE:Ah E){s s1:AD}{q:Nat}{T:List RT}{O:List Nat}(h:RS s q T O)(ho:BK s.next s s1)(hT:T.length≤900){kind id:Int}{n:Nat}(hn:n<11){K:AV→AD→Prop}
    (hK:∀ (i:Nat) s' O' T',RS s' q T' O'→Bk O s s'→AR O O' s→(∃x,T'=T++x)→T'.length≤T.length+1→i<T'.length→K (iv (i:Int)) s'):
    WF E 81 [.ptr (some (q,0)),.agg ([iv kind,iv id]++(Tm.con n).cells++[.slice none 0 (some 0)])] K s1:=by
  have h1:=h.old ho
  refine OX hE (u:=⟨kind,id,n,[],.slice none 0 (some 0)⟩) h1.at_ h1.gl.1 h1.gl.2.1 hT h.kl hn (cp _) (.inl ⟨rfl,rfl⟩) (fun k hk=>by cases hk) fun i s' O' T' g1 g2 g3 g4 g5=>?_
  have hgr:AR O O' s1:=fun j hj=>by
    rcases g5 j hj with h' | h' | h'
    · exact .inl h'
    · exact .inr h'
    · cases h'
  have hfr:Bk O s s':=(ho.frO O).trans g4 (AR.refl O s)
  have hpre:∃x,T'=T++x:=by
    rcases g1 with rfl | rfl
    · exact⟨[],by simp⟩
    · exact⟨_,rfl⟩
  refine hK i s' O' T' ⟨g3,h1.gl.step g4 hgr,fun t ht=>?_⟩ hfr (AR.trans (AR.refl O s) hgr ho.1) hpre ?_ g2
  · rcases g1 with rfl | rfl
    · exact h.kl t ht
    · rcases List.mem_append.1 ht with ht | ht
      · exact h.kl t ht
      · rw[List.mem_singleton.1 ht];exact cp _
  · rcases g1 with rfl | rfl<;>simp
theorem JV(a b:Int):AT Tryz.prog 122 (zipIdx [0,1] [iv a,iv b])=some (.agg ([iv a,iv b]++Tm.nullC++[.slice none 0 (some 0)])):=by kernel_rfl
theorem Ot(a:Int)(c0 c1 c2 c3 c4 c5 c6:AV):AT Tryz.prog 122 (zipIdx [0,2] [iv a,.agg [c0,c1,c2,c3,c4,c5,c6]])=some (.agg [iv a,iv 0,c0,c1,c2,c3,c4,c5,c6,.slice none 0 (some 0)]):=by kernel_rfl
section
variable{E:Bb}(hE:Ah E){s:AD}{q:Nat}{T:List RT}{O:List Nat}(h:RS s q T O)(hT:T.length≤900){K:AV→AD→Prop}
  (hK:∀ (i:Nat) s' O' T',RS s' q T' O'→Bk O s s'→AR O O' s→(∃x,T'=T++x)→T'.length≤T.length+1→i<T'.length→K (iv (i:Int)) s')
include hE h hT hK
theorem UW{id:Int}:WF E 63 [.ptr (some (q,0)),iv id] K s:=by
 refine hE.go Yv (by decide) rfl ?_
 simp only[b4,XE,XF,JV,Qa,Qb,Qc,Qd,Qe,Qf,Qg,Qh,Qi,Qj,Qk,Ql,Qm,Qn,true_and,and_true,Qo,Qp,Qq,Qr,Qs,Qt,Qu,Qv,Qw,Qx,Qy,Qz,Ra,Rb,Rc,Rd,Re,Rf,Rg,Rh,Ri,Rj,Rk,Rl,Rm,Ya,Yb,Yc,Rn,Ro,Xv,Yd,Ye,Rq,Rs,Rt,Ru,Rw,Rx,Ry]
 refine I6 hE h (BK.refl _ _) hT (n:=0) (by omega) fun i s' O' T' g1 g2 g3 g4 g5 g6=>?_
 simp only[Qa,Qb,Qc,Qd,Qe,Qf,Qg,Qh,Qi,Qj,Qk,Ql,Qm,Qn,true_and,and_true,Qo,Qp,Qq,Qr,Qs,Qt,Qu,Qv,Qw,Qx,Qy,Qz,Ra,Rb,Rc,Rd,Re,Rf,Rg,Rh,Ri,Rj,Rk,Rl,Rm,Ya,Yb,Yc,Rn,Ro,Xv,Yd,Ye,Rq,Rs,Rt,Ru,Rw,Rx,Ry]
 exact hK i s' O' T' g1 g2 g3 g4 g5 g6
theorem UT{id:Int}:WF E 64 [.ptr (some (q,0)),iv id] K s:=by
 refine hE.go Yw (by decide) rfl ?_
 simp only[b5,XG,XH,JV,Lt,Qa,Qb,Qc,Qd,Qe,Qf,Qg,Qh,Qi,Qj,Qk,Ql,Qm,Qn,true_and,and_true,Qo,Qp,Qq,Qr,Qs,Qt,Qu,Qv,Qw,Qx,Qy,Qz,Ra,Rb,Rc,Rd,Re,Rf,Rg,Rh,Ri,Rj,Rk,Rl,Rm,Ya,Yb,Yc,Rn,Ro,Xv,Yd,Ye,Rq,Rs,Rt,Ru,Rw,Rx,Ry]
 refine I6 hE h (BK.refl _ _) hT (n:=0) (by omega) fun i s' O' T' g1 g2 g3 g4 g5 g6=>?_
 simp only[Qa,Qb,Qc,Qd,Qe,Qf,Qg,Qh,Qi,Qj,Qk,Ql,Qm,Qn,true_and,and_true,Qo,Qp,Qq,Qr,Qs,Qt,Qu,Qv,Qw,Qx,Qy,Qz,Ra,Rb,Rc,Rd,Re,Rf,Rg,Rh,Ri,Rj,Rk,Rl,Rm,Ya,Yb,Yc,Rn,Ro,Xv,Yd,Ye,Rq,Rs,Rt,Ru,Rw,Rx,Ry]
 exact hK i s' O' T' g1 g2 g3 g4 g5 g6
end
theorem Kv{E:Bb}(hE:Ah E){s:AD}(hg:Co s 1 BC=true)(h1:1<s.next){n:Nat}(hn:n<11){K:AV→AD→Prop}(hK:∀s',BK s.next s s'→K (.agg (Tm.con n).cells) s'):WF E 82 [.agg (Tm.con n).cells] K s:=by
 obtain⟨tag,c1,c2,c3,c5,c6,hc,h5,d1,d2,d3,d5,d6⟩:=BL n (dT hn (by omega))
 have hr:=fun(K:AV→AD→Prop) os=>MG (K:=K) hE (s:=ext s os) (by rw[BT (Wh h1)];exact hg) hn
 rw[hc]at hr hK ⊢
 refine hE.go Y2 (by decide) rfl ?_
 generalize hs:s.next=b at hK
 have hs0:s=ext s []:=(Ac s).symm
 have hfin:∀os,K (.agg [iv tag,c1,c2,c3,.slice none 0 (some 0),c5,c6]) (ext s os):=fun os=>hK _ (by rw[← hs];exact AM)
 rw[hs0]
 simp only[cF,Xx,Xy,ay,hs,H0,II,Qa,Qb,Qc,Qd,Qe,Qf,Qg,Qh,Qi,Qj,Qk,Ql,Qm,Qn,true_and,and_true,Qo,Qp,Qq,Qr,Qs,Qt,Qu,Qv,Qw,Qx,Qy,Qz,Ra,Rb,Rc,Rd,Re,Rf,Rg,Rh,Ri,Rj,Rk,Rl,Rm,Ya,Yb,Yc,Rn,Ro,Xv,Yd,Ye,Rq,Rs,Rt,Ru,Rw,Rx,Ry,Rz,Wa,Wb,Wc,Wd,We,Wf,Wg,Wh,Wi,Wj,Wl,Wm,Wn,Wp,Wq,Wr,Ws,Wt,Wu,Wv,Ww,Wx,Wy,Wz,Xa,Xb,Xc,Xd,Xe,Xf,Xg,Xh,Xi,Xj,Xk,Xl,Xm,Xn,Xo,Xp,Xq,Xr,cN,cP,cO,cL,cQ,cR,List.getElem?_cons_zero,List.getElem?_cons_succ,cM,cT,cU,cV,cK,Nat.reduceAdd,Nat.reduceLT,Nat.reduceLeDiff,decide_true,decide_false,Bool.true_and,Bool.and_true,cW,cJ,Option.some.injEq,Xs,Xt,Xu,Xv]
 refine hr _ _ ?_
 have hgt:decide ((0:Int)<((0:Nat):Int))=false:=rfl
 simp only[Ry,Bool.not_true,Bool.not_false,Rw,Rs,h5,hgt,Xz,CV,Zq,H0,II,SJ,SK,hs,Af Tryz.underlying39,An,d1,d2,d3,d5,d6,Qa,Qb,Qc,Qd,Qe,Qf,Qg,Qh,Qi,Qj,Qk,Ql,Qm,Qn,true_and,and_true,Qo,Qp,Qq,Qr,Qs,Qt,Qu,Qv,Qw,Qx,Qy,Qz,Ra,Rb,Rc,Rd,Re,Rf,Rg,Rh,Ri,Rj,Rk,Rl,Rm,Ya,Yb,Yc,Rn,Ro,Xv,Yd,Ye,Rq,Rs,Rt,Ru,Rw,Rx,Ry,Rz,Wa,Wb,Wc,Wd,We,Wf,Wg,Wh,Wi,Wj,Wl,Wm,Wn,Wp,Wq,Wr,Ws,Wt,Wu,Wv,Ww,Wx,Wy,Wz,Xa,Xb,Xc,Xd,Xe,Xf,Xg,Xh,Xi,Xj,Xk,Xl,Xm,Xn,Xo,Xp,Xq,Xr,cN,cP,cO,cL,cQ,cR,List.getElem?_cons_zero,List.getElem?_cons_succ,cM,cT,cU,cV,cK,Nat.reduceAdd,Nat.reduceLT,Nat.reduceLeDiff,decide_true,decide_false,Bool.true_and,Bool.and_true,cW,cJ,Option.some.injEq,Xs,Xt,Xu,Xv]
 exact hfin _
section
variable{E:Bb}(hE:Ah E){s:AD}{q:Nat}{T:List RT}{O:List Nat}(h:RS s q T O)(hT:T.length≤900){K:AV→AD→Prop}
include hE h hT
theorem J1(hK:∀ (i:Nat) s' O' T',RS s' q T' O'→Bk O s s'→AR O O' s→(∃x,T'=T++x)→T'.length≤T.length+1→i<T'.length→K (iv (i:Int)) s'){n:Nat}(hn:n<11):WF E 65 [.ptr (some (q,0)),.agg (Tm.con n).cells] K s:=by
 obtain⟨tag,c1,c2,c3,c5,c6,hc,h5,d1,d2,d3,d5,d6⟩:=BL n (dT hn (by omega))
 have hg:=h.gl
 have hcs:=fun os (K:AV→AD→Prop)=>Kv (K:=K) hE (s:=ext s os) (by rw[BT (Wh hg.2.1)];exact hg.1) (cg hg.2.1 (AM (os:=os)).1) hn
 have hput:=fun s1 (ho:BK s.next s s1) (K:AV→AD→Prop)=>I6 (K:=K) hE h ho hT (kind:=2) (id:=0) hn
 rw[hc]at hcs hput ⊢
 simp only[cO,cL]at hput
 refine hE.go Yx (by decide) rfl ?_
 generalize hs:s.next=b
 have hs0:s=ext s []:=(Ac s).symm
 rw[hs0]
 simp only[cA,XI,XJ,hs,H0,II,Qa,Qb,Qc,Qd,Qe,Qf,Qg,Qh,Qi,Qj,Qk,Ql,Qm,Qn,true_and,and_true,Qo,Qp,Qq,Qr,Qs,Qt,Qu,Qv,Qw,Qx,Qy,Qz,Ra,Rb,Rc,Rd,Re,Rf,Rg,Rh,Ri,Rj,Rk,Rl,Rm,Ya,Yb,Yc,Rn,Ro,Xv,Yd,Ye,Rq,Rs,Rt,Ru,Rw,Rx,Ry,Rz,Wa,Wb,Wc,Wd,We,Wf,Wg,Wh,Wi,Wj,Wl,Wm,Wn,Wp,Wq,Wr,Ws,Wt,Wu,Wv,Ww,Wx,Wy,Wz,Xa,Xb,Xc,Xd,Xe,Xf,Xg,Xh,Xi,Xj,Xk,Xl,Xm,Xn,Xo,Xp,Xq,Xr,cN,cP,cO,cL,cQ,cR,List.getElem?_cons_zero,List.getElem?_cons_succ,cM,cT,cU,cV,cK,Nat.reduceAdd,Nat.reduceLT,Nat.reduceLeDiff,decide_true,decide_false,Bool.true_and,Bool.and_true,cW,cJ,Option.some.injEq,Xs,Xt,Xu,Xv]
 refine hcs _ _ fun s1 ho=>?_
 have ho1:BK s.next s s1:=AM.trans (ho.mono (by rw[Wm,AF];omega))
 simp only[Ot,Qa,Qb,Qc,Qd,Qe,Qf,Qg,Qh,Qi,Qj,Qk,Ql,Qm,Qn,true_and,and_true,Qo,Qp,Qq,Qr,Qs,Qt,Qu,Qv,Qw,Qx,Qy,Qz,Ra,Rb,Rc,Rd,Re,Rf,Rg,Rh,Ri,Rj,Rk,Rl,Rm,Ya,Yb,Yc,Rn,Ro,Xv,Yd,Ye,Rq,Rs,Rt,Ru,Rw,Rx,Ry,Rz,Wa,Wb,Wc,Wd,We,Wf,Wg,Wh,Wi,Wj,Wl,Wm,Wn,Wp,Wq,Wr,Ws,Wt,Wu,Wv,Ww,Wx,Wy,Wz,Xa,Xb,Xc,Xd,Xe,Xf,Xg,Xh,Xi,Xj,Xk,Xl,Xm,Xn,Xo,Xp,Xq,Xr,cN,cP,cO,cL,cQ,cR,List.getElem?_cons_zero,List.getElem?_cons_succ,cM,cT,cU,cV,cK,Nat.reduceAdd,Nat.reduceLT,Nat.reduceLeDiff,decide_true,decide_false,Bool.true_and,Bool.and_true,cW,cJ,Option.some.injEq,Xs,Xt,Xu,Xv]
 refine hput s1 ho1 _ fun i s' O' T' g1 g2 g3 g4 g5 g6=>?_
 simp only[Qa,Qb,Qc,Qd,Qe,Qf,Qg,Qh,Qi,Qj,Qk,Ql,Qm,Qn,true_and,and_true,Qo,Qp,Qq,Qr,Qs,Qt,Qu,Qv,Qw,Qx,Qy,Qz,Ra,Rb,Rc,Rd,Re,Rf,Rg,Rh,Ri,Rj,Rk,Rl,Rm,Ya,Yb,Yc,Rn,Ro,Xv,Yd,Ye,Rq,Rs,Rt,Ru,Rw,Rx,Ry]
 exact hK i s' O' T' g1 g2 g3 g4 g5 g6
theorem J5(hK:∀ (i:Nat) s' O' T',RS s' q T' O'→Bk O s s'→AR O O' s→(∃x,T'=T++x)→T'.length≤T.length+1→i<T'.length→K (iv (i:Int)) s'){x:Int}:WF E 110 [.ptr (some (q,0)),iv x] K s:=by
  obtain⟨tv,OT,hobj,hbuf,_⟩:=h.at_.ex
  obtain⟨a,c,rfl,_⟩:=hbuf.slice
  have hcon:=fun(K:AV→AD→Prop) hK=>J1 (K:=K) hE h hT hK (n:=0) (by omega)
  refine hE.go T4 (by decide) rfl ?_
  by_cases h0:x<0
  · have hd:decide (x<0)=true:=decide_eq_true h0
    simp only[Tv,KR,KS,Md,Qa,Qb,Qc,Qd,Qe,Qf,Qg,Qh,Qi,Qj,Qk,Ql,Qm,Qn,true_and,and_true,Qo,Qp,Qq,Qr,Qs,Qt,Qu,Qv,Qw,Qx,Qy,Qz,Ra,Rb,Rc,Rd,Re,Rf,Rg,Rh,Ri,Rj,Rk,Rl,Rm,Ya,Yb,Yc,Rn,Ro,Xv,Yd,Ye,Rq,Rs,Rt,Ru,Rw,Rx,Ry,Ru,Rq,hd,EM,Rz,Wa,Wb,Wc,Wd,We,Wf,Wg,Wh,Wi,Wj,Wl,Wm,Wn,Wp,Wq,Wr,Ws,Wt,Wu,Wv,Ww,Wx,Wy,Wz,Xa,Xb,Xc,Xd,Xe,Xf,Xg,Xh,Xi,Xj,Xk,Xl,Xm,Xn,Xo,Xp,Xq,Xr,cN,cP,cO,cL,cQ,cR,List.getElem?_cons_zero,List.getElem?_cons_succ,cM,cT,cU,cV,cK,Nat.reduceAdd,Nat.reduceLT,Nat.reduceLeDiff,decide_true,decide_false,Bool.true_and,Bool.and_true,cW,cJ,Option.some.injEq,Xs,Xt,Xu,Xv]
    refine hcon _ fun i s' O' T' g1 g2 g3 g4 g5 g6=>?_
    simp only[Qa,Qb,Qc,Qd,Qe,Qf,Qg,Qh,Qi,Qj,Qk,Ql,Qm,Qn,true_and,and_true,Qo,Qp,Qq,Qr,Qs,Qt,Qu,Qv,Qw,Qx,Qy,Qz,Ra,Rb,Rc,Rd,Re,Rf,Rg,Rh,Ri,Rj,Rk,Rl,Rm,Ya,Yb,Yc,Rn,Ro,Xv,Yd,Ye,Rq,Rs,Rt,Ru,Rw,Rx,Ry]
    exact hK i s' O' T' g1 g2 g3 g4 g5 g6
  · have hd:decide (x<0)=false:=decide_eq_false h0
    by_cases h2:(T.length:Int)≤x
    · have SU:decide ((T.length:Int)≤x)=true:=decide_eq_true h2
      simp only[Tv,KR,KS,Md,Qa,Qb,Qc,Qd,Qe,Qf,Qg,Qh,Qi,Qj,Qk,Ql,Qm,Qn,true_and,and_true,Qo,Qp,Qq,Qr,Qs,Qt,Qu,Qv,Qw,Qx,Qy,Qz,Ra,Rb,Rc,Rd,Re,Rf,Rg,Rh,Ri,Rj,Rk,Rl,Rm,Ya,Yb,Yc,Rn,Ro,Xv,Yd,Ye,Rq,Rs,Rt,Ru,Rw,Rx,Ry,Ru,Rq,hd,SU,hobj,Cf,G0,Af Tryz.underlying78,EM,Rz,Wa,Wb,Wc,Wd,We,Wf,Wg,Wh,Wi,Wj,Wl,Wm,Wn,Wp,Wq,Wr,Ws,Wt,Wu,Wv,Ww,Wx,Wy,Wz,Xa,Xb,Xc,Xd,Xe,Xf,Xg,Xh,Xi,Xj,Xk,Xl,Xm,Xn,Xo,Xp,Xq,Xr,cN,cP,cO,cL,cQ,cR,List.getElem?_cons_zero,List.getElem?_cons_succ,cM,cT,cU,cV,cK,Nat.reduceAdd,Nat.reduceLT,Nat.reduceLeDiff,decide_true,decide_false,Bool.true_and,Bool.and_true,cW,cJ,Option.some.injEq,Xs,Xt,Xu,Xv]
      refine hcon _ fun i s' O' T' g1 g2 g3 g4 g5 g6=>?_
      simp only[Qa,Qb,Qc,Qd,Qe,Qf,Qg,Qh,Qi,Qj,Qk,Ql,Qm,Qn,true_and,and_true,Qo,Qp,Qq,Qr,Qs,Qt,Qu,Qv,Qw,Qx,Qy,Qz,Ra,Rb,Rc,Rd,Re,Rf,Rg,Rh,Ri,Rj,Rk,Rl,Rm,Ya,Yb,Yc,Rn,Ro,Xv,Yd,Ye,Rq,Rs,Rt,Ru,Rw,Rx,Ry]
      exact hK i s' O' T' g1 g2 g3 g4 g5 g6
    · have SU  : decide ((T.length : Int) ≤ x) = false := decide_eq_false h2
      have hx:x=(x.toNat:Int):=by omega
      simp only[Tv,KR,KS,QN,Qa,Qb,Qc,Qd,Qe,Qf,Qg,Qh,Qi,Qj,Qk,Ql,Qm,Qn,true_and,and_true,Qo,Qp,Qq,Qr,Qs,Qt,Qu,Qv,Qw,Qx,Qy,Qz,Ra,Rb,Rc,Rd,Re,Rf,Rg,Rh,Ri,Rj,Rk,Rl,Rm,Ya,Yb,Yc,Rn,Ro,Xv,Yd,Ye,Rq,Rs,Rt,Ru,Rw,Rx,Ry,Ru,Rq,hd,SU,hobj,Cf,G0,Af Tryz.underlying78,Rz,Wa,Wb,Wc,Wd,We,Wf,Wg,Wh,Wi,Wj,Wl,Wm,Wn,Wp,Wq,Wr,Ws,Wt,Wu,Wv,Ww,Wx,Wy,Wz,Xa,Xb,Xc,Xd,Xe,Xf,Xg,Xh,Xi,Xj,Xk,Xl,Xm,Xn,Xo,Xp,Xq,Xr,cN,cP,cO,cL,cQ,cR,List.getElem?_cons_zero,List.getElem?_cons_succ,cM,cT,cU,cV,cK,Nat.reduceAdd,Nat.reduceLT,Nat.reduceLeDiff,decide_true,decide_false,Bool.true_and,Bool.and_true,cW,cJ,Option.some.injEq,Xs,Xt,Xu,Xv]
      rw[hx]
      exact hK x.toNat s O T h (Bk.refl _ _) (AR.refl _ _) ⟨[],by simp⟩ (by omega) (by omega)
end
theorem H3{P:Program}{t:TypeId}{k:IntKind}{a b:Int}(ha:0≤a)(hb:0<b):AQ P .rem t (.int k a) (.int k b)=some (.int k (a % b)):=by
 have hne:b≠0:=by omega
 have e1:a.tmod b=a % b:=Int.tmod_eq_emod_of_nonneg ha
 have hk:Bg k k=true:=by cases k<;>rfl
 show AH (Bg k k) ((Dk P (Op.intDiv .rem k a b)).bind ofValue)=_
 rw[hk]
 unfold Op.intDiv
 rw[if_neg hne,e1]
 rfl
abbrev CY(n:Nat):AV:=.int .u8 (n:Int)
theorem GS{s:AD}{n:Nat}(h:n<256):BB Tryz.prog s 5 3 (CY n)=some (iv (n:Int)):=by
 simp[BB,Tryz.underlying5,Tryz.underlying3,Gs (n:=(n:Int)) ⟨by omega,by omega⟩]
def G7:List AV:=(List.range 11).flatMap fun i=>(Tm.con i).cells
theorem TH:AY Tryz.prog 41 11 (zipIdx [0,1,2,3,4,5,6,7,8,9,10] [.agg (Tm.con 0).cells,.agg (Tm.con 1).cells,.agg (Tm.con 2).cells,.agg (Tm.con 3).cells,.agg (Tm.con 4).cells,.agg (Tm.con 5).cells,.agg (Tm.con 6).cells,.agg (Tm.con 7).cells,.agg (Tm.con 8).cells,.agg (Tm.con 9).cells,.agg (Tm.con 10).cells])=some (R 43 7 false G7):=by kernel_rfl
theorem bd0:AT Tryz.prog 43 (zipIdx [] [])=some (.agg (Tm.con 0).cells):=by kernel_rfl
theorem bd1:AT Tryz.prog 43 (zipIdx [0,1] [.int .i64 1,.bool true])=some (.agg (Tm.con 1).cells):=by kernel_rfl
theorem bd2:AT Tryz.prog 43 (zipIdx [0] [.int .i64 1])=some (.agg (Tm.con 2).cells):=by kernel_rfl
theorem bd3:AT Tryz.prog 43 (zipIdx [0,2] [.int .i64 2,.str [48]])=some (.agg (Tm.con 3).cells):=by kernel_rfl
theorem bd4:AT Tryz.prog 43 (zipIdx [0,2] [.int .i64 2,.str [49]])=some (.agg (Tm.con 4).cells):=by kernel_rfl
theorem bd5:AT Tryz.prog 43 (zipIdx [0,2] [.int .i64 2,.str [45,53]])=some (.agg (Tm.con 5).cells):=by kernel_rfl
theorem bd6:AT Tryz.prog 43 (zipIdx [0,2] [.int .i64 2,.str [49,56,52,52,54,55,52,52,48,55,51,55,48,57,53,53,49,54,49,54]])=some (.agg (Tm.con 6).cells):=by kernel_rfl
theorem bd7:AT Tryz.prog 43 (zipIdx [0,3] [.int .i64 3,.str [97]])=some (.agg (Tm.con 7).cells):=by kernel_rfl
theorem bd8:AT Tryz.prog 43 (zipIdx [0,3] [.int .i64 3,.str [98]])=some (.agg (Tm.con 8).cells):=by kernel_rfl
theorem bd9:AT Tryz.prog 43 (zipIdx [0] [.int .i64 3])=some (.agg (Tm.con 9).cells):=by kernel_rfl
theorem bG:AT Tryz.prog 43 (zipIdx [0] [.int .i64 4])=some (.agg (Tm.con 10).cells):=by kernel_rfl
theorem T7{k:Nat}(hk:k<11):BF (some (R 43 7 false G7)) (k * 7) 7=some (Tm.con k).cells:=by
 have hl:G7.length=77:=by rfl
 rw[Wj (by rw[hl];omega)]
 congr 1
 have:k=0∨k=1∨k=2∨k=3∨k=4∨k=5∨k=6∨k=7∨k=8∨k=9∨k=10:=by omega
 rcases this with rfl | rfl | rfl | rfl | rfl | rfl | rfl | rfl | rfl | rfl | rfl<;>rfl
theorem T8{E:Bb}(hE:Ah E){s:AD}{n:Nat}(hn:n<256){K:AV→AD→Prop}(hK:∀s',BK s.next s s'→K (.agg (Tm.con (n % 11)).cells) s'):WF E 61 [CY n] K s:=by
 have hm:n % 11<11:=Nat.mod_lt _ (by omega)
 obtain⟨tag,c1,c2,c3,c5,c6,hc,h5,d1,d2,d3,d5,d6⟩:=BL (n % 11) (dT hm (by omega))
 have hat:=T7 hm
 rw[hc]at hat hK
 have hrem:AQ Tryz.prog .rem 3 (iv (n:Int)) (iv ((11:Nat):Int))=some (iv ((n % 11:Nat):Int)):=by
  have:=H3 (P:=Tryz.prog) (t:=3) (k:=.i64) (a:=(n:Int)) (b:=((11:Nat):Int)) (by omega) (by omega)
  rw[this];rfl
 refine hE.go Yt (by decide) rfl ?_
 generalize hs:s.next=b at hK
 have hs0:s=ext s []:=(Ac s).symm
 have hfin:∀os,K (.agg [iv tag,c1,c2,c3,.slice none 0 (some 0),c5,c6]) (ext s os):=fun os=>hK _ (by rw[← hs];exact AM)
 rw[hs0]
 simp only[b3,W9,XA,XB,ay,hs,H0,II,bd0,bd1,bd2,bd3,bd4,bd5,bd6,bd7,bd8,bd9,bG,TH,GS hn,Af Tryz.underlying41,hrem,AU Tryz.underlying41 H0 hm,hat,An,d1,d2,d3,d5,d6,Qa,Qb,Qc,Qd,Qe,Qf,Qg,Qh,Qi,Qj,Qk,Ql,Qm,Qn,true_and,and_true,Qo,Qp,Qq,Qr,Qs,Qt,Qu,Qv,Qw,Qx,Qy,Qz,Ra,Rb,Rc,Rd,Re,Rf,Rg,Rh,Ri,Rj,Rk,Rl,Rm,Ya,Yb,Yc,Rn,Ro,Xv,Yd,Ye,Rq,Rs,Rt,Ru,Rw,Rx,Ry,Rz,Wa,Wb,Wc,Wd,We,Wf,Wg,Wh,Wi,Wj,Wl,Wm,Wn,Wp,Wq,Wr,Ws,Wt,Wu,Wv,Ww,Wx,Wy,Wz,Xa,Xb,Xc,Xd,Xe,Xf,Xg,Xh,Xi,Xj,Xk,Xl,Xm,Xn,Xo,Xp,Xq,Xr,cN,cP,cO,cL,cQ,cR,List.getElem?_cons_zero,List.getElem?_cons_succ,cM,cT,cU,cV,cK,Nat.reduceAdd,Nat.reduceLT,Nat.reduceLeDiff,decide_true,decide_false,Bool.true_and,Bool.and_true,cW,cJ,Option.some.injEq,Xs,Xt,Xu,Xv]
 exact hfin _
theorem ZK(a b:Int):CF true (iv a) [iv b]=some (iv (max a b)):=by
 show AH true (some (AV.int .i64 (bif JH a b then b else a)))=_
 rw[B4]
 show some (AV.int .i64 _)=_
 by_cases h:a<b
 ·simp only[h,decide_true,cond_true];rw[Int.max_eq_right (by omega)]
 ·simp only[h,decide_false,cond_false];rw[Int.max_eq_left (by omega)]
set_option maxRecDepth 20000 in
theorem S9       {E : Bb}  (hE : Ah    E) {q : Nat} {T : List RT} {O : List Nat} (hT : T.length ≤ 1000) (hkl : ∀ t ∈ T, t.kids.length ≤ 3) : ∀ (n x : Nat), x < n → x < T.length → ∀ (s : AD)  (K : AV → AD  → Prop), Nf  s q T O →
    (∀ (d:Int) s',0≤d→d≤(x:Int)+1→BK s.next s s'→K (iv d) s')→WF E 80 [.ptr (some (q,0)),iv (x:Int)] K s:=by
  intro n
  induction n with
  | zero=>intro x h;omega
  | succ n ihn =>
    intro x hxn hx s K h hK
    have ht:T[x]? = some T[x]:=cY hx
    have htm:T[x]∈T:=dd _
    generalize htt:T[x]=t at ht htm
    have hlow:=h.low x t ht
    have hkl3:=hkl t htm
    obtain⟨tv,OT,_,_,hk,_⟩:=h.ex
    obtain⟨hcon,hkid⟩:=hk t htm
    have hrd:=hkid.rd h.lt
    have hlen:=hrd.len
    obtain⟨c0,c1,c2,c3,c4,c5,c6,hc,huc⟩:=t.ten hcon
    have hcall:Aa t.cells=true:=by
      obtain⟨tag,d1,d2,d3,d5,d6,hd,_,q1,q2,q3,q5,q6⟩:=BL _ (dT hcon (by omega:11<13))
      show Aa ([iv t.kind,iv t.id]++(Tm.con t.con).cells++[t.kv])=true
      have hkv:t.kv.isCell=true:=by rcases hkid with⟨_,e⟩ | ⟨_,e,_⟩<;>rw[e]<;>rfl
      rw[hd]
      simp only[cO,cL,Aa,Xl,Xq,q1,q2,q3,q5,q6,hkv,Bool.and_self]
    rw[huc]at hcall
    simp only[Aa,Bool.and_eq_true,and_true]at hcall
    obtain⟨_,_,p0,p1,p2,p3,p4,p5,p6,p7⟩:=hcall
    have hrat:=fun(K:AV→AD→Prop)=>ZO (K:=K) hE h (x:=(x:Int)) (t:=t) (by omega) (by simpa using ht)
    rw[huc]at hrat
    refine hE.go Y0 (by decide) rfl ?_
    simp only[cD,XO,XP,XQ,Qa,Qb,Qc,Qd,Qe,Qf,Qg,Qh,Qi,Qj,Qk,Ql,Qm,Qn,true_and,and_true,Qo,Qp,Qq,Qr,Qs,Qt,Qu,Qv,Qw,Qx,Qy,Qz,Ra,Rb,Rc,Rd,Re,Rf,Rg,Rh,Ri,Rj,Rk,Rl,Rm,Ya,Yb,Yc,Rn,Ro,Xv,Yd,Ye,Rq,Rs,Rt,Ru,Rw,Rx,Ry]
    refine hrat _ fun s1 ho1=>?_
    generalize hs1:s1.next=b
    have hs10:s1=ext s1 []:=(Ac s1).symm
    have hnx:(ext s1 [R 122 0 false t.cells]).next=b+1:=by rw[Wm,hs1,AF];rfl
    have hbox:(ext s1 [R 122 0 false t.cells]).heap.get (nid b 0)=some (R 122 0 false t.cells):=by rw[Wg hs1 (by simp)];rfl
    have hoe:BK s.next s (ext s1 [R 122 0 false t.cells]):=ho1.trans (AM.mono ho1.1)
    have hgenS:∃sB,sB=ext s1 [R 122 0 false t.cells]:=⟨_,rfl⟩
    obtain⟨sB,hsB⟩:=hgenS
    rw[← hsB]at hnx hbox hoe
    rw[huc]at hsB hbox
    have key:∀ (m i:Nat) (s2:AD) (d:Int) (a6:AV),m+i=t.kids.length→BK sB.next sB s2→0≤d→d≤(x:Int) →
        WC E none (AW.loop LR) (Ab 0 (Hy (fun x x_1 x_2=>Qb E RU (fun v s'=>JO (B5 s' x_1) fun s'=>K (Iu v 2) s') [] x x_2) (Ends Tryz.prog [(CX.var 2,none)] K)))
          [.ptr (some (q,0)),iv (x:Int),iv 0,iv d,.ptr (some (nid b 0,0)),iv (i:Int),a6] [] s2:=by
      intro m
      induction m with
      | zero =>
        intro i s2 d a6 hi ho2 hd0 F0
        have hb2:s2.heap.get (nid b 0)=some (R 122 0 false [iv t.kind,iv t.id,c0,c1,c2,c3,c4,c5,c6,t.kv]):=by rw[ho2.2 _ (by rw[hnx,AF];omega)];exact hbox
        have hlt:¬ ((i:Int)<(t.kids.length:Int)):=by omega
        have hadd:i64 (d+1):=by unfold i64;omega
        refine WC.loop' ?_
        simp only[LR,RR,Qa,Qb,Qc,Qd,Qe,Qf,Qg,Qh,Qi,Qj,Qk,Ql,Qm,Qn,true_and,and_true,Qo,Qp,Qq,Qr,Qs,Qt,Qu,Qv,Qw,Qx,Qy,Qz,Ra,Rb,Rc,Rd,Re,Rf,Rg,Rh,Ri,Rj,Rk,Rl,Rm,Ya,Yb,Yc,Rn,Ro,Xv,Yd,Ye,Rq,Rs,Rt,Ru,Rw,Rx,Ry,hb2,Fb,Do,hlen,Rq,hlt,decide_false,Rz,Wa,Wb,Wc,Wd,We,Wf,Wg,Wh,Wi,Wj,Wl,Wm,Wn,Wp,Wq,Wr,Ws,Wt,Wu,Wv,Ww,Wx,Wy,Wz,Xa,Xb,Xc,Xd,Xe,Xf,Xg,Xh,Xi,Xj,Xk,Xl,Xm,Xn,Xo,Xp,Xq,Xr,cN,cP,cO,cL,cQ,cR,List.getElem?_cons_zero,List.getElem?_cons_succ,cM,cT,cU,cV,cK,Nat.reduceAdd,Nat.reduceLT,Nat.reduceLeDiff,decide_true,decide_false,Bool.true_and,Bool.and_true,cW,cJ,Option.some.injEq,Xs,Xt,Xu,Xv]
        rw[if_pos trivial]
        simp only[RU,Qa,Qb,Qc,Qd,Qe,Qf,Qg,Qh,Qi,Qj,Qk,Ql,Qm,Qn,true_and,and_true,Qo,Qp,Qq,Qr,Qs,Qt,Qu,Qv,Qw,Qx,Qy,Qz,Ra,Rb,Rc,Rd,Re,Rf,Rg,Rh,Ri,Rj,Rk,Rl,Rm,Ya,Yb,Yc,Rn,Ro,Xv,Yd,Ye,Rq,Rs,Rt,Ru,Rw,Rx,Ry,A0 _ _ _ _ hadd]
        exact hK (d+1) s2 (by omega) (by omega) (hoe.trans (ho2.mono hoe.1))
      | succ m ih =>
        intro i s2 d a6 hi ho2 hd0 F0
        have hb2:s2.heap.get (nid b 0)=some (R 122 0 false [iv t.kind,iv t.id,c0,c1,c2,c3,c4,c5,c6,t.kv]):=by rw[ho2.2 _ (by rw[hnx,AF];omega)];exact hbox
        have hlt:((i:Int)<(t.kids.length:Int)):=by omega
        have hadd:i64 ((i:Int)+1):=by unfold i64;omega
        have hit:i<t.kids.length:=by omega
        have hko:=hlow t.kids[i] (dd _)
        have hkn:t.kids[i]=((t.kids[i].toNat:Nat):Int):=by omega
        have hor:BK s.next s s2:=hoe.trans (ho2.mono hoe.1)
        obtain⟨j,qq,cap,hv,hj,hld⟩:=(hrd.old hor).at (k:=i) (cY hit)
        have hrec:=fun(K:AV→AD→Prop)=>ihn t.kids[i].toNat (by omega) (by omega) s2 K (h.old hor)
        rw[← hkn]at hrec
        obtain⟨W,hW⟩:∃W,W=AW.loop LR:=⟨_,rfl⟩
        refine WC.loop' ?_
        rw[← hW]
        rw[hv]at hb2 hlen
        simp only[LR,RR,XS,Qa,Qb,Qc,Qd,Qe,Qf,Qg,Qh,Qi,Qj,Qk,Ql,Qm,Qn,true_and,and_true,Qo,Qp,Qq,Qr,Qs,Qt,Qu,Qv,Qw,Qx,Qy,Qz,Ra,Rb,Rc,Rd,Re,Rf,Rg,Rh,Ri,Rj,Rk,Rl,Rm,Ya,Yb,Yc,Rn,Ro,Xv,Yd,Ye,Rq,Rs,Rt,Ru,Rw,Rx,Ry,hb2,Fb,CV,Do,hlen,Rq,hlt,decide_true,AU Tryz.underlying27 Dt hit,ct,hld,Rz,Wa,Wb,Wc,Wd,We,Wf,Wg,Wh,Wi,Wj,Wl,Wm,Wn,Wp,Wq,Wr,Ws,Wt,Wu,Wv,Ww,Wx,Wy,Wz,Xa,Xb,Xc,Xd,Xe,Xf,Xg,Xh,Xi,Xj,Xk,Xl,Xm,Xn,Xo,Xp,Xq,Xr,cN,cP,cO,cL,cQ,cR,List.getElem?_cons_zero,List.getElem?_cons_succ,cM,cT,cU,cV,cK,Nat.reduceAdd,Nat.reduceLT,Nat.reduceLeDiff,decide_true,decide_false,Bool.true_and,Bool.and_true,cW,cJ,Option.some.injEq,Xs,Xt,Xu,Xv]
        refine hrec _ fun d2 s3 e1 e2 e3=>?_
        have:=ih (i+1) s3 (max d d2) (.bool true) (by omega) (ho2.trans (e3.mono ho2.1)) (by omega) (by omega)
        rw[← hW,show((i+1:Nat):Int)=(i:Int)+1 from by omega]at this
        simp only[Qa,Qb,Qc,Qd,Qe,Qf,Qg,Qh,Qi,Qj,Qk,Ql,Qm,Qn,true_and,and_true,Qo,Qp,Qq,Qr,Qs,Qt,Qu,Qv,Qw,Qx,Qy,Qz,Ra,Rb,Rc,Rd,Re,Rf,Rg,Rh,Ri,Rj,Rk,Rl,Rm,Ya,Yb,Yc,Rn,Ro,Xv,Yd,Ye,Rq,Rs,Rt,Ru,Rw,Rx,Ry,XT,ZK,A0 _ _ _ _ hadd]
        exact this
    rw[hs10]
    simp only[Qa,Qb,Qc,Qd,Qe,Qf,Qg,Qh,Qi,Qj,Qk,Ql,Qm,Qn,true_and,and_true,Qo,Qp,Qq,Qr,Qs,Qt,Qu,Qv,Qw,Qx,Qy,Qz,Ra,Rb,Rc,Rd,Re,Rf,Rg,Rh,Ri,Rj,Rk,Rl,Rm,Ya,Yb,Yc,Rn,Ro,Xv,Yd,Ye,Rq,Rs,Rt,Ru,Rw,Rx,Ry,hs1,YF,JD,Nj,p0,p1,p2,p3,p4,p5,p6,p7,XR,Rz,Wa,Wb,Wc,Wd,We,Wf,Wg,Wh,Wi,Wj,Wl,Wm,Wn,Wp,Wq,Wr,Ws,Wt,Wu,Wv,Ww,Wx,Wy,Wz,Xa,Xb,Xc,Xd,Xe,Xf,Xg,Xh,Xi,Xj,Xk,Xl,Xm,Xn,Xo,Xp,Xq,Xr,cN,cP,cO,cL,cQ,cR,List.getElem?_cons_zero,List.getElem?_cons_succ,cM,cT,cU,cV,cK,Nat.reduceAdd,Nat.reduceLT,Nat.reduceLeDiff,decide_true,decide_false,Bool.true_and,Bool.and_true,cW,cJ,Option.some.injEq,Xs,Xt,Xu,Xv]
    rw[← hsB]
    exact key t.kids.length 0 sB 0 _ (by omega) (BK.refl _ _) (by omega) (by omega)
theorem SR(n m:Int):AQ Tryz.prog .geq 5 (.int .u8 n) (.int .u8 m)=some (.bool (decide (m≤n))):=by
 show some (AV.bool (!JH n m))=_
 rw[B4,← decide_not]
 congr 3
 exact propext Int.not_lt
theorem UH(a:Int):CF false (iv a) [iv 6]=some (iv (min a 6)):=by
 show AH true (some (iv (bif JH 6 a then 6 else a)))=_
 rw[B4]
 show some (iv _)=_
 by_cases h:(6:Int)<a
 ·simp only[h,decide_true,cond_true];rw[Int.min_eq_right (by omega)]
 ·simp only[h,decide_false,cond_false];rw[Int.min_eq_left (by omega)]
set_option maxRecDepth 20000 in
theorem TU       {E : Bb}  (hE : Ah    E) {s : AD}  {q : Nat} {T : List RT} {O : List Nat} (h : Nf  s q T O) (hT : T.length ≤ 900) (hkl : ∀ t ∈ T, t.kids.length ≤ 3) {n : Nat} (hn : n < 256) {K : AV → AD  → Prop}
    (hK:∀ (d:Int) s',BK s.next s s'→K (iv d) s'):WF E 62 [.ptr (some (q,0)),CY n] K s:=by
  obtain⟨tv,OT,hobj,hbuf,_⟩:=h.ex
  obtain⟨a,c,rfl,_⟩:=hbuf.slice
  refine hE.go Yu (by decide) rfl ?_
  have hdeep:=fun(x:Nat) hx (K:AV→AD→Prop)=>S9 hE (by omega) hkl (x+1) x (by omega) hx s K h
  by_cases h0:T.length=0
  · have hd:decide ((T.length:Int)=0)=true:=decide_eq_true (by omega)
    simp only[bC,Nx,Ny,XC,Qa,Qb,Qc,Qd,Qe,Qf,Qg,Qh,Qi,Qj,Qk,Ql,Qm,Qn,true_and,and_true,Qo,Qp,Qq,Qr,Qs,Qt,Qu,Qv,Qw,Qx,Qy,Qz,Ra,Rb,Rc,Rd,Re,Rf,Rg,Rh,Ri,Rj,Rk,Rl,Rm,Ya,Yb,Yc,Rn,Ro,Xv,Yd,Ye,Rq,Rs,Rt,Ru,Rw,Rx,Ry,Rw,hobj,Cf,G0,Af Tryz.underlying78,hd,Rz,Wa,Wb,Wc,Wd,We,Wf,Wg,Wh,Wi,Wj,Wl,Wm,Wn,Wp,Wq,Wr,Ws,Wt,Wu,Wv,Ww,Wx,Wy,Wz,Xa,Xb,Xc,Xd,Xe,Xf,Xg,Xh,Xi,Xj,Xk,Xl,Xm,Xn,Xo,Xp,Xq,Xr,cN,cP,cO,cL,cQ,cR,List.getElem?_cons_zero,List.getElem?_cons_succ,cM,cT,cU,cV,cK,Nat.reduceAdd,Nat.reduceLT,Nat.reduceLeDiff,decide_true,decide_false,Bool.true_and,Bool.and_true,cW,cJ,Option.some.injEq,Xs,Xt,Xu,Xv]
    exact hK 0 s (BK.refl _ _)
  · have hd : decide ((T.length : Int) = 0) = false := decide_eq_false (by omega)
    have hr1:AQ Tryz.prog .rem 3 (iv (n:Int)) (iv (T.length:Int))=some (iv (((n % T.length:Nat)):Int)):=by
      have:=H3 (P:=Tryz.prog) (t:=3) (k:=.i64) (a:=(n:Int)) (b:=(T.length:Int)) (by omega) (by omega)
      rw[this];rfl
    have hm1:n % T.length<T.length:=Nat.mod_lt _ (by omega)
    have fin:∀ (x:Nat),x<T.length→WF E 80 [.ptr (some (q,0)),iv (x:Int)] (fun v s'=>∃d,v=iv d∧BK s.next s s') s:=fun x hx=>hdeep x hx _ fun d s' _ _ ho=>⟨d,rfl,ho⟩
    by_cases hg:(128:Int)≤(n:Int)
    · have hdg : decide ((128 : Int) ≤ (n : Int)) = true := decide_eq_true hg
      have hs1:i64 ((T.length:Int) - 1):=by unfold i64;omega
      have hmin:(min (T.length:Int) 6)=((min T.length 6:Nat):Int):=by omega
      have hr2:AQ Tryz.prog .rem 3 (iv (n:Int)) (iv ((min T.length 6:Nat):Int))=some (iv ((n % min T.length 6:Nat):Int)):=by
        have:=H3 (P:=Tryz.prog) (t:=3) (k:=.i64) (a:=(n:Int)) (b:=((min T.length 6:Nat):Int)) (by omega) (by omega)
        rw[this];rfl
      have hm2:n % min T.length 6<min T.length 6:=Nat.mod_lt _ (by omega)
      have hs2:i64 (((T.length:Int) - 1) - ((n % min T.length 6:Nat):Int)):=by unfold i64;omega
      have he2:((T.length:Int) - 1) - ((n % min T.length 6:Nat):Int)=((T.length - 1 - n % min T.length 6:Nat):Int):=by omega
      simp only[bC,Nx,Ny,RM,RN,XD,Qa,Qb,Qc,Qd,Qe,Qf,Qg,Qh,Qi,Qj,Qk,Ql,Qm,Qn,true_and,and_true,Qo,Qp,Qq,Qr,Qs,Qt,Qu,Qv,Qw,Qx,Qy,Qz,Ra,Rb,Rc,Rd,Re,Rf,Rg,Rh,Ri,Rj,Rk,Rl,Rm,Ya,Yb,Yc,Rn,Ro,Xv,Yd,Ye,Rq,Rs,Rt,Ru,Rw,Rx,Ry,Rw,hobj,Cf,G0,Af Tryz.underlying78,hd,GS hn,hr1,SR,hdg,FM _ _ _ _ hs1,UH,hmin,hr2,FM _ _ _ _ hs2,he2,RO,Rz,Wa,Wb,Wc,Wd,We,Wf,Wg,Wh,Wi,Wj,Wl,Wm,Wn,Wp,Wq,Wr,Ws,Wt,Wu,Wv,Ww,Wx,Wy,Wz,Xa,Xb,Xc,Xd,Xe,Xf,Xg,Xh,Xi,Xj,Xk,Xl,Xm,Xn,Xo,Xp,Xq,Xr,cN,cP,cO,cL,cQ,cR,List.getElem?_cons_zero,List.getElem?_cons_succ,cM,cT,cU,cV,cK,Nat.reduceAdd,Nat.reduceLT,Nat.reduceLeDiff,decide_true,decide_false,Bool.true_and,Bool.and_true,cW,cJ,Option.some.injEq,Xs,Xt,Xu,Xv]
      refine(fin _ (by omega)).mono ?_
      rintro v s' ⟨d,rfl,ho⟩
      by_cases h8:(8:Int)<d
      · simp only[Qa,Qb,Qc,Qd,Qe,Qf,Qg,Qh,Qi,Qj,Qk,Ql,Qm,Qn,true_and,and_true,Qo,Qp,Qq,Qr,Qs,Qt,Qu,Qv,Qw,Qx,Qy,Qz,Ra,Rb,Rc,Rd,Re,Rf,Rg,Rh,Ri,Rj,Rk,Rl,Rm,Ya,Yb,Yc,Rn,Ro,Xv,Yd,Ye,Rq,Rs,Rt,Ru,Rw,Rx,Ry,Rs,h8,decide_true,RP]
        exact hK 0 s' ho
      · simp only[Qa,Qb,Qc,Qd,Qe,Qf,Qg,Qh,Qi,Qj,Qk,Ql,Qm,Qn,true_and,and_true,Qo,Qp,Qq,Qr,Qs,Qt,Qu,Qv,Qw,Qx,Qy,Qz,Ra,Rb,Rc,Rd,Re,Rf,Rg,Rh,Ri,Rj,Rk,Rl,Rm,Ya,Yb,Yc,Rn,Ro,Xv,Yd,Ye,Rq,Rs,Rt,Ru,Rw,Rx,Ry,Rs,h8,decide_false,RQ]
        exact hK _ s' ho
    · have hdg:decide ((128:Int)≤(n:Int))=false:=decide_eq_false hg
      simp only[bC,Nx,Ny,RM,RN,Qa,Qb,Qc,Qd,Qe,Qf,Qg,Qh,Qi,Qj,Qk,Ql,Qm,Qn,true_and,and_true,Qo,Qp,Qq,Qr,Qs,Qt,Qu,Qv,Qw,Qx,Qy,Qz,Ra,Rb,Rc,Rd,Re,Rf,Rg,Rh,Ri,Rj,Rk,Rl,Rm,Ya,Yb,Yc,Rn,Ro,Xv,Yd,Ye,Rq,Rs,Rt,Ru,Rw,Rx,Ry,Rw,hobj,Cf,G0,Af Tryz.underlying78,hd,GS hn,hr1,SR,hdg,RO,Rz,Wa,Wb,Wc,Wd,We,Wf,Wg,Wh,Wi,Wj,Wl,Wm,Wn,Wp,Wq,Wr,Ws,Wt,Wu,Wv,Ww,Wx,Wy,Wz,Xa,Xb,Xc,Xd,Xe,Xf,Xg,Xh,Xi,Xj,Xk,Xl,Xm,Xn,Xo,Xp,Xq,Xr,cN,cP,cO,cL,cQ,cR,List.getElem?_cons_zero,List.getElem?_cons_succ,cM,cT,cU,cV,cK,Nat.reduceAdd,Nat.reduceLT,Nat.reduceLeDiff,decide_true,decide_false,Bool.true_and,Bool.and_true,cW,cJ,Option.some.injEq,Xs,Xt,Xu,Xv]
      refine(fin _ hm1).mono ?_
      rintro v s' ⟨d,rfl,ho⟩
      by_cases h8:(8:Int)<d
      · simp only[Qa,Qb,Qc,Qd,Qe,Qf,Qg,Qh,Qi,Qj,Qk,Ql,Qm,Qn,true_and,and_true,Qo,Qp,Qq,Qr,Qs,Qt,Qu,Qv,Qw,Qx,Qy,Qz,Ra,Rb,Rc,Rd,Re,Rf,Rg,Rh,Ri,Rj,Rk,Rl,Rm,Ya,Yb,Yc,Rn,Ro,Xv,Yd,Ye,Rq,Rs,Rt,Ru,Rw,Rx,Ry,Rs,h8,decide_true,RP]
        exact hK 0 s' ho
      · simp only[Qa,Qb,Qc,Qd,Qe,Qf,Qg,Qh,Qi,Qj,Qk,Ql,Qm,Qn,true_and,and_true,Qo,Qp,Qq,Qr,Qs,Qt,Qu,Qv,Qw,Qx,Qy,Qz,Ra,Rb,Rc,Rd,Re,Rf,Rg,Rh,Ri,Rj,Rk,Rl,Rm,Ya,Yb,Yc,Rn,Ro,Xv,Yd,Ye,Rq,Rs,Rt,Ru,Rw,Rx,Ry,Rs,h8,decide_false,RQ]
        exact hK _ s' ho
end
end Go.Proofs.YtickdehehcmfbaaGreatDoor.Am
