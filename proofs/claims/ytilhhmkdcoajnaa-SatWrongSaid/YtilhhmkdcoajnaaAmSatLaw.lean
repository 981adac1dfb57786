/- The compiled code of the laws of layer 19 and of their reference, printed by a program of ours (dev/Print.lean) and checked by the kernel; conditions: none. -/
import Derived.Test.YtilhhmkdcoajnaaAmSatCode
set_option linter.unusedVariables false
set_option linter.unusedSimpArgs false
namespace Go.Proofs.Ytilhhmkdcoajnaa.Am
open Go Go.Proofs
noncomputable section
def c31o0:List CItem:=[
  ⟨none,.p1 some,[(.const (.slice none 0 (some 0)))],(.set 3),[]⟩]
def c31o1:List CItem:=[
  ⟨none,.p1 some,[(.const (.slice none 0 (some 0)))],(.set 4),[]⟩]
def c31o2:List CItem:=[
  ⟨none,.p1 some,[(.const (.int .i64 (0)))],(.set 5),[]⟩]
def c31o3:List CItem:=[
  ⟨none,.r (fun s l=>match l with | [x]=>lenA Try.prog s 42 x | _=>none),[.var 1],.push,[]⟩,
  ⟨none,.p2 (binA Try.prog .lss 3),[.var 5,.loc 0],.push,[]⟩,
  ⟨(some ((.loc 0),true)),.p1 some,[.var 4],.push,[]⟩,
  ⟨(some ((.loc 1),true)),.r (fun s l=>match l with | [x]=>lenA Try.prog s 22 x | _=>none),[.loc 0],.push,[]⟩,
  ⟨(some ((.loc 2),true)),.p1 some,[.var 2],.push,[]⟩,
  ⟨(some ((.loc 3),true)),.p2 (binA Try.prog .lss 3),[.loc 1,.loc 0],.push,[]⟩,
  ⟨none,.p Rn,[(.loc 4),(.loc 0),(.const (.bool false))],(.set 10),[]⟩]
def c31o4:List CItem:=[
  ⟨none,.p2 (indexAddrA Try.prog 42),[.var 1,.var 5],.push,[]⟩,
  ⟨none,.r1 (fun s a=>loadV Try.prog s 5 a),[.loc 0],.push,[]⟩,
  ⟨none,.p2 (binA Try.prog .rem 5),[(.loc 0),(.const (.int .u8 (4)))],.push,[]⟩,
  ⟨none,.r1 (fun s x=>convA Try.prog s 5 3 x),[.loc 0],.push,[]⟩,
  ⟨none,.p2 (binA Try.prog .add 3),[(.const (.int .i64 (1))),(.loc 0)],.push,[]⟩,
  ⟨none,.p1 some,[.loc 0],(.set 6),[]⟩]
def c31o5:List CItem:=[
  ⟨none,.p2 (indexAddrA Try.prog 42),[.var 1,.var 5],.push,[]⟩,
  ⟨none,.r1 (fun s a=>loadV Try.prog s 5 a),[.loc 0],.push,[]⟩,
  ⟨none,.p2 (binA Try.prog .rem 5),[(.loc 0),(.const (.int .u8 (29)))],.push,[]⟩,
  ⟨none,.p2 (binA Try.prog .eql 5),[(.loc 0),(.const (.int .u8 (7)))],(.set 11),[]⟩]
def c31o6:List CItem:=[
  ⟨none,.p1 some,[(.const (.int .i64 (0)))],(.set 6),[]⟩]
def c31o7:List CItem:=[
  ⟨none,.p1 some,[.var 5],.push,[]⟩,
  ⟨none,.p2 (binA Try.prog .add 3),[(.loc 0),(.const (.int .i64 (1)))],.push,[]⟩,
  ⟨none,.p1 some,[.loc 0],(.set 5),[]⟩]
def c31o8:List CItem:=[
  ⟨none,.p1 some,[(.const (.slice none 0 (some 0)))],(.set 7),[]⟩]
def c31o9:List CItem:=[
  ⟨none,.p1 some,[(.const (.int .i64 (0)))],(.set 8),[]⟩]
def c31o10:List CItem:=[
  ⟨none,.p2 (binA Try.prog .lss 3),[.var 8,.var 6],.push,[]⟩,
  ⟨(some ((.loc 0),true)),.p1 some,[.var 5],.push,[]⟩,
  ⟨(some ((.loc 1),true)),.p1 some,[.var 1],.push,[]⟩,
  ⟨(some ((.loc 2),true)),.r (fun s l=>match l with | [x]=>lenA Try.prog s 42 x | _=>none),[.loc 0],.push,[]⟩,
  ⟨(some ((.loc 3),true)),.p2 (binA Try.prog .lss 3),[.loc 2,.loc 0],.push,[]⟩,
  ⟨none,.p Rn,[(.loc 4),(.loc 0),(.const (.bool false))],(.set 12),[]⟩]
def c31o11:List CItem:=[
  ⟨none,.p2 (indexAddrA Try.prog 42),[.var 1,.var 5],.push,[]⟩,
  ⟨none,.r1 (fun s a=>loadV Try.prog s 5 a),[.loc 0],.push,[]⟩,
  ⟨none,.p2 (binA Try.prog .quo 5),[(.loc 0),(.const (.int .u8 (2)))],.push,[]⟩,
  ⟨none,.r1 (fun s x=>convA Try.prog s 5 3 x),[.loc 0],.push,[]⟩,
  ⟨none,.p2 (binA Try.prog .rem 3),[.loc 0,.var 0],.push,[]⟩,
  ⟨none,.p2 (binA Try.prog .add 3),[(.const (.int .i64 (1))),(.loc 0)],.push,[]⟩,
  ⟨none,.p1 some,[.loc 0],(.set 9),[]⟩]
def c31o12:List CItem:=[
  ⟨none,.p2 (indexAddrA Try.prog 42),[.var 1,.var 5],.push,[]⟩,
  ⟨none,.r1 (fun s a=>loadV Try.prog s 5 a),[.loc 0],.push,[]⟩,
  ⟨none,.p2 (binA Try.prog .rem 5),[(.loc 0),(.const (.int .u8 (2)))],.push,[]⟩,
  ⟨none,.p2 (binA Try.prog .eql 5),[(.loc 0),(.const (.int .u8 (1)))],(.set 13),[]⟩]
def c31o13:List CItem:=[
  ⟨none,.p1 some,[.var 9],.push,[]⟩,
  ⟨none,.p1 (unA Try.prog Go.UnOp.neg),[.loc 0],.push,[]⟩,
  ⟨none,.p1 some,[.loc 0],(.set 9),[]⟩]
def c31o14:List CItem:=[
  ⟨none,.p1 some,[.var 7],.push,[]⟩,
  ⟨none,.mk (fun l=>(sliceRowA Try.prog 23 1 (zipIdx [0] l)).bind fun r=>some (r,.slice 1)),[.var 9],.push,[]⟩,
  ⟨none,.e (fun s l=>appendA Try.prog s [23,23] l),[.loc 1,.loc 0],.push,[]⟩,
  ⟨none,.p1 some,[.loc 0],(.set 7),[]⟩]
def c31o15:List CItem:=[
  ⟨none,.p1 some,[.var 5],.push,[]⟩,
  ⟨none,.p2 (binA Try.prog .add 3),[(.loc 0),(.const (.int .i64 (1)))],.push,[]⟩,
  ⟨none,.p1 some,[.loc 0],(.set 5),[]⟩]
def c31o16:List CItem:=[
  ⟨none,.p1 some,[.var 8],.push,[]⟩,
  ⟨none,.p2 (binA Try.prog .add 3),[(.loc 0),(.const (.int .i64 (1)))],.push,[]⟩,
  ⟨none,.p1 some,[.loc 0],(.set 8),[]⟩]
def c31l17:CCode:=(.seq (.seq (.ops c31o10) (.cond (.var 12)
  .skip
  (.exit 2))) (.seq (.block 3 (.seq (.ops c31o11) (.seq (.seq (.ops c31o12) (.cond (.var 13)
  (.ops c31o13)
  .skip)) (.seq (.ops c31o14) (.ops c31o15))))) (.ops c31o16)))
def c31o18:List CItem:=[
  ⟨none,.r (fun s l=>match l with | [x]=>lenA Try.prog s 23 x | _=>none),[.var 7],.push,[]⟩,
  ⟨none,.p2 (binA Try.prog .gtr 3),[(.loc 0),(.const (.int .i64 (0)))],.push,[]⟩,
  ⟨(some ((.loc 0),false)),.p1 some,[.var 6],.push,[]⟩,
  ⟨(some ((.loc 1),false)),.p2 (binA Try.prog .eql 3),[(.loc 0),(.const (.int .i64 (0)))],.push,[]⟩,
  ⟨(some ((.loc 2),false)),.p1 some,[.loc 0],.push,[]⟩,
  ⟨(some ((.loc 0),true)),.p1 some,[.var 1],.push,[]⟩,
  ⟨(some ((.loc 1),true)),.p1 some,[.var 5],.push,[]⟩,
  ⟨(some ((.loc 2),true)),.p2 (binA Try.prog .sub 3),[(.loc 0),(.const (.int .i64 (1)))],.push,[]⟩,
  ⟨(some ((.loc 3),true)),.p2 (indexAddrA Try.prog 42),[.loc 2,.loc 0],.push,[]⟩,
  ⟨(some ((.loc 4),true)),.r1 (fun s a=>loadV Try.prog s 5 a),[.loc 0],.push,[]⟩,
  ⟨(some ((.loc 5),true)),.p2 (binA Try.prog .eql 5),[(.loc 0),(.const (.int .u8 (7)))],.push,[]⟩,
  ⟨(some ((.loc 9),false)),.p Rn,[(.loc 6),(.loc 0),(.const (.bool false))],.push,[]⟩,
  ⟨none,.p Rn,[(.loc 10),(.const (.bool true)),(.loc 0)],(.set 14),[]⟩]
def c31o19:List CItem:=[
  ⟨none,.p1 some,[.var 4],.push,[]⟩,
  ⟨none,.mk (fun l=>(sliceRowA Try.prog 22 1 (zipIdx [0] l)).bind fun r=>some (r,.slice 1)),[.var 7],.push,[]⟩,
  ⟨none,.e (fun s l=>appendA Try.prog s [22,22] l),[.loc 1,.loc 0],.push,[]⟩,
  ⟨none,.p1 some,[.loc 0],(.set 4),[]⟩]
def c31l20:CCode:=(.seq (.seq (.ops c31o3) (.cond (.var 10)
  .skip
  (.exit 0))) (.block 1 (.seq (.ops c31o4) (.seq (.seq (.ops c31o5) (.cond (.var 11)
  (.ops c31o6)
  .skip)) (.seq (.ops c31o7) (.seq (.ops c31o8) (.seq (.seq (.ops c31o9) (.block 2 (.loop c31l17))) (.seq (.ops c31o18) (.cond (.var 14)
  (.ops c31o19)
  .skip)))))))))
def c31o21:List CItem:=[
  ⟨none,.p1 some,[.var 4],(.set 3),[]⟩]
def c31:CFunc:=⟨3,15,(.seq (.ops c31o0) (.seq (.ops c31o1) (.seq (.seq (.ops c31o2) (.block 0 (.loop c31l20))) (.seq (.ops c31o21) .ret)))),[((.var 3),none)]⟩
def c32o0:List CItem:=[
  ⟨none,.p1 some,[(.const (.ptr none))],(.set 2),[]⟩]
def c32o1:List CItem:=[
  ⟨none,.call 40,[.var 0],.push,[]⟩,
  ⟨none,.p1 some,[.loc 0],(.set 3),[]⟩]
def c32o2:List CItem:=[
  ⟨none,.p2 (binA Try.prog .eql 44),[(.var 3),(.const (.ptr none))],.push,[]⟩,
  ⟨(some ((.loc 0),false)),.p1 some,[.var 3],.push,[]⟩,
  ⟨(some ((.loc 1),false)),.call 47,[.loc 0],.push,[]⟩,
  ⟨(some ((.loc 2),false)),.p1 some,[.var 0],.push,[]⟩,
  ⟨(some ((.loc 3),false)),.p2 (binA Try.prog .neq 3),[.loc 1,.loc 0],.push,[]⟩,
  ⟨none,.p Rn,[(.loc 4),(.const (.bool true)),(.loc 0)],(.set 5),[]⟩]
def c32o3:List CItem:=[
  ⟨none,.p1 some,[(.const (.ptr none))],(.set 2),[]⟩]
def c32o4:List CItem:=[
  ⟨none,.p1 some,[(.const (.int .i64 (0)))],(.set 4),[]⟩]
def c32o5:List CItem:=[
  ⟨none,.r (fun s l=>match l with | [x]=>lenA Try.prog s 22 x | _=>none),[.var 1],.push,[]⟩,
  ⟨none,.p2 (binA Try.prog .lss 3),[.var 4,.loc 0],(.set 6),[]⟩]
def c32o6:List CItem:=[
  ⟨none,.p2 (indexAddrA Try.prog 22),[.var 1,.var 4],.push,[]⟩,
  ⟨none,.r1 (fun s a=>loadV Try.prog s 23 a),[.loc 0],.push,[]⟩,
  ⟨none,.call 36,[.var 3,.loc 0],.push,[]⟩,
  ⟨none,.p2 (binA Try.prog .neq 49),[(.loc 0),(.const (.int .i64 (0)))],(.set 7),[]⟩]
def c32o7:List CItem:=[
  ⟨none,.p1 some,[(.const (.ptr none))],(.set 2),[]⟩]
def c32o8:List CItem:=[
  ⟨none,.p1 some,[.var 4],.push,[]⟩,
  ⟨none,.p2 (binA Try.prog .add 3),[(.loc 0),(.const (.int .i64 (1)))],.push,[]⟩,
  ⟨none,.p1 some,[.loc 0],(.set 4),[]⟩]
def c32l9:CCode:=(.seq (.seq (.ops c32o5) (.cond (.var 6)
  .skip
  (.exit 0))) (.seq (.block 1 (.seq (.ops c32o6) (.cond (.var 7)
  (.seq (.ops c32o7) .ret)
  .skip))) (.ops c32o8)))
def c32o10:List CItem:=[
  ⟨none,.p1 some,[.var 3],(.set 2),[]⟩]
def c32:CFunc:=⟨2,8,(.seq (.ops c32o0) (.seq (.ops c32o1) (.seq (.seq (.ops c32o2) (.cond (.var 5)
  (.seq (.ops c32o3) .ret)
  .skip)) (.seq (.seq (.ops c32o4) (.block 0 (.loop c32l9))) (.seq (.ops c32o10) .ret))))),[((.var 2),none)]⟩
def c37o0:List CItem:=[
  ⟨none,.p1 some,[(.const (.bool false))],(.set 0),[]⟩]
def c37o1:List CItem:=[
  ⟨none,.call 40,[(.const (.int .i64 (2)))],.push,[]⟩,
  ⟨none,.p1 some,[.loc 0],(.set 1),[]⟩]
def c37o2:List CItem:=[
  ⟨none,.call 47,[.var 1],.push,[]⟩,
  ⟨none,.p2 (binA Try.prog .neq 3),[(.loc 0),(.const (.int .i64 (2)))],.push,[]⟩,
  ⟨(some ((.loc 0),false)),.p1 some,[.var 1],.push,[]⟩,
  ⟨(some ((.loc 1),false)),.call 34,[(.loc 0),(.const (.int .i64 (729)))],.push,[]⟩,
  ⟨(some ((.loc 2),false)),.p2 (binA Try.prog .neq 3),[(.loc 0),(.const (.int .i64 (1)))],.push,[]⟩,
  ⟨none,.p Rn,[(.loc 3),(.const (.bool true)),(.loc 0)],(.set 4),[]⟩]
def c37o3:List CItem:=[
  ⟨none,.p1 some,[(.const (.bool false))],(.set 0),[]⟩]
def c37o4:List CItem:=[
  ⟨none,.mk (fun l=>(sliceRowA Try.prog 23 2 (zipIdx [0,1] l)).bind fun r=>some (r,.slice 2)),[(.const (.int .i64 (1))),(.const (.int .i64 (2)))],.push,[]⟩,
  ⟨none,.call 36,[.var 1,.loc 0],.push,[]⟩]
def c37o5:List CItem:=[
  ⟨none,.mk (fun l=>(sliceRowA Try.prog 23 2 (zipIdx [0,1] l)).bind fun r=>some (r,.slice 2)),[(.const (.int .i64 (-1))),(.const (.int .i64 (2)))],.push,[]⟩,
  ⟨none,.call 36,[.var 1,.loc 0],.push,[]⟩]
def c37o6:List CItem:=[
  ⟨none,.mk (fun l=>(sliceRowA Try.prog 23 2 (zipIdx [0,1] l)).bind fun r=>some (r,.slice 2)),[(.const (.int .i64 (1))),(.const (.int .i64 (-2)))],.push,[]⟩,
  ⟨none,.call 36,[.var 1,.loc 0],.push,[]⟩]
def c37o7:List CItem:=[
  ⟨none,.call 34,[(.var 1),(.const (.int .i64 (729)))],.push,[]⟩,
  ⟨none,.p2 (binA Try.prog .eql 3),[(.loc 0),(.const (.int .i64 (1)))],.push,[]⟩,
  ⟨(some ((.loc 0),true)),.p1 some,[.var 1],.push,[]⟩,
  ⟨(some ((.loc 1),true)),.call 41,[(.loc 0),(.const (.int .i64 (1)))],.push,[]⟩,
  ⟨none,.p Rn,[(.loc 2),(.loc 0),(.const (.bool false))],.push,[]⟩,
  ⟨(some ((.loc 0),true)),.p1 some,[.var 1],.push,[]⟩,
  ⟨(some ((.loc 1),true)),.call 41,[(.loc 0),(.const (.int .i64 (2)))],.push,[]⟩,
  ⟨none,.p Rn,[(.loc 2),(.loc 0),(.const (.bool false))],.push,[]⟩,
  ⟨none,.p1 some,[.loc 0],(.set 2),[]⟩]
def c37o8:List CItem:=[
  ⟨none,.mk (fun l=>(sliceRowA Try.prog 23 2 (zipIdx [0,1] l)).bind fun r=>some (r,.slice 2)),[(.const (.int .i64 (-1))),(.const (.int .i64 (-2)))],.push,[]⟩,
  ⟨none,.call 36,[.var 1,.loc 0],.push,[]⟩]
def c37o9:List CItem:=[
  ⟨none,.call 40,[(.const (.int .i64 (0)))],.push,[]⟩,
  ⟨none,.p1 some,[.loc 0],(.set 3),[]⟩]
def c37o10:List CItem:=[
  ⟨none,.call 36,[(.var 3),(.const (.slice none 0 (some 0)))],.push,[]⟩]
def c37o11:List CItem:=[
  ⟨(some ((.var 2),true)),.p1 some,[.var 1],.push,[]⟩,
  ⟨(some ((.var 2),true)),.call 34,[(.loc 0),(.const (.int .i64 (729)))],.push,[]⟩,
  ⟨(some ((.var 2),true)),.p2 (binA Try.prog .eql 3),[(.loc 0),(.const (.int .i64 (0)))],.push,[]⟩,
  ⟨none,.p Rn,[(.var 2),(.loc 0),(.const (.bool false))],.push,[]⟩,
  ⟨(some ((.loc 0),true)),.p1 some,[.var 3],.push,[]⟩,
  ⟨(some ((.loc 1),true)),.call 34,[(.loc 0),(.const (.int .i64 (0)))],.push,[]⟩,
  ⟨(some ((.loc 2),true)),.p2 (binA Try.prog .eql 3),[(.loc 0),(.const (.int .i64 (0)))],.push,[]⟩,
  ⟨none,.p Rn,[(.loc 3),(.loc 0),(.const (.bool false))],.push,[]⟩,
  ⟨none,.p1 some,[.loc 0],(.set 0),[]⟩]
def c37:CFunc:=⟨0,5,(.seq (.ops c37o0) (.seq (.ops c37o1) (.seq (.seq (.ops c37o2) (.cond (.var 4)
  (.seq (.ops c37o3) .ret)
  .skip)) (.seq (.ops c37o4) (.seq (.ops c37o5) (.seq (.ops c37o6) (.seq (.ops c37o7) (.seq (.ops c37o8) (.seq (.ops c37o9) (.seq (.ops c37o10) (.seq (.ops c37o11) .ret))))))))))),[((.var 0),none)]⟩
def c13o0:List CItem:=[
  ⟨none,.p1 some,[(.const (.bool false))],(.set 3),[]⟩]
def c13o1:List CItem:=[
  ⟨none,.call 37,[],.push,[]⟩,
  ⟨none,.p1 (unA Try.prog Go.UnOp.not),[.loc 0],(.set 14),[]⟩]
def c13o2:List CItem:=[
  ⟨none,.p1 some,[(.const (.bool false))],(.set 3),[]⟩]
def c13o3:List CItem:=[
  ⟨none,.p2 (binA Try.prog .rem 5),[(.var 0),(.const (.int .u8 (6)))],.push,[]⟩,
  ⟨none,.r1 (fun s x=>convA Try.prog s 5 3 x),[.loc 0],.push,[]⟩,
  ⟨none,.p2 (binA Try.prog .add 3),[(.const (.int .i64 (1))),(.loc 0)],.push,[]⟩,
  ⟨none,.p1 some,[.loc 0],(.set 4),[]⟩]
def c13o4:List CItem:=[
  ⟨none,.call 31,[(.var 4),(.var 1),(.const (.int .i64 (30)))],.push,[]⟩,
  ⟨none,.p1 some,[.loc 0],(.set 5),[]⟩]
def c13o5:List CItem:=[
  ⟨none,.call 32,[.var 4,.var 5],.push,[]⟩,
  ⟨none,.call 32,[.var 4,.var 5],.push,[]⟩,
  ⟨none,.p1 some,[.loc 1],(.set 6),[]⟩,
  ⟨none,.p1 some,[.loc 0],(.set 7),[]⟩]
def c13o6:List CItem:=[
  ⟨none,.p2 (binA Try.prog .eql 44),[(.var 6),(.const (.ptr none))],.push,[]⟩,
  ⟨(some ((.loc 0),false)),.p1 some,[.var 7],.push,[]⟩,
  ⟨(some ((.loc 1),false)),.p2 (binA Try.prog .eql 44),[(.loc 0),(.const (.ptr none))],.push,[]⟩,
  ⟨none,.p Rn,[(.loc 2),(.const (.bool true)),(.loc 0)],(.set 15),[]⟩]
def c13o7:List CItem:=[
  ⟨none,.p1 some,[(.const (.bool false))],(.set 3),[]⟩]
def c13o8:List CItem:=[
  ⟨none,.mk (fun l=>(sliceRowA Try.prog 23 3 (zipIdx [0,1,2] l)).bind fun r=>some (r,.slice 3)),[(.const (.int .i64 (1))),(.var 2),(.const (.int .i64 (-1)))],.push,[]⟩,
  ⟨none,.p1 some,[.loc 0],(.set 8),[]⟩]
def c13o9:List CItem:=[
  ⟨none,.call 36,[.var 6,.var 8],.push,[]⟩,
  ⟨none,.p1 some,[.loc 0],(.set 9),[]⟩]
def c13o10:List CItem:=[
  ⟨none,.p2 (binA Try.prog .eql 49),[(.var 9),(.const (.int .i64 (0)))],.push,[]⟩,
  ⟨none,.p2 (binA Try.prog .neq 3),[(.var 2),(.const (.int .i64 (0)))],.push,[]⟩,
  ⟨(some ((.loc 0),true)),.p1 some,[.var 2],.push,[]⟩,
  ⟨(some ((.loc 1),true)),.p1 some,[.var 4],.push,[]⟩,
  ⟨(some ((.loc 2),true)),.p1 (unA Try.prog Go.UnOp.neg),[.loc 0],.push,[]⟩,
  ⟨(some ((.loc 3),true)),.p2 (binA Try.prog .geq 3),[.loc 2,.loc 0],.push,[]⟩,
  ⟨none,.p Rn,[(.loc 4),(.loc 0),(.const (.bool false))],.push,[]⟩,
  ⟨(some ((.loc 0),true)),.p1 some,[.var 2],.push,[]⟩,
  ⟨(some ((.loc 1),true)),.p1 some,[.var 4],.push,[]⟩,
  ⟨(some ((.loc 2),true)),.p2 (binA Try.prog .leq 3),[.loc 1,.loc 0],.push,[]⟩,
  ⟨none,.p Rn,[(.loc 3),(.loc 0),(.const (.bool false))],.push,[]⟩,
  ⟨none,.p2 (binA Try.prog .neq 4),[.loc 10,.loc 0],.push,[]⟩,
  ⟨(some ((.loc 0),false)),.p1 some,[.var 9],.push,[]⟩,
  ⟨(some ((.loc 1),false)),.p2 (binA Try.prog .neq 49),[(.loc 0),(.const (.int .i64 (0)))],.push,[]⟩,
  ⟨(some ((.loc 2),false)),.p1 some,[.loc 0],.push,[]⟩,
  ⟨(some ((.loc 0),true)),.p1 some,[.var 9],.push,[]⟩,
  ⟨(some ((.loc 1),true)),.p2 (binA Try.prog .neq 49),[(.loc 0),(.const (.int .i64 (2)))],.push,[]⟩,
  ⟨(some ((.loc 5),false)),.p Rn,[(.loc 2),(.loc 0),(.const (.bool false))],.push,[]⟩,
  ⟨none,.p Rn,[(.loc 6),(.const (.bool true)),(.loc 0)],.push,[]⟩,
  ⟨(some ((.loc 0),false)),.p1 some,[.var 8],.push,[]⟩,
  ⟨(some ((.loc 1),false)),.p2 (indexAddrA Try.prog 23),[(.loc 0),(.const (.int .i64 (0)))],.push,[]⟩,
  ⟨(some ((.loc 2),false)),.r1 (fun s a=>loadV Try.prog s 3 a),[.loc 0],.push,[]⟩,
  ⟨(some ((.loc 3),false)),.p2 (binA Try.prog .neq 3),[(.loc 0),(.const (.int .i64 (1)))],.push,[]⟩,
  ⟨none,.p Rn,[(.loc 4),(.const (.bool true)),(.loc 0)],.push,[]⟩,
  ⟨(some ((.loc 0),false)),.p1 some,[.var 8],.push,[]⟩,
  ⟨(some ((.loc 1),false)),.p2 (indexAddrA Try.prog 23),[(.loc 0),(.const (.int .i64 (1)))],.push,[]⟩,
  ⟨(some ((.loc 2),false)),.r1 (fun s a=>loadV Try.prog s 3 a),[.loc 0],.push,[]⟩,
  ⟨(some ((.loc 3),false)),.p1 some,[.var 2],.push,[]⟩,
  ⟨(some ((.loc 4),false)),.p2 (binA Try.prog .neq 3),[.loc 1,.loc 0],.push,[]⟩,
  ⟨none,.p Rn,[(.loc 5),(.const (.bool true)),(.loc 0)],(.set 16),[]⟩]
def c13o11:List CItem:=[
  ⟨none,.p1 some,[(.const (.bool false))],(.set 3),[]⟩]
def c13o12:List CItem:=[
  ⟨none,.call 34,[(.var 6),(.const (.int .i64 (729)))],.push,[]⟩]
def c13o13:List CItem:=[
  ⟨none,.call 43,[.var 6],(.set 17),[]⟩,
  ⟨none,.r (fun s l=>match l with | [x]=>lenA Try.prog s 33 x | _=>none),[.var 17],(.set 18),[]⟩,
  ⟨none,.p1 some,[(.const (.int .i64 (0)))],(.set 19),[]⟩]
def c13o14:List CItem:=[
  ⟨none,.p2 (binA Try.prog .lss 3),[.var 19,.var 18],(.set 20),[]⟩]
def c13o15:List CItem:=[
  ⟨none,.p2 (indexAddrA Try.prog 33),[.var 17,.var 19],.push,[]⟩,
  ⟨none,.r1 (fun s a=>loadV Try.prog s 27 a),[.loc 0],.push,[]⟩,
  ⟨none,.mk (fun l=>match l with | []=>allocA Try.prog 27 | _=>none),[],(.set 10),[]⟩,
  ⟨none,.e (fun s=>on2 (fun a x=>withV (storeV Try.prog s 27 a x))),[.var 10,.loc 0],.push,[]⟩]
def c13o16:List CItem:=[
  ⟨none,.p1 some,[(.const (.int .i64 (0)))],(.set 11),[]⟩]
def c13o17:List CItem:=[
  ⟨none,.p1 (fun x=>fieldAddrA Try.prog 27 x 1),[.var 10],.push,[]⟩,
  ⟨none,.r1 (fun s a=>loadV Try.prog s 23 a),[.loc 0],.push,[]⟩,
  ⟨none,.r (fun s l=>match l with | [x]=>lenA Try.prog s 23 x | _=>none),[.loc 0],.push,[]⟩,
  ⟨none,.p2 (binA Try.prog .lss 3),[.var 11,.loc 0],(.set 21),[]⟩]
def c13o18:List CItem:=[
  ⟨none,.p1 (fun x=>fieldAddrA Try.prog 27 x 1),[.var 10],.push,[]⟩,
  ⟨none,.r1 (fun s a=>loadV Try.prog s 23 a),[.loc 0],.push,[]⟩,
  ⟨none,.p2 (indexAddrA Try.prog 23),[.loc 0,.var 11],.push,[]⟩,
  ⟨none,.e (fun s=>on2 (fun a x=>withV (storeV Try.prog s 3 a x))),[(.loc 0),(.const (.int .i64 (99)))],.push,[]⟩]
def c13o19:List CItem:=[
  ⟨none,.p1 some,[.var 11],.push,[]⟩,
  ⟨none,.p2 (binA Try.prog .add 3),[(.loc 0),(.const (.int .i64 (1)))],.push,[]⟩,
  ⟨none,.p1 some,[.loc 0],(.set 11),[]⟩]
def c13l20:CCode:=(.seq (.seq (.ops c13o17) (.cond (.var 21)
  .skip
  (.exit 2))) (.seq (.block 3 (.ops c13o18)) (.ops c13o19)))
def c13o21:List CItem:=[
  ⟨none,.p2 (binA Try.prog .add 3),[(.var 19),(.const (.int .i64 (1)))],.push,[]⟩,
  ⟨none,.p1 some,[.loc 0],(.set 19),[]⟩]
def c13l22:CCode:=(.seq (.ops c13o14) (.seq (.cond (.var 20)
  .skip
  (.exit 0)) (.seq (.block 1 (.seq (.ops c13o15) (.seq (.ops c13o16) (.block 2 (.loop c13l20))))) (.ops c13o21))))
def c13o23:List CItem:=[
  ⟨none,.call 43,[.var 6],(.set 22),[]⟩,
  ⟨none,.r (fun s l=>match l with | [x]=>lenA Try.prog s 33 x | _=>none),[.var 22],(.set 23),[]⟩,
  ⟨none,.p1 some,[(.const (.int .i64 (0)))],(.set 24),[]⟩]
def c13o24:List CItem:=[
  ⟨none,.p2 (binA Try.prog .lss 3),[.var 24,.var 23],(.set 25),[]⟩]
def c13o25:List CItem:=[
  ⟨none,.p2 (indexAddrA Try.prog 33),[.var 22,.var 24],.push,[]⟩,
  ⟨none,.r1 (fun s a=>loadV Try.prog s 27 a),[.loc 0],.push,[]⟩,
  ⟨none,.mk (fun l=>match l with | []=>allocA Try.prog 27 | _=>none),[],(.set 12),[]⟩,
  ⟨none,.e (fun s=>on2 (fun a x=>withV (storeV Try.prog s 27 a x))),[.var 12,.loc 0],.push,[]⟩]
def c13o26:List CItem:=[
  ⟨none,.p1 some,[(.const (.int .i64 (0)))],(.set 13),[]⟩]
def c13o27:List CItem:=[
  ⟨none,.p1 (fun x=>fieldAddrA Try.prog 27 x 1),[.var 12],.push,[]⟩,
  ⟨none,.r1 (fun s a=>loadV Try.prog s 23 a),[.loc 0],.push,[]⟩,
  ⟨none,.r (fun s l=>match l with | [x]=>lenA Try.prog s 23 x | _=>none),[.loc 0],.push,[]⟩,
  ⟨none,.p2 (binA Try.prog .lss 3),[.var 13,.loc 0],(.set 26),[]⟩]
def c13o28:List CItem:=[
  ⟨none,.p1 (fun x=>fieldAddrA Try.prog 27 x 1),[.var 12],.push,[]⟩,
  ⟨none,.r1 (fun s a=>loadV Try.prog s 23 a),[.loc 0],.push,[]⟩,
  ⟨none,.p2 (indexAddrA Try.prog 23),[.loc 0,.var 13],.push,[]⟩,
  ⟨none,.r1 (fun s a=>loadV Try.prog s 3 a),[.loc 0],.push,[]⟩,
  ⟨none,.p2 (binA Try.prog .eql 3),[(.loc 0),(.const (.int .i64 (99)))],(.set 27),[]⟩]
def c13o29:List CItem:=[
  ⟨none,.p1 some,[(.const (.bool false))],(.set 3),[]⟩]
def c13o30:List CItem:=[
  ⟨none,.p1 some,[.var 13],.push,[]⟩,
  ⟨none,.p2 (binA Try.prog .add 3),[(.loc 0),(.const (.int .i64 (1)))],.push,[]⟩,
  ⟨none,.p1 some,[.loc 0],(.set 13),[]⟩]
def c13l31:CCode:=(.seq (.seq (.ops c13o27) (.cond (.var 26)
  .skip
  (.exit 6))) (.seq (.block 7 (.seq (.ops c13o28) (.cond (.var 27)
  (.seq (.ops c13o29) .ret)
  .skip))) (.ops c13o30)))
def c13o32:List CItem:=[
  ⟨none,.p2 (binA Try.prog .add 3),[(.var 24),(.const (.int .i64 (1)))],.push,[]⟩,
  ⟨none,.p1 some,[.loc 0],(.set 24),[]⟩]
def c13l33:CCode:=(.seq (.ops c13o24) (.seq (.cond (.var 25)
  .skip
  (.exit 4)) (.seq (.block 5 (.seq (.ops c13o25) (.seq (.ops c13o26) (.block 6 (.loop c13l31))))) (.ops c13o32))))
def c13o34:List CItem:=[
  ⟨none,.call 34,[(.var 6),(.const (.int .i64 (729)))],.push,[]⟩,
  ⟨none,.call 34,[(.var 7),(.const (.int .i64 (729)))],.push,[]⟩,
  ⟨none,.p2 (binA Try.prog .eql 3),[.loc 1,.loc 0],.push,[]⟩,
  ⟨none,.p1 some,[.loc 0],(.set 3),[]⟩]
def c13:CFunc:=⟨3,28,(.seq (.ops c13o0) (.seq (.seq (.ops c13o1) (.cond (.var 14)
  (.seq (.ops c13o2) .ret)
  .skip)) (.seq (.ops c13o3) (.seq (.ops c13o4) (.seq (.ops c13o5) (.seq (.seq (.ops c13o6) (.cond (.var 15)
  (.seq (.ops c13o7) .ret)
  .skip)) (.seq (.ops c13o8) (.seq (.ops c13o9) (.seq (.seq (.ops c13o10) (.cond (.var 16)
  (.seq (.ops c13o11) .ret)
  .skip)) (.seq (.ops c13o12) (.seq (.seq (.ops c13o13) (.block 0 (.loop c13l22))) (.seq (.seq (.ops c13o23) (.block 4 (.loop c13l33))) (.seq (.ops c13o34) .ret))))))))))))),[((.var 3),none)]⟩
theorem comp31:compFunc Try.prog 31=some c31:=by kernel_rfl
theorem comp32:compFunc Try.prog 32=some c32:=by kernel_rfl
theorem comp37:compFunc Try.prog 37=some c37:=by kernel_rfl
theorem comp13:compFunc Try.prog 13=some c13:=by kernel_rfl
end
end Go.Proofs.Ytilhhmkdcoajnaa.Am
