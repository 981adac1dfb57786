/- The compiled code of the laws of layer 19 and of their reference, printed by a program of ours (dev/Print.lean) and checked by the kernel; conditions: none. -/
import Derived.Test.YtilhhmkdcoajnaaAmSatCode
set_option linter.unusedVariables false
set_option linter.unusedSimpArgs false
namespace Go.Proofs.Ytilhhmkdcoajnaa.Am
open Go Go.Proofs
noncomputable section
def c31o0:List CItem:=[
  ⟨none,.p1 some,[(.const (.slice none 0 (some 0)))],(.set 3),[]⟩]
def c31o1:List CItem:=[
  ⟨none,.p1 some,[(.const (.slice none 0 (some 0)))],(.set 4),[]⟩]
def c31o2:List CItem:=[
  ⟨none,.p1 some,[(.const (.int .i64 (0)))],(.set 5),[]⟩]
def c31o3:List CItem:=[
  ⟨none,.r (fun s l=>match l with | [x]=>lenA Try.prog s 42 x | _=>none),[.var 1],.push,[]⟩,
  ⟨none,.p2 (binA Try.prog .lss 3),[.var 5,.loc 0],.push,[]⟩,
  ⟨(some ((.loc 0),true)),.p1 some,[.var 4],.push,[]⟩,
  ⟨(some ((.loc 1),true)),.r (fun s l=>match l with | [x]=>lenA Try.prog s 22 x | _=>none),[.loc 0],.push,[]⟩,
  ⟨(some ((.loc 2),true)),.p1 some,[.var 2],.push,[]⟩,
  ⟨(some ((.loc 3),true)),.p2 (binA Try.prog .lss 3),[.loc 1,.loc 0],.push,[]⟩,
  ⟨none,.p Rn,[(.loc 4),(.loc 0),(.const (.bool false))],(.set 10),[]⟩]
def c31o4:List CItem:=[
  ⟨none,.p2 (indexAddrA Try.prog 42),[.var 1,.var 5],.push,[]⟩,
  ⟨none,.r1 (fun s a=>loadV Try.prog s 5 a),[.loc 0],.push,[]⟩,
  ⟨none,.p2 (binA Try.prog .rem 5),[(.loc 0),(.const (.int .u8 (4)))],.push,[]⟩,
  ⟨none,.r1 (fun s x=>convA Try.prog s 5 3 x),[.loc 0],.push,[]⟩,
  ⟨none,.p2 (binA Try.prog .add 3),[(.const (.int .i64 (1))),(.loc 0)],.push,[]⟩,
  ⟨none,.p1 some,[.loc 0],(.set 6),[]⟩]
def c31o5:List CItem:=[
  ⟨none,.p2 (indexAddrA Try.prog 42),[.var 1,.var 5],.push,[]⟩,
  ⟨none,.r1 (fun s a=>loadV Try.prog s 5 a),[.loc 0],.push,[]⟩,
  ⟨none,.p2 (binA Try.prog .rem 5),[(.loc 0),(.const (.int .u8 (29)))],.push,[]⟩,
  ⟨none,.p2 (binA Try.prog .eql 5),[(.loc 0),(.const (.int .u8 (7)))],(.set 11),[]⟩]
def c31o6:List CItem:=[
  ⟨none,.p1 some,[(.const (.int .i64 (0)))],(.set 6),[]⟩]
def c31o7:List CItem:=[
  ⟨none,.p1 some,[.var 5],.push,[]⟩,
  ⟨none,.p2 (binA Try.prog .add 3),[(.loc 0),(.const (.int .i64 (1)))],.push,[]⟩,
  ⟨none,.p1 some,[.loc 0],(.set 5),[]⟩]
def c31o8:List CItem:=[
  ⟨none,.p1 some,[(.const (.slice none 0 (some 0)))],(.set 7),[]⟩]
def c31o9:List CItem:=[
  ⟨none,.p1 some,[(.const (.int .i64 (0)))],(.set 8),[]⟩]
def c31o10:List CItem:=[
  ⟨none,.p2 (binA Try.prog .lss 3),[.var 8,.var 6],.push,[]⟩,
  ⟨(some ((.loc 0),true)),.p1 some,[.var 5],.push,[]⟩,
  ⟨(some ((.loc 1),true)),.p1 some,[.var 1],.push,[]⟩,
  ⟨(some ((.loc 2),true)),.r (fun s l=>match l with | [x]=>lenA Try.prog s 42 x | _=>none),[.loc 0],.push,[]⟩,
  ⟨(some ((.loc 3),true)),.p2 (binA Try.prog .lss 3),[.loc 2,.loc 0],.push,[]⟩,
  ⟨none,.p Rn,[(.loc 4),(.loc 0),(.const (.bool false))],(.set 12),[]⟩]
def c31o11:List CItem:=[
  ⟨none,.p2 (indexAddrA Try.prog 42),[.var 1,.var 5],.push,[]⟩,
  ⟨none,.r1 (fun s a=>loadV Try.prog s 5 a),[.loc 0],.push,[]⟩,
  ⟨none,.p2 (binA Try.prog .quo 5),[(.loc 0),(.const (.int .u8 (2)))],.push,[]⟩,
  ⟨none,.r1 (fun s x=>convA Try.prog s 5 3 x),[.loc 0],.push,[]⟩,
  ⟨none,.p2 (binA Try.prog .rem 3),[.loc 0,.var 0],.push,[]⟩,
  ⟨none,.p2 (binA Try.prog .add 3),[(.const (.int .i64 (1))),(.loc 0)],.push,[]⟩,
  ⟨none,.p1 some,[.loc 0],(.set 9),[]⟩]
def c31o12:List CItem:=[
  ⟨none,.p2 (indexAddrA Try.prog 42),[.var 1,.var 5],.push,[]⟩,
  ⟨none,.r1 (fun s a=>loadV Try.prog s 5 a),[.loc 0],.push,[]⟩,
  ⟨none,.p2 (binA Try.prog .rem 5),[(.loc 0),(.const (.int .u8 (2)))],.push,[]⟩,
  ⟨none,.p2 (binA Try.prog .eql 5),[(.loc 0),(.const (.int .u8 (1)))],(.set 13),[]⟩]
def c31o13:List CItem:=[
  ⟨none,.p1 some,[.var 9],.push,[]⟩,
  ⟨none,.p1 (unA Try.prog Go.UnOp.neg),[.loc 0],.push,[]⟩,
  ⟨none,.p1 some,[.loc 0],(.set 9),[]⟩]
def c31o14:List CItem:=[
  ⟨none,.p1 some,[.var 7],.push,[]⟩,
  ⟨none,.mk (fun l=>(sliceRowA Try.prog 23 1 (zipIdx [0] l)).bind fun r=>some (r,.slice 1)),[.var 9],.push,[]⟩,
  ⟨none,.e (fun s l=>appendA Try.prog s [23,23] l),[.loc 1,.loc 0],.push,[]⟩,
  ⟨none,.p1 some,[.loc 0],(.set 7),[]⟩]
def c31o15:List CItem:=[
  ⟨none,.p1 some,[.var 5],.push,[]⟩,
  ⟨none,.p2 (binA Try.prog .add 3),[(.loc 0),(.const (.int .i64 (1)))],.push,[]⟩,
  ⟨none,.p1 some,[.loc 0],(.set 5),[]⟩]
def c31o16:List CItem:=[
  ⟨none,.p1 some,[.var 8],.push,[]⟩,
  ⟨none,.p2 (binA Try.prog .add 3),[(.loc 0),(.const (.int .i64 (1)))],.push,[]⟩,
  ⟨none,.p1 some,[.loc 0],(.set 8),[]⟩]
def c31l17:CCode:=(.seq (.seq (.ops c31o10) (.cond (.var 12)
  .skip
  (.exit 2))) (.seq (.block 3 (.seq (.ops c31o11) (.seq (.seq (.ops c31o12) (.cond (.var 13)
  (.ops c31o13)
  .skip)) (.seq (.ops c31o14) (.ops c31o15))))) (.ops c31o16)))
def c31o18:List CItem:=[
  ⟨none,.r (fun s l=>match l with | [x]=>lenA Try.prog s 23 x | _=>none),[.var 7],.push,[]⟩,
  ⟨none,.p2 (binA Try.prog .gtr 3),[(.loc 0),(.const (.int .i64 (0)))],.push,[]⟩,
  ⟨(some ((.loc 0),false)),.p1 some,[.var 6],.push,[]⟩,
  ⟨(some ((.loc 1),false)),.p2 (binA Try.prog .eql 3),[(.loc 0),(.const (.int .i64 (0)))],.push,[]⟩,
  ⟨(some ((.loc 2),false)),.p1 some,[.loc 0],.push,[]⟩,
  ⟨(some ((.loc 0),true)),.p1 some,[.var 1],.push,[]⟩,
  ⟨(some ((.loc 1),true)),.p1 some,[.var 5],.push,[]⟩,
  ⟨(some ((.loc 2),true)),.p2 (binA Try.prog .sub 3),[(.loc 0),(.const (.int .i64 (1)))],.push,[]⟩,
  ⟨(some ((.loc 3),true)),.p2 (indexAddrA Try.prog 42),[.loc 2,.loc 0],.push,[]⟩,
  ⟨(some ((.loc 4),true)),.r1 (fun s a=>loadV Try.prog s 5 a),[.loc 0],.push,[]⟩,
  ⟨(some ((.loc 5),true)),.p2 (binA Try.prog .eql 5),[(.loc 0),(.const (.int .u8 (7)))],.push,[]⟩,
  ⟨(some ((.loc 9),false)),.p Rn,[(.loc 6),(.loc 0),(.const (.bool false))],.push,[]⟩,
  ⟨none,.p Rn,[(.loc 10),(.const (.bool true)),(.loc 0)],(.set 14),[]⟩]
def c31o19:List CItem:=[
  ⟨none,.p1 some,[.var 4],.push,[]⟩,
  ⟨none,.mk (fun l=>(sliceRowA Try.prog 22 1 (zipIdx [0] l)).bind fun r=>some (r,.slice 1)),[.var 7],.push,[]⟩,
  ⟨none,.e (fun s l=>appendA Try.prog s [22,22] l),[.loc 1,.loc 0],.push,[]⟩,
  ⟨none,.p1 some,[.loc 0],(.set 4),[]⟩]
def c31l20:CCode:=(.seq (.seq (.ops c31o3) (.cond (.var 10)
  .skip
  (.exit 0))) (.block 1 (.seq (.ops c31o4) (.seq (.seq (.ops c31o5) (.cond (.var 11)
  (.ops c31o6)
  .skip)) (.seq (.ops c31o7) (.seq (.ops c31o8) (.seq (.seq (.ops c31o9) (.block 2 (.loop c31l17))) (.seq (.ops c31o18) (.cond (.var 14)
  (.ops c31o19)
  .skip)))))))))
def c31o21:List CItem:=[
  ⟨none,.p1 some,[.var 4],(.set 3),[]⟩]
def c31:CFunc:=⟨3,15,(.seq (.ops c31o0) (.seq (.ops c31o1) (.seq (.seq (.ops c31o2) (.block 0 (.loop c31l20))) (.seq (.ops c31o21) .ret)))),[((.var 3),none)]⟩
def c39o0:List CItem:=[
  ⟨none,.p1 some,[(.const (.bool false))],(.set 2),[]⟩]
def c39o1:List CItem:=[
  ⟨none,.p1 some,[(.const (.int .i64 (0)))],(.set 3),[]⟩]
def c39o2:List CItem:=[
  ⟨none,.r (fun s l=>match l with | [x]=>lenA Try.prog s 23 x | _=>none),[.var 1],.push,[]⟩,
  ⟨none,.p2 (binA Try.prog .lss 3),[.var 3,.loc 0],(.set 4),[]⟩]
def c39o3:List CItem:=[
  ⟨none,.p2 (indexAddrA Try.prog 23),[.var 1,.var 3],.push,[]⟩,
  ⟨none,.r1 (fun s a=>loadV Try.prog s 3 a),[.loc 0],.push,[]⟩,
  ⟨none,.call 79,[.var 0,.loc 0],(.set 5),[]⟩]
def c39o4:List CItem:=[
  ⟨none,.p1 some,[(.const (.bool true))],(.set 2),[]⟩]
def c39o5:List CItem:=[
  ⟨none,.p1 some,[.var 3],.push,[]⟩,
  ⟨none,.p2 (binA Try.prog .add 3),[(.loc 0),(.const (.int .i64 (1)))],.push,[]⟩,
  ⟨none,.p1 some,[.loc 0],(.set 3),[]⟩]
def c39l6:CCode:=(.seq (.seq (.ops c39o2) (.cond (.var 4)
  .skip
  (.exit 0))) (.seq (.block 1 (.seq (.ops c39o3) (.cond (.var 5)
  (.seq (.ops c39o4) .ret)
  .skip))) (.ops c39o5)))
def c39o7:List CItem:=[
  ⟨none,.p1 some,[(.const (.bool false))],(.set 2),[]⟩]
def c39:CFunc:=⟨2,6,(.seq (.ops c39o0) (.seq (.seq (.ops c39o1) (.block 0 (.loop c39l6))) (.seq (.ops c39o7) .ret))),[((.var 2),none)]⟩
def c79o0:List CItem:=[
  ⟨none,.p1 some,[(.const (.bool false))],(.set 2),[]⟩]
def c79o1:List CItem:=[
  ⟨none,.p2 (binA Try.prog .gtr 3),[(.var 1),(.const (.int .i64 (0)))],(.set 3),[]⟩]
def c79o2:List CItem:=[
  ⟨none,.p2 (binA Try.prog .sub 3),[(.var 1),(.const (.int .i64 (1)))],.push,[]⟩,
  ⟨none,.p2 (binA Try.prog .shr 3),[.var 0,.loc 0],.push,[]⟩,
  ⟨none,.p2 (binA Try.prog .and 3),[(.loc 0),(.const (.int .i64 (1)))],.push,[]⟩,
  ⟨none,.p2 (binA Try.prog .eql 3),[(.loc 0),(.const (.int .i64 (1)))],.push,[]⟩,
  ⟨none,.p1 some,[.loc 0],(.set 2),[]⟩]
def c79o3:List CItem:=[
  ⟨none,.p1 (unA Try.prog Go.UnOp.neg),[.var 1],.push,[]⟩,
  ⟨none,.p2 (binA Try.prog .sub 3),[(.loc 0),(.const (.int .i64 (1)))],.push,[]⟩,
  ⟨none,.p2 (binA Try.prog .shr 3),[.var 0,.loc 0],.push,[]⟩,
  ⟨none,.p2 (binA Try.prog .and 3),[(.loc 0),(.const (.int .i64 (1)))],.push,[]⟩,
  ⟨none,.p2 (binA Try.prog .eql 3),[(.loc 0),(.const (.int .i64 (0)))],.push,[]⟩,
  ⟨none,.p1 some,[.loc 0],(.set 2),[]⟩]
def c79:CFunc:=⟨2,4,(.seq (.ops c79o0) (.seq (.seq (.ops c79o1) (.cond (.var 3)
  (.seq (.ops c79o2) .ret)
  .skip)) (.seq (.ops c79o3) .ret))),[((.var 2),none)]⟩
def c38o0:List CItem:=[
  ⟨none,.p1 some,[(.const (.int .i64 (0)))],(.set 2),[]⟩]
def c38o1:List CItem:=[
  ⟨none,.p1 some,[(.const (.int .i64 (0)))],(.set 3),[]⟩]
def c38o2:List CItem:=[
  ⟨none,.p1 some,[(.const (.int .i64 (1)))],(.set 4),[]⟩]
def c38o3:List CItem:=[
  ⟨none,.p2 (binA Try.prog .leq 3),[.var 4,.var 1],(.set 5),[]⟩]
def c38o4:List CItem:=[
  ⟨none,.call 41,[.var 0,.var 4],(.set 6),[]⟩]
def c38o5:List CItem:=[
  ⟨none,.p1 some,[.var 3],.push,[]⟩,
  ⟨none,.p2 (binA Try.prog .sub 3),[(.var 4),(.const (.int .i64 (1)))],.push,[]⟩,
  ⟨none,.p2 (binA Try.prog .shl 3),[(.const (.int .i64 (1))),(.loc 0)],.push,[]⟩,
  ⟨none,.p2 (binA Try.prog .or 3),[.loc 2,.loc 0],.push,[]⟩,
  ⟨none,.p1 some,[.loc 0],(.set 3),[]⟩]
def c38o6:List CItem:=[
  ⟨none,.p1 some,[.var 4],.push,[]⟩,
  ⟨none,.p2 (binA Try.prog .add 3),[(.loc 0),(.const (.int .i64 (1)))],.push,[]⟩,
  ⟨none,.p1 some,[.loc 0],(.set 4),[]⟩]
def c38l7:CCode:=(.seq (.seq (.ops c38o3) (.cond (.var 5)
  .skip
  (.exit 0))) (.seq (.block 1 (.seq (.ops c38o4) (.cond (.var 6)
  (.ops c38o5)
  .skip))) (.ops c38o6)))
def c38o8:List CItem:=[
  ⟨none,.p1 some,[.var 3],(.set 2),[]⟩]
def c38:CFunc:=⟨2,7,(.seq (.ops c38o0) (.seq (.ops c38o1) (.seq (.seq (.ops c38o2) (.block 0 (.loop c38l7))) (.seq (.ops c38o8) .ret)))),[((.var 2),none)]⟩
def c32o0:List CItem:=[
  ⟨none,.p1 some,[(.const (.ptr none))],(.set 2),[]⟩]
def c32o1:List CItem:=[
  ⟨none,.call 40,[.var 0],.push,[]⟩,
  ⟨none,.p1 some,[.loc 0],(.set 3),[]⟩]
def c32o2:List CItem:=[
  ⟨none,.p2 (binA Try.prog .eql 44),[(.var 3),(.const (.ptr none))],.push,[]⟩,
  ⟨(some ((.loc 0),false)),.p1 some,[.var 3],.push,[]⟩,
  ⟨(some ((.loc 1),false)),.call 47,[.loc 0],.push,[]⟩,
  ⟨(some ((.loc 2),false)),.p1 some,[.var 0],.push,[]⟩,
  ⟨(some ((.loc 3),false)),.p2 (binA Try.prog .neq 3),[.loc 1,.loc 0],.push,[]⟩,
  ⟨none,.p Rn,[(.loc 4),(.const (.bool true)),(.loc 0)],(.set 5),[]⟩]
def c32o3:List CItem:=[
  ⟨none,.p1 some,[(.const (.ptr none))],(.set 2),[]⟩]
def c32o4:List CItem:=[
  ⟨none,.p1 some,[(.const (.int .i64 (0)))],(.set 4),[]⟩]
def c32o5:List CItem:=[
  ⟨none,.r (fun s l=>match l with | [x]=>lenA Try.prog s 22 x | _=>none),[.var 1],.push,[]⟩,
  ⟨none,.p2 (binA Try.prog .lss 3),[.var 4,.loc 0],(.set 6),[]⟩]
def c32o6:List CItem:=[
  ⟨none,.p2 (indexAddrA Try.prog 22),[.var 1,.var 4],.push,[]⟩,
  ⟨none,.r1 (fun s a=>loadV Try.prog s 23 a),[.loc 0],.push,[]⟩,
  ⟨none,.call 36,[.var 3,.loc 0],.push,[]⟩,
  ⟨none,.p2 (binA Try.prog .neq 49),[(.loc 0),(.const (.int .i64 (0)))],(.set 7),[]⟩]
def c32o7:List CItem:=[
  ⟨none,.p1 some,[(.const (.ptr none))],(.set 2),[]⟩]
def c32o8:List CItem:=[
  ⟨none,.p1 some,[.var 4],.push,[]⟩,
  ⟨none,.p2 (binA Try.prog .add 3),[(.loc 0),(.const (.int .i64 (1)))],.push,[]⟩,
  ⟨none,.p1 some,[.loc 0],(.set 4),[]⟩]
def c32l9:CCode:=(.seq (.seq (.ops c32o5) (.cond (.var 6)
  .skip
  (.exit 0))) (.seq (.block 1 (.seq (.ops c32o6) (.cond (.var 7)
  (.seq (.ops c32o7) .ret)
  .skip))) (.ops c32o8)))
def c32o10:List CItem:=[
  ⟨none,.p1 some,[.var 3],(.set 2),[]⟩]
def c32:CFunc:=⟨2,8,(.seq (.ops c32o0) (.seq (.ops c32o1) (.seq (.seq (.ops c32o2) (.cond (.var 5)
  (.seq (.ops c32o3) .ret)
  .skip)) (.seq (.seq (.ops c32o4) (.block 0 (.loop c32l9))) (.seq (.ops c32o10) .ret))))),[((.var 2),none)]⟩
def c37o0:List CItem:=[
  ⟨none,.p1 some,[(.const (.bool false))],(.set 0),[]⟩]
def c37o1:List CItem:=[
  ⟨none,.call 40,[(.const (.int .i64 (2)))],.push,[]⟩,
  ⟨none,.p1 some,[.loc 0],(.set 1),[]⟩]
def c37o2:List CItem:=[
  ⟨none,.call 47,[.var 1],.push,[]⟩,
  ⟨none,.p2 (binA Try.prog .neq 3),[(.loc 0),(.const (.int .i64 (2)))],.push,[]⟩,
  ⟨(some ((.loc 0),false)),.p1 some,[.var 1],.push,[]⟩,
  ⟨(some ((.loc 1),false)),.call 34,[(.loc 0),(.const (.int .i64 (729)))],.push,[]⟩,
  ⟨(some ((.loc 2),false)),.p2 (binA Try.prog .neq 3),[(.loc 0),(.const (.int .i64 (1)))],.push,[]⟩,
  ⟨none,.p Rn,[(.loc 3),(.const (.bool true)),(.loc 0)],(.set 4),[]⟩]
def c37o3:List CItem:=[
  ⟨none,.p1 some,[(.const (.bool false))],(.set 0),[]⟩]
def c37o4:List CItem:=[
  ⟨none,.mk (fun l=>(sliceRowA Try.prog 23 2 (zipIdx [0,1] l)).bind fun r=>some (r,.slice 2)),[(.const (.int .i64 (1))),(.const (.int .i64 (2)))],.push,[]⟩,
  ⟨none,.call 36,[.var 1,.loc 0],.push,[]⟩]
def c37o5:List CItem:=[
  ⟨none,.mk (fun l=>(sliceRowA Try.prog 23 2 (zipIdx [0,1] l)).bind fun r=>some (r,.slice 2)),[(.const (.int .i64 (-1))),(.const (.int .i64 (2)))],.push,[]⟩,
  ⟨none,.call 36,[.var 1,.loc 0],.push,[]⟩]
def c37o6:List CItem:=[
  ⟨none,.mk (fun l=>(sliceRowA Try.prog 23 2 (zipIdx [0,1] l)).bind fun r=>some (r,.slice 2)),[(.const (.int .i64 (1))),(.const (.int .i64 (-2)))],.push,[]⟩,
  ⟨none,.call 36,[.var 1,.loc 0],.push,[]⟩]
def c37o7:List CItem:=[
  ⟨none,.call 34,[(.var 1),(.const (.int .i64 (729)))],.push,[]⟩,
  ⟨none,.p2 (binA Try.prog .eql 3),[(.loc 0),(.const (.int .i64 (1)))],.push,[]⟩,
  ⟨(some ((.loc 0),true)),.p1 some,[.var 1],.push,[]⟩,
  ⟨(some ((.loc 1),true)),.call 41,[(.loc 0),(.const (.int .i64 (1)))],.push,[]⟩,
  ⟨none,.p Rn,[(.loc 2),(.loc 0),(.const (.bool false))],.push,[]⟩,
  ⟨(some ((.loc 0),true)),.p1 some,[.var 1],.push,[]⟩,
  ⟨(some ((.loc 1),true)),.call 41,[(.loc 0),(.const (.int .i64 (2)))],.push,[]⟩,
  ⟨none,.p Rn,[(.loc 2),(.loc 0),(.const (.bool false))],.push,[]⟩,
  ⟨none,.p1 some,[.loc 0],(.set 2),[]⟩]
def c37o8:List CItem:=[
  ⟨none,.mk (fun l=>(sliceRowA Try.prog 23 2 (zipIdx [0,1] l)).bind fun r=>some (r,.slice 2)),[(.const (.int .i64 (-1))),(.const (.int .i64 (-2)))],.push,[]⟩,
  ⟨none,.call 36,[.var 1,.loc 0],.push,[]⟩]
def c37o9:List CItem:=[
  ⟨none,.call 40,[(.const (.int .i64 (0)))],.push,[]⟩,
  ⟨none,.p1 some,[.loc 0],(.set 3),[]⟩]
def c37o10:List CItem:=[
  ⟨none,.call 36,[(.var 3),(.const (.slice none 0 (some 0)))],.push,[]⟩]
def c37o11:List CItem:=[
  ⟨(some ((.var 2),true)),.p1 some,[.var 1],.push,[]⟩,
  ⟨(some ((.var 2),true)),.call 34,[(.loc 0),(.const (.int .i64 (729)))],.push,[]⟩,
  ⟨(some ((.var 2),true)),.p2 (binA Try.prog .eql 3),[(.loc 0),(.const (.int .i64 (0)))],.push,[]⟩,
  ⟨none,.p Rn,[(.var 2),(.loc 0),(.const (.bool false))],.push,[]⟩,
  ⟨(some ((.loc 0),true)),.p1 some,[.var 3],.push,[]⟩,
  ⟨(some ((.loc 1),true)),.call 34,[(.loc 0),(.const (.int .i64 (0)))],.push,[]⟩,
  ⟨(some ((.loc 2),true)),.p2 (binA Try.prog .eql 3),[(.loc 0),(.const (.int .i64 (0)))],.push,[]⟩,
  ⟨none,.p Rn,[(.loc 3),(.loc 0),(.const (.bool false))],.push,[]⟩,
  ⟨none,.p1 some,[.loc 0],(.set 0),[]⟩]
def c37:CFunc:=⟨0,5,(.seq (.ops c37o0) (.seq (.ops c37o1) (.seq (.seq (.ops c37o2) (.cond (.var 4)
  (.seq (.ops c37o3) .ret)
  .skip)) (.seq (.ops c37o4) (.seq (.ops c37o5) (.seq (.ops c37o6) (.seq (.ops c37o7) (.seq (.ops c37o8) (.seq (.ops c37o9) (.seq (.ops c37o10) (.seq (.ops c37o11) .ret))))))))))),[((.var 0),none)]⟩
def c8o0:List CItem:=[
  ⟨none,.p1 some,[(.const (.bool false))],(.set 3),[]⟩]
def c8o1:List CItem:=[
  ⟨none,.call 37,[],.push,[]⟩,
  ⟨none,.p1 (unA Try.prog Go.UnOp.not),[.loc 0],(.set 11),[]⟩]
def c8o2:List CItem:=[
  ⟨none,.p1 some,[(.const (.bool false))],(.set 3),[]⟩]
def c8o3:List CItem:=[
  ⟨none,.p2 (binA Try.prog .rem 5),[(.var 0),(.const (.int .u8 (6)))],.push,[]⟩,
  ⟨none,.r1 (fun s x=>convA Try.prog s 5 3 x),[.loc 0],.push,[]⟩,
  ⟨none,.p2 (binA Try.prog .add 3),[(.const (.int .i64 (1))),(.loc 0)],.push,[]⟩,
  ⟨none,.p1 some,[.loc 0],(.set 4),[]⟩]
def c8o4:List CItem:=[
  ⟨none,.call 31,[(.var 4),(.var 1),(.const (.int .i64 (40)))],.push,[]⟩,
  ⟨none,.call 31,[(.var 4),(.var 2),(.const (.int .i64 (40)))],.push,[]⟩,
  ⟨none,.p1 some,[.loc 1],(.set 5),[]⟩,
  ⟨none,.p1 some,[.loc 0],(.set 6),[]⟩]
def c8o5:List CItem:=[
  ⟨none,.call 32,[.var 4,.var 5],.push,[]⟩,
  ⟨none,.p1 some,[.loc 0],(.set 7),[]⟩]
def c8o6:List CItem:=[
  ⟨none,.p2 (binA Try.prog .eql 44),[(.var 7),(.const (.ptr none))],(.set 12),[]⟩]
def c8o7:List CItem:=[
  ⟨none,.p1 some,[(.const (.bool false))],(.set 3),[]⟩]
def c8o8:List CItem:=[
  ⟨none,.call 34,[(.var 7),(.const (.int .i64 (729)))],.push,[]⟩,
  ⟨none,.p1 some,[.loc 0],(.set 8),[]⟩]
def c8o9:List CItem:=[
  ⟨none,.call 38,[.var 7,.var 4],.push,[]⟩,
  ⟨none,.p1 some,[.loc 0],(.set 9),[]⟩]
def c8o10:List CItem:=[
  ⟨none,.p1 some,[(.const (.int .i64 (0)))],(.set 10),[]⟩]
def c8o11:List CItem:=[
  ⟨none,.r (fun s l=>match l with | [x]=>lenA Try.prog s 22 x | _=>none),[.var 6],.push,[]⟩,
  ⟨none,.p2 (binA Try.prog .lss 3),[.var 10,.loc 0],(.set 13),[]⟩]
def c8o12:List CItem:=[
  ⟨none,.p2 (binA Try.prog .eql 3),[(.var 8),(.const (.int .i64 (1)))],.push,[]⟩,
  ⟨(some ((.loc 0),true)),.p1 some,[.var 9],.push,[]⟩,
  ⟨(some ((.loc 1),true)),.p1 some,[.var 6],.push,[]⟩,
  ⟨(some ((.loc 2),true)),.p1 some,[.var 10],.push,[]⟩,
  ⟨(some ((.loc 3),true)),.p2 (indexAddrA Try.prog 22),[.loc 1,.loc 0],.push,[]⟩,
  ⟨(some ((.loc 4),true)),.r1 (fun s a=>loadV Try.prog s 23 a),[.loc 0],.push,[]⟩,
  ⟨(some ((.loc 5),true)),.call 39,[.loc 4,.loc 0],.push,[]⟩,
  ⟨(some ((.loc 6),true)),.p1 (unA Try.prog Go.UnOp.not),[.loc 0],.push,[]⟩,
  ⟨none,.p Rn,[(.loc 7),(.loc 0),(.const (.bool false))],(.set 14),[]⟩]
def c8o13:List CItem:=[
  ⟨none,.p2 (indexAddrA Try.prog 22),[.var 6,.var 10],.push,[]⟩,
  ⟨none,.r1 (fun s a=>loadV Try.prog s 23 a),[.loc 0],.push,[]⟩,
  ⟨none,.call 36,[.var 7,.loc 0],.push,[]⟩,
  ⟨none,.p2 (binA Try.prog .neq 49),[(.loc 0),(.const (.int .i64 (0)))],.push,[]⟩,
  ⟨(some ((.loc 0),false)),.p1 some,[.var 7],.push,[]⟩,
  ⟨(some ((.loc 1),false)),.call 34,[(.loc 0),(.const (.int .i64 (729)))],.push,[]⟩,
  ⟨(some ((.loc 2),false)),.p1 some,[.var 8],.push,[]⟩,
  ⟨(some ((.loc 3),false)),.p2 (binA Try.prog .neq 3),[.loc 1,.loc 0],.push,[]⟩,
  ⟨none,.p Rn,[(.loc 4),(.const (.bool true)),(.loc 0)],(.set 15),[]⟩]
def c8o14:List CItem:=[
  ⟨none,.p1 some,[(.const (.bool false))],(.set 3),[]⟩]
def c8o15:List CItem:=[
  ⟨none,.p1 some,[.var 10],.push,[]⟩,
  ⟨none,.p2 (binA Try.prog .add 3),[(.loc 0),(.const (.int .i64 (1)))],.push,[]⟩,
  ⟨none,.p1 some,[.loc 0],(.set 10),[]⟩]
def c8l16:CCode:=(.seq (.seq (.ops c8o11) (.cond (.var 13)
  .skip
  (.exit 0))) (.seq (.block 1 (.seq (.seq (.ops c8o12) (.cond (.var 14)
  (.exit 1)
  .skip)) (.seq (.ops c8o13) (.cond (.var 15)
  (.seq (.ops c8o14) .ret)
  .skip)))) (.ops c8o15)))
def c8o17:List CItem:=[
  ⟨none,.call 34,[(.var 7),(.const (.int .i64 (0)))],.push,[]⟩,
  ⟨none,.p2 (binA Try.prog .neq 3),[(.loc 0),(.const (.int .i64 (1)))],.push,[]⟩,
  ⟨(some ((.loc 0),false)),.p1 some,[.var 8],.push,[]⟩,
  ⟨(some ((.loc 1),false)),.p2 (binA Try.prog .eql 3),[(.loc 0),(.const (.int .i64 (1)))],.push,[]⟩,
  ⟨none,.p Rn,[(.loc 2),(.const (.bool true)),(.loc 0)],.push,[]⟩,
  ⟨none,.p1 some,[.loc 0],(.set 3),[]⟩]
def c8:CFunc:=⟨3,16,(.seq (.ops c8o0) (.seq (.seq (.ops c8o1) (.cond (.var 11)
  (.seq (.ops c8o2) .ret)
  .skip)) (.seq (.ops c8o3) (.seq (.ops c8o4) (.seq (.ops c8o5) (.seq (.seq (.ops c8o6) (.cond (.var 12)
  (.seq (.ops c8o7) .ret)
  .skip)) (.seq (.ops c8o8) (.seq (.ops c8o9) (.seq (.seq (.ops c8o10) (.block 0 (.loop c8l16))) (.seq (.ops c8o17) .ret)))))))))),[((.var 3),none)]⟩
theorem comp31:compFunc Try.prog 31=some c31:=by kernel_rfl
theorem comp39:compFunc Try.prog 39=some c39:=by kernel_rfl
theorem comp79:compFunc Try.prog 79=some c79:=by kernel_rfl
theorem comp38:compFunc Try.prog 38=some c38:=by kernel_rfl
theorem comp32:compFunc Try.prog 32=some c32:=by kernel_rfl
theorem comp37:compFunc Try.prog 37=some c37:=by kernel_rfl
theorem comp8:compFunc Try.prog 8=some c8:=by kernel_rfl
end
end Go.Proofs.Ytilhhmkdcoajnaa.Am
