/- The compiled code of the functions of layer 20, printed by a program of ours (dev/Print.lean) and checked by the kernel; conditions: none. -/
import Derived.Test.YtilhhmkdcoajnaaRows
import Derived.Test.YtilhhmkdcoajnaaAmGrow
set_option linter.unusedVariables false
set_option linter.unusedSimpArgs false
namespace Go.Proofs.Ytilhhmkdcoajnaa.Am
open Go Go.Proofs
noncomputable section
theorem sz3:sizeT Try.prog 3=some 1:=by kernel_rfl
theorem by3:bytesT Try.prog 3=some 8:=by kernel_rfl
theorem ag3:aggT Try.prog 3=some false:=by kernel_rfl
theorem zr3:zeroT Try.prog 3=some (.int .i64 (0)):=by kernel_rfl
theorem sz4:sizeT Try.prog 4=some 1:=by kernel_rfl
theorem ag4:aggT Try.prog 4=some false:=by kernel_rfl
theorem sz5:sizeT Try.prog 5=some 1:=by kernel_rfl
theorem ag5:aggT Try.prog 5=some false:=by kernel_rfl
theorem sz23:sizeT Try.prog 23=some 1:=by kernel_rfl
theorem by23:bytesT Try.prog 23=some 24:=by kernel_rfl
theorem ag23:aggT Try.prog 23=some false:=by kernel_rfl
theorem zr23:zeroT Try.prog 23=some (.slice none 0 (some 0)):=by kernel_rfl
theorem sz27:sizeT Try.prog 27=some 2:=by kernel_rfl
theorem by27:bytesT Try.prog 27=some 32:=by kernel_rfl
theorem ag27:aggT Try.prog 27=some true:=by kernel_rfl
theorem zr27:zeroT Try.prog 27=some (.agg [(.bool false),(.slice none 0 (some 0))]):=by kernel_rfl
theorem sz33:sizeT Try.prog 33=some 1:=by kernel_rfl
theorem ag33:aggT Try.prog 33=some false:=by kernel_rfl
theorem sz69:sizeT Try.prog 69=some 1:=by kernel_rfl
theorem ag69:aggT Try.prog 69=some false:=by kernel_rfl
theorem zr69:zeroT Try.prog 69=some (.map none):=by kernel_rfl
def c48o0:List CItem:=[
  ⟨none,.p1 some,[(.const (.int .i64 (0)))],(.set 1),[]⟩,
  ⟨none,.p1 some,[(.const (.int .i64 (0)))],(.set 2),[]⟩]
def c48o1:List CItem:=[
  ⟨none,.p2 (binA Try.prog .gtr 3),[(.var 0),(.const (.int .i64 (0)))],.push,[]⟩,
  ⟨none,.p1 some,[.loc 0],(.set 3),[]⟩]
def c48o2:List CItem:=[
  ⟨none,.p1 some,[.var 0],(.set 1),[]⟩,
  ⟨none,.p1 some,[(.const (.int .i64 (1)))],(.set 2),[]⟩]
def c48o3:List CItem:=[
  ⟨none,.p2 (binA Try.prog .lss 3),[(.var 0),(.const (.int .i64 (0)))],.push,[]⟩,
  ⟨(some ((.loc 0),true)),.p1 some,[.var 0],.push,[]⟩,
  ⟨(some ((.loc 1),true)),.p1 (unA Try.prog Go.UnOp.neg),[.loc 0],.push,[]⟩,
  ⟨(some ((.loc 2),true)),.p2 (binA Try.prog .gtr 3),[(.loc 0),(.const (.int .i64 (0)))],.push,[]⟩,
  ⟨none,.p Rn,[(.loc 3),(.loc 0),(.const (.bool false))],.push,[]⟩,
  ⟨none,.p1 some,[.loc 0],(.set 4),[]⟩]
def c48o4:List CItem:=[
  ⟨none,.p1 (unA Try.prog Go.UnOp.neg),[.var 0],.push,[]⟩,
  ⟨none,.p1 some,[.loc 0],(.set 1),[]⟩,
  ⟨none,.p1 some,[(.const (.int .i64 (-1)))],(.set 2),[]⟩]
def c48o5:List CItem:=[
  ⟨none,.p1 some,[(.const (.int .i64 (0)))],(.set 1),[]⟩,
  ⟨none,.p1 some,[(.const (.int .i64 (0)))],(.set 2),[]⟩]
def c48:CFunc:=⟨1,5,(.seq (.ops c48o0) (.seq (.block 0 (.seq (.ops c48o1) (.cond (.var 3)
  (.seq (.ops c48o2) .ret)
  (.seq (.ops c48o3) (.cond (.var 4)
  (.seq (.ops c48o4) .ret)
  .skip))))) (.seq (.ops c48o5) .ret))),[((.var 1),none),((.var 2),none)]⟩
def c49o0:List CItem:=[
  ⟨none,.p1 some,[(.const (.int .i64 (0)))],(.set 2),[]⟩]
def c49o1:List CItem:=[
  ⟨none,.call 48,[.var 1],.push,[]⟩,
  ⟨none,.p1 (fun x=>Rp x 0),[.loc 0],.push,[]⟩,
  ⟨none,.p1 (fun x=>Rp x 1),[.loc 1],.push,[]⟩,
  ⟨none,.p1 some,[.loc 1],(.set 3),[]⟩,
  ⟨none,.p1 some,[.loc 0],(.set 4),[]⟩]
def c49o2:List CItem:=[
  ⟨none,.p2 (binA Try.prog .eql 3),[(.var 4),(.const (.int .i64 (0)))],(.set 5),[]⟩]
def c49o3:List CItem:=[
  ⟨none,.p1 some,[(.const (.int .i64 (-1)))],(.set 2),[]⟩]
def c49o4:List CItem:=[
  ⟨none,.r (fun s=>on2 (fun m k=>lookupA Try.prog s 69 m k false)),[.var 0,.var 3],.push,[]⟩,
  ⟨none,.p2 (binA Try.prog .mul 3),[.loc 0,.var 4],.push,[]⟩,
  ⟨none,.p1 some,[.loc 0],(.set 2),[]⟩]
def c49:CFunc:=⟨2,6,(.seq (.ops c49o0) (.seq (.ops c49o1) (.seq (.seq (.ops c49o2) (.cond (.var 5)
  (.seq (.ops c49o3) .ret)
  .skip)) (.seq (.ops c49o4) .ret)))),[((.var 2),none)]⟩
def c50o0:List CItem:=[
  ⟨none,.call 48,[.var 1],.push,[]⟩,
  ⟨none,.p1 (fun x=>Rp x 0),[.loc 0],.push,[]⟩,
  ⟨none,.p1 (fun x=>Rp x 1),[.loc 1],.push,[]⟩,
  ⟨none,.p1 some,[.loc 1],(.set 2),[]⟩,
  ⟨none,.p1 some,[.loc 0],(.set 3),[]⟩]
def c50o1:List CItem:=[
  ⟨none,.e (fun s=>on3 (fun m k x=>withV (updateA Try.prog s 69 m k x))),[.var 0,.var 2,.var 3],.push,[]⟩]
def c50:CFunc:=⟨2,4,(.seq (.ops c50o0) (.ops c50o1)),[]⟩
def c52o0:List CItem:=[
  ⟨none,.p1 some,[(.const (.int .i64 (0)))],(.set 2),[]⟩,
  ⟨none,.p1 some,[(.const (.int .i64 (0)))],(.set 3),[]⟩]
def c52o1:List CItem:=[
  ⟨none,.p1 some,[.var 1],(.set 6),[]⟩,
  ⟨none,.r (fun s l=>match l with | [x]=>lenA Try.prog s 23 x | _=>none),[.var 6],(.set 7),[]⟩,
  ⟨none,.p1 some,[(.const (.int .i64 (0)))],(.set 8),[]⟩]
def c52o2:List CItem:=[
  ⟨none,.p2 (binA Try.prog .lss 3),[.var 8,.var 7],(.set 9),[]⟩]
def c52o3:List CItem:=[
  ⟨none,.p2 (indexAddrA Try.prog 23),[.var 6,.var 8],.push,[]⟩,
  ⟨none,.r1 (fun s a=>loadV Try.prog s 3 a),[.loc 0],.push,[]⟩,
  ⟨none,.p1 some,[.loc 0],(.set 4),[]⟩]
def c52o4:List CItem:=[
  ⟨none,.call 49,[.var 0,.var 4],.push,[]⟩,
  ⟨none,.p1 some,[.loc 0],(.set 5),[]⟩]
def c52o5:List CItem:=[
  ⟨none,.p2 (binA Try.prog .gtr 3),[(.var 5),(.const (.int .i64 (0)))],.push,[]⟩,
  ⟨none,.p1 some,[.loc 0],(.set 10),[]⟩]
def c52o6:List CItem:=[
  ⟨none,.p1 some,[(.const (.int .i64 (0)))],(.set 2),[]⟩,
  ⟨none,.p1 some,[(.const (.int .i64 (2)))],(.set 3),[]⟩]
def c52o7:List CItem:=[
  ⟨none,.p2 (binA Try.prog .lss 3),[(.var 5),(.const (.int .i64 (0)))],.push,[]⟩,
  ⟨(some ((.loc 0),false)),.p1 some,[.var 3],.push,[]⟩,
  ⟨(some ((.loc 1),false)),.p2 (binA Try.prog .eql 3),[(.loc 0),(.const (.int .i64 (1)))],.push,[]⟩,
  ⟨(some ((.loc 2),false)),.p1 some,[.loc 0],.push,[]⟩,
  ⟨(some ((.loc 0),true)),.p1 some,[.var 4],.push,[]⟩,
  ⟨(some ((.loc 1),true)),.p1 some,[.var 2],.push,[]⟩,
  ⟨(some ((.loc 2),true)),.p2 (binA Try.prog .eql 3),[.loc 1,.loc 0],.push,[]⟩,
  ⟨(some ((.loc 6),false)),.p Rn,[(.loc 3),(.loc 0),(.const (.bool false))],.push,[]⟩,
  ⟨none,.p Rn,[(.loc 7),(.const (.bool true)),(.loc 0)],.push,[]⟩,
  ⟨none,.p1 some,[.loc 0],(.set 11),[]⟩]
def c52o8:List CItem:=[
  ⟨none,.p1 some,[.var 3],.push,[]⟩,
  ⟨none,.p2 (binA Try.prog .add 3),[(.loc 0),(.const (.int .i64 (1)))],.push,[]⟩,
  ⟨none,.p1 some,[.loc 0],(.set 3),[]⟩]
def c52o9:List CItem:=[
  ⟨none,.p2 (binA Try.prog .gtr 3),[(.var 3),(.const (.int .i64 (1)))],(.set 12),[]⟩]
def c52o10:List CItem:=[
  ⟨none,.p1 some,[(.const (.int .i64 (0)))],(.set 2),[]⟩,
  ⟨none,.p1 some,[(.const (.int .i64 (2)))],(.set 3),[]⟩]
def c52o11:List CItem:=[
  ⟨none,.p1 some,[.var 4],(.set 2),[]⟩]
def c52o12:List CItem:=[
  ⟨none,.p2 (binA Try.prog .add 3),[(.var 8),(.const (.int .i64 (1)))],.push,[]⟩,
  ⟨none,.p1 some,[.loc 0],(.set 8),[]⟩]
def c52l13:CCode:=(.seq (.ops c52o2) (.seq (.cond (.var 9)
  .skip
  (.exit 0)) (.seq (.block 1 (.seq (.ops c52o3) (.seq (.seq (.ops c52o4) (.block 2 (.seq (.ops c52o5) (.cond (.var 10)
  (.seq (.ops c52o6) .ret)
  (.seq (.ops c52o7) (.cond (.var 11)
  (.exit 1)
  .skip)))))) (.seq (.seq (.ops c52o8) (.seq (.ops c52o9) (.cond (.var 12)
  (.seq (.ops c52o10) .ret)
  .skip))) (.ops c52o11))))) (.ops c52o12))))
def c52o14:List CItem:=[
  ⟨none,.p1 some,[.var 2],.push,[]⟩,
  ⟨none,.p1 some,[.var 3],.push,[]⟩,
  ⟨none,.p1 some,[.loc 1],(.set 2),[]⟩,
  ⟨none,.p1 some,[.loc 0],(.set 3),[]⟩]
def c52:CFunc:=⟨2,13,(.seq (.ops c52o0) (.seq (.seq (.ops c52o1) (.block 0 (.loop c52l13))) (.seq (.ops c52o14) .ret))),[((.var 2),none),((.var 3),none)]⟩
def c51o0:List CItem:=[
  ⟨none,.p1 some,[(.const (.bool false))],(.set 2),[]⟩,
  ⟨none,.p1 some,[(.const (.bool false))],(.set 3),[]⟩]
def c51o1:List CItem:=[
  ⟨none,.r1 (fun s a=>loadV Try.prog s 69 a),[.var 1],.push,[]⟩,
  ⟨none,.call 52,[.loc 0,.var 0],.push,[]⟩,
  ⟨none,.p1 (fun x=>Rp x 0),[.loc 0],.push,[]⟩,
  ⟨none,.p1 (fun x=>Rp x 1),[.loc 1],.push,[]⟩,
  ⟨none,.p1 some,[.loc 1],(.set 4),[]⟩,
  ⟨none,.p1 some,[.loc 0],(.set 5),[]⟩]
def c51o2:List CItem:=[
  ⟨none,.p2 (binA Try.prog .eql 3),[(.var 5),(.const (.int .i64 (1)))],(.set 6),[]⟩]
def c51o3:List CItem:=[
  ⟨none,.r1 (fun s a=>loadV Try.prog s 69 a),[.var 1],.push,[]⟩,
  ⟨none,.call 50,[.loc 0,.var 4],.push,[]⟩]
def c51o4:List CItem:=[
  ⟨none,.p2 (binA Try.prog .eql 3),[(.var 5),(.const (.int .i64 (1)))],.push,[]⟩,
  ⟨none,.p2 (binA Try.prog .eql 3),[(.var 5),(.const (.int .i64 (0)))],.push,[]⟩,
  ⟨none,.p1 some,[.loc 1],(.set 2),[]⟩,
  ⟨none,.p1 some,[.loc 0],(.set 3),[]⟩]
def c51:CFunc:=⟨2,7,(.seq (.ops c51o0) (.seq (.ops c51o1) (.seq (.seq (.ops c51o2) (.cond (.var 6)
  (.ops c51o3)
  .skip)) (.seq (.ops c51o4) .ret)))),[((.var 2),none),((.var 3),none)]⟩
def c17o0:List CItem:=[
  ⟨none,.p1 some,[(.const (.bool false))],(.set 2),[]⟩]
def c17o1:List CItem:=[
  ⟨none,.mk (fun l=>match l with | []=>some (.map [] 0,.map) | _=>none),[],.push,[]⟩,
  ⟨none,.mk (fun l=>match l with | []=>allocA Try.prog 69 | _=>none),[],(.set 3),[]⟩,
  ⟨none,.e (fun s=>on2 (fun a x=>withV (storeV Try.prog s 69 a x))),[.var 3,.loc 0],.push,[]⟩]
def c17o2:List CItem:=[
  ⟨none,.p1 some,[.var 1],(.set 11),[]⟩,
  ⟨none,.r (fun s l=>match l with | [x]=>lenA Try.prog s 23 x | _=>none),[.var 11],(.set 12),[]⟩,
  ⟨none,.p1 some,[(.const (.int .i64 (0)))],(.set 13),[]⟩]
def c17o3:List CItem:=[
  ⟨none,.p2 (binA Try.prog .lss 3),[.var 13,.var 12],(.set 14),[]⟩]
def c17o4:List CItem:=[
  ⟨none,.p2 (indexAddrA Try.prog 23),[.var 11,.var 13],.push,[]⟩,
  ⟨none,.r1 (fun s a=>loadV Try.prog s 3 a),[.loc 0],.push,[]⟩,
  ⟨none,.p1 some,[.loc 0],(.set 4),[]⟩]
def c17o5:List CItem:=[
  ⟨none,.call 48,[.var 4],.push,[]⟩,
  ⟨none,.p1 (fun x=>Rp x 0),[.loc 0],.push,[]⟩,
  ⟨none,.p1 (fun x=>Rp x 1),[.loc 1],.push,[]⟩,
  ⟨none,.p1 some,[.loc 1],.push,[]⟩,
  ⟨none,.p1 some,[.loc 1],(.set 5),[]⟩]
def c17o6:List CItem:=[
  ⟨none,.p2 (binA Try.prog .eql 3),[(.var 5),(.const (.int .i64 (0)))],(.set 15),[]⟩]
def c17o7:List CItem:=[
  ⟨none,.r1 (fun s a=>loadV Try.prog s 69 a),[.var 3],.push,[]⟩,
  ⟨none,.call 49,[.loc 0,.var 4],.push,[]⟩,
  ⟨none,.p2 (binA Try.prog .gtr 3),[(.loc 0),(.const (.int .i64 (0)))],(.set 16),[]⟩]
def c17o8:List CItem:=[
  ⟨none,.p1 some,[(.const (.bool true))],(.set 2),[]⟩]
def c17o9:List CItem:=[
  ⟨none,.r1 (fun s a=>loadV Try.prog s 69 a),[.var 3],.push,[]⟩,
  ⟨none,.p1 (unA Try.prog Go.UnOp.neg),[.var 4],.push,[]⟩,
  ⟨none,.call 50,[.loc 1,.loc 0],.push,[]⟩]
def c17o10:List CItem:=[
  ⟨none,.p2 (binA Try.prog .add 3),[(.var 13),(.const (.int .i64 (1)))],.push,[]⟩,
  ⟨none,.p1 some,[.loc 0],(.set 13),[]⟩]
def c17l11:CCode:=(.seq (.ops c17o3) (.seq (.cond (.var 14)
  .skip
  (.exit 0)) (.seq (.block 1 (.seq (.ops c17o4) (.seq (.seq (.ops c17o5) (.seq (.ops c17o6) (.cond (.var 15)
  (.exit 1)
  .skip))) (.seq (.seq (.ops c17o7) (.cond (.var 16)
  (.seq (.ops c17o8) .ret)
  .skip)) (.ops c17o9))))) (.ops c17o10))))
def c17o12:List CItem:=[
  ⟨none,.p (fun l=>some (.func 51 (l.take 0) (l.drop 0))),[.var 3],.push,[]⟩,
  ⟨none,.p1 some,[.loc 0],(.set 6),[]⟩]
def c17o13:List CItem:=[
  ⟨none,.p1 some,[(.const (.bool true))],(.set 7),[]⟩]
def c17o14:List CItem:=[
  ⟨none,.p1 some,[.var 7],(.set 17),[]⟩]
def c17o15:List CItem:=[
  ⟨none,.p1 some,[(.const (.bool false))],(.set 7),[]⟩]
def c17o16:List CItem:=[
  ⟨none,.p1 some,[.var 0],(.set 18),[]⟩,
  ⟨none,.r (fun s l=>match l with | [x]=>lenA Try.prog s 22 x | _=>none),[.var 18],(.set 19),[]⟩,
  ⟨none,.p1 some,[(.const (.int .i64 (0)))],(.set 20),[]⟩]
def c17o17:List CItem:=[
  ⟨none,.p2 (binA Try.prog .lss 3),[.var 20,.var 19],(.set 21),[]⟩]
def c17o18:List CItem:=[
  ⟨none,.p2 (indexAddrA Try.prog 22),[.var 18,.var 20],.push,[]⟩,
  ⟨none,.r1 (fun s a=>loadV Try.prog s 23 a),[.loc 0],.push,[]⟩,
  ⟨none,.p1 some,[.loc 0],(.set 8),[]⟩]
def c17o19:List CItem:=[
  ⟨none,.callv,[.var 6,.var 8],.push,[]⟩,
  ⟨none,.p1 (fun x=>Rp x 0),[.loc 0],.push,[]⟩,
  ⟨none,.p1 (fun x=>Rp x 1),[.loc 1],.push,[]⟩,
  ⟨none,.p1 some,[.loc 1],(.set 9),[]⟩,
  ⟨none,.p1 some,[.loc 0],(.set 10),[]⟩]
def c17o20:List CItem:=[
  ⟨none,.p1 some,[.var 10],(.set 22),[]⟩]
def c17o21:List CItem:=[
  ⟨none,.p1 some,[(.const (.bool true))],(.set 2),[]⟩]
def c17o22:List CItem:=[
  ⟨none,.p1 (unA Try.prog Go.UnOp.not),[.var 9],(.set 23),[]⟩]
def c17o23:List CItem:=[
  ⟨none,.p1 some,[(.const (.bool true))],(.set 7),[]⟩]
def c17o24:List CItem:=[
  ⟨none,.p2 (binA Try.prog .add 3),[(.var 20),(.const (.int .i64 (1)))],.push,[]⟩,
  ⟨none,.p1 some,[.loc 0],(.set 20),[]⟩]
def c17l25:CCode:=(.seq (.ops c17o17) (.seq (.cond (.var 21)
  .skip
  (.exit 4)) (.seq (.block 5 (.seq (.ops c17o18) (.seq (.ops c17o19) (.seq (.seq (.ops c17o20) (.cond (.var 22)
  (.seq (.ops c17o21) .ret)
  .skip)) (.seq (.seq (.ops c17o22) (.cond (.var 23)
  (.exit 5)
  .skip)) (.ops c17o23)))))) (.ops c17o24))))
def c17l26:CCode:=(.seq (.seq (.ops c17o14) (.cond (.var 17)
  .skip
  (.exit 2))) (.block 3 (.seq (.ops c17o15) (.seq .skip (.seq (.ops c17o16) (.block 4 (.loop c17l25)))))))
def c17o27:List CItem:=[
  ⟨none,.p1 some,[(.const (.bool false))],(.set 2),[]⟩]
def c17:CFunc:=⟨2,24,(.seq (.ops c17o0) (.seq (.ops c17o1) (.seq (.seq (.ops c17o2) (.block 0 (.loop c17l11))) (.seq (.ops c17o12) (.seq (.seq (.ops c17o13) (.block 2 (.loop c17l26))) (.seq (.ops c17o27) .ret)))))),[((.var 2),none)]⟩
def c60o0:List CItem:=[
  ⟨none,.p1 some,[(.const (.slice none 0 (some 0)))],(.set 1),[]⟩]
def c60o1:List CItem:=[
  ⟨none,.p2 (binA Try.prog .eql 23),[(.var 0),(.const (.slice none 0 (some 0)))],(.set 2),[]⟩]
def c60o2:List CItem:=[
  ⟨none,.p1 some,[(.const (.slice none 0 (some 0)))],(.set 1),[]⟩]
def c60o3:List CItem:=[
  ⟨none,.mk (fun l=>(sliceRowA Try.prog 23 0 (zipIdx [] l)).bind fun r=>some (r,.slice 0)),[],.push,[]⟩,
  ⟨none,.e (fun s l=>appendA Try.prog s [23,23] l),[.loc 0,.var 0],.push,[]⟩,
  ⟨none,.p1 some,[.loc 0],(.set 1),[]⟩]
def c60:CFunc:=⟨1,3,(.seq (.ops c60o0) (.seq (.seq (.ops c60o1) (.cond (.var 2)
  (.seq (.ops c60o2) .ret)
  .skip)) (.seq (.ops c60o3) .ret))),[((.var 1),none)]⟩
def c94o0:List CItem:=[
  ⟨none,.p1 some,[(.const (.int .i64 (0)))],(.set 2),[]⟩]
def c94o1:List CItem:=[
  ⟨none,.r (fun s l=>match l with | [x]=>lenA Try.prog s 23 x | _=>none),[.var 0],(.set 4),[]⟩,
  ⟨none,.p1 some,[(.const (.int .i64 (0)))],(.set 5),[]⟩]
def c94o2:List CItem:=[
  ⟨none,.p2 (binA Try.prog .lss 3),[.var 5,.var 4],(.set 6),[]⟩]
def c94o3:List CItem:=[
  ⟨none,.p1 some,[.var 5],(.set 3),[]⟩]
def c94o4:List CItem:=[
  ⟨none,.p2 (indexAddrA Try.prog 23),[.var 0,.var 3],.push,[]⟩,
  ⟨none,.r1 (fun s a=>loadV Try.prog s 3 a),[.loc 0],.push,[]⟩,
  ⟨none,.callv,[.var 1,.loc 0],(.set 7),[]⟩]
def c94o5:List CItem:=[
  ⟨none,.p1 some,[.var 3],(.set 2),[]⟩]
def c94o6:List CItem:=[
  ⟨none,.p2 (binA Try.prog .add 3),[(.var 5),(.const (.int .i64 (1)))],.push,[]⟩,
  ⟨none,.p1 some,[.loc 0],(.set 5),[]⟩]
def c94l7:CCode:=(.seq (.ops c94o2) (.seq (.cond (.var 6)
  .skip
  (.exit 0)) (.seq (.block 1 (.seq (.ops c94o3) (.seq (.ops c94o4) (.cond (.var 7)
  (.seq (.ops c94o5) .ret)
  .skip)))) (.ops c94o6))))
def c94o8:List CItem:=[
  ⟨none,.p1 some,[(.const (.int .i64 (-1)))],(.set 2),[]⟩]
def c94:CFunc:=⟨2,8,(.seq (.ops c94o0) (.seq (.seq (.ops c94o1) (.block 0 (.loop c94l7))) (.seq (.ops c94o8) .ret))),[((.var 2),none)]⟩
def c87o0:List CItem:=[
  ⟨none,.r (fun s l=>match l with | [x]=>lenA Try.prog s 23 x | _=>none),[.var 0],.push,[]⟩,
  ⟨none,.p1 some,[.loc 0],(.set 1),[]⟩]
def c87o1:List CItem:=[
  ⟨none,.r1 (fun s x=>convA Try.prog s 3 133 x),[.var 1],.push,[]⟩,
  ⟨none,.call 109,[.loc 0],.push,[]⟩,
  ⟨none,.call 108,[(.var 0),(.const (.int .i64 (0))),(.var 1),(.loc 0)],.push,[]⟩]
def c87:CFunc:=⟨1,2,(.seq (.ops c87o0) (.ops c87o1)),[]⟩
def c88o0:List CItem:=[
  ⟨none,.p1 some,[(.const (.slice none 0 (some 0)))],(.set 1),[]⟩]
def c88o1:List CItem:=[
  ⟨none,.r (fun s l=>match l with | [x]=>lenA Try.prog s 23 x | _=>none),[.var 0],.push,[]⟩,
  ⟨none,.p2 (binA Try.prog .lss 3),[(.loc 0),(.const (.int .i64 (2)))],(.set 5),[]⟩]
def c88o2:List CItem:=[
  ⟨none,.p1 some,[.var 0],(.set 1),[]⟩]
def c88o3:List CItem:=[
  ⟨none,.p1 some,[(.const (.int .i64 (1)))],(.set 2),[]⟩]
def c88o4:List CItem:=[
  ⟨none,.r (fun s l=>match l with | [x]=>lenA Try.prog s 23 x | _=>none),[.var 0],.push,[]⟩,
  ⟨none,.p2 (binA Try.prog .lss 3),[.var 2,.loc 0],(.set 6),[]⟩]
def c88o5:List CItem:=[
  ⟨none,.p2 (indexAddrA Try.prog 23),[.var 0,.var 2],.push,[]⟩,
  ⟨none,.r1 (fun s a=>loadV Try.prog s 3 a),[.loc 0],.push,[]⟩,
  ⟨none,.p2 (binA Try.prog .sub 3),[(.var 2),(.const (.int .i64 (1)))],.push,[]⟩,
  ⟨none,.p2 (indexAddrA Try.prog 23),[.var 0,.loc 0],.push,[]⟩,
  ⟨none,.r1 (fun s a=>loadV Try.prog s 3 a),[.loc 0],.push,[]⟩,
  ⟨none,.p2 (binA Try.prog .eql 3),[.loc 3,.loc 0],(.set 7),[]⟩]
def c88o6:List CItem:=[
  ⟨none,.r (sliceOpnds Try.prog 23 true false false),[.var 0,.var 2],.push,[]⟩,
  ⟨none,.p1 some,[.loc 0],(.set 3),[]⟩]
def c88o7:List CItem:=[
  ⟨none,.p1 some,[(.const (.int .i64 (1)))],(.set 4),[]⟩]
def c88o8:List CItem:=[
  ⟨none,.r (fun s l=>match l with | [x]=>lenA Try.prog s 23 x | _=>none),[.var 3],.push,[]⟩,
  ⟨none,.p2 (binA Try.prog .lss 3),[.var 4,.loc 0],(.set 8),[]⟩]
def c88o9:List CItem:=[
  ⟨none,.p2 (indexAddrA Try.prog 23),[.var 3,.var 4],.push,[]⟩,
  ⟨none,.r1 (fun s a=>loadV Try.prog s 3 a),[.loc 0],.push,[]⟩,
  ⟨none,.p2 (binA Try.prog .sub 3),[(.var 4),(.const (.int .i64 (1)))],.push,[]⟩,
  ⟨none,.p2 (indexAddrA Try.prog 23),[.var 3,.loc 0],.push,[]⟩,
  ⟨none,.r1 (fun s a=>loadV Try.prog s 3 a),[.loc 0],.push,[]⟩,
  ⟨none,.p2 (binA Try.prog .neq 3),[.loc 3,.loc 0],(.set 9),[]⟩]
def c88o10:List CItem:=[
  ⟨none,.p2 (indexAddrA Try.prog 23),[.var 3,.var 4],.push,[]⟩,
  ⟨none,.r1 (fun s a=>loadV Try.prog s 3 a),[.loc 0],.push,[]⟩,
  ⟨none,.p2 (indexAddrA Try.prog 23),[.var 0,.var 2],.push,[]⟩,
  ⟨none,.e (fun s=>on2 (fun a x=>withV (storeV Try.prog s 3 a x))),[.loc 0,.loc 1],.push,[]⟩]
def c88o11:List CItem:=[
  ⟨none,.p1 some,[.var 2],.push,[]⟩,
  ⟨none,.p2 (binA Try.prog .add 3),[(.loc 0),(.const (.int .i64 (1)))],.push,[]⟩,
  ⟨none,.p1 some,[.loc 0],(.set 2),[]⟩]
def c88o12:List CItem:=[
  ⟨none,.p1 some,[.var 4],.push,[]⟩,
  ⟨none,.p2 (binA Try.prog .add 3),[(.loc 0),(.const (.int .i64 (1)))],.push,[]⟩,
  ⟨none,.p1 some,[.loc 0],(.set 4),[]⟩]
def c88l13:CCode:=(.seq (.seq (.ops c88o8) (.cond (.var 8)
  .skip
  (.exit 2))) (.seq (.block 3 (.seq (.ops c88o9) (.cond (.var 9)
  (.seq (.ops c88o10) (.ops c88o11))
  .skip))) (.ops c88o12)))
def c88o14:List CItem:=[
  ⟨none,.r (sliceOpnds Try.prog 23 true false false),[.var 0,.var 2],.push,[]⟩,
  ⟨none,.e (fun s l=>clearA Try.prog s [23] l),[.loc 0],.push,[]⟩]
def c88o15:List CItem:=[
  ⟨none,.r (sliceOpnds Try.prog 23 false true false),[.var 0,.var 2],.push,[]⟩,
  ⟨none,.p1 some,[.loc 0],(.set 1),[]⟩]
def c88o16:List CItem:=[
  ⟨none,.p1 some,[.var 2],.push,[]⟩,
  ⟨none,.p2 (binA Try.prog .add 3),[(.loc 0),(.const (.int .i64 (1)))],.push,[]⟩,
  ⟨none,.p1 some,[.loc 0],(.set 2),[]⟩]
def c88l17:CCode:=(.seq (.seq (.ops c88o4) (.cond (.var 6)
  .skip
  (.exit 0))) (.seq (.block 1 (.seq (.ops c88o5) (.cond (.var 7)
  (.seq (.ops c88o6) (.seq (.seq (.ops c88o7) (.block 2 (.loop c88l13))) (.seq (.ops c88o14) (.seq (.ops c88o15) .ret))))
  .skip))) (.ops c88o16)))
def c88o18:List CItem:=[
  ⟨none,.p1 some,[.var 0],(.set 1),[]⟩]
def c88:CFunc:=⟨1,10,(.seq (.ops c88o0) (.seq (.seq (.ops c88o1) (.cond (.var 5)
  (.seq (.ops c88o2) .ret)
  .skip)) (.seq (.seq (.ops c88o3) (.block 0 (.loop c88l17))) (.seq (.ops c88o18) .ret)))),[((.var 1),none)]⟩
def c108o0:List CItem:=[
  ⟨none,.p1 some,[(.const (.bool true))],(.set 4),[]⟩]
def c108o1:List CItem:=[
  ⟨none,.p1 some,[(.const (.bool true))],(.set 5),[]⟩]
def c108o2:List CItem:=[
  ⟨none,.p2 (binA Try.prog .sub 3),[.var 2,.var 1],.push,[]⟩,
  ⟨none,.p1 some,[.loc 0],(.set 6),[]⟩]
def c108o3:List CItem:=[
  ⟨none,.p2 (binA Try.prog .leq 3),[(.var 6),(.const (.int .i64 (12)))],(.set 15),[]⟩]
def c108o4:List CItem:=[
  ⟨none,.call 117,[.var 0,.var 1,.var 2],.push,[]⟩]
def c108o5:List CItem:=[
  ⟨none,.p2 (binA Try.prog .eql 3),[(.var 3),(.const (.int .i64 (0)))],(.set 16),[]⟩]
def c108o6:List CItem:=[
  ⟨none,.call 118,[.var 0,.var 1,.var 2],.push,[]⟩]
def c108o7:List CItem:=[
  ⟨none,.p1 (unA Try.prog Go.UnOp.not),[.var 4],(.set 17),[]⟩]
def c108o8:List CItem:=[
  ⟨none,.call 119,[.var 0,.var 1,.var 2],.push,[]⟩]
def c108o9:List CItem:=[
  ⟨none,.p1 some,[.var 3],.push,[]⟩,
  ⟨none,.p2 (binA Try.prog .sub 3),[(.loc 0),(.const (.int .i64 (1)))],.push,[]⟩,
  ⟨none,.p1 some,[.loc 0],(.set 3),[]⟩]
def c108o10:List CItem:=[
  ⟨none,.call 120,[.var 0,.var 1,.var 2],.push,[]⟩,
  ⟨none,.p1 (fun x=>Rp x 0),[.loc 0],.push,[]⟩,
  ⟨none,.p1 (fun x=>Rp x 1),[.loc 1],.push,[]⟩,
  ⟨none,.p1 some,[.loc 1],(.set 7),[]⟩,
  ⟨none,.p1 some,[.loc 0],(.set 8),[]⟩]
def c108o11:List CItem:=[
  ⟨none,.p2 (binA Try.prog .eql 138),[(.var 8),(.const (.int .i64 (2)))],(.set 18),[]⟩]
def c108o12:List CItem:=[
  ⟨none,.call 121,[.var 0,.var 1,.var 2],.push,[]⟩]
def c108o13:List CItem:=[
  ⟨none,.p2 (binA Try.prog .sub 3),[(.var 2),(.const (.int .i64 (1)))],.push,[]⟩,
  ⟨none,.p1 some,[.var 7],.push,[]⟩,
  ⟨none,.p2 (binA Try.prog .sub 3),[.loc 0,.var 1],.push,[]⟩,
  ⟨none,.p2 (binA Try.prog .sub 3),[.loc 2,.loc 0],.push,[]⟩,
  ⟨none,.p1 some,[.loc 0],(.set 7),[]⟩]
def c108o14:List CItem:=[
  ⟨none,.p1 some,[(.const (.int .i64 (1)))],(.set 8),[]⟩]
def c108o15:List CItem:=[
  ⟨(some ((.var 4),true)),.p1 some,[.var 5],.push,[]⟩,
  ⟨none,.p Rn,[(.var 4),(.loc 0),(.const (.bool false))],.push,[]⟩,
  ⟨(some ((.loc 0),true)),.p1 some,[.var 8],.push,[]⟩,
  ⟨(some ((.loc 1),true)),.p2 (binA Try.prog .eql 138),[(.loc 0),(.const (.int .i64 (1)))],.push,[]⟩,
  ⟨none,.p Rn,[(.loc 2),(.loc 0),(.const (.bool false))],(.set 19),[]⟩]
def c108o16:List CItem:=[
  ⟨none,.call 122,[.var 0,.var 1,.var 2],(.set 20),[]⟩]
def c108o17:List CItem:=[
  ⟨none,.p2 (binA Try.prog .gtr 3),[(.var 1),(.const (.int .i64 (0)))],.push,[]⟩,
  ⟨(some ((.loc 0),true)),.p1 some,[.var 0],.push,[]⟩,
  ⟨(some ((.loc 1),true)),.p1 some,[.var 1],.push,[]⟩,
  ⟨(some ((.loc 2),true)),.p2 (binA Try.prog .sub 3),[(.loc 0),(.const (.int .i64 (1)))],.push,[]⟩,
  ⟨(some ((.loc 3),true)),.p2 (indexAddrA Try.prog 23),[.loc 2,.loc 0],.push,[]⟩,
  ⟨(some ((.loc 4),true)),.r1 (fun s a=>loadV Try.prog s 3 a),[.loc 0],.push,[]⟩,
  ⟨(some ((.loc 5),true)),.p1 some,[.var 0],.push,[]⟩,
  ⟨(some ((.loc 6),true)),.p1 some,[.var 7],.push,[]⟩,
  ⟨(some ((.loc 7),true)),.p2 (indexAddrA Try.prog 23),[.loc 1,.loc 0],.push,[]⟩,
  ⟨(some ((.loc 8),true)),.r1 (fun s a=>loadV Try.prog s 3 a),[.loc 0],.push,[]⟩,
  ⟨(some ((.loc 9),true)),.call 123,[.loc 4,.loc 0],.push,[]⟩,
  ⟨(some ((.loc 10),true)),.p1 (unA Try.prog Go.UnOp.not),[.loc 0],.push,[]⟩,
  ⟨none,.p Rn,[(.loc 11),(.loc 0),(.const (.bool false))],(.set 21),[]⟩]
def c108o18:List CItem:=[
  ⟨none,.call 124,[.var 0,.var 1,.var 2,.var 7],.push,[]⟩,
  ⟨none,.p1 some,[.loc 0],(.set 9),[]⟩]
def c108o19:List CItem:=[
  ⟨none,.p1 some,[.var 9],(.set 1),[]⟩]
def c108o20:List CItem:=[
  ⟨none,.call 125,[.var 0,.var 1,.var 2,.var 7],.push,[]⟩,
  ⟨none,.p1 (fun x=>Rp x 0),[.loc 0],.push,[]⟩,
  ⟨none,.p1 (fun x=>Rp x 1),[.loc 1],.push,[]⟩,
  ⟨none,.p1 some,[.loc 1],(.set 10),[]⟩,
  ⟨none,.p1 some,[.loc 0],(.set 11),[]⟩]
def c108o21:List CItem:=[
  ⟨none,.p1 some,[.var 11],(.set 5),[]⟩]
def c108o22:List CItem:=[
  ⟨none,.p2 (binA Try.prog .sub 3),[.var 10,.var 1],.push,[]⟩,
  ⟨none,.p2 (binA Try.prog .sub 3),[.var 2,.var 10],.push,[]⟩,
  ⟨none,.p1 some,[.loc 1],(.set 12),[]⟩,
  ⟨none,.p1 some,[.loc 0],(.set 13),[]⟩]
def c108o23:List CItem:=[
  ⟨none,.p2 (binA Try.prog .quo 3),[(.var 6),(.const (.int .i64 (8)))],.push,[]⟩,
  ⟨none,.p1 some,[.loc 0],(.set 14),[]⟩]
def c108o24:List CItem:=[
  ⟨none,.p2 (binA Try.prog .lss 3),[.var 12,.var 13],(.set 22),[]⟩]
def c108o25:List CItem:=[
  ⟨none,.p2 (binA Try.prog .geq 3),[.var 12,.var 14],.push,[]⟩,
  ⟨none,.p1 some,[.loc 0],(.set 4),[]⟩]
def c108o26:List CItem:=[
  ⟨none,.call 108,[.var 0,.var 1,.var 10,.var 3],.push,[]⟩]
def c108o27:List CItem:=[
  ⟨none,.p2 (binA Try.prog .add 3),[(.var 10),(.const (.int .i64 (1)))],.push,[]⟩,
  ⟨none,.p1 some,[.loc 0],(.set 1),[]⟩]
def c108o28:List CItem:=[
  ⟨none,.p2 (binA Try.prog .geq 3),[.var 13,.var 14],.push,[]⟩,
  ⟨none,.p1 some,[.loc 0],(.set 4),[]⟩]
def c108o29:List CItem:=[
  ⟨none,.p2 (binA Try.prog .add 3),[(.var 10),(.const (.int .i64 (1)))],.push,[]⟩,
  ⟨none,.call 108,[.var 0,.loc 0,.var 2,.var 3],.push,[]⟩]
def c108o30:List CItem:=[
  ⟨none,.p1 some,[.var 10],(.set 2),[]⟩]
def c108l31:CCode:=(.block 1 (.seq (.ops c108o2) (.seq (.seq (.ops c108o3) (.cond (.var 15)
  (.seq (.ops c108o4) .ret)
  .skip)) (.seq (.seq (.ops c108o5) (.cond (.var 16)
  (.seq (.ops c108o6) .ret)
  .skip)) (.seq (.seq (.ops c108o7) (.cond (.var 17)
  (.seq (.ops c108o8) (.ops c108o9))
  .skip)) (.seq (.ops c108o10) (.seq (.seq (.ops c108o11) (.cond (.var 18)
  (.seq (.ops c108o12) (.seq (.ops c108o13) (.ops c108o14)))
  .skip)) (.seq (.seq (.ops c108o15) (.cond (.var 19)
  (.seq (.ops c108o16) (.cond (.var 20)
  .ret
  .skip))
  .skip)) (.seq (.seq (.ops c108o17) (.cond (.var 21)
  (.seq (.ops c108o18) (.seq (.ops c108o19) (.exit 1)))
  .skip)) (.seq (.ops c108o20) (.seq (.ops c108o21) (.seq (.ops c108o22) (.seq (.ops c108o23) (.seq (.ops c108o24) (.cond (.var 22)
  (.seq (.ops c108o25) (.seq (.ops c108o26) (.ops c108o27)))
  (.seq (.ops c108o28) (.seq (.ops c108o29) (.ops c108o30))))))))))))))))))
def c108:CFunc:=⟨4,23,(.seq (.ops c108o0) (.seq (.ops c108o1) (.block 0 (.loop c108l31)))),[]⟩
def c117o0:List CItem:=[
  ⟨none,.p2 (binA Try.prog .add 3),[(.var 1),(.const (.int .i64 (1)))],.push,[]⟩,
  ⟨none,.p1 some,[.loc 0],(.set 3),[]⟩]
def c117o1:List CItem:=[
  ⟨none,.p2 (binA Try.prog .lss 3),[.var 3,.var 2],(.set 5),[]⟩]
def c117o2:List CItem:=[
  ⟨none,.p1 some,[.var 3],(.set 4),[]⟩]
def c117o3:List CItem:=[
  ⟨none,.p2 (binA Try.prog .gtr 3),[.var 4,.var 1],.push,[]⟩,
  ⟨(some ((.loc 0),true)),.p1 some,[.var 0],.push,[]⟩,
  ⟨(some ((.loc 1),true)),.p1 some,[.var 4],.push,[]⟩,
  ⟨(some ((.loc 2),true)),.p2 (indexAddrA Try.prog 23),[.loc 1,.loc 0],.push,[]⟩,
  ⟨(some ((.loc 3),true)),.r1 (fun s a=>loadV Try.prog s 3 a),[.loc 0],.push,[]⟩,
  ⟨(some ((.loc 4),true)),.p1 some,[.var 0],.push,[]⟩,
  ⟨(some ((.loc 5),true)),.p1 some,[.var 4],.push,[]⟩,
  ⟨(some ((.loc 6),true)),.p2 (binA Try.prog .sub 3),[(.loc 0),(.const (.int .i64 (1)))],.push,[]⟩,
  ⟨(some ((.loc 7),true)),.p2 (indexAddrA Try.prog 23),[.loc 2,.loc 0],.push,[]⟩,
  ⟨(some ((.loc 8),true)),.r1 (fun s a=>loadV Try.prog s 3 a),[.loc 0],.push,[]⟩,
  ⟨(some ((.loc 9),true)),.call 123,[.loc 5,.loc 0],.push,[]⟩,
  ⟨none,.p Rn,[(.loc 10),(.loc 0),(.const (.bool false))],(.set 6),[]⟩]
def c117o4:List CItem:=[
  ⟨none,.p2 (binA Try.prog .sub 3),[(.var 4),(.const (.int .i64 (1)))],.push,[]⟩,
  ⟨none,.p2 (binA Try.prog .sub 3),[(.var 4),(.const (.int .i64 (1)))],.push,[]⟩,
  ⟨none,.p2 (indexAddrA Try.prog 23),[.var 0,.loc 0],.push,[]⟩,
  ⟨none,.r1 (fun s a=>loadV Try.prog s 3 a),[.loc 0],.push,[]⟩,
  ⟨none,.p2 (indexAddrA Try.prog 23),[.var 0,.var 4],.push,[]⟩,
  ⟨none,.r1 (fun s a=>loadV Try.prog s 3 a),[.loc 0],.push,[]⟩,
  ⟨none,.p2 (indexAddrA Try.prog 23),[.var 0,.var 4],.push,[]⟩,
  ⟨none,.e (fun s=>on2 (fun a x=>withV (storeV Try.prog s 3 a x))),[.loc 0,.loc 3],.push,[]⟩,
  ⟨none,.p2 (indexAddrA Try.prog 23),[.var 0,.loc 7],.push,[]⟩,
  ⟨none,.e (fun s=>on2 (fun a x=>withV (storeV Try.prog s 3 a x))),[.loc 0,.loc 3],.push,[]⟩]
def c117o5:List CItem:=[
  ⟨none,.p1 some,[.var 4],.push,[]⟩,
  ⟨none,.p2 (binA Try.prog .sub 3),[(.loc 0),(.const (.int .i64 (1)))],.push,[]⟩,
  ⟨none,.p1 some,[.loc 0],(.set 4),[]⟩]
def c117l6:CCode:=(.seq (.seq (.ops c117o3) (.cond (.var 6)
  .skip
  (.exit 2))) (.seq (.block 3 (.ops c117o4)) (.ops c117o5)))
def c117o7:List CItem:=[
  ⟨none,.p1 some,[.var 3],.push,[]⟩,
  ⟨none,.p2 (binA Try.prog .add 3),[(.loc 0),(.const (.int .i64 (1)))],.push,[]⟩,
  ⟨none,.p1 some,[.loc 0],(.set 3),[]⟩]
def c117l8:CCode:=(.seq (.seq (.ops c117o1) (.cond (.var 5)
  .skip
  (.exit 0))) (.seq (.block 1 (.seq (.ops c117o2) (.block 2 (.loop c117l6)))) (.ops c117o7)))
def c117:CFunc:=⟨3,7,(.seq (.ops c117o0) (.block 0 (.loop c117l8))),[]⟩
def c4o0:List CItem:=[
  ⟨none,.p1 some,[(.const (.bool false))],(.set 3),[]⟩]
def c4o1:List CItem:=[
  ⟨none,.call 22,[(.var 0),(.const (.int .i64 (6)))],.push,[]⟩,
  ⟨none,.call 23,[.var 1],.push,[]⟩,
  ⟨none,.p1 some,[.loc 1],(.set 4),[]⟩,
  ⟨none,.p1 some,[.loc 0],(.set 5),[]⟩]
def c4o2:List CItem:=[
  ⟨none,.call 24,[.var 4,.var 5],.push,[]⟩,
  ⟨none,.p1 (fun x=>Rp x 0),[.loc 0],.push,[]⟩,
  ⟨none,.p1 (fun x=>Rp x 1),[.loc 1],.push,[]⟩,
  ⟨none,.p1 some,[.loc 1],(.set 6),[]⟩,
  ⟨none,.p1 some,[.loc 0],(.set 7),[]⟩]
def c4o3:List CItem:=[
  ⟨none,.call 25,[.var 4,.var 5],.push,[]⟩,
  ⟨none,.p1 (fun x=>Rp x 0),[.loc 0],.push,[]⟩,
  ⟨none,.p1 (fun x=>Rp x 1),[.loc 1],.push,[]⟩,
  ⟨none,.p1 some,[.loc 1],(.set 8),[]⟩,
  ⟨none,.p1 some,[.loc 0],(.set 9),[]⟩]
def c4o4:List CItem:=[
  ⟨none,.p2 (binA Try.prog .neq 3),[.var 6,.var 8],.push,[]⟩,
  ⟨(some ((.loc 0),false)),.p1 some,[.var 7],.push,[]⟩,
  ⟨(some ((.loc 1),false)),.p1 some,[.var 9],.push,[]⟩,
  ⟨(some ((.loc 2),false)),.p2 (binA Try.prog .neq 4),[.loc 1,.loc 0],.push,[]⟩,
  ⟨none,.p Rn,[(.loc 3),(.const (.bool true)),(.loc 0)],.push,[]⟩,
  ⟨(some ((.loc 0),false)),.p1 some,[.var 4],.push,[]⟩,
  ⟨(some ((.loc 1),false)),.p1 some,[.var 5],.push,[]⟩,
  ⟨(some ((.loc 2),false)),.call 27,[.loc 1,.loc 0],.push,[]⟩,
  ⟨(some ((.loc 3),false)),.p1 some,[.var 4],.push,[]⟩,
  ⟨(some ((.loc 4),false)),.p1 some,[.var 5],.push,[]⟩,
  ⟨(some ((.loc 5),false)),.call 28,[.loc 1,.loc 0],.push,[]⟩,
  ⟨(some ((.loc 6),false)),.call 26,[.loc 3,.loc 0],.push,[]⟩,
  ⟨(some ((.loc 7),false)),.p1 (unA Try.prog Go.UnOp.not),[.loc 0],.push,[]⟩,
  ⟨none,.p Rn,[(.loc 8),(.const (.bool true)),(.loc 0)],(.set 14),[]⟩]
def c4o5:List CItem:=[
  ⟨none,.p1 some,[(.const (.bool false))],(.set 3),[]⟩]
def c4o6:List CItem:=[
  ⟨none,.p1 some,[(.const (.int .i64 (0)))],(.set 10),[]⟩]
def c4o7:List CItem:=[
  ⟨none,.r (fun s l=>match l with | [x]=>lenA Try.prog s 33 x | _=>none),[.var 5],.push,[]⟩,
  ⟨none,.p2 (binA Try.prog .lss 3),[.var 10,.loc 0],(.set 15),[]⟩]
def c4o8:List CItem:=[
  ⟨none,.p2 (indexAddrA Try.prog 33),[.var 5,.var 10],.push,[]⟩,
  ⟨none,.p1 (fun x=>fieldAddrA Try.prog 27 x 1),[.loc 0],.push,[]⟩,
  ⟨none,.r1 (fun s a=>loadV Try.prog s 23 a),[.loc 0],.push,[]⟩,
  ⟨none,.p2 (indexAddrA Try.prog 33),[.var 5,.var 10],.push,[]⟩,
  ⟨none,.p1 (fun x=>fieldAddrA Try.prog 27 x 1),[.loc 0],.push,[]⟩,
  ⟨none,.r1 (fun s a=>loadV Try.prog s 23 a),[.loc 0],.push,[]⟩,
  ⟨none,.call 17,[.var 4,.loc 3],.push,[⟨none,.r1 (fun s a=>loadV Try.prog s 23 a),[.loc 2],(.loc 1)⟩]⟩,
  ⟨none,.call 29,[.var 4,.loc 1],.push,[]⟩,
  ⟨none,.p2 (binA Try.prog .neq 4),[.loc 1,.loc 0],(.set 16),[]⟩]
def c4o9:List CItem:=[
  ⟨none,.p1 some,[(.const (.bool false))],(.set 3),[]⟩]
def c4o10:List CItem:=[
  ⟨none,.p1 some,[.var 10],.push,[]⟩,
  ⟨none,.p2 (binA Try.prog .add 3),[(.loc 0),(.const (.int .i64 (1)))],.push,[]⟩,
  ⟨none,.p1 some,[.loc 0],(.set 10),[]⟩]
def c4l11:CCode:=(.seq (.seq (.ops c4o7) (.cond (.var 15)
  .skip
  (.exit 0))) (.seq (.block 1 (.seq (.ops c4o8) (.cond (.var 16)
  (.seq (.ops c4o9) .ret)
  .skip))) (.ops c4o10)))
def c4o12:List CItem:=[
  ⟨none,.p1 some,[(.const (.slice none 0 (some 0)))],(.set 11),[]⟩]
def c4o13:List CItem:=[
  ⟨none,.p1 some,[(.const (.int .i64 (0)))],(.set 12),[]⟩]
def c4o14:List CItem:=[
  ⟨none,.r (fun s l=>match l with | [x]=>lenA Try.prog s 22 x | _=>none),[.var 2],.push,[]⟩,
  ⟨none,.p2 (binA Try.prog .lss 3),[.var 12,.loc 0],.push,[]⟩,
  ⟨(some ((.loc 0),true)),.p1 some,[.var 12],.push,[]⟩,
  ⟨(some ((.loc 1),true)),.p2 (binA Try.prog .lss 3),[(.loc 0),(.const (.int .i64 (10)))],.push,[]⟩,
  ⟨none,.p Rn,[(.loc 2),(.loc 0),(.const (.bool false))],(.set 17),[]⟩]
def c4o15:List CItem:=[
  ⟨none,.p1 some,[.var 11],.push,[]⟩,
  ⟨none,.p2 (indexAddrA Try.prog 22),[.var 2,.var 12],.push,[]⟩,
  ⟨none,.r1 (fun s a=>loadV Try.prog s 23 a),[.loc 0],.push,[]⟩,
  ⟨none,.p2 (indexAddrA Try.prog 22),[.var 2,.var 12],.push,[]⟩,
  ⟨none,.r1 (fun s a=>loadV Try.prog s 23 a),[.loc 0],.push,[]⟩,
  ⟨none,.r (fun s l=>match l with | [x]=>lenA Try.prog s 23 x | _=>none),[.loc 0],.push,[]⟩,
  ⟨none,.p (fun l=>match l with | v::l=>minMax false v l | []=>none),[(.loc 0),(.const (.int .i64 (6)))],.push,[]⟩,
  ⟨none,.r (sliceOpnds Try.prog 23 false true false),[.loc 4,.loc 0],.push,[]⟩,
  ⟨none,.mk (fun l=>(sliceRowA Try.prog 22 1 (zipIdx [0] l)).bind fun r=>some (r,.slice 1)),[.loc 0],.push,[]⟩,
  ⟨none,.e (fun s l=>appendA Try.prog s [22,22] l),[.loc 8,.loc 0],.push,[]⟩,
  ⟨none,.p1 some,[.loc 0],(.set 11),[]⟩]
def c4o16:List CItem:=[
  ⟨none,.p1 some,[.var 12],.push,[]⟩,
  ⟨none,.p2 (binA Try.prog .add 3),[(.loc 0),(.const (.int .i64 (1)))],.push,[]⟩,
  ⟨none,.p1 some,[.loc 0],(.set 12),[]⟩]
def c4l17:CCode:=(.seq (.seq (.ops c4o14) (.cond (.var 17)
  .skip
  (.exit 2))) (.seq (.block 3 (.ops c4o15)) (.ops c4o16)))
def c4o18:List CItem:=[
  ⟨none,.p1 some,[(.const (.int .i64 (0)))],(.set 13),[]⟩]
def c4o19:List CItem:=[
  ⟨none,.r (fun s l=>match l with | [x]=>lenA Try.prog s 22 x | _=>none),[.var 11],.push,[]⟩,
  ⟨none,.p2 (binA Try.prog .lss 3),[.var 13,.loc 0],(.set 18),[]⟩]
def c4o20:List CItem:=[
  ⟨none,.r (sliceOpnds Try.prog 22 true false false),[.var 11,.var 13],.push,[]⟩,
  ⟨none,.p2 (indexAddrA Try.prog 22),[(.var 11),(.const (.int .i64 (0)))],.push,[]⟩,
  ⟨none,.r1 (fun s a=>loadV Try.prog s 23 a),[.loc 0],.push,[]⟩,
  ⟨none,.r (sliceOpnds Try.prog 22 true false false),[.var 11,.var 13],.push,[]⟩,
  ⟨none,.p2 (indexAddrA Try.prog 22),[(.var 11),(.const (.int .i64 (0)))],.push,[]⟩,
  ⟨none,.r1 (fun s a=>loadV Try.prog s 23 a),[.loc 0],.push,[]⟩,
  ⟨none,.call 17,[.loc 5,.loc 3],.push,[⟨none,.r1 (fun s a=>loadV Try.prog s 23 a),[.loc 2],(.loc 1)⟩,⟨none,.r (sliceOpnds Try.prog 22 true false false),[.var 11,.var 13],(.loc 3)⟩]⟩,
  ⟨none,.call 29,[.loc 3,.loc 1],.push,[]⟩,
  ⟨none,.p2 (binA Try.prog .neq 4),[.loc 1,.loc 0],.push,[]⟩,
  ⟨(some ((.loc 0),false)),.p1 some,[.var 11],.push,[]⟩,
  ⟨(some ((.loc 1),false)),.p1 some,[.var 11],.push,[]⟩,
  ⟨(some ((.loc 2),false)),.call 17,[(.loc 1),(.const (.slice none 0 (some 0)))],.push,[]⟩,
  ⟨(some ((.loc 3),false)),.call 29,[(.loc 1),(.const (.slice none 0 (some 0)))],.push,[]⟩,
  ⟨(some ((.loc 4),false)),.p2 (binA Try.prog .neq 4),[.loc 1,.loc 0],.push,[]⟩,
  ⟨none,.p Rn,[(.loc 5),(.const (.bool true)),(.loc 0)],(.set 19),[]⟩]
def c4o21:List CItem:=[
  ⟨none,.p1 some,[(.const (.bool false))],(.set 3),[]⟩]
def c4o22:List CItem:=[
  ⟨none,.p1 some,[.var 13],.push,[]⟩,
  ⟨none,.p2 (binA Try.prog .add 3),[(.loc 0),(.const (.int .i64 (1)))],.push,[]⟩,
  ⟨none,.p1 some,[.loc 0],(.set 13),[]⟩]
def c4l23:CCode:=(.seq (.seq (.ops c4o19) (.cond (.var 18)
  .skip
  (.exit 4))) (.seq (.block 5 (.seq (.ops c4o20) (.cond (.var 19)
  (.seq (.ops c4o21) .ret)
  .skip))) (.ops c4o22)))
def c4o24:List CItem:=[
  ⟨none,.call 21,[],.push,[]⟩,
  ⟨none,.p1 some,[.loc 0],(.set 3),[]⟩]
def c4:CFunc:=⟨3,20,(.seq (.ops c4o0) (.seq (.ops c4o1) (.seq (.ops c4o2) (.seq (.ops c4o3) (.seq (.seq (.ops c4o4) (.cond (.var 14)
  (.seq (.ops c4o5) .ret)
  .skip)) (.seq (.seq (.ops c4o6) (.block 0 (.loop c4l11))) (.seq (.ops c4o12) (.seq (.seq (.ops c4o13) (.block 2 (.loop c4l17))) (.seq (.seq (.ops c4o18) (.block 4 (.loop c4l23))) (.seq (.ops c4o24) .ret)))))))))),[((.var 3),none)]⟩
theorem comp48:compFunc Try.prog 48=some c48:=by kernel_rfl
theorem comp49:compFunc Try.prog 49=some c49:=by kernel_rfl
theorem comp50:compFunc Try.prog 50=some c50:=by kernel_rfl
theorem comp52:compFunc Try.prog 52=some c52:=by kernel_rfl
theorem comp51:compFunc Try.prog 51=some c51:=by kernel_rfl
theorem comp17:compFunc Try.prog 17=some c17:=by kernel_rfl
theorem comp60:compFunc Try.prog 60=some c60:=by kernel_rfl
theorem comp94:compFunc Try.prog 94=some c94:=by kernel_rfl
theorem comp87:compFunc Try.prog 87=some c87:=by kernel_rfl
theorem comp88:compFunc Try.prog 88=some c88:=by kernel_rfl
theorem comp108:compFunc Try.prog 108=some c108:=by kernel_rfl
theorem comp117:compFunc Try.prog 117=some c117:=by kernel_rfl
end
end Go.Proofs.Ytilhhmkdcoajnaa.Am
