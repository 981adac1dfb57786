/- The compiled code of the solver, printed by a program of ours (dev/Print.lean) and checked by the kernel; conditions: none. -/
import Derived.Test.YtilhhmkdcoajnaaAmM32
set_option linter.unusedVariables false
set_option linter.unusedSimpArgs false
namespace Go.Proofs.Ytilhhmkdcoajnaa.Am
open Go Go.Proofs
noncomputable section
theorem ag44:aggT Try.prog 44=some false:=by kernel_rfl
theorem sz88:sizeT Try.prog 88=some 1:=by kernel_rfl
theorem ag88:aggT Try.prog 88=some false:=by kernel_rfl
theorem sz89:sizeT Try.prog 89=some 1:=by kernel_rfl
theorem by89:bytesT Try.prog 89=some 24:=by kernel_rfl
theorem ag89:aggT Try.prog 89=some false:=by kernel_rfl
theorem zr89:zeroT Try.prog 89=some (.slice none 0 (some 0)):=by kernel_rfl
theorem zr91:zeroT Try.prog 91=some (.agg [(.slice none 0 (some 0)),(.slice none 0 (some 0)),(.slice none 0 (some 0)),(.slice none 0 (some 0)),(.slice none 0 (some 0)),(.slice none 0 (some 0)),(.slice none 0 (some 0)),(.slice none 0 (some 0)),(.slice none 0 (some 0)),(.int .i64 (0)),(.bool false),(.slice none 0 (some 0)),(.slice none 0 (some 0)),(.int .i64 (0)),(.int .i64 (0))]):=by kernel_rfl
theorem sz92:sizeT Try.prog 92=some 1:=by kernel_rfl
theorem by92:bytesT Try.prog 92=some 8:=by kernel_rfl
theorem ag92:aggT Try.prog 92=some false:=by kernel_rfl
theorem zr92:zeroT Try.prog 92=some (.ptr none):=by kernel_rfl
theorem zr104:zeroT Try.prog 104=some (.agg [(.slice none 0 (some 0)),(.bool false),(.bool false)]):=by kernel_rfl
theorem sz115:sizeT Try.prog 115=some 1:=by kernel_rfl
theorem ag115:aggT Try.prog 115=some false:=by kernel_rfl
theorem zr115:zeroT Try.prog 115=some (.map none):=by kernel_rfl
theorem sz119:sizeT Try.prog 119=some 0:=by kernel_rfl
theorem zr119:zeroT Try.prog 119=some (.agg []):=by kernel_rfl
def c90o0:List CItem:=[
  ⟨none,.p1 some,[(.const (.int .i64 (0)))],(.set 1),[]⟩]
def c90o1:List CItem:=[
  ⟨none,.p1 (unA Try.prog Go.UnOp.neg),[.var 0],.push,[]⟩,
  ⟨none,.p (fun l=>match l with | v::l=>minMax true v l | []=>none),[.var 0,.loc 0],.push,[]⟩,
  ⟨none,.p1 some,[.loc 0],(.set 1),[]⟩]
def c90:CFunc:=⟨1,2,(.seq (.ops c90o0) (.seq (.ops c90o1) .ret)),[((.var 1),none)]⟩
def c91o0:List CItem:=[
  ⟨none,.p1 some,[(.const (.int .i64 (0)))],(.set 1),[]⟩]
def c91o1:List CItem:=[
  ⟨none,.p2 (binA Try.prog .lss 3),[(.var 0),(.const (.int .i64 (0)))],(.set 2),[]⟩]
def c91o2:List CItem:=[
  ⟨none,.p2 (binA Try.prog .mul 3),[(.const (.int .i64 (2))),(.var 0)],.push,[]⟩,
  ⟨none,.p2 (binA Try.prog .sub 3),[(.const (.int .i64 (1))),(.loc 0)],.push,[]⟩,
  ⟨none,.p1 some,[.loc 0],(.set 1),[]⟩]
def c91o3:List CItem:=[
  ⟨none,.p2 (binA Try.prog .mul 3),[(.const (.int .i64 (2))),(.var 0)],.push,[]⟩,
  ⟨none,.p1 some,[.loc 0],(.set 1),[]⟩]
def c91:CFunc:=⟨1,3,(.seq (.ops c91o0) (.seq (.seq (.ops c91o1) (.cond (.var 2)
  (.seq (.ops c91o2) .ret)
  .skip)) (.seq (.ops c91o3) .ret))),[((.var 1),none)]⟩
def c77o0:List CItem:=[
  ⟨none,.p1 some,[(.const (.int .i64 (0)))],(.set 2),[]⟩]
def c77o1:List CItem:=[
  ⟨none,.p2 (binA Try.prog .lss 3),[(.var 1),(.const (.int .i64 (0)))],(.set 3),[]⟩]
def c77o2:List CItem:=[
  ⟨none,.p1 nilCheckA,[.var 0],.push,[]⟩,
  ⟨none,.p1 (fun x=>fieldAddrA Try.prog 91 x 2),[.loc 0],.push,[]⟩,
  ⟨none,.r1 (fun s a=>loadV Try.prog s 23 a),[.loc 0],.push,[]⟩,
  ⟨none,.p1 (unA Try.prog Go.UnOp.neg),[.var 1],.push,[]⟩,
  ⟨none,.p2 (indexAddrA Try.prog 23),[.loc 1,.loc 0],.push,[]⟩,
  ⟨none,.r1 (fun s a=>loadV Try.prog s 3 a),[.loc 0],.push,[]⟩,
  ⟨none,.p1 (unA Try.prog Go.UnOp.neg),[.loc 0],.push,[]⟩,
  ⟨none,.p1 some,[.loc 0],(.set 2),[]⟩]
def c77o3:List CItem:=[
  ⟨none,.p1 nilCheckA,[.var 0],.push,[]⟩,
  ⟨none,.p1 (fun x=>fieldAddrA Try.prog 91 x 2),[.loc 0],.push,[]⟩,
  ⟨none,.r1 (fun s a=>loadV Try.prog s 23 a),[.loc 0],.push,[]⟩,
  ⟨none,.p2 (indexAddrA Try.prog 23),[.loc 0,.var 1],.push,[]⟩,
  ⟨none,.r1 (fun s a=>loadV Try.prog s 3 a),[.loc 0],.push,[]⟩,
  ⟨none,.p1 some,[.loc 0],(.set 2),[]⟩]
def c77:CFunc:=⟨2,4,(.seq (.ops c77o0) (.seq (.seq (.ops c77o1) (.cond (.var 3)
  (.seq (.ops c77o2) .ret)
  .skip)) (.seq (.ops c77o3) .ret))),[((.var 2),none)]⟩
def c71o0:List CItem:=[
  ⟨none,.call 90,[.var 1],.push,[]⟩,
  ⟨none,.p1 some,[.loc 0],(.set 3),[]⟩]
def c71o1:List CItem:=[
  ⟨none,.p1 nilCheckA,[.var 0],.push,[]⟩,
  ⟨none,.p1 (fun x=>fieldAddrA Try.prog 91 x 2),[.loc 0],.push,[]⟩,
  ⟨none,.r1 (fun s a=>loadV Try.prog s 23 a),[.loc 0],.push,[]⟩,
  ⟨none,.p1 nilCheckA,[.var 0],.push,[]⟩,
  ⟨none,.p1 (fun x=>fieldAddrA Try.prog 91 x 3),[.loc 0],.push,[]⟩,
  ⟨none,.r1 (fun s a=>loadV Try.prog s 23 a),[.loc 0],.push,[]⟩,
  ⟨none,.p1 nilCheckA,[.var 0],.push,[]⟩,
  ⟨none,.p1 (fun x=>fieldAddrA Try.prog 91 x 4),[.loc 0],.push,[]⟩,
  ⟨none,.r1 (fun s a=>loadV Try.prog s 89 a),[.loc 0],.push,[]⟩,
  ⟨none,.p2 (binA Try.prog .quo 3),[.var 1,.var 3],.push,[]⟩,
  ⟨none,.p1 nilCheckA,[.var 0],.push,[]⟩,
  ⟨none,.p1 (fun x=>fieldAddrA Try.prog 91 x 8),[.loc 0],.push,[]⟩,
  ⟨none,.r1 (fun s a=>loadV Try.prog s 23 a),[.loc 0],.push,[]⟩,
  ⟨none,.r (fun s l=>match l with | [x]=>lenA Try.prog s 23 x | _=>none),[.loc 0],.push,[]⟩,
  ⟨none,.p2 (indexAddrA Try.prog 23),[.loc 11,.var 3],.push,[]⟩,
  ⟨none,.e (fun s=>on2 (fun a x=>withV (storeV Try.prog s 3 a x))),[.loc 0,.loc 5],.push,[⟨none,.r (fun s l=>match l with | [x]=>lenA Try.prog s 23 x | _=>none),[.loc 3],(.loc 2)⟩]⟩,
  ⟨none,.p2 (indexAddrA Try.prog 23),[.loc 10,.var 3],.push,[]⟩,
  ⟨none,.e (fun s=>on2 (fun a x=>withV (storeV Try.prog s 3 a x))),[.loc 0,.loc 3],.push,[]⟩,
  ⟨none,.p2 (indexAddrA Try.prog 89),[.loc 9,.var 3],.push,[]⟩,
  ⟨none,.e (fun s=>on2 (fun a x=>withV (storeV Try.prog s 92 a x))),[.loc 0,.var 2],.push,[]⟩]
def c71o2:List CItem:=[
  ⟨none,.p1 nilCheckA,[.var 0],.push,[]⟩,
  ⟨none,.p1 (fun x=>fieldAddrA Try.prog 91 x 7),[.loc 0],.push,[]⟩,
  ⟨none,.r1 (fun s a=>loadV Try.prog s 23 a),[.loc 0],.push,[]⟩,
  ⟨none,.mk (fun l=>(sliceRowA Try.prog 23 1 (zipIdx [0] l)).bind fun r=>some (r,.slice 1)),[.var 1],.push,[]⟩,
  ⟨none,.e (fun s l=>appendA Try.prog s [23,23] l),[.loc 1,.loc 0],.push,[]⟩,
  ⟨none,.p1 nilCheckA,[.var 0],.push,[]⟩,
  ⟨none,.p1 (fun x=>fieldAddrA Try.prog 91 x 7),[.loc 0],.push,[]⟩,
  ⟨none,.e (fun s=>on2 (fun a x=>withV (storeV Try.prog s 23 a x))),[.loc 0,.loc 2],.push,[]⟩]
def c71:CFunc:=⟨3,4,(.seq (.ops c71o0) (.seq (.ops c71o1) (.ops c71o2))),[]⟩
def c78o0:List CItem:=[
  ⟨none,.p1 nilCheckA,[.var 1],.push,[]⟩,
  ⟨none,.p1 (fun x=>fieldAddrA Try.prog 104 x 0),[.loc 0],.push,[]⟩,
  ⟨none,.r1 (fun s a=>loadV Try.prog s 23 a),[.loc 0],.push,[]⟩,
  ⟨none,.r (sliceOpnds Try.prog 23 false true false),[(.loc 0),(.const (.int .i64 (2)))],(.set 3),[]⟩,
  ⟨none,.r (fun s l=>match l with | [x]=>lenA Try.prog s 23 x | _=>none),[.var 3],(.set 4),[]⟩,
  ⟨none,.p1 some,[(.const (.int .i64 (0)))],(.set 5),[]⟩]
def c78o1:List CItem:=[
  ⟨none,.p2 (binA Try.prog .lss 3),[.var 5,.var 4],(.set 6),[]⟩]
def c78o2:List CItem:=[
  ⟨none,.p2 (indexAddrA Try.prog 23),[.var 3,.var 5],.push,[]⟩,
  ⟨none,.r1 (fun s a=>loadV Try.prog s 3 a),[.loc 0],.push,[]⟩,
  ⟨none,.p1 some,[.loc 0],(.set 2),[]⟩]
def c78o3:List CItem:=[
  ⟨none,.p1 nilCheckA,[.var 0],.push,[]⟩,
  ⟨none,.p1 (fun x=>fieldAddrA Try.prog 91 x 0),[.loc 0],.push,[]⟩,
  ⟨none,.r1 (fun s a=>loadV Try.prog s 88 a),[.loc 0],.push,[]⟩,
  ⟨none,.p1 nilCheckA,[.var 0],.push,[]⟩,
  ⟨none,.p1 (fun x=>fieldAddrA Try.prog 91 x 0),[.loc 0],.push,[]⟩,
  ⟨none,.r1 (fun s a=>loadV Try.prog s 88 a),[.loc 0],.push,[]⟩,
  ⟨none,.mk (fun l=>(sliceRowA Try.prog 89 1 (zipIdx [0] l)).bind fun r=>some (r,.slice 1)),[.var 1],.push,[]⟩,
  ⟨none,.call 91,[.var 2],.push,[⟨none,.r1 (fun s a=>loadV Try.prog s 88 a),[.loc 3],(.loc 2)⟩,⟨none,.r1 (fun s a=>loadV Try.prog s 88 a),[.loc 6],(.loc 5)⟩]⟩,
  ⟨none,.call 91,[.var 2],.push,[⟨none,.r1 (fun s a=>loadV Try.prog s 88 a),[.loc 4],(.loc 3)⟩,⟨none,.r1 (fun s a=>loadV Try.prog s 88 a),[.loc 7],(.loc 6)⟩]⟩,
  ⟨none,.p2 (indexAddrA Try.prog 88),[.loc 3,.loc 0],.push,[]⟩,
  ⟨none,.r1 (fun s a=>loadV Try.prog s 89 a),[.loc 0],.push,[]⟩,
  ⟨none,.e (fun s l=>appendA Try.prog s [89,89] l),[.loc 0,.loc 4],.push,[⟨none,.r1 (fun s a=>loadV Try.prog s 88 a),[.loc 10],(.loc 9)⟩]⟩,
  ⟨none,.p2 (indexAddrA Try.prog 88),[.loc 9,.loc 4],.push,[]⟩,
  ⟨none,.e (fun s=>on2 (fun a x=>withV (storeV Try.prog s 89 a x))),[.loc 0,.loc 1],.push,[]⟩]
def c78o4:List CItem:=[
  ⟨none,.p2 (binA Try.prog .add 3),[(.var 5),(.const (.int .i64 (1)))],.push,[]⟩,
  ⟨none,.p1 some,[.loc 0],(.set 5),[]⟩]
def c78l5:CCode:=(.seq (.ops c78o1) (.seq (.cond (.var 6)
  .skip
  (.exit 0)) (.seq (.block 1 (.seq (.ops c78o2) (.ops c78o3))) (.ops c78o4))))
def c78:CFunc:=⟨2,7,(.seq (.ops c78o0) (.block 0 (.loop c78l5))),[]⟩
def c63o0:List CItem:=[
  ⟨none,.p1 nilCheckA,[.var 0],.push,[]⟩,
  ⟨none,.p1 (fun x=>fieldAddrA Try.prog 91 x 8),[.loc 0],.push,[]⟩,
  ⟨none,.r1 (fun s a=>loadV Try.prog s 23 a),[.loc 0],.push,[]⟩,
  ⟨none,.r (fun s l=>match l with | [x]=>lenA Try.prog s 23 x | _=>none),[.loc 0],.push,[]⟩,
  ⟨none,.p2 (binA Try.prog .leq 3),[.loc 0,.var 1],(.set 5),[]⟩]
def c63o1:List CItem:=[
  ⟨none,.p1 nilCheckA,[.var 0],.push,[]⟩,
  ⟨none,.p1 (fun x=>fieldAddrA Try.prog 91 x 8),[.loc 0],.push,[]⟩,
  ⟨none,.r1 (fun s a=>loadV Try.prog s 23 a),[.loc 0],.push,[]⟩,
  ⟨none,.p2 (indexAddrA Try.prog 23),[.loc 0,.var 1],.push,[]⟩,
  ⟨none,.r1 (fun s a=>loadV Try.prog s 3 a),[.loc 0],.push,[]⟩,
  ⟨none,.p1 some,[.loc 0],(.set 2),[]⟩]
def c63o2:List CItem:=[
  ⟨none,.p1 nilCheckA,[.var 0],.push,[]⟩,
  ⟨none,.p1 (fun x=>fieldAddrA Try.prog 91 x 7),[.loc 0],.push,[]⟩,
  ⟨none,.r1 (fun s a=>loadV Try.prog s 23 a),[.loc 0],.push,[]⟩,
  ⟨none,.r (sliceOpnds Try.prog 23 true false false),[.loc 0,.var 2],(.set 6),[]⟩,
  ⟨none,.r (fun s l=>match l with | [x]=>lenA Try.prog s 23 x | _=>none),[.var 6],(.set 7),[]⟩,
  ⟨none,.p1 some,[(.const (.int .i64 (0)))],(.set 8),[]⟩]
def c63o3:List CItem:=[
  ⟨none,.p2 (binA Try.prog .lss 3),[.var 8,.var 7],(.set 9),[]⟩]
def c63o4:List CItem:=[
  ⟨none,.p2 (indexAddrA Try.prog 23),[.var 6,.var 8],.push,[]⟩,
  ⟨none,.r1 (fun s a=>loadV Try.prog s 3 a),[.loc 0],.push,[]⟩,
  ⟨none,.p1 some,[.loc 0],(.set 3),[]⟩]
def c63o5:List CItem:=[
  ⟨none,.call 90,[.var 3],.push,[]⟩,
  ⟨none,.p1 some,[.loc 0],(.set 4),[]⟩]
def c63o6:List CItem:=[
  ⟨none,.p1 nilCheckA,[.var 0],.push,[]⟩,
  ⟨none,.p1 (fun x=>fieldAddrA Try.prog 91 x 6),[.loc 0],.push,[]⟩,
  ⟨none,.r1 (fun s a=>loadV Try.prog s 23 a),[.loc 0],.push,[]⟩,
  ⟨none,.p1 nilCheckA,[.var 0],.push,[]⟩,
  ⟨none,.p1 (fun x=>fieldAddrA Try.prog 91 x 2),[.loc 0],.push,[]⟩,
  ⟨none,.r1 (fun s a=>loadV Try.prog s 23 a),[.loc 0],.push,[]⟩,
  ⟨none,.p1 nilCheckA,[.var 0],.push,[]⟩,
  ⟨none,.p1 (fun x=>fieldAddrA Try.prog 91 x 4),[.loc 0],.push,[]⟩,
  ⟨none,.r1 (fun s a=>loadV Try.prog s 89 a),[.loc 0],.push,[]⟩,
  ⟨none,.p1 nilCheckA,[.var 0],.push,[]⟩,
  ⟨none,.p1 (fun x=>fieldAddrA Try.prog 91 x 2),[.loc 0],.push,[]⟩,
  ⟨none,.r1 (fun s a=>loadV Try.prog s 23 a),[.loc 0],.push,[]⟩,
  ⟨none,.p2 (indexAddrA Try.prog 23),[.loc 0,.var 4],.push,[]⟩,
  ⟨none,.r1 (fun s a=>loadV Try.prog s 3 a),[.loc 0],.push,[]⟩,
  ⟨none,.p2 (indexAddrA Try.prog 23),[.loc 11,.var 4],.push,[]⟩,
  ⟨none,.e (fun s=>on2 (fun a x=>withV (storeV Try.prog s 3 a x))),[.loc 0,.loc 1],.push,[]⟩,
  ⟨none,.p2 (indexAddrA Try.prog 23),[.loc 10,.var 4],.push,[]⟩,
  ⟨none,.e (fun s=>on2 (fun a x=>withV (storeV Try.prog s 3 a x))),[(.loc 0),(.const (.int .i64 (0)))],.push,[]⟩,
  ⟨none,.p2 (indexAddrA Try.prog 89),[.loc 9,.var 4],.push,[]⟩,
  ⟨none,.e (fun s=>on2 (fun a x=>withV (storeV Try.prog s 92 a x))),[(.loc 0),(.const (.ptr none))],.push,[]⟩]
def c63o7:List CItem:=[
  ⟨none,.p2 (binA Try.prog .add 3),[(.var 8),(.const (.int .i64 (1)))],.push,[]⟩,
  ⟨none,.p1 some,[.loc 0],(.set 8),[]⟩]
def c63l8:CCode:=(.seq (.ops c63o3) (.seq (.cond (.var 9)
  .skip
  (.exit 0)) (.seq (.block 1 (.seq (.ops c63o4) (.seq (.ops c63o5) (.ops c63o6)))) (.ops c63o7))))
def c63o9:List CItem:=[
  ⟨none,.p1 nilCheckA,[.var 0],.push,[]⟩,
  ⟨none,.p1 (fun x=>fieldAddrA Try.prog 91 x 7),[.loc 0],.push,[]⟩,
  ⟨none,.r1 (fun s a=>loadV Try.prog s 23 a),[.loc 0],.push,[]⟩,
  ⟨none,.r (sliceOpnds Try.prog 23 false true false),[.loc 0,.var 2],.push,[]⟩,
  ⟨none,.p1 nilCheckA,[.var 0],.push,[]⟩,
  ⟨none,.p1 (fun x=>fieldAddrA Try.prog 91 x 8),[.loc 0],.push,[]⟩,
  ⟨none,.r1 (fun s a=>loadV Try.prog s 23 a),[.loc 0],.push,[]⟩,
  ⟨none,.r (sliceOpnds Try.prog 23 false true false),[.loc 0,.var 1],.push,[]⟩,
  ⟨none,.p1 nilCheckA,[.var 0],.push,[]⟩,
  ⟨none,.p1 (fun x=>fieldAddrA Try.prog 91 x 7),[.loc 0],.push,[]⟩,
  ⟨none,.e (fun s=>on2 (fun a x=>withV (storeV Try.prog s 23 a x))),[.loc 0,.loc 6],.push,[⟨none,.r (sliceOpnds Try.prog 23 false true false),[.loc 4,.var 1],(.loc 3)⟩]⟩,
  ⟨none,.p1 nilCheckA,[.var 0],.push,[]⟩,
  ⟨none,.p1 (fun x=>fieldAddrA Try.prog 91 x 8),[.loc 0],.push,[]⟩,
  ⟨none,.e (fun s=>on2 (fun a x=>withV (storeV Try.prog s 23 a x))),[.loc 0,.loc 5],.push,[]⟩,
  ⟨none,.p1 nilCheckA,[.var 0],.push,[]⟩,
  ⟨none,.p1 (fun x=>fieldAddrA Try.prog 91 x 9),[.loc 0],.push,[]⟩,
  ⟨none,.e (fun s=>on2 (fun a x=>withV (storeV Try.prog s 3 a x))),[.loc 0,.var 2],.push,[]⟩]
def c63:CFunc:=⟨2,10,(.seq (.seq (.ops c63o0) (.cond (.var 5)
  .ret
  .skip)) (.seq (.ops c63o1) (.seq (.seq (.ops c63o2) (.block 0 (.loop c63l8))) (.ops c63o9)))),[]⟩
def c65o0:List CItem:=[
  ⟨none,.p1 nilCheckA,[.var 0],.push,[]⟩,
  ⟨none,.p1 (fun x=>fieldAddrA Try.prog 91 x 10),[.loc 0],.push,[]⟩,
  ⟨none,.r1 (fun s a=>loadV Try.prog s 4 a),[.loc 0],.push,[]⟩,
  ⟨none,.p1 (unA Try.prog Go.UnOp.not),[.loc 0],(.set 1),[]⟩]
def c65o1:List CItem:=[
  ⟨none,.p1 nilCheckA,[.var 0],.push,[]⟩,
  ⟨none,.p1 (fun x=>fieldAddrA Try.prog 91 x 12),[.loc 0],.push,[]⟩,
  ⟨none,.r1 (fun s a=>loadV Try.prog s 33 a),[.loc 0],.push,[]⟩,
  ⟨none,.p (fun l=>buildA Try.prog 27 (zipIdx [] l)),[],.push,[]⟩,
  ⟨none,.mk (fun l=>(sliceRowA Try.prog 33 1 (zipIdx [0] l)).bind fun r=>some (r,.slice 1)),[.loc 0],.push,[]⟩,
  ⟨none,.e (fun s l=>appendA Try.prog s [33,33] l),[.loc 2,.loc 0],.push,[]⟩,
  ⟨none,.p1 nilCheckA,[.var 0],.push,[]⟩,
  ⟨none,.p1 (fun x=>fieldAddrA Try.prog 91 x 10),[.loc 0],.push,[]⟩,
  ⟨none,.e (fun s=>on2 (fun a x=>withV (storeV Try.prog s 4 a x))),[(.loc 0),(.const (.bool true))],.push,[]⟩,
  ⟨none,.p1 nilCheckA,[.var 0],.push,[]⟩,
  ⟨none,.p1 (fun x=>fieldAddrA Try.prog 91 x 12),[.loc 0],.push,[]⟩,
  ⟨none,.e (fun s=>on2 (fun a x=>withV (storeV Try.prog s 33 a x))),[.loc 0,.loc 5],.push,[]⟩]
def c65:CFunc:=⟨1,2,(.seq (.ops c65o0) (.cond (.var 1)
  (.ops c65o1)
  .skip)),[]⟩
def c47o0:List CItem:=[
  ⟨none,.p1 some,[(.const (.int .i64 (0)))],(.set 1),[]⟩]
def c47o1:List CItem:=[
  ⟨none,.p2 (binA Try.prog .eql 44),[(.var 0),(.const (.ptr none))],(.set 2),[]⟩]
def c47o2:List CItem:=[
  ⟨none,.p1 some,[(.const (.int .i64 (0)))],(.set 1),[]⟩]
def c47o3:List CItem:=[
  ⟨none,.p1 nilCheckA,[.var 0],.push,[]⟩,
  ⟨none,.p1 (fun x=>fieldAddrA Try.prog 91 x 2),[.loc 0],.push,[]⟩,
  ⟨none,.r1 (fun s a=>loadV Try.prog s 23 a),[.loc 0],.push,[]⟩,
  ⟨none,.r (fun s l=>match l with | [x]=>lenA Try.prog s 23 x | _=>none),[.loc 0],.push,[]⟩,
  ⟨none,.p2 (binA Try.prog .sub 3),[(.loc 0),(.const (.int .i64 (1)))],.push,[]⟩,
  ⟨none,.p1 some,[.loc 0],(.set 1),[]⟩]
def c47:CFunc:=⟨1,3,(.seq (.ops c47o0) (.seq (.seq (.ops c47o1) (.cond (.var 2)
  (.seq (.ops c47o2) .ret)
  .skip)) (.seq (.ops c47o3) .ret))),[((.var 1),none)]⟩
def c46o0:List CItem:=[
  ⟨none,.p2 (binA Try.prog .eql 44),[(.var 0),(.const (.ptr none))],(.set 2),[]⟩]
def c46o1:List CItem:=[
  ⟨none,.p1 nilCheckA,[.var 0],.push,[]⟩,
  ⟨none,.p1 (fun x=>fieldAddrA Try.prog 91 x 2),[.loc 0],.push,[]⟩,
  ⟨none,.r1 (fun s a=>loadV Try.prog s 23 a),[.loc 0],.push,[]⟩,
  ⟨none,.r (fun s l=>match l with | [x]=>lenA Try.prog s 23 x | _=>none),[.loc 0],.push,[]⟩,
  ⟨none,.p2 (binA Try.prog .leq 3),[.loc 0,.var 1],(.set 3),[]⟩]
def c46o2:List CItem:=[
  ⟨none,.p1 nilCheckA,[.var 0],.push,[]⟩,
  ⟨none,.p1 (fun x=>fieldAddrA Try.prog 91 x 0),[.loc 0],.push,[]⟩,
  ⟨none,.r1 (fun s a=>loadV Try.prog s 88 a),[.loc 0],.push,[]⟩,
  ⟨none,.mk (fun l=>(sliceRowA Try.prog 88 2 (zipIdx [0,1] l)).bind fun r=>some (r,.slice 2)),[(.const (.slice none 0 (some 0))),(.const (.slice none 0 (some 0)))],.push,[]⟩,
  ⟨none,.e (fun s l=>appendA Try.prog s [88,88] l),[.loc 1,.loc 0],.push,[]⟩,
  ⟨none,.p1 nilCheckA,[.var 0],.push,[]⟩,
  ⟨none,.p1 (fun x=>fieldAddrA Try.prog 91 x 0),[.loc 0],.push,[]⟩,
  ⟨none,.e (fun s=>on2 (fun a x=>withV (storeV Try.prog s 88 a x))),[.loc 0,.loc 2],.push,[]⟩]
def c46o3:List CItem:=[
  ⟨none,.p1 nilCheckA,[.var 0],.push,[]⟩,
  ⟨none,.p1 (fun x=>fieldAddrA Try.prog 91 x 2),[.loc 0],.push,[]⟩,
  ⟨none,.r1 (fun s a=>loadV Try.prog s 23 a),[.loc 0],.push,[]⟩,
  ⟨none,.mk (fun l=>(sliceRowA Try.prog 23 1 (zipIdx [0] l)).bind fun r=>some (r,.slice 1)),[(.const (.int .i64 (0)))],.push,[]⟩,
  ⟨none,.p1 nilCheckA,[.var 0],.push,[]⟩,
  ⟨none,.p1 (fun x=>fieldAddrA Try.prog 91 x 3),[.loc 0],.push,[]⟩,
  ⟨none,.r1 (fun s a=>loadV Try.prog s 23 a),[.loc 0],.push,[]⟩,
  ⟨none,.mk (fun l=>(sliceRowA Try.prog 23 1 (zipIdx [0] l)).bind fun r=>some (r,.slice 1)),[(.const (.int .i64 (0)))],.push,[]⟩,
  ⟨none,.p1 nilCheckA,[.var 0],.push,[]⟩,
  ⟨none,.p1 (fun x=>fieldAddrA Try.prog 91 x 4),[.loc 0],.push,[]⟩,
  ⟨none,.r1 (fun s a=>loadV Try.prog s 89 a),[.loc 0],.push,[]⟩,
  ⟨none,.mk (fun l=>(sliceRowA Try.prog 89 1 (zipIdx [0] l)).bind fun r=>some (r,.slice 1)),[(.const (.ptr none))],.push,[]⟩,
  ⟨none,.e (fun s l=>appendA Try.prog s [23,23] l),[.loc 9,.loc 8],.push,[⟨none,.r1 (fun s a=>loadV Try.prog s 89 a),[.loc 3],(.loc 2)⟩,⟨none,.r1 (fun s a=>loadV Try.prog s 23 a),[.loc 7],(.loc 6)⟩]⟩,
  ⟨none,.e (fun s l=>appendA Try.prog s [23,23] l),[.loc 6,.loc 5],.push,[⟨none,.r1 (fun s a=>loadV Try.prog s 89 a),[.loc 4],(.loc 3)⟩]⟩,
  ⟨none,.e (fun s l=>appendA Try.prog s [89,89] l),[.loc 3,.loc 2],.push,[]⟩,
  ⟨none,.p1 nilCheckA,[.var 0],.push,[]⟩,
  ⟨none,.p1 (fun x=>fieldAddrA Try.prog 91 x 2),[.loc 0],.push,[]⟩,
  ⟨none,.e (fun s=>on2 (fun a x=>withV (storeV Try.prog s 23 a x))),[.loc 0,.loc 4],.push,[]⟩,
  ⟨none,.p1 nilCheckA,[.var 0],.push,[]⟩,
  ⟨none,.p1 (fun x=>fieldAddrA Try.prog 91 x 3),[.loc 0],.push,[]⟩,
  ⟨none,.e (fun s=>on2 (fun a x=>withV (storeV Try.prog s 23 a x))),[.loc 0,.loc 6],.push,[]⟩,
  ⟨none,.p1 nilCheckA,[.var 0],.push,[]⟩,
  ⟨none,.p1 (fun x=>fieldAddrA Try.prog 91 x 4),[.loc 0],.push,[]⟩,
  ⟨none,.e (fun s=>on2 (fun a x=>withV (storeV Try.prog s 89 a x))),[.loc 0,.loc 8],.push,[]⟩]
def c46o4:List CItem:=[
  ⟨none,.p1 nilCheckA,[.var 0],.push,[]⟩,
  ⟨none,.p1 (fun x=>fieldAddrA Try.prog 91 x 5),[.loc 0],.push,[]⟩,
  ⟨none,.r1 (fun s a=>loadV Try.prog s 23 a),[.loc 0],.push,[]⟩,
  ⟨none,.mk (fun l=>(sliceRowA Try.prog 23 1 (zipIdx [0] l)).bind fun r=>some (r,.slice 1)),[(.const (.int .i64 (0)))],.push,[]⟩,
  ⟨none,.p1 nilCheckA,[.var 0],.push,[]⟩,
  ⟨none,.p1 (fun x=>fieldAddrA Try.prog 91 x 6),[.loc 0],.push,[]⟩,
  ⟨none,.r1 (fun s a=>loadV Try.prog s 23 a),[.loc 0],.push,[]⟩,
  ⟨none,.mk (fun l=>(sliceRowA Try.prog 23 1 (zipIdx [0] l)).bind fun r=>some (r,.slice 1)),[(.const (.int .i64 (-1)))],.push,[]⟩,
  ⟨none,.e (fun s l=>appendA Try.prog s [23,23] l),[.loc 5,.loc 4],.push,[⟨none,.r1 (fun s a=>loadV Try.prog s 23 a),[.loc 3],(.loc 2)⟩]⟩,
  ⟨none,.e (fun s l=>appendA Try.prog s [23,23] l),[.loc 2,.loc 1],.push,[]⟩,
  ⟨none,.p1 nilCheckA,[.var 0],.push,[]⟩,
  ⟨none,.p1 (fun x=>fieldAddrA Try.prog 91 x 5),[.loc 0],.push,[]⟩,
  ⟨none,.e (fun s=>on2 (fun a x=>withV (storeV Try.prog s 23 a x))),[.loc 0,.loc 3],.push,[]⟩,
  ⟨none,.p1 nilCheckA,[.var 0],.push,[]⟩,
  ⟨none,.p1 (fun x=>fieldAddrA Try.prog 91 x 6),[.loc 0],.push,[]⟩,
  ⟨none,.e (fun s=>on2 (fun a x=>withV (storeV Try.prog s 23 a x))),[.loc 0,.loc 5],.push,[]⟩]
def c46l5:CCode:=(.seq (.seq (.ops c46o1) (.cond (.var 3)
  .skip
  (.exit 0))) (.block 1 (.seq (.ops c46o2) (.seq (.ops c46o3) (.ops c46o4)))))
def c46:CFunc:=⟨2,4,(.seq (.seq (.ops c46o0) (.cond (.var 2)
  .ret
  .skip)) (.block 0 (.loop c46l5))),[]⟩
def c40o0:List CItem:=[
  ⟨none,.p1 some,[(.const (.ptr none))],(.set 1),[]⟩]
def c40o1:List CItem:=[
  ⟨none,.p (fun l=>buildA Try.prog 91 (zipIdx [14] l)),[(.const (.int .i64 (2000)))],.push,[]⟩,
  ⟨none,.mk (fun l=>match l with | [v]=>boxA 91 v | _=>none),[.loc 0],.push,[]⟩,
  ⟨none,.p1 some,[.loc 0],(.set 2),[]⟩]
def c40o2:List CItem:=[
  ⟨none,.p (fun l=>match l with | v::l=>minMax true v l | []=>none),[(.var 0),(.const (.int .i64 (0)))],.push,[]⟩,
  ⟨none,.call 46,[.var 2,.loc 0],.push,[]⟩]
def c40o3:List CItem:=[
  ⟨none,.p1 some,[.var 2],(.set 1),[]⟩]
def c40:CFunc:=⟨1,3,(.seq (.ops c40o0) (.seq (.ops c40o1) (.seq (.ops c40o2) (.seq (.ops c40o3) .ret)))),[((.var 1),none)]⟩
def c68o0:List CItem:=[
  ⟨none,.p1 nilCheckA,[.var 0],.push,[]⟩,
  ⟨none,.p1 (fun x=>fieldAddrA Try.prog 91 x 5),[.loc 0],.push,[]⟩,
  ⟨none,.r1 (fun s a=>loadV Try.prog s 23 a),[.loc 0],.push,[]⟩,
  ⟨none,.r (fun s l=>match l with | [x]=>lenA Try.prog s 23 x | _=>none),[.loc 0],(.set 2),[]⟩,
  ⟨none,.p1 some,[(.const (.int .i64 (0)))],(.set 3),[]⟩]
def c68o1:List CItem:=[
  ⟨none,.p2 (binA Try.prog .lss 3),[.var 3,.var 2],(.set 4),[]⟩]
def c68o2:List CItem:=[
  ⟨none,.p1 some,[.var 3],(.set 1),[]⟩]
def c68o3:List CItem:=[
  ⟨none,.p1 nilCheckA,[.var 0],.push,[]⟩,
  ⟨none,.p1 (fun x=>fieldAddrA Try.prog 91 x 5),[.loc 0],.push,[]⟩,
  ⟨none,.r1 (fun s a=>loadV Try.prog s 23 a),[.loc 0],.push,[]⟩,
  ⟨none,.p2 (indexAddrA Try.prog 23),[.loc 0,.var 1],.push,[]⟩,
  ⟨none,.r1 (fun s a=>loadV Try.prog s 3 a),[.loc 0],.push,[]⟩,
  ⟨none,.p2 (binA Try.prog .quo 3),[(.loc 0),(.const (.int .i64 (2)))],.push,[]⟩,
  ⟨none,.p2 (indexAddrA Try.prog 23),[.loc 3,.var 1],.push,[]⟩,
  ⟨none,.e (fun s=>on2 (fun a x=>withV (storeV Try.prog s 3 a x))),[.loc 0,.loc 1],.push,[]⟩]
def c68o4:List CItem:=[
  ⟨none,.p2 (binA Try.prog .add 3),[(.var 3),(.const (.int .i64 (1)))],.push,[]⟩,
  ⟨none,.p1 some,[.loc 0],(.set 3),[]⟩]
def c68l5:CCode:=(.seq (.ops c68o1) (.seq (.cond (.var 4)
  .skip
  (.exit 0)) (.seq (.block 1 (.seq (.ops c68o2) (.ops c68o3))) (.ops c68o4))))
def c68:CFunc:=⟨1,5,(.seq (.ops c68o0) (.block 0 (.loop c68l5))),[]⟩
def c69o0:List CItem:=[
  ⟨none,.mk (fun l=>match l with | [v]=>boxA 44 v | _=>none),[.var 0],(.set 1),[]⟩]
def c69o1:List CItem:=[
  ⟨none,.r1 (fun s a=>loadV Try.prog s 44 a),[.var 1],.push,[]⟩,
  ⟨none,.p1 nilCheckA,[.loc 0],.push,[]⟩,
  ⟨none,.p1 (fun x=>fieldAddrA Try.prog 91 x 1),[.loc 0],.push,[]⟩,
  ⟨none,.r1 (fun s a=>loadV Try.prog s 89 a),[.loc 0],.push,[]⟩,
  ⟨none,.r (fun s l=>match l with | [x]=>lenA Try.prog s 89 x | _=>none),[.loc 0],.push,[]⟩,
  ⟨none,.r1 (fun s a=>loadV Try.prog s 44 a),[.var 1],.push,[]⟩,
  ⟨none,.p1 nilCheckA,[.loc 0],.push,[]⟩,
  ⟨none,.p1 (fun x=>fieldAddrA Try.prog 91 x 14),[.loc 0],.push,[]⟩,
  ⟨none,.r1 (fun s a=>loadV Try.prog s 3 a),[.loc 0],.push,[]⟩,
  ⟨none,.p2 (binA Try.prog .lss 3),[.loc 4,.loc 0],(.set 3),[]⟩]
def c69o2:List CItem:=[
  ⟨none,.r1 (fun s a=>loadV Try.prog s 44 a),[.var 1],.push,[]⟩,
  ⟨none,.p1 nilCheckA,[.loc 0],.push,[]⟩,
  ⟨none,.p1 (fun x=>fieldAddrA Try.prog 91 x 14),[.loc 0],.push,[]⟩,
  ⟨none,.r1 (fun s a=>loadV Try.prog s 3 a),[.loc 0],.push,[]⟩,
  ⟨none,.r1 (fun s a=>loadV Try.prog s 44 a),[.var 1],.push,[]⟩,
  ⟨none,.p1 nilCheckA,[.loc 0],.push,[]⟩,
  ⟨none,.p1 (fun x=>fieldAddrA Try.prog 91 x 14),[.loc 0],.push,[]⟩,
  ⟨none,.r1 (fun s a=>loadV Try.prog s 3 a),[.loc 0],.push,[]⟩,
  ⟨none,.p2 (binA Try.prog .quo 3),[(.loc 0),(.const (.int .i64 (8)))],.push,[]⟩,
  ⟨none,.p2 (binA Try.prog .add 3),[.loc 5,.loc 0],.push,[]⟩,
  ⟨none,.p1 nilCheckA,[.loc 9],.push,[]⟩,
  ⟨none,.p1 (fun x=>fieldAddrA Try.prog 91 x 14),[.loc 0],.push,[]⟩,
  ⟨none,.e (fun s=>on2 (fun a x=>withV (storeV Try.prog s 3 a x))),[.loc 0,.loc 2],.push,[]⟩]
def c69o3:List CItem:=[
  ⟨none,.mk (fun l=>match l with | []=>allocA Try.prog 3 | _=>none),[],(.set 2),[]⟩,
  ⟨none,.e (fun s=>on2 (fun a x=>withV (storeV Try.prog s 3 a x))),[(.var 2),(.const (.int .i64 (0)))],.push,[]⟩]
def c69o4:List CItem:=[
  ⟨none,.r1 (fun s a=>loadV Try.prog s 44 a),[.var 1],.push,[]⟩,
  ⟨none,.r1 (fun s a=>loadV Try.prog s 44 a),[.var 1],.push,[]⟩,
  ⟨none,.p1 nilCheckA,[.loc 0],.push,[]⟩,
  ⟨none,.p1 (fun x=>fieldAddrA Try.prog 91 x 1),[.loc 0],.push,[]⟩,
  ⟨none,.r1 (fun s a=>loadV Try.prog s 89 a),[.loc 0],.push,[]⟩,
  ⟨none,.p (fun l=>some (.func 97 (l.take 0) (l.drop 0))),[.var 1,.var 2],.push,[]⟩,
  ⟨none,.call 96,[.loc 1,.loc 0],.push,[⟨none,.r1 (fun s a=>loadV Try.prog s 44 a),[.var 1],(.loc 6)⟩]⟩,
  ⟨none,.p1 nilCheckA,[.loc 6],.push,[]⟩,
  ⟨none,.p1 (fun x=>fieldAddrA Try.prog 91 x 1),[.loc 0],.push,[]⟩,
  ⟨none,.e (fun s=>on2 (fun a x=>withV (storeV Try.prog s 89 a x))),[.loc 0,.loc 2],.push,[]⟩]
def c69:CFunc:=⟨1,4,(.seq (.ops c69o0) (.seq (.seq (.ops c69o1) (.cond (.var 3)
  .ret
  .skip)) (.seq (.ops c69o2) (.seq (.ops c69o3) (.ops c69o4))))),[]⟩
def c70o0:List CItem:=[
  ⟨none,.mk (fun l=>match l with | [v]=>boxA 44 v | _=>none),[.var 0],(.set 1),[]⟩,
  ⟨none,.p1 some,[(.const (.int .i64 (0)))],(.set 2),[]⟩]
def c70o1:List CItem:=[
  ⟨none,.mk (fun l=>match l with | []=>allocA Try.prog 3 | _=>none),[],(.set 3),[]⟩,
  ⟨none,.e (fun s=>on2 (fun a x=>withV (storeV Try.prog s 3 a x))),[(.var 3),(.const (.int .i64 (0)))],.push,[]⟩]
def c70o2:List CItem:=[
  ⟨none,.p (fun l=>some (.func 99 (l.take 0) (l.drop 0))),[.var 3,.var 1],.push,[]⟩,
  ⟨none,.p1 some,[.loc 0],(.set 4),[]⟩]
def c70o3:List CItem:=[
  ⟨none,.p1 some,[(.const (.int .i64 (1)))],(.set 5),[]⟩]
def c70o4:List CItem:=[
  ⟨none,.r1 (fun s a=>loadV Try.prog s 44 a),[.var 1],.push,[]⟩,
  ⟨none,.p1 nilCheckA,[.loc 0],.push,[]⟩,
  ⟨none,.p1 (fun x=>fieldAddrA Try.prog 91 x 2),[.loc 0],.push,[]⟩,
  ⟨none,.r1 (fun s a=>loadV Try.prog s 23 a),[.loc 0],.push,[]⟩,
  ⟨none,.r (fun s l=>match l with | [x]=>lenA Try.prog s 23 x | _=>none),[.loc 0],.push,[]⟩,
  ⟨none,.p2 (binA Try.prog .lss 3),[.var 5,.loc 0],(.set 6),[]⟩]
def c70o5:List CItem:=[
  ⟨none,.r1 (fun s a=>loadV Try.prog s 44 a),[.var 1],.push,[]⟩,
  ⟨none,.p1 nilCheckA,[.loc 0],.push,[]⟩,
  ⟨none,.p1 (fun x=>fieldAddrA Try.prog 91 x 2),[.loc 0],.push,[]⟩,
  ⟨none,.r1 (fun s a=>loadV Try.prog s 23 a),[.loc 0],.push,[]⟩,
  ⟨none,.p2 (indexAddrA Try.prog 23),[.loc 0,.var 5],.push,[]⟩,
  ⟨none,.r1 (fun s a=>loadV Try.prog s 3 a),[.loc 0],.push,[]⟩,
  ⟨none,.p2 (binA Try.prog .eql 3),[(.loc 0),(.const (.int .i64 (0)))],.push,[]⟩,
  ⟨(some ((.loc 0),true)),.p1 some,[.var 4],.push,[]⟩,
  ⟨(some ((.loc 1),true)),.p1 some,[.var 5],.push,[]⟩,
  ⟨(some ((.loc 2),true)),.callv,[.loc 1,.loc 0],.push,[]⟩,
  ⟨none,.p Rn,[(.loc 3),(.loc 0),(.const (.bool false))],(.set 7),[]⟩]
def c70o6:List CItem:=[
  ⟨none,.e (fun s=>on2 (fun a x=>withV (storeV Try.prog s 3 a x))),[.var 3,.var 5],.push,[]⟩]
def c70o7:List CItem:=[
  ⟨none,.p1 some,[.var 5],.push,[]⟩,
  ⟨none,.p2 (binA Try.prog .add 3),[(.loc 0),(.const (.int .i64 (1)))],.push,[]⟩,
  ⟨none,.p1 some,[.loc 0],(.set 5),[]⟩]
def c70l8:CCode:=(.seq (.seq (.ops c70o4) (.cond (.var 6)
  .skip
  (.exit 0))) (.seq (.block 1 (.seq (.ops c70o5) (.cond (.var 7)
  (.ops c70o6)
  .skip))) (.ops c70o7)))
def c70o9:List CItem:=[
  ⟨none,.r1 (fun s a=>loadV Try.prog s 3 a),[.var 3],.push,[]⟩,
  ⟨none,.p1 some,[.loc 0],(.set 2),[]⟩]
def c70:CFunc:=⟨1,8,(.seq (.ops c70o0) (.seq (.ops c70o1) (.seq (.ops c70o2) (.seq (.seq (.ops c70o3) (.block 0 (.loop c70l8))) (.seq (.ops c70o9) .ret))))),[((.var 2),none)]⟩
def c99o0:List CItem:=[
  ⟨none,.p1 some,[(.const (.bool false))],(.set 3),[]⟩]
def c99o1:List CItem:=[
  ⟨none,.r1 (fun s a=>loadV Try.prog s 3 a),[.var 1],.push,[]⟩,
  ⟨none,.p2 (binA Try.prog .eql 3),[(.loc 0),(.const (.int .i64 (0)))],.push,[]⟩,
  ⟨(some ((.loc 0),false)),.r1 (fun s a=>loadV Try.prog s 44 a),[.var 2],.push,[]⟩,
  ⟨(some ((.loc 1),false)),.p1 nilCheckA,[.loc 0],.push,[]⟩,
  ⟨(some ((.loc 2),false)),.p1 (fun x=>fieldAddrA Try.prog 91 x 5),[.loc 0],.push,[]⟩,
  ⟨(some ((.loc 3),false)),.r1 (fun s a=>loadV Try.prog s 23 a),[.loc 0],.push,[]⟩,
  ⟨(some ((.loc 4),false)),.p1 some,[.var 0],.push,[]⟩,
  ⟨(some ((.loc 5),false)),.p2 (indexAddrA Try.prog 23),[.loc 1,.loc 0],.push,[]⟩,
  ⟨(some ((.loc 6),false)),.r1 (fun s a=>loadV Try.prog s 3 a),[.loc 0],.push,[]⟩,
  ⟨(some ((.loc 7),false)),.r1 (fun s a=>loadV Try.prog s 44 a),[.var 2],.push,[]⟩,
  ⟨(some ((.loc 8),false)),.p1 nilCheckA,[.loc 0],.push,[]⟩,
  ⟨(some ((.loc 9),false)),.p1 (fun x=>fieldAddrA Try.prog 91 x 5),[.loc 0],.push,[]⟩,
  ⟨(some ((.loc 10),false)),.r1 (fun s a=>loadV Try.prog s 23 a),[.loc 0],.push,[]⟩,
  ⟨(some ((.loc 11),false)),.r1 (fun s a=>loadV Try.prog s 3 a),[.var 1],.push,[]⟩,
  ⟨(some ((.loc 12),false)),.p2 (indexAddrA Try.prog 23),[.loc 1,.loc 0],.push,[]⟩,
  ⟨(some ((.loc 13),false)),.r1 (fun s a=>loadV Try.prog s 3 a),[.loc 0],.push,[]⟩,
  ⟨(some ((.loc 14),false)),.p2 (binA Try.prog .gtr 3),[.loc 7,.loc 0],.push,[]⟩,
  ⟨none,.p Rn,[(.loc 15),(.const (.bool true)),(.loc 0)],.push,[]⟩,
  ⟨none,.p1 some,[.loc 0],(.set 3),[]⟩]
def c99:CFunc:=⟨3,4,(.seq (.ops c99o0) (.seq (.ops c99o1) .ret)),[((.var 3),none)]⟩
def c72o0:List CItem:=[
  ⟨none,.p1 some,[(.const (.bool false))],(.set 2),[]⟩]
def c72o1:List CItem:=[
  ⟨none,.call 94,[.var 0,.var 1],.push,[]⟩,
  ⟨none,.p2 (binA Try.prog .geq 3),[(.loc 0),(.const (.int .i64 (0)))],.push,[]⟩,
  ⟨none,.p1 some,[.loc 0],(.set 2),[]⟩]
def c72:CFunc:=⟨2,3,(.seq (.ops c72o0) (.seq (.ops c72o1) .ret)),[((.var 2),none)]⟩
def c73o0:List CItem:=[
  ⟨none,.p1 some,[(.const (.bool false))],(.set 2),[]⟩]
def c73o1:List CItem:=[
  ⟨none,.p2 (binA Try.prog .eql 3),[(.var 0),(.const (.int .i64 (0)))],.push,[]⟩,
  ⟨(some ((.loc 0),false)),.p1 some,[.var 0],.push,[]⟩,
  ⟨(some ((.loc 1),false)),.r1 (fun s a=>loadV Try.prog s 44 a),[.var 1],.push,[]⟩,
  ⟨(some ((.loc 2),false)),.call 47,[.loc 0],.push,[]⟩,
  ⟨(some ((.loc 3),false)),.p1 (unA Try.prog Go.UnOp.neg),[.loc 0],.push,[]⟩,
  ⟨(some ((.loc 4),false)),.p2 (binA Try.prog .lss 3),[.loc 3,.loc 0],.push,[]⟩,
  ⟨none,.p Rn,[(.loc 5),(.const (.bool true)),(.loc 0)],.push,[]⟩,
  ⟨(some ((.loc 0),false)),.p1 some,[.var 0],.push,[]⟩,
  ⟨(some ((.loc 1),false)),.r1 (fun s a=>loadV Try.prog s 44 a),[.var 1],.push,[]⟩,
  ⟨(some ((.loc 2),false)),.call 47,[.loc 0],.push,[]⟩,
  ⟨(some ((.loc 3),false)),.p2 (binA Try.prog .gtr 3),[.loc 2,.loc 0],.push,[]⟩,
  ⟨none,.p Rn,[(.loc 4),(.const (.bool true)),(.loc 0)],.push,[]⟩,
  ⟨none,.p1 some,[.loc 0],(.set 2),[]⟩]
def c73:CFunc:=⟨2,3,(.seq (.ops c73o0) (.seq (.ops c73o1) .ret)),[((.var 2),none)]⟩
def c100o0:List CItem:=[
  ⟨none,.p1 some,[(.const (.bool false))],(.set 2),[]⟩]
def c100o1:List CItem:=[
  ⟨none,.r1 (fun s a=>loadV Try.prog s 23 a),[.var 1],.push,[]⟩,
  ⟨none,.p1 (unA Try.prog Go.UnOp.neg),[.var 0],.push,[]⟩,
  ⟨none,.call 101,[.loc 1,.loc 0],.push,[]⟩,
  ⟨none,.p1 some,[.loc 0],(.set 2),[]⟩]
def c100:CFunc:=⟨2,3,(.seq (.ops c100o0) (.seq (.ops c100o1) .ret)),[((.var 2),none)]⟩
def c101o0:List CItem:=[
  ⟨none,.p1 some,[(.const (.bool false))],(.set 2),[]⟩]
def c101o1:List CItem:=[
  ⟨none,.call 113,[.var 0,.var 1],.push,[]⟩,
  ⟨none,.p2 (binA Try.prog .geq 3),[(.loc 0),(.const (.int .i64 (0)))],.push,[]⟩,
  ⟨none,.p1 some,[.loc 0],(.set 2),[]⟩]
def c101:CFunc:=⟨2,3,(.seq (.ops c101o0) (.seq (.ops c101o1) .ret)),[((.var 2),none)]⟩
def c113o0:List CItem:=[
  ⟨none,.p1 some,[(.const (.int .i64 (0)))],(.set 2),[]⟩]
def c113o1:List CItem:=[
  ⟨none,.r (fun s l=>match l with | [x]=>lenA Try.prog s 23 x | _=>none),[.var 0],(.set 4),[]⟩,
  ⟨none,.p1 some,[(.const (.int .i64 (0)))],(.set 5),[]⟩]
def c113o2:List CItem:=[
  ⟨none,.p2 (binA Try.prog .lss 3),[.var 5,.var 4],(.set 6),[]⟩]
def c113o3:List CItem:=[
  ⟨none,.p1 some,[.var 5],(.set 3),[]⟩]
def c113o4:List CItem:=[
  ⟨none,.p2 (indexAddrA Try.prog 23),[.var 0,.var 3],.push,[]⟩,
  ⟨none,.r1 (fun s a=>loadV Try.prog s 3 a),[.loc 0],.push,[]⟩,
  ⟨none,.p2 (binA Try.prog .eql 3),[.var 1,.loc 0],(.set 7),[]⟩]
def c113o5:List CItem:=[
  ⟨none,.p1 some,[.var 3],(.set 2),[]⟩]
def c113o6:List CItem:=[
  ⟨none,.p2 (binA Try.prog .add 3),[(.var 5),(.const (.int .i64 (1)))],.push,[]⟩,
  ⟨none,.p1 some,[.loc 0],(.set 5),[]⟩]
def c113l7:CCode:=(.seq (.ops c113o2) (.seq (.cond (.var 6)
  .skip
  (.exit 0)) (.seq (.block 1 (.seq (.ops c113o3) (.seq (.ops c113o4) (.cond (.var 7)
  (.seq (.ops c113o5) .ret)
  .skip)))) (.ops c113o6))))
def c113o8:List CItem:=[
  ⟨none,.p1 some,[(.const (.int .i64 (-1)))],(.set 2),[]⟩]
def c113:CFunc:=⟨2,8,(.seq (.ops c113o0) (.seq (.seq (.ops c113o1) (.block 0 (.loop c113l7))) (.seq (.ops c113o8) .ret))),[((.var 2),none)]⟩
def c74o0:List CItem:=[
  ⟨none,.p1 some,[(.const (.slice none 0 (some 0)))],(.set 1),[]⟩,
  ⟨none,.p1 some,[(.const (.bool false))],(.set 2),[]⟩]
def c74o1:List CItem:=[
  ⟨none,.call 60,[.var 0],.push,[]⟩,
  ⟨none,.mk (fun l=>match l with | []=>allocA Try.prog 23 | _=>none),[],(.set 3),[]⟩,
  ⟨none,.e (fun s=>on2 (fun a x=>withV (storeV Try.prog s 23 a x))),[.var 3,.loc 0],.push,[]⟩]
def c74o2:List CItem:=[
  ⟨none,.r1 (fun s a=>loadV Try.prog s 23 a),[.var 3],.push,[]⟩,
  ⟨none,.call 87,[.loc 0],.push,[]⟩]
def c74o3:List CItem:=[
  ⟨none,.r1 (fun s a=>loadV Try.prog s 23 a),[.var 3],.push,[]⟩,
  ⟨none,.call 88,[.loc 0],.push,[]⟩,
  ⟨none,.e (fun s=>on2 (fun a x=>withV (storeV Try.prog s 23 a x))),[.var 3,.loc 0],.push,[]⟩]
def c74o4:List CItem:=[
  ⟨none,.r1 (fun s a=>loadV Try.prog s 23 a),[.var 3],.push,[]⟩,
  ⟨none,.r1 (fun s a=>loadV Try.prog s 23 a),[.var 3],.push,[]⟩,
  ⟨none,.p (fun l=>some (.func 100 (l.take 0) (l.drop 0))),[.var 3],.push,[]⟩,
  ⟨none,.call 72,[.loc 1,.loc 0],.push,[⟨none,.r1 (fun s a=>loadV Try.prog s 23 a),[.var 3],(.loc 3)⟩]⟩,
  ⟨none,.p1 (unA Try.prog Go.UnOp.not),[.loc 0],.push,[]⟩,
  ⟨none,.p1 some,[.loc 4],(.set 1),[]⟩,
  ⟨none,.p1 some,[.loc 0],(.set 2),[]⟩]
def c74:CFunc:=⟨1,4,(.seq (.ops c74o0) (.seq (.ops c74o1) (.seq (.ops c74o2) (.seq (.ops c74o3) (.seq (.ops c74o4) .ret))))),[((.var 1),none),((.var 2),none)]⟩
def c75o0:List CItem:=[
  ⟨none,.r (fun s l=>match l with | [x]=>lenA Try.prog s 23 x | _=>none),[.var 0],.push,[]⟩,
  ⟨none,.call 102,[.var 0,.loc 0,.var 1],.push,[]⟩]
def c75:CFunc:=⟨2,2,(.ops c75o0),[]⟩
def c76o0:List CItem:=[
  ⟨none,.p1 some,[(.const (.int .i64 (0)))],(.set 3),[]⟩]
def c76o1:List CItem:=[
  ⟨none,.r1 (fun s a=>loadV Try.prog s 44 a),[.var 2],.push,[]⟩,
  ⟨none,.r1 (fun s a=>loadV Try.prog s 44 a),[.var 2],.push,[]⟩,
  ⟨none,.call 77,[.loc 1,.var 1],.push,[⟨none,.r1 (fun s a=>loadV Try.prog s 44 a),[.var 2],(.loc 1)⟩]⟩,
  ⟨none,.call 77,[.loc 1,.var 0],.push,[]⟩,
  ⟨none,.p2 (binA Try.prog .sub 3),[.loc 1,.loc 0],.push,[]⟩,
  ⟨none,.p1 some,[.loc 0],(.set 3),[]⟩]
def c76:CFunc:=⟨3,4,(.seq (.ops c76o0) (.seq (.ops c76o1) .ret)),[((.var 3),none)]⟩
def c102o0:List CItem:=[
  ⟨none,.p1 some,[(.const (.int .i64 (20)))],(.set 3),[]⟩]
def c102o1:List CItem:=[
  ⟨none,.p1 some,[(.const (.int .i64 (0)))],(.set 4),[]⟩,
  ⟨none,.p1 some,[.var 3],(.set 5),[]⟩]
def c102o2:List CItem:=[
  ⟨none,.p2 (binA Try.prog .leq 3),[.var 5,.var 1],(.set 7),[]⟩]
def c102o3:List CItem:=[
  ⟨none,.call 114,[.var 0,.var 4,.var 5,.var 2],.push,[]⟩]
def c102o4:List CItem:=[
  ⟨none,.p1 some,[.var 5],(.set 4),[]⟩]
def c102o5:List CItem:=[
  ⟨none,.p1 some,[.var 5],.push,[]⟩,
  ⟨none,.p2 (binA Try.prog .add 3),[.loc 0,.var 3],.push,[]⟩,
  ⟨none,.p1 some,[.loc 0],(.set 5),[]⟩]
def c102l6:CCode:=(.seq (.seq (.ops c102o2) (.cond (.var 7)
  .skip
  (.exit 0))) (.block 1 (.seq (.ops c102o3) (.seq (.ops c102o4) (.ops c102o5)))))
def c102o7:List CItem:=[
  ⟨none,.call 114,[.var 0,.var 4,.var 1,.var 2],.push,[]⟩]
def c102o8:List CItem:=[
  ⟨none,.p2 (binA Try.prog .lss 3),[.var 3,.var 1],(.set 8),[]⟩]
def c102o9:List CItem:=[
  ⟨none,.p2 (binA Try.prog .mul 3),[(.const (.int .i64 (2))),(.var 3)],.push,[]⟩,
  ⟨none,.p1 some,[(.const (.int .i64 (0)))],(.set 4),[]⟩,
  ⟨none,.p1 some,[.loc 0],(.set 5),[]⟩]
def c102o10:List CItem:=[
  ⟨none,.p2 (binA Try.prog .leq 3),[.var 5,.var 1],(.set 9),[]⟩]
def c102o11:List CItem:=[
  ⟨none,.p2 (binA Try.prog .add 3),[.var 4,.var 3],.push,[]⟩,
  ⟨none,.call 115,[.var 0,.var 4,.loc 0,.var 5,.var 2],.push,[]⟩]
def c102o12:List CItem:=[
  ⟨none,.p1 some,[.var 5],(.set 4),[]⟩]
def c102o13:List CItem:=[
  ⟨none,.p1 some,[.var 5],.push,[]⟩,
  ⟨none,.p2 (binA Try.prog .mul 3),[(.const (.int .i64 (2))),(.var 3)],.push,[]⟩,
  ⟨none,.p2 (binA Try.prog .add 3),[.loc 1,.loc 0],.push,[]⟩,
  ⟨none,.p1 some,[.loc 0],(.set 5),[]⟩]
def c102l14:CCode:=(.seq (.seq (.ops c102o10) (.cond (.var 9)
  .skip
  (.exit 4))) (.block 5 (.seq (.ops c102o11) (.seq (.ops c102o12) (.ops c102o13)))))
def c102o15:List CItem:=[
  ⟨none,.p2 (binA Try.prog .add 3),[.var 4,.var 3],.push,[]⟩,
  ⟨none,.p1 some,[.loc 0],(.set 6),[]⟩]
def c102o16:List CItem:=[
  ⟨none,.p2 (binA Try.prog .lss 3),[.var 6,.var 1],(.set 10),[]⟩]
def c102o17:List CItem:=[
  ⟨none,.call 115,[.var 0,.var 4,.var 6,.var 1,.var 2],.push,[]⟩]
def c102o18:List CItem:=[
  ⟨none,.p1 some,[.var 3],.push,[]⟩,
  ⟨none,.p2 (binA Try.prog .mul 3),[(.loc 0),(.const (.int .i64 (2)))],.push,[]⟩,
  ⟨none,.p1 some,[.loc 0],(.set 3),[]⟩]
def c102l19:CCode:=(.seq (.seq (.ops c102o8) (.cond (.var 8)
  .skip
  (.exit 2))) (.block 3 (.seq (.ops c102o9) (.seq (.block 4 (.loop c102l14)) (.seq (.seq (.ops c102o15) (.seq (.ops c102o16) (.cond (.var 10)
  (.ops c102o17)
  .skip))) (.ops c102o18))))))
def c102:CFunc:=⟨3,11,(.seq (.ops c102o0) (.seq (.ops c102o1) (.seq (.block 0 (.loop c102l6)) (.seq (.ops c102o7) (.block 2 (.loop c102l19)))))),[]⟩
def c114o0:List CItem:=[
  ⟨none,.p2 (binA Try.prog .add 3),[(.var 1),(.const (.int .i64 (1)))],.push,[]⟩,
  ⟨none,.p1 some,[.loc 0],(.set 4),[]⟩]
def c114o1:List CItem:=[
  ⟨none,.p2 (binA Try.prog .lss 3),[.var 4,.var 2],(.set 6),[]⟩]
def c114o2:List CItem:=[
  ⟨none,.p1 some,[.var 4],(.set 5),[]⟩]
def c114o3:List CItem:=[
  ⟨none,.p2 (binA Try.prog .gtr 3),[.var 5,.var 1],.push,[]⟩,
  ⟨(some ((.loc 0),true)),.p1 some,[.var 3],.push,[]⟩,
  ⟨(some ((.loc 1),true)),.p1 some,[.var 0],.push,[]⟩,
  ⟨(some ((.loc 2),true)),.p1 some,[.var 5],.push,[]⟩,
  ⟨(some ((.loc 3),true)),.p2 (indexAddrA Try.prog 23),[.loc 1,.loc 0],.push,[]⟩,
  ⟨(some ((.loc 4),true)),.r1 (fun s a=>loadV Try.prog s 3 a),[.loc 0],.push,[]⟩,
  ⟨(some ((.loc 5),true)),.p1 some,[.var 0],.push,[]⟩,
  ⟨(some ((.loc 6),true)),.p1 some,[.var 5],.push,[]⟩,
  ⟨(some ((.loc 7),true)),.p2 (binA Try.prog .sub 3),[(.loc 0),(.const (.int .i64 (1)))],.push,[]⟩,
  ⟨(some ((.loc 8),true)),.p2 (indexAddrA Try.prog 23),[.loc 2,.loc 0],.push,[]⟩,
  ⟨(some ((.loc 9),true)),.r1 (fun s a=>loadV Try.prog s 3 a),[.loc 0],.push,[]⟩,
  ⟨(some ((.loc 10),true)),.callv,[.loc 9,.loc 5,.loc 0],.push,[]⟩,
  ⟨(some ((.loc 11),true)),.p2 (binA Try.prog .lss 3),[(.loc 0),(.const (.int .i64 (0)))],.push,[]⟩,
  ⟨none,.p Rn,[(.loc 12),(.loc 0),(.const (.bool false))],(.set 7),[]⟩]
def c114o4:List CItem:=[
  ⟨none,.p2 (binA Try.prog .sub 3),[(.var 5),(.const (.int .i64 (1)))],.push,[]⟩,
  ⟨none,.p2 (binA Try.prog .sub 3),[(.var 5),(.const (.int .i64 (1)))],.push,[]⟩,
  ⟨none,.p2 (indexAddrA Try.prog 23),[.var 0,.loc 0],.push,[]⟩,
  ⟨none,.r1 (fun s a=>loadV Try.prog s 3 a),[.loc 0],.push,[]⟩,
  ⟨none,.p2 (indexAddrA Try.prog 23),[.var 0,.var 5],.push,[]⟩,
  ⟨none,.r1 (fun s a=>loadV Try.prog s 3 a),[.loc 0],.push,[]⟩,
  ⟨none,.p2 (indexAddrA Try.prog 23),[.var 0,.var 5],.push,[]⟩,
  ⟨none,.e (fun s=>on2 (fun a x=>withV (storeV Try.prog s 3 a x))),[.loc 0,.loc 3],.push,[]⟩,
  ⟨none,.p2 (indexAddrA Try.prog 23),[.var 0,.loc 7],.push,[]⟩,
  ⟨none,.e (fun s=>on2 (fun a x=>withV (storeV Try.prog s 3 a x))),[.loc 0,.loc 3],.push,[]⟩]
def c114o5:List CItem:=[
  ⟨none,.p1 some,[.var 5],.push,[]⟩,
  ⟨none,.p2 (binA Try.prog .sub 3),[(.loc 0),(.const (.int .i64 (1)))],.push,[]⟩,
  ⟨none,.p1 some,[.loc 0],(.set 5),[]⟩]
def c114l6:CCode:=(.seq (.seq (.ops c114o3) (.cond (.var 7)
  .skip
  (.exit 2))) (.seq (.block 3 (.ops c114o4)) (.ops c114o5)))
def c114o7:List CItem:=[
  ⟨none,.p1 some,[.var 4],.push,[]⟩,
  ⟨none,.p2 (binA Try.prog .add 3),[(.loc 0),(.const (.int .i64 (1)))],.push,[]⟩,
  ⟨none,.p1 some,[.loc 0],(.set 4),[]⟩]
def c114l8:CCode:=(.seq (.seq (.ops c114o1) (.cond (.var 6)
  .skip
  (.exit 0))) (.seq (.block 1 (.seq (.ops c114o2) (.block 2 (.loop c114l6)))) (.ops c114o7)))
def c114:CFunc:=⟨4,8,(.seq (.ops c114o0) (.block 0 (.loop c114l8))),[]⟩
def c36o0:List CItem:=[
  ⟨none,.mk (fun l=>match l with | [v]=>boxA 44 v | _=>none),[.var 0],(.set 2),[]⟩,
  ⟨none,.p1 some,[(.const (.int .i64 (0)))],(.set 3),[]⟩]
def c36o1:List CItem:=[
  ⟨none,.r1 (fun s a=>loadV Try.prog s 44 a),[.var 2],.push,[]⟩,
  ⟨none,.p2 (binA Try.prog .eql 44),[(.loc 0),(.const (.ptr none))],.push,[]⟩,
  ⟨none,.p1 some,[.loc 0],(.set 7),[]⟩]
def c36o2:List CItem:=[
  ⟨none,.p1 some,[(.const (.int .i64 (1)))],(.set 3),[]⟩]
def c36o3:List CItem:=[
  ⟨none,.p (fun l=>some (.func 73 (l.take 0) (l.drop 0))),[.var 2],.push,[]⟩,
  ⟨none,.call 72,[.var 1,.loc 0],.push,[]⟩,
  ⟨none,.p1 some,[.loc 0],(.set 8),[]⟩]
def c36o4:List CItem:=[
  ⟨none,.p1 some,[(.const (.int .i64 (2)))],(.set 3),[]⟩]
def c36o5:List CItem:=[
  ⟨none,.r1 (fun s a=>loadV Try.prog s 44 a),[.var 2],.push,[]⟩,
  ⟨none,.call 63,[(.loc 0),(.const (.int .i64 (0)))],.push,[]⟩]
def c36o6:List CItem:=[
  ⟨none,.call 74,[.var 1],.push,[]⟩,
  ⟨none,.p1 (fun x=>Rp x 0),[.loc 0],.push,[]⟩,
  ⟨none,.p1 (fun x=>Rp x 1),[.loc 1],.push,[]⟩,
  ⟨none,.p1 some,[.loc 1],(.set 4),[]⟩,
  ⟨none,.p1 some,[.loc 0],(.set 5),[]⟩]
def c36o7:List CItem:=[
  ⟨none,.p1 (unA Try.prog Go.UnOp.not),[.var 5],.push,[]⟩,
  ⟨(some ((.loc 0),false)),.r1 (fun s a=>loadV Try.prog s 44 a),[.var 2],.push,[]⟩,
  ⟨(some ((.loc 1),false)),.p1 nilCheckA,[.loc 0],.push,[]⟩,
  ⟨(some ((.loc 2),false)),.p1 (fun x=>fieldAddrA Try.prog 91 x 10),[.loc 0],.push,[]⟩,
  ⟨(some ((.loc 3),false)),.r1 (fun s a=>loadV Try.prog s 4 a),[.loc 0],.push,[]⟩,
  ⟨none,.p Rn,[(.loc 4),(.const (.bool true)),(.loc 0)],(.set 9),[]⟩]
def c36o8:List CItem:=[
  ⟨none,.p1 some,[(.const (.int .i64 (0)))],(.set 3),[]⟩]
def c36o9:List CItem:=[
  ⟨none,.p (fun l=>some (.func 76 (l.take 0) (l.drop 0))),[.var 2],.push,[]⟩,
  ⟨none,.call 75,[.var 4,.loc 0],.push,[]⟩]
def c36o10:List CItem:=[
  ⟨none,.p (fun l=>buildA Try.prog 104 (zipIdx [0] l)),[.var 4],.push,[]⟩,
  ⟨none,.mk (fun l=>match l with | [v]=>boxA 104 v | _=>none),[.loc 0],.push,[]⟩,
  ⟨none,.p1 some,[.loc 0],(.set 6),[]⟩]
def c36o11:List CItem:=[
  ⟨none,.r (fun s l=>match l with | [x]=>lenA Try.prog s 23 x | _=>none),[.var 4],.push,[]⟩,
  ⟨none,.p2 (binA Try.prog .gtr 3),[(.loc 0),(.const (.int .i64 (1)))],(.set 10),[]⟩]
def c36o12:List CItem:=[
  ⟨none,.r1 (fun s a=>loadV Try.prog s 44 a),[.var 2],.push,[]⟩,
  ⟨none,.call 78,[.loc 0,.var 6],.push,[]⟩]
def c36o13:List CItem:=[
  ⟨none,.r (fun s l=>match l with | [x]=>lenA Try.prog s 23 x | _=>none),[.var 4],.push,[]⟩,
  ⟨none,.p2 (binA Try.prog .eql 3),[(.loc 0),(.const (.int .i64 (0)))],.push,[]⟩,
  ⟨(some ((.loc 0),false)),.r1 (fun s a=>loadV Try.prog s 44 a),[.var 2],.push,[]⟩,
  ⟨(some ((.loc 1),false)),.p1 some,[.var 4],.push,[]⟩,
  ⟨(some ((.loc 2),false)),.p2 (indexAddrA Try.prog 23),[(.loc 0),(.const (.int .i64 (0)))],.push,[]⟩,
  ⟨(some ((.loc 3),false)),.r1 (fun s a=>loadV Try.prog s 3 a),[.loc 0],.push,[]⟩,
  ⟨(some ((.loc 4),false)),.call 77,[.loc 3,.loc 0],.push,[]⟩,
  ⟨(some ((.loc 5),false)),.p2 (binA Try.prog .lss 3),[(.loc 0),(.const (.int .i64 (0)))],.push,[]⟩,
  ⟨none,.p Rn,[(.loc 6),(.const (.bool true)),(.loc 0)],.push,[]⟩,
  ⟨none,.p1 some,[.loc 0],(.set 11),[]⟩]
def c36o14:List CItem:=[
  ⟨none,.r1 (fun s a=>loadV Try.prog s 44 a),[.var 2],.push,[]⟩,
  ⟨none,.call 65,[.loc 0],.push,[]⟩]
def c36o15:List CItem:=[
  ⟨none,.r1 (fun s a=>loadV Try.prog s 44 a),[.var 2],.push,[]⟩,
  ⟨none,.p2 (indexAddrA Try.prog 23),[(.var 4),(.const (.int .i64 (0)))],.push,[]⟩,
  ⟨none,.r1 (fun s a=>loadV Try.prog s 3 a),[.loc 0],.push,[]⟩,
  ⟨none,.call 77,[.loc 2,.loc 0],.push,[]⟩,
  ⟨none,.p2 (binA Try.prog .eql 3),[(.loc 0),(.const (.int .i64 (0)))],.push,[]⟩,
  ⟨(some ((.loc 0),true)),.p1 some,[.var 4],.push,[]⟩,
  ⟨(some ((.loc 1),true)),.r (fun s l=>match l with | [x]=>lenA Try.prog s 23 x | _=>none),[.loc 0],.push,[]⟩,
  ⟨(some ((.loc 2),true)),.p2 (binA Try.prog .eql 3),[(.loc 0),(.const (.int .i64 (1)))],.push,[]⟩,
  ⟨(some ((.loc 3),true)),.p1 some,[.loc 0],.push,[]⟩,
  ⟨(some ((.loc 0),false)),.r1 (fun s a=>loadV Try.prog s 44 a),[.var 2],.push,[]⟩,
  ⟨(some ((.loc 1),false)),.p1 some,[.var 4],.push,[]⟩,
  ⟨(some ((.loc 2),false)),.p2 (indexAddrA Try.prog 23),[(.loc 0),(.const (.int .i64 (1)))],.push,[]⟩,
  ⟨(some ((.loc 3),false)),.r1 (fun s a=>loadV Try.prog s 3 a),[.loc 0],.push,[]⟩,
  ⟨(some ((.loc 4),false)),.call 77,[.loc 3,.loc 0],.push,[]⟩,
  ⟨(some ((.loc 5),false)),.p2 (binA Try.prog .lss 3),[(.loc 0),(.const (.int .i64 (0)))],.push,[]⟩,
  ⟨(some ((.loc 10),true)),.p Rn,[(.loc 6),(.const (.bool true)),(.loc 0)],.push,[]⟩,
  ⟨none,.p Rn,[(.loc 11),(.loc 0),(.const (.bool false))],.push,[]⟩,
  ⟨none,.p1 some,[.loc 0],(.set 12),[]⟩]
def c36o16:List CItem:=[
  ⟨none,.r1 (fun s a=>loadV Try.prog s 44 a),[.var 2],.push,[]⟩,
  ⟨none,.p2 (indexAddrA Try.prog 23),[(.var 4),(.const (.int .i64 (0)))],.push,[]⟩,
  ⟨none,.r1 (fun s a=>loadV Try.prog s 3 a),[.loc 0],.push,[]⟩,
  ⟨none,.call 71,[.loc 2,.loc 0,.var 6],.push,[]⟩]
def c36o17:List CItem:=[
  ⟨none,.p1 some,[(.const (.int .i64 (0)))],(.set 3),[]⟩]
def c36:CFunc:=⟨2,13,(.seq (.ops c36o0) (.seq (.block 0 (.seq (.ops c36o1) (.cond (.var 7)
  (.seq (.ops c36o2) .ret)
  (.seq (.ops c36o3) (.cond (.var 8)
  (.seq (.ops c36o4) .ret)
  .skip))))) (.seq (.ops c36o5) (.seq (.ops c36o6) (.seq (.seq (.ops c36o7) (.cond (.var 9)
  (.seq (.ops c36o8) .ret)
  .skip)) (.seq (.ops c36o9) (.seq (.ops c36o10) (.seq (.seq (.ops c36o11) (.cond (.var 10)
  (.ops c36o12)
  .skip)) (.seq (.block 1 (.seq (.ops c36o13) (.cond (.var 11)
  (.ops c36o14)
  (.seq (.ops c36o15) (.cond (.var 12)
  (.ops c36o16)
  .skip))))) (.seq (.ops c36o17) .ret)))))))))),[((.var 3),none)]⟩
def c110o0:List CItem:=[
  ⟨none,.p1 some,[(.const (.bool false))],(.set 2),[]⟩]
def c110o1:List CItem:=[
  ⟨none,.p1 some,[(.const (.int .i64 (2)))],(.set 3),[]⟩]
def c110o2:List CItem:=[
  ⟨none,.p1 nilCheckA,[.var 1],.push,[]⟩,
  ⟨none,.p1 (fun x=>fieldAddrA Try.prog 104 x 0),[.loc 0],.push,[]⟩,
  ⟨none,.r1 (fun s a=>loadV Try.prog s 23 a),[.loc 0],.push,[]⟩,
  ⟨none,.r (fun s l=>match l with | [x]=>lenA Try.prog s 23 x | _=>none),[.loc 0],.push,[]⟩,
  ⟨none,.p2 (binA Try.prog .lss 3),[.var 3,.loc 0],(.set 4),[]⟩]
def c110o3:List CItem:=[
  ⟨none,.p1 nilCheckA,[.var 1],.push,[]⟩,
  ⟨none,.p1 (fun x=>fieldAddrA Try.prog 104 x 0),[.loc 0],.push,[]⟩,
  ⟨none,.r1 (fun s a=>loadV Try.prog s 23 a),[.loc 0],.push,[]⟩,
  ⟨none,.p2 (indexAddrA Try.prog 23),[.loc 0,.var 3],.push,[]⟩,
  ⟨none,.r1 (fun s a=>loadV Try.prog s 3 a),[.loc 0],.push,[]⟩,
  ⟨none,.call 77,[.var 0,.loc 0],.push,[]⟩,
  ⟨none,.p2 (binA Try.prog .geq 3),[(.loc 0),(.const (.int .i64 (0)))],(.set 5),[]⟩]
def c110o4:List CItem:=[
  ⟨none,.p1 nilCheckA,[.var 1],.push,[]⟩,
  ⟨none,.p1 (fun x=>fieldAddrA Try.prog 104 x 0),[.loc 0],.push,[]⟩,
  ⟨none,.r1 (fun s a=>loadV Try.prog s 23 a),[.loc 0],.push,[]⟩,
  ⟨none,.p1 nilCheckA,[.var 1],.push,[]⟩,
  ⟨none,.p1 (fun x=>fieldAddrA Try.prog 104 x 0),[.loc 0],.push,[]⟩,
  ⟨none,.r1 (fun s a=>loadV Try.prog s 23 a),[.loc 0],.push,[]⟩,
  ⟨none,.p1 nilCheckA,[.var 1],.push,[]⟩,
  ⟨none,.p1 (fun x=>fieldAddrA Try.prog 104 x 0),[.loc 0],.push,[]⟩,
  ⟨none,.r1 (fun s a=>loadV Try.prog s 23 a),[.loc 0],.push,[]⟩,
  ⟨none,.p2 (indexAddrA Try.prog 23),[.loc 0,.var 3],.push,[]⟩,
  ⟨none,.r1 (fun s a=>loadV Try.prog s 3 a),[.loc 0],.push,[]⟩,
  ⟨none,.p1 nilCheckA,[.var 1],.push,[]⟩,
  ⟨none,.p1 (fun x=>fieldAddrA Try.prog 104 x 0),[.loc 0],.push,[]⟩,
  ⟨none,.r1 (fun s a=>loadV Try.prog s 23 a),[.loc 0],.push,[]⟩,
  ⟨none,.p2 (indexAddrA Try.prog 23),[(.loc 0),(.const (.int .i64 (1)))],.push,[]⟩,
  ⟨none,.r1 (fun s a=>loadV Try.prog s 3 a),[.loc 0],.push,[]⟩,
  ⟨none,.p2 (indexAddrA Try.prog 23),[(.loc 13),(.const (.int .i64 (1)))],.push,[]⟩,
  ⟨none,.e (fun s=>on2 (fun a x=>withV (storeV Try.prog s 3 a x))),[.loc 0,.loc 6],.push,[]⟩,
  ⟨none,.p2 (indexAddrA Try.prog 23),[.loc 12,.var 3],.push,[]⟩,
  ⟨none,.e (fun s=>on2 (fun a x=>withV (storeV Try.prog s 3 a x))),[.loc 0,.loc 3],.push,[]⟩]
def c110o5:List CItem:=[
  ⟨none,.p1 nilCheckA,[.var 0],.push,[]⟩,
  ⟨none,.p1 (fun x=>fieldAddrA Try.prog 91 x 0),[.loc 0],.push,[]⟩,
  ⟨none,.r1 (fun s a=>loadV Try.prog s 88 a),[.loc 0],.push,[]⟩,
  ⟨none,.p1 nilCheckA,[.var 1],.push,[]⟩,
  ⟨none,.p1 (fun x=>fieldAddrA Try.prog 104 x 0),[.loc 0],.push,[]⟩,
  ⟨none,.r1 (fun s a=>loadV Try.prog s 23 a),[.loc 0],.push,[]⟩,
  ⟨none,.p2 (indexAddrA Try.prog 23),[(.loc 0),(.const (.int .i64 (1)))],.push,[]⟩,
  ⟨none,.r1 (fun s a=>loadV Try.prog s 3 a),[.loc 0],.push,[]⟩,
  ⟨none,.p1 nilCheckA,[.var 0],.push,[]⟩,
  ⟨none,.p1 (fun x=>fieldAddrA Try.prog 91 x 0),[.loc 0],.push,[]⟩,
  ⟨none,.r1 (fun s a=>loadV Try.prog s 88 a),[.loc 0],.push,[]⟩,
  ⟨none,.p1 nilCheckA,[.var 1],.push,[]⟩,
  ⟨none,.p1 (fun x=>fieldAddrA Try.prog 104 x 0),[.loc 0],.push,[]⟩,
  ⟨none,.r1 (fun s a=>loadV Try.prog s 23 a),[.loc 0],.push,[]⟩,
  ⟨none,.p2 (indexAddrA Try.prog 23),[(.loc 0),(.const (.int .i64 (1)))],.push,[]⟩,
  ⟨none,.r1 (fun s a=>loadV Try.prog s 3 a),[.loc 0],.push,[]⟩,
  ⟨none,.mk (fun l=>(sliceRowA Try.prog 89 1 (zipIdx [0] l)).bind fun r=>some (r,.slice 1)),[.var 1],.push,[]⟩,
  ⟨none,.call 91,[.loc 9],.push,[⟨none,.r1 (fun s a=>loadV Try.prog s 3 a),[.loc 3],(.loc 2)⟩,⟨none,.r1 (fun s a=>loadV Try.prog s 23 a),[.loc 5],(.loc 4)⟩,⟨none,.r1 (fun s a=>loadV Try.prog s 88 a),[.loc 8],(.loc 7)⟩,⟨none,.r1 (fun s a=>loadV Try.prog s 88 a),[.loc 16],(.loc 15)⟩]⟩,
  ⟨none,.call 91,[.loc 2],.push,[⟨none,.r1 (fun s a=>loadV Try.prog s 88 a),[.loc 9],(.loc 8)⟩,⟨none,.r1 (fun s a=>loadV Try.prog s 88 a),[.loc 17],(.loc 16)⟩]⟩,
  ⟨none,.p2 (indexAddrA Try.prog 88),[.loc 8,.loc 0],.push,[]⟩,
  ⟨none,.r1 (fun s a=>loadV Try.prog s 89 a),[.loc 0],.push,[]⟩,
  ⟨none,.e (fun s l=>appendA Try.prog s [89,89] l),[.loc 0,.loc 4],.push,[⟨none,.r1 (fun s a=>loadV Try.prog s 88 a),[.loc 20],(.loc 19)⟩]⟩,
  ⟨none,.p2 (indexAddrA Try.prog 88),[.loc 19,.loc 4],.push,[]⟩,
  ⟨none,.e (fun s=>on2 (fun a x=>withV (storeV Try.prog s 89 a x))),[.loc 0,.loc 1],.push,[]⟩]
def c110o6:List CItem:=[
  ⟨none,.p1 some,[(.const (.bool true))],(.set 2),[]⟩]
def c110o7:List CItem:=[
  ⟨none,.p1 some,[.var 3],.push,[]⟩,
  ⟨none,.p2 (binA Try.prog .add 3),[(.loc 0),(.const (.int .i64 (1)))],.push,[]⟩,
  ⟨none,.p1 some,[.loc 0],(.set 3),[]⟩]
def c110l8:CCode:=(.seq (.seq (.ops c110o2) (.cond (.var 4)
  .skip
  (.exit 0))) (.seq (.block 1 (.seq (.ops c110o3) (.cond (.var 5)
  (.seq (.ops c110o4) (.seq (.ops c110o5) (.seq (.ops c110o6) .ret)))
  .skip))) (.ops c110o7)))
def c110o9:List CItem:=[
  ⟨none,.p1 some,[(.const (.bool false))],(.set 2),[]⟩]
def c110:CFunc:=⟨2,6,(.seq (.ops c110o0) (.seq (.seq (.ops c110o1) (.block 0 (.loop c110l8))) (.seq (.ops c110o9) .ret))),[((.var 2),none)]⟩
def c92o0:List CItem:=[
  ⟨none,.p1 some,[(.const (.bool false))],(.set 3),[]⟩,
  ⟨none,.p1 some,[(.const (.bool false))],(.set 4),[]⟩]
def c92o1:List CItem:=[
  ⟨none,.p1 nilCheckA,[.var 1],.push,[]⟩,
  ⟨none,.p1 (fun x=>fieldAddrA Try.prog 104 x 2),[.loc 0],.push,[]⟩,
  ⟨none,.r1 (fun s a=>loadV Try.prog s 4 a),[.loc 0],(.set 5),[]⟩]
def c92o2:List CItem:=[
  ⟨none,.p1 some,[(.const (.bool false))],(.set 3),[]⟩,
  ⟨none,.p1 some,[(.const (.bool false))],(.set 4),[]⟩]
def c92o3:List CItem:=[
  ⟨none,.p1 nilCheckA,[.var 1],.push,[]⟩,
  ⟨none,.p1 (fun x=>fieldAddrA Try.prog 104 x 0),[.loc 0],.push,[]⟩,
  ⟨none,.r1 (fun s a=>loadV Try.prog s 23 a),[.loc 0],.push,[]⟩,
  ⟨none,.p2 (indexAddrA Try.prog 23),[(.loc 0),(.const (.int .i64 (0)))],.push,[]⟩,
  ⟨none,.r1 (fun s a=>loadV Try.prog s 3 a),[.loc 0],.push,[]⟩,
  ⟨none,.p2 (binA Try.prog .eql 3),[.loc 0,.var 2],(.set 6),[]⟩]
def c92o4:List CItem:=[
  ⟨none,.p1 nilCheckA,[.var 1],.push,[]⟩,
  ⟨none,.p1 (fun x=>fieldAddrA Try.prog 104 x 0),[.loc 0],.push,[]⟩,
  ⟨none,.r1 (fun s a=>loadV Try.prog s 23 a),[.loc 0],.push,[]⟩,
  ⟨none,.p1 nilCheckA,[.var 1],.push,[]⟩,
  ⟨none,.p1 (fun x=>fieldAddrA Try.prog 104 x 0),[.loc 0],.push,[]⟩,
  ⟨none,.r1 (fun s a=>loadV Try.prog s 23 a),[.loc 0],.push,[]⟩,
  ⟨none,.p1 nilCheckA,[.var 1],.push,[]⟩,
  ⟨none,.p1 (fun x=>fieldAddrA Try.prog 104 x 0),[.loc 0],.push,[]⟩,
  ⟨none,.r1 (fun s a=>loadV Try.prog s 23 a),[.loc 0],.push,[]⟩,
  ⟨none,.p2 (indexAddrA Try.prog 23),[(.loc 0),(.const (.int .i64 (1)))],.push,[]⟩,
  ⟨none,.r1 (fun s a=>loadV Try.prog s 3 a),[.loc 0],.push,[]⟩,
  ⟨none,.p1 nilCheckA,[.var 1],.push,[]⟩,
  ⟨none,.p1 (fun x=>fieldAddrA Try.prog 104 x 0),[.loc 0],.push,[]⟩,
  ⟨none,.r1 (fun s a=>loadV Try.prog s 23 a),[.loc 0],.push,[]⟩,
  ⟨none,.p2 (indexAddrA Try.prog 23),[(.loc 0),(.const (.int .i64 (0)))],.push,[]⟩,
  ⟨none,.r1 (fun s a=>loadV Try.prog s 3 a),[.loc 0],.push,[]⟩,
  ⟨none,.p2 (indexAddrA Try.prog 23),[(.loc 13),(.const (.int .i64 (0)))],.push,[]⟩,
  ⟨none,.e (fun s=>on2 (fun a x=>withV (storeV Try.prog s 3 a x))),[.loc 0,.loc 6],.push,[]⟩,
  ⟨none,.p2 (indexAddrA Try.prog 23),[(.loc 12),(.const (.int .i64 (1)))],.push,[]⟩,
  ⟨none,.e (fun s=>on2 (fun a x=>withV (storeV Try.prog s 3 a x))),[.loc 0,.loc 3],.push,[]⟩]
def c92o5:List CItem:=[
  ⟨none,.p1 nilCheckA,[.var 1],.push,[]⟩,
  ⟨none,.p1 (fun x=>fieldAddrA Try.prog 104 x 0),[.loc 0],.push,[]⟩,
  ⟨none,.r1 (fun s a=>loadV Try.prog s 23 a),[.loc 0],.push,[]⟩,
  ⟨none,.p2 (indexAddrA Try.prog 23),[(.loc 0),(.const (.int .i64 (0)))],.push,[]⟩,
  ⟨none,.r1 (fun s a=>loadV Try.prog s 3 a),[.loc 0],.push,[]⟩,
  ⟨none,.call 77,[.var 0,.loc 0],.push,[]⟩,
  ⟨none,.p2 (binA Try.prog .gtr 3),[(.loc 0),(.const (.int .i64 (0)))],.push,[]⟩,
  ⟨none,.p1 some,[.loc 0],(.set 7),[]⟩]
def c92o6:List CItem:=[
  ⟨none,.p1 some,[(.const (.bool true))],(.set 3),[]⟩,
  ⟨none,.p1 some,[(.const (.bool false))],(.set 4),[]⟩]
def c92o7:List CItem:=[
  ⟨none,.call 110,[.var 0,.var 1],.push,[]⟩,
  ⟨none,.p1 some,[.loc 0],(.set 8),[]⟩]
def c92o8:List CItem:=[
  ⟨none,.p1 some,[(.const (.bool false))],(.set 3),[]⟩,
  ⟨none,.p1 some,[(.const (.bool false))],(.set 4),[]⟩]
def c92o9:List CItem:=[
  ⟨none,.p1 nilCheckA,[.var 1],.push,[]⟩,
  ⟨none,.p1 (fun x=>fieldAddrA Try.prog 104 x 0),[.loc 0],.push,[]⟩,
  ⟨none,.r1 (fun s a=>loadV Try.prog s 23 a),[.loc 0],.push,[]⟩,
  ⟨none,.p2 (indexAddrA Try.prog 23),[(.loc 0),(.const (.int .i64 (0)))],.push,[]⟩,
  ⟨none,.r1 (fun s a=>loadV Try.prog s 3 a),[.loc 0],.push,[]⟩,
  ⟨none,.call 77,[.var 0,.loc 0],.push,[]⟩,
  ⟨none,.p2 (binA Try.prog .lss 3),[(.loc 0),(.const (.int .i64 (0)))],.push,[]⟩,
  ⟨none,.p1 some,[.loc 0],(.set 9),[]⟩]
def c92o10:List CItem:=[
  ⟨none,.p1 some,[(.const (.bool true))],(.set 3),[]⟩,
  ⟨none,.p1 some,[(.const (.bool true))],(.set 4),[]⟩]
def c92o11:List CItem:=[
  ⟨none,.p1 nilCheckA,[.var 1],.push,[]⟩,
  ⟨none,.p1 (fun x=>fieldAddrA Try.prog 104 x 0),[.loc 0],.push,[]⟩,
  ⟨none,.r1 (fun s a=>loadV Try.prog s 23 a),[.loc 0],.push,[]⟩,
  ⟨none,.p2 (indexAddrA Try.prog 23),[(.loc 0),(.const (.int .i64 (0)))],.push,[]⟩,
  ⟨none,.r1 (fun s a=>loadV Try.prog s 3 a),[.loc 0],.push,[]⟩,
  ⟨none,.call 71,[.var 0,.loc 0,.var 1],.push,[]⟩]
def c92o12:List CItem:=[
  ⟨none,.p1 some,[(.const (.bool true))],(.set 3),[]⟩,
  ⟨none,.p1 some,[(.const (.bool false))],(.set 4),[]⟩]
def c92:CFunc:=⟨3,10,(.seq (.ops c92o0) (.seq (.seq (.ops c92o1) (.cond (.var 5)
  (.seq (.ops c92o2) .ret)
  .skip)) (.seq (.seq (.ops c92o3) (.cond (.var 6)
  (.ops c92o4)
  .skip)) (.seq (.block 0 (.seq (.ops c92o5) (.cond (.var 7)
  (.seq (.ops c92o6) .ret)
  (.seq (.ops c92o7) (.cond (.var 8)
  (.seq (.ops c92o8) .ret)
  (.seq (.ops c92o9) (.cond (.var 9)
  (.seq (.ops c92o10) .ret)
  .skip))))))) (.seq (.ops c92o11) (.seq (.ops c92o12) .ret)))))),[((.var 3),none),((.var 4),none)]⟩
def c64o0:List CItem:=[
  ⟨none,.p1 some,[(.const (.ptr none))],(.set 1),[]⟩]
def c64o1:List CItem:=[
  ⟨none,.p1 nilCheckA,[.var 0],.push,[]⟩,
  ⟨none,.p1 (fun x=>fieldAddrA Try.prog 91 x 9),[.loc 0],.push,[]⟩,
  ⟨none,.r1 (fun s a=>loadV Try.prog s 3 a),[.loc 0],.push,[]⟩,
  ⟨none,.p1 nilCheckA,[.var 0],.push,[]⟩,
  ⟨none,.p1 (fun x=>fieldAddrA Try.prog 91 x 7),[.loc 0],.push,[]⟩,
  ⟨none,.r1 (fun s a=>loadV Try.prog s 23 a),[.loc 0],.push,[]⟩,
  ⟨none,.r (fun s l=>match l with | [x]=>lenA Try.prog s 23 x | _=>none),[.loc 0],.push,[]⟩,
  ⟨none,.p2 (binA Try.prog .lss 3),[.loc 4,.loc 0],(.set 10),[]⟩]
def c64o2:List CItem:=[
  ⟨none,.p1 nilCheckA,[.var 0],.push,[]⟩,
  ⟨none,.p1 (fun x=>fieldAddrA Try.prog 91 x 7),[.loc 0],.push,[]⟩,
  ⟨none,.r1 (fun s a=>loadV Try.prog s 23 a),[.loc 0],.push,[]⟩,
  ⟨none,.p1 nilCheckA,[.var 0],.push,[]⟩,
  ⟨none,.p1 (fun x=>fieldAddrA Try.prog 91 x 9),[.loc 0],.push,[]⟩,
  ⟨none,.r1 (fun s a=>loadV Try.prog s 3 a),[.loc 0],.push,[]⟩,
  ⟨none,.p2 (indexAddrA Try.prog 23),[.loc 3,.loc 0],.push,[]⟩,
  ⟨none,.r1 (fun s a=>loadV Try.prog s 3 a),[.loc 0],.push,[]⟩,
  ⟨none,.p1 (unA Try.prog Go.UnOp.neg),[.loc 0],.push,[]⟩,
  ⟨none,.p1 some,[.loc 0],(.set 2),[]⟩]
def c64o3:List CItem:=[
  ⟨none,.p1 nilCheckA,[.var 0],.push,[]⟩,
  ⟨none,.p1 (fun x=>fieldAddrA Try.prog 91 x 9),[.loc 0],.push,[]⟩,
  ⟨none,.r1 (fun s a=>loadV Try.prog s 3 a),[.loc 0],.push,[]⟩,
  ⟨none,.p2 (binA Try.prog .add 3),[(.loc 0),(.const (.int .i64 (1)))],.push,[]⟩,
  ⟨none,.p1 nilCheckA,[.var 0],.push,[]⟩,
  ⟨none,.p1 (fun x=>fieldAddrA Try.prog 91 x 9),[.loc 0],.push,[]⟩,
  ⟨none,.e (fun s=>on2 (fun a x=>withV (storeV Try.prog s 3 a x))),[.loc 0,.loc 2],.push,[]⟩]
def c64o4:List CItem:=[
  ⟨none,.p1 nilCheckA,[.var 0],.push,[]⟩,
  ⟨none,.p1 (fun x=>fieldAddrA Try.prog 91 x 0),[.loc 0],.push,[]⟩,
  ⟨none,.r1 (fun s a=>loadV Try.prog s 88 a),[.loc 0],.push,[]⟩,
  ⟨none,.call 91,[.var 2],.push,[⟨none,.r1 (fun s a=>loadV Try.prog s 88 a),[.loc 2],(.loc 1)⟩]⟩,
  ⟨none,.p2 (indexAddrA Try.prog 88),[.loc 1,.loc 0],.push,[]⟩,
  ⟨none,.r1 (fun s a=>loadV Try.prog s 89 a),[.loc 0],.push,[]⟩,
  ⟨none,.p1 some,[.loc 0],(.set 3),[]⟩]
def c64o5:List CItem:=[
  ⟨none,.r (fun s l=>match l with | [x]=>lenA Try.prog s 89 x | _=>none),[.var 3],.push,[]⟩,
  ⟨none,.r (sliceOpnds Try.prog 89 false true true),[(.var 3),(.const (.int .i64 (0))),(.loc 0)],.push,[]⟩,
  ⟨none,.p1 some,[.loc 0],(.set 4),[]⟩]
def c64o6:List CItem:=[
  ⟨none,.p1 some,[(.const (.ptr none))],(.set 5),[]⟩]
def c64o7:List CItem:=[
  ⟨none,.p1 some,[.var 3],(.set 11),[]⟩,
  ⟨none,.r (fun s l=>match l with | [x]=>lenA Try.prog s 89 x | _=>none),[.var 11],(.set 12),[]⟩,
  ⟨none,.p1 some,[(.const (.int .i64 (0)))],(.set 13),[]⟩]
def c64o8:List CItem:=[
  ⟨none,.p2 (binA Try.prog .lss 3),[.var 13,.var 12],(.set 14),[]⟩]
def c64o9:List CItem:=[
  ⟨none,.p2 (indexAddrA Try.prog 89),[.var 11,.var 13],.push,[]⟩,
  ⟨none,.r1 (fun s a=>loadV Try.prog s 92 a),[.loc 0],.push,[]⟩,
  ⟨none,.p1 some,[.var 13],(.set 6),[]⟩,
  ⟨none,.p1 some,[.loc 0],(.set 7),[]⟩]
def c64o10:List CItem:=[
  ⟨none,.call 92,[.var 0,.var 7,.var 2],.push,[]⟩,
  ⟨none,.p1 (fun x=>Rp x 0),[.loc 0],.push,[]⟩,
  ⟨none,.p1 (fun x=>Rp x 1),[.loc 1],.push,[]⟩,
  ⟨none,.p1 some,[.loc 1],(.set 8),[]⟩,
  ⟨none,.p1 some,[.loc 0],(.set 9),[]⟩]
def c64o11:List CItem:=[
  ⟨none,.p1 some,[.var 8],(.set 15),[]⟩]
def c64o12:List CItem:=[
  ⟨none,.p1 some,[.var 4],.push,[]⟩,
  ⟨none,.mk (fun l=>(sliceRowA Try.prog 89 1 (zipIdx [0] l)).bind fun r=>some (r,.slice 1)),[.var 7],.push,[]⟩,
  ⟨none,.e (fun s l=>appendA Try.prog s [89,89] l),[.loc 1,.loc 0],.push,[]⟩,
  ⟨none,.p1 some,[.loc 0],(.set 4),[]⟩]
def c64o13:List CItem:=[
  ⟨none,.p1 some,[.var 9],(.set 16),[]⟩]
def c64o14:List CItem:=[
  ⟨none,.p1 some,[.var 4],.push,[]⟩,
  ⟨none,.p2 (binA Try.prog .add 3),[(.var 6),(.const (.int .i64 (1)))],.push,[]⟩,
  ⟨none,.r (sliceOpnds Try.prog 89 true false false),[.var 3,.loc 0],.push,[]⟩,
  ⟨none,.e (fun s l=>appendA Try.prog s [89,89] l),[.loc 2,.loc 0],.push,[]⟩,
  ⟨none,.p1 some,[.loc 0],(.set 4),[]⟩,
  ⟨none,.p1 some,[.var 7],(.set 5),[]⟩]
def c64o15:List CItem:=[
  ⟨none,.p2 (binA Try.prog .add 3),[(.var 13),(.const (.int .i64 (1)))],.push,[]⟩,
  ⟨none,.p1 some,[.loc 0],(.set 13),[]⟩]
def c64l16:CCode:=(.seq (.ops c64o8) (.seq (.cond (.var 14)
  .skip
  (.exit 2)) (.seq (.block 3 (.seq (.ops c64o9) (.seq (.ops c64o10) (.seq (.seq (.ops c64o11) (.cond (.var 15)
  (.ops c64o12)
  .skip)) (.seq (.ops c64o13) (.cond (.var 16)
  (.seq (.ops c64o14) (.exit 2))
  .skip)))))) (.ops c64o15))))
def c64o17:List CItem:=[
  ⟨none,.p1 nilCheckA,[.var 0],.push,[]⟩,
  ⟨none,.p1 (fun x=>fieldAddrA Try.prog 91 x 0),[.loc 0],.push,[]⟩,
  ⟨none,.r1 (fun s a=>loadV Try.prog s 88 a),[.loc 0],.push,[]⟩,
  ⟨none,.call 91,[.var 2],.push,[⟨none,.r1 (fun s a=>loadV Try.prog s 88 a),[.loc 2],(.loc 1)⟩]⟩,
  ⟨none,.p2 (indexAddrA Try.prog 88),[.loc 1,.loc 0],.push,[]⟩,
  ⟨none,.e (fun s=>on2 (fun a x=>withV (storeV Try.prog s 89 a x))),[.loc 0,.var 4],.push,[]⟩]
def c64o18:List CItem:=[
  ⟨none,.p2 (binA Try.prog .neq 92),[(.var 5),(.const (.ptr none))],(.set 17),[]⟩]
def c64o19:List CItem:=[
  ⟨none,.p1 nilCheckA,[.var 0],.push,[]⟩,
  ⟨none,.p1 (fun x=>fieldAddrA Try.prog 91 x 7),[.loc 0],.push,[]⟩,
  ⟨none,.r1 (fun s a=>loadV Try.prog s 23 a),[.loc 0],.push,[]⟩,
  ⟨none,.r (fun s l=>match l with | [x]=>lenA Try.prog s 23 x | _=>none),[.loc 0],.push,[]⟩,
  ⟨none,.p1 nilCheckA,[.var 0],.push,[]⟩,
  ⟨none,.p1 (fun x=>fieldAddrA Try.prog 91 x 9),[.loc 0],.push,[]⟩,
  ⟨none,.e (fun s=>on2 (fun a x=>withV (storeV Try.prog s 3 a x))),[.loc 0,.loc 2],.push,[]⟩]
def c64o20:List CItem:=[
  ⟨none,.p1 some,[.var 5],(.set 1),[]⟩]
def c64l21:CCode:=(.seq (.seq (.ops c64o1) (.cond (.var 10)
  .skip
  (.exit 0))) (.block 1 (.seq (.ops c64o2) (.seq (.ops c64o3) (.seq (.ops c64o4) (.seq (.ops c64o5) (.seq (.ops c64o6) (.seq (.seq (.ops c64o7) (.block 2 (.loop c64l16))) (.seq (.ops c64o17) (.seq (.ops c64o18) (.cond (.var 17)
  (.seq (.ops c64o19) (.seq (.ops c64o20) .ret))
  .skip)))))))))))
def c64o22:List CItem:=[
  ⟨none,.p1 some,[(.const (.ptr none))],(.set 1),[]⟩]
def c64:CFunc:=⟨1,18,(.seq (.ops c64o0) (.seq (.block 0 (.loop c64l21)) (.seq (.ops c64o22) .ret))),[((.var 1),none)]⟩
def c93o0:List CItem:=[
  ⟨none,.mk (fun l=>match l with | [v]=>boxA 92 v | _=>none),[.var 0],(.set 2),[]⟩,
  ⟨none,.mk (fun l=>match l with | [v]=>boxA 3 v | _=>none),[.var 1],(.set 3),[]⟩,
  ⟨none,.p1 some,[(.const .nilFunc)],(.set 4),[]⟩]
def c93o1:List CItem:=[
  ⟨none,.p (fun l=>some (.func 111 (l.take 0) (l.drop 0))),[.var 2,.var 3],.push,[]⟩,
  ⟨none,.p1 some,[.loc 0],(.set 4),[]⟩]
def c93:CFunc:=⟨2,5,(.seq (.ops c93o0) (.seq (.ops c93o1) .ret)),[((.var 4),none)]⟩
def c111o0:List CItem:=[
  ⟨none,.r1 (fun s a=>loadV Try.prog s 92 a),[.var 1],.push,[]⟩,
  ⟨none,.p1 nilCheckA,[.loc 0],.push,[]⟩,
  ⟨none,.p1 (fun x=>fieldAddrA Try.prog 104 x 0),[.loc 0],.push,[]⟩,
  ⟨none,.r1 (fun s a=>loadV Try.prog s 23 a),[.loc 0],(.set 4),[]⟩,
  ⟨none,.r (fun s l=>match l with | [x]=>lenA Try.prog s 23 x | _=>none),[.var 4],(.set 5),[]⟩,
  ⟨none,.p1 some,[(.const (.int .i64 (0)))],(.set 6),[]⟩]
def c111o1:List CItem:=[
  ⟨none,.p2 (binA Try.prog .lss 3),[.var 6,.var 5],(.set 7),[]⟩]
def c111o2:List CItem:=[
  ⟨none,.p2 (indexAddrA Try.prog 23),[.var 4,.var 6],.push,[]⟩,
  ⟨none,.r1 (fun s a=>loadV Try.prog s 3 a),[.loc 0],.push,[]⟩,
  ⟨none,.p1 some,[.loc 0],(.set 3),[]⟩]
def c111o3:List CItem:=[
  ⟨none,.r1 (fun s a=>loadV Try.prog s 3 a),[.var 2],.push,[]⟩,
  ⟨none,.p2 (binA Try.prog .neq 3),[.var 3,.loc 0],.push,[]⟩,
  ⟨(some ((.loc 0),true)),.p1 some,[.var 0],.push,[]⟩,
  ⟨(some ((.loc 1),true)),.p1 some,[.var 3],.push,[]⟩,
  ⟨(some ((.loc 2),true)),.callv,[.loc 1,.loc 0],.push,[]⟩,
  ⟨(some ((.loc 3),true)),.p1 (unA Try.prog Go.UnOp.not),[.loc 0],.push,[]⟩,
  ⟨none,.p Rn,[(.loc 4),(.loc 0),(.const (.bool false))],(.set 8),[]⟩]
def c111o4:List CItem:=[
  ⟨none,.p2 (binA Try.prog .add 3),[(.var 6),(.const (.int .i64 (1)))],.push,[]⟩,
  ⟨none,.p1 some,[.loc 0],(.set 6),[]⟩]
def c111l5:CCode:=(.seq (.ops c111o1) (.seq (.cond (.var 7)
  .skip
  (.exit 0)) (.seq (.block 1 (.seq (.ops c111o2) (.seq (.ops c111o3) (.cond (.var 8)
  .ret
  .skip)))) (.ops c111o4))))
def c111:CFunc:=⟨3,9,(.seq (.ops c111o0) (.block 0 (.loop c111l5))),[]⟩
def c67o0:List CItem:=[
  ⟨none,.mk (fun l=>match l with | [v]=>boxA 44 v | _=>none),[.var 0],(.set 2),[]⟩,
  ⟨none,.mk (fun l=>match l with | []=>allocA Try.prog 23 | _=>none),[],(.set 3),[]⟩,
  ⟨none,.mk (fun l=>match l with | []=>allocA Try.prog 3 | _=>none),[],(.set 4),[]⟩]
def c67o1:List CItem:=[
  ⟨none,.mk (fun l=>match l with | []=>some (.map [] 0,.map) | _=>none),[],.push,[]⟩,
  ⟨none,.mk (fun l=>match l with | []=>allocA Try.prog 115 | _=>none),[],(.set 5),[]⟩,
  ⟨none,.e (fun s=>on2 (fun a x=>withV (storeV Try.prog s 115 a x))),[.var 5,.loc 0],.push,[]⟩]
def c67o2:List CItem:=[
  ⟨none,.mk (fun l=>(sliceRowA Try.prog 23 1 (zipIdx [0] l)).bind fun r=>some (r,.slice 1)),[(.const (.int .i64 (0)))],.push,[]⟩,
  ⟨none,.e (fun s=>on2 (fun a x=>withV (storeV Try.prog s 23 a x))),[.var 3,.loc 0],.push,[]⟩]
def c67o3:List CItem:=[
  ⟨none,.r1 (fun s a=>loadV Try.prog s 44 a),[.var 2],.push,[]⟩,
  ⟨none,.p1 nilCheckA,[.loc 0],.push,[]⟩,
  ⟨none,.p1 (fun x=>fieldAddrA Try.prog 91 x 7),[.loc 0],.push,[]⟩,
  ⟨none,.r1 (fun s a=>loadV Try.prog s 23 a),[.loc 0],.push,[]⟩,
  ⟨none,.r (fun s l=>match l with | [x]=>lenA Try.prog s 23 x | _=>none),[.loc 0],.push,[]⟩,
  ⟨none,.mk (fun l=>match l with | []=>allocA Try.prog 3 | _=>none),[],(.set 6),[]⟩,
  ⟨none,.e (fun s=>on2 (fun a x=>withV (storeV Try.prog s 3 a x))),[(.var 6),(.const (.int .i64 (0)))],.push,[⟨none,.r (fun s l=>match l with | [x]=>lenA Try.prog s 23 x | _=>none),[.loc 2],(.loc 1)⟩,⟨none,.r1 (fun s a=>loadV Try.prog s 23 a),[.loc 3],(.loc 2)⟩,⟨none,.r1 (fun s a=>loadV Try.prog s 44 a),[.var 2],(.loc 5)⟩]⟩,
  ⟨none,.p1 some,[.loc 1],(.set 7),[]⟩]
def c67o4:List CItem:=[
  ⟨none,.p1 some,[(.const (.int .i64 (0)))],(.set 8),[]⟩]
def c67o5:List CItem:=[
  ⟨none,.call 93,[.var 1,.var 8],(.set 14),[]⟩]
def c67o6:List CItem:=[
  ⟨none,.p1 some,[.var 15],(.set 9),[]⟩]
def c67o7:List CItem:=[
  ⟨none,.call 90,[.var 9],.push,[]⟩,
  ⟨none,.p1 some,[.loc 0],(.set 10),[]⟩]
def c67o8:List CItem:=[
  ⟨none,.r1 (fun s a=>loadV Try.prog s 115 a),[.var 5],.push,[]⟩,
  ⟨none,.r (fun s=>on2 (fun m k=>lookupA Try.prog s 115 m k true)),[.loc 0,.var 10],.push,[]⟩,
  ⟨none,.p1 (fun x=>Rp x 0),[.loc 0],.push,[]⟩,
  ⟨none,.p1 (fun x=>Rp x 1),[.loc 1],.push,[]⟩,
  ⟨none,.mk (fun l=>match l with | []=>allocA Try.prog 119 | _=>none),[],.push,[]⟩,
  ⟨none,.e (fun s=>on2 (fun a x=>withV (storeV Try.prog s 119 a x))),[.loc 0,.loc 2],.push,[]⟩,
  ⟨none,.p1 some,[.loc 2],(.set 11),[]⟩]
def c67o9:List CItem:=[
  ⟨(some ((.var 11),false)),.r1 (fun s a=>loadV Try.prog s 44 a),[.var 2],.push,[]⟩,
  ⟨(some ((.var 11),false)),.p1 nilCheckA,[.loc 0],.push,[]⟩,
  ⟨(some ((.var 11),false)),.p1 (fun x=>fieldAddrA Try.prog 91 x 3),[.loc 0],.push,[]⟩,
  ⟨(some ((.var 11),false)),.r1 (fun s a=>loadV Try.prog s 23 a),[.loc 0],.push,[]⟩,
  ⟨(some ((.var 11),false)),.p1 some,[.var 10],.push,[]⟩,
  ⟨(some ((.var 11),false)),.p2 (indexAddrA Try.prog 23),[.loc 1,.loc 0],.push,[]⟩,
  ⟨(some ((.var 11),false)),.r1 (fun s a=>loadV Try.prog s 3 a),[.loc 0],.push,[]⟩,
  ⟨(some ((.var 11),false)),.p2 (binA Try.prog .eql 3),[(.loc 0),(.const (.int .i64 (0)))],.push,[]⟩,
  ⟨none,.p Rn,[(.var 11),(.const (.bool true)),(.loc 0)],(.set 16),[]⟩]
def c67o10:List CItem:=[
  ⟨none,.r1 (fun s a=>loadV Try.prog s 115 a),[.var 5],.push,[]⟩,
  ⟨none,.p (fun l=>buildA Try.prog 119 (zipIdx [] l)),[],.push,[]⟩,
  ⟨none,.e (fun s=>on3 (fun m k x=>withV (updateA Try.prog s 115 m k x))),[.loc 1,.var 10,.loc 0],.push,[]⟩]
def c67o11:List CItem:=[
  ⟨none,.r1 (fun s a=>loadV Try.prog s 44 a),[.var 2],.push,[]⟩,
  ⟨none,.p1 nilCheckA,[.loc 0],.push,[]⟩,
  ⟨none,.p1 (fun x=>fieldAddrA Try.prog 91 x 5),[.loc 0],.push,[]⟩,
  ⟨none,.r1 (fun s a=>loadV Try.prog s 23 a),[.loc 0],.push,[]⟩,
  ⟨none,.p2 (indexAddrA Try.prog 23),[.loc 0,.var 10],.push,[]⟩,
  ⟨none,.r1 (fun s a=>loadV Try.prog s 3 a),[.loc 0],.push,[]⟩,
  ⟨none,.p2 (binA Try.prog .add 3),[(.loc 0),(.const (.int .i64 (1)))],.push,[]⟩,
  ⟨none,.p2 (indexAddrA Try.prog 23),[.loc 3,.var 10],.push,[]⟩,
  ⟨none,.e (fun s=>on2 (fun a x=>withV (storeV Try.prog s 3 a x))),[.loc 0,.loc 1],.push,[]⟩]
def c67o12:List CItem:=[
  ⟨none,.r1 (fun s a=>loadV Try.prog s 44 a),[.var 2],.push,[]⟩,
  ⟨none,.p1 nilCheckA,[.loc 0],.push,[]⟩,
  ⟨none,.p1 (fun x=>fieldAddrA Try.prog 91 x 3),[.loc 0],.push,[]⟩,
  ⟨none,.r1 (fun s a=>loadV Try.prog s 23 a),[.loc 0],.push,[]⟩,
  ⟨none,.p2 (indexAddrA Try.prog 23),[.loc 0,.var 10],.push,[]⟩,
  ⟨none,.r1 (fun s a=>loadV Try.prog s 3 a),[.loc 0],.push,[]⟩,
  ⟨none,.r1 (fun s a=>loadV Try.prog s 44 a),[.var 2],.push,[]⟩,
  ⟨none,.p1 nilCheckA,[.loc 0],.push,[]⟩,
  ⟨none,.p1 (fun x=>fieldAddrA Try.prog 91 x 8),[.loc 0],.push,[]⟩,
  ⟨none,.r1 (fun s a=>loadV Try.prog s 23 a),[.loc 0],.push,[]⟩,
  ⟨none,.r (fun s l=>match l with | [x]=>lenA Try.prog s 23 x | _=>none),[.loc 0],.push,[]⟩,
  ⟨none,.p2 (binA Try.prog .eql 3),[.loc 5,.loc 0],(.set 17),[]⟩]
def c67o13:List CItem:=[
  ⟨none,.r1 (fun s a=>loadV Try.prog s 3 a),[.var 6],.push,[]⟩,
  ⟨none,.p2 (binA Try.prog .add 3),[(.loc 0),(.const (.int .i64 (1)))],.push,[]⟩,
  ⟨none,.e (fun s=>on2 (fun a x=>withV (storeV Try.prog s 3 a x))),[.var 6,.loc 0],.push,[]⟩]
def c67o14:List CItem:=[
  ⟨none,.r1 (fun s a=>loadV Try.prog s 23 a),[.var 3],.push,[]⟩,
  ⟨none,.mk (fun l=>(sliceRowA Try.prog 23 1 (zipIdx [0] l)).bind fun r=>some (r,.slice 1)),[.var 9],.push,[]⟩,
  ⟨none,.e (fun s l=>appendA Try.prog s [23,23] l),[.loc 1,.loc 0],.push,[]⟩,
  ⟨none,.e (fun s=>on2 (fun a x=>withV (storeV Try.prog s 23 a x))),[.var 3,.loc 0],.push,[]⟩]
def c67o15:List CItem:=[
  ⟨none,.r1 (fun s a=>loadV Try.prog s 3 a),[.var 4],.push,[]⟩,
  ⟨none,.r1 (fun s a=>loadV Try.prog s 44 a),[.var 2],.push,[]⟩,
  ⟨none,.p1 nilCheckA,[.loc 0],.push,[]⟩,
  ⟨none,.p1 (fun x=>fieldAddrA Try.prog 91 x 3),[.loc 0],.push,[]⟩,
  ⟨none,.r1 (fun s a=>loadV Try.prog s 23 a),[.loc 0],.push,[]⟩,
  ⟨none,.p2 (indexAddrA Try.prog 23),[.loc 0,.var 10],.push,[]⟩,
  ⟨none,.r1 (fun s a=>loadV Try.prog s 3 a),[.loc 0],.push,[]⟩,
  ⟨none,.p (fun l=>match l with | v::l=>minMax true v l | []=>none),[.loc 6,.loc 0],.push,[]⟩,
  ⟨none,.e (fun s=>on2 (fun a x=>withV (storeV Try.prog s 3 a x))),[.var 4,.loc 0],.push,[]⟩]
def c67a:CCode:=(.ops c67o6)
def c67b:CCode:=(.block 3 (.seq (.ops c67o7) (.seq (.seq (.ops c67o8) (.seq (.ops c67o9) (.cond (.var 16)
  (.exit 3)
  .skip))) (.seq (.ops c67o10) (.seq (.ops c67o11) (.seq (.ops c67o12) (.cond (.var 17)
  (.ops c67o13)
  (.seq (.ops c67o14) (.ops c67o15)))))))))
def a67:Code:=(rangeOf 67).1
def b67:Code:=(rangeOf 67).2
def c67o17:List CItem:=[
  ⟨none,.p1 some,[(.const (.bool false))],(.set 12),[]⟩]
def c67o18:List CItem:=[
  ⟨none,.p1 (unA Try.prog Go.UnOp.not),[.var 12],(.set 18),[]⟩]
def c67o19:List CItem:=[
  ⟨none,.p1 some,[.var 7],.push,[]⟩,
  ⟨none,.p2 (binA Try.prog .sub 3),[(.loc 0),(.const (.int .i64 (1)))],.push,[]⟩,
  ⟨none,.p1 some,[.loc 0],(.set 7),[]⟩]
def c67o20:List CItem:=[
  ⟨none,.r1 (fun s a=>loadV Try.prog s 115 a),[.var 5],.push,[]⟩,
  ⟨none,.r1 (fun s a=>loadV Try.prog s 44 a),[.var 2],.push,[]⟩,
  ⟨none,.p1 nilCheckA,[.loc 0],.push,[]⟩,
  ⟨none,.p1 (fun x=>fieldAddrA Try.prog 91 x 7),[.loc 0],.push,[]⟩,
  ⟨none,.r1 (fun s a=>loadV Try.prog s 23 a),[.loc 0],.push,[]⟩,
  ⟨none,.p2 (indexAddrA Try.prog 23),[.loc 0,.var 7],.push,[]⟩,
  ⟨none,.r1 (fun s a=>loadV Try.prog s 3 a),[.loc 0],.push,[]⟩,
  ⟨none,.call 90,[.loc 0],.push,[⟨none,.r1 (fun s a=>loadV Try.prog s 115 a),[.var 5],(.loc 7)⟩]⟩,
  ⟨none,.r (fun s=>on2 (fun m k=>lookupA Try.prog s 115 m k true)),[.loc 7,.loc 0],.push,[]⟩,
  ⟨none,.p1 (fun x=>Rp x 0),[.loc 0],.push,[]⟩,
  ⟨none,.p1 (fun x=>Rp x 1),[.loc 1],.push,[]⟩,
  ⟨none,.p1 some,[.loc 0],(.set 12),[]⟩]
def c67l21:CCode:=(.seq (.seq (.ops c67o18) (.cond (.var 18)
  .skip
  (.exit 4))) (.block 5 (.seq (.ops c67o19) (.ops c67o20))))
def c67o22:List CItem:=[
  ⟨none,.r1 (fun s a=>loadV Try.prog s 44 a),[.var 2],.push,[]⟩,
  ⟨none,.p1 nilCheckA,[.loc 0],.push,[]⟩,
  ⟨none,.p1 (fun x=>fieldAddrA Try.prog 91 x 7),[.loc 0],.push,[]⟩,
  ⟨none,.r1 (fun s a=>loadV Try.prog s 23 a),[.loc 0],.push,[]⟩,
  ⟨none,.p2 (indexAddrA Try.prog 23),[.loc 0,.var 7],.push,[]⟩,
  ⟨none,.r1 (fun s a=>loadV Try.prog s 3 a),[.loc 0],.push,[]⟩,
  ⟨none,.p1 some,[.loc 0],(.set 8),[]⟩]
def c67o23:List CItem:=[
  ⟨none,.r1 (fun s a=>loadV Try.prog s 44 a),[.var 2],.push,[]⟩,
  ⟨none,.p1 nilCheckA,[.loc 0],.push,[]⟩,
  ⟨none,.p1 (fun x=>fieldAddrA Try.prog 91 x 4),[.loc 0],.push,[]⟩,
  ⟨none,.r1 (fun s a=>loadV Try.prog s 89 a),[.loc 0],.push,[]⟩,
  ⟨none,.call 90,[.var 8],.push,[⟨none,.r1 (fun s a=>loadV Try.prog s 89 a),[.loc 2],(.loc 1)⟩,⟨none,.r1 (fun s a=>loadV Try.prog s 44 a),[.var 2],(.loc 4)⟩]⟩,
  ⟨none,.p2 (indexAddrA Try.prog 89),[.loc 1,.loc 0],.push,[]⟩,
  ⟨none,.r1 (fun s a=>loadV Try.prog s 92 a),[.loc 0],.push,[]⟩,
  ⟨none,.p1 some,[.loc 0],(.set 1),[]⟩]
def c67o24:List CItem:=[
  ⟨none,.r1 (fun s a=>loadV Try.prog s 3 a),[.var 6],.push,[]⟩,
  ⟨none,.p2 (binA Try.prog .sub 3),[(.loc 0),(.const (.int .i64 (1)))],.push,[]⟩,
  ⟨none,.e (fun s=>on2 (fun a x=>withV (storeV Try.prog s 3 a x))),[.var 6,.loc 0],.push,[]⟩]
def c67o25:List CItem:=[
  ⟨none,.r1 (fun s a=>loadV Try.prog s 3 a),[.var 6],.push,[]⟩,
  ⟨none,.p2 (binA Try.prog .eql 3),[(.loc 0),(.const (.int .i64 (0)))],(.set 19),[]⟩]
def c67o26:List CItem:=[
  ⟨none,.r1 (fun s a=>loadV Try.prog s 23 a),[.var 3],.push,[]⟩,
  ⟨none,.p1 (unA Try.prog Go.UnOp.neg),[.var 8],.push,[]⟩,
  ⟨none,.p2 (indexAddrA Try.prog 23),[(.loc 1),(.const (.int .i64 (0)))],.push,[]⟩,
  ⟨none,.e (fun s=>on2 (fun a x=>withV (storeV Try.prog s 3 a x))),[.loc 0,.loc 1],.push,[]⟩]
def c67l27:CCode:=(.block 1 (.seq (.seq (.ops c67o5) (.block 2 (.rangeFunc 67 (.var 14) #[26] a67 b67))) (.seq (.seq (.ops c67o17) (.block 4 (.loop c67l21))) (.seq (.ops c67o22) (.seq (.ops c67o23) (.seq (.ops c67o24) (.seq (.ops c67o25) (.cond (.var 19)
  (.seq (.ops c67o26) (.exit 0))
  .skip))))))))
def c67o28:List CItem:=[
  ⟨none,.r1 (fun s a=>loadV Try.prog s 23 a),[.var 3],.push,[]⟩,
  ⟨none,.r (sliceOpnds Try.prog 23 true false false),[(.loc 0),(.const (.int .i64 (1)))],.push,[]⟩,
  ⟨none,.p (fun l=>some (.func 95 (l.take 0) (l.drop 0))),[.var 2,.var 4],.push,[]⟩,
  ⟨none,.call 94,[.loc 1,.loc 0],.push,[]⟩,
  ⟨none,.p1 some,[.loc 0],(.set 13),[]⟩]
def c67o29:List CItem:=[
  ⟨none,.p2 (binA Try.prog .geq 3),[(.var 13),(.const (.int .i64 (0)))],(.set 20),[]⟩]
def c67o30:List CItem:=[
  ⟨none,.r1 (fun s a=>loadV Try.prog s 23 a),[.var 3],.push,[]⟩,
  ⟨none,.r1 (fun s a=>loadV Try.prog s 23 a),[.var 3],.push,[]⟩,
  ⟨none,.p2 (binA Try.prog .add 3),[(.var 13),(.const (.int .i64 (1)))],.push,[]⟩,
  ⟨none,.r1 (fun s a=>loadV Try.prog s 23 a),[.var 3],.push,[]⟩,
  ⟨none,.p2 (binA Try.prog .add 3),[(.var 13),(.const (.int .i64 (1)))],.push,[]⟩,
  ⟨none,.p2 (indexAddrA Try.prog 23),[.loc 1,.loc 0],.push,[]⟩,
  ⟨none,.r1 (fun s a=>loadV Try.prog s 3 a),[.loc 0],.push,[]⟩,
  ⟨none,.r1 (fun s a=>loadV Try.prog s 23 a),[.var 3],.push,[]⟩,
  ⟨none,.p2 (indexAddrA Try.prog 23),[(.loc 0),(.const (.int .i64 (1)))],.push,[]⟩,
  ⟨none,.r1 (fun s a=>loadV Try.prog s 3 a),[.loc 0],.push,[]⟩,
  ⟨none,.p2 (indexAddrA Try.prog 23),[(.loc 9),(.const (.int .i64 (1)))],.push,[]⟩,
  ⟨none,.e (fun s=>on2 (fun a x=>withV (storeV Try.prog s 3 a x))),[.loc 0,.loc 4],.push,[⟨none,.r1 (fun s a=>loadV Try.prog s 23 a),[.var 3],(.loc 10)⟩]⟩,
  ⟨none,.p2 (indexAddrA Try.prog 23),[.loc 10,.loc 9],.push,[]⟩,
  ⟨none,.e (fun s=>on2 (fun a x=>withV (storeV Try.prog s 3 a x))),[.loc 0,.loc 3],.push,[]⟩]
def c67o31:List CItem:=[
  ⟨none,.r1 (fun s a=>loadV Try.prog s 23 a),[.var 3],.push,[]⟩,
  ⟨none,.r1 (fun s a=>loadV Try.prog s 3 a),[.var 4],.push,[]⟩,
  ⟨none,.e (fun s=>on2 (fun a x=>withV (storeV Try.prog s 23 a x))),[.var 3,.loc 1],.push,[⟨none,.r1 (fun s a=>loadV Try.prog s 3 a),[.var 4],(.loc 1)⟩]⟩,
  ⟨none,.e (fun s=>on2 (fun a x=>withV (storeV Try.prog s 3 a x))),[.var 4,.loc 1],.push,[]⟩]
def c67:CFunc:=⟨2,21,(.seq (.ops c67o0) (.seq (.ops c67o1) (.seq (.ops c67o2) (.seq (.ops c67o3) (.seq (.seq (.ops c67o4) (.block 0 (.loop c67l27))) (.seq (.seq (.ops c67o28) (.seq (.ops c67o29) (.cond (.var 20)
  (.ops c67o30)
  .skip))) (.seq (.ops c67o31) .ret))))))),[((.var 3),some 23),((.var 4),some 3)]⟩
def c95o0:List CItem:=[
  ⟨none,.p1 some,[(.const (.bool false))],(.set 3),[]⟩]
def c95o1:List CItem:=[
  ⟨none,.r1 (fun s a=>loadV Try.prog s 44 a),[.var 1],.push,[]⟩,
  ⟨none,.p1 nilCheckA,[.loc 0],.push,[]⟩,
  ⟨none,.p1 (fun x=>fieldAddrA Try.prog 91 x 3),[.loc 0],.push,[]⟩,
  ⟨none,.r1 (fun s a=>loadV Try.prog s 23 a),[.loc 0],.push,[]⟩,
  ⟨none,.r1 (fun s a=>loadV Try.prog s 3 a),[.var 2],.push,[]⟩,
  ⟨none,.call 90,[.var 0],.push,[⟨none,.r1 (fun s a=>loadV Try.prog s 3 a),[.var 2],(.loc 1)⟩,⟨none,.r1 (fun s a=>loadV Try.prog s 23 a),[.loc 3],(.loc 2)⟩,⟨none,.r1 (fun s a=>loadV Try.prog s 44 a),[.var 1],(.loc 5)⟩]⟩,
  ⟨none,.p2 (indexAddrA Try.prog 23),[.loc 2,.loc 0],.push,[]⟩,
  ⟨none,.r1 (fun s a=>loadV Try.prog s 3 a),[.loc 0],.push,[]⟩,
  ⟨none,.p2 (binA Try.prog .eql 3),[.loc 0,.loc 3],.push,[]⟩,
  ⟨none,.p1 some,[.loc 0],(.set 3),[]⟩]
def c95:CFunc:=⟨3,4,(.seq (.ops c95o0) (.seq (.ops c95o1) .ret)),[((.var 3),none)]⟩
def c66o0:List CItem:=[
  ⟨none,.call 63,[.var 0,.var 2],.push,[]⟩]
def c66o1:List CItem:=[
  ⟨none,.p1 nilCheckA,[.var 0],.push,[]⟩,
  ⟨none,.p1 (fun x=>fieldAddrA Try.prog 91 x 12),[.loc 0],.push,[]⟩,
  ⟨none,.r1 (fun s a=>loadV Try.prog s 33 a),[.loc 0],.push,[]⟩,
  ⟨none,.call 60,[.var 1],.push,[⟨none,.r1 (fun s a=>loadV Try.prog s 33 a),[.loc 2],(.loc 1)⟩]⟩,
  ⟨none,.p (fun l=>buildA Try.prog 27 (zipIdx [1] l)),[.loc 0],.push,[]⟩,
  ⟨none,.mk (fun l=>(sliceRowA Try.prog 33 1 (zipIdx [0] l)).bind fun r=>some (r,.slice 1)),[.loc 0],.push,[]⟩,
  ⟨none,.e (fun s l=>appendA Try.prog s [33,33] l),[.loc 3,.loc 0],.push,[]⟩,
  ⟨none,.p1 nilCheckA,[.var 0],.push,[]⟩,
  ⟨none,.p1 (fun x=>fieldAddrA Try.prog 91 x 12),[.loc 0],.push,[]⟩,
  ⟨none,.e (fun s=>on2 (fun a x=>withV (storeV Try.prog s 33 a x))),[.loc 0,.loc 2],.push,[]⟩]
def c66o2:List CItem:=[
  ⟨none,.p (fun l=>buildA Try.prog 104 (zipIdx [0,1] l)),[(.var 1),(.const (.bool true))],.push,[]⟩,
  ⟨none,.mk (fun l=>match l with | [v]=>boxA 104 v | _=>none),[.loc 0],.push,[]⟩,
  ⟨none,.p1 some,[.loc 0],(.set 3),[]⟩]
def c66o3:List CItem:=[
  ⟨none,.r (fun s l=>match l with | [x]=>lenA Try.prog s 23 x | _=>none),[.var 1],.push,[]⟩,
  ⟨none,.p2 (binA Try.prog .gtr 3),[(.loc 0),(.const (.int .i64 (1)))],(.set 4),[]⟩]
def c66o4:List CItem:=[
  ⟨none,.call 78,[.var 0,.var 3],.push,[]⟩]
def c66o5:List CItem:=[
  ⟨none,.p1 nilCheckA,[.var 0],.push,[]⟩,
  ⟨none,.p1 (fun x=>fieldAddrA Try.prog 91 x 1),[.loc 0],.push,[]⟩,
  ⟨none,.r1 (fun s a=>loadV Try.prog s 89 a),[.loc 0],.push,[]⟩,
  ⟨none,.mk (fun l=>(sliceRowA Try.prog 89 1 (zipIdx [0] l)).bind fun r=>some (r,.slice 1)),[.var 3],.push,[]⟩,
  ⟨none,.e (fun s l=>appendA Try.prog s [89,89] l),[.loc 1,.loc 0],.push,[]⟩,
  ⟨none,.p1 nilCheckA,[.var 0],.push,[]⟩,
  ⟨none,.p1 (fun x=>fieldAddrA Try.prog 91 x 1),[.loc 0],.push,[]⟩,
  ⟨none,.e (fun s=>on2 (fun a x=>withV (storeV Try.prog s 89 a x))),[.loc 0,.loc 2],.push,[]⟩]
def c66o6:List CItem:=[
  ⟨none,.p2 (indexAddrA Try.prog 23),[(.var 1),(.const (.int .i64 (0)))],.push,[]⟩,
  ⟨none,.r1 (fun s a=>loadV Try.prog s 3 a),[.loc 0],.push,[]⟩,
  ⟨none,.call 71,[.var 0,.loc 0,.var 3],.push,[]⟩]
def c66:CFunc:=⟨3,5,(.seq (.ops c66o0) (.seq (.ops c66o1) (.seq (.ops c66o2) (.seq (.seq (.ops c66o3) (.cond (.var 4)
  (.seq (.ops c66o4) (.ops c66o5))
  .skip)) (.ops c66o6))))),[]⟩
def c34o0:List CItem:=[
  ⟨none,.p1 some,[(.const (.int .i64 (0)))],(.set 2),[]⟩]
def c34o1:List CItem:=[
  ⟨none,.p2 (binA Try.prog .eql 44),[(.var 0),(.const (.ptr none))],(.set 7),[]⟩]
def c34o2:List CItem:=[
  ⟨none,.p1 some,[(.const (.int .i64 (2)))],(.set 2),[]⟩]
def c34o3:List CItem:=[
  ⟨none,.call 63,[(.var 0),(.const (.int .i64 (0)))],.push,[]⟩]
def c34o4:List CItem:=[
  ⟨none,.p1 some,[(.const (.int .i64 (32)))],(.set 3),[]⟩]
def c34o5:List CItem:=[
  ⟨none,.p1 some,[(.const (.int .i64 (0)))],(.set 4),[]⟩]
def c34o6:List CItem:=[
  ⟨none,.p1 nilCheckA,[.var 0],.push,[]⟩,
  ⟨none,.p1 (fun x=>fieldAddrA Try.prog 91 x 10),[.loc 0],.push,[]⟩,
  ⟨none,.r1 (fun s a=>loadV Try.prog s 4 a),[.loc 0],.push,[]⟩,
  ⟨none,.p1 (unA Try.prog Go.UnOp.not),[.loc 0],(.set 8),[]⟩]
def c34o7:List CItem:=[
  ⟨none,.call 64,[.var 0],.push,[]⟩,
  ⟨none,.p1 some,[.loc 0],(.set 5),[]⟩]
def c34o8:List CItem:=[
  ⟨none,.p2 (binA Try.prog .neq 92),[(.var 5),(.const (.ptr none))],(.set 9),[]⟩]
def c34o9:List CItem:=[
  ⟨none,.p1 nilCheckA,[.var 0],.push,[]⟩,
  ⟨none,.p1 (fun x=>fieldAddrA Try.prog 91 x 8),[.loc 0],.push,[]⟩,
  ⟨none,.r1 (fun s a=>loadV Try.prog s 23 a),[.loc 0],.push,[]⟩,
  ⟨none,.r (fun s l=>match l with | [x]=>lenA Try.prog s 23 x | _=>none),[.loc 0],.push,[]⟩,
  ⟨none,.p2 (binA Try.prog .eql 3),[(.loc 0),(.const (.int .i64 (0)))],.push,[]⟩,
  ⟨none,.p1 some,[.loc 0],(.set 10),[]⟩]
def c34o10:List CItem:=[
  ⟨none,.call 65,[.var 0],.push,[]⟩]
def c34o11:List CItem:=[
  ⟨none,.p2 (binA Try.prog .geq 3),[.var 4,.var 1],.push,[]⟩,
  ⟨none,.p1 some,[.loc 0],(.set 11),[]⟩]
def c34o12:List CItem:=[
  ⟨none,.call 63,[(.var 0),(.const (.int .i64 (0)))],.push,[]⟩]
def c34o13:List CItem:=[
  ⟨none,.p1 some,[(.const (.int .i64 (2)))],(.set 2),[]⟩]
def c34o14:List CItem:=[
  ⟨none,.p1 some,[.var 4],.push,[]⟩,
  ⟨none,.p2 (binA Try.prog .add 3),[(.loc 0),(.const (.int .i64 (1)))],.push,[]⟩,
  ⟨none,.p1 some,[.loc 0],(.set 4),[]⟩]
def c34o15:List CItem:=[
  ⟨none,.p1 nilCheckA,[.var 0],.push,[]⟩,
  ⟨none,.p1 (fun x=>fieldAddrA Try.prog 91 x 13),[.loc 0],.push,[]⟩,
  ⟨none,.r1 (fun s a=>loadV Try.prog s 3 a),[.loc 0],.push,[]⟩,
  ⟨none,.p2 (binA Try.prog .add 3),[(.loc 0),(.const (.int .i64 (1)))],.push,[]⟩,
  ⟨none,.p1 nilCheckA,[.var 0],.push,[]⟩,
  ⟨none,.p1 (fun x=>fieldAddrA Try.prog 91 x 13),[.loc 0],.push,[]⟩,
  ⟨none,.e (fun s=>on2 (fun a x=>withV (storeV Try.prog s 3 a x))),[.loc 0,.loc 2],.push,[]⟩]
def c34o16:List CItem:=[
  ⟨none,.call 67,[.var 0,.var 5],.push,[]⟩,
  ⟨none,.p1 (fun x=>Rp x 0),[.loc 0],.push,[]⟩,
  ⟨none,.p1 (fun x=>Rp x 1),[.loc 1],.push,[]⟩,
  ⟨none,.call 66,[.var 0,.loc 1,.loc 0],.push,[]⟩]
def c34o17:List CItem:=[
  ⟨none,.p2 (binA Try.prog .geq 3),[.var 4,.var 3],(.set 12),[]⟩]
def c34o18:List CItem:=[
  ⟨none,.p1 some,[.var 3],.push,[]⟩,
  ⟨none,.p2 (binA Try.prog .add 3),[(.loc 0),(.const (.int .i64 (32)))],.push,[]⟩,
  ⟨none,.p1 some,[.loc 0],(.set 3),[]⟩]
def c34o19:List CItem:=[
  ⟨none,.call 68,[.var 0],.push,[]⟩]
def c34o20:List CItem:=[
  ⟨none,.call 63,[(.var 0),(.const (.int .i64 (0)))],.push,[]⟩]
def c34o21:List CItem:=[
  ⟨none,.call 69,[.var 0],.push,[]⟩]
def c34o22:List CItem:=[
  ⟨none,.call 70,[.var 0],.push,[]⟩,
  ⟨none,.p1 some,[.loc 0],(.set 6),[]⟩]
def c34o23:List CItem:=[
  ⟨none,.p2 (binA Try.prog .eql 3),[(.var 6),(.const (.int .i64 (0)))],(.set 13),[]⟩]
def c34o24:List CItem:=[
  ⟨none,.p1 nilCheckA,[.var 0],.push,[]⟩,
  ⟨none,.p1 (fun x=>fieldAddrA Try.prog 91 x 2),[.loc 0],.push,[]⟩,
  ⟨none,.r1 (fun s a=>loadV Try.prog s 23 a),[.loc 0],.push,[]⟩,
  ⟨none,.call 60,[.loc 0],.push,[]⟩,
  ⟨none,.p1 nilCheckA,[.var 0],.push,[]⟩,
  ⟨none,.p1 (fun x=>fieldAddrA Try.prog 91 x 11),[.loc 0],.push,[]⟩,
  ⟨none,.e (fun s=>on2 (fun a x=>withV (storeV Try.prog s 23 a x))),[.loc 0,.loc 2],.push,[]⟩]
def c34o25:List CItem:=[
  ⟨none,.call 63,[(.var 0),(.const (.int .i64 (0)))],.push,[]⟩]
def c34o26:List CItem:=[
  ⟨none,.p1 some,[(.const (.int .i64 (1)))],(.set 2),[]⟩]
def c34o27:List CItem:=[
  ⟨none,.p1 nilCheckA,[.var 0],.push,[]⟩,
  ⟨none,.p1 (fun x=>fieldAddrA Try.prog 91 x 8),[.loc 0],.push,[]⟩,
  ⟨none,.r1 (fun s a=>loadV Try.prog s 23 a),[.loc 0],.push,[]⟩,
  ⟨none,.p1 nilCheckA,[.var 0],.push,[]⟩,
  ⟨none,.p1 (fun x=>fieldAddrA Try.prog 91 x 7),[.loc 0],.push,[]⟩,
  ⟨none,.r1 (fun s a=>loadV Try.prog s 23 a),[.loc 0],.push,[]⟩,
  ⟨none,.r (fun s l=>match l with | [x]=>lenA Try.prog s 23 x | _=>none),[.loc 0],.push,[]⟩,
  ⟨none,.mk (fun l=>(sliceRowA Try.prog 23 1 (zipIdx [0] l)).bind fun r=>some (r,.slice 1)),[.loc 0],.push,[]⟩,
  ⟨none,.e (fun s l=>appendA Try.prog s [23,23] l),[.loc 5,.loc 0],.push,[]⟩,
  ⟨none,.p1 nilCheckA,[.var 0],.push,[]⟩,
  ⟨none,.p1 (fun x=>fieldAddrA Try.prog 91 x 8),[.loc 0],.push,[]⟩,
  ⟨none,.e (fun s=>on2 (fun a x=>withV (storeV Try.prog s 23 a x))),[.loc 0,.loc 2],.push,[]⟩]
def c34o28:List CItem:=[
  ⟨none,.p1 nilCheckA,[.var 0],.push,[]⟩,
  ⟨none,.p1 (fun x=>fieldAddrA Try.prog 91 x 6),[.loc 0],.push,[]⟩,
  ⟨none,.r1 (fun s a=>loadV Try.prog s 23 a),[.loc 0],.push,[]⟩,
  ⟨none,.p2 (indexAddrA Try.prog 23),[.loc 0,.var 6],.push,[]⟩,
  ⟨none,.r1 (fun s a=>loadV Try.prog s 3 a),[.loc 0],.push,[]⟩,
  ⟨none,.p2 (binA Try.prog .mul 3),[.var 6,.loc 0],.push,[]⟩,
  ⟨none,.call 71,[(.var 0),(.loc 0),(.const (.ptr none))],.push,[]⟩]
def c34l29:CCode:=(.seq (.seq (.ops c34o6) (.cond (.var 8)
  .skip
  (.exit 0))) (.block 1 (.seq (.seq (.ops c34o7) (.seq (.ops c34o8) (.cond (.var 9)
  (.seq (.block 2 (.seq (.ops c34o9) (.cond (.var 10)
  (.ops c34o10)
  (.seq (.ops c34o11) (.cond (.var 11)
  (.seq (.ops c34o12) (.seq (.ops c34o13) .ret))
  (.seq (.ops c34o14) (.seq (.ops c34o15) (.ops c34o16)))))))) (.exit 1))
  .skip))) (.seq (.seq (.ops c34o17) (.cond (.var 12)
  (.seq (.ops c34o18) (.seq (.ops c34o19) (.seq (.ops c34o20) (.seq (.ops c34o21) (.exit 1)))))
  .skip)) (.seq (.ops c34o22) (.seq (.seq (.ops c34o23) (.cond (.var 13)
  (.seq (.ops c34o24) (.seq (.ops c34o25) (.seq (.ops c34o26) .ret)))
  .skip)) (.seq (.ops c34o27) (.ops c34o28))))))))
def c34o30:List CItem:=[
  ⟨none,.p1 some,[(.const (.int .i64 (0)))],(.set 2),[]⟩]
def c34:CFunc:=⟨2,14,(.seq (.ops c34o0) (.seq (.seq (.ops c34o1) (.cond (.var 7)
  (.seq (.ops c34o2) .ret)
  .skip)) (.seq (.ops c34o3) (.seq (.ops c34o4) (.seq (.seq (.ops c34o5) (.block 0 (.loop c34l29))) (.seq (.ops c34o30) .ret)))))),[((.var 2),none)]⟩
def c41o0:List CItem:=[
  ⟨none,.p1 some,[(.const (.bool false))],(.set 2),[]⟩]
def c41o1:List CItem:=[
  ⟨none,.p2 (binA Try.prog .neq 44),[(.var 0),(.const (.ptr none))],.push,[]⟩,
  ⟨(some ((.loc 0),true)),.p1 some,[.var 1],.push,[]⟩,
  ⟨(some ((.loc 1),true)),.p2 (binA Try.prog .gtr 3),[(.loc 0),(.const (.int .i64 (0)))],.push,[]⟩,
  ⟨none,.p Rn,[(.loc 2),(.loc 0),(.const (.bool false))],.push,[]⟩,
  ⟨(some ((.loc 0),true)),.p1 some,[.var 1],.push,[]⟩,
  ⟨(some ((.loc 1),true)),.p1 some,[.var 0],.push,[]⟩,
  ⟨(some ((.loc 2),true)),.p1 nilCheckA,[.loc 0],.push,[]⟩,
  ⟨(some ((.loc 3),true)),.p1 (fun x=>fieldAddrA Try.prog 91 x 11),[.loc 0],.push,[]⟩,
  ⟨(some ((.loc 4),true)),.r1 (fun s a=>loadV Try.prog s 23 a),[.loc 0],.push,[]⟩,
  ⟨(some ((.loc 5),true)),.r (fun s l=>match l with | [x]=>lenA Try.prog s 23 x | _=>none),[.loc 0],.push,[]⟩,
  ⟨(some ((.loc 6),true)),.p2 (binA Try.prog .lss 3),[.loc 5,.loc 0],.push,[]⟩,
  ⟨none,.p Rn,[(.loc 7),(.loc 0),(.const (.bool false))],.push,[]⟩,
  ⟨(some ((.loc 0),true)),.p1 some,[.var 0],.push,[]⟩,
  ⟨(some ((.loc 1),true)),.p1 nilCheckA,[.loc 0],.push,[]⟩,
  ⟨(some ((.loc 2),true)),.p1 (fun x=>fieldAddrA Try.prog 91 x 11),[.loc 0],.push,[]⟩,
  ⟨(some ((.loc 3),true)),.r1 (fun s a=>loadV Try.prog s 23 a),[.loc 0],.push,[]⟩,
  ⟨(some ((.loc 4),true)),.p1 some,[.var 1],.push,[]⟩,
  ⟨(some ((.loc 5),true)),.p2 (indexAddrA Try.prog 23),[.loc 1,.loc 0],.push,[]⟩,
  ⟨(some ((.loc 6),true)),.r1 (fun s a=>loadV Try.prog s 3 a),[.loc 0],.push,[]⟩,
  ⟨(some ((.loc 7),true)),.p2 (binA Try.prog .gtr 3),[(.loc 0),(.const (.int .i64 (0)))],.push,[]⟩,
  ⟨none,.p Rn,[(.loc 8),(.loc 0),(.const (.bool false))],.push,[]⟩,
  ⟨none,.p1 some,[.loc 0],(.set 2),[]⟩]
def c41:CFunc:=⟨2,3,(.seq (.ops c41o0) (.seq (.ops c41o1) .ret)),[((.var 2),none)]⟩
def c43o0:List CItem:=[
  ⟨none,.p1 some,[(.const (.slice none 0 (some 0)))],(.set 1),[]⟩]
def c43o1:List CItem:=[
  ⟨none,.p2 (binA Try.prog .eql 44),[(.var 0),(.const (.ptr none))],(.set 3),[]⟩]
def c43o2:List CItem:=[
  ⟨none,.p1 some,[(.const (.slice none 0 (some 0)))],(.set 1),[]⟩]
def c43o3:List CItem:=[
  ⟨none,.p1 nilCheckA,[.var 0],.push,[]⟩,
  ⟨none,.p1 (fun x=>fieldAddrA Try.prog 91 x 12),[.loc 0],.push,[]⟩,
  ⟨none,.r1 (fun s a=>loadV Try.prog s 33 a),[.loc 0],(.set 4),[]⟩,
  ⟨none,.r (fun s l=>match l with | [x]=>lenA Try.prog s 33 x | _=>none),[.var 4],(.set 5),[]⟩,
  ⟨none,.p1 some,[(.const (.int .i64 (0)))],(.set 6),[]⟩]
def c43o4:List CItem:=[
  ⟨none,.p2 (binA Try.prog .lss 3),[.var 6,.var 5],(.set 7),[]⟩]
def c43o5:List CItem:=[
  ⟨none,.p2 (indexAddrA Try.prog 33),[.var 4,.var 6],.push,[]⟩,
  ⟨none,.r1 (fun s a=>loadV Try.prog s 27 a),[.loc 0],.push,[]⟩,
  ⟨none,.mk (fun l=>match l with | []=>allocA Try.prog 27 | _=>none),[],(.set 2),[]⟩,
  ⟨none,.e (fun s=>on2 (fun a x=>withV (storeV Try.prog s 27 a x))),[.var 2,.loc 0],.push,[]⟩]
def c43o6:List CItem:=[
  ⟨none,.p1 some,[.var 1],.push,[]⟩,
  ⟨none,.p1 (fun x=>fieldAddrA Try.prog 27 x 0),[.var 2],.push,[]⟩,
  ⟨none,.r1 (fun s a=>loadV Try.prog s 4 a),[.loc 0],.push,[]⟩,
  ⟨none,.p1 (fun x=>fieldAddrA Try.prog 27 x 1),[.var 2],.push,[]⟩,
  ⟨none,.r1 (fun s a=>loadV Try.prog s 23 a),[.loc 0],.push,[]⟩,
  ⟨none,.call 60,[.loc 0],.push,[⟨none,.r1 (fun s a=>loadV Try.prog s 4 a),[.loc 4],(.loc 3)⟩]⟩,
  ⟨none,.p (fun l=>buildA Try.prog 27 (zipIdx [0,1] l)),[.loc 3,.loc 0],.push,[]⟩,
  ⟨none,.mk (fun l=>(sliceRowA Try.prog 33 1 (zipIdx [0] l)).bind fun r=>some (r,.slice 1)),[.loc 0],.push,[]⟩,
  ⟨none,.e (fun s l=>appendA Try.prog s [33,33] l),[.loc 7,.loc 0],.push,[]⟩,
  ⟨none,.p1 some,[.loc 0],(.set 1),[]⟩]
def c43o7:List CItem:=[
  ⟨none,.p2 (binA Try.prog .add 3),[(.var 6),(.const (.int .i64 (1)))],.push,[]⟩,
  ⟨none,.p1 some,[.loc 0],(.set 6),[]⟩]
def c43l8:CCode:=(.seq (.ops c43o4) (.seq (.cond (.var 7)
  .skip
  (.exit 0)) (.seq (.block 1 (.seq (.ops c43o5) (.ops c43o6))) (.ops c43o7))))
def c43o9:List CItem:=[
  ⟨none,.p1 some,[.var 1],.push,[]⟩,
  ⟨none,.p1 some,[.loc 0],(.set 1),[]⟩]
def c43:CFunc:=⟨1,8,(.seq (.ops c43o0) (.seq (.seq (.ops c43o1) (.cond (.var 3)
  (.seq (.ops c43o2) .ret)
  .skip)) (.seq (.seq (.ops c43o3) (.block 0 (.loop c43l8))) (.seq (.ops c43o9) .ret)))),[((.var 1),none)]⟩
theorem comp90:compFunc Try.prog 90=some c90:=by kernel_rfl
theorem comp91:compFunc Try.prog 91=some c91:=by kernel_rfl
theorem comp77:compFunc Try.prog 77=some c77:=by kernel_rfl
theorem comp71:compFunc Try.prog 71=some c71:=by kernel_rfl
theorem comp78:compFunc Try.prog 78=some c78:=by kernel_rfl
theorem comp63:compFunc Try.prog 63=some c63:=by kernel_rfl
theorem comp65:compFunc Try.prog 65=some c65:=by kernel_rfl
theorem comp47:compFunc Try.prog 47=some c47:=by kernel_rfl
theorem comp46:compFunc Try.prog 46=some c46:=by kernel_rfl
theorem comp40:compFunc Try.prog 40=some c40:=by kernel_rfl
theorem comp68:compFunc Try.prog 68=some c68:=by kernel_rfl
theorem comp69:compFunc Try.prog 69=some c69:=by kernel_rfl
theorem comp70:compFunc Try.prog 70=some c70:=by kernel_rfl
theorem comp99:compFunc Try.prog 99=some c99:=by kernel_rfl
theorem comp72:compFunc Try.prog 72=some c72:=by kernel_rfl
theorem comp73:compFunc Try.prog 73=some c73:=by kernel_rfl
theorem comp100:compFunc Try.prog 100=some c100:=by kernel_rfl
theorem comp101:compFunc Try.prog 101=some c101:=by kernel_rfl
theorem comp113:compFunc Try.prog 113=some c113:=by kernel_rfl
theorem comp74:compFunc Try.prog 74=some c74:=by kernel_rfl
theorem comp75:compFunc Try.prog 75=some c75:=by kernel_rfl
theorem comp76:compFunc Try.prog 76=some c76:=by kernel_rfl
theorem comp102:compFunc Try.prog 102=some c102:=by kernel_rfl
theorem comp114:compFunc Try.prog 114=some c114:=by kernel_rfl
theorem comp36:compFunc Try.prog 36=some c36:=by kernel_rfl
theorem comp110:compFunc Try.prog 110=some c110:=by kernel_rfl
theorem comp92:compFunc Try.prog 92=some c92:=by kernel_rfl
theorem comp64:compFunc Try.prog 64=some c64:=by kernel_rfl
theorem comp93:compFunc Try.prog 93=some c93:=by kernel_rfl
theorem comp111:compFunc Try.prog 111=some c111:=by kernel_rfl
theorem comp67:compFunc Try.prog 67=some c67:=by kernel_rfl
theorem vars67:varsIn Try.prog 67=[0,1,2,4,5,6,7,8,9,10,11,13,14,15,25,26,45,70,87,121,131]:=by kernel_rfl
theorem ca67:compIn Try.prog 67 a67=some c67a:=by kernel_rfl
theorem cb67:compIn Try.prog 67 b67=some c67b:=by kernel_rfl
theorem comp95:compFunc Try.prog 95=some c95:=by kernel_rfl
theorem comp66:compFunc Try.prog 66=some c66:=by kernel_rfl
theorem comp34:compFunc Try.prog 34=some c34:=by kernel_rfl
theorem comp41:compFunc Try.prog 41=some c41:=by kernel_rfl
theorem comp43:compFunc Try.prog 43=some c43:=by kernel_rfl
end
end Go.Proofs.Ytilhhmkdcoajnaa.Am
