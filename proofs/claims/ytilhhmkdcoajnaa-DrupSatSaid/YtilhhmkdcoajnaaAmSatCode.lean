/- The compiled code of the solver, printed by a program of ours (dev/Print.lean) and checked by the kernel; conditions: none. -/
import Derived.Test.YtilhhmkdcoajnaaAmM33
set_option linter.unusedVariables false
set_option linter.unusedSimpArgs false
namespace Go.Proofs.Ytilhhmkdcoajnaa.Am
open Go Go.Proofs
noncomputable section
theorem FS:Ey Try.prog 44=some false:=by kernel_rfl
theorem Gv:BB Try.prog 88=some 1:=by kernel_rfl
theorem mL:Ey Try.prog 88=some false:=by kernel_rfl
theorem EX:BB Try.prog 89=some 1:=by kernel_rfl
theorem by89:CM Try.prog 89=some 24:=by kernel_rfl
theorem Jy:Ey Try.prog 89=some false:=by kernel_rfl
theorem oC:B9 Try.prog 89=some (.slice none 0 (some 0)):=by kernel_rfl
theorem zr91:B9 Try.prog 91=some (.agg [(.slice none 0 (some 0)),(.slice none 0 (some 0)),(.slice none 0 (some 0)),(.slice none 0 (some 0)),(.slice none 0 (some 0)),(.slice none 0 (some 0)),(.slice none 0 (some 0)),(.slice none 0 (some 0)),(.slice none 0 (some 0)),(.int .i64 (0)),(.bool false),(.slice none 0 (some 0)),(.slice none 0 (some 0)),(.int .i64 (0)),(.int .i64 (0))]):=by kernel_rfl
theorem Gw:BB Try.prog 92=some 1:=by kernel_rfl
theorem Vu:CM Try.prog 92=some 8:=by kernel_rfl
theorem jA:Ey Try.prog 92=some false:=by kernel_rfl
theorem Ve:B9 Try.prog 92=some (.ptr none):=by kernel_rfl
theorem iy:B9 Try.prog 104=some (.agg [(.slice none 0 (some 0)),(.bool false),(.bool false)]):=by kernel_rfl
theorem nw:BB Try.prog 115=some 1:=by kernel_rfl
theorem OT:Ey Try.prog 115=some false:=by kernel_rfl
theorem oA:B9 Try.prog 115=some (.map none):=by kernel_rfl
theorem ny:BB Try.prog 119=some 0:=by kernel_rfl
theorem af:B9 Try.prog 119=some (.agg []):=by kernel_rfl
def iU:List AA:=[
  ⟨none,.p1 some,[(.const (.int .i64 (0)))],(.set 1),[]⟩]
def iV:List AA:=[
  ⟨none,.p1 (unA Try.prog Go.UnOp.neg),[.var 0],.push,[]⟩,
  ⟨none,.p (fun l=>match l with | v::l=>DU true v l | []=>none),[.var 0,.loc 0],.push,[]⟩,
  ⟨none,.p1 some,[.loc 0],(.set 1),[]⟩]
def c90:Ar:=⟨1,2,(.seq (.ops iU) (.seq (.ops iV) .ret)),[((.var 1),none)]⟩
def Yu:List AA:=[
  ⟨none,.p1 some,[(.const (.int .i64 (0)))],(.set 1),[]⟩]
def Yv:List AA:=[
  ⟨none,.p2 (AI Try.prog .lss 3),[(.var 0),(.const (.int .i64 (0)))],(.set 2),[]⟩]
def iW:List AA:=[
  ⟨none,.p2 (AI Try.prog .mul 3),[(.const (.int .i64 (2))),(.var 0)],.push,[]⟩,
  ⟨none,.p2 (AI Try.prog .sub 3),[(.const (.int .i64 (1))),(.loc 0)],.push,[]⟩,
  ⟨none,.p1 some,[.loc 0],(.set 1),[]⟩]
def iX:List AA:=[
  ⟨none,.p2 (AI Try.prog .mul 3),[(.const (.int .i64 (2))),(.var 0)],.push,[]⟩,
  ⟨none,.p1 some,[.loc 0],(.set 1),[]⟩]
def c91:Ar:=⟨1,3,(.seq (.ops Yu) (.seq (.seq (.ops Yv) (.cond (.var 2)
  (.seq (.ops iW) .ret)
  .skip)) (.seq (.ops iX) .ret))),[((.var 1),none)]⟩
def YT:List AA:=[
  ⟨none,.p1 some,[(.const (.int .i64 (0)))],(.set 2),[]⟩]
def YU:List AA:=[
  ⟨none,.p2 (AI Try.prog .lss 3),[(.var 1),(.const (.int .i64 (0)))],(.set 3),[]⟩]
def gv:List AA:=[
  ⟨none,.p1 AE,[.var 0],.push,[]⟩,
  ⟨none,.p1 (fun x=>AB Try.prog 91 x 2),[.loc 0],.push,[]⟩,
  ⟨none,.r1 (fun s a=>AD Try.prog s 23 a),[.loc 0],.push,[]⟩,
  ⟨none,.p1 (unA Try.prog Go.UnOp.neg),[.var 1],.push,[]⟩,
  ⟨none,.p2 (AC Try.prog 23),[.loc 1,.loc 0],.push,[]⟩,
  ⟨none,.r1 (fun s a=>AD Try.prog s 3 a),[.loc 0],.push,[]⟩,
  ⟨none,.p1 (unA Try.prog Go.UnOp.neg),[.loc 0],.push,[]⟩,
  ⟨none,.p1 some,[.loc 0],(.set 2),[]⟩]
def gw:List AA:=[
  ⟨none,.p1 AE,[.var 0],.push,[]⟩,
  ⟨none,.p1 (fun x=>AB Try.prog 91 x 2),[.loc 0],.push,[]⟩,
  ⟨none,.r1 (fun s a=>AD Try.prog s 23 a),[.loc 0],.push,[]⟩,
  ⟨none,.p2 (AC Try.prog 23),[.loc 0,.var 1],.push,[]⟩,
  ⟨none,.r1 (fun s a=>AD Try.prog s 3 a),[.loc 0],.push,[]⟩,
  ⟨none,.p1 some,[.loc 0],(.set 2),[]⟩]
def c77:Ar:=⟨2,4,(.seq (.ops YT) (.seq (.seq (.ops YU) (.cond (.var 3)
  (.seq (.ops gv) .ret)
  .skip)) (.seq (.ops gw) .ret))),[((.var 2),none)]⟩
def gg:List AA:=[
  ⟨none,.call 90,[.var 1],.push,[]⟩,
  ⟨none,.p1 some,[.loc 0],(.set 3),[]⟩]
def gh:List AA:=[
  ⟨none,.p1 AE,[.var 0],.push,[]⟩,
  ⟨none,.p1 (fun x=>AB Try.prog 91 x 2),[.loc 0],.push,[]⟩,
  ⟨none,.r1 (fun s a=>AD Try.prog s 23 a),[.loc 0],.push,[]⟩,
  ⟨none,.p1 AE,[.var 0],.push,[]⟩,
  ⟨none,.p1 (fun x=>AB Try.prog 91 x 3),[.loc 0],.push,[]⟩,
  ⟨none,.r1 (fun s a=>AD Try.prog s 23 a),[.loc 0],.push,[]⟩,
  ⟨none,.p1 AE,[.var 0],.push,[]⟩,
  ⟨none,.p1 (fun x=>AB Try.prog 91 x 4),[.loc 0],.push,[]⟩,
  ⟨none,.r1 (fun s a=>AD Try.prog s 89 a),[.loc 0],.push,[]⟩,
  ⟨none,.p2 (AI Try.prog .quo 3),[.var 1,.var 3],.push,[]⟩,
  ⟨none,.p1 AE,[.var 0],.push,[]⟩,
  ⟨none,.p1 (fun x=>AB Try.prog 91 x 8),[.loc 0],.push,[]⟩,
  ⟨none,.r1 (fun s a=>AD Try.prog s 23 a),[.loc 0],.push,[]⟩,
  ⟨none,.r (fun s l=>match l with | [x]=>Ao Try.prog s 23 x | _=>none),[.loc 0],.push,[]⟩,
  ⟨none,.p2 (AC Try.prog 23),[.loc 11,.var 3],.push,[]⟩,
  ⟨none,.e (fun s=>on2 (fun a x=>AT (AN Try.prog s 3 a x))),[.loc 0,.loc 5],.push,[⟨none,.r (fun s l=>match l with | [x]=>Ao Try.prog s 23 x | _=>none),[.loc 3],(.loc 2)⟩]⟩,
  ⟨none,.p2 (AC Try.prog 23),[.loc 10,.var 3],.push,[]⟩,
  ⟨none,.e (fun s=>on2 (fun a x=>AT (AN Try.prog s 3 a x))),[.loc 0,.loc 3],.push,[]⟩,
  ⟨none,.p2 (AC Try.prog 89),[.loc 9,.var 3],.push,[]⟩,
  ⟨none,.e (fun s=>on2 (fun a x=>AT (AN Try.prog s 92 a x))),[.loc 0,.var 2],.push,[]⟩]
def gi:List AA:=[
  ⟨none,.p1 AE,[.var 0],.push,[]⟩,
  ⟨none,.p1 (fun x=>AB Try.prog 91 x 7),[.loc 0],.push,[]⟩,
  ⟨none,.r1 (fun s a=>AD Try.prog s 23 a),[.loc 0],.push,[]⟩,
  ⟨none,.mk (fun l=>(Ad Try.prog 23 1 (zipIdx [0] l)).bind fun r=>some (r,.slice 1)),[.var 1],.push,[]⟩,
  ⟨none,.e (fun s l=>AY Try.prog s [23,23] l),[.loc 1,.loc 0],.push,[]⟩,
  ⟨none,.p1 AE,[.var 0],.push,[]⟩,
  ⟨none,.p1 (fun x=>AB Try.prog 91 x 7),[.loc 0],.push,[]⟩,
  ⟨none,.e (fun s=>on2 (fun a x=>AT (AN Try.prog s 23 a x))),[.loc 0,.loc 2],.push,[]⟩]
def c71:Ar:=⟨3,4,(.seq (.ops gg) (.seq (.ops gh) (.ops gi))),[]⟩
def gx:List AA:=[
  ⟨none,.p1 AE,[.var 1],.push,[]⟩,
  ⟨none,.p1 (fun x=>AB Try.prog 104 x 0),[.loc 0],.push,[]⟩,
  ⟨none,.r1 (fun s a=>AD Try.prog s 23 a),[.loc 0],.push,[]⟩,
  ⟨none,.r (AW Try.prog 23 false true false),[(.loc 0),(.const (.int .i64 (2)))],(.set 3),[]⟩,
  ⟨none,.r (fun s l=>match l with | [x]=>Ao Try.prog s 23 x | _=>none),[.var 3],(.set 4),[]⟩,
  ⟨none,.p1 some,[(.const (.int .i64 (0)))],(.set 5),[]⟩]
def Te:List AA:=[
  ⟨none,.p2 (AI Try.prog .lss 3),[.var 5,.var 4],(.set 6),[]⟩]
def YV:List AA:=[
  ⟨none,.p2 (AC Try.prog 23),[.var 3,.var 5],.push,[]⟩,
  ⟨none,.r1 (fun s a=>AD Try.prog s 3 a),[.loc 0],.push,[]⟩,
  ⟨none,.p1 some,[.loc 0],(.set 2),[]⟩]
def YW:List AA:=[
  ⟨none,.p1 AE,[.var 0],.push,[]⟩,
  ⟨none,.p1 (fun x=>AB Try.prog 91 x 0),[.loc 0],.push,[]⟩,
  ⟨none,.r1 (fun s a=>AD Try.prog s 88 a),[.loc 0],.push,[]⟩,
  ⟨none,.p1 AE,[.var 0],.push,[]⟩,
  ⟨none,.p1 (fun x=>AB Try.prog 91 x 0),[.loc 0],.push,[]⟩,
  ⟨none,.r1 (fun s a=>AD Try.prog s 88 a),[.loc 0],.push,[]⟩,
  ⟨none,.mk (fun l=>(Ad Try.prog 89 1 (zipIdx [0] l)).bind fun r=>some (r,.slice 1)),[.var 1],.push,[]⟩,
  ⟨none,.call 91,[.var 2],.push,[⟨none,.r1 (fun s a=>AD Try.prog s 88 a),[.loc 3],(.loc 2)⟩,⟨none,.r1 (fun s a=>AD Try.prog s 88 a),[.loc 6],(.loc 5)⟩]⟩,
  ⟨none,.call 91,[.var 2],.push,[⟨none,.r1 (fun s a=>AD Try.prog s 88 a),[.loc 4],(.loc 3)⟩,⟨none,.r1 (fun s a=>AD Try.prog s 88 a),[.loc 7],(.loc 6)⟩]⟩,
  ⟨none,.p2 (AC Try.prog 88),[.loc 3,.loc 0],.push,[]⟩,
  ⟨none,.r1 (fun s a=>AD Try.prog s 89 a),[.loc 0],.push,[]⟩,
  ⟨none,.e (fun s l=>AY Try.prog s [89,89] l),[.loc 0,.loc 4],.push,[⟨none,.r1 (fun s a=>AD Try.prog s 88 a),[.loc 10],(.loc 9)⟩]⟩,
  ⟨none,.p2 (AC Try.prog 88),[.loc 9,.loc 4],.push,[]⟩,
  ⟨none,.e (fun s=>on2 (fun a x=>AT (AN Try.prog s 89 a x))),[.loc 0,.loc 1],.push,[]⟩]
def YX:List AA:=[
  ⟨none,.p2 (AI Try.prog .add 3),[(.var 5),(.const (.int .i64 (1)))],.push,[]⟩,
  ⟨none,.p1 some,[.loc 0],(.set 5),[]⟩]
def MZ:AX:=(.seq (.ops Te) (.seq (.cond (.var 6)
  .skip
  (.exit 0)) (.seq (.block 1 (.seq (.ops YV) (.ops YW))) (.ops YX))))
def c78:Ar:=⟨2,7,(.seq (.ops gx) (.block 0 (.loop MZ))),[]⟩
def X6:List AA:=[
  ⟨none,.p1 AE,[.var 0],.push,[]⟩,
  ⟨none,.p1 (fun x=>AB Try.prog 91 x 8),[.loc 0],.push,[]⟩,
  ⟨none,.r1 (fun s a=>AD Try.prog s 23 a),[.loc 0],.push,[]⟩,
  ⟨none,.r (fun s l=>match l with | [x]=>Ao Try.prog s 23 x | _=>none),[.loc 0],.push,[]⟩,
  ⟨none,.p2 (AI Try.prog .leq 3),[.loc 0,.var 1],(.set 5),[]⟩]
def fl:List AA:=[
  ⟨none,.p1 AE,[.var 0],.push,[]⟩,
  ⟨none,.p1 (fun x=>AB Try.prog 91 x 8),[.loc 0],.push,[]⟩,
  ⟨none,.r1 (fun s a=>AD Try.prog s 23 a),[.loc 0],.push,[]⟩,
  ⟨none,.p2 (AC Try.prog 23),[.loc 0,.var 1],.push,[]⟩,
  ⟨none,.r1 (fun s a=>AD Try.prog s 3 a),[.loc 0],.push,[]⟩,
  ⟨none,.p1 some,[.loc 0],(.set 2),[]⟩]
def fm:List AA:=[
  ⟨none,.p1 AE,[.var 0],.push,[]⟩,
  ⟨none,.p1 (fun x=>AB Try.prog 91 x 7),[.loc 0],.push,[]⟩,
  ⟨none,.r1 (fun s a=>AD Try.prog s 23 a),[.loc 0],.push,[]⟩,
  ⟨none,.r (AW Try.prog 23 true false false),[.loc 0,.var 2],(.set 6),[]⟩,
  ⟨none,.r (fun s l=>match l with | [x]=>Ao Try.prog s 23 x | _=>none),[.var 6],(.set 7),[]⟩,
  ⟨none,.p1 some,[(.const (.int .i64 (0)))],(.set 8),[]⟩]
def X7:List AA:=[
  ⟨none,.p2 (AI Try.prog .lss 3),[.var 8,.var 7],(.set 9),[]⟩]
def fo:List AA:=[
  ⟨none,.p2 (AC Try.prog 23),[.var 6,.var 8],.push,[]⟩,
  ⟨none,.r1 (fun s a=>AD Try.prog s 3 a),[.loc 0],.push,[]⟩,
  ⟨none,.p1 some,[.loc 0],(.set 3),[]⟩]
def ft:List AA:=[
  ⟨none,.call 90,[.var 3],.push,[]⟩,
  ⟨none,.p1 some,[.loc 0],(.set 4),[]⟩]
def fu:List AA:=[
  ⟨none,.p1 AE,[.var 0],.push,[]⟩,
  ⟨none,.p1 (fun x=>AB Try.prog 91 x 6),[.loc 0],.push,[]⟩,
  ⟨none,.r1 (fun s a=>AD Try.prog s 23 a),[.loc 0],.push,[]⟩,
  ⟨none,.p1 AE,[.var 0],.push,[]⟩,
  ⟨none,.p1 (fun x=>AB Try.prog 91 x 2),[.loc 0],.push,[]⟩,
  ⟨none,.r1 (fun s a=>AD Try.prog s 23 a),[.loc 0],.push,[]⟩,
  ⟨none,.p1 AE,[.var 0],.push,[]⟩,
  ⟨none,.p1 (fun x=>AB Try.prog 91 x 4),[.loc 0],.push,[]⟩,
  ⟨none,.r1 (fun s a=>AD Try.prog s 89 a),[.loc 0],.push,[]⟩,
  ⟨none,.p1 AE,[.var 0],.push,[]⟩,
  ⟨none,.p1 (fun x=>AB Try.prog 91 x 2),[.loc 0],.push,[]⟩,
  ⟨none,.r1 (fun s a=>AD Try.prog s 23 a),[.loc 0],.push,[]⟩,
  ⟨none,.p2 (AC Try.prog 23),[.loc 0,.var 4],.push,[]⟩,
  ⟨none,.r1 (fun s a=>AD Try.prog s 3 a),[.loc 0],.push,[]⟩,
  ⟨none,.p2 (AC Try.prog 23),[.loc 11,.var 4],.push,[]⟩,
  ⟨none,.e (fun s=>on2 (fun a x=>AT (AN Try.prog s 3 a x))),[.loc 0,.loc 1],.push,[]⟩,
  ⟨none,.p2 (AC Try.prog 23),[.loc 10,.var 4],.push,[]⟩,
  ⟨none,.e (fun s=>on2 (fun a x=>AT (AN Try.prog s 3 a x))),[(.loc 0),(.const (.int .i64 (0)))],.push,[]⟩,
  ⟨none,.p2 (AC Try.prog 89),[.loc 9,.var 4],.push,[]⟩,
  ⟨none,.e (fun s=>on2 (fun a x=>AT (AN Try.prog s 92 a x))),[(.loc 0),(.const (.ptr none))],.push,[]⟩]
def fv:List AA:=[
  ⟨none,.p2 (AI Try.prog .add 3),[(.var 8),(.const (.int .i64 (1)))],.push,[]⟩,
  ⟨none,.p1 some,[.loc 0],(.set 8),[]⟩]
def Om:AX:=(.seq (.ops X7) (.seq (.cond (.var 9)
  .skip
  (.exit 0)) (.seq (.block 1 (.seq (.ops fo) (.seq (.ops ft) (.ops fu)))) (.ops fv))))
def fw:List AA:=[
  ⟨none,.p1 AE,[.var 0],.push,[]⟩,
  ⟨none,.p1 (fun x=>AB Try.prog 91 x 7),[.loc 0],.push,[]⟩,
  ⟨none,.r1 (fun s a=>AD Try.prog s 23 a),[.loc 0],.push,[]⟩,
  ⟨none,.r (AW Try.prog 23 false true false),[.loc 0,.var 2],.push,[]⟩,
  ⟨none,.p1 AE,[.var 0],.push,[]⟩,
  ⟨none,.p1 (fun x=>AB Try.prog 91 x 8),[.loc 0],.push,[]⟩,
  ⟨none,.r1 (fun s a=>AD Try.prog s 23 a),[.loc 0],.push,[]⟩,
  ⟨none,.r (AW Try.prog 23 false true false),[.loc 0,.var 1],.push,[]⟩,
  ⟨none,.p1 AE,[.var 0],.push,[]⟩,
  ⟨none,.p1 (fun x=>AB Try.prog 91 x 7),[.loc 0],.push,[]⟩,
  ⟨none,.e (fun s=>on2 (fun a x=>AT (AN Try.prog s 23 a x))),[.loc 0,.loc 6],.push,[⟨none,.r (AW Try.prog 23 false true false),[.loc 4,.var 1],(.loc 3)⟩]⟩,
  ⟨none,.p1 AE,[.var 0],.push,[]⟩,
  ⟨none,.p1 (fun x=>AB Try.prog 91 x 8),[.loc 0],.push,[]⟩,
  ⟨none,.e (fun s=>on2 (fun a x=>AT (AN Try.prog s 23 a x))),[.loc 0,.loc 5],.push,[]⟩,
  ⟨none,.p1 AE,[.var 0],.push,[]⟩,
  ⟨none,.p1 (fun x=>AB Try.prog 91 x 9),[.loc 0],.push,[]⟩,
  ⟨none,.e (fun s=>on2 (fun a x=>AT (AN Try.prog s 3 a x))),[.loc 0,.var 2],.push,[]⟩]
def c63:Ar:=⟨2,10,(.seq (.seq (.ops X6) (.cond (.var 5)
  .ret
  .skip)) (.seq (.ops fl) (.seq (.seq (.ops fm) (.block 0 (.loop Om))) (.ops fw)))),[]⟩
def YI:List AA:=[
  ⟨none,.p1 AE,[.var 0],.push,[]⟩,
  ⟨none,.p1 (fun x=>AB Try.prog 91 x 10),[.loc 0],.push,[]⟩,
  ⟨none,.r1 (fun s a=>AD Try.prog s 4 a),[.loc 0],.push,[]⟩,
  ⟨none,.p1 (unA Try.prog Go.UnOp.not),[.loc 0],(.set 1),[]⟩]
def gC:List AA:=[
  ⟨none,.p1 AE,[.var 0],.push,[]⟩,
  ⟨none,.p1 (fun x=>AB Try.prog 91 x 12),[.loc 0],.push,[]⟩,
  ⟨none,.r1 (fun s a=>AD Try.prog s 33 a),[.loc 0],.push,[]⟩,
  ⟨none,.p (fun l=>Bz Try.prog 27 (zipIdx [] l)),[],.push,[]⟩,
  ⟨none,.mk (fun l=>(Ad Try.prog 33 1 (zipIdx [0] l)).bind fun r=>some (r,.slice 1)),[.loc 0],.push,[]⟩,
  ⟨none,.e (fun s l=>AY Try.prog s [33,33] l),[.loc 2,.loc 0],.push,[]⟩,
  ⟨none,.p1 AE,[.var 0],.push,[]⟩,
  ⟨none,.p1 (fun x=>AB Try.prog 91 x 10),[.loc 0],.push,[]⟩,
  ⟨none,.e (fun s=>on2 (fun a x=>AT (AN Try.prog s 4 a x))),[(.loc 0),(.const (.bool true))],.push,[]⟩,
  ⟨none,.p1 AE,[.var 0],.push,[]⟩,
  ⟨none,.p1 (fun x=>AB Try.prog 91 x 12),[.loc 0],.push,[]⟩,
  ⟨none,.e (fun s=>on2 (fun a x=>AT (AN Try.prog s 33 a x))),[.loc 0,.loc 5],.push,[]⟩]
def c65:Ar:=⟨1,2,(.seq (.ops YI) (.cond (.var 1)
  (.ops gC)
  .skip)),[]⟩
def fB:List AA:=[
  ⟨none,.p1 some,[(.const (.int .i64 (0)))],(.set 1),[]⟩]
def fC:List AA:=[
  ⟨none,.p2 (AI Try.prog .eql 44),[(.var 0),(.const (.ptr none))],(.set 2),[]⟩]
def mz:List AA:=[
  ⟨none,.p1 some,[(.const (.int .i64 (0)))],(.set 1),[]⟩]
def fD:List AA:=[
  ⟨none,.p1 AE,[.var 0],.push,[]⟩,
  ⟨none,.p1 (fun x=>AB Try.prog 91 x 2),[.loc 0],.push,[]⟩,
  ⟨none,.r1 (fun s a=>AD Try.prog s 23 a),[.loc 0],.push,[]⟩,
  ⟨none,.r (fun s l=>match l with | [x]=>Ao Try.prog s 23 x | _=>none),[.loc 0],.push,[]⟩,
  ⟨none,.p2 (AI Try.prog .sub 3),[(.loc 0),(.const (.int .i64 (1)))],.push,[]⟩,
  ⟨none,.p1 some,[.loc 0],(.set 1),[]⟩]
def c47:Ar:=⟨1,3,(.seq (.ops fB) (.seq (.seq (.ops fC) (.cond (.var 2)
  (.seq (.ops mz) .ret)
  .skip)) (.seq (.ops fD) .ret))),[((.var 1),none)]⟩
def fA:List AA:=[
  ⟨none,.p2 (AI Try.prog .eql 44),[(.var 0),(.const (.ptr none))],(.set 2),[]⟩]
def Xn:List AA:=[
  ⟨none,.p1 AE,[.var 0],.push,[]⟩,
  ⟨none,.p1 (fun x=>AB Try.prog 91 x 2),[.loc 0],.push,[]⟩,
  ⟨none,.r1 (fun s a=>AD Try.prog s 23 a),[.loc 0],.push,[]⟩,
  ⟨none,.r (fun s l=>match l with | [x]=>Ao Try.prog s 23 x | _=>none),[.loc 0],.push,[]⟩,
  ⟨none,.p2 (AI Try.prog .leq 3),[.loc 0,.var 1],(.set 3),[]⟩]
def Xo:List AA:=[
  ⟨none,.p1 AE,[.var 0],.push,[]⟩,
  ⟨none,.p1 (fun x=>AB Try.prog 91 x 0),[.loc 0],.push,[]⟩,
  ⟨none,.r1 (fun s a=>AD Try.prog s 88 a),[.loc 0],.push,[]⟩,
  ⟨none,.mk (fun l=>(Ad Try.prog 88 2 (zipIdx [0,1] l)).bind fun r=>some (r,.slice 2)),[(.const (.slice none 0 (some 0))),(.const (.slice none 0 (some 0)))],.push,[]⟩,
  ⟨none,.e (fun s l=>AY Try.prog s [88,88] l),[.loc 1,.loc 0],.push,[]⟩,
  ⟨none,.p1 AE,[.var 0],.push,[]⟩,
  ⟨none,.p1 (fun x=>AB Try.prog 91 x 0),[.loc 0],.push,[]⟩,
  ⟨none,.e (fun s=>on2 (fun a x=>AT (AN Try.prog s 88 a x))),[.loc 0,.loc 2],.push,[]⟩]
def Xp:List AA:=[
  ⟨none,.p1 AE,[.var 0],.push,[]⟩,
  ⟨none,.p1 (fun x=>AB Try.prog 91 x 2),[.loc 0],.push,[]⟩,
  ⟨none,.r1 (fun s a=>AD Try.prog s 23 a),[.loc 0],.push,[]⟩,
  ⟨none,.mk (fun l=>(Ad Try.prog 23 1 (zipIdx [0] l)).bind fun r=>some (r,.slice 1)),[(.const (.int .i64 (0)))],.push,[]⟩,
  ⟨none,.p1 AE,[.var 0],.push,[]⟩,
  ⟨none,.p1 (fun x=>AB Try.prog 91 x 3),[.loc 0],.push,[]⟩,
  ⟨none,.r1 (fun s a=>AD Try.prog s 23 a),[.loc 0],.push,[]⟩,
  ⟨none,.mk (fun l=>(Ad Try.prog 23 1 (zipIdx [0] l)).bind fun r=>some (r,.slice 1)),[(.const (.int .i64 (0)))],.push,[]⟩,
  ⟨none,.p1 AE,[.var 0],.push,[]⟩,
  ⟨none,.p1 (fun x=>AB Try.prog 91 x 4),[.loc 0],.push,[]⟩,
  ⟨none,.r1 (fun s a=>AD Try.prog s 89 a),[.loc 0],.push,[]⟩,
  ⟨none,.mk (fun l=>(Ad Try.prog 89 1 (zipIdx [0] l)).bind fun r=>some (r,.slice 1)),[(.const (.ptr none))],.push,[]⟩,
  ⟨none,.e (fun s l=>AY Try.prog s [23,23] l),[.loc 9,.loc 8],.push,[⟨none,.r1 (fun s a=>AD Try.prog s 89 a),[.loc 3],(.loc 2)⟩,⟨none,.r1 (fun s a=>AD Try.prog s 23 a),[.loc 7],(.loc 6)⟩]⟩,
  ⟨none,.e (fun s l=>AY Try.prog s [23,23] l),[.loc 6,.loc 5],.push,[⟨none,.r1 (fun s a=>AD Try.prog s 89 a),[.loc 4],(.loc 3)⟩]⟩,
  ⟨none,.e (fun s l=>AY Try.prog s [89,89] l),[.loc 3,.loc 2],.push,[]⟩,
  ⟨none,.p1 AE,[.var 0],.push,[]⟩,
  ⟨none,.p1 (fun x=>AB Try.prog 91 x 2),[.loc 0],.push,[]⟩,
  ⟨none,.e (fun s=>on2 (fun a x=>AT (AN Try.prog s 23 a x))),[.loc 0,.loc 4],.push,[]⟩,
  ⟨none,.p1 AE,[.var 0],.push,[]⟩,
  ⟨none,.p1 (fun x=>AB Try.prog 91 x 3),[.loc 0],.push,[]⟩,
  ⟨none,.e (fun s=>on2 (fun a x=>AT (AN Try.prog s 23 a x))),[.loc 0,.loc 6],.push,[]⟩,
  ⟨none,.p1 AE,[.var 0],.push,[]⟩,
  ⟨none,.p1 (fun x=>AB Try.prog 91 x 4),[.loc 0],.push,[]⟩,
  ⟨none,.e (fun s=>on2 (fun a x=>AT (AN Try.prog s 89 a x))),[.loc 0,.loc 8],.push,[]⟩]
def Xq:List AA:=[
  ⟨none,.p1 AE,[.var 0],.push,[]⟩,
  ⟨none,.p1 (fun x=>AB Try.prog 91 x 5),[.loc 0],.push,[]⟩,
  ⟨none,.r1 (fun s a=>AD Try.prog s 23 a),[.loc 0],.push,[]⟩,
  ⟨none,.mk (fun l=>(Ad Try.prog 23 1 (zipIdx [0] l)).bind fun r=>some (r,.slice 1)),[(.const (.int .i64 (0)))],.push,[]⟩,
  ⟨none,.p1 AE,[.var 0],.push,[]⟩,
  ⟨none,.p1 (fun x=>AB Try.prog 91 x 6),[.loc 0],.push,[]⟩,
  ⟨none,.r1 (fun s a=>AD Try.prog s 23 a),[.loc 0],.push,[]⟩,
  ⟨none,.mk (fun l=>(Ad Try.prog 23 1 (zipIdx [0] l)).bind fun r=>some (r,.slice 1)),[(.const (.int .i64 (-1)))],.push,[]⟩,
  ⟨none,.e (fun s l=>AY Try.prog s [23,23] l),[.loc 5,.loc 4],.push,[⟨none,.r1 (fun s a=>AD Try.prog s 23 a),[.loc 3],(.loc 2)⟩]⟩,
  ⟨none,.e (fun s l=>AY Try.prog s [23,23] l),[.loc 2,.loc 1],.push,[]⟩,
  ⟨none,.p1 AE,[.var 0],.push,[]⟩,
  ⟨none,.p1 (fun x=>AB Try.prog 91 x 5),[.loc 0],.push,[]⟩,
  ⟨none,.e (fun s=>on2 (fun a x=>AT (AN Try.prog s 23 a x))),[.loc 0,.loc 3],.push,[]⟩,
  ⟨none,.p1 AE,[.var 0],.push,[]⟩,
  ⟨none,.p1 (fun x=>AB Try.prog 91 x 6),[.loc 0],.push,[]⟩,
  ⟨none,.e (fun s=>on2 (fun a x=>AT (AN Try.prog s 23 a x))),[.loc 0,.loc 5],.push,[]⟩]
def Oc:AX:=(.seq (.seq (.ops Xn) (.cond (.var 3)
  .skip
  (.exit 0))) (.block 1 (.seq (.ops Xo) (.seq (.ops Xp) (.ops Xq)))))
def c46:Ar:=⟨2,4,(.seq (.seq (.ops fA) (.cond (.var 2)
  .ret
  .skip)) (.block 0 (.loop Oc))),[]⟩
def eb:List AA:=[
  ⟨none,.p1 some,[(.const (.ptr none))],(.set 1),[]⟩]
def ee:List AA:=[
  ⟨none,.p (fun l=>Bz Try.prog 91 (zipIdx [14] l)),[(.const (.int .i64 (2000)))],.push,[]⟩,
  ⟨none,.mk (fun l=>match l with | [v]=>CL 91 v | _=>none),[.loc 0],.push,[]⟩,
  ⟨none,.p1 some,[.loc 0],(.set 2),[]⟩]
def eg:List AA:=[
  ⟨none,.p (fun l=>match l with | v::l=>DU true v l | []=>none),[(.var 0),(.const (.int .i64 (0)))],.push,[]⟩,
  ⟨none,.call 46,[.var 2,.loc 0],.push,[]⟩]
def eh:List AA:=[
  ⟨none,.p1 some,[.var 2],(.set 1),[]⟩]
def c40:Ar:=⟨1,3,(.seq (.ops eb) (.seq (.ops ee) (.seq (.ops eg) (.seq (.ops eh) .ret)))),[((.var 1),none)]⟩
def gR:List AA:=[
  ⟨none,.p1 AE,[.var 0],.push,[]⟩,
  ⟨none,.p1 (fun x=>AB Try.prog 91 x 5),[.loc 0],.push,[]⟩,
  ⟨none,.r1 (fun s a=>AD Try.prog s 23 a),[.loc 0],.push,[]⟩,
  ⟨none,.r (fun s l=>match l with | [x]=>Ao Try.prog s 23 x | _=>none),[.loc 0],(.set 2),[]⟩,
  ⟨none,.p1 some,[(.const (.int .i64 (0)))],(.set 3),[]⟩]
def YP:List AA:=[
  ⟨none,.p2 (AI Try.prog .lss 3),[.var 3,.var 2],(.set 4),[]⟩]
def gS:List AA:=[
  ⟨none,.p1 some,[.var 3],(.set 1),[]⟩]
def gT:List AA:=[
  ⟨none,.p1 AE,[.var 0],.push,[]⟩,
  ⟨none,.p1 (fun x=>AB Try.prog 91 x 5),[.loc 0],.push,[]⟩,
  ⟨none,.r1 (fun s a=>AD Try.prog s 23 a),[.loc 0],.push,[]⟩,
  ⟨none,.p2 (AC Try.prog 23),[.loc 0,.var 1],.push,[]⟩,
  ⟨none,.r1 (fun s a=>AD Try.prog s 3 a),[.loc 0],.push,[]⟩,
  ⟨none,.p2 (AI Try.prog .quo 3),[(.loc 0),(.const (.int .i64 (2)))],.push,[]⟩,
  ⟨none,.p2 (AC Try.prog 23),[.loc 3,.var 1],.push,[]⟩,
  ⟨none,.e (fun s=>on2 (fun a x=>AT (AN Try.prog s 3 a x))),[.loc 0,.loc 1],.push,[]⟩]
def gU:List AA:=[
  ⟨none,.p2 (AI Try.prog .add 3),[(.var 3),(.const (.int .i64 (1)))],.push,[]⟩,
  ⟨none,.p1 some,[.loc 0],(.set 3),[]⟩]
def On:AX:=(.seq (.ops YP) (.seq (.cond (.var 4)
  .skip
  (.exit 0)) (.seq (.block 1 (.seq (.ops gS) (.ops gT))) (.ops gU))))
def c68:Ar:=⟨1,5,(.seq (.ops gR) (.block 0 (.loop On))),[]⟩
def gV:List AA:=[
  ⟨none,.mk (fun l=>match l with | [v]=>CL 44 v | _=>none),[.var 0],(.set 1),[]⟩]
def gW:List AA:=[
  ⟨none,.r1 (fun s a=>AD Try.prog s 44 a),[.var 1],.push,[]⟩,
  ⟨none,.p1 AE,[.loc 0],.push,[]⟩,
  ⟨none,.p1 (fun x=>AB Try.prog 91 x 1),[.loc 0],.push,[]⟩,
  ⟨none,.r1 (fun s a=>AD Try.prog s 89 a),[.loc 0],.push,[]⟩,
  ⟨none,.r (fun s l=>match l with | [x]=>Ao Try.prog s 89 x | _=>none),[.loc 0],.push,[]⟩,
  ⟨none,.r1 (fun s a=>AD Try.prog s 44 a),[.var 1],.push,[]⟩,
  ⟨none,.p1 AE,[.loc 0],.push,[]⟩,
  ⟨none,.p1 (fun x=>AB Try.prog 91 x 14),[.loc 0],.push,[]⟩,
  ⟨none,.r1 (fun s a=>AD Try.prog s 3 a),[.loc 0],.push,[]⟩,
  ⟨none,.p2 (AI Try.prog .lss 3),[.loc 4,.loc 0],(.set 3),[]⟩]
def nS:List AA:=[
  ⟨none,.r1 (fun s a=>AD Try.prog s 44 a),[.var 1],.push,[]⟩,
  ⟨none,.p1 AE,[.loc 0],.push,[]⟩,
  ⟨none,.p1 (fun x=>AB Try.prog 91 x 14),[.loc 0],.push,[]⟩,
  ⟨none,.r1 (fun s a=>AD Try.prog s 3 a),[.loc 0],.push,[]⟩,
  ⟨none,.r1 (fun s a=>AD Try.prog s 44 a),[.var 1],.push,[]⟩,
  ⟨none,.p1 AE,[.loc 0],.push,[]⟩,
  ⟨none,.p1 (fun x=>AB Try.prog 91 x 14),[.loc 0],.push,[]⟩,
  ⟨none,.r1 (fun s a=>AD Try.prog s 3 a),[.loc 0],.push,[]⟩,
  ⟨none,.p2 (AI Try.prog .quo 3),[(.loc 0),(.const (.int .i64 (8)))],.push,[]⟩,
  ⟨none,.p2 (AI Try.prog .add 3),[.loc 5,.loc 0],.push,[]⟩,
  ⟨none,.p1 AE,[.loc 9],.push,[]⟩,
  ⟨none,.p1 (fun x=>AB Try.prog 91 x 14),[.loc 0],.push,[]⟩,
  ⟨none,.e (fun s=>on2 (fun a x=>AT (AN Try.prog s 3 a x))),[.loc 0,.loc 2],.push,[]⟩]
def nT:List AA:=[
  ⟨none,.mk (fun l=>match l with | []=>BE Try.prog 3 | _=>none),[],(.set 2),[]⟩,
  ⟨none,.e (fun s=>on2 (fun a x=>AT (AN Try.prog s 3 a x))),[(.var 2),(.const (.int .i64 (0)))],.push,[]⟩]
def nU:List AA:=[
  ⟨none,.r1 (fun s a=>AD Try.prog s 44 a),[.var 1],.push,[]⟩,
  ⟨none,.r1 (fun s a=>AD Try.prog s 44 a),[.var 1],.push,[]⟩,
  ⟨none,.p1 AE,[.loc 0],.push,[]⟩,
  ⟨none,.p1 (fun x=>AB Try.prog 91 x 1),[.loc 0],.push,[]⟩,
  ⟨none,.r1 (fun s a=>AD Try.prog s 89 a),[.loc 0],.push,[]⟩,
  ⟨none,.p (fun l=>some (.func 97 (l.take 0) (l.drop 0))),[.var 1,.var 2],.push,[]⟩,
  ⟨none,.call 96,[.loc 1,.loc 0],.push,[⟨none,.r1 (fun s a=>AD Try.prog s 44 a),[.var 1],(.loc 6)⟩]⟩,
  ⟨none,.p1 AE,[.loc 6],.push,[]⟩,
  ⟨none,.p1 (fun x=>AB Try.prog 91 x 1),[.loc 0],.push,[]⟩,
  ⟨none,.e (fun s=>on2 (fun a x=>AT (AN Try.prog s 89 a x))),[.loc 0,.loc 2],.push,[]⟩]
def c69:Ar:=⟨1,4,(.seq (.ops gV) (.seq (.seq (.ops gW) (.cond (.var 3)
  .ret
  .skip)) (.seq (.ops nS) (.seq (.ops nT) (.ops nU))))),[]⟩
def gX:List AA:=[
  ⟨none,.mk (fun l=>match l with | [v]=>CL 44 v | _=>none),[.var 0],(.set 1),[]⟩,
  ⟨none,.p1 some,[(.const (.int .i64 (0)))],(.set 2),[]⟩]
def gY:List AA:=[
  ⟨none,.mk (fun l=>match l with | []=>BE Try.prog 3 | _=>none),[],(.set 3),[]⟩,
  ⟨none,.e (fun s=>on2 (fun a x=>AT (AN Try.prog s 3 a x))),[(.var 3),(.const (.int .i64 (0)))],.push,[]⟩]
def gZ:List AA:=[
  ⟨none,.p (fun l=>some (.func 99 (l.take 0) (l.drop 0))),[.var 3,.var 1],.push,[]⟩,
  ⟨none,.p1 some,[.loc 0],(.set 4),[]⟩]
def gc:List AA:=[
  ⟨none,.p1 some,[(.const (.int .i64 (1)))],(.set 5),[]⟩]
def Tc:List AA:=[
  ⟨none,.r1 (fun s a=>AD Try.prog s 44 a),[.var 1],.push,[]⟩,
  ⟨none,.p1 AE,[.loc 0],.push,[]⟩,
  ⟨none,.p1 (fun x=>AB Try.prog 91 x 2),[.loc 0],.push,[]⟩,
  ⟨none,.r1 (fun s a=>AD Try.prog s 23 a),[.loc 0],.push,[]⟩,
  ⟨none,.r (fun s l=>match l with | [x]=>Ao Try.prog s 23 x | _=>none),[.loc 0],.push,[]⟩,
  ⟨none,.p2 (AI Try.prog .lss 3),[.var 5,.loc 0],(.set 6),[]⟩]
def YQ:List AA:=[
  ⟨none,.r1 (fun s a=>AD Try.prog s 44 a),[.var 1],.push,[]⟩,
  ⟨none,.p1 AE,[.loc 0],.push,[]⟩,
  ⟨none,.p1 (fun x=>AB Try.prog 91 x 2),[.loc 0],.push,[]⟩,
  ⟨none,.r1 (fun s a=>AD Try.prog s 23 a),[.loc 0],.push,[]⟩,
  ⟨none,.p2 (AC Try.prog 23),[.loc 0,.var 5],.push,[]⟩,
  ⟨none,.r1 (fun s a=>AD Try.prog s 3 a),[.loc 0],.push,[]⟩,
  ⟨none,.p2 (AI Try.prog .eql 3),[(.loc 0),(.const (.int .i64 (0)))],.push,[]⟩,
  ⟨(some ((.loc 0),true)),.p1 some,[.var 4],.push,[]⟩,
  ⟨(some ((.loc 1),true)),.p1 some,[.var 5],.push,[]⟩,
  ⟨(some ((.loc 2),true)),.callv,[.loc 1,.loc 0],.push,[]⟩,
  ⟨none,.p Rn,[(.loc 3),(.loc 0),(.const (.bool false))],(.set 7),[]⟩]
def ge:List AA:=[
  ⟨none,.e (fun s=>on2 (fun a x=>AT (AN Try.prog s 3 a x))),[.var 3,.var 5],.push,[]⟩]
def Td:List AA:=[
  ⟨none,.p1 some,[.var 5],.push,[]⟩,
  ⟨none,.p2 (AI Try.prog .add 3),[(.loc 0),(.const (.int .i64 (1)))],.push,[]⟩,
  ⟨none,.p1 some,[.loc 0],(.set 5),[]⟩]
def MY:AX:=(.seq (.seq (.ops Tc) (.cond (.var 6)
  .skip
  (.exit 0))) (.seq (.block 1 (.seq (.ops YQ) (.cond (.var 7)
  (.ops ge)
  .skip))) (.ops Td)))
def gf:List AA:=[
  ⟨none,.r1 (fun s a=>AD Try.prog s 3 a),[.var 3],.push,[]⟩,
  ⟨none,.p1 some,[.loc 0],(.set 2),[]⟩]
def c70:Ar:=⟨1,8,(.seq (.ops gX) (.seq (.ops gY) (.seq (.ops gZ) (.seq (.seq (.ops gc) (.block 0 (.loop MY))) (.seq (.ops gf) .ret))))),[((.var 2),none)]⟩
def Y8:List AA:=[
  ⟨none,.p1 some,[(.const (.bool false))],(.set 3),[]⟩]
def Y9:List AA:=[
  ⟨none,.r1 (fun s a=>AD Try.prog s 3 a),[.var 1],.push,[]⟩,
  ⟨none,.p2 (AI Try.prog .eql 3),[(.loc 0),(.const (.int .i64 (0)))],.push,[]⟩,
  ⟨(some ((.loc 0),false)),.r1 (fun s a=>AD Try.prog s 44 a),[.var 2],.push,[]⟩,
  ⟨(some ((.loc 1),false)),.p1 AE,[.loc 0],.push,[]⟩,
  ⟨(some ((.loc 2),false)),.p1 (fun x=>AB Try.prog 91 x 5),[.loc 0],.push,[]⟩,
  ⟨(some ((.loc 3),false)),.r1 (fun s a=>AD Try.prog s 23 a),[.loc 0],.push,[]⟩,
  ⟨(some ((.loc 4),false)),.p1 some,[.var 0],.push,[]⟩,
  ⟨(some ((.loc 5),false)),.p2 (AC Try.prog 23),[.loc 1,.loc 0],.push,[]⟩,
  ⟨(some ((.loc 6),false)),.r1 (fun s a=>AD Try.prog s 3 a),[.loc 0],.push,[]⟩,
  ⟨(some ((.loc 7),false)),.r1 (fun s a=>AD Try.prog s 44 a),[.var 2],.push,[]⟩,
  ⟨(some ((.loc 8),false)),.p1 AE,[.loc 0],.push,[]⟩,
  ⟨(some ((.loc 9),false)),.p1 (fun x=>AB Try.prog 91 x 5),[.loc 0],.push,[]⟩,
  ⟨(some ((.loc 10),false)),.r1 (fun s a=>AD Try.prog s 23 a),[.loc 0],.push,[]⟩,
  ⟨(some ((.loc 11),false)),.r1 (fun s a=>AD Try.prog s 3 a),[.var 1],.push,[]⟩,
  ⟨(some ((.loc 12),false)),.p2 (AC Try.prog 23),[.loc 1,.loc 0],.push,[]⟩,
  ⟨(some ((.loc 13),false)),.r1 (fun s a=>AD Try.prog s 3 a),[.loc 0],.push,[]⟩,
  ⟨(some ((.loc 14),false)),.p2 (AI Try.prog .gtr 3),[.loc 7,.loc 0],.push,[]⟩,
  ⟨none,.p Rn,[(.loc 15),(.const (.bool true)),(.loc 0)],.push,[]⟩,
  ⟨none,.p1 some,[.loc 0],(.set 3),[]⟩]
def c99:Ar:=⟨3,4,(.seq (.ops Y8) (.seq (.ops Y9) .ret)),[((.var 3),none)]⟩
def gj:List AA:=[
  ⟨none,.p1 some,[(.const (.bool false))],(.set 2),[]⟩]
def gk:List AA:=[
  ⟨none,.call 94,[.var 0,.var 1],.push,[]⟩,
  ⟨none,.p2 (AI Try.prog .geq 3),[(.loc 0),(.const (.int .i64 (0)))],.push,[]⟩,
  ⟨none,.p1 some,[.loc 0],(.set 2),[]⟩]
def c72:Ar:=⟨2,3,(.seq (.ops gj) (.seq (.ops gk) .ret)),[((.var 2),none)]⟩
def YR:List AA:=[
  ⟨none,.p1 some,[(.const (.bool false))],(.set 2),[]⟩]
def YS:List AA:=[
  ⟨none,.p2 (AI Try.prog .eql 3),[(.var 0),(.const (.int .i64 (0)))],.push,[]⟩,
  ⟨(some ((.loc 0),false)),.p1 some,[.var 0],.push,[]⟩,
  ⟨(some ((.loc 1),false)),.r1 (fun s a=>AD Try.prog s 44 a),[.var 1],.push,[]⟩,
  ⟨(some ((.loc 2),false)),.call 47,[.loc 0],.push,[]⟩,
  ⟨(some ((.loc 3),false)),.p1 (unA Try.prog Go.UnOp.neg),[.loc 0],.push,[]⟩,
  ⟨(some ((.loc 4),false)),.p2 (AI Try.prog .lss 3),[.loc 3,.loc 0],.push,[]⟩,
  ⟨none,.p Rn,[(.loc 5),(.const (.bool true)),(.loc 0)],.push,[]⟩,
  ⟨(some ((.loc 0),false)),.p1 some,[.var 0],.push,[]⟩,
  ⟨(some ((.loc 1),false)),.r1 (fun s a=>AD Try.prog s 44 a),[.var 1],.push,[]⟩,
  ⟨(some ((.loc 2),false)),.call 47,[.loc 0],.push,[]⟩,
  ⟨(some ((.loc 3),false)),.p2 (AI Try.prog .gtr 3),[.loc 2,.loc 0],.push,[]⟩,
  ⟨none,.p Rn,[(.loc 4),(.const (.bool true)),(.loc 0)],.push,[]⟩,
  ⟨none,.p1 some,[.loc 0],(.set 2),[]⟩]
def c73:Ar:=⟨2,3,(.seq (.ops YR) (.seq (.ops YS) .ret)),[((.var 2),none)]⟩
def Vv:List AA:=[
  ⟨none,.p1 some,[(.const (.bool false))],(.set 2),[]⟩]
def Vw:List AA:=[
  ⟨none,.r1 (fun s a=>AD Try.prog s 23 a),[.var 1],.push,[]⟩,
  ⟨none,.p1 (unA Try.prog Go.UnOp.neg),[.var 0],.push,[]⟩,
  ⟨none,.call 101,[.loc 1,.loc 0],.push,[]⟩,
  ⟨none,.p1 some,[.loc 0],(.set 2),[]⟩]
def mP:Ar:=⟨2,3,(.seq (.ops Vv) (.seq (.ops Vw) .ret)),[((.var 2),none)]⟩
def Vx:List AA:=[
  ⟨none,.p1 some,[(.const (.bool false))],(.set 2),[]⟩]
def Vy:List AA:=[
  ⟨none,.call 113,[.var 0,.var 1],.push,[]⟩,
  ⟨none,.p2 (AI Try.prog .geq 3),[(.loc 0),(.const (.int .i64 (0)))],.push,[]⟩,
  ⟨none,.p1 some,[.loc 0],(.set 2),[]⟩]
def mQ:Ar:=⟨2,3,(.seq (.ops Vx) (.seq (.ops Vy) .ret)),[((.var 2),none)]⟩
def Wc:List AA:=[
  ⟨none,.p1 some,[(.const (.int .i64 (0)))],(.set 2),[]⟩]
def Wd:List AA:=[
  ⟨none,.r (fun s l=>match l with | [x]=>Ao Try.prog s 23 x | _=>none),[.var 0],(.set 4),[]⟩,
  ⟨none,.p1 some,[(.const (.int .i64 (0)))],(.set 5),[]⟩]
def NV:List AA:=[
  ⟨none,.p2 (AI Try.prog .lss 3),[.var 5,.var 4],(.set 6),[]⟩]
def QQ:List AA:=[
  ⟨none,.p1 some,[.var 5],(.set 3),[]⟩]
def QR:List AA:=[
  ⟨none,.p2 (AC Try.prog 23),[.var 0,.var 3],.push,[]⟩,
  ⟨none,.r1 (fun s a=>AD Try.prog s 3 a),[.loc 0],.push,[]⟩,
  ⟨none,.p2 (AI Try.prog .eql 3),[.var 1,.loc 0],(.set 7),[]⟩]
def We:List AA:=[
  ⟨none,.p1 some,[.var 3],(.set 2),[]⟩]
def Wf:List AA:=[
  ⟨none,.p2 (AI Try.prog .add 3),[(.var 5),(.const (.int .i64 (1)))],.push,[]⟩,
  ⟨none,.p1 some,[.loc 0],(.set 5),[]⟩]
def I0:AX:=(.seq (.ops NV) (.seq (.cond (.var 6)
  .skip
  (.exit 0)) (.seq (.block 1 (.seq (.ops QQ) (.seq (.ops QR) (.cond (.var 7)
  (.seq (.ops We) .ret)
  .skip)))) (.ops Wf))))
def Wg:List AA:=[
  ⟨none,.p1 some,[(.const (.int .i64 (-1)))],(.set 2),[]⟩]
def mX:Ar:=⟨2,8,(.seq (.ops Wc) (.seq (.seq (.ops Wd) (.block 0 (.loop I0))) (.seq (.ops Wg) .ret))),[((.var 2),none)]⟩
def gl:List AA:=[
  ⟨none,.p1 some,[(.const (.slice none 0 (some 0)))],(.set 1),[]⟩,
  ⟨none,.p1 some,[(.const (.bool false))],(.set 2),[]⟩]
def gm:List AA:=[
  ⟨none,.call 60,[.var 0],.push,[]⟩,
  ⟨none,.mk (fun l=>match l with | []=>BE Try.prog 23 | _=>none),[],(.set 3),[]⟩,
  ⟨none,.e (fun s=>on2 (fun a x=>AT (AN Try.prog s 23 a x))),[.var 3,.loc 0],.push,[]⟩]
def gn:List AA:=[
  ⟨none,.r1 (fun s a=>AD Try.prog s 23 a),[.var 3],.push,[]⟩,
  ⟨none,.call 87,[.loc 0],.push,[]⟩]
def gp:List AA:=[
  ⟨none,.r1 (fun s a=>AD Try.prog s 23 a),[.var 3],.push,[]⟩,
  ⟨none,.call 88,[.loc 0],.push,[]⟩,
  ⟨none,.e (fun s=>on2 (fun a x=>AT (AN Try.prog s 23 a x))),[.var 3,.loc 0],.push,[]⟩]
def gq:List AA:=[
  ⟨none,.r1 (fun s a=>AD Try.prog s 23 a),[.var 3],.push,[]⟩,
  ⟨none,.r1 (fun s a=>AD Try.prog s 23 a),[.var 3],.push,[]⟩,
  ⟨none,.p (fun l=>some (.func 100 (l.take 0) (l.drop 0))),[.var 3],.push,[]⟩,
  ⟨none,.call 72,[.loc 1,.loc 0],.push,[⟨none,.r1 (fun s a=>AD Try.prog s 23 a),[.var 3],(.loc 3)⟩]⟩,
  ⟨none,.p1 (unA Try.prog Go.UnOp.not),[.loc 0],.push,[]⟩,
  ⟨none,.p1 some,[.loc 4],(.set 1),[]⟩,
  ⟨none,.p1 some,[.loc 0],(.set 2),[]⟩]
def c74:Ar:=⟨1,4,(.seq (.ops gl) (.seq (.ops gm) (.seq (.ops gn) (.seq (.ops gp) (.seq (.ops gq) .ret))))),[((.var 1),none),((.var 2),none)]⟩
def gr:List AA:=[
  ⟨none,.r (fun s l=>match l with | [x]=>Ao Try.prog s 23 x | _=>none),[.var 0],.push,[]⟩,
  ⟨none,.call 102,[.var 0,.loc 0,.var 1],.push,[]⟩]
def c75:Ar:=⟨2,2,(.ops gr),[]⟩
def gt:List AA:=[
  ⟨none,.p1 some,[(.const (.int .i64 (0)))],(.set 3),[]⟩]
def gu:List AA:=[
  ⟨none,.r1 (fun s a=>AD Try.prog s 44 a),[.var 2],.push,[]⟩,
  ⟨none,.r1 (fun s a=>AD Try.prog s 44 a),[.var 2],.push,[]⟩,
  ⟨none,.call 77,[.loc 1,.var 1],.push,[⟨none,.r1 (fun s a=>AD Try.prog s 44 a),[.var 2],(.loc 1)⟩]⟩,
  ⟨none,.call 77,[.loc 1,.var 0],.push,[]⟩,
  ⟨none,.p2 (AI Try.prog .sub 3),[.loc 1,.loc 0],.push,[]⟩,
  ⟨none,.p1 some,[.loc 0],(.set 3),[]⟩]
def c76:Ar:=⟨3,4,(.seq (.ops gt) (.seq (.ops gu) .ret)),[((.var 3),none)]⟩
def V2:List AA:=[
  ⟨none,.p1 some,[(.const (.int .i64 (20)))],(.set 3),[]⟩]
def V3:List AA:=[
  ⟨none,.p1 some,[(.const (.int .i64 (0)))],(.set 4),[]⟩,
  ⟨none,.p1 some,[.var 3],(.set 5),[]⟩]
def V4:List AA:=[
  ⟨none,.p2 (AI Try.prog .leq 3),[.var 5,.var 1],(.set 7),[]⟩]
def jH:List AA:=[
  ⟨none,.call 114,[.var 0,.var 4,.var 5,.var 2],.push,[]⟩]
def jI:List AA:=[
  ⟨none,.p1 some,[.var 5],(.set 4),[]⟩]
def jJ:List AA:=[
  ⟨none,.p1 some,[.var 5],.push,[]⟩,
  ⟨none,.p2 (AI Try.prog .add 3),[.loc 0,.var 3],.push,[]⟩,
  ⟨none,.p1 some,[.loc 0],(.set 5),[]⟩]
def Vz:AX:=(.seq (.seq (.ops V4) (.cond (.var 7)
  .skip
  (.exit 0))) (.block 1 (.seq (.ops jH) (.seq (.ops jI) (.ops jJ)))))
def V5:List AA:=[
  ⟨none,.call 114,[.var 0,.var 4,.var 1,.var 2],.push,[]⟩]
def V6:List AA:=[
  ⟨none,.p2 (AI Try.prog .lss 3),[.var 3,.var 1],(.set 8),[]⟩]
def jK:List AA:=[
  ⟨none,.p2 (AI Try.prog .mul 3),[(.const (.int .i64 (2))),(.var 3)],.push,[]⟩,
  ⟨none,.p1 some,[(.const (.int .i64 (0)))],(.set 4),[]⟩,
  ⟨none,.p1 some,[.loc 0],(.set 5),[]⟩]
def bH:List AA:=[
  ⟨none,.p2 (AI Try.prog .leq 3),[.var 5,.var 1],(.set 9),[]⟩]
def bI:List AA:=[
  ⟨none,.p2 (AI Try.prog .add 3),[.var 4,.var 3],.push,[]⟩,
  ⟨none,.call 115,[.var 0,.var 4,.loc 0,.var 5,.var 2],.push,[]⟩]
def bJ:List AA:=[
  ⟨none,.p1 some,[.var 5],(.set 4),[]⟩]
def bK:List AA:=[
  ⟨none,.p1 some,[.var 5],.push,[]⟩,
  ⟨none,.p2 (AI Try.prog .mul 3),[(.const (.int .i64 (2))),(.var 3)],.push,[]⟩,
  ⟨none,.p2 (AI Try.prog .add 3),[.loc 1,.loc 0],.push,[]⟩,
  ⟨none,.p1 some,[.loc 0],(.set 5),[]⟩]
def bG:AX:=(.seq (.seq (.ops bH) (.cond (.var 9)
  .skip
  (.exit 4))) (.block 5 (.seq (.ops bI) (.seq (.ops bJ) (.ops bK)))))
def bL:List AA:=[
  ⟨none,.p2 (AI Try.prog .add 3),[.var 4,.var 3],.push,[]⟩,
  ⟨none,.p1 some,[.loc 0],(.set 6),[]⟩]
def bM:List AA:=[
  ⟨none,.p2 (AI Try.prog .lss 3),[.var 6,.var 1],(.set 10),[]⟩]
def bN:List AA:=[
  ⟨none,.call 115,[.var 0,.var 4,.var 6,.var 1,.var 2],.push,[]⟩]
def bO:List AA:=[
  ⟨none,.p1 some,[.var 3],.push,[]⟩,
  ⟨none,.p2 (AI Try.prog .mul 3),[(.loc 0),(.const (.int .i64 (2)))],.push,[]⟩,
  ⟨none,.p1 some,[.loc 0],(.set 3),[]⟩]
def TS:AX:=(.seq (.seq (.ops V6) (.cond (.var 8)
  .skip
  (.exit 2))) (.block 3 (.seq (.ops jK) (.seq (.block 4 (.loop bG)) (.seq (.seq (.ops bL) (.seq (.ops bM) (.cond (.var 10)
  (.ops bN)
  .skip))) (.ops bO))))))
def mR:Ar:=⟨3,11,(.seq (.ops V2) (.seq (.ops V3) (.seq (.block 0 (.loop Vz)) (.seq (.ops V5) (.block 2 (.loop TS)))))),[]⟩
def QS:List AA:=[
  ⟨none,.p2 (AI Try.prog .add 3),[(.var 1),(.const (.int .i64 (1)))],.push,[]⟩,
  ⟨none,.p1 some,[.loc 0],(.set 4),[]⟩]
def Ka:List AA:=[
  ⟨none,.p2 (AI Try.prog .lss 3),[.var 4,.var 2],(.set 6),[]⟩]
def Wh:List AA:=[
  ⟨none,.p1 some,[.var 4],(.set 5),[]⟩]
def QT:List AA:=[
  ⟨none,.p2 (AI Try.prog .gtr 3),[.var 5,.var 1],.push,[]⟩,
  ⟨(some ((.loc 0),true)),.p1 some,[.var 3],.push,[]⟩,
  ⟨(some ((.loc 1),true)),.p1 some,[.var 0],.push,[]⟩,
  ⟨(some ((.loc 2),true)),.p1 some,[.var 5],.push,[]⟩,
  ⟨(some ((.loc 3),true)),.p2 (AC Try.prog 23),[.loc 1,.loc 0],.push,[]⟩,
  ⟨(some ((.loc 4),true)),.r1 (fun s a=>AD Try.prog s 3 a),[.loc 0],.push,[]⟩,
  ⟨(some ((.loc 5),true)),.p1 some,[.var 0],.push,[]⟩,
  ⟨(some ((.loc 6),true)),.p1 some,[.var 5],.push,[]⟩,
  ⟨(some ((.loc 7),true)),.p2 (AI Try.prog .sub 3),[(.loc 0),(.const (.int .i64 (1)))],.push,[]⟩,
  ⟨(some ((.loc 8),true)),.p2 (AC Try.prog 23),[.loc 2,.loc 0],.push,[]⟩,
  ⟨(some ((.loc 9),true)),.r1 (fun s a=>AD Try.prog s 3 a),[.loc 0],.push,[]⟩,
  ⟨(some ((.loc 10),true)),.callv,[.loc 9,.loc 5,.loc 0],.push,[]⟩,
  ⟨(some ((.loc 11),true)),.p2 (AI Try.prog .lss 3),[(.loc 0),(.const (.int .i64 (0)))],.push,[]⟩,
  ⟨none,.p Rn,[(.loc 12),(.loc 0),(.const (.bool false))],(.set 7),[]⟩]
def Wi:List AA:=[
  ⟨none,.p2 (AI Try.prog .sub 3),[(.var 5),(.const (.int .i64 (1)))],.push,[]⟩,
  ⟨none,.p2 (AI Try.prog .sub 3),[(.var 5),(.const (.int .i64 (1)))],.push,[]⟩,
  ⟨none,.p2 (AC Try.prog 23),[.var 0,.loc 0],.push,[]⟩,
  ⟨none,.r1 (fun s a=>AD Try.prog s 3 a),[.loc 0],.push,[]⟩,
  ⟨none,.p2 (AC Try.prog 23),[.var 0,.var 5],.push,[]⟩,
  ⟨none,.r1 (fun s a=>AD Try.prog s 3 a),[.loc 0],.push,[]⟩,
  ⟨none,.p2 (AC Try.prog 23),[.var 0,.var 5],.push,[]⟩,
  ⟨none,.e (fun s=>on2 (fun a x=>AT (AN Try.prog s 3 a x))),[.loc 0,.loc 3],.push,[]⟩,
  ⟨none,.p2 (AC Try.prog 23),[.var 0,.loc 7],.push,[]⟩,
  ⟨none,.e (fun s=>on2 (fun a x=>AT (AN Try.prog s 3 a x))),[.loc 0,.loc 3],.push,[]⟩]
def Wj:List AA:=[
  ⟨none,.p1 some,[.var 5],.push,[]⟩,
  ⟨none,.p2 (AI Try.prog .sub 3),[(.loc 0),(.const (.int .i64 (1)))],.push,[]⟩,
  ⟨none,.p1 some,[.loc 0],(.set 5),[]⟩]
def KZ:AX:=(.seq (.seq (.ops QT) (.cond (.var 7)
  .skip
  (.exit 2))) (.seq (.block 3 (.ops Wi)) (.ops Wj)))
def Wk:List AA:=[
  ⟨none,.p1 some,[.var 4],.push,[]⟩,
  ⟨none,.p2 (AI Try.prog .add 3),[(.loc 0),(.const (.int .i64 (1)))],.push,[]⟩,
  ⟨none,.p1 some,[.loc 0],(.set 4),[]⟩]
def Hf:AX:=(.seq (.seq (.ops Ka) (.cond (.var 6)
  .skip
  (.exit 0))) (.seq (.block 1 (.seq (.ops Wh) (.block 2 (.loop KZ)))) (.ops Wk)))
def jU:Ar:=⟨4,8,(.seq (.ops QS) (.block 0 (.loop Hf))),[]⟩
def eU:List AA:=[
  ⟨none,.mk (fun l=>match l with | [v]=>CL 44 v | _=>none),[.var 0],(.set 2),[]⟩,
  ⟨none,.p1 some,[(.const (.int .i64 (0)))],(.set 3),[]⟩]
def eV:List AA:=[
  ⟨none,.r1 (fun s a=>AD Try.prog s 44 a),[.var 2],.push,[]⟩,
  ⟨none,.p2 (AI Try.prog .eql 44),[(.loc 0),(.const (.ptr none))],.push,[]⟩,
  ⟨none,.p1 some,[.loc 0],(.set 7),[]⟩]
def mu:List AA:=[
  ⟨none,.p1 some,[(.const (.int .i64 (1)))],(.set 3),[]⟩]
def eW:List AA:=[
  ⟨none,.p (fun l=>some (.func 73 (l.take 0) (l.drop 0))),[.var 2],.push,[]⟩,
  ⟨none,.call 72,[.var 1,.loc 0],.push,[]⟩,
  ⟨none,.p1 some,[.loc 0],(.set 8),[]⟩]
def mw:List AA:=[
  ⟨none,.p1 some,[(.const (.int .i64 (2)))],(.set 3),[]⟩]
def eX:List AA:=[
  ⟨none,.r1 (fun s a=>AD Try.prog s 44 a),[.var 2],.push,[]⟩,
  ⟨none,.call 63,[(.loc 0),(.const (.int .i64 (0)))],.push,[]⟩]
def eY:List AA:=[
  ⟨none,.call 74,[.var 1],.push,[]⟩,
  ⟨none,.p1 (fun x=>Rp x 0),[.loc 0],.push,[]⟩,
  ⟨none,.p1 (fun x=>Rp x 1),[.loc 1],.push,[]⟩,
  ⟨none,.p1 some,[.loc 1],(.set 4),[]⟩,
  ⟨none,.p1 some,[.loc 0],(.set 5),[]⟩]
def TX:List AA:=[
  ⟨none,.p1 (unA Try.prog Go.UnOp.not),[.var 5],.push,[]⟩,
  ⟨(some ((.loc 0),false)),.r1 (fun s a=>AD Try.prog s 44 a),[.var 2],.push,[]⟩,
  ⟨(some ((.loc 1),false)),.p1 AE,[.loc 0],.push,[]⟩,
  ⟨(some ((.loc 2),false)),.p1 (fun x=>AB Try.prog 91 x 10),[.loc 0],.push,[]⟩,
  ⟨(some ((.loc 3),false)),.r1 (fun s a=>AD Try.prog s 4 a),[.loc 0],.push,[]⟩,
  ⟨none,.p Rn,[(.loc 4),(.const (.bool true)),(.loc 0)],(.set 9),[]⟩]
def Xk:List AA:=[
  ⟨none,.p1 some,[(.const (.int .i64 (0)))],(.set 3),[]⟩]
def eZ:List AA:=[
  ⟨none,.p (fun l=>some (.func 76 (l.take 0) (l.drop 0))),[.var 2],.push,[]⟩,
  ⟨none,.call 75,[.var 4,.loc 0],.push,[]⟩]
def RF:List AA:=[
  ⟨none,.p (fun l=>Bz Try.prog 104 (zipIdx [0] l)),[.var 4],.push,[]⟩,
  ⟨none,.mk (fun l=>match l with | [v]=>CL 104 v | _=>none),[.loc 0],.push,[]⟩,
  ⟨none,.p1 some,[.loc 0],(.set 6),[]⟩]
def Kg:List AA:=[
  ⟨none,.r (fun s l=>match l with | [x]=>Ao Try.prog s 23 x | _=>none),[.var 4],.push,[]⟩,
  ⟨none,.p2 (AI Try.prog .gtr 3),[(.loc 0),(.const (.int .i64 (1)))],(.set 10),[]⟩]
def RG:List AA:=[
  ⟨none,.r1 (fun s a=>AD Try.prog s 44 a),[.var 2],.push,[]⟩,
  ⟨none,.call 78,[.loc 0,.var 6],.push,[]⟩]
def Kh:List AA:=[
  ⟨none,.r (fun s l=>match l with | [x]=>Ao Try.prog s 23 x | _=>none),[.var 4],.push,[]⟩,
  ⟨none,.p2 (AI Try.prog .eql 3),[(.loc 0),(.const (.int .i64 (0)))],.push,[]⟩,
  ⟨(some ((.loc 0),false)),.r1 (fun s a=>AD Try.prog s 44 a),[.var 2],.push,[]⟩,
  ⟨(some ((.loc 1),false)),.p1 some,[.var 4],.push,[]⟩,
  ⟨(some ((.loc 2),false)),.p2 (AC Try.prog 23),[(.loc 0),(.const (.int .i64 (0)))],.push,[]⟩,
  ⟨(some ((.loc 3),false)),.r1 (fun s a=>AD Try.prog s 3 a),[.loc 0],.push,[]⟩,
  ⟨(some ((.loc 4),false)),.call 77,[.loc 3,.loc 0],.push,[]⟩,
  ⟨(some ((.loc 5),false)),.p2 (AI Try.prog .lss 3),[(.loc 0),(.const (.int .i64 (0)))],.push,[]⟩,
  ⟨none,.p Rn,[(.loc 6),(.const (.bool true)),(.loc 0)],.push,[]⟩,
  ⟨none,.p1 some,[.loc 0],(.set 11),[]⟩]
def Ki:List AA:=[
  ⟨none,.r1 (fun s a=>AD Try.prog s 44 a),[.var 2],.push,[]⟩,
  ⟨none,.call 65,[.loc 0],.push,[]⟩]
def Nc:List AA:=[
  ⟨none,.r1 (fun s a=>AD Try.prog s 44 a),[.var 2],.push,[]⟩,
  ⟨none,.p2 (AC Try.prog 23),[(.var 4),(.const (.int .i64 (0)))],.push,[]⟩,
  ⟨none,.r1 (fun s a=>AD Try.prog s 3 a),[.loc 0],.push,[]⟩,
  ⟨none,.call 77,[.loc 2,.loc 0],.push,[]⟩,
  ⟨none,.p2 (AI Try.prog .eql 3),[(.loc 0),(.const (.int .i64 (0)))],.push,[]⟩,
  ⟨(some ((.loc 0),true)),.p1 some,[.var 4],.push,[]⟩,
  ⟨(some ((.loc 1),true)),.r (fun s l=>match l with | [x]=>Ao Try.prog s 23 x | _=>none),[.loc 0],.push,[]⟩,
  ⟨(some ((.loc 2),true)),.p2 (AI Try.prog .eql 3),[(.loc 0),(.const (.int .i64 (1)))],.push,[]⟩,
  ⟨(some ((.loc 3),true)),.p1 some,[.loc 0],.push,[]⟩,
  ⟨(some ((.loc 0),false)),.r1 (fun s a=>AD Try.prog s 44 a),[.var 2],.push,[]⟩,
  ⟨(some ((.loc 1),false)),.p1 some,[.var 4],.push,[]⟩,
  ⟨(some ((.loc 2),false)),.p2 (AC Try.prog 23),[(.loc 0),(.const (.int .i64 (1)))],.push,[]⟩,
  ⟨(some ((.loc 3),false)),.r1 (fun s a=>AD Try.prog s 3 a),[.loc 0],.push,[]⟩,
  ⟨(some ((.loc 4),false)),.call 77,[.loc 3,.loc 0],.push,[]⟩,
  ⟨(some ((.loc 5),false)),.p2 (AI Try.prog .lss 3),[(.loc 0),(.const (.int .i64 (0)))],.push,[]⟩,
  ⟨(some ((.loc 10),true)),.p Rn,[(.loc 6),(.const (.bool true)),(.loc 0)],.push,[]⟩,
  ⟨none,.p Rn,[(.loc 11),(.loc 0),(.const (.bool false))],.push,[]⟩,
  ⟨none,.p1 some,[.loc 0],(.set 12),[]⟩]
def Kj:List AA:=[
  ⟨none,.r1 (fun s a=>AD Try.prog s 44 a),[.var 2],.push,[]⟩,
  ⟨none,.p2 (AC Try.prog 23),[(.var 4),(.const (.int .i64 (0)))],.push,[]⟩,
  ⟨none,.r1 (fun s a=>AD Try.prog s 3 a),[.loc 0],.push,[]⟩,
  ⟨none,.call 71,[.loc 2,.loc 0,.var 6],.push,[]⟩]
def Fy:List AA:=[
  ⟨none,.p1 some,[(.const (.int .i64 (0)))],(.set 3),[]⟩]
def c36:Ar:=⟨2,13,(.seq (.ops eU) (.seq (.block 0 (.seq (.ops eV) (.cond (.var 7)
  (.seq (.ops mu) .ret)
  (.seq (.ops eW) (.cond (.var 8)
  (.seq (.ops mw) .ret)
  .skip))))) (.seq (.ops eX) (.seq (.ops eY) (.seq (.seq (.ops TX) (.cond (.var 9)
  (.seq (.ops Xk) .ret)
  .skip)) (.seq (.ops eZ) (.seq (.ops RF) (.seq (.seq (.ops Kg) (.cond (.var 10)
  (.ops RG)
  .skip)) (.seq (.block 1 (.seq (.ops Kh) (.cond (.var 11)
  (.ops Ki)
  (.seq (.ops Nc) (.cond (.var 12)
  (.ops Kj)
  .skip))))) (.seq (.ops Fy) .ret)))))))))),[((.var 3),none)]⟩
def WS:List AA:=[
  ⟨none,.p1 some,[(.const (.bool false))],(.set 2),[]⟩]
def WT:List AA:=[
  ⟨none,.p1 some,[(.const (.int .i64 (2)))],(.set 3),[]⟩]
def QM:List AA:=[
  ⟨none,.p1 AE,[.var 1],.push,[]⟩,
  ⟨none,.p1 (fun x=>AB Try.prog 104 x 0),[.loc 0],.push,[]⟩,
  ⟨none,.r1 (fun s a=>AD Try.prog s 23 a),[.loc 0],.push,[]⟩,
  ⟨none,.r (fun s l=>match l with | [x]=>Ao Try.prog s 23 x | _=>none),[.loc 0],.push,[]⟩,
  ⟨none,.p2 (AI Try.prog .lss 3),[.var 3,.loc 0],(.set 4),[]⟩]
def WU:List AA:=[
  ⟨none,.p1 AE,[.var 1],.push,[]⟩,
  ⟨none,.p1 (fun x=>AB Try.prog 104 x 0),[.loc 0],.push,[]⟩,
  ⟨none,.r1 (fun s a=>AD Try.prog s 23 a),[.loc 0],.push,[]⟩,
  ⟨none,.p2 (AC Try.prog 23),[.loc 0,.var 3],.push,[]⟩,
  ⟨none,.r1 (fun s a=>AD Try.prog s 3 a),[.loc 0],.push,[]⟩,
  ⟨none,.call 77,[.var 0,.loc 0],.push,[]⟩,
  ⟨none,.p2 (AI Try.prog .geq 3),[(.loc 0),(.const (.int .i64 (0)))],(.set 5),[]⟩]
def WV:List AA:=[
  ⟨none,.p1 AE,[.var 1],.push,[]⟩,
  ⟨none,.p1 (fun x=>AB Try.prog 104 x 0),[.loc 0],.push,[]⟩,
  ⟨none,.r1 (fun s a=>AD Try.prog s 23 a),[.loc 0],.push,[]⟩,
  ⟨none,.p1 AE,[.var 1],.push,[]⟩,
  ⟨none,.p1 (fun x=>AB Try.prog 104 x 0),[.loc 0],.push,[]⟩,
  ⟨none,.r1 (fun s a=>AD Try.prog s 23 a),[.loc 0],.push,[]⟩,
  ⟨none,.p1 AE,[.var 1],.push,[]⟩,
  ⟨none,.p1 (fun x=>AB Try.prog 104 x 0),[.loc 0],.push,[]⟩,
  ⟨none,.r1 (fun s a=>AD Try.prog s 23 a),[.loc 0],.push,[]⟩,
  ⟨none,.p2 (AC Try.prog 23),[.loc 0,.var 3],.push,[]⟩,
  ⟨none,.r1 (fun s a=>AD Try.prog s 3 a),[.loc 0],.push,[]⟩,
  ⟨none,.p1 AE,[.var 1],.push,[]⟩,
  ⟨none,.p1 (fun x=>AB Try.prog 104 x 0),[.loc 0],.push,[]⟩,
  ⟨none,.r1 (fun s a=>AD Try.prog s 23 a),[.loc 0],.push,[]⟩,
  ⟨none,.p2 (AC Try.prog 23),[(.loc 0),(.const (.int .i64 (1)))],.push,[]⟩,
  ⟨none,.r1 (fun s a=>AD Try.prog s 3 a),[.loc 0],.push,[]⟩,
  ⟨none,.p2 (AC Try.prog 23),[(.loc 13),(.const (.int .i64 (1)))],.push,[]⟩,
  ⟨none,.e (fun s=>on2 (fun a x=>AT (AN Try.prog s 3 a x))),[.loc 0,.loc 6],.push,[]⟩,
  ⟨none,.p2 (AC Try.prog 23),[.loc 12,.var 3],.push,[]⟩,
  ⟨none,.e (fun s=>on2 (fun a x=>AT (AN Try.prog s 3 a x))),[.loc 0,.loc 3],.push,[]⟩]
def WX:List AA:=[
  ⟨none,.p1 AE,[.var 0],.push,[]⟩,
  ⟨none,.p1 (fun x=>AB Try.prog 91 x 0),[.loc 0],.push,[]⟩,
  ⟨none,.r1 (fun s a=>AD Try.prog s 88 a),[.loc 0],.push,[]⟩,
  ⟨none,.p1 AE,[.var 1],.push,[]⟩,
  ⟨none,.p1 (fun x=>AB Try.prog 104 x 0),[.loc 0],.push,[]⟩,
  ⟨none,.r1 (fun s a=>AD Try.prog s 23 a),[.loc 0],.push,[]⟩,
  ⟨none,.p2 (AC Try.prog 23),[(.loc 0),(.const (.int .i64 (1)))],.push,[]⟩,
  ⟨none,.r1 (fun s a=>AD Try.prog s 3 a),[.loc 0],.push,[]⟩,
  ⟨none,.p1 AE,[.var 0],.push,[]⟩,
  ⟨none,.p1 (fun x=>AB Try.prog 91 x 0),[.loc 0],.push,[]⟩,
  ⟨none,.r1 (fun s a=>AD Try.prog s 88 a),[.loc 0],.push,[]⟩,
  ⟨none,.p1 AE,[.var 1],.push,[]⟩,
  ⟨none,.p1 (fun x=>AB Try.prog 104 x 0),[.loc 0],.push,[]⟩,
  ⟨none,.r1 (fun s a=>AD Try.prog s 23 a),[.loc 0],.push,[]⟩,
  ⟨none,.p2 (AC Try.prog 23),[(.loc 0),(.const (.int .i64 (1)))],.push,[]⟩,
  ⟨none,.r1 (fun s a=>AD Try.prog s 3 a),[.loc 0],.push,[]⟩,
  ⟨none,.mk (fun l=>(Ad Try.prog 89 1 (zipIdx [0] l)).bind fun r=>some (r,.slice 1)),[.var 1],.push,[]⟩,
  ⟨none,.call 91,[.loc 9],.push,[⟨none,.r1 (fun s a=>AD Try.prog s 3 a),[.loc 3],(.loc 2)⟩,⟨none,.r1 (fun s a=>AD Try.prog s 23 a),[.loc 5],(.loc 4)⟩,⟨none,.r1 (fun s a=>AD Try.prog s 88 a),[.loc 8],(.loc 7)⟩,⟨none,.r1 (fun s a=>AD Try.prog s 88 a),[.loc 16],(.loc 15)⟩]⟩,
  ⟨none,.call 91,[.loc 2],.push,[⟨none,.r1 (fun s a=>AD Try.prog s 88 a),[.loc 9],(.loc 8)⟩,⟨none,.r1 (fun s a=>AD Try.prog s 88 a),[.loc 17],(.loc 16)⟩]⟩,
  ⟨none,.p2 (AC Try.prog 88),[.loc 8,.loc 0],.push,[]⟩,
  ⟨none,.r1 (fun s a=>AD Try.prog s 89 a),[.loc 0],.push,[]⟩,
  ⟨none,.e (fun s l=>AY Try.prog s [89,89] l),[.loc 0,.loc 4],.push,[⟨none,.r1 (fun s a=>AD Try.prog s 88 a),[.loc 20],(.loc 19)⟩]⟩,
  ⟨none,.p2 (AC Try.prog 88),[.loc 19,.loc 4],.push,[]⟩,
  ⟨none,.e (fun s=>on2 (fun a x=>AT (AN Try.prog s 89 a x))),[.loc 0,.loc 1],.push,[]⟩]
def WY:List AA:=[
  ⟨none,.p1 some,[(.const (.bool true))],(.set 2),[]⟩]
def WZ:List AA:=[
  ⟨none,.p1 some,[.var 3],.push,[]⟩,
  ⟨none,.p2 (AI Try.prog .add 3),[(.loc 0),(.const (.int .i64 (1)))],.push,[]⟩,
  ⟨none,.p1 some,[.loc 0],(.set 3),[]⟩]
def KY:AX:=(.seq (.seq (.ops QM) (.cond (.var 4)
  .skip
  (.exit 0))) (.seq (.block 1 (.seq (.ops WU) (.cond (.var 5)
  (.seq (.ops WV) (.seq (.ops WX) (.seq (.ops WY) .ret)))
  .skip))) (.ops WZ)))
def Wa:List AA:=[
  ⟨none,.p1 some,[(.const (.bool false))],(.set 2),[]⟩]
def mV:Ar:=⟨2,6,(.seq (.ops WS) (.seq (.seq (.ops WT) (.block 0 (.loop KY))) (.seq (.ops Wa) .ret))),[((.var 2),none)]⟩
def Th:List AA:=[
  ⟨none,.p1 some,[(.const (.bool false))],(.set 3),[]⟩,
  ⟨none,.p1 some,[(.const (.bool false))],(.set 4),[]⟩]
def Ti:List AA:=[
  ⟨none,.p1 AE,[.var 1],.push,[]⟩,
  ⟨none,.p1 (fun x=>AB Try.prog 104 x 2),[.loc 0],.push,[]⟩,
  ⟨none,.r1 (fun s a=>AD Try.prog s 4 a),[.loc 0],(.set 5),[]⟩]
def iY:List AA:=[
  ⟨none,.p1 some,[(.const (.bool false))],(.set 3),[]⟩,
  ⟨none,.p1 some,[(.const (.bool false))],(.set 4),[]⟩]
def Yw:List AA:=[
  ⟨none,.p1 AE,[.var 1],.push,[]⟩,
  ⟨none,.p1 (fun x=>AB Try.prog 104 x 0),[.loc 0],.push,[]⟩,
  ⟨none,.r1 (fun s a=>AD Try.prog s 23 a),[.loc 0],.push,[]⟩,
  ⟨none,.p2 (AC Try.prog 23),[(.loc 0),(.const (.int .i64 (0)))],.push,[]⟩,
  ⟨none,.r1 (fun s a=>AD Try.prog s 3 a),[.loc 0],.push,[]⟩,
  ⟨none,.p2 (AI Try.prog .eql 3),[.loc 0,.var 2],(.set 6),[]⟩]
def iZ:List AA:=[
  ⟨none,.p1 AE,[.var 1],.push,[]⟩,
  ⟨none,.p1 (fun x=>AB Try.prog 104 x 0),[.loc 0],.push,[]⟩,
  ⟨none,.r1 (fun s a=>AD Try.prog s 23 a),[.loc 0],.push,[]⟩,
  ⟨none,.p1 AE,[.var 1],.push,[]⟩,
  ⟨none,.p1 (fun x=>AB Try.prog 104 x 0),[.loc 0],.push,[]⟩,
  ⟨none,.r1 (fun s a=>AD Try.prog s 23 a),[.loc 0],.push,[]⟩,
  ⟨none,.p1 AE,[.var 1],.push,[]⟩,
  ⟨none,.p1 (fun x=>AB Try.prog 104 x 0),[.loc 0],.push,[]⟩,
  ⟨none,.r1 (fun s a=>AD Try.prog s 23 a),[.loc 0],.push,[]⟩,
  ⟨none,.p2 (AC Try.prog 23),[(.loc 0),(.const (.int .i64 (1)))],.push,[]⟩,
  ⟨none,.r1 (fun s a=>AD Try.prog s 3 a),[.loc 0],.push,[]⟩,
  ⟨none,.p1 AE,[.var 1],.push,[]⟩,
  ⟨none,.p1 (fun x=>AB Try.prog 104 x 0),[.loc 0],.push,[]⟩,
  ⟨none,.r1 (fun s a=>AD Try.prog s 23 a),[.loc 0],.push,[]⟩,
  ⟨none,.p2 (AC Try.prog 23),[(.loc 0),(.const (.int .i64 (0)))],.push,[]⟩,
  ⟨none,.r1 (fun s a=>AD Try.prog s 3 a),[.loc 0],.push,[]⟩,
  ⟨none,.p2 (AC Try.prog 23),[(.loc 13),(.const (.int .i64 (0)))],.push,[]⟩,
  ⟨none,.e (fun s=>on2 (fun a x=>AT (AN Try.prog s 3 a x))),[.loc 0,.loc 6],.push,[]⟩,
  ⟨none,.p2 (AC Try.prog 23),[(.loc 12),(.const (.int .i64 (1)))],.push,[]⟩,
  ⟨none,.e (fun s=>on2 (fun a x=>AT (AN Try.prog s 3 a x))),[.loc 0,.loc 3],.push,[]⟩]
def Yx:List AA:=[
  ⟨none,.p1 AE,[.var 1],.push,[]⟩,
  ⟨none,.p1 (fun x=>AB Try.prog 104 x 0),[.loc 0],.push,[]⟩,
  ⟨none,.r1 (fun s a=>AD Try.prog s 23 a),[.loc 0],.push,[]⟩,
  ⟨none,.p2 (AC Try.prog 23),[(.loc 0),(.const (.int .i64 (0)))],.push,[]⟩,
  ⟨none,.r1 (fun s a=>AD Try.prog s 3 a),[.loc 0],.push,[]⟩,
  ⟨none,.call 77,[.var 0,.loc 0],.push,[]⟩,
  ⟨none,.p2 (AI Try.prog .gtr 3),[(.loc 0),(.const (.int .i64 (0)))],.push,[]⟩,
  ⟨none,.p1 some,[.loc 0],(.set 7),[]⟩]
def Yy:List AA:=[
  ⟨none,.p1 some,[(.const (.bool true))],(.set 3),[]⟩,
  ⟨none,.p1 some,[(.const (.bool false))],(.set 4),[]⟩]
def Yz:List AA:=[
  ⟨none,.call 110,[.var 0,.var 1],.push,[]⟩,
  ⟨none,.p1 some,[.loc 0],(.set 8),[]⟩]
def Y0:List AA:=[
  ⟨none,.p1 some,[(.const (.bool false))],(.set 3),[]⟩,
  ⟨none,.p1 some,[(.const (.bool false))],(.set 4),[]⟩]
def Y1:List AA:=[
  ⟨none,.p1 AE,[.var 1],.push,[]⟩,
  ⟨none,.p1 (fun x=>AB Try.prog 104 x 0),[.loc 0],.push,[]⟩,
  ⟨none,.r1 (fun s a=>AD Try.prog s 23 a),[.loc 0],.push,[]⟩,
  ⟨none,.p2 (AC Try.prog 23),[(.loc 0),(.const (.int .i64 (0)))],.push,[]⟩,
  ⟨none,.r1 (fun s a=>AD Try.prog s 3 a),[.loc 0],.push,[]⟩,
  ⟨none,.call 77,[.var 0,.loc 0],.push,[]⟩,
  ⟨none,.p2 (AI Try.prog .lss 3),[(.loc 0),(.const (.int .i64 (0)))],.push,[]⟩,
  ⟨none,.p1 some,[.loc 0],(.set 9),[]⟩]
def R4:List AA:=[
  ⟨none,.p1 some,[(.const (.bool true))],(.set 3),[]⟩,
  ⟨none,.p1 some,[(.const (.bool true))],(.set 4),[]⟩]
def R5:List AA:=[
  ⟨none,.p1 AE,[.var 1],.push,[]⟩,
  ⟨none,.p1 (fun x=>AB Try.prog 104 x 0),[.loc 0],.push,[]⟩,
  ⟨none,.r1 (fun s a=>AD Try.prog s 23 a),[.loc 0],.push,[]⟩,
  ⟨none,.p2 (AC Try.prog 23),[(.loc 0),(.const (.int .i64 (0)))],.push,[]⟩,
  ⟨none,.r1 (fun s a=>AD Try.prog s 3 a),[.loc 0],.push,[]⟩,
  ⟨none,.call 71,[.var 0,.loc 0,.var 1],.push,[]⟩]
def R6:List AA:=[
  ⟨none,.p1 some,[(.const (.bool true))],(.set 3),[]⟩,
  ⟨none,.p1 some,[(.const (.bool false))],(.set 4),[]⟩]
def c92:Ar:=⟨3,10,(.seq (.ops Th) (.seq (.seq (.ops Ti) (.cond (.var 5)
  (.seq (.ops iY) .ret)
  .skip)) (.seq (.seq (.ops Yw) (.cond (.var 6)
  (.ops iZ)
  .skip)) (.seq (.block 0 (.seq (.ops Yx) (.cond (.var 7)
  (.seq (.ops Yy) .ret)
  (.seq (.ops Yz) (.cond (.var 8)
  (.seq (.ops Y0) .ret)
  (.seq (.ops Y1) (.cond (.var 9)
  (.seq (.ops R4) .ret)
  .skip))))))) (.seq (.ops R5) (.seq (.ops R6) .ret)))))),[((.var 3),none),((.var 4),none)]⟩
def fx:List AA:=[
  ⟨none,.p1 some,[(.const (.ptr none))],(.set 1),[]⟩]
def X8:List AA:=[
  ⟨none,.p1 AE,[.var 0],.push,[]⟩,
  ⟨none,.p1 (fun x=>AB Try.prog 91 x 9),[.loc 0],.push,[]⟩,
  ⟨none,.r1 (fun s a=>AD Try.prog s 3 a),[.loc 0],.push,[]⟩,
  ⟨none,.p1 AE,[.var 0],.push,[]⟩,
  ⟨none,.p1 (fun x=>AB Try.prog 91 x 7),[.loc 0],.push,[]⟩,
  ⟨none,.r1 (fun s a=>AD Try.prog s 23 a),[.loc 0],.push,[]⟩,
  ⟨none,.r (fun s l=>match l with | [x]=>Ao Try.prog s 23 x | _=>none),[.loc 0],.push,[]⟩,
  ⟨none,.p2 (AI Try.prog .lss 3),[.loc 4,.loc 0],(.set 10),[]⟩]
def YD:List AA:=[
  ⟨none,.p1 AE,[.var 0],.push,[]⟩,
  ⟨none,.p1 (fun x=>AB Try.prog 91 x 7),[.loc 0],.push,[]⟩,
  ⟨none,.r1 (fun s a=>AD Try.prog s 23 a),[.loc 0],.push,[]⟩,
  ⟨none,.p1 AE,[.var 0],.push,[]⟩,
  ⟨none,.p1 (fun x=>AB Try.prog 91 x 9),[.loc 0],.push,[]⟩,
  ⟨none,.r1 (fun s a=>AD Try.prog s 3 a),[.loc 0],.push,[]⟩,
  ⟨none,.p2 (AC Try.prog 23),[.loc 3,.loc 0],.push,[]⟩,
  ⟨none,.r1 (fun s a=>AD Try.prog s 3 a),[.loc 0],.push,[]⟩,
  ⟨none,.p1 (unA Try.prog Go.UnOp.neg),[.loc 0],.push,[]⟩,
  ⟨none,.p1 some,[.loc 0],(.set 2),[]⟩]
def YG:List AA:=[
  ⟨none,.p1 AE,[.var 0],.push,[]⟩,
  ⟨none,.p1 (fun x=>AB Try.prog 91 x 9),[.loc 0],.push,[]⟩,
  ⟨none,.r1 (fun s a=>AD Try.prog s 3 a),[.loc 0],.push,[]⟩,
  ⟨none,.p2 (AI Try.prog .add 3),[(.loc 0),(.const (.int .i64 (1)))],.push,[]⟩,
  ⟨none,.p1 AE,[.var 0],.push,[]⟩,
  ⟨none,.p1 (fun x=>AB Try.prog 91 x 9),[.loc 0],.push,[]⟩,
  ⟨none,.e (fun s=>on2 (fun a x=>AT (AN Try.prog s 3 a x))),[.loc 0,.loc 2],.push,[]⟩]
def fy:List AA:=[
  ⟨none,.p1 AE,[.var 0],.push,[]⟩,
  ⟨none,.p1 (fun x=>AB Try.prog 91 x 0),[.loc 0],.push,[]⟩,
  ⟨none,.r1 (fun s a=>AD Try.prog s 88 a),[.loc 0],.push,[]⟩,
  ⟨none,.call 91,[.var 2],.push,[⟨none,.r1 (fun s a=>AD Try.prog s 88 a),[.loc 2],(.loc 1)⟩]⟩,
  ⟨none,.p2 (AC Try.prog 88),[.loc 1,.loc 0],.push,[]⟩,
  ⟨none,.r1 (fun s a=>AD Try.prog s 89 a),[.loc 0],.push,[]⟩,
  ⟨none,.p1 some,[.loc 0],(.set 3),[]⟩]
def fz:List AA:=[
  ⟨none,.r (fun s l=>match l with | [x]=>Ao Try.prog s 89 x | _=>none),[.var 3],.push,[]⟩,
  ⟨none,.r (AW Try.prog 89 false true true),[(.var 3),(.const (.int .i64 (0))),(.loc 0)],.push,[]⟩,
  ⟨none,.p1 some,[.loc 0],(.set 4),[]⟩]
def f9:List AA:=[
  ⟨none,.p1 some,[(.const (.ptr none))],(.set 5),[]⟩]
def gA:List AA:=[
  ⟨none,.p1 some,[.var 3],(.set 11),[]⟩,
  ⟨none,.r (fun s l=>match l with | [x]=>Ao Try.prog s 89 x | _=>none),[.var 11],(.set 12),[]⟩,
  ⟨none,.p1 some,[(.const (.int .i64 (0)))],(.set 13),[]⟩]
def YH:List AA:=[
  ⟨none,.p2 (AI Try.prog .lss 3),[.var 13,.var 12],(.set 14),[]⟩]
def gB:List AA:=[
  ⟨none,.p2 (AC Try.prog 89),[.var 11,.var 13],.push,[]⟩,
  ⟨none,.r1 (fun s a=>AD Try.prog s 92 a),[.loc 0],.push,[]⟩,
  ⟨none,.p1 some,[.var 13],(.set 6),[]⟩,
  ⟨none,.p1 some,[.loc 0],(.set 7),[]⟩]
def X9:List AA:=[
  ⟨none,.call 92,[.var 0,.var 7,.var 2],.push,[]⟩,
  ⟨none,.p1 (fun x=>Rp x 0),[.loc 0],.push,[]⟩,
  ⟨none,.p1 (fun x=>Rp x 1),[.loc 1],.push,[]⟩,
  ⟨none,.p1 some,[.loc 1],(.set 8),[]⟩,
  ⟨none,.p1 some,[.loc 0],(.set 9),[]⟩]
def Nd:List AA:=[
  ⟨none,.p1 some,[.var 8],(.set 15),[]⟩]
def RI:List AA:=[
  ⟨none,.p1 some,[.var 4],.push,[]⟩,
  ⟨none,.mk (fun l=>(Ad Try.prog 89 1 (zipIdx [0] l)).bind fun r=>some (r,.slice 1)),[.var 7],.push,[]⟩,
  ⟨none,.e (fun s l=>AY Try.prog s [89,89] l),[.loc 1,.loc 0],.push,[]⟩,
  ⟨none,.p1 some,[.loc 0],(.set 4),[]⟩]
def Nf:List AA:=[
  ⟨none,.p1 some,[.var 9],(.set 16),[]⟩]
def YA:List AA:=[
  ⟨none,.p1 some,[.var 4],.push,[]⟩,
  ⟨none,.p2 (AI Try.prog .add 3),[(.var 6),(.const (.int .i64 (1)))],.push,[]⟩,
  ⟨none,.r (AW Try.prog 89 true false false),[.var 3,.loc 0],.push,[]⟩,
  ⟨none,.e (fun s l=>AY Try.prog s [89,89] l),[.loc 2,.loc 0],.push,[]⟩,
  ⟨none,.p1 some,[.loc 0],(.set 4),[]⟩,
  ⟨none,.p1 some,[.var 7],(.set 5),[]⟩]
def RJ:List AA:=[
  ⟨none,.p2 (AI Try.prog .add 3),[(.var 13),(.const (.int .i64 (1)))],.push,[]⟩,
  ⟨none,.p1 some,[.loc 0],(.set 13),[]⟩]
def Kp:AX:=(.seq (.ops YH) (.seq (.cond (.var 14)
  .skip
  (.exit 2)) (.seq (.block 3 (.seq (.ops gB) (.seq (.ops X9) (.seq (.seq (.ops Nd) (.cond (.var 15)
  (.ops RI)
  .skip)) (.seq (.ops Nf) (.cond (.var 16)
  (.seq (.ops YA) (.exit 2))
  .skip)))))) (.ops RJ))))
def YB:List AA:=[
  ⟨none,.p1 AE,[.var 0],.push,[]⟩,
  ⟨none,.p1 (fun x=>AB Try.prog 91 x 0),[.loc 0],.push,[]⟩,
  ⟨none,.r1 (fun s a=>AD Try.prog s 88 a),[.loc 0],.push,[]⟩,
  ⟨none,.call 91,[.var 2],.push,[⟨none,.r1 (fun s a=>AD Try.prog s 88 a),[.loc 2],(.loc 1)⟩]⟩,
  ⟨none,.p2 (AC Try.prog 88),[.loc 1,.loc 0],.push,[]⟩,
  ⟨none,.e (fun s=>on2 (fun a x=>AT (AN Try.prog s 89 a x))),[.loc 0,.var 4],.push,[]⟩]
def RK:List AA:=[
  ⟨none,.p2 (AI Try.prog .neq 92),[(.var 5),(.const (.ptr none))],(.set 17),[]⟩]
def YC:List AA:=[
  ⟨none,.p1 AE,[.var 0],.push,[]⟩,
  ⟨none,.p1 (fun x=>AB Try.prog 91 x 7),[.loc 0],.push,[]⟩,
  ⟨none,.r1 (fun s a=>AD Try.prog s 23 a),[.loc 0],.push,[]⟩,
  ⟨none,.r (fun s l=>match l with | [x]=>Ao Try.prog s 23 x | _=>none),[.loc 0],.push,[]⟩,
  ⟨none,.p1 AE,[.var 0],.push,[]⟩,
  ⟨none,.p1 (fun x=>AB Try.prog 91 x 9),[.loc 0],.push,[]⟩,
  ⟨none,.e (fun s=>on2 (fun a x=>AT (AN Try.prog s 3 a x))),[.loc 0,.loc 2],.push,[]⟩]
def YE:List AA:=[
  ⟨none,.p1 some,[.var 5],(.set 1),[]⟩]
def Kq:AX:=(.seq (.seq (.ops X8) (.cond (.var 10)
  .skip
  (.exit 0))) (.block 1 (.seq (.ops YD) (.seq (.ops YG) (.seq (.ops fy) (.seq (.ops fz) (.seq (.ops f9) (.seq (.seq (.ops gA) (.block 2 (.loop Kp))) (.seq (.ops YB) (.seq (.ops RK) (.cond (.var 17)
  (.seq (.ops YC) (.seq (.ops YE) .ret))
  .skip)))))))))))
def YF:List AA:=[
  ⟨none,.p1 some,[(.const (.ptr none))],(.set 1),[]⟩]
def c64:Ar:=⟨1,18,(.seq (.ops fx) (.seq (.block 0 (.loop Kq)) (.seq (.ops YF) .ret))),[((.var 1),none)]⟩
def ia:List AA:=[
  ⟨none,.mk (fun l=>match l with | [v]=>CL 92 v | _=>none),[.var 0],(.set 2),[]⟩,
  ⟨none,.mk (fun l=>match l with | [v]=>CL 3 v | _=>none),[.var 1],(.set 3),[]⟩,
  ⟨none,.p1 some,[(.const .nilFunc)],(.set 4),[]⟩]
def ib:List AA:=[
  ⟨none,.p (fun l=>some (.func 111 (l.take 0) (l.drop 0))),[.var 2,.var 3],.push,[]⟩,
  ⟨none,.p1 some,[.loc 0],(.set 4),[]⟩]
def c93:Ar:=⟨2,5,(.seq (.ops ia) (.seq (.ops ib) .ret)),[((.var 4),none)]⟩
def Wb:List AA:=[
  ⟨none,.r1 (fun s a=>AD Try.prog s 92 a),[.var 1],.push,[]⟩,
  ⟨none,.p1 AE,[.loc 0],.push,[]⟩,
  ⟨none,.p1 (fun x=>AB Try.prog 104 x 0),[.loc 0],.push,[]⟩,
  ⟨none,.r1 (fun s a=>AD Try.prog s 23 a),[.loc 0],(.set 4),[]⟩,
  ⟨none,.r (fun s l=>match l with | [x]=>Ao Try.prog s 23 x | _=>none),[.var 4],(.set 5),[]⟩,
  ⟨none,.p1 some,[(.const (.int .i64 (0)))],(.set 6),[]⟩]
def NU:List AA:=[
  ⟨none,.p2 (AI Try.prog .lss 3),[.var 6,.var 5],(.set 7),[]⟩]
def QN:List AA:=[
  ⟨none,.p2 (AC Try.prog 23),[.var 4,.var 6],.push,[]⟩,
  ⟨none,.r1 (fun s a=>AD Try.prog s 3 a),[.loc 0],.push,[]⟩,
  ⟨none,.p1 some,[.loc 0],(.set 3),[]⟩]
def QO:List AA:=[
  ⟨none,.r1 (fun s a=>AD Try.prog s 3 a),[.var 2],.push,[]⟩,
  ⟨none,.p2 (AI Try.prog .neq 3),[.var 3,.loc 0],.push,[]⟩,
  ⟨(some ((.loc 0),true)),.p1 some,[.var 0],.push,[]⟩,
  ⟨(some ((.loc 1),true)),.p1 some,[.var 3],.push,[]⟩,
  ⟨(some ((.loc 2),true)),.callv,[.loc 1,.loc 0],.push,[]⟩,
  ⟨(some ((.loc 3),true)),.p1 (unA Try.prog Go.UnOp.not),[.loc 0],.push,[]⟩,
  ⟨none,.p Rn,[(.loc 4),(.loc 0),(.const (.bool false))],(.set 8),[]⟩]
def QP:List AA:=[
  ⟨none,.p2 (AI Try.prog .add 3),[(.var 6),(.const (.int .i64 (1)))],.push,[]⟩,
  ⟨none,.p1 some,[.loc 0],(.set 6),[]⟩]
def Iz:AX:=(.seq (.ops NU) (.seq (.cond (.var 7)
  .skip
  (.exit 0)) (.seq (.block 1 (.seq (.ops QN) (.seq (.ops QO) (.cond (.var 8)
  .ret
  .skip)))) (.ops QP))))
def mW:Ar:=⟨3,9,(.seq (.ops Wb) (.block 0 (.loop Iz))),[]⟩
def gI:List AA:=[
  ⟨none,.mk (fun l=>match l with | [v]=>CL 44 v | _=>none),[.var 0],(.set 2),[]⟩,
  ⟨none,.mk (fun l=>match l with | []=>BE Try.prog 23 | _=>none),[],(.set 3),[]⟩,
  ⟨none,.mk (fun l=>match l with | []=>BE Try.prog 3 | _=>none),[],(.set 4),[]⟩]
def gK:List AA:=[
  ⟨none,.mk (fun l=>match l with | []=>some (.map [] 0,.map) | _=>none),[],.push,[]⟩,
  ⟨none,.mk (fun l=>match l with | []=>BE Try.prog 115 | _=>none),[],(.set 5),[]⟩,
  ⟨none,.e (fun s=>on2 (fun a x=>AT (AN Try.prog s 115 a x))),[.var 5,.loc 0],.push,[]⟩]
def gL:List AA:=[
  ⟨none,.mk (fun l=>(Ad Try.prog 23 1 (zipIdx [0] l)).bind fun r=>some (r,.slice 1)),[(.const (.int .i64 (0)))],.push,[]⟩,
  ⟨none,.e (fun s=>on2 (fun a x=>AT (AN Try.prog s 23 a x))),[.var 3,.loc 0],.push,[]⟩]
def gM:List AA:=[
  ⟨none,.r1 (fun s a=>AD Try.prog s 44 a),[.var 2],.push,[]⟩,
  ⟨none,.p1 AE,[.loc 0],.push,[]⟩,
  ⟨none,.p1 (fun x=>AB Try.prog 91 x 7),[.loc 0],.push,[]⟩,
  ⟨none,.r1 (fun s a=>AD Try.prog s 23 a),[.loc 0],.push,[]⟩,
  ⟨none,.r (fun s l=>match l with | [x]=>Ao Try.prog s 23 x | _=>none),[.loc 0],.push,[]⟩,
  ⟨none,.mk (fun l=>match l with | []=>BE Try.prog 3 | _=>none),[],(.set 6),[]⟩,
  ⟨none,.e (fun s=>on2 (fun a x=>AT (AN Try.prog s 3 a x))),[(.var 6),(.const (.int .i64 (0)))],.push,[⟨none,.r (fun s l=>match l with | [x]=>Ao Try.prog s 23 x | _=>none),[.loc 2],(.loc 1)⟩,⟨none,.r1 (fun s a=>AD Try.prog s 23 a),[.loc 3],(.loc 2)⟩,⟨none,.r1 (fun s a=>AD Try.prog s 44 a),[.var 2],(.loc 5)⟩]⟩,
  ⟨none,.p1 some,[.loc 1],(.set 7),[]⟩]
def gN:List AA:=[
  ⟨none,.p1 some,[(.const (.int .i64 (0)))],(.set 8),[]⟩]
def gO:List AA:=[
  ⟨none,.call 93,[.var 1,.var 8],(.set 14),[]⟩]
def gP:List AA:=[
  ⟨none,.p1 some,[.var 15],(.set 9),[]⟩]
def gQ:List AA:=[
  ⟨none,.call 90,[.var 9],.push,[]⟩,
  ⟨none,.p1 some,[.loc 0],(.set 10),[]⟩]
def YO:List AA:=[
  ⟨none,.r1 (fun s a=>AD Try.prog s 115 a),[.var 5],.push,[]⟩,
  ⟨none,.r (fun s=>on2 (fun m k=>C6 Try.prog s 115 m k true)),[.loc 0,.var 10],.push,[]⟩,
  ⟨none,.p1 (fun x=>Rp x 0),[.loc 0],.push,[]⟩,
  ⟨none,.p1 (fun x=>Rp x 1),[.loc 1],.push,[]⟩,
  ⟨none,.mk (fun l=>match l with | []=>BE Try.prog 119 | _=>none),[],.push,[]⟩,
  ⟨none,.e (fun s=>on2 (fun a x=>AT (AN Try.prog s 119 a x))),[.loc 0,.loc 2],.push,[]⟩,
  ⟨none,.p1 some,[.loc 2],(.set 11),[]⟩]
def Tb:List AA:=[
  ⟨(some ((.var 11),false)),.r1 (fun s a=>AD Try.prog s 44 a),[.var 2],.push,[]⟩,
  ⟨(some ((.var 11),false)),.p1 AE,[.loc 0],.push,[]⟩,
  ⟨(some ((.var 11),false)),.p1 (fun x=>AB Try.prog 91 x 3),[.loc 0],.push,[]⟩,
  ⟨(some ((.var 11),false)),.r1 (fun s a=>AD Try.prog s 23 a),[.loc 0],.push,[]⟩,
  ⟨(some ((.var 11),false)),.p1 some,[.var 10],.push,[]⟩,
  ⟨(some ((.var 11),false)),.p2 (AC Try.prog 23),[.loc 1,.loc 0],.push,[]⟩,
  ⟨(some ((.var 11),false)),.r1 (fun s a=>AD Try.prog s 3 a),[.loc 0],.push,[]⟩,
  ⟨(some ((.var 11),false)),.p2 (AI Try.prog .eql 3),[(.loc 0),(.const (.int .i64 (0)))],.push,[]⟩,
  ⟨none,.p Rn,[(.var 11),(.const (.bool true)),(.loc 0)],(.set 16),[]⟩]
def RL:List AA:=[
  ⟨none,.r1 (fun s a=>AD Try.prog s 115 a),[.var 5],.push,[]⟩,
  ⟨none,.p (fun l=>Bz Try.prog 119 (zipIdx [] l)),[],.push,[]⟩,
  ⟨none,.e (fun s=>on3 (fun m k x=>AT (ED Try.prog s 115 m k x))),[.loc 1,.var 10,.loc 0],.push,[]⟩]
def RM:List AA:=[
  ⟨none,.r1 (fun s a=>AD Try.prog s 44 a),[.var 2],.push,[]⟩,
  ⟨none,.p1 AE,[.loc 0],.push,[]⟩,
  ⟨none,.p1 (fun x=>AB Try.prog 91 x 5),[.loc 0],.push,[]⟩,
  ⟨none,.r1 (fun s a=>AD Try.prog s 23 a),[.loc 0],.push,[]⟩,
  ⟨none,.p2 (AC Try.prog 23),[.loc 0,.var 10],.push,[]⟩,
  ⟨none,.r1 (fun s a=>AD Try.prog s 3 a),[.loc 0],.push,[]⟩,
  ⟨none,.p2 (AI Try.prog .add 3),[(.loc 0),(.const (.int .i64 (1)))],.push,[]⟩,
  ⟨none,.p2 (AC Try.prog 23),[.loc 3,.var 10],.push,[]⟩,
  ⟨none,.e (fun s=>on2 (fun a x=>AT (AN Try.prog s 3 a x))),[.loc 0,.loc 1],.push,[]⟩]
def RN:List AA:=[
  ⟨none,.r1 (fun s a=>AD Try.prog s 44 a),[.var 2],.push,[]⟩,
  ⟨none,.p1 AE,[.loc 0],.push,[]⟩,
  ⟨none,.p1 (fun x=>AB Try.prog 91 x 3),[.loc 0],.push,[]⟩,
  ⟨none,.r1 (fun s a=>AD Try.prog s 23 a),[.loc 0],.push,[]⟩,
  ⟨none,.p2 (AC Try.prog 23),[.loc 0,.var 10],.push,[]⟩,
  ⟨none,.r1 (fun s a=>AD Try.prog s 3 a),[.loc 0],.push,[]⟩,
  ⟨none,.r1 (fun s a=>AD Try.prog s 44 a),[.var 2],.push,[]⟩,
  ⟨none,.p1 AE,[.loc 0],.push,[]⟩,
  ⟨none,.p1 (fun x=>AB Try.prog 91 x 8),[.loc 0],.push,[]⟩,
  ⟨none,.r1 (fun s a=>AD Try.prog s 23 a),[.loc 0],.push,[]⟩,
  ⟨none,.r (fun s l=>match l with | [x]=>Ao Try.prog s 23 x | _=>none),[.loc 0],.push,[]⟩,
  ⟨none,.p2 (AI Try.prog .eql 3),[.loc 5,.loc 0],(.set 17),[]⟩]
def RO:List AA:=[
  ⟨none,.r1 (fun s a=>AD Try.prog s 3 a),[.var 6],.push,[]⟩,
  ⟨none,.p2 (AI Try.prog .add 3),[(.loc 0),(.const (.int .i64 (1)))],.push,[]⟩,
  ⟨none,.e (fun s=>on2 (fun a x=>AT (AN Try.prog s 3 a x))),[.var 6,.loc 0],.push,[]⟩]
def RP:List AA:=[
  ⟨none,.r1 (fun s a=>AD Try.prog s 23 a),[.var 3],.push,[]⟩,
  ⟨none,.mk (fun l=>(Ad Try.prog 23 1 (zipIdx [0] l)).bind fun r=>some (r,.slice 1)),[.var 9],.push,[]⟩,
  ⟨none,.e (fun s l=>AY Try.prog s [23,23] l),[.loc 1,.loc 0],.push,[]⟩,
  ⟨none,.e (fun s=>on2 (fun a x=>AT (AN Try.prog s 23 a x))),[.var 3,.loc 0],.push,[]⟩]
def RQ:List AA:=[
  ⟨none,.r1 (fun s a=>AD Try.prog s 3 a),[.var 4],.push,[]⟩,
  ⟨none,.r1 (fun s a=>AD Try.prog s 44 a),[.var 2],.push,[]⟩,
  ⟨none,.p1 AE,[.loc 0],.push,[]⟩,
  ⟨none,.p1 (fun x=>AB Try.prog 91 x 3),[.loc 0],.push,[]⟩,
  ⟨none,.r1 (fun s a=>AD Try.prog s 23 a),[.loc 0],.push,[]⟩,
  ⟨none,.p2 (AC Try.prog 23),[.loc 0,.var 10],.push,[]⟩,
  ⟨none,.r1 (fun s a=>AD Try.prog s 3 a),[.loc 0],.push,[]⟩,
  ⟨none,.p (fun l=>match l with | v::l=>DU true v l | []=>none),[.loc 6,.loc 0],.push,[]⟩,
  ⟨none,.e (fun s=>on2 (fun a x=>AT (AN Try.prog s 3 a x))),[.var 4,.loc 0],.push,[]⟩]
def nQ:AX:=(.ops gP)
def nR:AX:=(.block 3 (.seq (.ops gQ) (.seq (.seq (.ops YO) (.seq (.ops Tb) (.cond (.var 16)
  (.exit 3)
  .skip))) (.seq (.ops RL) (.seq (.ops RM) (.seq (.ops RN) (.cond (.var 17)
  (.ops RO)
  (.seq (.ops RP) (.ops RQ)))))))))
def a67:Code:=(HC 67).1
def b67:Code:=(HC 67).2
def YL:List AA:=[
  ⟨none,.p1 some,[(.const (.bool false))],(.set 12),[]⟩]
def RR:List AA:=[
  ⟨none,.p1 (unA Try.prog Go.UnOp.not),[.var 12],(.set 18),[]⟩]
def YM:List AA:=[
  ⟨none,.p1 some,[.var 7],.push,[]⟩,
  ⟨none,.p2 (AI Try.prog .sub 3),[(.loc 0),(.const (.int .i64 (1)))],.push,[]⟩,
  ⟨none,.p1 some,[.loc 0],(.set 7),[]⟩]
def YN:List AA:=[
  ⟨none,.r1 (fun s a=>AD Try.prog s 115 a),[.var 5],.push,[]⟩,
  ⟨none,.r1 (fun s a=>AD Try.prog s 44 a),[.var 2],.push,[]⟩,
  ⟨none,.p1 AE,[.loc 0],.push,[]⟩,
  ⟨none,.p1 (fun x=>AB Try.prog 91 x 7),[.loc 0],.push,[]⟩,
  ⟨none,.r1 (fun s a=>AD Try.prog s 23 a),[.loc 0],.push,[]⟩,
  ⟨none,.p2 (AC Try.prog 23),[.loc 0,.var 7],.push,[]⟩,
  ⟨none,.r1 (fun s a=>AD Try.prog s 3 a),[.loc 0],.push,[]⟩,
  ⟨none,.call 90,[.loc 0],.push,[⟨none,.r1 (fun s a=>AD Try.prog s 115 a),[.var 5],(.loc 7)⟩]⟩,
  ⟨none,.r (fun s=>on2 (fun m k=>C6 Try.prog s 115 m k true)),[.loc 7,.loc 0],.push,[]⟩,
  ⟨none,.p1 (fun x=>Rp x 0),[.loc 0],.push,[]⟩,
  ⟨none,.p1 (fun x=>Rp x 1),[.loc 1],.push,[]⟩,
  ⟨none,.p1 some,[.loc 0],(.set 12),[]⟩]
def I5:AX:=(.seq (.seq (.ops RR) (.cond (.var 18)
  .skip
  (.exit 4))) (.block 5 (.seq (.ops YM) (.ops YN))))
def RS:List AA:=[
  ⟨none,.r1 (fun s a=>AD Try.prog s 44 a),[.var 2],.push,[]⟩,
  ⟨none,.p1 AE,[.loc 0],.push,[]⟩,
  ⟨none,.p1 (fun x=>AB Try.prog 91 x 7),[.loc 0],.push,[]⟩,
  ⟨none,.r1 (fun s a=>AD Try.prog s 23 a),[.loc 0],.push,[]⟩,
  ⟨none,.p2 (AC Try.prog 23),[.loc 0,.var 7],.push,[]⟩,
  ⟨none,.r1 (fun s a=>AD Try.prog s 3 a),[.loc 0],.push,[]⟩,
  ⟨none,.p1 some,[.loc 0],(.set 8),[]⟩]
def RT:List AA:=[
  ⟨none,.r1 (fun s a=>AD Try.prog s 44 a),[.var 2],.push,[]⟩,
  ⟨none,.p1 AE,[.loc 0],.push,[]⟩,
  ⟨none,.p1 (fun x=>AB Try.prog 91 x 4),[.loc 0],.push,[]⟩,
  ⟨none,.r1 (fun s a=>AD Try.prog s 89 a),[.loc 0],.push,[]⟩,
  ⟨none,.call 90,[.var 8],.push,[⟨none,.r1 (fun s a=>AD Try.prog s 89 a),[.loc 2],(.loc 1)⟩,⟨none,.r1 (fun s a=>AD Try.prog s 44 a),[.var 2],(.loc 4)⟩]⟩,
  ⟨none,.p2 (AC Try.prog 89),[.loc 1,.loc 0],.push,[]⟩,
  ⟨none,.r1 (fun s a=>AD Try.prog s 92 a),[.loc 0],.push,[]⟩,
  ⟨none,.p1 some,[.loc 0],(.set 1),[]⟩]
def RU:List AA:=[
  ⟨none,.r1 (fun s a=>AD Try.prog s 3 a),[.var 6],.push,[]⟩,
  ⟨none,.p2 (AI Try.prog .sub 3),[(.loc 0),(.const (.int .i64 (1)))],.push,[]⟩,
  ⟨none,.e (fun s=>on2 (fun a x=>AT (AN Try.prog s 3 a x))),[.var 6,.loc 0],.push,[]⟩]
def RV:List AA:=[
  ⟨none,.r1 (fun s a=>AD Try.prog s 3 a),[.var 6],.push,[]⟩,
  ⟨none,.p2 (AI Try.prog .eql 3),[(.loc 0),(.const (.int .i64 (0)))],(.set 19),[]⟩]
def RW:List AA:=[
  ⟨none,.r1 (fun s a=>AD Try.prog s 23 a),[.var 3],.push,[]⟩,
  ⟨none,.p1 (unA Try.prog Go.UnOp.neg),[.var 8],.push,[]⟩,
  ⟨none,.p2 (AC Try.prog 23),[(.loc 1),(.const (.int .i64 (0)))],.push,[]⟩,
  ⟨none,.e (fun s=>on2 (fun a x=>AT (AN Try.prog s 3 a x))),[.loc 0,.loc 1],.push,[]⟩]
def I6:AX:=(.block 1 (.seq (.seq (.ops gO) (.block 2 (.rangeFunc 67 (.var 14) #[26] a67 b67))) (.seq (.seq (.ops YL) (.block 4 (.loop I5))) (.seq (.ops RS) (.seq (.ops RT) (.seq (.ops RU) (.seq (.ops RV) (.cond (.var 19)
  (.seq (.ops RW) (.exit 0))
  .skip))))))))
def RX:List AA:=[
  ⟨none,.r1 (fun s a=>AD Try.prog s 23 a),[.var 3],.push,[]⟩,
  ⟨none,.r (AW Try.prog 23 true false false),[(.loc 0),(.const (.int .i64 (1)))],.push,[]⟩,
  ⟨none,.p (fun l=>some (.func 95 (l.take 0) (l.drop 0))),[.var 2,.var 4],.push,[]⟩,
  ⟨none,.call 94,[.loc 1,.loc 0],.push,[]⟩,
  ⟨none,.p1 some,[.loc 0],(.set 13),[]⟩]
def Kr:List AA:=[
  ⟨none,.p2 (AI Try.prog .geq 3),[(.var 13),(.const (.int .i64 (0)))],(.set 20),[]⟩]
def RY:List AA:=[
  ⟨none,.r1 (fun s a=>AD Try.prog s 23 a),[.var 3],.push,[]⟩,
  ⟨none,.r1 (fun s a=>AD Try.prog s 23 a),[.var 3],.push,[]⟩,
  ⟨none,.p2 (AI Try.prog .add 3),[(.var 13),(.const (.int .i64 (1)))],.push,[]⟩,
  ⟨none,.r1 (fun s a=>AD Try.prog s 23 a),[.var 3],.push,[]⟩,
  ⟨none,.p2 (AI Try.prog .add 3),[(.var 13),(.const (.int .i64 (1)))],.push,[]⟩,
  ⟨none,.p2 (AC Try.prog 23),[.loc 1,.loc 0],.push,[]⟩,
  ⟨none,.r1 (fun s a=>AD Try.prog s 3 a),[.loc 0],.push,[]⟩,
  ⟨none,.r1 (fun s a=>AD Try.prog s 23 a),[.var 3],.push,[]⟩,
  ⟨none,.p2 (AC Try.prog 23),[(.loc 0),(.const (.int .i64 (1)))],.push,[]⟩,
  ⟨none,.r1 (fun s a=>AD Try.prog s 3 a),[.loc 0],.push,[]⟩,
  ⟨none,.p2 (AC Try.prog 23),[(.loc 9),(.const (.int .i64 (1)))],.push,[]⟩,
  ⟨none,.e (fun s=>on2 (fun a x=>AT (AN Try.prog s 3 a x))),[.loc 0,.loc 4],.push,[⟨none,.r1 (fun s a=>AD Try.prog s 23 a),[.var 3],(.loc 10)⟩]⟩,
  ⟨none,.p2 (AC Try.prog 23),[.loc 10,.loc 9],.push,[]⟩,
  ⟨none,.e (fun s=>on2 (fun a x=>AT (AN Try.prog s 3 a x))),[.loc 0,.loc 3],.push,[]⟩]
def RZ:List AA:=[
  ⟨none,.r1 (fun s a=>AD Try.prog s 23 a),[.var 3],.push,[]⟩,
  ⟨none,.r1 (fun s a=>AD Try.prog s 3 a),[.var 4],.push,[]⟩,
  ⟨none,.e (fun s=>on2 (fun a x=>AT (AN Try.prog s 23 a x))),[.var 3,.loc 1],.push,[⟨none,.r1 (fun s a=>AD Try.prog s 3 a),[.var 4],(.loc 1)⟩]⟩,
  ⟨none,.e (fun s=>on2 (fun a x=>AT (AN Try.prog s 3 a x))),[.var 4,.loc 1],.push,[]⟩]
def c67:Ar:=⟨2,21,(.seq (.ops gI) (.seq (.ops gK) (.seq (.ops gL) (.seq (.ops gM) (.seq (.seq (.ops gN) (.block 0 (.loop I6))) (.seq (.seq (.ops RX) (.seq (.ops Kr) (.cond (.var 20)
  (.ops RY)
  .skip))) (.seq (.ops RZ) .ret))))))),[((.var 3),some 23),((.var 4),some 3)]⟩
def ie:List AA:=[
  ⟨none,.p1 some,[(.const (.bool false))],(.set 3),[]⟩]
def ig:List AA:=[
  ⟨none,.r1 (fun s a=>AD Try.prog s 44 a),[.var 1],.push,[]⟩,
  ⟨none,.p1 AE,[.loc 0],.push,[]⟩,
  ⟨none,.p1 (fun x=>AB Try.prog 91 x 3),[.loc 0],.push,[]⟩,
  ⟨none,.r1 (fun s a=>AD Try.prog s 23 a),[.loc 0],.push,[]⟩,
  ⟨none,.r1 (fun s a=>AD Try.prog s 3 a),[.var 2],.push,[]⟩,
  ⟨none,.call 90,[.var 0],.push,[⟨none,.r1 (fun s a=>AD Try.prog s 3 a),[.var 2],(.loc 1)⟩,⟨none,.r1 (fun s a=>AD Try.prog s 23 a),[.loc 3],(.loc 2)⟩,⟨none,.r1 (fun s a=>AD Try.prog s 44 a),[.var 1],(.loc 5)⟩]⟩,
  ⟨none,.p2 (AC Try.prog 23),[.loc 2,.loc 0],.push,[]⟩,
  ⟨none,.r1 (fun s a=>AD Try.prog s 3 a),[.loc 0],.push,[]⟩,
  ⟨none,.p2 (AI Try.prog .eql 3),[.loc 0,.loc 3],.push,[]⟩,
  ⟨none,.p1 some,[.loc 0],(.set 3),[]⟩]
def c95:Ar:=⟨3,4,(.seq (.ops ie) (.seq (.ops ig) .ret)),[((.var 3),none)]⟩
def gD:List AA:=[
  ⟨none,.call 63,[.var 0,.var 2],.push,[]⟩]
def YJ:List AA:=[
  ⟨none,.p1 AE,[.var 0],.push,[]⟩,
  ⟨none,.p1 (fun x=>AB Try.prog 91 x 12),[.loc 0],.push,[]⟩,
  ⟨none,.r1 (fun s a=>AD Try.prog s 33 a),[.loc 0],.push,[]⟩,
  ⟨none,.call 60,[.var 1],.push,[⟨none,.r1 (fun s a=>AD Try.prog s 33 a),[.loc 2],(.loc 1)⟩]⟩,
  ⟨none,.p (fun l=>Bz Try.prog 27 (zipIdx [1] l)),[.loc 0],.push,[]⟩,
  ⟨none,.mk (fun l=>(Ad Try.prog 33 1 (zipIdx [0] l)).bind fun r=>some (r,.slice 1)),[.loc 0],.push,[]⟩,
  ⟨none,.e (fun s l=>AY Try.prog s [33,33] l),[.loc 3,.loc 0],.push,[]⟩,
  ⟨none,.p1 AE,[.var 0],.push,[]⟩,
  ⟨none,.p1 (fun x=>AB Try.prog 91 x 12),[.loc 0],.push,[]⟩,
  ⟨none,.e (fun s=>on2 (fun a x=>AT (AN Try.prog s 33 a x))),[.loc 0,.loc 2],.push,[]⟩]
def gE:List AA:=[
  ⟨none,.p (fun l=>Bz Try.prog 104 (zipIdx [0,1] l)),[(.var 1),(.const (.bool true))],.push,[]⟩,
  ⟨none,.mk (fun l=>match l with | [v]=>CL 104 v | _=>none),[.loc 0],.push,[]⟩,
  ⟨none,.p1 some,[.loc 0],(.set 3),[]⟩]
def gF:List AA:=[
  ⟨none,.r (fun s l=>match l with | [x]=>Ao Try.prog s 23 x | _=>none),[.var 1],.push,[]⟩,
  ⟨none,.p2 (AI Try.prog .gtr 3),[(.loc 0),(.const (.int .i64 (1)))],(.set 4),[]⟩]
def gG:List AA:=[
  ⟨none,.call 78,[.var 0,.var 3],.push,[]⟩]
def gH:List AA:=[
  ⟨none,.p1 AE,[.var 0],.push,[]⟩,
  ⟨none,.p1 (fun x=>AB Try.prog 91 x 1),[.loc 0],.push,[]⟩,
  ⟨none,.r1 (fun s a=>AD Try.prog s 89 a),[.loc 0],.push,[]⟩,
  ⟨none,.mk (fun l=>(Ad Try.prog 89 1 (zipIdx [0] l)).bind fun r=>some (r,.slice 1)),[.var 3],.push,[]⟩,
  ⟨none,.e (fun s l=>AY Try.prog s [89,89] l),[.loc 1,.loc 0],.push,[]⟩,
  ⟨none,.p1 AE,[.var 0],.push,[]⟩,
  ⟨none,.p1 (fun x=>AB Try.prog 91 x 1),[.loc 0],.push,[]⟩,
  ⟨none,.e (fun s=>on2 (fun a x=>AT (AN Try.prog s 89 a x))),[.loc 0,.loc 2],.push,[]⟩]
def YK:List AA:=[
  ⟨none,.p2 (AC Try.prog 23),[(.var 1),(.const (.int .i64 (0)))],.push,[]⟩,
  ⟨none,.r1 (fun s a=>AD Try.prog s 3 a),[.loc 0],.push,[]⟩,
  ⟨none,.call 71,[.var 0,.loc 0,.var 3],.push,[]⟩]
def c66:Ar:=⟨3,5,(.seq (.ops gD) (.seq (.ops YJ) (.seq (.ops gE) (.seq (.seq (.ops gF) (.cond (.var 4)
  (.seq (.ops gG) (.ops gH))
  .skip)) (.ops YK))))),[]⟩
def eK:List AA:=[
  ⟨none,.p1 some,[(.const (.int .i64 (0)))],(.set 2),[]⟩]
def eM:List AA:=[
  ⟨none,.p2 (AI Try.prog .eql 44),[(.var 0),(.const (.ptr none))],(.set 7),[]⟩]
def mt:List AA:=[
  ⟨none,.p1 some,[(.const (.int .i64 (2)))],(.set 2),[]⟩]
def eO:List AA:=[
  ⟨none,.call 63,[(.var 0),(.const (.int .i64 (0)))],.push,[]⟩]
def eP:List AA:=[
  ⟨none,.p1 some,[(.const (.int .i64 (32)))],(.set 3),[]⟩]
def eQ:List AA:=[
  ⟨none,.p1 some,[(.const (.int .i64 (0)))],(.set 4),[]⟩]
def Xi:List AA:=[
  ⟨none,.p1 AE,[.var 0],.push,[]⟩,
  ⟨none,.p1 (fun x=>AB Try.prog 91 x 10),[.loc 0],.push,[]⟩,
  ⟨none,.r1 (fun s a=>AD Try.prog s 4 a),[.loc 0],.push,[]⟩,
  ⟨none,.p1 (unA Try.prog Go.UnOp.not),[.loc 0],(.set 8),[]⟩]
def eR:List AA:=[
  ⟨none,.call 64,[.var 0],.push,[]⟩,
  ⟨none,.p1 some,[.loc 0],(.set 5),[]⟩]
def Xj:List AA:=[
  ⟨none,.p2 (AI Try.prog .neq 92),[(.var 5),(.const (.ptr none))],(.set 9),[]⟩]
def eS:List AA:=[
  ⟨none,.p1 AE,[.var 0],.push,[]⟩,
  ⟨none,.p1 (fun x=>AB Try.prog 91 x 8),[.loc 0],.push,[]⟩,
  ⟨none,.r1 (fun s a=>AD Try.prog s 23 a),[.loc 0],.push,[]⟩,
  ⟨none,.r (fun s l=>match l with | [x]=>Ao Try.prog s 23 x | _=>none),[.loc 0],.push,[]⟩,
  ⟨none,.p2 (AI Try.prog .eql 3),[(.loc 0),(.const (.int .i64 (0)))],.push,[]⟩,
  ⟨none,.p1 some,[.loc 0],(.set 10),[]⟩]
def XV:List AA:=[
  ⟨none,.call 65,[.var 0],.push,[]⟩]
def Q7:List AA:=[
  ⟨none,.p2 (AI Try.prog .geq 3),[.var 4,.var 1],.push,[]⟩,
  ⟨none,.p1 some,[.loc 0],(.set 11),[]⟩]
def XW:List AA:=[
  ⟨none,.call 63,[(.var 0),(.const (.int .i64 (0)))],.push,[]⟩]
def XX:List AA:=[
  ⟨none,.p1 some,[(.const (.int .i64 (2)))],(.set 2),[]⟩]
def XY:List AA:=[
  ⟨none,.p1 some,[.var 4],.push,[]⟩,
  ⟨none,.p2 (AI Try.prog .add 3),[(.loc 0),(.const (.int .i64 (1)))],.push,[]⟩,
  ⟨none,.p1 some,[.loc 0],(.set 4),[]⟩]
def Q8:List AA:=[
  ⟨none,.p1 AE,[.var 0],.push,[]⟩,
  ⟨none,.p1 (fun x=>AB Try.prog 91 x 13),[.loc 0],.push,[]⟩,
  ⟨none,.r1 (fun s a=>AD Try.prog s 3 a),[.loc 0],.push,[]⟩,
  ⟨none,.p2 (AI Try.prog .add 3),[(.loc 0),(.const (.int .i64 (1)))],.push,[]⟩,
  ⟨none,.p1 AE,[.var 0],.push,[]⟩,
  ⟨none,.p1 (fun x=>AB Try.prog 91 x 13),[.loc 0],.push,[]⟩,
  ⟨none,.e (fun s=>on2 (fun a x=>AT (AN Try.prog s 3 a x))),[.loc 0,.loc 2],.push,[]⟩]
def Q9:List AA:=[
  ⟨none,.call 67,[.var 0,.var 5],.push,[]⟩,
  ⟨none,.p1 (fun x=>Rp x 0),[.loc 0],.push,[]⟩,
  ⟨none,.p1 (fun x=>Rp x 1),[.loc 1],.push,[]⟩,
  ⟨none,.call 66,[.var 0,.loc 1,.loc 0],.push,[]⟩]
def XZ:List AA:=[
  ⟨none,.p2 (AI Try.prog .geq 3),[.var 4,.var 3],(.set 12),[]⟩]
def Xa:List AA:=[
  ⟨none,.p1 some,[.var 3],.push,[]⟩,
  ⟨none,.p2 (AI Try.prog .add 3),[(.loc 0),(.const (.int .i64 (32)))],.push,[]⟩,
  ⟨none,.p1 some,[.loc 0],(.set 3),[]⟩]
def Xb:List AA:=[
  ⟨none,.call 68,[.var 0],.push,[]⟩]
def Xc:List AA:=[
  ⟨none,.call 63,[(.var 0),(.const (.int .i64 (0)))],.push,[]⟩]
def Xd:List AA:=[
  ⟨none,.call 69,[.var 0],.push,[]⟩]
def Xe:List AA:=[
  ⟨none,.call 70,[.var 0],.push,[]⟩,
  ⟨none,.p1 some,[.loc 0],(.set 6),[]⟩]
def RA:List AA:=[
  ⟨none,.p2 (AI Try.prog .eql 3),[(.var 6),(.const (.int .i64 (0)))],(.set 13),[]⟩]
def RC:List AA:=[
  ⟨none,.p1 AE,[.var 0],.push,[]⟩,
  ⟨none,.p1 (fun x=>AB Try.prog 91 x 2),[.loc 0],.push,[]⟩,
  ⟨none,.r1 (fun s a=>AD Try.prog s 23 a),[.loc 0],.push,[]⟩,
  ⟨none,.call 60,[.loc 0],.push,[]⟩,
  ⟨none,.p1 AE,[.var 0],.push,[]⟩,
  ⟨none,.p1 (fun x=>AB Try.prog 91 x 11),[.loc 0],.push,[]⟩,
  ⟨none,.e (fun s=>on2 (fun a x=>AT (AN Try.prog s 23 a x))),[.loc 0,.loc 2],.push,[]⟩]
def Xf:List AA:=[
  ⟨none,.call 63,[(.var 0),(.const (.int .i64 (0)))],.push,[]⟩]
def Xg:List AA:=[
  ⟨none,.p1 some,[(.const (.int .i64 (1)))],(.set 2),[]⟩]
def RD:List AA:=[
  ⟨none,.p1 AE,[.var 0],.push,[]⟩,
  ⟨none,.p1 (fun x=>AB Try.prog 91 x 8),[.loc 0],.push,[]⟩,
  ⟨none,.r1 (fun s a=>AD Try.prog s 23 a),[.loc 0],.push,[]⟩,
  ⟨none,.p1 AE,[.var 0],.push,[]⟩,
  ⟨none,.p1 (fun x=>AB Try.prog 91 x 7),[.loc 0],.push,[]⟩,
  ⟨none,.r1 (fun s a=>AD Try.prog s 23 a),[.loc 0],.push,[]⟩,
  ⟨none,.r (fun s l=>match l with | [x]=>Ao Try.prog s 23 x | _=>none),[.loc 0],.push,[]⟩,
  ⟨none,.mk (fun l=>(Ad Try.prog 23 1 (zipIdx [0] l)).bind fun r=>some (r,.slice 1)),[.loc 0],.push,[]⟩,
  ⟨none,.e (fun s l=>AY Try.prog s [23,23] l),[.loc 5,.loc 0],.push,[]⟩,
  ⟨none,.p1 AE,[.var 0],.push,[]⟩,
  ⟨none,.p1 (fun x=>AB Try.prog 91 x 8),[.loc 0],.push,[]⟩,
  ⟨none,.e (fun s=>on2 (fun a x=>AT (AN Try.prog s 23 a x))),[.loc 0,.loc 2],.push,[]⟩]
def RE:List AA:=[
  ⟨none,.p1 AE,[.var 0],.push,[]⟩,
  ⟨none,.p1 (fun x=>AB Try.prog 91 x 6),[.loc 0],.push,[]⟩,
  ⟨none,.r1 (fun s a=>AD Try.prog s 23 a),[.loc 0],.push,[]⟩,
  ⟨none,.p2 (AC Try.prog 23),[.loc 0,.var 6],.push,[]⟩,
  ⟨none,.r1 (fun s a=>AD Try.prog s 3 a),[.loc 0],.push,[]⟩,
  ⟨none,.p2 (AI Try.prog .mul 3),[.var 6,.loc 0],.push,[]⟩,
  ⟨none,.call 71,[(.var 0),(.loc 0),(.const (.ptr none))],.push,[]⟩]
def FT:AX:=(.seq (.seq (.ops Xi) (.cond (.var 8)
  .skip
  (.exit 0))) (.block 1 (.seq (.seq (.ops eR) (.seq (.ops Xj) (.cond (.var 9)
  (.seq (.block 2 (.seq (.ops eS) (.cond (.var 10)
  (.ops XV)
  (.seq (.ops Q7) (.cond (.var 11)
  (.seq (.ops XW) (.seq (.ops XX) .ret))
  (.seq (.ops XY) (.seq (.ops Q8) (.ops Q9)))))))) (.exit 1))
  .skip))) (.seq (.seq (.ops XZ) (.cond (.var 12)
  (.seq (.ops Xa) (.seq (.ops Xb) (.seq (.ops Xc) (.seq (.ops Xd) (.exit 1)))))
  .skip)) (.seq (.ops Xe) (.seq (.seq (.ops RA) (.cond (.var 13)
  (.seq (.ops RC) (.seq (.ops Xf) (.seq (.ops Xg) .ret)))
  .skip)) (.seq (.ops RD) (.ops RE))))))))
def Xh:List AA:=[
  ⟨none,.p1 some,[(.const (.int .i64 (0)))],(.set 2),[]⟩]
def c34:Ar:=⟨2,14,(.seq (.ops eK) (.seq (.seq (.ops eM) (.cond (.var 7)
  (.seq (.ops mt) .ret)
  .skip)) (.seq (.ops eO) (.seq (.ops eP) (.seq (.seq (.ops eQ) (.block 0 (.loop FT))) (.seq (.ops Xh) .ret)))))),[((.var 2),none)]⟩
def eo:List AA:=[
  ⟨none,.p1 some,[(.const (.slice none 0 (some 0)))],(.set 1),[]⟩]
def eq:List AA:=[
  ⟨none,.p2 (AI Try.prog .eql 44),[(.var 0),(.const (.ptr none))],(.set 3),[]⟩]
def my:List AA:=[
  ⟨none,.p1 some,[(.const (.slice none 0 (some 0)))],(.set 1),[]⟩]
def er:List AA:=[
  ⟨none,.p1 AE,[.var 0],.push,[]⟩,
  ⟨none,.p1 (fun x=>AB Try.prog 91 x 12),[.loc 0],.push,[]⟩,
  ⟨none,.r1 (fun s a=>AD Try.prog s 33 a),[.loc 0],(.set 4),[]⟩,
  ⟨none,.r (fun s l=>match l with | [x]=>Ao Try.prog s 33 x | _=>none),[.var 4],(.set 5),[]⟩,
  ⟨none,.p1 some,[(.const (.int .i64 (0)))],(.set 6),[]⟩]
def Xl:List AA:=[
  ⟨none,.p2 (AI Try.prog .lss 3),[.var 6,.var 5],(.set 7),[]⟩]
def eu:List AA:=[
  ⟨none,.p2 (AC Try.prog 33),[.var 4,.var 6],.push,[]⟩,
  ⟨none,.r1 (fun s a=>AD Try.prog s 27 a),[.loc 0],.push,[]⟩,
  ⟨none,.mk (fun l=>match l with | []=>BE Try.prog 27 | _=>none),[],(.set 2),[]⟩,
  ⟨none,.e (fun s=>on2 (fun a x=>AT (AN Try.prog s 27 a x))),[.var 2,.loc 0],.push,[]⟩]
def ey:List AA:=[
  ⟨none,.p1 some,[.var 1],.push,[]⟩,
  ⟨none,.p1 (fun x=>AB Try.prog 27 x 0),[.var 2],.push,[]⟩,
  ⟨none,.r1 (fun s a=>AD Try.prog s 4 a),[.loc 0],.push,[]⟩,
  ⟨none,.p1 (fun x=>AB Try.prog 27 x 1),[.var 2],.push,[]⟩,
  ⟨none,.r1 (fun s a=>AD Try.prog s 23 a),[.loc 0],.push,[]⟩,
  ⟨none,.call 60,[.loc 0],.push,[⟨none,.r1 (fun s a=>AD Try.prog s 4 a),[.loc 4],(.loc 3)⟩]⟩,
  ⟨none,.p (fun l=>Bz Try.prog 27 (zipIdx [0,1] l)),[.loc 3,.loc 0],.push,[]⟩,
  ⟨none,.mk (fun l=>(Ad Try.prog 33 1 (zipIdx [0] l)).bind fun r=>some (r,.slice 1)),[.loc 0],.push,[]⟩,
  ⟨none,.e (fun s l=>AY Try.prog s [33,33] l),[.loc 7,.loc 0],.push,[]⟩,
  ⟨none,.p1 some,[.loc 0],(.set 1),[]⟩]
def ez:List AA:=[
  ⟨none,.p2 (AI Try.prog .add 3),[(.var 6),(.const (.int .i64 (1)))],.push,[]⟩,
  ⟨none,.p1 some,[.loc 0],(.set 6),[]⟩]
def Ob:AX:=(.seq (.ops Xl) (.seq (.cond (.var 7)
  .skip
  (.exit 0)) (.seq (.block 1 (.seq (.ops eu) (.ops ey))) (.ops ez))))
def Xm:List AA:=[
  ⟨none,.p1 some,[.var 1],.push,[]⟩,
  ⟨none,.p1 some,[.loc 0],(.set 1),[]⟩]
def c43:Ar:=⟨1,8,(.seq (.ops eo) (.seq (.seq (.ops eq) (.cond (.var 3)
  (.seq (.ops my) .ret)
  .skip)) (.seq (.seq (.ops er) (.block 0 (.loop Ob))) (.seq (.ops Xm) .ret)))),[((.var 1),none)]⟩
theorem lC:AQ Try.prog 90=some c90:=by kernel_rfl
theorem lD:AQ Try.prog 91=some c91:=by kernel_rfl
theorem ku:AQ Try.prog 77=some c77:=by kernel_rfl
theorem km:AQ Try.prog 71=some c71:=by kernel_rfl
theorem kv:AQ Try.prog 78=some c78:=by kernel_rfl
theorem kc:AQ Try.prog 63=some c63:=by kernel_rfl
theorem kf:AQ Try.prog 65=some c65:=by kernel_rfl
theorem kQ:AQ Try.prog 47=some c47:=by kernel_rfl
theorem kP:AQ Try.prog 46=some c46:=by kernel_rfl
theorem kN:AQ Try.prog 40=some c40:=by kernel_rfl
theorem ki:AQ Try.prog 68=some c68:=by kernel_rfl
theorem kj:AQ Try.prog 69=some c69:=by kernel_rfl
theorem kl:AQ Try.prog 70=some c70:=by kernel_rfl
theorem lH:AQ Try.prog 99=some c99:=by kernel_rfl
theorem kn:AQ Try.prog 72=some c72:=by kernel_rfl
theorem kp:AQ Try.prog 73=some c73:=by kernel_rfl
theorem cA:AQ Try.prog 100=some mP:=by kernel_rfl
theorem cB:AQ Try.prog 101=some mQ:=by kernel_rfl
theorem cK:AQ Try.prog 113=some mX:=by kernel_rfl
theorem kq:AQ Try.prog 74=some c74:=by kernel_rfl
theorem kr:AQ Try.prog 75=some c75:=by kernel_rfl
theorem ks:AQ Try.prog 76=some c76:=by kernel_rfl
theorem cC:AQ Try.prog 102=some mR:=by kernel_rfl
theorem cL:AQ Try.prog 114=some jU:=by kernel_rfl
theorem kM:AQ Try.prog 36=some c36:=by kernel_rfl
theorem cI:AQ Try.prog 110=some mV:=by kernel_rfl
theorem lE:AQ Try.prog 92=some c92:=by kernel_rfl
theorem ke:AQ Try.prog 64=some c64:=by kernel_rfl
theorem lF:AQ Try.prog 93=some c93:=by kernel_rfl
theorem cJ:AQ Try.prog 111=some mW:=by kernel_rfl
theorem kh:AQ Try.prog 67=some c67:=by kernel_rfl
theorem lZ:DV Try.prog 67=[0,1,2,4,5,6,7,8,9,10,11,13,14,15,25,26,45,70,87,121,131]:=by kernel_rfl
theorem ca67:E0 Try.prog 67 a67=some nQ:=by kernel_rfl
theorem cb67:E0 Try.prog 67 b67=some nR:=by kernel_rfl
theorem lG:AQ Try.prog 95=some c95:=by kernel_rfl
theorem kg:AQ Try.prog 66=some c66:=by kernel_rfl
theorem kL:AQ Try.prog 34=some c34:=by kernel_rfl
theorem kO:AQ Try.prog 43=some c43:=by kernel_rfl
end
end Go.Proofs.Ytilhhmkdcoajnaa.Am
