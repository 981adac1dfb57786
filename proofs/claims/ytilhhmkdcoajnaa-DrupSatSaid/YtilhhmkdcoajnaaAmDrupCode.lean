/- The compiled code of the functions of layer 20, printed by a program of ours (dev/Print.lean) and checked by the kernel; conditions: none. -/
import Derived.Test.YtilhhmkdcoajnaaRows
import Derived.Test.YtilhhmkdcoajnaaAmGrow
set_option linter.unusedVariables false
set_option linter.unusedSimpArgs false
namespace Go.Proofs.Ytilhhmkdcoajnaa.Am
open Go Go.Proofs
noncomputable section
theorem sz3:BB Try.prog 3=some 1:=by kernel_rfl
theorem by3:CM Try.prog 3=some 8:=by kernel_rfl
theorem ag3:Ey Try.prog 3=some false:=by kernel_rfl
theorem zr3:B9 Try.prog 3=some (.int .i64 (0)):=by kernel_rfl
theorem sz4:BB Try.prog 4=some 1:=by kernel_rfl
theorem ag4:Ey Try.prog 4=some false:=by kernel_rfl
theorem zr4:B9 Try.prog 4=some (.bool false):=by kernel_rfl
theorem aW:BB Try.prog 22=some 1:=by kernel_rfl
theorem MB:Ey Try.prog 22=some false:=by kernel_rfl
theorem oB:B9 Try.prog 22=some (.slice none 0 (some 0)):=by kernel_rfl
theorem BU:BB Try.prog 23=some 1:=by kernel_rfl
theorem OZ:CM Try.prog 23=some 24:=by kernel_rfl
theorem C1:Ey Try.prog 23=some false:=by kernel_rfl
theorem TD:B9 Try.prog 23=some (.slice none 0 (some 0)):=by kernel_rfl
theorem OK:BB Try.prog 27=some 2:=by kernel_rfl
theorem mO:CM Try.prog 27=some 32:=by kernel_rfl
theorem mJ:Ey Try.prog 27=some true:=by kernel_rfl
theorem TE:B9 Try.prog 27=some (.agg [(.bool false),(.slice none 0 (some 0))]):=by kernel_rfl
theorem GL:BB Try.prog 33=some 1:=by kernel_rfl
theorem MC:Ey Try.prog 33=some false:=by kernel_rfl
theorem sz69:BB Try.prog 69=some 1:=by kernel_rfl
theorem mK:Ey Try.prog 69=some false:=by kernel_rfl
theorem zr69:B9 Try.prog 69=some (.map none):=by kernel_rfl
theorem sz76:BB Try.prog 76=some 1:=by kernel_rfl
theorem ag76:Ey Try.prog 76=some false:=by kernel_rfl
theorem sz77:BB Try.prog 77=some 1:=by kernel_rfl
theorem ag77:Ey Try.prog 77=some false:=by kernel_rfl
def Od:List AA:=[
  ⟨none,.p1 some,[(.const (.int .i64 (0)))],(.set 1),[]⟩,
  ⟨none,.p1 some,[(.const (.int .i64 (0)))],(.set 2),[]⟩]
def Oe:List AA:=[
  ⟨none,.p2 (AI Try.prog .gtr 3),[(.var 0),(.const (.int .i64 (0)))],.push,[]⟩,
  ⟨none,.p1 some,[.loc 0],(.set 3),[]⟩]
def Of:List AA:=[
  ⟨none,.p1 some,[.var 0],(.set 1),[]⟩,
  ⟨none,.p1 some,[(.const (.int .i64 (1)))],(.set 2),[]⟩]
def Og:List AA:=[
  ⟨none,.p2 (AI Try.prog .lss 3),[(.var 0),(.const (.int .i64 (0)))],.push,[]⟩,
  ⟨(some ((.loc 0),true)),.p1 some,[.var 0],.push,[]⟩,
  ⟨(some ((.loc 1),true)),.p1 (unA Try.prog Go.UnOp.neg),[.loc 0],.push,[]⟩,
  ⟨(some ((.loc 2),true)),.p2 (AI Try.prog .gtr 3),[(.loc 0),(.const (.int .i64 (0)))],.push,[]⟩,
  ⟨none,.p Rn,[(.loc 3),(.loc 0),(.const (.bool false))],.push,[]⟩,
  ⟨none,.p1 some,[.loc 0],(.set 4),[]⟩]
def Oh:List AA:=[
  ⟨none,.p1 (unA Try.prog Go.UnOp.neg),[.var 0],.push,[]⟩,
  ⟨none,.p1 some,[.loc 0],(.set 1),[]⟩,
  ⟨none,.p1 some,[(.const (.int .i64 (-1)))],(.set 2),[]⟩]
def Oi:List AA:=[
  ⟨none,.p1 some,[(.const (.int .i64 (0)))],(.set 1),[]⟩,
  ⟨none,.p1 some,[(.const (.int .i64 (0)))],(.set 2),[]⟩]
def c48:Ar:=⟨1,5,(.seq (.ops Od) (.seq (.block 0 (.seq (.ops Oe) (.cond (.var 3)
  (.seq (.ops Of) .ret)
  (.seq (.ops Og) (.cond (.var 4)
  (.seq (.ops Oh) .ret)
  .skip))))) (.seq (.ops Oi) .ret))),[((.var 1),none),((.var 2),none)]⟩
def fE:List AA:=[
  ⟨none,.p1 some,[(.const (.int .i64 (0)))],(.set 2),[]⟩]
def fF:List AA:=[
  ⟨none,.call 48,[.var 1],.push,[]⟩,
  ⟨none,.p1 (fun x=>Rp x 0),[.loc 0],.push,[]⟩,
  ⟨none,.p1 (fun x=>Rp x 1),[.loc 1],.push,[]⟩,
  ⟨none,.p1 some,[.loc 1],(.set 3),[]⟩,
  ⟨none,.p1 some,[.loc 0],(.set 4),[]⟩]
def fG:List AA:=[
  ⟨none,.p2 (AI Try.prog .eql 3),[(.var 4),(.const (.int .i64 (0)))],(.set 5),[]⟩]
def fH:List AA:=[
  ⟨none,.p1 some,[(.const (.int .i64 (-1)))],(.set 2),[]⟩]
def fI:List AA:=[
  ⟨none,.r (fun s=>on2 (fun m k=>C6 Try.prog s 69 m k false)),[.var 0,.var 3],.push,[]⟩,
  ⟨none,.p2 (AI Try.prog .mul 3),[.loc 0,.var 4],.push,[]⟩,
  ⟨none,.p1 some,[.loc 0],(.set 2),[]⟩]
def c49:Ar:=⟨2,6,(.seq (.ops fE) (.seq (.ops fF) (.seq (.seq (.ops fG) (.cond (.var 5)
  (.seq (.ops fH) .ret)
  .skip)) (.seq (.ops fI) .ret)))),[((.var 2),none)]⟩
def fJ:List AA:=[
  ⟨none,.call 48,[.var 1],.push,[]⟩,
  ⟨none,.p1 (fun x=>Rp x 0),[.loc 0],.push,[]⟩,
  ⟨none,.p1 (fun x=>Rp x 1),[.loc 1],.push,[]⟩,
  ⟨none,.p1 some,[.loc 1],(.set 2),[]⟩,
  ⟨none,.p1 some,[.loc 0],(.set 3),[]⟩]
def fK:List AA:=[
  ⟨none,.e (fun s=>on3 (fun m k x=>AT (ED Try.prog s 69 m k x))),[.var 0,.var 2,.var 3],.push,[]⟩]
def c50:Ar:=⟨2,4,(.seq (.ops fJ) (.ops fK)),[]⟩
def fO:List AA:=[
  ⟨none,.p1 some,[(.const (.int .i64 (0)))],(.set 2),[]⟩,
  ⟨none,.p1 some,[(.const (.int .i64 (0)))],(.set 3),[]⟩]
def fP:List AA:=[
  ⟨none,.p1 some,[.var 1],(.set 6),[]⟩,
  ⟨none,.r (fun s l=>match l with | [x]=>Ao Try.prog s 23 x | _=>none),[.var 6],(.set 7),[]⟩,
  ⟨none,.p1 some,[(.const (.int .i64 (0)))],(.set 8),[]⟩]
def Xw:List AA:=[
  ⟨none,.p2 (AI Try.prog .lss 3),[.var 8,.var 7],(.set 9),[]⟩]
def fQ:List AA:=[
  ⟨none,.p2 (AC Try.prog 23),[.var 6,.var 8],.push,[]⟩,
  ⟨none,.r1 (fun s a=>AD Try.prog s 3 a),[.loc 0],.push,[]⟩,
  ⟨none,.p1 some,[.loc 0],(.set 4),[]⟩]
def fR:List AA:=[
  ⟨none,.call 49,[.var 0,.var 4],.push,[]⟩,
  ⟨none,.p1 some,[.loc 0],(.set 5),[]⟩]
def MW:List AA:=[
  ⟨none,.p2 (AI Try.prog .gtr 3),[(.var 5),(.const (.int .i64 (0)))],.push,[]⟩,
  ⟨none,.p1 some,[.loc 0],(.set 10),[]⟩]
def fS:List AA:=[
  ⟨none,.p1 some,[(.const (.int .i64 (0)))],(.set 2),[]⟩,
  ⟨none,.p1 some,[(.const (.int .i64 (2)))],(.set 3),[]⟩]
def Oj:List AA:=[
  ⟨none,.p2 (AI Try.prog .lss 3),[(.var 5),(.const (.int .i64 (0)))],.push,[]⟩,
  ⟨(some ((.loc 0),false)),.p1 some,[.var 3],.push,[]⟩,
  ⟨(some ((.loc 1),false)),.p2 (AI Try.prog .eql 3),[(.loc 0),(.const (.int .i64 (1)))],.push,[]⟩,
  ⟨(some ((.loc 2),false)),.p1 some,[.loc 0],.push,[]⟩,
  ⟨(some ((.loc 0),true)),.p1 some,[.var 4],.push,[]⟩,
  ⟨(some ((.loc 1),true)),.p1 some,[.var 2],.push,[]⟩,
  ⟨(some ((.loc 2),true)),.p2 (AI Try.prog .eql 3),[.loc 1,.loc 0],.push,[]⟩,
  ⟨(some ((.loc 6),false)),.p Rn,[(.loc 3),(.loc 0),(.const (.bool false))],.push,[]⟩,
  ⟨none,.p Rn,[(.loc 7),(.const (.bool true)),(.loc 0)],.push,[]⟩,
  ⟨none,.p1 some,[.loc 0],(.set 11),[]⟩]
def Xx:List AA:=[
  ⟨none,.p1 some,[.var 3],.push,[]⟩,
  ⟨none,.p2 (AI Try.prog .add 3),[(.loc 0),(.const (.int .i64 (1)))],.push,[]⟩,
  ⟨none,.p1 some,[.loc 0],(.set 3),[]⟩]
def Xy:List AA:=[
  ⟨none,.p2 (AI Try.prog .gtr 3),[(.var 3),(.const (.int .i64 (1)))],(.set 12),[]⟩]
def Xt:List AA:=[
  ⟨none,.p1 some,[(.const (.int .i64 (0)))],(.set 2),[]⟩,
  ⟨none,.p1 some,[(.const (.int .i64 (2)))],(.set 3),[]⟩]
def Xu:List AA:=[
  ⟨none,.p1 some,[.var 4],(.set 2),[]⟩]
def Kl:List AA:=[
  ⟨none,.p2 (AI Try.prog .add 3),[(.var 8),(.const (.int .i64 (1)))],.push,[]⟩,
  ⟨none,.p1 some,[.loc 0],(.set 8),[]⟩]
def Kk:AX:=(.seq (.ops Xw) (.seq (.cond (.var 9)
  .skip
  (.exit 0)) (.seq (.block 1 (.seq (.ops fQ) (.seq (.seq (.ops fR) (.block 2 (.seq (.ops MW) (.cond (.var 10)
  (.seq (.ops fS) .ret)
  (.seq (.ops Oj) (.cond (.var 11)
  (.exit 1)
  .skip)))))) (.seq (.seq (.ops Xx) (.seq (.ops Xy) (.cond (.var 12)
  (.seq (.ops Xt) .ret)
  .skip))) (.ops Xu))))) (.ops Kl))))
def Xv:List AA:=[
  ⟨none,.p1 some,[.var 2],.push,[]⟩,
  ⟨none,.p1 some,[.var 3],.push,[]⟩,
  ⟨none,.p1 some,[.loc 1],(.set 2),[]⟩,
  ⟨none,.p1 some,[.loc 0],(.set 3),[]⟩]
def c52:Ar:=⟨2,13,(.seq (.ops fO) (.seq (.seq (.ops fP) (.block 0 (.loop Kk))) (.seq (.ops Xv) .ret))),[((.var 2),none),((.var 3),none)]⟩
def fL:List AA:=[
  ⟨none,.p1 some,[(.const (.bool false))],(.set 2),[]⟩,
  ⟨none,.p1 some,[(.const (.bool false))],(.set 3),[]⟩]
def fM:List AA:=[
  ⟨none,.r1 (fun s a=>AD Try.prog s 69 a),[.var 1],.push,[]⟩,
  ⟨none,.call 52,[.loc 0,.var 0],.push,[]⟩,
  ⟨none,.p1 (fun x=>Rp x 0),[.loc 0],.push,[]⟩,
  ⟨none,.p1 (fun x=>Rp x 1),[.loc 1],.push,[]⟩,
  ⟨none,.p1 some,[.loc 1],(.set 4),[]⟩,
  ⟨none,.p1 some,[.loc 0],(.set 5),[]⟩]
def Xr:List AA:=[
  ⟨none,.p2 (AI Try.prog .eql 3),[(.var 5),(.const (.int .i64 (1)))],(.set 6),[]⟩]
def fN:List AA:=[
  ⟨none,.r1 (fun s a=>AD Try.prog s 69 a),[.var 1],.push,[]⟩,
  ⟨none,.call 50,[.loc 0,.var 4],.push,[]⟩]
def Xs:List AA:=[
  ⟨none,.p2 (AI Try.prog .eql 3),[(.var 5),(.const (.int .i64 (1)))],.push,[]⟩,
  ⟨none,.p2 (AI Try.prog .eql 3),[(.var 5),(.const (.int .i64 (0)))],.push,[]⟩,
  ⟨none,.p1 some,[.loc 1],(.set 2),[]⟩,
  ⟨none,.p1 some,[.loc 0],(.set 3),[]⟩]
def c51:Ar:=⟨2,7,(.seq (.ops fL) (.seq (.ops fM) (.seq (.seq (.ops Xr) (.cond (.var 6)
  (.ops fN)
  .skip)) (.seq (.ops Xs) .ret)))),[((.var 2),none),((.var 3),none)]⟩
def dj:List AA:=[
  ⟨none,.p1 some,[(.const (.bool false))],(.set 2),[]⟩]
def dk:List AA:=[
  ⟨none,.mk (fun l=>match l with | []=>some (.map [] 0,.map) | _=>none),[],.push,[]⟩,
  ⟨none,.mk (fun l=>match l with | []=>BE Try.prog 69 | _=>none),[],(.set 3),[]⟩,
  ⟨none,.e (fun s=>on2 (fun a x=>AT (AN Try.prog s 69 a x))),[.var 3,.loc 0],.push,[]⟩]
def dm:List AA:=[
  ⟨none,.p1 some,[.var 1],(.set 11),[]⟩,
  ⟨none,.r (fun s l=>match l with | [x]=>Ao Try.prog s 23 x | _=>none),[.var 11],(.set 12),[]⟩,
  ⟨none,.p1 some,[(.const (.int .i64 (0)))],(.set 13),[]⟩]
def XD:List AA:=[
  ⟨none,.p2 (AI Try.prog .lss 3),[.var 13,.var 12],(.set 14),[]⟩]
def dp:List AA:=[
  ⟨none,.p2 (AC Try.prog 23),[.var 11,.var 13],.push,[]⟩,
  ⟨none,.r1 (fun s a=>AD Try.prog s 3 a),[.loc 0],.push,[]⟩,
  ⟨none,.p1 some,[.loc 0],(.set 4),[]⟩]
def dr:List AA:=[
  ⟨none,.call 48,[.var 4],.push,[]⟩,
  ⟨none,.p1 (fun x=>Rp x 0),[.loc 0],.push,[]⟩,
  ⟨none,.p1 (fun x=>Rp x 1),[.loc 1],.push,[]⟩,
  ⟨none,.p1 some,[.loc 1],.push,[]⟩,
  ⟨none,.p1 some,[.loc 1],(.set 5),[]⟩]
def XE:List AA:=[
  ⟨none,.p2 (AI Try.prog .eql 3),[(.var 5),(.const (.int .i64 (0)))],(.set 15),[]⟩]
def du:List AA:=[
  ⟨none,.r1 (fun s a=>AD Try.prog s 69 a),[.var 3],.push,[]⟩,
  ⟨none,.call 49,[.loc 0,.var 4],.push,[]⟩,
  ⟨none,.p2 (AI Try.prog .gtr 3),[(.loc 0),(.const (.int .i64 (0)))],(.set 16),[]⟩]
def dv:List AA:=[
  ⟨none,.p1 some,[(.const (.bool true))],(.set 2),[]⟩]
def dw:List AA:=[
  ⟨none,.r1 (fun s a=>AD Try.prog s 69 a),[.var 3],.push,[]⟩,
  ⟨none,.p1 (unA Try.prog Go.UnOp.neg),[.var 4],.push,[]⟩,
  ⟨none,.call 50,[.loc 1,.loc 0],.push,[]⟩]
def QZ:List AA:=[
  ⟨none,.p2 (AI Try.prog .add 3),[(.var 13),(.const (.int .i64 (1)))],.push,[]⟩,
  ⟨none,.p1 some,[.loc 0],(.set 13),[]⟩]
def NY:AX:=(.seq (.ops XD) (.seq (.cond (.var 14)
  .skip
  (.exit 0)) (.seq (.block 1 (.seq (.ops dp) (.seq (.seq (.ops dr) (.seq (.ops XE) (.cond (.var 15)
  (.exit 1)
  .skip))) (.seq (.seq (.ops du) (.cond (.var 16)
  (.seq (.ops dv) .ret)
  .skip)) (.ops dw))))) (.ops QZ))))
def W4:List AA:=[
  ⟨none,.p (fun l=>some (.func 51 (l.take 0) (l.drop 0))),[.var 3],.push,[]⟩,
  ⟨none,.p1 some,[.loc 0],(.set 6),[]⟩]
def W5:List AA:=[
  ⟨none,.p1 some,[(.const (.bool true))],(.set 7),[]⟩]
def Q0:List AA:=[
  ⟨none,.p1 some,[.var 7],(.set 17),[]⟩]
def W6:List AA:=[
  ⟨none,.p1 some,[(.const (.bool false))],(.set 7),[]⟩]
def W7:List AA:=[
  ⟨none,.p1 some,[.var 0],(.set 18),[]⟩,
  ⟨none,.r (fun s l=>match l with | [x]=>Ao Try.prog s 22 x | _=>none),[.var 18],(.set 19),[]⟩,
  ⟨none,.p1 some,[(.const (.int .i64 (0)))],(.set 20),[]⟩]
def Q1:List AA:=[
  ⟨none,.p2 (AI Try.prog .lss 3),[.var 20,.var 19],(.set 21),[]⟩]
def W8:List AA:=[
  ⟨none,.p2 (AC Try.prog 22),[.var 18,.var 20],.push,[]⟩,
  ⟨none,.r1 (fun s a=>AD Try.prog s 23 a),[.loc 0],.push,[]⟩,
  ⟨none,.p1 some,[.loc 0],(.set 8),[]⟩]
def W9:List AA:=[
  ⟨none,.callv,[.var 6,.var 8],.push,[]⟩,
  ⟨none,.p1 (fun x=>Rp x 0),[.loc 0],.push,[]⟩,
  ⟨none,.p1 (fun x=>Rp x 1),[.loc 1],.push,[]⟩,
  ⟨none,.p1 some,[.loc 1],(.set 9),[]⟩,
  ⟨none,.p1 some,[.loc 0],(.set 10),[]⟩]
def Nb:List AA:=[
  ⟨none,.p1 some,[.var 10],(.set 22),[]⟩]
def XA:List AA:=[
  ⟨none,.p1 some,[(.const (.bool true))],(.set 2),[]⟩]
def Q2:List AA:=[
  ⟨none,.p1 (unA Try.prog Go.UnOp.not),[.var 9],(.set 23),[]⟩]
def XB:List AA:=[
  ⟨none,.p1 some,[(.const (.bool true))],(.set 7),[]⟩]
def Q3:List AA:=[
  ⟨none,.p2 (AI Try.prog .add 3),[(.var 20),(.const (.int .i64 (1)))],.push,[]⟩,
  ⟨none,.p1 some,[.loc 0],(.set 20),[]⟩]
def NZ:AX:=(.seq (.ops Q1) (.seq (.cond (.var 21)
  .skip
  (.exit 4)) (.seq (.block 5 (.seq (.ops W8) (.seq (.ops W9) (.seq (.seq (.ops Nb) (.cond (.var 22)
  (.seq (.ops XA) .ret)
  .skip)) (.seq (.seq (.ops Q2) (.cond (.var 23)
  (.exit 5)
  .skip)) (.ops XB)))))) (.ops Q3))))
def Na:AX:=(.seq (.seq (.ops Q0) (.cond (.var 17)
  .skip
  (.exit 2))) (.block 3 (.seq (.ops W6) (.seq .skip (.seq (.ops W7) (.block 4 (.loop NZ)))))))
def XC:List AA:=[
  ⟨none,.p1 some,[(.const (.bool false))],(.set 2),[]⟩]
def c17:Ar:=⟨2,24,(.seq (.ops dj) (.seq (.ops dk) (.seq (.seq (.ops dm) (.block 0 (.loop NY))) (.seq (.ops W4) (.seq (.seq (.ops W5) (.block 2 (.loop Na))) (.seq (.ops XC) .ret)))))),[((.var 2),none)]⟩
def dx:List AA:=[
  ⟨none,.p1 some,[(.const (.slice none 0 (some 0)))],(.set 2),[]⟩]
def dy:List AA:=[
  ⟨none,.p1 some,[(.const (.slice none 0 (some 0)))],(.set 3),[]⟩]
def d6:List AA:=[
  ⟨none,.p1 some,[(.const (.int .i64 (0)))],(.set 4),[]⟩]
def Oa:List AA:=[
  ⟨none,.r (fun s l=>match l with | [x]=>Ao Try.prog s 30 x | _=>none),[.var 0],.push,[]⟩,
  ⟨none,.p2 (AI Try.prog .lss 3),[.var 4,.loc 0],.push,[]⟩,
  ⟨(some ((.loc 0),true)),.p1 some,[.var 4],.push,[]⟩,
  ⟨(some ((.loc 1),true)),.p2 (AI Try.prog .lss 3),[(.loc 0),(.const (.int .i64 (20)))],.push,[]⟩,
  ⟨none,.p Rn,[(.loc 2),(.loc 0),(.const (.bool false))],(.set 9),[]⟩]
def d7:List AA:=[
  ⟨none,.p1 some,[(.const (.slice none 0 (some 0)))],(.set 5),[]⟩]
def d8:List AA:=[
  ⟨none,.p1 some,[(.const (.int .i64 (0)))],(.set 6),[]⟩]
def MU:List AA:=[
  ⟨none,.p2 (AC Try.prog 30),[.var 0,.var 4],.push,[]⟩,
  ⟨none,.r1 (fun s a=>AD Try.prog s 76 a),[.loc 0],.push,[]⟩,
  ⟨none,.r (fun s l=>match l with | [x]=>Ao Try.prog s 76 x | _=>none),[.loc 0],.push,[]⟩,
  ⟨none,.p2 (AI Try.prog .lss 3),[.var 6,.loc 0],.push,[]⟩,
  ⟨(some ((.loc 0),true)),.p1 some,[.var 6],.push,[]⟩,
  ⟨(some ((.loc 1),true)),.p2 (AI Try.prog .lss 3),[(.loc 0),(.const (.int .i64 (5)))],.push,[]⟩,
  ⟨none,.p Rn,[(.loc 2),(.loc 0),(.const (.bool false))],(.set 10),[]⟩]
def XJ:List AA:=[
  ⟨none,.p2 (AC Try.prog 30),[.var 0,.var 4],.push,[]⟩,
  ⟨none,.r1 (fun s a=>AD Try.prog s 76 a),[.loc 0],.push,[]⟩,
  ⟨none,.p2 (AC Try.prog 76),[.loc 0,.var 6],.push,[]⟩,
  ⟨none,.r1 (fun s a=>AD Try.prog s 77 a),[.loc 0],.push,[]⟩,
  ⟨none,.r1 (fun s x=>Cj Try.prog s 77 3 x),[.loc 0],.push,[]⟩,
  ⟨none,.p1 some,[.loc 0],(.set 7),[]⟩]
def XK:List AA:=[
  ⟨none,.p1 (unA Try.prog Go.UnOp.neg),[.var 7],.push,[]⟩,
  ⟨none,.p (fun l=>match l with | v::l=>DU true v l | []=>none),[.var 7,.loc 0],.push,[]⟩,
  ⟨none,.p2 (AI Try.prog .rem 3),[.loc 0,.var 1],.push,[]⟩,
  ⟨none,.p2 (AI Try.prog .add 3),[(.const (.int .i64 (1))),(.loc 0)],.push,[]⟩,
  ⟨none,.p1 some,[.loc 0],(.set 8),[]⟩]
def XL:List AA:=[
  ⟨none,.p2 (AI Try.prog .lss 3),[(.var 7),(.const (.int .i64 (0)))],(.set 11),[]⟩]
def XF:List AA:=[
  ⟨none,.p1 some,[.var 8],.push,[]⟩,
  ⟨none,.p1 (unA Try.prog Go.UnOp.neg),[.loc 0],.push,[]⟩,
  ⟨none,.p1 some,[.loc 0],(.set 8),[]⟩]
def Q4:List AA:=[
  ⟨none,.p1 some,[.var 5],.push,[]⟩,
  ⟨none,.mk (fun l=>(Ad Try.prog 23 1 (zipIdx [0] l)).bind fun r=>some (r,.slice 1)),[.var 8],.push,[]⟩,
  ⟨none,.e (fun s l=>AY Try.prog s [23,23] l),[.loc 1,.loc 0],.push,[]⟩,
  ⟨none,.p1 some,[.loc 0],(.set 5),[]⟩]
def Q5:List AA:=[
  ⟨none,.p1 some,[.var 6],.push,[]⟩,
  ⟨none,.p2 (AI Try.prog .add 3),[(.loc 0),(.const (.int .i64 (1)))],.push,[]⟩,
  ⟨none,.p1 some,[.loc 0],(.set 6),[]⟩]
def GU:AX:=(.seq (.seq (.ops MU) (.cond (.var 10)
  .skip
  (.exit 2))) (.seq (.block 3 (.seq (.ops XJ) (.seq (.ops XK) (.seq (.seq (.ops XL) (.cond (.var 11)
  (.ops XF)
  .skip)) (.ops Q4))))) (.ops Q5)))
def XG:List AA:=[
  ⟨none,.p1 some,[.var 3],.push,[]⟩,
  ⟨none,.mk (fun l=>(Ad Try.prog 22 1 (zipIdx [0] l)).bind fun r=>some (r,.slice 1)),[.var 5],.push,[]⟩,
  ⟨none,.e (fun s l=>AY Try.prog s [22,22] l),[.loc 1,.loc 0],.push,[]⟩,
  ⟨none,.p1 some,[.loc 0],(.set 3),[]⟩]
def XH:List AA:=[
  ⟨none,.p1 some,[.var 4],.push,[]⟩,
  ⟨none,.p2 (AI Try.prog .add 3),[(.loc 0),(.const (.int .i64 (1)))],.push,[]⟩,
  ⟨none,.p1 some,[.loc 0],(.set 4),[]⟩]
def I3:AX:=(.seq (.seq (.ops Oa) (.cond (.var 9)
  .skip
  (.exit 0))) (.seq (.block 1 (.seq (.ops d7) (.seq (.seq (.ops d8) (.block 2 (.loop GU))) (.ops XG)))) (.ops XH)))
def XI:List AA:=[
  ⟨none,.p1 some,[.var 3],(.set 2),[]⟩]
def c22:Ar:=⟨2,12,(.seq (.ops dx) (.seq (.ops dy) (.seq (.seq (.ops d6) (.block 0 (.loop I3))) (.seq (.ops XI) .ret)))),[((.var 2),none)]⟩
def ff:List AA:=[
  ⟨none,.p1 some,[(.const (.bool false))],(.set 2),[]⟩]
def fg:List AA:=[
  ⟨none,.p1 some,[(.const (.int .i64 (0)))],(.set 3),[]⟩]
def X5:List AA:=[
  ⟨none,.r (fun s l=>match l with | [x]=>Ao Try.prog s 23 x | _=>none),[.var 1],.push,[]⟩,
  ⟨none,.p2 (AI Try.prog .lss 3),[.var 3,.loc 0],(.set 5),[]⟩]
def fh:List AA:=[
  ⟨none,.p2 (AC Try.prog 23),[.var 1,.var 3],.push,[]⟩,
  ⟨none,.r1 (fun s a=>AD Try.prog s 3 a),[.loc 0],.push,[]⟩,
  ⟨none,.p1 some,[.loc 0],(.set 4),[]⟩]
def MX:List AA:=[
  ⟨none,.p2 (AI Try.prog .gtr 3),[(.var 4),(.const (.int .i64 (0)))],.push,[]⟩,
  ⟨(some ((.loc 0),true)),.p1 some,[.var 0],.push,[]⟩,
  ⟨(some ((.loc 1),true)),.p1 some,[.var 4],.push,[]⟩,
  ⟨(some ((.loc 2),true)),.p2 (AI Try.prog .sub 3),[(.loc 0),(.const (.int .i64 (1)))],.push,[]⟩,
  ⟨(some ((.loc 3),true)),.p2 (AI Try.prog .shr 3),[.loc 2,.loc 0],.push,[]⟩,
  ⟨(some ((.loc 4),true)),.p2 (AI Try.prog .and 3),[(.loc 0),(.const (.int .i64 (1)))],.push,[]⟩,
  ⟨(some ((.loc 5),true)),.p2 (AI Try.prog .eql 3),[(.loc 0),(.const (.int .i64 (1)))],.push,[]⟩,
  ⟨none,.p Rn,[(.loc 6),(.loc 0),(.const (.bool false))],.push,[]⟩,
  ⟨(some ((.loc 0),false)),.p1 some,[.var 4],.push,[]⟩,
  ⟨(some ((.loc 1),false)),.p2 (AI Try.prog .lss 3),[(.loc 0),(.const (.int .i64 (0)))],.push,[]⟩,
  ⟨(some ((.loc 2),false)),.p1 some,[.loc 0],.push,[]⟩,
  ⟨(some ((.loc 0),true)),.p1 some,[.var 0],.push,[]⟩,
  ⟨(some ((.loc 1),true)),.p1 some,[.var 4],.push,[]⟩,
  ⟨(some ((.loc 2),true)),.p1 (unA Try.prog Go.UnOp.neg),[.loc 0],.push,[]⟩,
  ⟨(some ((.loc 3),true)),.p2 (AI Try.prog .sub 3),[(.loc 0),(.const (.int .i64 (1)))],.push,[]⟩,
  ⟨(some ((.loc 4),true)),.p2 (AI Try.prog .shr 3),[.loc 3,.loc 0],.push,[]⟩,
  ⟨(some ((.loc 5),true)),.p2 (AI Try.prog .and 3),[(.loc 0),(.const (.int .i64 (1)))],.push,[]⟩,
  ⟨(some ((.loc 6),true)),.p2 (AI Try.prog .eql 3),[(.loc 0),(.const (.int .i64 (0)))],.push,[]⟩,
  ⟨(some ((.loc 10),false)),.p Rn,[(.loc 7),(.loc 0),(.const (.bool false))],.push,[]⟩,
  ⟨none,.p Rn,[(.loc 11),(.const (.bool true)),(.loc 0)],(.set 6),[]⟩]
def fi:List AA:=[
  ⟨none,.p1 some,[(.const (.bool true))],(.set 2),[]⟩]
def fj:List AA:=[
  ⟨none,.p1 some,[.var 3],.push,[]⟩,
  ⟨none,.p2 (AI Try.prog .add 3),[(.loc 0),(.const (.int .i64 (1)))],.push,[]⟩,
  ⟨none,.p1 some,[.loc 0],(.set 3),[]⟩]
def Ol:AX:=(.seq (.seq (.ops X5) (.cond (.var 5)
  .skip
  (.exit 0))) (.seq (.block 1 (.seq (.ops fh) (.seq (.ops MX) (.cond (.var 6)
  (.seq (.ops fi) .ret)
  .skip)))) (.ops fj)))
def fk:List AA:=[
  ⟨none,.p1 some,[(.const (.bool false))],(.set 2),[]⟩]
def c62:Ar:=⟨2,7,(.seq (.ops ff) (.seq (.seq (.ops fg) (.block 0 (.loop Ol))) (.seq (.ops fk) .ret))),[((.var 2),none)]⟩
def eF:List AA:=[
  ⟨none,.p1 some,[(.const (.int .i64 (0)))],(.set 1),[]⟩]
def eG:List AA:=[
  ⟨none,.p1 some,[(.const (.int .i64 (0)))],(.set 2),[]⟩]
def eH:List AA:=[
  ⟨none,.p1 some,[(.const (.int .i64 (0)))],(.set 3),[]⟩]
def XS:List AA:=[
  ⟨none,.p2 (AI Try.prog .lss 3),[(.var 3),(.const (.int .i64 (64)))],(.set 6),[]⟩]
def eI:List AA:=[
  ⟨none,.p1 some,[(.const (.bool true))],(.set 4),[]⟩]
def eJ:List AA:=[
  ⟨none,.p1 some,[(.const (.int .i64 (0)))],(.set 5),[]⟩]
def TW:List AA:=[
  ⟨none,.r (fun s l=>match l with | [x]=>Ao Try.prog s 22 x | _=>none),[.var 0],.push,[]⟩,
  ⟨none,.p2 (AI Try.prog .lss 3),[.var 5,.loc 0],(.set 7),[]⟩]
def XT:List AA:=[
  ⟨none,.p1 some,[.var 4],.push,[]⟩,
  ⟨(some ((.loc 0),true)),.p1 some,[.var 3],.push,[]⟩,
  ⟨(some ((.loc 1),true)),.p1 some,[.var 0],.push,[]⟩,
  ⟨(some ((.loc 2),true)),.p1 some,[.var 5],.push,[]⟩,
  ⟨(some ((.loc 3),true)),.p2 (AC Try.prog 22),[.loc 1,.loc 0],.push,[]⟩,
  ⟨(some ((.loc 4),true)),.r1 (fun s a=>AD Try.prog s 23 a),[.loc 0],.push,[]⟩,
  ⟨(some ((.loc 5),true)),.call 62,[.loc 4,.loc 0],.push,[]⟩,
  ⟨none,.p Rn,[(.loc 6),(.loc 0),(.const (.bool false))],.push,[]⟩,
  ⟨none,.p1 some,[.loc 0],(.set 4),[]⟩]
def XU:List AA:=[
  ⟨none,.p1 some,[.var 5],.push,[]⟩,
  ⟨none,.p2 (AI Try.prog .add 3),[(.loc 0),(.const (.int .i64 (1)))],.push,[]⟩,
  ⟨none,.p1 some,[.loc 0],(.set 5),[]⟩]
def MV:AX:=(.seq (.seq (.ops TW) (.cond (.var 7)
  .skip
  (.exit 2))) (.seq (.block 3 (.ops XT)) (.ops XU)))
def XP:List AA:=[
  ⟨none,.p1 some,[.var 4],(.set 8),[]⟩]
def XQ:List AA:=[
  ⟨none,.p1 some,[.var 2],.push,[]⟩,
  ⟨none,.p2 (AI Try.prog .add 3),[(.loc 0),(.const (.int .i64 (1)))],.push,[]⟩,
  ⟨none,.p1 some,[.loc 0],(.set 2),[]⟩]
def Q6:List AA:=[
  ⟨none,.p1 some,[.var 3],.push,[]⟩,
  ⟨none,.p2 (AI Try.prog .add 3),[(.loc 0),(.const (.int .i64 (1)))],.push,[]⟩,
  ⟨none,.p1 some,[.loc 0],(.set 3),[]⟩]
def Kf:AX:=(.seq (.seq (.ops XS) (.cond (.var 6)
  .skip
  (.exit 0))) (.seq (.block 1 (.seq (.ops eI) (.seq (.seq (.ops eJ) (.block 2 (.loop MV))) (.seq (.ops XP) (.cond (.var 8)
  (.ops XQ)
  .skip))))) (.ops Q6)))
def XR:List AA:=[
  ⟨none,.p1 some,[.var 2],(.set 1),[]⟩]
def c30:Ar:=⟨1,9,(.seq (.ops eF) (.seq (.ops eG) (.seq (.seq (.ops eH) (.block 0 (.loop Kf))) (.seq (.ops XR) .ret)))),[((.var 1),none)]⟩
def fZ:List AA:=[
  ⟨none,.p1 some,[(.const (.slice none 0 (some 0)))],(.set 1),[]⟩]
def fa:List AA:=[
  ⟨none,.call 60,[.var 0],.push,[]⟩,
  ⟨none,.call 85,[(.loc 0),(.const (.func 86 [] []))],.push,[]⟩,
  ⟨none,.p1 some,[.loc 0],(.set 2),[]⟩]
def fb:List AA:=[
  ⟨none,.call 87,[.var 2],.push,[]⟩]
def fc:List AA:=[
  ⟨none,.call 88,[.var 2],.push,[]⟩,
  ⟨none,.p1 some,[.loc 0],(.set 1),[]⟩]
def c56:Ar:=⟨1,3,(.seq (.ops fZ) (.seq (.ops fa) (.seq (.ops fb) (.seq (.ops fc) .ret)))),[((.var 1),none)]⟩
def iP:List AA:=[
  ⟨none,.p1 some,[(.const (.bool false))],(.set 1),[]⟩]
def iQ:List AA:=[
  ⟨none,.call 48,[.var 0],.push,[]⟩,
  ⟨none,.p1 (fun x=>Rp x 0),[.loc 0],.push,[]⟩,
  ⟨none,.p1 (fun x=>Rp x 1),[.loc 1],.push,[]⟩,
  ⟨none,.p1 some,[.loc 1],.push,[]⟩,
  ⟨none,.p1 some,[.loc 1],(.set 2),[]⟩]
def iR:List AA:=[
  ⟨none,.p2 (AI Try.prog .eql 3),[(.var 2),(.const (.int .i64 (0)))],.push,[]⟩,
  ⟨none,.p1 some,[.loc 0],(.set 1),[]⟩]
def c86:Ar:=⟨1,3,(.seq (.ops iP) (.seq (.ops iQ) (.seq (.ops iR) .ret))),[((.var 1),none)]⟩
def fT:List AA:=[
  ⟨none,.mk (fun l=>match l with | [v]=>CL 33 v | _=>none),[.var 0],(.set 1),[]⟩,
  ⟨none,.p1 some,[(.const .nilFunc)],(.set 2),[]⟩]
def fU:List AA:=[
  ⟨none,.p (fun l=>some (.func 82 (l.take 0) (l.drop 0))),[.var 1],.push,[]⟩,
  ⟨none,.p1 some,[.loc 0],(.set 2),[]⟩]
def c54:Ar:=⟨1,3,(.seq (.ops fT) (.seq (.ops fU) .ret)),[((.var 2),none)]⟩
def gy:List AA:=[
  ⟨none,.p1 some,[(.const (.slice none 0 (some 0)))],(.set 2),[]⟩]
def gz:List AA:=[
  ⟨none,.r1 (fun s a=>AD Try.prog s 33 a),[.var 1],(.set 5),[]⟩,
  ⟨none,.r (fun s l=>match l with | [x]=>Ao Try.prog s 33 x | _=>none),[.var 5],(.set 6),[]⟩,
  ⟨none,.p1 some,[(.const (.int .i64 (0)))],(.set 7),[]⟩]
def YZ:List AA:=[
  ⟨none,.p2 (AI Try.prog .lss 3),[.var 7,.var 6],(.set 8),[]⟩]
def hH:List AA:=[
  ⟨none,.p2 (AC Try.prog 33),[.var 5,.var 7],.push,[]⟩,
  ⟨none,.r1 (fun s a=>AD Try.prog s 27 a),[.loc 0],.push,[]⟩,
  ⟨none,.mk (fun l=>match l with | []=>BE Try.prog 27 | _=>none),[],(.set 4),[]⟩,
  ⟨none,.p1 some,[.var 7],(.set 3),[]⟩,
  ⟨none,.e (fun s=>on2 (fun a x=>AT (AN Try.prog s 27 a x))),[.var 4,.loc 0],.push,[]⟩]
def hY:List AA:=[
  ⟨none,.callv,[.var 0,.var 3,.var 2],.push,[]⟩,
  ⟨none,.p1 (unA Try.prog Go.UnOp.not),[.loc 0],(.set 9),[]⟩]
def Yf:List AA:=[
  ⟨none,.p1 (fun x=>AB Try.prog 27 x 0),[.var 4],.push,[]⟩,
  ⟨none,.r1 (fun s a=>AD Try.prog s 4 a),[.loc 0],(.set 10),[]⟩]
def iA:List AA:=[
  ⟨none,.p1 some,[.var 2],.push,[]⟩,
  ⟨none,.p1 (fun x=>AB Try.prog 27 x 1),[.var 4],.push,[]⟩,
  ⟨none,.r1 (fun s a=>AD Try.prog s 23 a),[.loc 0],.push,[]⟩,
  ⟨none,.call 83,[.loc 2,.loc 0],.push,[]⟩,
  ⟨none,.p1 some,[.loc 0],(.set 2),[]⟩]
def iB:List AA:=[
  ⟨none,.p1 some,[.var 2],.push,[]⟩,
  ⟨none,.p1 some,[.var 2],.push,[]⟩,
  ⟨none,.r (fun s l=>match l with | [x]=>Ao Try.prog s 22 x | _=>none),[.loc 0],.push,[]⟩,
  ⟨none,.p1 some,[.var 2],.push,[]⟩,
  ⟨none,.r (fun s l=>match l with | [x]=>Ao Try.prog s 22 x | _=>none),[.loc 0],.push,[]⟩,
  ⟨none,.r (AW Try.prog 22 false true true),[.loc 4,.loc 2,.loc 0],.push,[]⟩,
  ⟨none,.p1 (fun x=>AB Try.prog 27 x 1),[.var 4],.push,[]⟩,
  ⟨none,.r1 (fun s a=>AD Try.prog s 23 a),[.loc 0],.push,[]⟩,
  ⟨none,.mk (fun l=>(Ad Try.prog 22 1 (zipIdx [0] l)).bind fun r=>some (r,.slice 1)),[.loc 0],.push,[]⟩,
  ⟨none,.e (fun s l=>AY Try.prog s [22,22] l),[.loc 3,.loc 0],.push,[]⟩,
  ⟨none,.p1 some,[.loc 0],(.set 2),[]⟩]
def Yg:List AA:=[
  ⟨none,.p2 (AI Try.prog .add 3),[(.var 7),(.const (.int .i64 (1)))],.push,[]⟩,
  ⟨none,.p1 some,[.loc 0],(.set 7),[]⟩]
def Oo:AX:=(.seq (.ops YZ) (.seq (.cond (.var 8)
  .skip
  (.exit 0)) (.seq (.block 1 (.seq (.ops hH) (.seq (.seq (.ops hY) (.cond (.var 9)
  .ret
  .skip)) (.seq (.ops Yf) (.cond (.var 10)
  (.ops iA)
  (.ops iB)))))) (.ops Yg))))
def YY:List AA:=[
  ⟨none,.r1 (fun s a=>AD Try.prog s 33 a),[.var 1],.push,[]⟩,
  ⟨none,.r (fun s l=>match l with | [x]=>Ao Try.prog s 33 x | _=>none),[.loc 0],.push,[]⟩,
  ⟨none,.callv,[.var 0,.loc 0,.var 2],.push,[]⟩]
def c82:Ar:=⟨2,11,(.seq (.ops gy) (.seq (.seq (.ops gz) (.block 0 (.loop Oo))) (.ops YY))),[]⟩
def fV:List AA:=[
  ⟨none,.p1 some,[(.const (.slice none 0 (some 0)))],(.set 1),[]⟩]
def fW:List AA:=[
  ⟨none,.p1 some,[(.const (.int .i64 (0)))],(.set 2),[]⟩]
def fX:List AA:=[
  ⟨none,.p1 some,[.var 0],(.set 6),[]⟩,
  ⟨none,.r (fun s l=>match l with | [x]=>Ao Try.prog s 110 x | _=>none),[.var 6],(.set 7),[]⟩,
  ⟨none,.p1 some,[(.const (.int .i64 (0)))],(.set 8),[]⟩]
def TY:List AA:=[
  ⟨none,.p2 (AI Try.prog .lss 3),[.var 8,.var 7],(.set 9),[]⟩]
def X0:List AA:=[
  ⟨none,.p2 (AC Try.prog 110),[.var 6,.var 8],.push,[]⟩,
  ⟨none,.r1 (fun s a=>AD Try.prog s 22 a),[.loc 0],.push,[]⟩,
  ⟨none,.p1 some,[.loc 0],(.set 3),[]⟩]
def X1:List AA:=[
  ⟨none,.p1 some,[.var 2],.push,[]⟩,
  ⟨none,.r (fun s l=>match l with | [x]=>Ao Try.prog s 22 x | _=>none),[.var 3],.push,[]⟩,
  ⟨none,.p2 (AI Try.prog .add 3),[.loc 1,.loc 0],.push,[]⟩,
  ⟨none,.p1 some,[.loc 0],(.set 2),[]⟩]
def X2:List AA:=[
  ⟨none,.p2 (AI Try.prog .lss 3),[(.var 2),(.const (.int .i64 (0)))],(.set 10),[]⟩]
def X3:List AA:=[
  ⟨none,.p2 (AI Try.prog .add 3),[(.var 8),(.const (.int .i64 (1)))],.push,[]⟩,
  ⟨none,.p1 some,[.loc 0],(.set 8),[]⟩]
def Ok:AX:=(.seq (.ops TY) (.seq (.cond (.var 9)
  .skip
  (.exit 0)) (.seq (.block 1 (.seq (.ops X0) (.seq (.ops X1) (.seq (.ops X2) (.cond (.var 10)
  .never
  .skip))))) (.ops X3))))
def fY:List AA:=[
  ⟨none,.call 84,[(.const (.slice none 0 (some 0))),(.var 2)],.push,[]⟩,
  ⟨none,.p1 some,[.loc 0],(.set 4),[]⟩]
def Xz:List AA:=[
  ⟨none,.p1 some,[.var 0],(.set 11),[]⟩,
  ⟨none,.r (fun s l=>match l with | [x]=>Ao Try.prog s 110 x | _=>none),[.var 11],(.set 12),[]⟩,
  ⟨none,.p1 some,[(.const (.int .i64 (0)))],(.set 13),[]⟩]
def Hh:List AA:=[
  ⟨none,.p2 (AI Try.prog .lss 3),[.var 13,.var 12],(.set 14),[]⟩]
def Km:List AA:=[
  ⟨none,.p2 (AC Try.prog 110),[.var 11,.var 13],.push,[]⟩,
  ⟨none,.r1 (fun s a=>AD Try.prog s 22 a),[.loc 0],.push,[]⟩,
  ⟨none,.p1 some,[.loc 0],(.set 5),[]⟩]
def Kn:List AA:=[
  ⟨none,.p1 some,[.var 4],.push,[]⟩,
  ⟨none,.e (fun s l=>AY Try.prog s [22,22] l),[.loc 0,.var 5],.push,[]⟩,
  ⟨none,.p1 some,[.loc 0],(.set 4),[]⟩]
def Ko:List AA:=[
  ⟨none,.p2 (AI Try.prog .add 3),[(.var 13),(.const (.int .i64 (1)))],.push,[]⟩,
  ⟨none,.p1 some,[.loc 0],(.set 13),[]⟩]
def Fz:AX:=(.seq (.ops Hh) (.seq (.cond (.var 14)
  .skip
  (.exit 2)) (.seq (.block 3 (.seq (.ops Km) (.ops Kn))) (.ops Ko))))
def RH:List AA:=[
  ⟨none,.p1 some,[.var 4],(.set 1),[]⟩]
def c55:Ar:=⟨1,15,(.seq (.ops fV) (.seq (.ops fW) (.seq (.seq (.ops fX) (.block 0 (.loop Ok))) (.seq (.ops fY) (.seq (.seq (.ops Xz) (.block 2 (.loop Fz))) (.seq (.ops RH) .ret)))))),[((.var 1),none)]⟩
def TZ:List AA:=[
  ⟨none,.p1 some,[(.const (.slice none 0 (some 0)))],(.set 1),[]⟩]
def Ta:List AA:=[
  ⟨none,.p2 (AI Try.prog .eql 23),[(.var 0),(.const (.slice none 0 (some 0)))],(.set 2),[]⟩]
def fe:List AA:=[
  ⟨none,.p1 some,[(.const (.slice none 0 (some 0)))],(.set 1),[]⟩]
def X4:List AA:=[
  ⟨none,.mk (fun l=>(Ad Try.prog 23 0 (zipIdx [] l)).bind fun r=>some (r,.slice 0)),[],.push,[]⟩,
  ⟨none,.e (fun s l=>AY Try.prog s [23,23] l),[.loc 0,.var 0],.push,[]⟩,
  ⟨none,.p1 some,[.loc 0],(.set 1),[]⟩]
def c60:Ar:=⟨1,3,(.seq (.ops TZ) (.seq (.seq (.ops Ta) (.cond (.var 2)
  (.seq (.ops fe) .ret)
  .skip)) (.seq (.ops X4) .ret))),[((.var 1),none)]⟩
def NS:List AA:=[
  ⟨none,.p1 some,[(.const (.slice none 0 (some 0)))],(.set 1),[]⟩]
def NT:List AA:=[
  ⟨none,.p2 (AI Try.prog .eql 22),[(.var 0),(.const (.slice none 0 (some 0)))],(.set 2),[]⟩]
def WO:List AA:=[
  ⟨none,.p1 some,[(.const (.slice none 0 (some 0)))],(.set 1),[]⟩]
def QG:List AA:=[
  ⟨none,.mk (fun l=>(Ad Try.prog 22 0 (zipIdx [] l)).bind fun r=>some (r,.slice 0)),[],.push,[]⟩,
  ⟨none,.e (fun s l=>AY Try.prog s [22,22] l),[.loc 0,.var 0],.push,[]⟩,
  ⟨none,.p1 some,[.loc 0],(.set 1),[]⟩]
def bP:Ar:=⟨1,3,(.seq (.ops NS) (.seq (.seq (.ops NT) (.cond (.var 2)
  (.seq (.ops WO) .ret)
  .skip)) (.seq (.ops QG) .ret))),[((.var 1),none)]⟩
def iL:List AA:=[
  ⟨none,.p1 some,[(.const (.slice none 0 (some 0)))],(.set 2),[]⟩]
def iM:List AA:=[
  ⟨none,.call 94,[.var 0,.var 1],.push,[]⟩,
  ⟨none,.p1 some,[.loc 0],(.set 3),[]⟩]
def iN:List AA:=[
  ⟨none,.p2 (AI Try.prog .eql 3),[(.var 3),(.const (.int .i64 (-1)))],(.set 6),[]⟩]
def iO:List AA:=[
  ⟨none,.p1 some,[.var 0],(.set 2),[]⟩]
def nX:List AA:=[
  ⟨none,.p2 (AI Try.prog .add 3),[(.var 3),(.const (.int .i64 (1)))],.push,[]⟩,
  ⟨none,.p1 some,[.loc 0],(.set 4),[]⟩]
def nY:List AA:=[
  ⟨none,.r (fun s l=>match l with | [x]=>Ao Try.prog s 23 x | _=>none),[.var 0],.push,[]⟩,
  ⟨none,.p2 (AI Try.prog .lss 3),[.var 4,.loc 0],(.set 7),[]⟩]
def nZ:List AA:=[
  ⟨none,.p2 (AC Try.prog 23),[.var 0,.var 4],.push,[]⟩,
  ⟨none,.r1 (fun s a=>AD Try.prog s 3 a),[.loc 0],.push,[]⟩,
  ⟨none,.p1 some,[.loc 0],(.set 5),[]⟩]
def nf:List AA:=[
  ⟨none,.callv,[.var 1,.var 5],.push,[]⟩,
  ⟨none,.p1 (unA Try.prog Go.UnOp.not),[.loc 0],(.set 8),[]⟩]
def ng:List AA:=[
  ⟨none,.p2 (AC Try.prog 23),[.var 0,.var 3],.push,[]⟩,
  ⟨none,.e (fun s=>on2 (fun a x=>AT (AN Try.prog s 3 a x))),[.loc 0,.var 5],.push,[]⟩]
def nh:List AA:=[
  ⟨none,.p1 some,[.var 3],.push,[]⟩,
  ⟨none,.p2 (AI Try.prog .add 3),[(.loc 0),(.const (.int .i64 (1)))],.push,[]⟩,
  ⟨none,.p1 some,[.loc 0],(.set 3),[]⟩]
def kC:List AA:=[
  ⟨none,.p1 some,[.var 4],.push,[]⟩,
  ⟨none,.p2 (AI Try.prog .add 3),[(.loc 0),(.const (.int .i64 (1)))],.push,[]⟩,
  ⟨none,.p1 some,[.loc 0],(.set 4),[]⟩]
def kB:AX:=(.seq (.seq (.ops nY) (.cond (.var 7)
  .skip
  (.exit 0))) (.seq (.block 1 (.seq (.ops nZ) (.seq (.ops nf) (.cond (.var 8)
  (.seq (.ops ng) (.ops nh))
  .skip)))) (.ops kC)))
def kD:List AA:=[
  ⟨none,.r (AW Try.prog 23 true false false),[.var 0,.var 3],.push,[]⟩,
  ⟨none,.e (fun s l=>Ez Try.prog s [23] l),[.loc 0],.push,[]⟩]
def kE:List AA:=[
  ⟨none,.r (AW Try.prog 23 false true false),[.var 0,.var 3],.push,[]⟩,
  ⟨none,.p1 some,[.loc 0],(.set 2),[]⟩]
def c85:Ar:=⟨2,9,(.seq (.ops iL) (.seq (.ops iM) (.seq (.seq (.ops iN) (.cond (.var 6)
  (.seq (.ops iO) .ret)
  .skip)) (.seq (.seq (.ops nX) (.block 0 (.loop kB))) (.seq (.ops kD) (.seq (.ops kE) .ret)))))),[((.var 2),none)]⟩
def Y2:List AA:=[
  ⟨none,.p1 some,[(.const (.int .i64 (0)))],(.set 2),[]⟩]
def Y3:List AA:=[
  ⟨none,.r (fun s l=>match l with | [x]=>Ao Try.prog s 23 x | _=>none),[.var 0],(.set 4),[]⟩,
  ⟨none,.p1 some,[(.const (.int .i64 (0)))],(.set 5),[]⟩]
def Ou:List AA:=[
  ⟨none,.p2 (AI Try.prog .lss 3),[.var 5,.var 4],(.set 6),[]⟩]
def Y4:List AA:=[
  ⟨none,.p1 some,[.var 5],(.set 3),[]⟩]
def Y5:List AA:=[
  ⟨none,.p2 (AC Try.prog 23),[.var 0,.var 3],.push,[]⟩,
  ⟨none,.r1 (fun s a=>AD Try.prog s 3 a),[.loc 0],.push,[]⟩,
  ⟨none,.callv,[.var 1,.loc 0],(.set 7),[]⟩]
def ic:List AA:=[
  ⟨none,.p1 some,[.var 3],(.set 2),[]⟩]
def Y6:List AA:=[
  ⟨none,.p2 (AI Try.prog .add 3),[(.var 5),(.const (.int .i64 (1)))],.push,[]⟩,
  ⟨none,.p1 some,[.loc 0],(.set 5),[]⟩]
def IC:AX:=(.seq (.ops Ou) (.seq (.cond (.var 6)
  .skip
  (.exit 0)) (.seq (.block 1 (.seq (.ops Y4) (.seq (.ops Y5) (.cond (.var 7)
  (.seq (.ops ic) .ret)
  .skip)))) (.ops Y6))))
def Y7:List AA:=[
  ⟨none,.p1 some,[(.const (.int .i64 (-1)))],(.set 2),[]⟩]
def c94:Ar:=⟨2,8,(.seq (.ops Y2) (.seq (.seq (.ops Y3) (.block 0 (.loop IC))) (.seq (.ops Y7) .ret))),[((.var 2),none)]⟩
def Ym:List AA:=[
  ⟨none,.r (fun s l=>match l with | [x]=>Ao Try.prog s 23 x | _=>none),[.var 0],.push,[]⟩,
  ⟨none,.p1 some,[.loc 0],(.set 1),[]⟩]
def Yn:List AA:=[
  ⟨none,.r1 (fun s x=>Cj Try.prog s 3 133 x),[.var 1],.push,[]⟩,
  ⟨none,.call 109,[.loc 0],.push,[]⟩,
  ⟨none,.call 108,[(.var 0),(.const (.int .i64 (0))),(.var 1),(.loc 0)],.push,[]⟩]
def c87:Ar:=⟨1,2,(.seq (.ops Ym) (.ops Yn)),[]⟩
def Oq:List AA:=[
  ⟨none,.p1 some,[(.const (.slice none 0 (some 0)))],(.set 1),[]⟩]
def Ot:List AA:=[
  ⟨none,.r (fun s l=>match l with | [x]=>Ao Try.prog s 23 x | _=>none),[.var 0],.push,[]⟩,
  ⟨none,.p2 (AI Try.prog .lss 3),[(.loc 0),(.const (.int .i64 (2)))],(.set 5),[]⟩]
def Yq:List AA:=[
  ⟨none,.p1 some,[.var 0],(.set 1),[]⟩]
def Yr:List AA:=[
  ⟨none,.p1 some,[(.const (.int .i64 (1)))],(.set 2),[]⟩]
def Tf:List AA:=[
  ⟨none,.r (fun s l=>match l with | [x]=>Ao Try.prog s 23 x | _=>none),[.var 0],.push,[]⟩,
  ⟨none,.p2 (AI Try.prog .lss 3),[.var 2,.loc 0],(.set 6),[]⟩]
def Ys:List AA:=[
  ⟨none,.p2 (AC Try.prog 23),[.var 0,.var 2],.push,[]⟩,
  ⟨none,.r1 (fun s a=>AD Try.prog s 3 a),[.loc 0],.push,[]⟩,
  ⟨none,.p2 (AI Try.prog .sub 3),[(.var 2),(.const (.int .i64 (1)))],.push,[]⟩,
  ⟨none,.p2 (AC Try.prog 23),[.var 0,.loc 0],.push,[]⟩,
  ⟨none,.r1 (fun s a=>AD Try.prog s 3 a),[.loc 0],.push,[]⟩,
  ⟨none,.p2 (AI Try.prog .eql 3),[.loc 3,.loc 0],(.set 7),[]⟩]
def iS:List AA:=[
  ⟨none,.r (AW Try.prog 23 true false false),[.var 0,.var 2],.push,[]⟩,
  ⟨none,.p1 some,[.loc 0],(.set 3),[]⟩]
def iT:List AA:=[
  ⟨none,.p1 some,[(.const (.int .i64 (1)))],(.set 4),[]⟩]
def Tg:List AA:=[
  ⟨none,.r (fun s l=>match l with | [x]=>Ao Try.prog s 23 x | _=>none),[.var 3],.push,[]⟩,
  ⟨none,.p2 (AI Try.prog .lss 3),[.var 4,.loc 0],(.set 8),[]⟩]
def Yt:List AA:=[
  ⟨none,.p2 (AC Try.prog 23),[.var 3,.var 4],.push,[]⟩,
  ⟨none,.r1 (fun s a=>AD Try.prog s 3 a),[.loc 0],.push,[]⟩,
  ⟨none,.p2 (AI Try.prog .sub 3),[(.var 4),(.const (.int .i64 (1)))],.push,[]⟩,
  ⟨none,.p2 (AC Try.prog 23),[.var 3,.loc 0],.push,[]⟩,
  ⟨none,.r1 (fun s a=>AD Try.prog s 3 a),[.loc 0],.push,[]⟩,
  ⟨none,.p2 (AI Try.prog .neq 3),[.loc 3,.loc 0],(.set 9),[]⟩]
def Yo:List AA:=[
  ⟨none,.p2 (AC Try.prog 23),[.var 3,.var 4],.push,[]⟩,
  ⟨none,.r1 (fun s a=>AD Try.prog s 3 a),[.loc 0],.push,[]⟩,
  ⟨none,.p2 (AC Try.prog 23),[.var 0,.var 2],.push,[]⟩,
  ⟨none,.e (fun s=>on2 (fun a x=>AT (AN Try.prog s 3 a x))),[.loc 0,.loc 1],.push,[]⟩]
def Yp:List AA:=[
  ⟨none,.p1 some,[.var 2],.push,[]⟩,
  ⟨none,.p2 (AI Try.prog .add 3),[(.loc 0),(.const (.int .i64 (1)))],.push,[]⟩,
  ⟨none,.p1 some,[.loc 0],(.set 2),[]⟩]
def Ry:List AA:=[
  ⟨none,.p1 some,[.var 4],.push,[]⟩,
  ⟨none,.p2 (AI Try.prog .add 3),[(.loc 0),(.const (.int .i64 (1)))],.push,[]⟩,
  ⟨none,.p1 some,[.loc 0],(.set 4),[]⟩]
def I8:AX:=(.seq (.seq (.ops Tg) (.cond (.var 8)
  .skip
  (.exit 2))) (.seq (.block 3 (.seq (.ops Yt) (.cond (.var 9)
  (.seq (.ops Yo) (.ops Yp))
  .skip))) (.ops Ry)))
def Rz:List AA:=[
  ⟨none,.r (AW Try.prog 23 true false false),[.var 0,.var 2],.push,[]⟩,
  ⟨none,.e (fun s l=>Ez Try.prog s [23] l),[.loc 0],.push,[]⟩]
def R0:List AA:=[
  ⟨none,.r (AW Try.prog 23 false true false),[.var 0,.var 2],.push,[]⟩,
  ⟨none,.p1 some,[.loc 0],(.set 1),[]⟩]
def Ng:List AA:=[
  ⟨none,.p1 some,[.var 2],.push,[]⟩,
  ⟨none,.p2 (AI Try.prog .add 3),[(.loc 0),(.const (.int .i64 (1)))],.push,[]⟩,
  ⟨none,.p1 some,[.loc 0],(.set 2),[]⟩]
def I9:AX:=(.seq (.seq (.ops Tf) (.cond (.var 6)
  .skip
  (.exit 0))) (.seq (.block 1 (.seq (.ops Ys) (.cond (.var 7)
  (.seq (.ops iS) (.seq (.seq (.ops iT) (.block 2 (.loop I8))) (.seq (.ops Rz) (.seq (.ops R0) .ret))))
  .skip))) (.ops Ng)))
def R3:List AA:=[
  ⟨none,.p1 some,[.var 0],(.set 1),[]⟩]
def c88:Ar:=⟨1,10,(.seq (.ops Oq) (.seq (.seq (.ops Ot) (.cond (.var 5)
  (.seq (.ops Yq) .ret)
  .skip)) (.seq (.seq (.ops Yr) (.block 0 (.loop I9))) (.seq (.ops R3) .ret)))),[((.var 1),none)]⟩
def QC:List AA:=[
  ⟨none,.p1 some,[(.const (.bool false))],(.set 2),[]⟩]
def QD:List AA:=[
  ⟨none,.r (fun s l=>match l with | [x]=>Ao Try.prog s 23 x | _=>none),[.var 0],.push,[]⟩,
  ⟨none,.r (fun s l=>match l with | [x]=>Ao Try.prog s 23 x | _=>none),[.var 1],.push,[]⟩,
  ⟨none,.p2 (AI Try.prog .neq 3),[.loc 1,.loc 0],(.set 4),[]⟩]
def V9:List AA:=[
  ⟨none,.p1 some,[(.const (.bool false))],(.set 2),[]⟩]
def WA:List AA:=[
  ⟨none,.r (fun s l=>match l with | [x]=>Ao Try.prog s 23 x | _=>none),[.var 0],(.set 5),[]⟩,
  ⟨none,.p1 some,[(.const (.int .i64 (0)))],(.set 6),[]⟩]
def NR:List AA:=[
  ⟨none,.p2 (AI Try.prog .lss 3),[.var 6,.var 5],(.set 7),[]⟩]
def QE:List AA:=[
  ⟨none,.p1 some,[.var 6],(.set 3),[]⟩]
def QF:List AA:=[
  ⟨none,.p2 (AC Try.prog 23),[.var 0,.var 3],.push,[]⟩,
  ⟨none,.r1 (fun s a=>AD Try.prog s 3 a),[.loc 0],.push,[]⟩,
  ⟨none,.p2 (AC Try.prog 23),[.var 1,.var 3],.push,[]⟩,
  ⟨none,.r1 (fun s a=>AD Try.prog s 3 a),[.loc 0],.push,[]⟩,
  ⟨none,.p2 (AI Try.prog .neq 3),[.loc 2,.loc 0],(.set 8),[]⟩]
def WB:List AA:=[
  ⟨none,.p1 some,[(.const (.bool false))],(.set 2),[]⟩]
def WD:List AA:=[
  ⟨none,.p2 (AI Try.prog .add 3),[(.var 6),(.const (.int .i64 (1)))],.push,[]⟩,
  ⟨none,.p1 some,[.loc 0],(.set 6),[]⟩]
def Iy:AX:=(.seq (.ops NR) (.seq (.cond (.var 7)
  .skip
  (.exit 0)) (.seq (.block 1 (.seq (.ops QE) (.seq (.ops QF) (.cond (.var 8)
  (.seq (.ops WB) .ret)
  .skip)))) (.ops WD))))
def TT:List AA:=[
  ⟨none,.p1 some,[(.const (.bool true))],(.set 2),[]⟩]
def jL:Ar:=⟨2,9,(.seq (.ops QC) (.seq (.seq (.ops QD) (.cond (.var 4)
  (.seq (.ops V9) .ret)
  .skip)) (.seq (.seq (.ops WA) (.block 0 (.loop Iy))) (.seq (.ops TT) .ret)))),[((.var 2),none)]⟩
def WE:List AA:=[
  ⟨none,.p1 some,[(.const (.slice none 0 (some 0)))],(.set 3),[]⟩]
def WG:List AA:=[
  ⟨none,.r (fun s l=>match l with | [x]=>Ao Try.prog s 22 x | _=>none),[.var 0],.push,[]⟩,
  ⟨none,.r (AW Try.prog 22 true true true),[.var 0,.var 1,.var 2,.loc 0],.push,[]⟩]
def WH:List AA:=[
  ⟨none,.p2 (AI Try.prog .eql 3),[.var 1,.var 2],(.set 5),[]⟩]
def jM:List AA:=[
  ⟨none,.p1 some,[.var 0],(.set 3),[]⟩]
def WJ:List AA:=[
  ⟨none,.r (fun s l=>match l with | [x]=>Ao Try.prog s 22 x | _=>none),[.var 0],.push,[]⟩,
  ⟨none,.p1 some,[.loc 0],(.set 4),[]⟩]
def WK:List AA:=[
  ⟨none,.p1 some,[.var 0],.push,[]⟩,
  ⟨none,.r (AW Try.prog 22 false true false),[.loc 0,.var 1],.push,[]⟩,
  ⟨none,.p1 some,[.var 0],.push,[]⟩,
  ⟨none,.r (AW Try.prog 22 true false false),[.loc 0,.var 2],.push,[]⟩,
  ⟨none,.e (fun s l=>AY Try.prog s [22,22] l),[.loc 2,.loc 0],.push,[]⟩,
  ⟨none,.p1 some,[.loc 0],(.set 0),[]⟩]
def WM:List AA:=[
  ⟨none,.r (fun s l=>match l with | [x]=>Ao Try.prog s 22 x | _=>none),[.var 0],.push,[]⟩,
  ⟨none,.r (AW Try.prog 22 true true false),[.var 0,.loc 0,.var 4],.push,[]⟩,
  ⟨none,.e (fun s l=>Ez Try.prog s [22] l),[.loc 0],.push,[]⟩]
def WN:List AA:=[
  ⟨none,.p1 some,[.var 0],(.set 3),[]⟩]
def mT:Ar:=⟨3,6,(.seq (.ops WE) (.seq (.ops WG) (.seq (.seq (.ops WH) (.cond (.var 5)
  (.seq (.ops jM) .ret)
  .skip)) (.seq (.ops WJ) (.seq (.ops WK) (.seq (.ops WM) (.seq (.ops WN) .ret))))))),[((.var 3),none)]⟩
def Yh:List AA:=[
  ⟨none,.p1 some,[(.const (.slice none 0 (some 0)))],(.set 2),[]⟩]
def Yi:List AA:=[
  ⟨none,.p2 (AI Try.prog .lss 3),[(.var 1),(.const (.int .i64 (0)))],(.set 3),[]⟩]
def Yj:List AA:=[
  ⟨none,.p1 some,[.var 1],.push,[]⟩,
  ⟨none,.r (fun s l=>match l with | [x]=>MD Try.prog s 22 x | _=>none),[.var 0],.push,[]⟩,
  ⟨none,.r (fun s l=>match l with | [x]=>Ao Try.prog s 22 x | _=>none),[.var 0],.push,[]⟩,
  ⟨none,.p2 (AI Try.prog .sub 3),[.loc 1,.loc 0],.push,[]⟩,
  ⟨none,.p2 (AI Try.prog .sub 3),[.loc 3,.loc 0],.push,[]⟩,
  ⟨none,.p1 some,[.loc 0],(.set 1),[]⟩]
def Yk:List AA:=[
  ⟨none,.p2 (AI Try.prog .gtr 3),[(.var 1),(.const (.int .i64 (0)))],(.set 4),[]⟩]
def iK:List AA:=[
  ⟨none,.p1 some,[.var 0],.push,[]⟩,
  ⟨none,.p1 some,[.var 0],.push,[]⟩,
  ⟨none,.r (fun s l=>match l with | [x]=>MD Try.prog s 22 x | _=>none),[.loc 0],.push,[]⟩,
  ⟨none,.r (AW Try.prog 22 false true false),[.loc 2,.loc 0],.push,[]⟩,
  ⟨none,.e (fun s l=>AY Try.prog s [22,3] l),[.loc 0,.var 1],.push,[]⟩,
  ⟨none,.p1 some,[.var 0],.push,[]⟩,
  ⟨none,.r (fun s l=>match l with | [x]=>Ao Try.prog s 22 x | _=>none),[.loc 0],.push,[]⟩,
  ⟨none,.r (AW Try.prog 22 false true false),[.loc 2,.loc 0],.push,[]⟩,
  ⟨none,.p1 some,[.loc 0],(.set 0),[]⟩]
def Yl:List AA:=[
  ⟨none,.p1 some,[.var 0],(.set 2),[]⟩]
def c84:Ar:=⟨2,5,(.seq (.ops Yh) (.seq (.seq (.ops Yi) (.cond (.var 3)
  .never
  .skip)) (.seq (.seq (.ops Yj) (.seq (.ops Yk) (.cond (.var 4)
  (.ops iK)
  .skip))) (.seq (.ops Yl) .ret)))),[((.var 2),none)]⟩
def V7:List AA:=[
  ⟨none,.mk (fun l=>match l with | [v]=>CL 22 v | _=>none),[.var 0],(.set 1),[]⟩,
  ⟨none,.p1 some,[(.const .nilFunc)],(.set 2),[]⟩]
def V8:List AA:=[
  ⟨none,.p (fun l=>some (.func 116 (l.take 0) (l.drop 0))),[.var 1],.push,[]⟩,
  ⟨none,.p1 some,[.loc 0],(.set 2),[]⟩]
def mS:Ar:=⟨1,3,(.seq (.ops V7) (.seq (.ops V8) .ret)),[((.var 2),none)]⟩
def Wl:List AA:=[
  ⟨none,.r1 (fun s a=>AD Try.prog s 22 a),[.var 1],.push,[]⟩,
  ⟨none,.r (fun s l=>match l with | [x]=>Ao Try.prog s 22 x | _=>none),[.loc 0],.push,[]⟩,
  ⟨none,.p2 (AI Try.prog .sub 3),[(.loc 0),(.const (.int .i64 (1)))],.push,[]⟩,
  ⟨none,.p1 some,[.loc 0],(.set 2),[]⟩]
def QU:List AA:=[
  ⟨none,.p2 (AI Try.prog .geq 3),[(.var 2),(.const (.int .i64 (0)))],(.set 3),[]⟩]
def Wm:List AA:=[
  ⟨none,.r1 (fun s a=>AD Try.prog s 22 a),[.var 1],.push,[]⟩,
  ⟨none,.p2 (AC Try.prog 22),[.loc 0,.var 2],.push,[]⟩,
  ⟨none,.r1 (fun s a=>AD Try.prog s 23 a),[.loc 0],.push,[]⟩,
  ⟨none,.callv,[.var 0,.var 2,.loc 0],.push,[]⟩,
  ⟨none,.p1 (unA Try.prog Go.UnOp.not),[.loc 0],(.set 4),[]⟩]
def Wn:List AA:=[
  ⟨none,.p1 some,[.var 2],.push,[]⟩,
  ⟨none,.p2 (AI Try.prog .sub 3),[(.loc 0),(.const (.int .i64 (1)))],.push,[]⟩,
  ⟨none,.p1 some,[.loc 0],(.set 2),[]⟩]
def Kb:AX:=(.seq (.seq (.ops QU) (.cond (.var 3)
  .skip
  (.exit 0))) (.seq (.block 1 (.seq (.ops Wm) (.cond (.var 4)
  .ret
  .skip))) (.ops Wn)))
def mY:Ar:=⟨2,5,(.seq (.ops Wl) (.block 0 (.loop Kb))),[]⟩
def QH:List AA:=[
  ⟨none,.p1 some,[(.const (.bool true))],(.set 4),[]⟩]
def QI:List AA:=[
  ⟨none,.p1 some,[(.const (.bool true))],(.set 5),[]⟩]
def QJ:List AA:=[
  ⟨none,.p2 (AI Try.prog .sub 3),[.var 2,.var 1],.push,[]⟩,
  ⟨none,.p1 some,[.loc 0],(.set 6),[]⟩]
def QK:List AA:=[
  ⟨none,.p2 (AI Try.prog .leq 3),[(.var 6),(.const (.int .i64 (12)))],(.set 15),[]⟩]
def QL:List AA:=[
  ⟨none,.call 117,[.var 0,.var 1,.var 2],.push,[]⟩]
def jO:List AA:=[
  ⟨none,.p2 (AI Try.prog .eql 3),[(.var 3),(.const (.int .i64 (0)))],(.set 16),[]⟩]
def jP:List AA:=[
  ⟨none,.call 118,[.var 0,.var 1,.var 2],.push,[]⟩]
def jQ:List AA:=[
  ⟨none,.p1 (unA Try.prog Go.UnOp.not),[.var 4],(.set 17),[]⟩]
def jR:List AA:=[
  ⟨none,.call 119,[.var 0,.var 1,.var 2],.push,[]⟩]
def jS:List AA:=[
  ⟨none,.p1 some,[.var 3],.push,[]⟩,
  ⟨none,.p2 (AI Try.prog .sub 3),[(.loc 0),(.const (.int .i64 (1)))],.push,[]⟩,
  ⟨none,.p1 some,[.loc 0],(.set 3),[]⟩]
def bQ:List AA:=[
  ⟨none,.call 120,[.var 0,.var 1,.var 2],.push,[]⟩,
  ⟨none,.p1 (fun x=>Rp x 0),[.loc 0],.push,[]⟩,
  ⟨none,.p1 (fun x=>Rp x 1),[.loc 1],.push,[]⟩,
  ⟨none,.p1 some,[.loc 1],(.set 7),[]⟩,
  ⟨none,.p1 some,[.loc 0],(.set 8),[]⟩]
def bR:List AA:=[
  ⟨none,.p2 (AI Try.prog .eql 138),[(.var 8),(.const (.int .i64 (2)))],(.set 18),[]⟩]
def bS:List AA:=[
  ⟨none,.call 121,[.var 0,.var 1,.var 2],.push,[]⟩]
def bT:List AA:=[
  ⟨none,.p2 (AI Try.prog .sub 3),[(.var 2),(.const (.int .i64 (1)))],.push,[]⟩,
  ⟨none,.p1 some,[.var 7],.push,[]⟩,
  ⟨none,.p2 (AI Try.prog .sub 3),[.loc 0,.var 1],.push,[]⟩,
  ⟨none,.p2 (AI Try.prog .sub 3),[.loc 2,.loc 0],.push,[]⟩,
  ⟨none,.p1 some,[.loc 0],(.set 7),[]⟩]
def bU:List AA:=[
  ⟨none,.p1 some,[(.const (.int .i64 (1)))],(.set 8),[]⟩]
def bV:List AA:=[
  ⟨(some ((.var 4),true)),.p1 some,[.var 5],.push,[]⟩,
  ⟨none,.p Rn,[(.var 4),(.loc 0),(.const (.bool false))],.push,[]⟩,
  ⟨(some ((.loc 0),true)),.p1 some,[.var 8],.push,[]⟩,
  ⟨(some ((.loc 1),true)),.p2 (AI Try.prog .eql 138),[(.loc 0),(.const (.int .i64 (1)))],.push,[]⟩,
  ⟨none,.p Rn,[(.loc 2),(.loc 0),(.const (.bool false))],(.set 19),[]⟩]
def bW:List AA:=[
  ⟨none,.call 122,[.var 0,.var 1,.var 2],(.set 20),[]⟩]
def bX:List AA:=[
  ⟨none,.p2 (AI Try.prog .gtr 3),[(.var 1),(.const (.int .i64 (0)))],.push,[]⟩,
  ⟨(some ((.loc 0),true)),.p1 some,[.var 0],.push,[]⟩,
  ⟨(some ((.loc 1),true)),.p1 some,[.var 1],.push,[]⟩,
  ⟨(some ((.loc 2),true)),.p2 (AI Try.prog .sub 3),[(.loc 0),(.const (.int .i64 (1)))],.push,[]⟩,
  ⟨(some ((.loc 3),true)),.p2 (AC Try.prog 23),[.loc 2,.loc 0],.push,[]⟩,
  ⟨(some ((.loc 4),true)),.r1 (fun s a=>AD Try.prog s 3 a),[.loc 0],.push,[]⟩,
  ⟨(some ((.loc 5),true)),.p1 some,[.var 0],.push,[]⟩,
  ⟨(some ((.loc 6),true)),.p1 some,[.var 7],.push,[]⟩,
  ⟨(some ((.loc 7),true)),.p2 (AC Try.prog 23),[.loc 1,.loc 0],.push,[]⟩,
  ⟨(some ((.loc 8),true)),.r1 (fun s a=>AD Try.prog s 3 a),[.loc 0],.push,[]⟩,
  ⟨(some ((.loc 9),true)),.call 123,[.loc 4,.loc 0],.push,[]⟩,
  ⟨(some ((.loc 10),true)),.p1 (unA Try.prog Go.UnOp.not),[.loc 0],.push,[]⟩,
  ⟨none,.p Rn,[(.loc 11),(.loc 0),(.const (.bool false))],(.set 21),[]⟩]
def bY:List AA:=[
  ⟨none,.call 124,[.var 0,.var 1,.var 2,.var 7],.push,[]⟩,
  ⟨none,.p1 some,[.loc 0],(.set 9),[]⟩]
def bZ:List AA:=[
  ⟨none,.p1 some,[.var 9],(.set 1),[]⟩]
def bd:List AA:=[
  ⟨none,.call 125,[.var 0,.var 1,.var 2,.var 7],.push,[]⟩,
  ⟨none,.p1 (fun x=>Rp x 0),[.loc 0],.push,[]⟩,
  ⟨none,.p1 (fun x=>Rp x 1),[.loc 1],.push,[]⟩,
  ⟨none,.p1 some,[.loc 1],(.set 10),[]⟩,
  ⟨none,.p1 some,[.loc 0],(.set 11),[]⟩]
def bf:List AA:=[
  ⟨none,.p1 some,[.var 11],(.set 5),[]⟩]
def bh:List AA:=[
  ⟨none,.p2 (AI Try.prog .sub 3),[.var 10,.var 1],.push,[]⟩,
  ⟨none,.p2 (AI Try.prog .sub 3),[.var 2,.var 10],.push,[]⟩,
  ⟨none,.p1 some,[.loc 1],(.set 12),[]⟩,
  ⟨none,.p1 some,[.loc 0],(.set 13),[]⟩]
def bj:List AA:=[
  ⟨none,.p2 (AI Try.prog .quo 3),[(.var 6),(.const (.int .i64 (8)))],.push,[]⟩,
  ⟨none,.p1 some,[.loc 0],(.set 14),[]⟩]
def bk:List AA:=[
  ⟨none,.p2 (AI Try.prog .lss 3),[.var 12,.var 13],(.set 22),[]⟩]
def bm:List AA:=[
  ⟨none,.p2 (AI Try.prog .geq 3),[.var 12,.var 14],.push,[]⟩,
  ⟨none,.p1 some,[.loc 0],(.set 4),[]⟩]
def bn:List AA:=[
  ⟨none,.call 108,[.var 0,.var 1,.var 10,.var 3],.push,[]⟩]
def bo:List AA:=[
  ⟨none,.p2 (AI Try.prog .add 3),[(.var 10),(.const (.int .i64 (1)))],.push,[]⟩,
  ⟨none,.p1 some,[.loc 0],(.set 1),[]⟩]
def bp:List AA:=[
  ⟨none,.p2 (AI Try.prog .geq 3),[.var 13,.var 14],.push,[]⟩,
  ⟨none,.p1 some,[.loc 0],(.set 4),[]⟩]
def bq:List AA:=[
  ⟨none,.p2 (AI Try.prog .add 3),[(.var 10),(.const (.int .i64 (1)))],.push,[]⟩,
  ⟨none,.call 108,[.var 0,.loc 0,.var 2,.var 3],.push,[]⟩]
def br:List AA:=[
  ⟨none,.p1 some,[.var 10],(.set 2),[]⟩]
def IB:AX:=(.block 1 (.seq (.ops QJ) (.seq (.seq (.ops QK) (.cond (.var 15)
  (.seq (.ops QL) .ret)
  .skip)) (.seq (.seq (.ops jO) (.cond (.var 16)
  (.seq (.ops jP) .ret)
  .skip)) (.seq (.seq (.ops jQ) (.cond (.var 17)
  (.seq (.ops jR) (.ops jS))
  .skip)) (.seq (.ops bQ) (.seq (.seq (.ops bR) (.cond (.var 18)
  (.seq (.ops bS) (.seq (.ops bT) (.ops bU)))
  .skip)) (.seq (.seq (.ops bV) (.cond (.var 19)
  (.seq (.ops bW) (.cond (.var 20)
  .ret
  .skip))
  .skip)) (.seq (.seq (.ops bX) (.cond (.var 21)
  (.seq (.ops bY) (.seq (.ops bZ) (.exit 1)))
  .skip)) (.seq (.ops bd) (.seq (.ops bf) (.seq (.ops bh) (.seq (.ops bj) (.seq (.ops bk) (.cond (.var 22)
  (.seq (.ops bm) (.seq (.ops bn) (.ops bo)))
  (.seq (.ops bp) (.seq (.ops bq) (.ops br))))))))))))))))))
def jN:Ar:=⟨4,23,(.seq (.ops QH) (.seq (.ops QI) (.block 0 (.loop IB)))),[]⟩
def Kd:List AA:=[
  ⟨none,.p2 (AI Try.prog .add 3),[(.var 1),(.const (.int .i64 (1)))],.push,[]⟩,
  ⟨none,.p1 some,[.loc 0],(.set 3),[]⟩]
def Hg:List AA:=[
  ⟨none,.p2 (AI Try.prog .lss 3),[.var 3,.var 2],(.set 5),[]⟩]
def Wp:List AA:=[
  ⟨none,.p1 some,[.var 3],(.set 4),[]⟩]
def QV:List AA:=[
  ⟨none,.p2 (AI Try.prog .gtr 3),[.var 4,.var 1],.push,[]⟩,
  ⟨(some ((.loc 0),true)),.p1 some,[.var 0],.push,[]⟩,
  ⟨(some ((.loc 1),true)),.p1 some,[.var 4],.push,[]⟩,
  ⟨(some ((.loc 2),true)),.p2 (AC Try.prog 23),[.loc 1,.loc 0],.push,[]⟩,
  ⟨(some ((.loc 3),true)),.r1 (fun s a=>AD Try.prog s 3 a),[.loc 0],.push,[]⟩,
  ⟨(some ((.loc 4),true)),.p1 some,[.var 0],.push,[]⟩,
  ⟨(some ((.loc 5),true)),.p1 some,[.var 4],.push,[]⟩,
  ⟨(some ((.loc 6),true)),.p2 (AI Try.prog .sub 3),[(.loc 0),(.const (.int .i64 (1)))],.push,[]⟩,
  ⟨(some ((.loc 7),true)),.p2 (AC Try.prog 23),[.loc 2,.loc 0],.push,[]⟩,
  ⟨(some ((.loc 8),true)),.r1 (fun s a=>AD Try.prog s 3 a),[.loc 0],.push,[]⟩,
  ⟨(some ((.loc 9),true)),.call 123,[.loc 5,.loc 0],.push,[]⟩,
  ⟨none,.p Rn,[(.loc 10),(.loc 0),(.const (.bool false))],(.set 6),[]⟩]
def Wq:List AA:=[
  ⟨none,.p2 (AI Try.prog .sub 3),[(.var 4),(.const (.int .i64 (1)))],.push,[]⟩,
  ⟨none,.p2 (AI Try.prog .sub 3),[(.var 4),(.const (.int .i64 (1)))],.push,[]⟩,
  ⟨none,.p2 (AC Try.prog 23),[.var 0,.loc 0],.push,[]⟩,
  ⟨none,.r1 (fun s a=>AD Try.prog s 3 a),[.loc 0],.push,[]⟩,
  ⟨none,.p2 (AC Try.prog 23),[.var 0,.var 4],.push,[]⟩,
  ⟨none,.r1 (fun s a=>AD Try.prog s 3 a),[.loc 0],.push,[]⟩,
  ⟨none,.p2 (AC Try.prog 23),[.var 0,.var 4],.push,[]⟩,
  ⟨none,.e (fun s=>on2 (fun a x=>AT (AN Try.prog s 3 a x))),[.loc 0,.loc 3],.push,[]⟩,
  ⟨none,.p2 (AC Try.prog 23),[.var 0,.loc 7],.push,[]⟩,
  ⟨none,.e (fun s=>on2 (fun a x=>AT (AN Try.prog s 3 a x))),[.loc 0,.loc 3],.push,[]⟩]
def Wr:List AA:=[
  ⟨none,.p1 some,[.var 4],.push,[]⟩,
  ⟨none,.p2 (AI Try.prog .sub 3),[(.loc 0),(.const (.int .i64 (1)))],.push,[]⟩,
  ⟨none,.p1 some,[.loc 0],(.set 4),[]⟩]
def Kc:AX:=(.seq (.seq (.ops QV) (.cond (.var 6)
  .skip
  (.exit 2))) (.seq (.block 3 (.ops Wq)) (.ops Wr)))
def Ws:List AA:=[
  ⟨none,.p1 some,[.var 3],.push,[]⟩,
  ⟨none,.p2 (AI Try.prog .add 3),[(.loc 0),(.const (.int .i64 (1)))],.push,[]⟩,
  ⟨none,.p1 some,[.loc 0],(.set 3),[]⟩]
def Fx:AX:=(.seq (.seq (.ops Hg) (.cond (.var 5)
  .skip
  (.exit 0))) (.seq (.block 1 (.seq (.ops Wp) (.block 2 (.loop Kc)))) (.ops Ws)))
def Wo:Ar:=⟨3,7,(.seq (.ops Kd) (.block 0 (.loop Fx))),[]⟩
def c4o0:List AA:=[
  ⟨none,.p1 some,[(.const (.bool false))],(.set 3),[]⟩]
def c4o1:List AA:=[
  ⟨none,.call 22,[(.var 0),(.const (.int .i64 (6)))],.push,[]⟩,
  ⟨none,.call 23,[.var 1],.push,[]⟩,
  ⟨none,.p1 some,[.loc 1],(.set 4),[]⟩,
  ⟨none,.p1 some,[.loc 0],(.set 5),[]⟩]
def c4o2:List AA:=[
  ⟨none,.call 24,[.var 4,.var 5],.push,[]⟩,
  ⟨none,.p1 (fun x=>Rp x 0),[.loc 0],.push,[]⟩,
  ⟨none,.p1 (fun x=>Rp x 1),[.loc 1],.push,[]⟩,
  ⟨none,.p1 some,[.loc 1],(.set 6),[]⟩,
  ⟨none,.p1 some,[.loc 0],(.set 7),[]⟩]
def c4o3:List AA:=[
  ⟨none,.call 25,[.var 4,.var 5],.push,[]⟩,
  ⟨none,.p1 (fun x=>Rp x 0),[.loc 0],.push,[]⟩,
  ⟨none,.p1 (fun x=>Rp x 1),[.loc 1],.push,[]⟩,
  ⟨none,.p1 some,[.loc 1],(.set 8),[]⟩,
  ⟨none,.p1 some,[.loc 0],(.set 9),[]⟩]
def c4o4:List AA:=[
  ⟨none,.p2 (AI Try.prog .neq 3),[.var 6,.var 8],.push,[]⟩,
  ⟨(some ((.loc 0),false)),.p1 some,[.var 7],.push,[]⟩,
  ⟨(some ((.loc 1),false)),.p1 some,[.var 9],.push,[]⟩,
  ⟨(some ((.loc 2),false)),.p2 (AI Try.prog .neq 4),[.loc 1,.loc 0],.push,[]⟩,
  ⟨none,.p Rn,[(.loc 3),(.const (.bool true)),(.loc 0)],.push,[]⟩,
  ⟨(some ((.loc 0),false)),.p1 some,[.var 4],.push,[]⟩,
  ⟨(some ((.loc 1),false)),.p1 some,[.var 5],.push,[]⟩,
  ⟨(some ((.loc 2),false)),.call 27,[.loc 1,.loc 0],.push,[]⟩,
  ⟨(some ((.loc 3),false)),.p1 some,[.var 4],.push,[]⟩,
  ⟨(some ((.loc 4),false)),.p1 some,[.var 5],.push,[]⟩,
  ⟨(some ((.loc 5),false)),.call 28,[.loc 1,.loc 0],.push,[]⟩,
  ⟨(some ((.loc 6),false)),.call 26,[.loc 3,.loc 0],.push,[]⟩,
  ⟨(some ((.loc 7),false)),.p1 (unA Try.prog Go.UnOp.not),[.loc 0],.push,[]⟩,
  ⟨none,.p Rn,[(.loc 8),(.const (.bool true)),(.loc 0)],(.set 14),[]⟩]
def c4o5:List AA:=[
  ⟨none,.p1 some,[(.const (.bool false))],(.set 3),[]⟩]
def c4o6:List AA:=[
  ⟨none,.p1 some,[(.const (.int .i64 (0)))],(.set 10),[]⟩]
def c4o7:List AA:=[
  ⟨none,.r (fun s l=>match l with | [x]=>Ao Try.prog s 33 x | _=>none),[.var 5],.push,[]⟩,
  ⟨none,.p2 (AI Try.prog .lss 3),[.var 10,.loc 0],(.set 15),[]⟩]
def c4o8:List AA:=[
  ⟨none,.p2 (AC Try.prog 33),[.var 5,.var 10],.push,[]⟩,
  ⟨none,.p1 (fun x=>AB Try.prog 27 x 1),[.loc 0],.push,[]⟩,
  ⟨none,.r1 (fun s a=>AD Try.prog s 23 a),[.loc 0],.push,[]⟩,
  ⟨none,.p2 (AC Try.prog 33),[.var 5,.var 10],.push,[]⟩,
  ⟨none,.p1 (fun x=>AB Try.prog 27 x 1),[.loc 0],.push,[]⟩,
  ⟨none,.r1 (fun s a=>AD Try.prog s 23 a),[.loc 0],.push,[]⟩,
  ⟨none,.call 17,[.var 4,.loc 3],.push,[⟨none,.r1 (fun s a=>AD Try.prog s 23 a),[.loc 2],(.loc 1)⟩]⟩,
  ⟨none,.call 29,[.var 4,.loc 1],.push,[]⟩,
  ⟨none,.p2 (AI Try.prog .neq 4),[.loc 1,.loc 0],(.set 16),[]⟩]
def c4o9:List AA:=[
  ⟨none,.p1 some,[(.const (.bool false))],(.set 3),[]⟩]
def nE:List AA:=[
  ⟨none,.p1 some,[.var 10],.push,[]⟩,
  ⟨none,.p2 (AI Try.prog .add 3),[(.loc 0),(.const (.int .i64 (1)))],.push,[]⟩,
  ⟨none,.p1 some,[.loc 0],(.set 10),[]⟩]
def m8:AX:=(.seq (.seq (.ops c4o7) (.cond (.var 15)
  .skip
  (.exit 0))) (.seq (.block 1 (.seq (.ops c4o8) (.cond (.var 16)
  (.seq (.ops c4o9) .ret)
  .skip))) (.ops nE)))
def nF:List AA:=[
  ⟨none,.p1 some,[(.const (.slice none 0 (some 0)))],(.set 11),[]⟩]
def nG:List AA:=[
  ⟨none,.p1 some,[(.const (.int .i64 (0)))],(.set 12),[]⟩]
def nH:List AA:=[
  ⟨none,.r (fun s l=>match l with | [x]=>Ao Try.prog s 22 x | _=>none),[.var 2],.push,[]⟩,
  ⟨none,.p2 (AI Try.prog .lss 3),[.var 12,.loc 0],.push,[]⟩,
  ⟨(some ((.loc 0),true)),.p1 some,[.var 12],.push,[]⟩,
  ⟨(some ((.loc 1),true)),.p2 (AI Try.prog .lss 3),[(.loc 0),(.const (.int .i64 (10)))],.push,[]⟩,
  ⟨none,.p Rn,[(.loc 2),(.loc 0),(.const (.bool false))],(.set 17),[]⟩]
def nI:List AA:=[
  ⟨none,.p1 some,[.var 11],.push,[]⟩,
  ⟨none,.p2 (AC Try.prog 22),[.var 2,.var 12],.push,[]⟩,
  ⟨none,.r1 (fun s a=>AD Try.prog s 23 a),[.loc 0],.push,[]⟩,
  ⟨none,.p2 (AC Try.prog 22),[.var 2,.var 12],.push,[]⟩,
  ⟨none,.r1 (fun s a=>AD Try.prog s 23 a),[.loc 0],.push,[]⟩,
  ⟨none,.r (fun s l=>match l with | [x]=>Ao Try.prog s 23 x | _=>none),[.loc 0],.push,[]⟩,
  ⟨none,.p (fun l=>match l with | v::l=>DU false v l | []=>none),[(.loc 0),(.const (.int .i64 (6)))],.push,[]⟩,
  ⟨none,.r (AW Try.prog 23 false true false),[.loc 4,.loc 0],.push,[]⟩,
  ⟨none,.mk (fun l=>(Ad Try.prog 22 1 (zipIdx [0] l)).bind fun r=>some (r,.slice 1)),[.loc 0],.push,[]⟩,
  ⟨none,.e (fun s l=>AY Try.prog s [22,22] l),[.loc 8,.loc 0],.push,[]⟩,
  ⟨none,.p1 some,[.loc 0],(.set 11),[]⟩]
def nJ:List AA:=[
  ⟨none,.p1 some,[.var 12],.push,[]⟩,
  ⟨none,.p2 (AI Try.prog .add 3),[(.loc 0),(.const (.int .i64 (1)))],.push,[]⟩,
  ⟨none,.p1 some,[.loc 0],(.set 12),[]⟩]
def nC:AX:=(.seq (.seq (.ops nH) (.cond (.var 17)
  .skip
  (.exit 2))) (.seq (.block 3 (.ops nI)) (.ops nJ)))
def nK:List AA:=[
  ⟨none,.p1 some,[(.const (.int .i64 (0)))],(.set 13),[]⟩]
def nL:List AA:=[
  ⟨none,.r (fun s l=>match l with | [x]=>Ao Try.prog s 22 x | _=>none),[.var 11],.push,[]⟩,
  ⟨none,.p2 (AI Try.prog .lss 3),[.var 13,.loc 0],(.set 18),[]⟩]
def nM:List AA:=[
  ⟨none,.r (AW Try.prog 22 true false false),[.var 11,.var 13],.push,[]⟩,
  ⟨none,.p2 (AC Try.prog 22),[(.var 11),(.const (.int .i64 (0)))],.push,[]⟩,
  ⟨none,.r1 (fun s a=>AD Try.prog s 23 a),[.loc 0],.push,[]⟩,
  ⟨none,.r (AW Try.prog 22 true false false),[.var 11,.var 13],.push,[]⟩,
  ⟨none,.p2 (AC Try.prog 22),[(.var 11),(.const (.int .i64 (0)))],.push,[]⟩,
  ⟨none,.r1 (fun s a=>AD Try.prog s 23 a),[.loc 0],.push,[]⟩,
  ⟨none,.call 17,[.loc 5,.loc 3],.push,[⟨none,.r1 (fun s a=>AD Try.prog s 23 a),[.loc 2],(.loc 1)⟩,⟨none,.r (AW Try.prog 22 true false false),[.var 11,.var 13],(.loc 3)⟩]⟩,
  ⟨none,.call 29,[.loc 3,.loc 1],.push,[]⟩,
  ⟨none,.p2 (AI Try.prog .neq 4),[.loc 1,.loc 0],.push,[]⟩,
  ⟨(some ((.loc 0),false)),.p1 some,[.var 11],.push,[]⟩,
  ⟨(some ((.loc 1),false)),.p1 some,[.var 11],.push,[]⟩,
  ⟨(some ((.loc 2),false)),.call 17,[(.loc 1),(.const (.slice none 0 (some 0)))],.push,[]⟩,
  ⟨(some ((.loc 3),false)),.call 29,[(.loc 1),(.const (.slice none 0 (some 0)))],.push,[]⟩,
  ⟨(some ((.loc 4),false)),.p2 (AI Try.prog .neq 4),[.loc 1,.loc 0],.push,[]⟩,
  ⟨none,.p Rn,[(.loc 5),(.const (.bool true)),(.loc 0)],(.set 19),[]⟩]
def nN:List AA:=[
  ⟨none,.p1 some,[(.const (.bool false))],(.set 3),[]⟩]
def nO:List AA:=[
  ⟨none,.p1 some,[.var 13],.push,[]⟩,
  ⟨none,.p2 (AI Try.prog .add 3),[(.loc 0),(.const (.int .i64 (1)))],.push,[]⟩,
  ⟨none,.p1 some,[.loc 0],(.set 13),[]⟩]
def nD:AX:=(.seq (.seq (.ops nL) (.cond (.var 18)
  .skip
  (.exit 4))) (.seq (.block 5 (.seq (.ops nM) (.cond (.var 19)
  (.seq (.ops nN) .ret)
  .skip))) (.ops nO)))
def nP:List AA:=[
  ⟨none,.call 21,[],.push,[]⟩,
  ⟨none,.p1 some,[.loc 0],(.set 3),[]⟩]
def c4:Ar:=⟨3,20,(.seq (.ops c4o0) (.seq (.ops c4o1) (.seq (.ops c4o2) (.seq (.ops c4o3) (.seq (.seq (.ops c4o4) (.cond (.var 14)
  (.seq (.ops c4o5) .ret)
  .skip)) (.seq (.seq (.ops c4o6) (.block 0 (.loop m8))) (.seq (.ops nF) (.seq (.seq (.ops nG) (.block 2 (.loop nC))) (.seq (.seq (.ops nK) (.block 4 (.loop nD))) (.seq (.ops nP) .ret)))))))))),[((.var 3),none)]⟩
theorem kR:AQ Try.prog 48=some c48:=by kernel_rfl
theorem kS:AQ Try.prog 49=some c49:=by kernel_rfl
theorem kT:AQ Try.prog 50=some c50:=by kernel_rfl
theorem kV:AQ Try.prog 52=some c52:=by kernel_rfl
theorem kU:AQ Try.prog 51=some c51:=by kernel_rfl
theorem kH:AQ Try.prog 17=some c17:=by kernel_rfl
theorem kI:AQ Try.prog 22=some c22:=by kernel_rfl
theorem ka:AQ Try.prog 62=some c62:=by kernel_rfl
theorem kK:AQ Try.prog 30=some c30:=by kernel_rfl
theorem kY:AQ Try.prog 56=some c56:=by kernel_rfl
theorem lB:AQ Try.prog 86=some c86:=by kernel_rfl
theorem kW:AQ Try.prog 54=some c54:=by kernel_rfl
theorem kx:AQ Try.prog 82=some c82:=by kernel_rfl
theorem kX:AQ Try.prog 55=some c55:=by kernel_rfl
theorem kZ:AQ Try.prog 60=some c60:=by kernel_rfl
theorem cG:AQ Try.prog 107=some bP:=by kernel_rfl
theorem lA:AQ Try.prog 85=some c85:=by kernel_rfl
theorem ZG:AQ Try.prog 94=some c94:=by kernel_rfl
theorem ZE:AQ Try.prog 87=some c87:=by kernel_rfl
theorem ZF:AQ Try.prog 88=some c88:=by kernel_rfl
theorem cE:AQ Try.prog 105=some jL:=by kernel_rfl
theorem cF:AQ Try.prog 106=some mT:=by kernel_rfl
theorem kz:AQ Try.prog 84=some c84:=by kernel_rfl
theorem cD:AQ Try.prog 104=some mS:=by kernel_rfl
theorem cM:AQ Try.prog 116=some mY:=by kernel_rfl
theorem Tl:AQ Try.prog 108=some jN:=by kernel_rfl
theorem Tm:AQ Try.prog 117=some Wo:=by kernel_rfl
end
end Go.Proofs.Ytilhhmkdcoajnaa.Am
