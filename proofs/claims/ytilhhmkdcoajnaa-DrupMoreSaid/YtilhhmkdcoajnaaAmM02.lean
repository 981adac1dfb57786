/- The compiled code of the functions of layer 20, printed by a program of ours (dev/Print.lean) and checked by the kernel; conditions: none. -/
import Derived.Test.YtilhhmkdcoajnaaRows
import Derived.Test.YtilhhmkdcoajnaaAmM01
import Derived.Laws.CopyRow
import Derived.Laws.Cells
import Derived.RangeFuncRecord
import Derived.Below
set_option linter.unusedVariables false
set_option linter.unusedSimpArgs false
namespace Go.Proofs.Ytilhhmkdcoajnaa.Am
open Go Go.Proofs
noncomputable section
theorem Br:BD Try.prog 3=some 1:=by kernel_rfl
theorem W9:Cg Try.prog 3=some 8:=by kernel_rfl
theorem Do:E1 Try.prog 3=some false:=by kernel_rfl
theorem RZ:CF Try.prog 3=some (.int .i64 (0)):=by kernel_rfl
theorem JX:BD Try.prog 4=some 1:=by kernel_rfl
theorem Wy:E1 Try.prog 4=some false:=by kernel_rfl
theorem zr4:CF Try.prog 4=some (.bool false):=by kernel_rfl
theorem sz5:BD Try.prog 5=some 1:=by kernel_rfl
theorem ag5:E1 Try.prog 5=some false:=by kernel_rfl
theorem cN:BD Try.prog 22=some 1:=by kernel_rfl
theorem Mx:E1 Try.prog 22=some false:=by kernel_rfl
theorem oz:CF Try.prog 22=some (.slice none 0 (some 0)):=by kernel_rfl
theorem Ba:BD Try.prog 23=some 1:=by kernel_rfl
theorem OG:Cg Try.prog 23=some 24:=by kernel_rfl
theorem DA:E1 Try.prog 23=some false:=by kernel_rfl
theorem RY:CF Try.prog 23=some (.slice none 0 (some 0)):=by kernel_rfl
theorem HS:BD Try.prog 27=some 2:=by kernel_rfl
theorem c7:Cg Try.prog 27=some 32:=by kernel_rfl
theorem kN:E1 Try.prog 27=some true:=by kernel_rfl
theorem PN:CF Try.prog 27=some (.agg [(.bool false),(.slice none 0 (some 0))]):=by kernel_rfl
theorem Gk:BD Try.prog 33=some 1:=by kernel_rfl
theorem My:E1 Try.prog 33=some false:=by kernel_rfl
theorem pr:BD Try.prog 69=some 1:=by kernel_rfl
theorem nS:E1 Try.prog 69=some false:=by kernel_rfl
theorem pw:CF Try.prog 69=some (.map none):=by kernel_rfl
theorem me:BD Try.prog 76=some 1:=by kernel_rfl
theorem nT:E1 Try.prog 76=some false:=by kernel_rfl
theorem px:CF Try.prog 76=some (.slice none 0 (some 0)):=by kernel_rfl
theorem pt:BD Try.prog 77=some 1:=by kernel_rfl
theorem pP:E1 Try.prog 77=some false:=by kernel_rfl
theorem oq:BD Try.prog 79=some 3:=by kernel_rfl
def Pd:List AA:=[
 ⟨none,.p1 some,[(.const (.int .i64 (0)))],(.set 1),[]⟩,
 ⟨none,.p1 some,[(.const (.int .i64 (0)))],(.set 2),[]⟩]
def Pe:List AA:=[
 ⟨none,.p2 (AN Try.prog .gtr 3),[(.var 0),(.const (.int .i64 (0)))],.push,[]⟩,
 ⟨none,.p1 some,[.loc 0],(.set 3),[]⟩]
def Pf:List AA:=[
 ⟨none,.p1 some,[.var 0],(.set 1),[]⟩,
 ⟨none,.p1 some,[(.const (.int .i64 (1)))],(.set 2),[]⟩]
def Pg:List AA:=[
 ⟨none,.p2 (AN Try.prog .lss 3),[(.var 0),(.const (.int .i64 (0)))],.push,[]⟩,
 ⟨(some ((.loc 0),true)),.p1 some,[.var 0],.push,[]⟩,
 ⟨(some ((.loc 1),true)),.p1 (Hv Try.prog Go.UnOp.neg),[.loc 0],.push,[]⟩,
 ⟨(some ((.loc 2),true)),.p2 (AN Try.prog .gtr 3),[(.loc 0),(.const (.int .i64 (0)))],.push,[]⟩,
 ⟨none,.p Rn,[(.loc 3),(.loc 0),(.const (.bool false))],.push,[]⟩,
 ⟨none,.p1 some,[.loc 0],(.set 4),[]⟩]
def Ph:List AA:=[
 ⟨none,.p1 (Hv Try.prog Go.UnOp.neg),[.var 0],.push,[]⟩,
 ⟨none,.p1 some,[.loc 0],(.set 1),[]⟩,
 ⟨none,.p1 some,[(.const (.int .i64 (-1)))],(.set 2),[]⟩]
def Pi:List AA:=[
 ⟨none,.p1 some,[(.const (.int .i64 (0)))],(.set 1),[]⟩,
 ⟨none,.p1 some,[(.const (.int .i64 (0)))],(.set 2),[]⟩]
def oB:Aw:=⟨1,5,(.seq (.ops Pd) (.seq (.block 0 (.seq (.ops Pe) (.cond (.var 3)
 (.seq (.ops Pf) .ret)
 (.seq (.ops Pg) (.cond (.var 4)
 (.seq (.ops Ph) .ret)
 .skip))))) (.seq (.ops Pi) .ret))),[((.var 1),none),((.var 2),none)]⟩
def gj:List AA:=[
 ⟨none,.p1 some,[(.const (.int .i64 (0)))],(.set 2),[]⟩]
def gk:List AA:=[
 ⟨none,.call 48,[.var 1],.push,[]⟩,
 ⟨none,.p1 (fun x=>Rp x 0),[.loc 0],.push,[]⟩,
 ⟨none,.p1 (fun x=>Rp x 1),[.loc 1],.push,[]⟩,
 ⟨none,.p1 some,[.loc 1],(.set 3),[]⟩,
 ⟨none,.p1 some,[.loc 0],(.set 4),[]⟩]
def gl:List AA:=[
 ⟨none,.p2 (AN Try.prog .eql 3),[(.var 4),(.const (.int .i64 (0)))],(.set 5),[]⟩]
def gm:List AA:=[
 ⟨none,.p1 some,[(.const (.int .i64 (-1)))],(.set 2),[]⟩]
def gn:List AA:=[
 ⟨none,.r (fun s=>BW (fun m k=>DK Try.prog s 69 m k false)),[.var 0,.var 3],.push,[]⟩,
 ⟨none,.p2 (AN Try.prog .mul 3),[.loc 0,.var 4],.push,[]⟩,
 ⟨none,.p1 some,[.loc 0],(.set 2),[]⟩]
def qE:Aw:=⟨2,6,(.seq (.ops gj) (.seq (.ops gk) (.seq (.seq (.ops gl) (.cond (.var 5)
 (.seq (.ops gm) .ret)
 .skip)) (.seq (.ops gn) .ret)))),[((.var 2),none)]⟩
def gp:List AA:=[
 ⟨none,.call 48,[.var 1],.push,[]⟩,
 ⟨none,.p1 (fun x=>Rp x 0),[.loc 0],.push,[]⟩,
 ⟨none,.p1 (fun x=>Rp x 1),[.loc 1],.push,[]⟩,
 ⟨none,.p1 some,[.loc 1],(.set 2),[]⟩,
 ⟨none,.p1 some,[.loc 0],(.set 3),[]⟩]
def gq:List AA:=[
 ⟨none,.e (fun s=>og (fun m k x=>AS (EV Try.prog s 69 m k x))),[.var 0,.var 2,.var 3],.push,[]⟩]
def qF:Aw:=⟨2,4,(.seq (.ops gp) (.ops gq)),[]⟩
def gv:List AA:=[
 ⟨none,.p1 some,[(.const (.int .i64 (0)))],(.set 2),[]⟩,
 ⟨none,.p1 some,[(.const (.int .i64 (0)))],(.set 3),[]⟩]
def gw:List AA:=[
 ⟨none,.p1 some,[.var 1],(.set 6),[]⟩,
 ⟨none,.r (fun s l=>match l with | [x]=>As Try.prog s 23 x | _=>none),[.var 6],(.set 7),[]⟩,
 ⟨none,.p1 some,[(.const (.int .i64 (0)))],(.set 8),[]⟩]
def ZA:List AA:=[
 ⟨none,.p2 (AN Try.prog .lss 3),[.var 8,.var 7],(.set 9),[]⟩]
def gx:List AA:=[
 ⟨none,.p2 (AD Try.prog 23),[.var 6,.var 8],.push,[]⟩,
 ⟨none,.r1 (fun s a=>AC Try.prog s 3 a),[.loc 0],.push,[]⟩,
 ⟨none,.p1 some,[.loc 0],(.set 4),[]⟩]
def gy:List AA:=[
 ⟨none,.call 49,[.var 0,.var 4],.push,[]⟩,
 ⟨none,.p1 some,[.loc 0],(.set 5),[]⟩]
def NJ:List AA:=[
 ⟨none,.p2 (AN Try.prog .gtr 3),[(.var 5),(.const (.int .i64 (0)))],.push,[]⟩,
 ⟨none,.p1 some,[.loc 0],(.set 10),[]⟩]
def gz:List AA:=[
 ⟨none,.p1 some,[(.const (.int .i64 (0)))],(.set 2),[]⟩,
 ⟨none,.p1 some,[(.const (.int .i64 (2)))],(.set 3),[]⟩]
def Pj:List AA:=[
 ⟨none,.p2 (AN Try.prog .lss 3),[(.var 5),(.const (.int .i64 (0)))],.push,[]⟩,
 ⟨(some ((.loc 0),false)),.p1 some,[.var 3],.push,[]⟩,
 ⟨(some ((.loc 1),false)),.p2 (AN Try.prog .eql 3),[(.loc 0),(.const (.int .i64 (1)))],.push,[]⟩,
 ⟨(some ((.loc 2),false)),.p1 some,[.loc 0],.push,[]⟩,
 ⟨(some ((.loc 0),true)),.p1 some,[.var 4],.push,[]⟩,
 ⟨(some ((.loc 1),true)),.p1 some,[.var 2],.push,[]⟩,
 ⟨(some ((.loc 2),true)),.p2 (AN Try.prog .eql 3),[.loc 1,.loc 0],.push,[]⟩,
 ⟨(some ((.loc 6),false)),.p Rn,[(.loc 3),(.loc 0),(.const (.bool false))],.push,[]⟩,
 ⟨none,.p Rn,[(.loc 7),(.const (.bool true)),(.loc 0)],.push,[]⟩,
 ⟨none,.p1 some,[.loc 0],(.set 11),[]⟩]
def ZB:List AA:=[
 ⟨none,.p1 some,[.var 3],.push,[]⟩,
 ⟨none,.p2 (AN Try.prog .add 3),[(.loc 0),(.const (.int .i64 (1)))],.push,[]⟩,
 ⟨none,.p1 some,[.loc 0],(.set 3),[]⟩]
def ZC:List AA:=[
 ⟨none,.p2 (AN Try.prog .gtr 3),[(.var 3),(.const (.int .i64 (1)))],(.set 12),[]⟩]
def Y7:List AA:=[
 ⟨none,.p1 some,[(.const (.int .i64 (0)))],(.set 2),[]⟩,
 ⟨none,.p1 some,[(.const (.int .i64 (2)))],(.set 3),[]⟩]
def Y8:List AA:=[
 ⟨none,.p1 some,[.var 4],(.set 2),[]⟩]
def LZ:List AA:=[
 ⟨none,.p2 (AN Try.prog .add 3),[(.var 8),(.const (.int .i64 (1)))],.push,[]⟩,
 ⟨none,.p1 some,[.loc 0],(.set 8),[]⟩]
def LY:Ac:=(.seq (.ops ZA) (.seq (.cond (.var 9)
 .skip
 (.exit 0)) (.seq (.block 1 (.seq (.ops gx) (.seq (.seq (.ops gy) (.block 2 (.seq (.ops NJ) (.cond (.var 10)
 (.seq (.ops gz) .ret)
 (.seq (.ops Pj) (.cond (.var 11)
 (.exit 1)
 .skip)))))) (.seq (.seq (.ops ZB) (.seq (.ops ZC) (.cond (.var 12)
 (.seq (.ops Y7) .ret)
 .skip))) (.ops Y8))))) (.ops LZ))))
def Y9:List AA:=[
 ⟨none,.p1 some,[.var 2],.push,[]⟩,
 ⟨none,.p1 some,[.var 3],.push,[]⟩,
 ⟨none,.p1 some,[.loc 1],(.set 2),[]⟩,
 ⟨none,.p1 some,[.loc 0],(.set 3),[]⟩]
def qH:Aw:=⟨2,13,(.seq (.ops gv) (.seq (.seq (.ops gw) (.block 0 (.loop LY))) (.seq (.ops Y9) .ret))),[((.var 2),none),((.var 3),none)]⟩
def gr:List AA:=[
 ⟨none,.p1 some,[(.const (.bool false))],(.set 2),[]⟩,
 ⟨none,.p1 some,[(.const (.bool false))],(.set 3),[]⟩]
def gt:List AA:=[
 ⟨none,.r1 (fun s a=>AC Try.prog s 69 a),[.var 1],.push,[]⟩,
 ⟨none,.call 52,[.loc 0,.var 0],.push,[]⟩,
 ⟨none,.p1 (fun x=>Rp x 0),[.loc 0],.push,[]⟩,
 ⟨none,.p1 (fun x=>Rp x 1),[.loc 1],.push,[]⟩,
 ⟨none,.p1 some,[.loc 1],(.set 4),[]⟩,
 ⟨none,.p1 some,[.loc 0],(.set 5),[]⟩]
def Y5:List AA:=[
 ⟨none,.p2 (AN Try.prog .eql 3),[(.var 5),(.const (.int .i64 (1)))],(.set 6),[]⟩]
def gu:List AA:=[
 ⟨none,.r1 (fun s a=>AC Try.prog s 69 a),[.var 1],.push,[]⟩,
 ⟨none,.call 50,[.loc 0,.var 4],.push,[]⟩]
def Y6:List AA:=[
 ⟨none,.p2 (AN Try.prog .eql 3),[(.var 5),(.const (.int .i64 (1)))],.push,[]⟩,
 ⟨none,.p2 (AN Try.prog .eql 3),[(.var 5),(.const (.int .i64 (0)))],.push,[]⟩,
 ⟨none,.p1 some,[.loc 1],(.set 2),[]⟩,
 ⟨none,.p1 some,[.loc 0],(.set 3),[]⟩]
def qG:Aw:=⟨2,7,(.seq (.ops gr) (.seq (.ops gt) (.seq (.seq (.ops Y5) (.cond (.var 6)
 (.ops gu)
 .skip)) (.seq (.ops Y6) .ret)))),[((.var 2),none),((.var 3),none)]⟩
def fb:List AA:=[
 ⟨none,.p1 some,[(.const (.bool false))],(.set 2),[]⟩]
def fc:List AA:=[
 ⟨none,.mk (fun l=>match l with | []=>some (.map [] 0,.map) | _=>none),[],.push,[]⟩,
 ⟨none,.mk (fun l=>match l with | []=>BF Try.prog 69 | _=>none),[],(.set 3),[]⟩,
 ⟨none,.e (fun s=>BW (fun a x=>AS (AP Try.prog s 69 a x))),[.var 3,.loc 0],.push,[]⟩]
def fe:List AA:=[
 ⟨none,.p1 some,[.var 1],(.set 11),[]⟩,
 ⟨none,.r (fun s l=>match l with | [x]=>As Try.prog s 23 x | _=>none),[.var 11],(.set 12),[]⟩,
 ⟨none,.p1 some,[(.const (.int .i64 (0)))],(.set 13),[]⟩]
def YO:List AA:=[
 ⟨none,.p2 (AN Try.prog .lss 3),[.var 13,.var 12],(.set 14),[]⟩]
def ff:List AA:=[
 ⟨none,.p2 (AD Try.prog 23),[.var 11,.var 13],.push,[]⟩,
 ⟨none,.r1 (fun s a=>AC Try.prog s 3 a),[.loc 0],.push,[]⟩,
 ⟨none,.p1 some,[.loc 0],(.set 4),[]⟩]
def fg:List AA:=[
 ⟨none,.call 48,[.var 4],.push,[]⟩,
 ⟨none,.p1 (fun x=>Rp x 0),[.loc 0],.push,[]⟩,
 ⟨none,.p1 (fun x=>Rp x 1),[.loc 1],.push,[]⟩,
 ⟨none,.p1 some,[.loc 1],.push,[]⟩,
 ⟨none,.p1 some,[.loc 1],(.set 5),[]⟩]
def YP:List AA:=[
 ⟨none,.p2 (AN Try.prog .eql 3),[(.var 5),(.const (.int .i64 (0)))],(.set 15),[]⟩]
def fh:List AA:=[
 ⟨none,.r1 (fun s a=>AC Try.prog s 69 a),[.var 3],.push,[]⟩,
 ⟨none,.call 49,[.loc 0,.var 4],.push,[]⟩,
 ⟨none,.p2 (AN Try.prog .gtr 3),[(.loc 0),(.const (.int .i64 (0)))],(.set 16),[]⟩]
def fi:List AA:=[
 ⟨none,.p1 some,[(.const (.bool true))],(.set 2),[]⟩]
def fj:List AA:=[
 ⟨none,.r1 (fun s a=>AC Try.prog s 69 a),[.var 3],.push,[]⟩,
 ⟨none,.p1 (Hv Try.prog Go.UnOp.neg),[.var 4],.push,[]⟩,
 ⟨none,.call 50,[.loc 1,.loc 0],.push,[]⟩]
def SY:List AA:=[
 ⟨none,.p2 (AN Try.prog .add 3),[(.var 13),(.const (.int .i64 (1)))],.push,[]⟩,
 ⟨none,.p1 some,[.loc 0],(.set 13),[]⟩]
def OO:Ac:=(.seq (.ops YO) (.seq (.cond (.var 14)
 .skip
 (.exit 0)) (.seq (.block 1 (.seq (.ops ff) (.seq (.seq (.ops fg) (.seq (.ops YP) (.cond (.var 15)
 (.exit 1)
 .skip))) (.seq (.seq (.ops fh) (.cond (.var 16)
 (.seq (.ops fi) .ret)
 .skip)) (.ops fj))))) (.ops SY))))
def YF:List AA:=[
 ⟨none,.p (fun l=>some (.func 51 (l.take 0) (l.drop 0))),[.var 3],.push,[]⟩,
 ⟨none,.p1 some,[.loc 0],(.set 6),[]⟩]
def YG:List AA:=[
 ⟨none,.p1 some,[(.const (.bool true))],(.set 7),[]⟩]
def SZ:List AA:=[
 ⟨none,.p1 some,[.var 7],(.set 17),[]⟩]
def YH:List AA:=[
 ⟨none,.p1 some,[(.const (.bool false))],(.set 7),[]⟩]
def YI:List AA:=[
 ⟨none,.p1 some,[.var 0],(.set 18),[]⟩,
 ⟨none,.r (fun s l=>match l with | [x]=>As Try.prog s 22 x | _=>none),[.var 18],(.set 19),[]⟩,
 ⟨none,.p1 some,[(.const (.int .i64 (0)))],(.set 20),[]⟩]
def Sa:List AA:=[
 ⟨none,.p2 (AN Try.prog .lss 3),[.var 20,.var 19],(.set 21),[]⟩]
def YJ:List AA:=[
 ⟨none,.p2 (AD Try.prog 22),[.var 18,.var 20],.push,[]⟩,
 ⟨none,.r1 (fun s a=>AC Try.prog s 23 a),[.loc 0],.push,[]⟩,
 ⟨none,.p1 some,[.loc 0],(.set 8),[]⟩]
def YK:List AA:=[
 ⟨none,.callv,[.var 6,.var 8],.push,[]⟩,
 ⟨none,.p1 (fun x=>Rp x 0),[.loc 0],.push,[]⟩,
 ⟨none,.p1 (fun x=>Rp x 1),[.loc 1],.push,[]⟩,
 ⟨none,.p1 some,[.loc 1],(.set 9),[]⟩,
 ⟨none,.p1 some,[.loc 0],(.set 10),[]⟩]
def OR:List AA:=[
 ⟨none,.p1 some,[.var 10],(.set 22),[]⟩]
def YL:List AA:=[
 ⟨none,.p1 some,[(.const (.bool true))],(.set 2),[]⟩]
def Sb:List AA:=[
 ⟨none,.p1 (Hv Try.prog Go.UnOp.not),[.var 9],(.set 23),[]⟩]
def YM:List AA:=[
 ⟨none,.p1 some,[(.const (.bool true))],(.set 7),[]⟩]
def Sc:List AA:=[
 ⟨none,.p2 (AN Try.prog .add 3),[(.var 20),(.const (.int .i64 (1)))],.push,[]⟩,
 ⟨none,.p1 some,[.loc 0],(.set 20),[]⟩]
def OP:Ac:=(.seq (.ops Sa) (.seq (.cond (.var 21)
 .skip
 (.exit 4)) (.seq (.block 5 (.seq (.ops YJ) (.seq (.ops YK) (.seq (.seq (.ops OR) (.cond (.var 22)
 (.seq (.ops YL) .ret)
 .skip)) (.seq (.seq (.ops Sb) (.cond (.var 23)
 (.exit 5)
 .skip)) (.ops YM)))))) (.ops Sc))))
def OQ:Ac:=(.seq (.seq (.ops SZ) (.cond (.var 17)
 .skip
 (.exit 2))) (.block 3 (.seq (.ops YH) (.seq .skip (.seq (.ops YI) (.block 4 (.loop OP)))))))
def YN:List AA:=[
 ⟨none,.p1 some,[(.const (.bool false))],(.set 2),[]⟩]
def p7:Aw:=⟨2,24,(.seq (.ops fb) (.seq (.ops fc) (.seq (.seq (.ops fe) (.block 0 (.loop OO))) (.seq (.ops YF) (.seq (.seq (.ops YG) (.block 2 (.loop OQ))) (.seq (.ops YN) .ret)))))),[((.var 2),none)]⟩
def fm:List AA:=[
 ⟨none,.p1 some,[(.const (.slice none 0 (some 0)))],(.set 2),[]⟩]
def fo:List AA:=[
 ⟨none,.p1 some,[(.const (.slice none 0 (some 0)))],(.set 3),[]⟩]
def ft:List AA:=[
 ⟨none,.p1 some,[(.const (.int .i64 (0)))],(.set 4),[]⟩]
def Pa:List AA:=[
 ⟨none,.r (fun s l=>match l with | [x]=>As Try.prog s 30 x | _=>none),[.var 0],.push,[]⟩,
 ⟨none,.p2 (AN Try.prog .lss 3),[.var 4,.loc 0],.push,[]⟩,
 ⟨(some ((.loc 0),true)),.p1 some,[.var 4],.push,[]⟩,
 ⟨(some ((.loc 1),true)),.p2 (AN Try.prog .lss 3),[(.loc 0),(.const (.int .i64 (20)))],.push,[]⟩,
 ⟨none,.p Rn,[(.loc 2),(.loc 0),(.const (.bool false))],(.set 9),[]⟩]
def fu:List AA:=[
 ⟨none,.p1 some,[(.const (.slice none 0 (some 0)))],(.set 5),[]⟩]
def fv:List AA:=[
 ⟨none,.p1 some,[(.const (.int .i64 (0)))],(.set 6),[]⟩]
def NG:List AA:=[
 ⟨none,.p2 (AD Try.prog 30),[.var 0,.var 4],.push,[]⟩,
 ⟨none,.r1 (fun s a=>AC Try.prog s 76 a),[.loc 0],.push,[]⟩,
 ⟨none,.r (fun s l=>match l with | [x]=>As Try.prog s 76 x | _=>none),[.loc 0],.push,[]⟩,
 ⟨none,.p2 (AN Try.prog .lss 3),[.var 6,.loc 0],.push,[]⟩,
 ⟨(some ((.loc 0),true)),.p1 some,[.var 6],.push,[]⟩,
 ⟨(some ((.loc 1),true)),.p2 (AN Try.prog .lss 3),[(.loc 0),(.const (.int .i64 (5)))],.push,[]⟩,
 ⟨none,.p Rn,[(.loc 2),(.loc 0),(.const (.bool false))],(.set 10),[]⟩]
def YU:List AA:=[
 ⟨none,.p2 (AD Try.prog 30),[.var 0,.var 4],.push,[]⟩,
 ⟨none,.r1 (fun s a=>AC Try.prog s 76 a),[.loc 0],.push,[]⟩,
 ⟨none,.p2 (AD Try.prog 76),[.loc 0,.var 6],.push,[]⟩,
 ⟨none,.r1 (fun s a=>AC Try.prog s 77 a),[.loc 0],.push,[]⟩,
 ⟨none,.r1 (fun s x=>C5 Try.prog s 77 3 x),[.loc 0],.push,[]⟩,
 ⟨none,.p1 some,[.loc 0],(.set 7),[]⟩]
def YV:List AA:=[
 ⟨none,.p1 (Hv Try.prog Go.UnOp.neg),[.var 7],.push,[]⟩,
 ⟨none,.p (fun l=>match l with | v::l=>D6 true v l | []=>none),[.var 7,.loc 0],.push,[]⟩,
 ⟨none,.p2 (AN Try.prog .rem 3),[.loc 0,.var 1],.push,[]⟩,
 ⟨none,.p2 (AN Try.prog .add 3),[(.const (.int .i64 (1))),(.loc 0)],.push,[]⟩,
 ⟨none,.p1 some,[.loc 0],(.set 8),[]⟩]
def YW:List AA:=[
 ⟨none,.p2 (AN Try.prog .lss 3),[(.var 7),(.const (.int .i64 (0)))],(.set 11),[]⟩]
def YQ:List AA:=[
 ⟨none,.p1 some,[.var 8],.push,[]⟩,
 ⟨none,.p1 (Hv Try.prog Go.UnOp.neg),[.loc 0],.push,[]⟩,
 ⟨none,.p1 some,[.loc 0],(.set 8),[]⟩]
def Sd:List AA:=[
 ⟨none,.p1 some,[.var 5],.push,[]⟩,
 ⟨none,.mk (fun l=>(Ab Try.prog 23 1 (zipIdx [0] l)).bind fun r=>some (r,.slice 1)),[.var 8],.push,[]⟩,
 ⟨none,.e (fun s l=>AY Try.prog s [23,23] l),[.loc 1,.loc 0],.push,[]⟩,
 ⟨none,.p1 some,[.loc 0],(.set 5),[]⟩]
def Se:List AA:=[
 ⟨none,.p1 some,[.var 6],.push,[]⟩,
 ⟨none,.p2 (AN Try.prog .add 3),[(.loc 0),(.const (.int .i64 (1)))],.push,[]⟩,
 ⟨none,.p1 some,[.loc 0],(.set 6),[]⟩]
def Gv:Ac:=(.seq (.seq (.ops NG) (.cond (.var 10)
 .skip
 (.exit 2))) (.seq (.block 3 (.seq (.ops YU) (.seq (.ops YV) (.seq (.seq (.ops YW) (.cond (.var 11)
 (.ops YQ)
 .skip)) (.ops Sd))))) (.ops Se)))
def YR:List AA:=[
 ⟨none,.p1 some,[.var 3],.push,[]⟩,
 ⟨none,.mk (fun l=>(Ab Try.prog 22 1 (zipIdx [0] l)).bind fun r=>some (r,.slice 1)),[.var 5],.push,[]⟩,
 ⟨none,.e (fun s l=>AY Try.prog s [22,22] l),[.loc 1,.loc 0],.push,[]⟩,
 ⟨none,.p1 some,[.loc 0],(.set 3),[]⟩]
def YS:List AA:=[
 ⟨none,.p1 some,[.var 4],.push,[]⟩,
 ⟨none,.p2 (AN Try.prog .add 3),[(.loc 0),(.const (.int .i64 (1)))],.push,[]⟩,
 ⟨none,.p1 some,[.loc 0],(.set 4),[]⟩]
def Jn:Ac:=(.seq (.seq (.ops Pa) (.cond (.var 9)
 .skip
 (.exit 0))) (.seq (.block 1 (.seq (.ops fu) (.seq (.seq (.ops fv) (.block 2 (.loop Gv))) (.ops YR)))) (.ops YS)))
def YT:List AA:=[
 ⟨none,.p1 some,[.var 3],(.set 2),[]⟩]
def mp:Aw:=⟨2,12,(.seq (.ops fm) (.seq (.ops fo) (.seq (.seq (.ops ft) (.block 0 (.loop Jn))) (.seq (.ops YT) .ret)))),[((.var 2),none)]⟩
def YX:List AA:=[
 ⟨none,.p1 some,[(.const (.slice none 0 (some 0)))],(.set 1),[]⟩]
def YY:List AA:=[
 ⟨none,.p1 some,[(.const (.slice none 0 (some 0)))],(.set 2),[]⟩]
def YZ:List AA:=[
 ⟨none,.p1 some,[(.const (.int .i64 (0)))],(.set 3),[]⟩]
def NH:List AA:=[
 ⟨none,.r (fun s l=>match l with | [x]=>As Try.prog s 31 x | _=>none),[.var 0],.push,[]⟩,
 ⟨none,.p2 (AN Try.prog .lss 3),[.var 3,.loc 0],.push,[]⟩,
 ⟨(some ((.loc 0),true)),.p1 some,[.var 3],.push,[]⟩,
 ⟨(some ((.loc 1),true)),.p2 (AN Try.prog .lss 3),[(.loc 0),(.const (.int .i64 (20)))],.push,[]⟩,
 ⟨none,.p Rn,[(.loc 2),(.loc 0),(.const (.bool false))],(.set 6),[]⟩]
def fw:List AA:=[
 ⟨none,.p2 (AD Try.prog 31),[.var 0,.var 3],.push,[]⟩,
 ⟨none,.p1 (fun x=>AB Try.prog 79 x 0),[.loc 0],.push,[]⟩,
 ⟨none,.r1 (fun s a=>AC Try.prog s 4 a),[.loc 0],.push,[]⟩,
 ⟨none,.p (fun l=>Bu Try.prog 27 (zipIdx [0] l)),[.loc 0],.push,[]⟩,
 ⟨none,.mk (fun l=>match l with | []=>BF Try.prog 27 | _=>none),[],(.set 4),[]⟩,
 ⟨none,.e (fun s=>BW (fun a x=>AS (AP Try.prog s 27 a x))),[.var 4,.loc 0],.push,[]⟩]
def fx:List AA:=[
 ⟨none,.p2 (AD Try.prog 31),[.var 0,.var 3],.push,[]⟩,
 ⟨none,.p1 (fun x=>AB Try.prog 79 x 2),[.loc 0],.push,[]⟩,
 ⟨none,.r1 (fun s a=>AC Try.prog s 76 a),[.loc 0],.push,[]⟩,
 ⟨none,.mk (fun l=>(Ab Try.prog 30 1 (zipIdx [0] l)).bind fun r=>some (r,.slice 1)),[.loc 0],.push,[]⟩,
 ⟨none,.call 22,[(.loc 0),(.const (.int .i64 (6)))],.push,[]⟩,
 ⟨none,.p1 some,[.loc 0],(.set 5),[]⟩]
def fy:List AA:=[
 ⟨none,.p2 (AD Try.prog 22),[(.var 5),(.const (.int .i64 (0)))],.push,[]⟩,
 ⟨none,.r1 (fun s a=>AC Try.prog s 23 a),[.loc 0],.push,[]⟩,
 ⟨none,.p1 (fun x=>AB Try.prog 27 x 1),[.var 4],.push,[]⟩,
 ⟨none,.e (fun s=>BW (fun a x=>AS (AP Try.prog s 23 a x))),[.loc 0,.loc 1],.push,[]⟩]
def NI:List AA:=[
 ⟨none,.p1 (fun x=>AB Try.prog 27 x 0),[.var 4],.push,[]⟩,
 ⟨none,.r1 (fun s a=>AC Try.prog s 4 a),[.loc 0],.push,[]⟩,
 ⟨(some ((.loc 0),true)),.p1 some,[.var 2],.push,[]⟩,
 ⟨(some ((.loc 1),true)),.r (fun s l=>match l with | [x]=>As Try.prog s 33 x | _=>none),[.loc 0],.push,[]⟩,
 ⟨(some ((.loc 2),true)),.p2 (AN Try.prog .gtr 3),[(.loc 0),(.const (.int .i64 (0)))],.push,[]⟩,
 ⟨none,.p Rn,[(.loc 3),(.loc 0),(.const (.bool false))],.push,[]⟩,
 ⟨(some ((.loc 0),true)),.p1 some,[.var 0],.push,[]⟩,
 ⟨(some ((.loc 1),true)),.p1 some,[.var 3],.push,[]⟩,
 ⟨(some ((.loc 2),true)),.p2 (AD Try.prog 31),[.loc 1,.loc 0],.push,[]⟩,
 ⟨(some ((.loc 3),true)),.p1 (fun x=>AB Try.prog 79 x 1),[.loc 0],.push,[]⟩,
 ⟨(some ((.loc 4),true)),.r1 (fun s a=>AC Try.prog s 5 a),[.loc 0],.push,[]⟩,
 ⟨(some ((.loc 5),true)),.p2 (AN Try.prog .rem 5),[(.loc 0),(.const (.int .u8 (3)))],.push,[]⟩,
 ⟨(some ((.loc 6),true)),.p2 (AN Try.prog .gtr 5),[(.loc 0),(.const (.int .u8 (0)))],.push,[]⟩,
 ⟨none,.p Rn,[(.loc 7),(.loc 0),(.const (.bool false))],(.set 7),[]⟩]
def Yf:List AA:=[
 ⟨none,.p2 (AD Try.prog 31),[.var 0,.var 3],.push,[]⟩,
 ⟨none,.p1 (fun x=>AB Try.prog 79 x 1),[.loc 0],.push,[]⟩,
 ⟨none,.r1 (fun s a=>AC Try.prog s 5 a),[.loc 0],.push,[]⟩,
 ⟨none,.r1 (fun s x=>C5 Try.prog s 5 3 x),[.loc 0],.push,[]⟩,
 ⟨none,.r (fun s l=>match l with | [x]=>As Try.prog s 33 x | _=>none),[.var 2],.push,[]⟩,
 ⟨none,.p2 (AN Try.prog .rem 3),[.loc 1,.loc 0],.push,[]⟩,
 ⟨none,.p2 (AD Try.prog 33),[.var 2,.loc 0],.push,[]⟩,
 ⟨none,.p1 (fun x=>AB Try.prog 27 x 1),[.loc 0],.push,[]⟩,
 ⟨none,.r1 (fun s a=>AC Try.prog s 23 a),[.loc 0],.push,[]⟩,
 ⟨none,.p1 (fun x=>AB Try.prog 27 x 1),[.var 4],.push,[]⟩,
 ⟨none,.e (fun s=>BW (fun a x=>AS (AP Try.prog s 23 a x))),[.loc 0,.loc 1],.push,[]⟩]
def Ua:List AA:=[
 ⟨none,.p1 some,[.var 2],.push,[]⟩,
 ⟨none,.r1 (fun s a=>AC Try.prog s 27 a),[.var 4],.push,[]⟩,
 ⟨none,.mk (fun l=>(Ab Try.prog 33 1 (zipIdx [0] l)).bind fun r=>some (r,.slice 1)),[.loc 0],.push,[]⟩,
 ⟨none,.e (fun s l=>AY Try.prog s [33,33] l),[.loc 2,.loc 0],.push,[]⟩,
 ⟨none,.p1 some,[.loc 0],(.set 2),[]⟩]
def Sg:List AA:=[
 ⟨none,.p1 some,[.var 3],.push,[]⟩,
 ⟨none,.p2 (AN Try.prog .add 3),[(.loc 0),(.const (.int .i64 (1)))],.push,[]⟩,
 ⟨none,.p1 some,[.loc 0],(.set 3),[]⟩]
def Gw:Ac:=(.seq (.seq (.ops NH) (.cond (.var 6)
 .skip
 (.exit 0))) (.seq (.block 1 (.seq (.ops fw) (.seq (.ops fx) (.seq (.ops fy) (.seq (.seq (.ops NI) (.cond (.var 7)
 (.ops Yf)
 .skip)) (.ops Ua)))))) (.ops Sg)))
def Si:List AA:=[
 ⟨none,.p1 some,[.var 2],(.set 1),[]⟩]
def pU:Aw:=⟨1,8,(.seq (.ops YX) (.seq (.ops YY) (.seq (.seq (.ops YZ) (.block 0 (.loop Gw))) (.seq (.ops Si) .ret)))),[((.var 1),none)]⟩
def iE:List AA:=[
 ⟨none,.p1 some,[(.const (.slice none 0 (some 0)))],(.set 1),[]⟩]
def iF:List AA:=[
 ⟨none,.call 60,[.var 0],.push,[]⟩,
 ⟨none,.call 85,[(.loc 0),(.const (.func 86 [] []))],.push,[]⟩,
 ⟨none,.p1 some,[.loc 0],(.set 2),[]⟩]
def iG:List AA:=[
 ⟨none,.call 87,[.var 2],.push,[]⟩]
def iH:List AA:=[
 ⟨none,.call 88,[.var 2],.push,[]⟩,
 ⟨none,.p1 some,[.loc 0],(.set 1),[]⟩]
def qK:Aw:=⟨1,3,(.seq (.ops iE) (.seq (.ops iF) (.seq (.ops iG) (.seq (.ops iH) .ret)))),[((.var 1),none)]⟩
def jn:List AA:=[
 ⟨none,.p1 some,[(.const (.bool false))],(.set 1),[]⟩]
def jo:List AA:=[
 ⟨none,.call 48,[.var 0],.push,[]⟩,
 ⟨none,.p1 (fun x=>Rp x 0),[.loc 0],.push,[]⟩,
 ⟨none,.p1 (fun x=>Rp x 1),[.loc 1],.push,[]⟩,
 ⟨none,.p1 some,[.loc 1],.push,[]⟩,
 ⟨none,.p1 some,[.loc 1],(.set 2),[]⟩]
def jp:List AA:=[
 ⟨none,.p2 (AN Try.prog .eql 3),[(.var 2),(.const (.int .i64 (0)))],.push,[]⟩,
 ⟨none,.p1 some,[.loc 0],(.set 1),[]⟩]
def qb:Aw:=⟨1,3,(.seq (.ops jn) (.seq (.ops jo) (.seq (.ops jp) .ret))),[((.var 1),none)]⟩
def hH:List AA:=[
 ⟨none,.mk (fun l=>match l with | [v]=>Ce 33 v | _=>none),[.var 0],(.set 1),[]⟩,
 ⟨none,.p1 some,[(.const .nilFunc)],(.set 2),[]⟩]
def hY:List AA:=[
 ⟨none,.p (fun l=>some (.func 82 (l.take 0) (l.drop 0))),[.var 1],.push,[]⟩,
 ⟨none,.p1 some,[.loc 0],(.set 2),[]⟩]
def qI:Aw:=⟨1,3,(.seq (.ops hH) (.seq (.ops hY) .ret)),[((.var 2),none)]⟩
def jU:List AA:=[
 ⟨none,.p1 some,[(.const (.slice none 0 (some 0)))],(.set 2),[]⟩]
def jV:List AA:=[
 ⟨none,.r1 (fun s a=>AC Try.prog s 33 a),[.var 1],(.set 5),[]⟩,
 ⟨none,.r (fun s l=>match l with | [x]=>As Try.prog s 33 x | _=>none),[.var 5],(.set 6),[]⟩,
 ⟨none,.p1 some,[(.const (.int .i64 (0)))],(.set 7),[]⟩]
def Zm:List AA:=[
 ⟨none,.p2 (AN Try.prog .lss 3),[.var 7,.var 6],(.set 8),[]⟩]
def jW:List AA:=[
 ⟨none,.p2 (AD Try.prog 33),[.var 5,.var 7],.push,[]⟩,
 ⟨none,.r1 (fun s a=>AC Try.prog s 27 a),[.loc 0],.push,[]⟩,
 ⟨none,.mk (fun l=>match l with | []=>BF Try.prog 27 | _=>none),[],(.set 4),[]⟩,
 ⟨none,.p1 some,[.var 7],(.set 3),[]⟩,
 ⟨none,.e (fun s=>BW (fun a x=>AS (AP Try.prog s 27 a x))),[.var 4,.loc 0],.push,[]⟩]
def jX:List AA:=[
 ⟨none,.callv,[.var 0,.var 3,.var 2],.push,[]⟩,
 ⟨none,.p1 (Hv Try.prog Go.UnOp.not),[.loc 0],(.set 9),[]⟩]
def Zn:List AA:=[
 ⟨none,.p1 (fun x=>AB Try.prog 27 x 0),[.var 4],.push,[]⟩,
 ⟨none,.r1 (fun s a=>AC Try.prog s 4 a),[.loc 0],(.set 10),[]⟩]
def jY:List AA:=[
 ⟨none,.p1 some,[.var 2],.push,[]⟩,
 ⟨none,.p1 (fun x=>AB Try.prog 27 x 1),[.var 4],.push,[]⟩,
 ⟨none,.r1 (fun s a=>AC Try.prog s 23 a),[.loc 0],.push,[]⟩,
 ⟨none,.call 83,[.loc 2,.loc 0],.push,[]⟩,
 ⟨none,.p1 some,[.loc 0],(.set 2),[]⟩]
def jZ:List AA:=[
 ⟨none,.p1 some,[.var 2],.push,[]⟩,
 ⟨none,.p1 some,[.var 2],.push,[]⟩,
 ⟨none,.r (fun s l=>match l with | [x]=>As Try.prog s 22 x | _=>none),[.loc 0],.push,[]⟩,
 ⟨none,.p1 some,[.var 2],.push,[]⟩,
 ⟨none,.r (fun s l=>match l with | [x]=>As Try.prog s 22 x | _=>none),[.loc 0],.push,[]⟩,
 ⟨none,.r (AU Try.prog 22 false true true),[.loc 4,.loc 2,.loc 0],.push,[]⟩,
 ⟨none,.p1 (fun x=>AB Try.prog 27 x 1),[.var 4],.push,[]⟩,
 ⟨none,.r1 (fun s a=>AC Try.prog s 23 a),[.loc 0],.push,[]⟩,
 ⟨none,.mk (fun l=>(Ab Try.prog 22 1 (zipIdx [0] l)).bind fun r=>some (r,.slice 1)),[.loc 0],.push,[]⟩,
 ⟨none,.e (fun s l=>AY Try.prog s [22,22] l),[.loc 3,.loc 0],.push,[]⟩,
 ⟨none,.p1 some,[.loc 0],(.set 2),[]⟩]
def Zo:List AA:=[
 ⟨none,.p2 (AN Try.prog .add 3),[(.var 7),(.const (.int .i64 (1)))],.push,[]⟩,
 ⟨none,.p1 some,[.loc 0],(.set 7),[]⟩]
def Pn:Ac:=(.seq (.ops Zm) (.seq (.cond (.var 8)
 .skip
 (.exit 0)) (.seq (.block 1 (.seq (.ops jW) (.seq (.seq (.ops jX) (.cond (.var 9)
 .ret
 .skip)) (.seq (.ops Zn) (.cond (.var 10)
 (.ops jY)
 (.ops jZ)))))) (.ops Zo))))
def Zl:List AA:=[
 ⟨none,.r1 (fun s a=>AC Try.prog s 33 a),[.var 1],.push,[]⟩,
 ⟨none,.r (fun s l=>match l with | [x]=>As Try.prog s 33 x | _=>none),[.loc 0],.push,[]⟩,
 ⟨none,.callv,[.var 0,.loc 0,.var 2],.push,[]⟩]
def qX:Aw:=⟨2,11,(.seq (.ops jU) (.seq (.seq (.ops jV) (.block 0 (.loop Pn))) (.ops Zl))),[]⟩
def iA:List AA:=[
 ⟨none,.p1 some,[(.const (.slice none 0 (some 0)))],(.set 1),[]⟩]
def iB:List AA:=[
 ⟨none,.p1 some,[(.const (.int .i64 (0)))],(.set 2),[]⟩]
def iC:List AA:=[
 ⟨none,.p1 some,[.var 0],(.set 6),[]⟩,
 ⟨none,.r (fun s l=>match l with | [x]=>As Try.prog s 110 x | _=>none),[.var 6],(.set 7),[]⟩,
 ⟨none,.p1 some,[(.const (.int .i64 (0)))],(.set 8),[]⟩]
def Ud:List AA:=[
 ⟨none,.p2 (AN Try.prog .lss 3),[.var 8,.var 7],(.set 9),[]⟩]
def ZE:List AA:=[
 ⟨none,.p2 (AD Try.prog 110),[.var 6,.var 8],.push,[]⟩,
 ⟨none,.r1 (fun s a=>AC Try.prog s 22 a),[.loc 0],.push,[]⟩,
 ⟨none,.p1 some,[.loc 0],(.set 3),[]⟩]
def ZF:List AA:=[
 ⟨none,.p1 some,[.var 2],.push,[]⟩,
 ⟨none,.r (fun s l=>match l with | [x]=>As Try.prog s 22 x | _=>none),[.var 3],.push,[]⟩,
 ⟨none,.p2 (AN Try.prog .add 3),[.loc 1,.loc 0],.push,[]⟩,
 ⟨none,.p1 some,[.loc 0],(.set 2),[]⟩]
def ZG:List AA:=[
 ⟨none,.p2 (AN Try.prog .lss 3),[(.var 2),(.const (.int .i64 (0)))],(.set 10),[]⟩]
def ZH:List AA:=[
 ⟨none,.p2 (AN Try.prog .add 3),[(.var 8),(.const (.int .i64 (1)))],.push,[]⟩,
 ⟨none,.p1 some,[.loc 0],(.set 8),[]⟩]
def Pk:Ac:=(.seq (.ops Ud) (.seq (.cond (.var 9)
 .skip
 (.exit 0)) (.seq (.block 1 (.seq (.ops ZE) (.seq (.ops ZF) (.seq (.ops ZG) (.cond (.var 10)
 .never
 .skip))))) (.ops ZH))))
def iD:List AA:=[
 ⟨none,.call 84,[(.const (.slice none 0 (some 0))),(.var 2)],.push,[]⟩,
 ⟨none,.p1 some,[.loc 0],(.set 4),[]⟩]
def ZD:List AA:=[
 ⟨none,.p1 some,[.var 0],(.set 11),[]⟩,
 ⟨none,.r (fun s l=>match l with | [x]=>As Try.prog s 110 x | _=>none),[.var 11],(.set 12),[]⟩,
 ⟨none,.p1 some,[(.const (.int .i64 (0)))],(.set 13),[]⟩]
def IP:List AA:=[
 ⟨none,.p2 (AN Try.prog .lss 3),[.var 13,.var 12],(.set 14),[]⟩]
def La:List AA:=[
 ⟨none,.p2 (AD Try.prog 110),[.var 11,.var 13],.push,[]⟩,
 ⟨none,.r1 (fun s a=>AC Try.prog s 22 a),[.loc 0],.push,[]⟩,
 ⟨none,.p1 some,[.loc 0],(.set 5),[]⟩]
def Lb:List AA:=[
 ⟨none,.p1 some,[.var 4],.push,[]⟩,
 ⟨none,.e (fun s l=>AY Try.prog s [22,22] l),[.loc 0,.var 5],.push,[]⟩,
 ⟨none,.p1 some,[.loc 0],(.set 4),[]⟩]
def Lc:List AA:=[
 ⟨none,.p2 (AN Try.prog .add 3),[(.var 13),(.const (.int .i64 (1)))],.push,[]⟩,
 ⟨none,.p1 some,[.loc 0],(.set 13),[]⟩]
def GO:Ac:=(.seq (.ops IP) (.seq (.cond (.var 14)
 .skip
 (.exit 2)) (.seq (.block 3 (.seq (.ops La) (.ops Lb))) (.ops Lc))))
def Ss:List AA:=[
 ⟨none,.p1 some,[.var 4],(.set 1),[]⟩]
def qJ:Aw:=⟨1,15,(.seq (.ops iA) (.seq (.ops iB) (.seq (.seq (.ops iC) (.block 0 (.loop Pk))) (.seq (.ops iD) (.seq (.seq (.ops ZD) (.block 2 (.loop GO))) (.seq (.ops Ss) .ret)))))),[((.var 1),none)]⟩
def Ue:List AA:=[
 ⟨none,.p1 some,[(.const (.slice none 0 (some 0)))],(.set 1),[]⟩]
def Uf:List AA:=[
 ⟨none,.p2 (AN Try.prog .eql 23),[(.var 0),(.const (.slice none 0 (some 0)))],(.set 2),[]⟩]
def iI:List AA:=[
 ⟨none,.p1 some,[(.const (.slice none 0 (some 0)))],(.set 1),[]⟩]
def ZI:List AA:=[
 ⟨none,.mk (fun l=>(Ab Try.prog 23 0 (zipIdx [] l)).bind fun r=>some (r,.slice 0)),[],.push,[]⟩,
 ⟨none,.e (fun s l=>AY Try.prog s [23,23] l),[.loc 0,.var 0],.push,[]⟩,
 ⟨none,.p1 some,[.loc 0],(.set 1),[]⟩]
def pF:Aw:=⟨1,3,(.seq (.ops Ue) (.seq (.seq (.ops Uf) (.cond (.var 2)
 (.seq (.ops iI) .ret)
 .skip)) (.seq (.ops ZI) .ret))),[((.var 1),none)]⟩
def OI:List AA:=[
 ⟨none,.p1 some,[(.const (.slice none 0 (some 0)))],(.set 1),[]⟩]
def OJ:List AA:=[
 ⟨none,.p2 (AN Try.prog .eql 22),[(.var 0),(.const (.slice none 0 (some 0)))],(.set 2),[]⟩]
def XY:List AA:=[
 ⟨none,.p1 some,[(.const (.slice none 0 (some 0)))],(.set 1),[]⟩]
def SC:List AA:=[
 ⟨none,.mk (fun l=>(Ab Try.prog 22 0 (zipIdx [] l)).bind fun r=>some (r,.slice 0)),[],.push,[]⟩,
 ⟨none,.e (fun s l=>AY Try.prog s [22,22] l),[.loc 0,.var 0],.push,[]⟩,
 ⟨none,.p1 some,[.loc 0],(.set 1),[]⟩]
def dH:Aw:=⟨1,3,(.seq (.ops OI) (.seq (.seq (.ops OJ) (.cond (.var 2)
 (.seq (.ops XY) .ret)
 .skip)) (.seq (.ops SC) .ret))),[((.var 1),none)]⟩
def jj:List AA:=[
 ⟨none,.p1 some,[(.const (.slice none 0 (some 0)))],(.set 2),[]⟩]
def jk:List AA:=[
 ⟨none,.call 94,[.var 0,.var 1],.push,[]⟩,
 ⟨none,.p1 some,[.loc 0],(.set 3),[]⟩]
def jl:List AA:=[
 ⟨none,.p2 (AN Try.prog .eql 3),[(.var 3),(.const (.int .i64 (-1)))],(.set 6),[]⟩]
def jm:List AA:=[
 ⟨none,.p1 some,[.var 0],(.set 2),[]⟩]
def oJ:List AA:=[
 ⟨none,.p2 (AN Try.prog .add 3),[(.var 3),(.const (.int .i64 (1)))],.push,[]⟩,
 ⟨none,.p1 some,[.loc 0],(.set 4),[]⟩]
def oK:List AA:=[
 ⟨none,.r (fun s l=>match l with | [x]=>As Try.prog s 23 x | _=>none),[.var 0],.push,[]⟩,
 ⟨none,.p2 (AN Try.prog .lss 3),[.var 4,.loc 0],(.set 7),[]⟩]
def oL:List AA:=[
 ⟨none,.p2 (AD Try.prog 23),[.var 0,.var 4],.push,[]⟩,
 ⟨none,.r1 (fun s a=>AC Try.prog s 3 a),[.loc 0],.push,[]⟩,
 ⟨none,.p1 some,[.loc 0],(.set 5),[]⟩]
def oM:List AA:=[
 ⟨none,.callv,[.var 1,.var 5],.push,[]⟩,
 ⟨none,.p1 (Hv Try.prog Go.UnOp.not),[.loc 0],(.set 8),[]⟩]
def oN:List AA:=[
 ⟨none,.p2 (AD Try.prog 23),[.var 0,.var 3],.push,[]⟩,
 ⟨none,.e (fun s=>BW (fun a x=>AS (AP Try.prog s 3 a x))),[.loc 0,.var 5],.push,[]⟩]
def oO:List AA:=[
 ⟨none,.p1 some,[.var 3],.push,[]⟩,
 ⟨none,.p2 (AN Try.prog .add 3),[(.loc 0),(.const (.int .i64 (1)))],.push,[]⟩,
 ⟨none,.p1 some,[.loc 0],(.set 3),[]⟩]
def ky:List AA:=[
 ⟨none,.p1 some,[.var 4],.push,[]⟩,
 ⟨none,.p2 (AN Try.prog .add 3),[(.loc 0),(.const (.int .i64 (1)))],.push,[]⟩,
 ⟨none,.p1 some,[.loc 0],(.set 4),[]⟩]
def kx:Ac:=(.seq (.seq (.ops oK) (.cond (.var 7)
 .skip
 (.exit 0))) (.seq (.block 1 (.seq (.ops oL) (.seq (.ops oM) (.cond (.var 8)
 (.seq (.ops oN) (.ops oO))
 .skip)))) (.ops ky)))
def kz:List AA:=[
 ⟨none,.r (AU Try.prog 23 true false false),[.var 0,.var 3],.push,[]⟩,
 ⟨none,.e (fun s l=>FP Try.prog s [23] l),[.loc 0],.push,[]⟩]
def lA:List AA:=[
 ⟨none,.r (AU Try.prog 23 false true false),[.var 0,.var 3],.push,[]⟩,
 ⟨none,.p1 some,[.loc 0],(.set 2),[]⟩]
def qZ:Aw:=⟨2,9,(.seq (.ops jj) (.seq (.ops jk) (.seq (.seq (.ops jl) (.cond (.var 6)
 (.seq (.ops jm) .ret)
 .skip)) (.seq (.seq (.ops oJ) (.block 0 (.loop kx))) (.seq (.ops kz) (.seq (.ops lA) .ret)))))),[((.var 2),none)]⟩
def aC:List AA:=[
 ⟨none,.p1 some,[(.const (.int .i64 (0)))],(.set 2),[]⟩]
def aD:List AA:=[
 ⟨none,.r (fun s l=>match l with | [x]=>As Try.prog s 23 x | _=>none),[.var 0],(.set 4),[]⟩,
 ⟨none,.p1 some,[(.const (.int .i64 (0)))],(.set 5),[]⟩]
def Pq:List AA:=[
 ⟨none,.p2 (AN Try.prog .lss 3),[.var 5,.var 4],(.set 6),[]⟩]
def aE:List AA:=[
 ⟨none,.p1 some,[.var 5],(.set 3),[]⟩]
def aF:List AA:=[
 ⟨none,.p2 (AD Try.prog 23),[.var 0,.var 3],.push,[]⟩,
 ⟨none,.r1 (fun s a=>AC Try.prog s 3 a),[.loc 0],.push,[]⟩,
 ⟨none,.callv,[.var 1,.loc 0],(.set 7),[]⟩]
def j6:List AA:=[
 ⟨none,.p1 some,[.var 3],(.set 2),[]⟩]
def aG:List AA:=[
 ⟨none,.p2 (AN Try.prog .add 3),[(.var 5),(.const (.int .i64 (1)))],.push,[]⟩,
 ⟨none,.p1 some,[.loc 0],(.set 5),[]⟩]
def Is:Ac:=(.seq (.ops Pq) (.seq (.cond (.var 6)
 .skip
 (.exit 0)) (.seq (.block 1 (.seq (.ops aE) (.seq (.ops aF) (.cond (.var 7)
 (.seq (.ops j6) .ret)
 .skip)))) (.ops aG))))
def aH:List AA:=[
 ⟨none,.p1 some,[(.const (.int .i64 (-1)))],(.set 2),[]⟩]
def pf:Aw:=⟨2,8,(.seq (.ops aC) (.seq (.seq (.ops aD) (.block 0 (.loop Is))) (.seq (.ops aH) .ret))),[((.var 2),none)]⟩
def Zu:List AA:=[
 ⟨none,.r (fun s l=>match l with | [x]=>As Try.prog s 23 x | _=>none),[.var 0],.push,[]⟩,
 ⟨none,.p1 some,[.loc 0],(.set 1),[]⟩]
def Zv:List AA:=[
 ⟨none,.r1 (fun s x=>C5 Try.prog s 3 133 x),[.var 1],.push,[]⟩,
 ⟨none,.call 109,[.loc 0],.push,[]⟩,
 ⟨none,.call 108,[(.var 0),(.const (.int .i64 (0))),(.var 1),(.loc 0)],.push,[]⟩]
def pc:Aw:=⟨1,2,(.seq (.ops Zu) (.ops Zv)),[]⟩
def Po:List AA:=[
 ⟨none,.p1 some,[(.const (.slice none 0 (some 0)))],(.set 1),[]⟩]
def Pp:List AA:=[
 ⟨none,.r (fun s l=>match l with | [x]=>As Try.prog s 23 x | _=>none),[.var 0],.push,[]⟩,
 ⟨none,.p2 (AN Try.prog .lss 3),[(.loc 0),(.const (.int .i64 (2)))],(.set 5),[]⟩]
def Zy:List AA:=[
 ⟨none,.p1 some,[.var 0],(.set 1),[]⟩]
def Zz:List AA:=[
 ⟨none,.p1 some,[(.const (.int .i64 (1)))],(.set 2),[]⟩]
def Uk:List AA:=[
 ⟨none,.r (fun s l=>match l with | [x]=>As Try.prog s 23 x | _=>none),[.var 0],.push,[]⟩,
 ⟨none,.p2 (AN Try.prog .lss 3),[.var 2,.loc 0],(.set 6),[]⟩]
def Z0:List AA:=[
 ⟨none,.p2 (AD Try.prog 23),[.var 0,.var 2],.push,[]⟩,
 ⟨none,.r1 (fun s a=>AC Try.prog s 3 a),[.loc 0],.push,[]⟩,
 ⟨none,.p2 (AN Try.prog .sub 3),[(.var 2),(.const (.int .i64 (1)))],.push,[]⟩,
 ⟨none,.p2 (AD Try.prog 23),[.var 0,.loc 0],.push,[]⟩,
 ⟨none,.r1 (fun s a=>AC Try.prog s 3 a),[.loc 0],.push,[]⟩,
 ⟨none,.p2 (AN Try.prog .eql 3),[.loc 3,.loc 0],(.set 7),[]⟩]
def jq:List AA:=[
 ⟨none,.r (AU Try.prog 23 true false false),[.var 0,.var 2],.push,[]⟩,
 ⟨none,.p1 some,[.loc 0],(.set 3),[]⟩]
def js:List AA:=[
 ⟨none,.p1 some,[(.const (.int .i64 (1)))],(.set 4),[]⟩]
def Ul:List AA:=[
 ⟨none,.r (fun s l=>match l with | [x]=>As Try.prog s 23 x | _=>none),[.var 3],.push,[]⟩,
 ⟨none,.p2 (AN Try.prog .lss 3),[.var 4,.loc 0],(.set 8),[]⟩]
def Z1:List AA:=[
 ⟨none,.p2 (AD Try.prog 23),[.var 3,.var 4],.push,[]⟩,
 ⟨none,.r1 (fun s a=>AC Try.prog s 3 a),[.loc 0],.push,[]⟩,
 ⟨none,.p2 (AN Try.prog .sub 3),[(.var 4),(.const (.int .i64 (1)))],.push,[]⟩,
 ⟨none,.p2 (AD Try.prog 23),[.var 3,.loc 0],.push,[]⟩,
 ⟨none,.r1 (fun s a=>AC Try.prog s 3 a),[.loc 0],.push,[]⟩,
 ⟨none,.p2 (AN Try.prog .neq 3),[.loc 3,.loc 0],(.set 9),[]⟩]
def Zw:List AA:=[
 ⟨none,.p2 (AD Try.prog 23),[.var 3,.var 4],.push,[]⟩,
 ⟨none,.r1 (fun s a=>AC Try.prog s 3 a),[.loc 0],.push,[]⟩,
 ⟨none,.p2 (AD Try.prog 23),[.var 0,.var 2],.push,[]⟩,
 ⟨none,.e (fun s=>BW (fun a x=>AS (AP Try.prog s 3 a x))),[.loc 0,.loc 1],.push,[]⟩]
def Zx:List AA:=[
 ⟨none,.p1 some,[.var 2],.push,[]⟩,
 ⟨none,.p2 (AN Try.prog .add 3),[(.loc 0),(.const (.int .i64 (1)))],.push,[]⟩,
 ⟨none,.p1 some,[.loc 0],(.set 2),[]⟩]
def TC:List AA:=[
 ⟨none,.p1 some,[.var 4],.push,[]⟩,
 ⟨none,.p2 (AN Try.prog .add 3),[(.loc 0),(.const (.int .i64 (1)))],.push,[]⟩,
 ⟨none,.p1 some,[.loc 0],(.set 4),[]⟩]
def Jq:Ac:=(.seq (.seq (.ops Ul) (.cond (.var 8)
 .skip
 (.exit 2))) (.seq (.block 3 (.seq (.ops Z1) (.cond (.var 9)
 (.seq (.ops Zw) (.ops Zx))
 .skip))) (.ops TC)))
def TD:List AA:=[
 ⟨none,.r (AU Try.prog 23 true false false),[.var 0,.var 2],.push,[]⟩,
 ⟨none,.e (fun s l=>FP Try.prog s [23] l),[.loc 0],.push,[]⟩]
def TE:List AA:=[
 ⟨none,.r (AU Try.prog 23 false true false),[.var 0,.var 2],.push,[]⟩,
 ⟨none,.p1 some,[.loc 0],(.set 1),[]⟩]
def OV:List AA:=[
 ⟨none,.p1 some,[.var 2],.push,[]⟩,
 ⟨none,.p2 (AN Try.prog .add 3),[(.loc 0),(.const (.int .i64 (1)))],.push,[]⟩,
 ⟨none,.p1 some,[.loc 0],(.set 2),[]⟩]
def Jr:Ac:=(.seq (.seq (.ops Uk) (.cond (.var 6)
 .skip
 (.exit 0))) (.seq (.block 1 (.seq (.ops Z0) (.cond (.var 7)
 (.seq (.ops jq) (.seq (.seq (.ops js) (.block 2 (.loop Jq))) (.seq (.ops TD) (.seq (.ops TE) .ret))))
 .skip))) (.ops OV)))
def TF:List AA:=[
 ⟨none,.p1 some,[.var 0],(.set 1),[]⟩]
def oP:Aw:=⟨1,10,(.seq (.ops Po) (.seq (.seq (.ops Pp) (.cond (.var 5)
 (.seq (.ops Zy) .ret)
 .skip)) (.seq (.seq (.ops Zz) (.block 0 (.loop Jr))) (.seq (.ops TF) .ret)))),[((.var 1),none)]⟩
def R8:List AA:=[
 ⟨none,.p1 some,[(.const (.bool false))],(.set 2),[]⟩]
def R9:List AA:=[
 ⟨none,.r (fun s l=>match l with | [x]=>As Try.prog s 23 x | _=>none),[.var 0],.push,[]⟩,
 ⟨none,.r (fun s l=>match l with | [x]=>As Try.prog s 23 x | _=>none),[.var 1],.push,[]⟩,
 ⟨none,.p2 (AN Try.prog .neq 3),[.loc 1,.loc 0],(.set 4),[]⟩]
def XN:List AA:=[
 ⟨none,.p1 some,[(.const (.bool false))],(.set 2),[]⟩]
def XO:List AA:=[
 ⟨none,.r (fun s l=>match l with | [x]=>As Try.prog s 23 x | _=>none),[.var 0],(.set 5),[]⟩,
 ⟨none,.p1 some,[(.const (.int .i64 (0)))],(.set 6),[]⟩]
def OH:List AA:=[
 ⟨none,.p2 (AN Try.prog .lss 3),[.var 6,.var 5],(.set 7),[]⟩]
def SA:List AA:=[
 ⟨none,.p1 some,[.var 6],(.set 3),[]⟩]
def SB:List AA:=[
 ⟨none,.p2 (AD Try.prog 23),[.var 0,.var 3],.push,[]⟩,
 ⟨none,.r1 (fun s a=>AC Try.prog s 3 a),[.loc 0],.push,[]⟩,
 ⟨none,.p2 (AD Try.prog 23),[.var 1,.var 3],.push,[]⟩,
 ⟨none,.r1 (fun s a=>AC Try.prog s 3 a),[.loc 0],.push,[]⟩,
 ⟨none,.p2 (AN Try.prog .neq 3),[.loc 2,.loc 0],(.set 8),[]⟩]
def XP:List AA:=[
 ⟨none,.p1 some,[(.const (.bool false))],(.set 2),[]⟩]
def XQ:List AA:=[
 ⟨none,.p2 (AN Try.prog .add 3),[(.var 6),(.const (.int .i64 (1)))],.push,[]⟩,
 ⟨none,.p1 some,[.loc 0],(.set 6),[]⟩]
def Ji:Ac:=(.seq (.ops OH) (.seq (.cond (.var 7)
 .skip
 (.exit 0)) (.seq (.block 1 (.seq (.ops SA) (.seq (.ops SB) (.cond (.var 8)
 (.seq (.ops XP) .ret)
 .skip)))) (.ops XQ))))
def UY:List AA:=[
 ⟨none,.p1 some,[(.const (.bool true))],(.set 2),[]⟩]
def ka:Aw:=⟨2,9,(.seq (.ops R8) (.seq (.seq (.ops R9) (.cond (.var 4)
 (.seq (.ops XN) .ret)
 .skip)) (.seq (.seq (.ops XO) (.block 0 (.loop Ji))) (.seq (.ops UY) .ret)))),[((.var 2),none)]⟩
def XR:List AA:=[
 ⟨none,.p1 some,[(.const (.slice none 0 (some 0)))],(.set 3),[]⟩]
def XS:List AA:=[
 ⟨none,.r (fun s l=>match l with | [x]=>As Try.prog s 22 x | _=>none),[.var 0],.push,[]⟩,
 ⟨none,.r (AU Try.prog 22 true true true),[.var 0,.var 1,.var 2,.loc 0],.push,[]⟩]
def XT:List AA:=[
 ⟨none,.p2 (AN Try.prog .eql 3),[.var 1,.var 2],(.set 5),[]⟩]
def kc:List AA:=[
 ⟨none,.p1 some,[.var 0],(.set 3),[]⟩]
def XU:List AA:=[
 ⟨none,.r (fun s l=>match l with | [x]=>As Try.prog s 22 x | _=>none),[.var 0],.push,[]⟩,
 ⟨none,.p1 some,[.loc 0],(.set 4),[]⟩]
def XV:List AA:=[
 ⟨none,.p1 some,[.var 0],.push,[]⟩,
 ⟨none,.r (AU Try.prog 22 false true false),[.loc 0,.var 1],.push,[]⟩,
 ⟨none,.p1 some,[.var 0],.push,[]⟩,
 ⟨none,.r (AU Try.prog 22 true false false),[.loc 0,.var 2],.push,[]⟩,
 ⟨none,.e (fun s l=>AY Try.prog s [22,22] l),[.loc 2,.loc 0],.push,[]⟩,
 ⟨none,.p1 some,[.loc 0],(.set 0),[]⟩]
def XW:List AA:=[
 ⟨none,.r (fun s l=>match l with | [x]=>As Try.prog s 22 x | _=>none),[.var 0],.push,[]⟩,
 ⟨none,.r (AU Try.prog 22 true true false),[.var 0,.loc 0,.var 4],.push,[]⟩,
 ⟨none,.e (fun s l=>FP Try.prog s [22] l),[.loc 0],.push,[]⟩]
def XX:List AA:=[
 ⟨none,.p1 some,[.var 0],(.set 3),[]⟩]
def nh:Aw:=⟨3,6,(.seq (.ops XR) (.seq (.ops XS) (.seq (.seq (.ops XT) (.cond (.var 5)
 (.seq (.ops kc) .ret)
 .skip)) (.seq (.ops XU) (.seq (.ops XV) (.seq (.ops XW) (.seq (.ops XX) .ret))))))),[((.var 3),none)]⟩
def Zp:List AA:=[
 ⟨none,.p1 some,[(.const (.slice none 0 (some 0)))],(.set 2),[]⟩]
def Zq:List AA:=[
 ⟨none,.p2 (AN Try.prog .lss 3),[(.var 1),(.const (.int .i64 (0)))],(.set 3),[]⟩]
def Zr:List AA:=[
 ⟨none,.p1 some,[.var 1],.push,[]⟩,
 ⟨none,.r (fun s l=>match l with | [x]=>Mz Try.prog s 22 x | _=>none),[.var 0],.push,[]⟩,
 ⟨none,.r (fun s l=>match l with | [x]=>As Try.prog s 22 x | _=>none),[.var 0],.push,[]⟩,
 ⟨none,.p2 (AN Try.prog .sub 3),[.loc 1,.loc 0],.push,[]⟩,
 ⟨none,.p2 (AN Try.prog .sub 3),[.loc 3,.loc 0],.push,[]⟩,
 ⟨none,.p1 some,[.loc 0],(.set 1),[]⟩]
def Zs:List AA:=[
 ⟨none,.p2 (AN Try.prog .gtr 3),[(.var 1),(.const (.int .i64 (0)))],(.set 4),[]⟩]
def ji:List AA:=[
 ⟨none,.p1 some,[.var 0],.push,[]⟩,
 ⟨none,.p1 some,[.var 0],.push,[]⟩,
 ⟨none,.r (fun s l=>match l with | [x]=>Mz Try.prog s 22 x | _=>none),[.loc 0],.push,[]⟩,
 ⟨none,.r (AU Try.prog 22 false true false),[.loc 2,.loc 0],.push,[]⟩,
 ⟨none,.e (fun s l=>AY Try.prog s [22,3] l),[.loc 0,.var 1],.push,[]⟩,
 ⟨none,.p1 some,[.var 0],.push,[]⟩,
 ⟨none,.r (fun s l=>match l with | [x]=>As Try.prog s 22 x | _=>none),[.loc 0],.push,[]⟩,
 ⟨none,.r (AU Try.prog 22 false true false),[.loc 2,.loc 0],.push,[]⟩,
 ⟨none,.p1 some,[.loc 0],(.set 0),[]⟩]
def Zt:List AA:=[
 ⟨none,.p1 some,[.var 0],(.set 2),[]⟩]
def pZ:Aw:=⟨2,5,(.seq (.ops Zp) (.seq (.seq (.ops Zq) (.cond (.var 3)
 .never
 .skip)) (.seq (.seq (.ops Zr) (.seq (.ops Zs) (.cond (.var 4)
 (.ops ji)
 .skip))) (.seq (.ops Zt) .ret)))),[((.var 2),none)]⟩
def XL:List AA:=[
 ⟨none,.mk (fun l=>match l with | [v]=>Ce 22 v | _=>none),[.var 0],(.set 1),[]⟩,
 ⟨none,.p1 some,[(.const .nilFunc)],(.set 2),[]⟩]
def XM:List AA:=[
 ⟨none,.p (fun l=>some (.func 116 (l.take 0) (l.drop 0))),[.var 1],.push,[]⟩,
 ⟨none,.p1 some,[.loc 0],(.set 2),[]⟩]
def ng:Aw:=⟨1,3,(.seq (.ops XL) (.seq (.ops XM) .ret)),[((.var 2),none)]⟩
def Xt:List AA:=[
 ⟨none,.r1 (fun s a=>AC Try.prog s 22 a),[.var 1],.push,[]⟩,
 ⟨none,.r (fun s l=>match l with | [x]=>As Try.prog s 22 x | _=>none),[.loc 0],.push,[]⟩,
 ⟨none,.p2 (AN Try.prog .sub 3),[(.loc 0),(.const (.int .i64 (1)))],.push,[]⟩,
 ⟨none,.p1 some,[.loc 0],(.set 2),[]⟩]
def SR:List AA:=[
 ⟨none,.p2 (AN Try.prog .geq 3),[(.var 2),(.const (.int .i64 (0)))],(.set 3),[]⟩]
def Xu:List AA:=[
 ⟨none,.r1 (fun s a=>AC Try.prog s 22 a),[.var 1],.push,[]⟩,
 ⟨none,.p2 (AD Try.prog 22),[.loc 0,.var 2],.push,[]⟩,
 ⟨none,.r1 (fun s a=>AC Try.prog s 23 a),[.loc 0],.push,[]⟩,
 ⟨none,.callv,[.var 0,.var 2,.loc 0],.push,[]⟩,
 ⟨none,.p1 (Hv Try.prog Go.UnOp.not),[.loc 0],(.set 4),[]⟩]
def Xv:List AA:=[
 ⟨none,.p1 some,[.var 2],.push,[]⟩,
 ⟨none,.p2 (AN Try.prog .sub 3),[(.loc 0),(.const (.int .i64 (1)))],.push,[]⟩,
 ⟨none,.p1 some,[.loc 0],(.set 2),[]⟩]
def LM:Ac:=(.seq (.seq (.ops SR) (.cond (.var 3)
 .skip
 (.exit 0))) (.seq (.block 1 (.seq (.ops Xu) (.cond (.var 4)
 .ret
 .skip))) (.ops Xv)))
def nn:Aw:=⟨2,5,(.seq (.ops Xt) (.block 0 (.loop LM))),[]⟩
def SD:List AA:=[
 ⟨none,.p1 some,[(.const (.bool true))],(.set 4),[]⟩]
def SE:List AA:=[
 ⟨none,.p1 some,[(.const (.bool true))],(.set 5),[]⟩]
def SF:List AA:=[
 ⟨none,.p2 (AN Try.prog .sub 3),[.var 2,.var 1],.push,[]⟩,
 ⟨none,.p1 some,[.loc 0],(.set 6),[]⟩]
def SG:List AA:=[
 ⟨none,.p2 (AN Try.prog .leq 3),[(.var 6),(.const (.int .i64 (12)))],(.set 15),[]⟩]
def SH:List AA:=[
 ⟨none,.call 117,[.var 0,.var 1,.var 2],.push,[]⟩]
def kf:List AA:=[
 ⟨none,.p2 (AN Try.prog .eql 3),[(.var 3),(.const (.int .i64 (0)))],(.set 16),[]⟩]
def kg:List AA:=[
 ⟨none,.call 118,[.var 0,.var 1,.var 2],.push,[]⟩]
def kh:List AA:=[
 ⟨none,.p1 (Hv Try.prog Go.UnOp.not),[.var 4],(.set 17),[]⟩]
def ki:List AA:=[
 ⟨none,.call 119,[.var 0,.var 1,.var 2],.push,[]⟩]
def kj:List AA:=[
 ⟨none,.p1 some,[.var 3],.push,[]⟩,
 ⟨none,.p2 (AN Try.prog .sub 3),[(.loc 0),(.const (.int .i64 (1)))],.push,[]⟩,
 ⟨none,.p1 some,[.loc 0],(.set 3),[]⟩]
def dI:List AA:=[
 ⟨none,.call 120,[.var 0,.var 1,.var 2],.push,[]⟩,
 ⟨none,.p1 (fun x=>Rp x 0),[.loc 0],.push,[]⟩,
 ⟨none,.p1 (fun x=>Rp x 1),[.loc 1],.push,[]⟩,
 ⟨none,.p1 some,[.loc 1],(.set 7),[]⟩,
 ⟨none,.p1 some,[.loc 0],(.set 8),[]⟩]
def dJ:List AA:=[
 ⟨none,.p2 (AN Try.prog .eql 138),[(.var 8),(.const (.int .i64 (2)))],(.set 18),[]⟩]
def dK:List AA:=[
 ⟨none,.call 121,[.var 0,.var 1,.var 2],.push,[]⟩]
def dL:List AA:=[
 ⟨none,.p2 (AN Try.prog .sub 3),[(.var 2),(.const (.int .i64 (1)))],.push,[]⟩,
 ⟨none,.p1 some,[.var 7],.push,[]⟩,
 ⟨none,.p2 (AN Try.prog .sub 3),[.loc 0,.var 1],.push,[]⟩,
 ⟨none,.p2 (AN Try.prog .sub 3),[.loc 2,.loc 0],.push,[]⟩,
 ⟨none,.p1 some,[.loc 0],(.set 7),[]⟩]
def dM:List AA:=[
 ⟨none,.p1 some,[(.const (.int .i64 (1)))],(.set 8),[]⟩]
def dN:List AA:=[
 ⟨(some ((.var 4),true)),.p1 some,[.var 5],.push,[]⟩,
 ⟨none,.p Rn,[(.var 4),(.loc 0),(.const (.bool false))],.push,[]⟩,
 ⟨(some ((.loc 0),true)),.p1 some,[.var 8],.push,[]⟩,
 ⟨(some ((.loc 1),true)),.p2 (AN Try.prog .eql 138),[(.loc 0),(.const (.int .i64 (1)))],.push,[]⟩,
 ⟨none,.p Rn,[(.loc 2),(.loc 0),(.const (.bool false))],(.set 19),[]⟩]
def dO:List AA:=[
 ⟨none,.call 122,[.var 0,.var 1,.var 2],(.set 20),[]⟩]
def dP:List AA:=[
 ⟨none,.p2 (AN Try.prog .gtr 3),[(.var 1),(.const (.int .i64 (0)))],.push,[]⟩,
 ⟨(some ((.loc 0),true)),.p1 some,[.var 0],.push,[]⟩,
 ⟨(some ((.loc 1),true)),.p1 some,[.var 1],.push,[]⟩,
 ⟨(some ((.loc 2),true)),.p2 (AN Try.prog .sub 3),[(.loc 0),(.const (.int .i64 (1)))],.push,[]⟩,
 ⟨(some ((.loc 3),true)),.p2 (AD Try.prog 23),[.loc 2,.loc 0],.push,[]⟩,
 ⟨(some ((.loc 4),true)),.r1 (fun s a=>AC Try.prog s 3 a),[.loc 0],.push,[]⟩,
 ⟨(some ((.loc 5),true)),.p1 some,[.var 0],.push,[]⟩,
 ⟨(some ((.loc 6),true)),.p1 some,[.var 7],.push,[]⟩,
 ⟨(some ((.loc 7),true)),.p2 (AD Try.prog 23),[.loc 1,.loc 0],.push,[]⟩,
 ⟨(some ((.loc 8),true)),.r1 (fun s a=>AC Try.prog s 3 a),[.loc 0],.push,[]⟩,
 ⟨(some ((.loc 9),true)),.call 123,[.loc 4,.loc 0],.push,[]⟩,
 ⟨(some ((.loc 10),true)),.p1 (Hv Try.prog Go.UnOp.not),[.loc 0],.push,[]⟩,
 ⟨none,.p Rn,[(.loc 11),(.loc 0),(.const (.bool false))],(.set 21),[]⟩]
def dQ:List AA:=[
 ⟨none,.call 124,[.var 0,.var 1,.var 2,.var 7],.push,[]⟩,
 ⟨none,.p1 some,[.loc 0],(.set 9),[]⟩]
def dR:List AA:=[
 ⟨none,.p1 some,[.var 9],(.set 1),[]⟩]
def dS:List AA:=[
 ⟨none,.call 125,[.var 0,.var 1,.var 2,.var 7],.push,[]⟩,
 ⟨none,.p1 (fun x=>Rp x 0),[.loc 0],.push,[]⟩,
 ⟨none,.p1 (fun x=>Rp x 1),[.loc 1],.push,[]⟩,
 ⟨none,.p1 some,[.loc 1],(.set 10),[]⟩,
 ⟨none,.p1 some,[.loc 0],(.set 11),[]⟩]
def dT:List AA:=[
 ⟨none,.p1 some,[.var 11],(.set 5),[]⟩]
def dU:List AA:=[
 ⟨none,.p2 (AN Try.prog .sub 3),[.var 10,.var 1],.push,[]⟩,
 ⟨none,.p2 (AN Try.prog .sub 3),[.var 2,.var 10],.push,[]⟩,
 ⟨none,.p1 some,[.loc 1],(.set 12),[]⟩,
 ⟨none,.p1 some,[.loc 0],(.set 13),[]⟩]
def dV:List AA:=[
 ⟨none,.p2 (AN Try.prog .quo 3),[(.var 6),(.const (.int .i64 (8)))],.push,[]⟩,
 ⟨none,.p1 some,[.loc 0],(.set 14),[]⟩]
def dW:List AA:=[
 ⟨none,.p2 (AN Try.prog .lss 3),[.var 12,.var 13],(.set 22),[]⟩]
def dX:List AA:=[
 ⟨none,.p2 (AN Try.prog .geq 3),[.var 12,.var 14],.push,[]⟩,
 ⟨none,.p1 some,[.loc 0],(.set 4),[]⟩]
def dY:List AA:=[
 ⟨none,.call 108,[.var 0,.var 1,.var 10,.var 3],.push,[]⟩]
def dZ:List AA:=[
 ⟨none,.p2 (AN Try.prog .add 3),[(.var 10),(.const (.int .i64 (1)))],.push,[]⟩,
 ⟨none,.p1 some,[.loc 0],(.set 1),[]⟩]
def da:List AA:=[
 ⟨none,.p2 (AN Try.prog .geq 3),[.var 13,.var 14],.push,[]⟩,
 ⟨none,.p1 some,[.loc 0],(.set 4),[]⟩]
def db:List AA:=[
 ⟨none,.p2 (AN Try.prog .add 3),[(.var 10),(.const (.int .i64 (1)))],.push,[]⟩,
 ⟨none,.call 108,[.var 0,.loc 0,.var 2,.var 3],.push,[]⟩]
def dc:List AA:=[
 ⟨none,.p1 some,[.var 10],(.set 2),[]⟩]
def Ir:Ac:=(.block 1 (.seq (.ops SF) (.seq (.seq (.ops SG) (.cond (.var 15)
 (.seq (.ops SH) .ret)
 .skip)) (.seq (.seq (.ops kf) (.cond (.var 16)
 (.seq (.ops kg) .ret)
 .skip)) (.seq (.seq (.ops kh) (.cond (.var 17)
 (.seq (.ops ki) (.ops kj))
 .skip)) (.seq (.ops dI) (.seq (.seq (.ops dJ) (.cond (.var 18)
 (.seq (.ops dK) (.seq (.ops dL) (.ops dM)))
 .skip)) (.seq (.seq (.ops dN) (.cond (.var 19)
 (.seq (.ops dO) (.cond (.var 20)
 .ret
 .skip))
 .skip)) (.seq (.seq (.ops dP) (.cond (.var 21)
 (.seq (.ops dQ) (.seq (.ops dR) (.exit 1)))
 .skip)) (.seq (.ops dS) (.seq (.ops dT) (.seq (.ops dU) (.seq (.ops dV) (.seq (.ops dW) (.cond (.var 22)
 (.seq (.ops dX) (.seq (.ops dY) (.ops dZ)))
 (.seq (.ops da) (.seq (.ops db) (.ops dc))))))))))))))))))
def ke:Aw:=⟨4,23,(.seq (.ops SD) (.seq (.ops SE) (.block 0 (.loop Ir)))),[]⟩
def LO:List AA:=[
 ⟨none,.p2 (AN Try.prog .add 3),[(.var 1),(.const (.int .i64 (1)))],.push,[]⟩,
 ⟨none,.p1 some,[.loc 0],(.set 3),[]⟩]
def IM:List AA:=[
 ⟨none,.p2 (AN Try.prog .lss 3),[.var 3,.var 2],(.set 5),[]⟩]
def Xx:List AA:=[
 ⟨none,.p1 some,[.var 3],(.set 4),[]⟩]
def SS:List AA:=[
 ⟨none,.p2 (AN Try.prog .gtr 3),[.var 4,.var 1],.push,[]⟩,
 ⟨(some ((.loc 0),true)),.p1 some,[.var 0],.push,[]⟩,
 ⟨(some ((.loc 1),true)),.p1 some,[.var 4],.push,[]⟩,
 ⟨(some ((.loc 2),true)),.p2 (AD Try.prog 23),[.loc 1,.loc 0],.push,[]⟩,
 ⟨(some ((.loc 3),true)),.r1 (fun s a=>AC Try.prog s 3 a),[.loc 0],.push,[]⟩,
 ⟨(some ((.loc 4),true)),.p1 some,[.var 0],.push,[]⟩,
 ⟨(some ((.loc 5),true)),.p1 some,[.var 4],.push,[]⟩,
 ⟨(some ((.loc 6),true)),.p2 (AN Try.prog .sub 3),[(.loc 0),(.const (.int .i64 (1)))],.push,[]⟩,
 ⟨(some ((.loc 7),true)),.p2 (AD Try.prog 23),[.loc 2,.loc 0],.push,[]⟩,
 ⟨(some ((.loc 8),true)),.r1 (fun s a=>AC Try.prog s 3 a),[.loc 0],.push,[]⟩,
 ⟨(some ((.loc 9),true)),.call 123,[.loc 5,.loc 0],.push,[]⟩,
 ⟨none,.p Rn,[(.loc 10),(.loc 0),(.const (.bool false))],(.set 6),[]⟩]
def Xy:List AA:=[
 ⟨none,.p2 (AN Try.prog .sub 3),[(.var 4),(.const (.int .i64 (1)))],.push,[]⟩,
 ⟨none,.p2 (AN Try.prog .sub 3),[(.var 4),(.const (.int .i64 (1)))],.push,[]⟩,
 ⟨none,.p2 (AD Try.prog 23),[.var 0,.loc 0],.push,[]⟩,
 ⟨none,.r1 (fun s a=>AC Try.prog s 3 a),[.loc 0],.push,[]⟩,
 ⟨none,.p2 (AD Try.prog 23),[.var 0,.var 4],.push,[]⟩,
 ⟨none,.r1 (fun s a=>AC Try.prog s 3 a),[.loc 0],.push,[]⟩,
 ⟨none,.p2 (AD Try.prog 23),[.var 0,.var 4],.push,[]⟩,
 ⟨none,.e (fun s=>BW (fun a x=>AS (AP Try.prog s 3 a x))),[.loc 0,.loc 3],.push,[]⟩,
 ⟨none,.p2 (AD Try.prog 23),[.var 0,.loc 7],.push,[]⟩,
 ⟨none,.e (fun s=>BW (fun a x=>AS (AP Try.prog s 3 a x))),[.loc 0,.loc 3],.push,[]⟩]
def Xz:List AA:=[
 ⟨none,.p1 some,[.var 4],.push,[]⟩,
 ⟨none,.p2 (AN Try.prog .sub 3),[(.loc 0),(.const (.int .i64 (1)))],.push,[]⟩,
 ⟨none,.p1 some,[.loc 0],(.set 4),[]⟩]
def LN:Ac:=(.seq (.seq (.ops SS) (.cond (.var 6)
 .skip
 (.exit 2))) (.seq (.block 3 (.ops Xy)) (.ops Xz)))
def X0:List AA:=[
 ⟨none,.p1 some,[.var 3],.push,[]⟩,
 ⟨none,.p2 (AN Try.prog .add 3),[(.loc 0),(.const (.int .i64 (1)))],.push,[]⟩,
 ⟨none,.p1 some,[.loc 0],(.set 3),[]⟩]
def GM:Ac:=(.seq (.seq (.ops IM) (.cond (.var 5)
 .skip
 (.exit 0))) (.seq (.block 1 (.seq (.ops Xx) (.block 2 (.loop LN)))) (.ops X0)))
def Xw:Aw:=⟨3,7,(.seq (.ops LO) (.block 0 (.loop GM))),[]⟩
theorem lP:AQ Try.prog 48=some oB:=by kernel_rfl
theorem lQ:AQ Try.prog 49=some qE:=by kernel_rfl
theorem lR:AQ Try.prog 50=some qF:=by kernel_rfl
theorem lT:AQ Try.prog 52=some qH:=by kernel_rfl
theorem lS:AQ Try.prog 51=some qG:=by kernel_rfl
theorem lF:AQ Try.prog 17=some p7:=by kernel_rfl
theorem lH:AQ Try.prog 22=some mp:=by kernel_rfl
theorem aN:AQ Try.prog 23=some pU:=by kernel_rfl
theorem lW:AQ Try.prog 56=some qK:=by kernel_rfl
theorem mF:AQ Try.prog 86=some qb:=by kernel_rfl
theorem lU:AQ Try.prog 54=some qI:=by kernel_rfl
theorem mB:AQ Try.prog 82=some qX:=by kernel_rfl
theorem lV:AQ Try.prog 55=some qJ:=by kernel_rfl
theorem lX:AQ Try.prog 60=some pF:=by kernel_rfl
theorem dv:AQ Try.prog 107=some dH:=by kernel_rfl
theorem mE:AQ Try.prog 85=some qZ:=by kernel_rfl
theorem aQ:AQ Try.prog 94=some pf:=by kernel_rfl
theorem aO:AQ Try.prog 87=some pc:=by kernel_rfl
theorem aP:AQ Try.prog 88=some oP:=by kernel_rfl
theorem dr:AQ Try.prog 105=some ka:=by kernel_rfl
theorem du:AQ Try.prog 106=some nh:=by kernel_rfl
theorem mD:AQ Try.prog 84=some pZ:=by kernel_rfl
theorem dp:AQ Try.prog 104=some ng:=by kernel_rfl
theorem d7:AQ Try.prog 116=some nn:=by kernel_rfl
theorem Uq:AQ Try.prog 108=some ke:=by kernel_rfl
theorem Ur:AQ Try.prog 117=some Xw:=by kernel_rfl
structure Aq(E:BI):Prop where
 P:E.P=Try.prog
 nat:∀ (f:FuncId) (xs:List AV) (s:AE),f≠21→E.nat f xs s=none
theorem Aq.go{E:BI}(hE:Aq E){f:FuncId}{xs:List AV}{cf:Aw}{K:AV→AE→Prop}{s:AE}(hf:AQ Try.prog f=some cf)(hne:f≠21)(ha:xs.length=cf.na)(h:Qa E none cf.body (Ends Try.prog cf.results K) (Ql xs cf.nv) [] s):WF E f xs K s:=
 WF.body' (hE.nat f xs s hne) (by rw[hE.P];exact hf) ha (by rw[hE.P];exact h)
def B2(x:Int):Int×Int:=if 0<x then (x,1)else if x<0∧x≠-9223372036854775808 then (-x,-1)else (0,0)
theorem K5      {E : BI}  (hE : Aq   E) (x : Int) (s : AE)  (hx : i64 x) : WF E 48 [iv x] (fun v s' => v = .tuple [iv (B2    x).1, iv (B2    x).2] ∧ s = s') s := by
  obtain⟨hx1,hx2⟩:=hx
  refine hE.go lP (by decide) rfl ?_
  unfold B2
  by_cases h1:0<x
  · simp[oB,Pd,Pe,Pf,Pg,Ph,Pi,h1,Qa,Qb,Qc,Qd,Qe,Qf,Qg,Qh,Qi,Qj,Qk,Ql,Qm,Qn,true_and,and_true,Qo,Qp,Qq,Qr,Qs,Qt,Qu,Qv,Qw,Qx,Qy,Qz,Ra,Rb,Rc,Rd,Re,Rf,Rg,Rh,Ri,Rj,Rk,Rl,Rm,Ya,Yb,Yc,Rn,Ro,Rp,Yd,Ye,Rq,Rs,Rt,Ru,Rv,Rw,Rx]
  · by_cases h2 : x < 0
    · by_cases h3 : x = -9223372036854775808
      · subst h3
        simp[oB,Pd,Pe,Pf,Pg,Ph,Pi,PG,Qa,Qb,Qc,Qd,Qe,Qf,Qg,Qh,Qi,Qj,Qk,Ql,Qm,Qn,true_and,and_true,Qo,Qp,Qq,Qr,Qs,Qt,Qu,Qv,Qw,Qx,Qy,Qz,Ra,Rb,Rc,Rd,Re,Rf,Rg,Rh,Ri,Rj,Rk,Rl,Rm,Ya,Yb,Yc,Rn,Ro,Rp,Yd,Ye,Rq,Rs,Rt,Ru,Rv,Rw,Rx]
      · have h4:0 < -x:=by omega
        simp[oB,Pd,Pe,Pf,Pg,Ph,Pi,h1,h2,h3,h4,Fe _ x ⟨by omega,by omega⟩,Qa,Qb,Qc,Qd,Qe,Qf,Qg,Qh,Qi,Qj,Qk,Ql,Qm,Qn,true_and,and_true,Qo,Qp,Qq,Qr,Qs,Qt,Qu,Qv,Qw,Qx,Qy,Qz,Ra,Rb,Rc,Rd,Re,Rf,Rg,Rh,Ri,Rj,Rk,Rl,Rm,Ya,Yb,Yc,Rn,Ro,Rp,Yd,Ye,Rq,Rs,Rt,Ru,Rv,Rw,Rx]
    · have:x=0:=by omega
      subst this
      simp[oB,Pd,Pe,Pf,Pg,Ph,Pi,Qa,Qb,Qc,Qd,Qe,Qf,Qg,Qh,Qi,Qj,Qk,Ql,Qm,Qn,true_and,and_true,Qo,Qp,Qq,Qr,Qs,Qt,Qu,Qv,Qw,Qx,Qy,Qz,Ra,Rb,Rc,Rd,Re,Rf,Rg,Rh,Ri,Rj,Rk,Rl,Rm,Ya,Yb,Yc,Rn,Ro,Rp,Yd,Ye,Rq,Rs,Rt,Ru,Rv,Rw,Rx]
theorem HQ(x:Int)(hx:i64 x):i64 (B2 x).1∧((B2 x).2=1∨(B2 x).2=-1∨(B2 x).2=0):=by
  obtain⟨h1,h2⟩:=hx
  unfold B2
  split
  · exact⟨⟨by omega,by omega⟩,.inl rfl⟩
  · split
    · exact⟨⟨by simp only;omega,by simp only;omega⟩,.inr (.inl rfl)⟩
    · exact⟨⟨by decide,by decide⟩,.inr (.inr rfl)⟩
abbrev CH:=List (Int×Int)
def look(M:CH)(k:Int):Int:=match M with
 | []=>0
 | (j,v)::l=>if j=k then v else look l k
def Ib(M:CH)(k v:Int):CH:=match M with
 | []=>[(k,v)]
 | (j,w)::l=>if j=k then (j,v)::l else (j,w)::Ib l k v
def In(M:CH):Prop:=∀p∈M,p.2=1∨p.2=-1
inductive II:CH→List (AV×AV×Nat)→Prop
 | nil:II [] []
 | cons {k v:Int} {b:Nat} {M:CH} {es:List (AV×AV×Nat)} (h:II M es):II ((k,v)::M) ((iv k,iv v,b)::es)
def Ik(s:AE)(i:Nat)(M:CH):Prop:=∃es c,s.heap.get i=some (.map es c)∧II M es
theorem JF(a b:Int):MH (iv a) (iv b)=some (decide (a=b)):=by
 show some (Vf a b)=_
 rw[GQ];rfl
theorem L0         {M : CH}   {es : List (AV × AV × Nat)} (h : II     M es) (k : Int) : ∀ n, (∃ j v b, D1    (iv k) es n = some (some (j, iv v, b)) ∧ n ≤ j ∧ look M k = v ∧ (∀ w, II     (Ib   M k w) (setNth es (j - n) (iv w)))) ∨ (D1    (iv k) es n = some none ∧ look M k = 0 ∧ ∀ w c, II     (Ib   M k w) (es ++ [(iv k, iv w, c)])) := by
  induction h with
  | nil=>intro n;exact .inr ⟨rfl,rfl,fun w c=>.cons .nil⟩
  | cons h ih =>
    rename_i j v b M es
    intro n
    by_cases e:j=k
    · subst e
      left
      refine⟨n,v,b,?_,qg n,by simp[look],fun w=>?_⟩
      · simp only[D1,JF,decide_true,Option.bind_some]
      · rw[ru]
        simp only[Ib,if_true,setNth]
        exact .cons h
    · have he:D1 (iv k) ((iv j,iv v,b)::es) n=D1 (iv k) es (n+1):=by
        simp only[D1,JF,Option.bind_some]
        rw[show decide (k=j)=false from decide_eq_false (fun q=>e q.symm)]
      rcases ih (n+1)with⟨j',v',b',h1,h2,h3,h4⟩ | ⟨h1,h2,h3⟩
      · left
        refine⟨j',v',b',by rw[he];exact h1,by omega,by simp[look,e,h3],fun w=>?_⟩
        rw[show j' - n=(j' - (n+1))+1 from by omega]
        simp only[Ib,if_neg e,setNth]
        exact .cons (h4 w)
      · right
        refine⟨by rw[he];exact h1,by simp[look,e,h2],fun w c=>?_⟩
        simp only[Ib,if_neg e,rY]
        exact .cons (h3 w c)
theorem FD(k:Int):CG Try.prog 3 (iv k)=true:=by
 simp[CG,Try.underlying3,B8]
theorem Tj{s:AE}{i:Nat}{M:CH}(h:Ik s i M)(k:Int):DK Try.prog s 69 (.map (some i)) (iv k) false=some (iv (look M k)):=by
 obtain⟨es,c,h1,h2⟩:=h
 simp only[DK,Try.underlying69,FD,AG,cond_true,h1,Option.bind_some]
 rcases L0 h2 k 0 with⟨j,v,b,h3,_,h4,_⟩ | ⟨h3,h4,_⟩
 ·rw[h3,h4];rfl
 ·rw[h3,h4];simp only[Option.bind_some,RZ];rfl
theorem UJ{s:AE}{i:Nat}{M:CH}(h:Ik s i M)(k v:Int):∃s',EV Try.prog s 69 (.map (some i)) (iv k) (iv v)=some s'∧Ik s' i (Ib M k v)∧s'.next=s.next∧∀j,j≠i→s'.heap.get j=s.heap.get j:=by
 obtain⟨es,c,h1,h2⟩:=h
 simp only[EV,Try.underlying69,FD,AG,cond_true,h1,Option.bind_some]
 rcases L0 h2 k 0 with⟨j,u,b,h3,_,_,h4⟩ | ⟨h3,_,h4⟩
 ·rw[h3]
  have h5:=h4 v
  rw[Nat.sub_zero]at h5
  exact⟨_,rfl,⟨_,_,by rw[Ai,if_pos rfl],h5⟩,rfl,fun x hx=>by rw[Ai,if_neg hx]⟩
 ·rw[h3]
  exact⟨_,rfl,⟨_,_,by rw[Ai,if_pos rfl],h4 v c⟩,rfl,fun x hx=>by rw[Ai,if_neg hx]⟩
theorem Th{M:CH}(h:In M)(k:Int):look M k=1∨look M k=-1∨look M k=0:=by
 induction M with
 | nil=>exact .inr (.inr rfl)
 | cons p M ih =>
  obtain⟨j,v⟩:=p
  simp only[look]
  split
  ·exact(h (j,v) ql).imp id .inl
  ·exact ih fun q hq=>h q (qo _ hq)
theorem MW{M:CH}(h:In M){k v:Int}(hv:v=1∨v=-1):In (Ib M k v):=by
 induction M with
 | nil=>intro p hp;simp[Ib]at hp;subst hp;exact hv
 | cons p M ih =>
  obtain⟨j,w⟩:=p
  simp only[Ib]
  split
  ·intro q hq
   rcases rI.1 hq with rfl | hq
   ·exact hv
   ·exact h q (qo _ hq)
  ·intro q hq
   rcases rI.1 hq with rfl | hq
   ·exact h _ ql
   ·exact ih (fun q hq=>h q (qo _ hq)) q hq
def KV(M:CH)(x:Int):Int:=if (B2 x).2=0 then -1 else look M (B2 x).1 * (B2 x).2
theorem kD{E:BI}(hE:Aq E){s:AE}{i:Nat}{M:CH}(hm:Ik s i M)(hg:In M)(x:Int)(hx:i64 x):WF E 49 [.map (some i),iv x] (fun v s'=>v=iv (KV M x)∧s=s') s:=by
 have hr:=HQ x hx
 have hl:=Th hg (B2 x).1
 refine hE.go lQ (by decide) rfl ?_
 simp only[qE,gj,gk,gl,gm,gn,Qa,Qb,Qc,Qd,Qe,Qf,Qg,Qh,Qi,Qj,Qk,Ql,Qm,Qn,true_and,and_true,Qo,Qp,Qq,Qr,Qs,Qt,Qu,Qv,Qw,Qx,Qy,Qz,Ra,Rb,Rc,Rd,Re,Rf,Rg,Rh,Ri,Rj,Rk,Rl,Rm,Ya,Yb,Yc,Rn,Ro,Rp,Yd,Ye,Rq,Rs,Rt,Ru,Rv,Rw,Rx]
 refine(K5 hE x s hx).mono ?_
 rintro _ _ ⟨rfl,rfl⟩
 have hmul:i64 (look M (B2 x).1 * (B2 x).2):=by
  rcases hl with h | h | h<;>rcases hr.2 with h' | h' | h'<;>rw[h,h']<;>exact⟨by decide,by decide⟩
 unfold KV
 by_cases h0:(B2 x).2=0
 ·simp[h0,Qa,Qb,Qc,Qd,Qe,Qf,Qg,Qh,Qi,Qj,Qk,Ql,Qm,Qn,true_and,and_true,Qo,Qp,Qq,Qr,Qs,Qt,Qu,Qv,Qw,Qx,Qy,Qz,Ra,Rb,Rc,Rd,Re,Rf,Rg,Rh,Ri,Rj,Rk,Rl,Rm,Ya,Yb,Yc,Rn,Ro,Rp,Yd,Ye,Rq,Rs,Rt,Ru,Rv,Rw,Rx]
 ·simp[h0,BW,Tj hm,OD _ _ _ _ hmul,Qa,Qb,Qc,Qd,Qe,Qf,Qg,Qh,Qi,Qj,Qk,Ql,Qm,Qn,true_and,and_true,Qo,Qp,Qq,Qr,Qs,Qt,Qu,Qv,Qw,Qx,Qy,Qz,Ra,Rb,Rc,Rd,Re,Rf,Rg,Rh,Ri,Rj,Rk,Rl,Rm,Ya,Yb,Yc,Rn,Ro,Rp,Yd,Ye,Rq,Rs,Rt,Ru,Rv,Rw,Rx]
theorem cF{E:BI}(hE:Aq E){s:AE}{i:Nat}{M:CH}(hm:Ik s i M)(x:Int)(hx:i64 x):WF E 50 [.map (some i),iv x] (fun v s'=>v=.tuple []∧Ik s' i (Ib M (B2 x).1 (B2 x).2)∧s'.next=s.next∧∀j,j≠i→s'.heap.get j=s.heap.get j) s:=by
 refine hE.go lR (by decide) rfl ?_
 simp only[qF,gp,gq,Qa,Qb,Qc,Qd,Qe,Qf,Qg,Qh,Qi,Qj,Qk,Ql,Qm,Qn,true_and,and_true,Qo,Qp,Qq,Qr,Qs,Qt,Qu,Qv,Qw,Qx,Qy,Qz,Ra,Rb,Rc,Rd,Re,Rf,Rg,Rh,Ri,Rj,Rk,Rl,Rm,Ya,Yb,Yc,Rn,Ro,Rp,Yd,Ye,Rq,Rs,Rt,Ru,Rv,Rw,Rx]
 refine(K5 hE x s hx).mono ?_
 rintro _ _ ⟨rfl,rfl⟩
 obtain⟨s',h1,h2,h3,h4⟩:=UJ hm (B2 x).1 (B2 x).2
 simp only[og,h1,AS,Qa,Qb,Qc,Qd,Qe,Qf,Qg,Qh,Qi,Qj,Qk,Ql,Qm,Qn,true_and,and_true,Qo,Qp,Qq,Qr,Qs,Qt,Qu,Qv,Qw,Qx,Qy,Qz,Ra,Rb,Rc,Rd,Re,Rf,Rg,Rh,Ri,Rj,Rk,Rl,Rm,Ya,Yb,Yc,Rn,Ro,Rp,Yd,Ye,Rq,Rs,Rt,Ru,Rv,Rw,Rx]
 exact⟨h2,h3,h4⟩
abbrev A3(l:List Int):List AV:=l.map iv
def DF(l:List Int):Prop:=∀x∈l,i64 x
theorem A6{l:List Int}{k:Nat}{x:Int}(h:l[k]? = some x):(A3 l)[k]? = some (iv x):=by rw[rX,h];rfl
def Be(M:CH):List Int→Int→Int→Int×Int
 | [],lit,left=>(lit,left)
 | x::l,lit,left=>if 0<KV M x then (0,2)else if KV M x<0∨(left=1∧x=lit)then Be M l lit left else if 1<left+1 then (0,2)else Be M l x (left+1)
theorem Wo        {E : BI}  (hE : Aq   E) {s : AE}  {i b : Nat} {M : CH}   (hm : Ik    s i M) (hg : In    M) {L : List Int} (hL : DF   L) (hlen : L.length < 9223372036854775808) {a : Option (Nat × Nat)} {cap : Option Nat} (hc : BA      b s a (A3  L)) (v0 v1 : AV) {Q : A9   → Prop} :
    ∀ (l : List Int) (k : Nat) (lit left : Int) (x4 x5 x9 x10 x11 x12 : AV), L.drop k = l → k ≤ L.length → (left = 0 ∨ left = 1) → v0 = .map (some i) →
      (∀ (e:K9) (y4 y5 y6 y7 y8 y9 y10 y11 y12:AV),(e=.ret∨e=.exit 0)→Q ⟨e,[v0,v1,iv (Be M l lit left).1,iv (Be M l lit left).2,y4,y5,y6,y7,y8,y9,y10,y11,y12],[],s⟩) →
      WC E none (.loop LY) Q [v0,v1,iv lit,iv left,x4,x5,.slice a L.length cap,iv (L.length:Int),iv (k:Int),x9,x10,x11,x12] [] s:=by
  intro l
  induction l with
  | nil =>
    intro k lit left x4 x5 x9 x10 x11 x12 hd hk hl hv hq
    have hkl:k=L.length:=by
      have:=congrArg List.length hd
      simp at this;omega
    subst hkl
    refine WC.loop' ?_
    simp only[LY,ZA,Qa,Qb,Qc,Qd,Qe,Qf,Qg,Qh,Qi,Qj,Qk,Ql,Qm,Qn,true_and,and_true,Qo,Qp,Qq,Qr,Qs,Qt,Qu,Qv,Qw,Qx,Qy,Qz,Ra,Rb,Rc,Rd,Re,Rf,Rg,Rh,Ri,Rj,Rk,Rl,Rm,Ya,Yb,Yc,Rn,Ro,Rp,Yd,Ye,Rq,Rs,Rt,Ru,Rv,Rw,Rx]
    simp only[rG,decide_false,Qa,Qb,Qc,Qd,Qe,Qf,Qg,Qh,Qi,Qj,Qk,Ql,Qm,Qn,true_and,and_true,Qo,Qp,Qq,Qr,Qs,Qt,Qu,Qv,Qw,Qx,Qy,Qz,Ra,Rb,Rc,Rd,Re,Rf,Rg,Rh,Ri,Rj,Rk,Rl,Rm,Ya,Yb,Yc,Rn,Ro,Rp,Yd,Ye,Rq,Rs,Rt,Ru,Rv,Rw,Rx]
    exact hq _ _ _ _ _ _ _ _ _ _ (.inr rfl)
  | cons x l ih =>
    intro k lit left x4 x5 x9 x10 x11 x12 hd hk hl hv hq
    have hlt:k<L.length:=by
      have:=congrArg List.length hd
      simp at this;omega
    have hx:L[k]? = some x:=by
      have:=congrArg (fun l=>l[0]?) hd
      simpa using this
    have hd':L.drop (k+1)=l:=by
      rw[← rv,hd];rfl
    have hxi:i64 x:=hL x (qj hx)
    subst hv
    obtain⟨j,o,rfl,hj,hload⟩:=hc k _ (A6 hx)
    have e1:=At (cap:=cap) (i:=j) (o:=o) Try.underlying23 Br hlt
    have e2:AC Try.prog s 3 (.ptr (some (j,o+k * 1)))=some (iv x):=A0 Do (by rw[rC];exact hload)
    have hkk:decide ((k:Int)<(L.length:Int))=true:=decide_eq_true (by omega)
    have e3:=Ay Try.prog 3 (k:Int) 1 ⟨by omega,by omega⟩
    refine WC.loop' ?_
    simp only[LY,ZA,gx,gy,hkk,e1,e2,Qa,Qb,Qc,Qd,Qe,Qf,Qg,Qh,Qi,Qj,Qk,Ql,Qm,Qn,true_and,and_true,Qo,Qp,Qq,Qr,Qs,Qt,Qu,Qv,Qw,Qx,Qy,Qz,Ra,Rb,Rc,Rd,Re,Rf,Rg,Rh,Ri,Rj,Rk,Rl,Rm,Ya,Yb,Yc,Rn,Ro,Rp,Yd,Ye,Rq,Rs,Rt,Ru,Rv,Rw,Rx]
    refine(kD hE hm hg x hxi).mono ?_
    rintro _ _ ⟨rfl,rfl⟩
    by_cases h1:0<KV M x
    · simp only[NJ,gz,h1,decide_true,Qa,Qb,Qc,Qd,Qe,Qf,Qg,Qh,Qi,Qj,Qk,Ql,Qm,Qn,true_and,and_true,Qo,Qp,Qq,Qr,Qs,Qt,Qu,Qv,Qw,Qx,Qy,Qz,Ra,Rb,Rc,Rd,Re,Rf,Rg,Rh,Ri,Rj,Rk,Rl,Rm,Ya,Yb,Yc,Rn,Ro,Rp,Yd,Ye,Rq,Rs,Rt,Ru,Rv,Rw,Rx]
      have hu:Be M (x::l) lit left=(0,2):=by simp[Be,h1]
      rw[hu]at hq
      exact hq _ _ _ _ _ _ _ _ _ _ (.inl rfl)
    · have next:∀ (lit' left':Int) (x4' x5' x9' x10' x11' x12':AV),(left'=0∨left'=1)→Be M (x::l) lit left=Be M l lit' left' →
          WC E none (.loop LY) Q [.map (some i),v1,iv lit',iv left',x4',x5',.slice (some (j,o)) L.length cap,iv (L.length:Int),iv ((k:Int)+1),x9',x10',x11',x12'] [] s:=by
        intro lit' left' x4' x5' x9' x10' x11' x12' hl' he
        rw[show((k:Int)+1)=((k+1:Nat):Int)from by omega]
        refine ih (k+1) lit' left' _ _ _ _ _ _ hd' hlt hl' rfl ?_
        rw[← he]
        exact hq
      by_cases h2:KV M x<0
      · simp only[NJ,Pj,LZ,h1,h2,e3,decide_true,decide_false,Qa,Qb,Qc,Qd,Qe,Qf,Qg,Qh,Qi,Qj,Qk,Ql,Qm,Qn,true_and,and_true,Qo,Qp,Qq,Qr,Qs,Qt,Qu,Qv,Qw,Qx,Qy,Qz,Ra,Rb,Rc,Rd,Re,Rf,Rg,Rh,Ri,Rj,Rk,Rl,Rm,Ya,Yb,Yc,Rn,Ro,Rp,Yd,Ye,Rq,Rs,Rt,Ru,Rv,Rw,Rx]
        exact next lit left _ _ _ _ _ _ hl (by simp[Be,h1,h2])
      · rcases hl with rfl | rfl
        · simp only [NJ,    Pj,    ZB,    ZC,    Y8,     LZ,     h1, h2, decide_true, decide_false, Qa, Qb, Qc, Qd, Qe, Qf, Qg, Qh, Qi, Qj, Qk, Ql, Qm, Qn, true_and, and_true, Qo, Qp, Qq, Qr, Qs, Qt, Qu, Qv, Qw, Qx, Qy, Qz, Ra, Rb, Rc, Rd, Re, Rf, Rg, Rh, Ri, Rj, Rk, Rl, Rm, Ya, Yb, Yc, Rn, Ro, Rp, Yd, Ye, Rq, Rs, Rt, Ru, Rv, Rw, Rx]
          simp[e3,Qa,Qb,Qc,Qd,Qe,Qf,Qg,Qh,Qi,Qj,Qk,Ql,Qm,Qn,true_and,and_true,Qo,Qp,Qq,Qr,Qs,Qt,Qu,Qv,Qw,Qx,Qy,Qz,Ra,Rb,Rc,Rd,Re,Rf,Rg,Rh,Ri,Rj,Rk,Rl,Rm,Ya,Yb,Yc,Rn,Ro,Rp,Yd,Ye,Rq,Rs,Rt,Ru,Rv,Rw,Rx,Ay Try.prog 3 0 1 ⟨by decide,by decide⟩]
          exact next x 1 _ _ _ _ _ _ (.inr rfl) (by simp[Be,h1,h2])
        · by_cases h3 : x = lit
          · subst h3
            simp only[NJ,Pj,LZ,h1,h2,decide_true,decide_false,Qa,Qb,Qc,Qd,Qe,Qf,Qg,Qh,Qi,Qj,Qk,Ql,Qm,Qn,true_and,and_true,Qo,Qp,Qq,Qr,Qs,Qt,Qu,Qv,Qw,Qx,Qy,Qz,Ra,Rb,Rc,Rd,Re,Rf,Rg,Rh,Ri,Rj,Rk,Rl,Rm,Ya,Yb,Yc,Rn,Ro,Rp,Yd,Ye,Rq,Rs,Rt,Ru,Rv,Rw,Rx]
            simp[e3,Qa,Qb,Qc,Qd,Qe,Qf,Qg,Qh,Qi,Qj,Qk,Ql,Qm,Qn,true_and,and_true,Qo,Qp,Qq,Qr,Qs,Qt,Qu,Qv,Qw,Qx,Qy,Qz,Ra,Rb,Rc,Rd,Re,Rf,Rg,Rh,Ri,Rj,Rk,Rl,Rm,Ya,Yb,Yc,Rn,Ro,Rp,Yd,Ye,Rq,Rs,Rt,Ru,Rv,Rw,Rx]
            exact next x 1 _ _ _ _ _ _ (.inr rfl) (by simp[Be,h1,h2])
          · simp only [NJ,    Pj,    ZB,    ZC,    Y7,     LZ,     h1, h2, h3, decide_true, decide_false, Qa, Qb, Qc, Qd, Qe, Qf, Qg, Qh, Qi, Qj, Qk, Ql, Qm, Qn, true_and, and_true, Qo, Qp, Qq, Qr, Qs, Qt, Qu, Qv, Qw, Qx, Qy, Qz, Ra, Rb, Rc, Rd, Re, Rf, Rg, Rh, Ri, Rj, Rk, Rl, Rm, Ya, Yb, Yc, Rn, Ro, Rp, Yd, Ye, Rq, Rs, Rt, Ru, Rv, Rw, Rx]
            simp[h3,e3,Qa,Qb,Qc,Qd,Qe,Qf,Qg,Qh,Qi,Qj,Qk,Ql,Qm,Qn,true_and,and_true,Qo,Qp,Qq,Qr,Qs,Qt,Qu,Qv,Qw,Qx,Qy,Qz,Ra,Rb,Rc,Rd,Re,Rf,Rg,Rh,Ri,Rj,Rk,Rl,Rm,Ya,Yb,Yc,Rn,Ro,Rp,Yd,Ye,Rq,Rs,Rt,Ru,Rv,Rw,Rx,Ay Try.prog 3 1 1 ⟨by decide,by decide⟩]
            have hu:Be M (x::l) lit 1=(0,2):=by simp[Be,h1,h2,h3]
            rw[hu]at hq
            exact hq _ _ _ _ _ _ _ _ _ _ (.inl rfl)
theorem fL{E:BI}(hE:Aq E){s:AE}{i b:Nat}{M:CH}(hm:Ik s i M)(hg:In M){L:List Int}(hL:DF L)(hlen:L.length<9223372036854775808){c:AV}(hc:AJ b s c (A3 L)):
  WF E 52 [.map (some i),c] (fun v s'=>v=.tuple [iv (Be M L 0 0).1,iv (Be M L 0 0).2]∧s=s') s:=by
 obtain⟨a,cap,rfl,hc⟩:=hc
 rw[qi]
 refine hE.go lT (by decide) rfl ?_
 simp only[qH,gv,gw,AW Try.underlying23,Qa,Qb,Qc,Qd,Qe,Qf,Qg,Qh,Qi,Qj,Qk,Ql,Qm,Qn,true_and,and_true,Qo,Qp,Qq,Qr,Qs,Qt,Qu,Qv,Qw,Qx,Qy,Qz,Ra,Rb,Rc,Rd,Re,Rf,Rg,Rh,Ri,Rj,Rk,Rl,Rm,Ya,Yb,Yc,Rn,Ro,Rp,Yd,Ye,Rq,Rs,Rt,Ru,Rv,Rw,Rx]
 refine Wo hE hm hg hL hlen hc _ _ L 0 0 0 _ _ _ _ _ _ rfl (qm _) (.inl rfl) rfl ?_
 rintro e y4 y5 y6 y7 y8 y9 y10 y11 y12 (rfl | rfl)
 ·simp only[Qa,Qb,Qc,Qd,Qe,Qf,Qg,Qh,Qi,Qj,Qk,Ql,Qm,Qn,true_and,and_true,Qo,Qp,Qq,Qr,Qs,Qt,Qu,Qv,Qw,Qx,Qy,Qz,Ra,Rb,Rc,Rd,Re,Rf,Rg,Rh,Ri,Rj,Rk,Rl,Rm,Ya,Yb,Yc,Rn,Ro,Rp,Yd,Ye,Rq,Rs,Rt,Ru,Rv,Rw,Rx]
 ·simp only[Y9,if_true,Qa,Qb,Qc,Qd,Qe,Qf,Qg,Qh,Qi,Qj,Qk,Ql,Qm,Qn,true_and,and_true,Qo,Qp,Qq,Qr,Qs,Qt,Qu,Qv,Qw,Qx,Qy,Qz,Ra,Rb,Rc,Rd,Re,Rf,Rg,Rh,Ri,Rj,Rk,Rl,Rm,Ya,Yb,Yc,Rn,Ro,Rp,Yd,Ye,Rq,Rs,Rt,Ru,Rv,Rw,Rx]
def En(M:CH)(x:Int):CH:=Ib M (B2 x).1 (B2 x).2
theorem Wn        (M : CH)   : ∀ (L : List Int) (lit left : Int), (left = 0 ∨ left = 1) → (Be    M L lit left).2 = 1 → ((Be    M L lit left).1 ∈ L ∧ KV  M (Be    M L lit left).1 = 0) ∨ (left = 1 ∧ (Be    M L lit left).1 = lit) := by
  intro L
  induction L with
  | nil=>intro lit left _ h;exact .inr ⟨h,rfl⟩
  | cons x l ih =>
    intro lit left hl h
    simp only[Be]at h ⊢
    split at h
    · simp at h
    · rename_i h1
      rw[if_neg h1]
      split at h
      · rename_i h2
        rw[if_pos h2]
        rcases ih lit left hl h with⟨h3,h4⟩ | h3
        · exact .inl ⟨qo _ h3,h4⟩
        · exact .inr h3
      · rename_i h2
        rw[if_neg h2]
        split at h
        · simp at h
        · rename_i h3
          rw[if_neg h3]
          rcases ih x (left+1) (by omega) h with⟨h4,h5⟩ | ⟨h4,h5⟩
          · exact .inl ⟨qo _ h4,h5⟩
          · rw[h5]
            exact .inl ⟨ql,by omega⟩
theorem Oo{M:CH}(h:In M){x:Int}(hx:i64 x)(h0:KV M x=0):In (En M x):=by
 refine MW h ?_
 rcases(HQ x hx).2 with h1 | h1 | h1
 ·exact .inl h1
 ·exact .inr h1
 ·simp[KV,h1]at h0
theorem Nt{P:Program}{t:TypeId}(hs:BD P t=some 1){s:AE}{i o:Nat}{r:EX}{v:AV}(hg:s.heap.get i=some (.row r))(hm:r.mode=.own)(hp:r.par=none)(ho:o<r.n)(hv:v.cells=[v])(hc:v.isCell=true):
  AP P s t (.ptr (some (i,o))) v=some (setObj s i (.row { r with c:=r.c.fill o [v],par:=none })):=by
 simp[AP,hs,AG,hv,Cc,rowAt,hg,hm,Fl,Ae,hc,A2 (show o+1≤r.n by omega),A1,hp]
structure kK(s:AE)(i j:Nat)(M:CH):Prop where
 map:Ik s i M
 cell:load1 s j 0=some (.map (some i))
 ne:j≠i
 signs:In M
theorem eU{E:BI}(hE:Aq E){s:AE}{i j b:Nat}{M:CH}(hk:kK s i j M){L:List Int}(hL:DF L)(hlen:L.length<9223372036854775808){c:AV}(hc:AJ b s c (A3 L)):
    WF E 51 [c,.ptr (some (j,0))] (fun v s'=>v=.tuple [.bool (decide ((Be M L 0 0).2=1)),.bool (decide ((Be M L 0 0).2=0))] ∧
      kK s' i j (if (Be M L 0 0).2=1 then En M (Be M L 0 0).1 else M)∧s'.next=s.next∧∀x,x≠i→s'.heap.get x=s.heap.get x) s:=by
  have e1:AC Try.prog s 69 (.ptr (some (j,0)))=some (.map (some i)):=A0 nS hk.cell
  refine hE.go lS (by decide) rfl ?_
  simp only[qG,gr,gt,e1,Qa,Qb,Qc,Qd,Qe,Qf,Qg,Qh,Qi,Qj,Qk,Ql,Qm,Qn,true_and,and_true,Qo,Qp,Qq,Qr,Qs,Qt,Qu,Qv,Qw,Qx,Qy,Qz,Ra,Rb,Rc,Rd,Re,Rf,Rg,Rh,Ri,Rj,Rk,Rl,Rm,Ya,Yb,Yc,Rn,Ro,Rp,Yd,Ye,Rq,Rs,Rt,Ru,Rv,Rw,Rx]
  refine(fL hE hk.map hk.signs hL hlen hc).mono ?_
  rintro _ _ ⟨rfl,rfl⟩
  by_cases h:(Be M L 0 0).2=1
  · have hu := (Wn        M L 0 0 (.inl rfl) h).resolve_right (by simp)
    have hx:i64 (Be M L 0 0).1:=hL _ hu.1
    simp only[Y5,gu,h,decide_true,e1,Qa,Qb,Qc,Qd,Qe,Qf,Qg,Qh,Qi,Qj,Qk,Ql,Qm,Qn,true_and,and_true,Qo,Qp,Qq,Qr,Qs,Qt,Qu,Qv,Qw,Qx,Qy,Qz,Ra,Rb,Rc,Rd,Re,Rf,Rg,Rh,Ri,Rj,Rk,Rl,Rm,Ya,Yb,Yc,Rn,Ro,Rp,Yd,Ye,Rq,Rs,Rt,Ru,Rv,Rw,Rx]
    refine(cF hE hk.map _ hx).mono ?_
    rintro _ s' ⟨rfl,h1,h2,h3⟩
    simp only[Y6,Qa,Qb,Qc,Qd,Qe,Qf,Qg,Qh,Qi,Qj,Qk,Ql,Qm,Qn,true_and,and_true,Qo,Qp,Qq,Qr,Qs,Qt,Qu,Qv,Qw,Qx,Qy,Qz,Ra,Rb,Rc,Rd,Re,Rf,Rg,Rh,Ri,Rj,Rk,Rl,Rm,Ya,Yb,Yc,Rn,Ro,Rp,Yd,Ye,Rq,Rs,Rt,Ru,Rv,Rw,Rx]
    simp only[Int.reduceEq,decide_false,decide_true,if_true,Qa,Qb,Qc,Qd,Qe,Qf,Qg,Qh,Qi,Qj,Qk,Ql,Qm,Qn,true_and,and_true,Qo,Qp,Qq,Qr,Qs,Qt,Qu,Qv,Qw,Qx,Qy,Qz,Ra,Rb,Rc,Rd,Re,Rf,Rg,Rh,Ri,Rj,Rk,Rl,Rm,Ya,Yb,Yc,Rn,Ro,Rp,Yd,Ye,Rq,Rs,Rt,Ru,Rv,Rw,Rx]
    exact⟨⟨h1,by rw[BU (h3 j hk.ne)];exact hk.cell,hk.ne,Oo hk.signs hx hu.2⟩,h2,h3⟩
  · simp only[Y5,Y6,h,decide_false,if_false,Qa,Qb,Qc,Qd,Qe,Qf,Qg,Qh,Qi,Qj,Qk,Ql,Qm,Qn,true_and,and_true,Qo,Qp,Qq,Qr,Qs,Qt,Qu,Qv,Qw,Qx,Qy,Qz,Ra,Rb,Rc,Rd,Re,Rf,Rg,Rh,Ri,Rj,Rk,Rl,Rm,Ya,Yb,Yc,Rn,Ro,Rp,Yd,Ye,Rq,Rs,Rt,Ru,Rv,Rw,Rx]
    exact⟨hk,fun _ _=>trivial⟩
def DZ(M:CH):List (List Int)→Bool→Option (CH×Bool)
 | [],more=>some (M,more)
 | c::cs,more=>if (Be M c 0 0).2=0 then none else if (Be M c 0 0).2=1 then DZ (En M (Be M c 0 0).1) cs true else DZ M cs more
def ML(cs:List (List Int)):Nat→CH→Option Bool
 | 0,_=>none
 | n+1,M=>match DZ M cs false with
  | none=>some true
  | some (M',true)=>ML cs n M'
  | some (_,false)=>some false
def DP(M:CH):List Int→Option CH
 | []=>some M
 | x::l=>if (B2 x).2=0 then DP M l else if 0<KV M x then none else DP (En M (-x)) l
def D2(n:Nat)(cs:List (List Int))(c:List Int):Option Bool:=match DP [] c with
 | none=>some true
 | some M=>ML cs n M
def N2(b:Nat)(s:AE)(a:Option (Nat×Nat))(cs:List (List Int)):Prop:=∀k L,cs[k]? = some L→∃i o u,a=some (i,o)∧i<b∧load1 s i (o+k)=some u∧AJ b s u (A3 L)
def VM(cs:List (List Int)):Prop:=cs.length<9223372036854775808∧∀L∈cs,DF L∧L.length<9223372036854775808
def R3(b:Nat)(s:AE)(v:AV)(cs:List (List Int)):Prop:=∃a cap,v=.slice a cs.length cap∧N2 b s a cs
structure Gm(n:Nat)(s0 s:AE)(i j:Nat)(M:CH):Prop where
 know:kK s i j M
 old:Ao n s0 s
 hi:n≤i
 nx:s.next=s0.next+2
def Wx(n:Nat)(s0 s:AE):Prop:=Ao n s0 s∧s.next=s0.next+2
theorem Gm.oldN{n:Nat}{s0 s:AE}{i j:Nat}{M:CH}(h:Gm n s0 s i j M):Wx n s0 s:=⟨h.old,h.nx⟩
theorem WM        {E : BI}  (hE : Aq   E) {n : Nat} {s0 : AE}  {i j : Nat} {cs : List (List Int)} (hcs : VM   cs) {a : Option (Nat × Nat)} {cap : Option Nat} (hr : N2     n s0 a cs) (v0 v1 v3 : AV) {Q : A9   → Prop} :
    ∀ (l : List (List Int)) (k : Nat) (M : CH)   (more : Bool) (s : AE)  (x2 x4 x5 x8 x9 x10 x11 x12 x13 x14 x15 x16 x17 x21 x22 x23 : AV), cs.drop k = l → k ≤ cs.length → Gm     n s0 s i j M →
      (match DZ M l more with
        | none=>∀s' y4 y5 y7 y8 y9 y10 y11 y12 y13 y14 y15 y16 y17 y18 y19 y20 y21 y22 y23,Wx n s0 s'→Q ⟨.ret,[v0,v1,.bool true,v3,y4,y5,.func 51 [] [.ptr (some (j,0))],y7,y8,y9,y10,y11,y12,y13,y14,y15,y16,y17,y18,y19,y20,y21,y22,y23],[],s'⟩
        | some (M',more')=>∀s' y2 y4 y5 y8 y9 y10 y11 y12 y13 y14 y15 y16 y17 y18 y19 y20 y21 y22 y23,Gm n s0 s' i j M'→Q ⟨.exit 4,[v0,v1,y2,v3,y4,y5,.func 51 [] [.ptr (some (j,0))],.bool more',y8,y9,y10,y11,y12,y13,y14,y15,y16,y17,y18,y19,y20,y21,y22,y23],[],s'⟩) →
      WC E none (.loop OP) Q [v0,v1,x2,v3,x4,x5,.func 51 [] [.ptr (some (j,0))],.bool more,x8,x9,x10,x11,x12,x13,x14,x15,x16,x17,.slice a cs.length cap,iv (cs.length:Int),iv (k:Int),x21,x22,x23] [] s:=by
  intro l
  induction l with
  | nil =>
    intro k M more s x2 x4 x5 x8 x9 x10 x11 x12 x13 x14 x15 x16 x17 x21 x22 x23 hd hk hmem hq
    have hkl:k=cs.length:=by
      have:=congrArg List.length hd
      simp at this;omega
    subst hkl
    refine WC.loop' ?_
    simp only[OP,Sa,rG,decide_false,Qa,Qb,Qc,Qd,Qe,Qf,Qg,Qh,Qi,Qj,Qk,Ql,Qm,Qn,true_and,and_true,Qo,Qp,Qq,Qr,Qs,Qt,Qu,Qv,Qw,Qx,Qy,Qz,Ra,Rb,Rc,Rd,Re,Rf,Rg,Rh,Ri,Rj,Rk,Rl,Rm,Ya,Yb,Yc,Rn,Ro,Rp,Yd,Ye,Rq,Rs,Rt,Ru,Rv,Rw,Rx]
    exact hq s _ _ _ _ _ _ _ _ _ _ _ _ _ _ _ _ _ _ _ hmem
  | cons L l ih =>
    intro k M more s x2 x4 x5 x8 x9 x10 x11 x12 x13 x14 x15 x16 x17 x21 x22 x23 hd hk hmem hq
    have hlt:k<cs.length:=by
      have:=congrArg List.length hd
      simp at this;omega
    have hx:cs[k]? = some L:=by
      have:=congrArg (fun l=>l[0]?) hd
      simpa using this
    have hd':cs.drop (k+1)=l:=by
      rw[← rv,hd];rfl
    obtain⟨p,o,u,rfl,hp,hload,hu⟩:=hr k L hx
    obtain⟨hL,hLl⟩:=hcs.2 L (qj hx)
    have e1:=At (cap:=cap) (i:=p) (o:=o) Try.underlying22 Ba hlt
    have e2:AC Try.prog s 23 (.ptr (some (p,o+k * 1)))=some u:=A0 DA (by rw[rC,BU (hmem.old.2 p hp)];exact hload)
    have hkk:decide ((k:Int)<(cs.length:Int))=true:=decide_eq_true (by omega)
    have hcl:=hcs.1
    have e3:=Ay Try.prog 3 (k:Int) 1 ⟨by omega,by omega⟩
    refine WC.loop' ?_
    simp only[OP,Sa,YJ,YK,hkk,e1,e2,rL,rY,Qa,Qb,Qc,Qd,Qe,Qf,Qg,Qh,Qi,Qj,Qk,Ql,Qm,Qn,true_and,and_true,Qo,Qp,Qq,Qr,Qs,Qt,Qu,Qv,Qw,Qx,Qy,Qz,Ra,Rb,Rc,Rd,Re,Rf,Rg,Rh,Ri,Rj,Rk,Rl,Rm,Ya,Yb,Yc,Rn,Ro,Rp,Yd,Ye,Rq,Rs,Rt,Ru,Rv,Rw,Rx]
    refine(eU hE hmem.know hL hLl (hu.old hmem.old (qg n))).mono ?_
    rintro _ s1 ⟨rfl,h1,h2,h3⟩
    have hnx:s1.next=s0.next+2:=h2.trans hmem.nx
    have hold:Ao n s0 s1:=hmem.old.trans ⟨by omega,fun x hx=>h3 x (by have:=hmem.hi;omega)⟩
    by_cases h0:(Be M L 0 0).2=0
    · have hp0:DZ M (L::l) more=none:=by simp[DZ,h0]
      rw[hp0]at hq
      simp only[OR,YL,h0,decide_true,Qa,Qb,Qc,Qd,Qe,Qf,Qg,Qh,Qi,Qj,Qk,Ql,Qm,Qn,true_and,and_true,Qo,Qp,Qq,Qr,Qs,Qt,Qu,Qv,Qw,Qx,Qy,Qz,Ra,Rb,Rc,Rd,Re,Rf,Rg,Rh,Ri,Rj,Rk,Rl,Rm,Ya,Yb,Yc,Rn,Ro,Rp,Yd,Ye,Rq,Rs,Rt,Ru,Rv,Rw,Rx]
      exact hq s1 _ _ _ _ _ _ _ _ _ _ _ _ _ _ _ _ _ _ _ ⟨hold,hnx⟩
    · by_cases hone : (Be    M L 0 0).2 = 1
      · have hp1:DZ M (L::l) more=DZ (En M (Be M L 0 0).1) l true:=by simp[DZ,hone]
        rw[hp1]at hq
        rw[if_pos hone]at h1
        simp only[OR,Sb,YM,Sc,hone,Int.reduceEq,decide_true,decide_false,Bool.not_true,e3,Qa,Qb,Qc,Qd,Qe,Qf,Qg,Qh,Qi,Qj,Qk,Ql,Qm,Qn,true_and,and_true,Qo,Qp,Qq,Qr,Qs,Qt,Qu,Qv,Qw,Qx,Qy,Qz,Ra,Rb,Rc,Rd,Re,Rf,Rg,Rh,Ri,Rj,Rk,Rl,Rm,Ya,Yb,Yc,Rn,Ro,Rp,Yd,Ye,Rq,Rs,Rt,Ru,Rv,Rw,Rx]
        rw[show((k:Int)+1)=((k+1:Nat):Int)from by omega]
        exact ih (k+1) _ true s1 _ _ _ _ _ _ _ _ _ _ _ _ _ _ _ _ hd' hlt ⟨h1,hold,hmem.hi,hnx⟩ hq
      · have hp1:DZ M (L::l) more=DZ M l more:=by simp[DZ,hone,h0]
        rw[hp1]at hq
        rw[if_neg hone]at h1
        simp only[OR,Sb,Sc,hone,h0,decide_false,Bool.not_false,if_true,e3,Qa,Qb,Qc,Qd,Qe,Qf,Qg,Qh,Qi,Qj,Qk,Ql,Qm,Qn,true_and,and_true,Qo,Qp,Qq,Qr,Qs,Qt,Qu,Qv,Qw,Qx,Qy,Qz,Ra,Rb,Rc,Rd,Re,Rf,Rg,Rh,Ri,Rj,Rk,Rl,Rm,Ya,Yb,Yc,Rn,Ro,Rp,Yd,Ye,Rq,Rs,Rt,Ru,Rv,Rw,Rx]
        rw[show((k:Int)+1)=((k+1:Nat):Int)from by omega]
        exact ih (k+1) _ more s1 _ _ _ _ _ _ _ _ _ _ _ _ _ _ _ _ hd' hlt ⟨h1,hold,hmem.hi,hnx⟩ hq
theorem V5{E:BI}(hE:Aq E){n:Nat}{s0:AE}{i j:Nat}{cs:List (List Int)}(hcs:VM cs){a:Option (Nat×Nat)}{cap:Option Nat}(hr:N2 n s0 a cs)(v1 v3:AV){Q:A9→Prop}:
    ∀ (fuel : Nat) (M : CH)   (s : AE)  (b : Bool) (x2 x4 x5 x8 x9 x10 x11 x12 x13 x14 x15 x16 x17 x18 x19 x20 x21 x22 x23 : AV), ML    cs fuel M = some b → Gm     n s0 s i j M →
      (∀e s' y2 y4 y5 y6 y7 y8 y9 y10 y11 y12 y13 y14 y15 y16 y17 y18 y19 y20 y21 y22 y23,Wx n s0 s'→(e=.ret∧y2=.bool true∧b=true∨e=.exit 2∧b=false)→Q ⟨e,[.slice a cs.length cap,v1,y2,v3,y4,y5,y6,y7,y8,y9,y10,y11,y12,y13,y14,y15,y16,y17,y18,y19,y20,y21,y22,y23],[],s'⟩) →
      WC E none (.loop OQ) Q [.slice a cs.length cap,v1,x2,v3,x4,x5,.func 51 [] [.ptr (some (j,0))],.bool true,x8,x9,x10,x11,x12,x13,x14,x15,x16,x17,x18,x19,x20,x21,x22,x23] [] s:=by
  intro fuel
  induction fuel with
  | zero=>intro M s b _ _ _ _ _ _ _ _ _ _ _ _ _ _ _ _ _ _ _ h;cases h
  | succ fuel ih =>
    intro M s b x2 x4 x5 x8 x9 x10 x11 x12 x13 x14 x15 x16 x17 x18 x19 x20 x21 x22 x23 hl hmem hq
    refine WC.loop' ?_
    simp only[OQ,SZ,YH,YI,AW Try.underlying22,Qa,Qb,Qc,Qd,Qe,Qf,Qg,Qh,Qi,Qj,Qk,Ql,Qm,Qn,true_and,and_true,Qo,Qp,Qq,Qr,Qs,Qt,Qu,Qv,Qw,Qx,Qy,Qz,Ra,Rb,Rc,Rd,Re,Rf,Rg,Rh,Ri,Rj,Rk,Rl,Rm,Ya,Yb,Yc,Rn,Ro,Rp,Yd,Ye,Rq,Rs,Rt,Ru,Rv,Rw,Rx]
    refine WM hE hcs hr _ _ _ cs 0 M false s _ _ _ _ _ _ _ _ _ _ _ _ _ _ _ _ rfl (qm _) hmem ?_
    simp only[ML]at hl
    split at hl
    · rename_i hp
      injection hl with hl
      subst hl
      rw[hp]
      intro s' y4 y5 y7 y8 y9 y10 y11 y12 y13 y14 y15 y16 y17 y18 y19 y20 y21 y22 y23 ho
      simp only[Qa,Qb,Qc,Qd,Qe,Qf,Qg,Qh,Qi,Qj,Qk,Ql,Qm,Qn,true_and,and_true,Qo,Qp,Qq,Qr,Qs,Qt,Qu,Qv,Qw,Qx,Qy,Qz,Ra,Rb,Rc,Rd,Re,Rf,Rg,Rh,Ri,Rj,Rk,Rl,Rm,Ya,Yb,Yc,Rn,Ro,Rp,Yd,Ye,Rq,Rs,Rt,Ru,Rv,Rw,Rx]
      exact hq _ _ _ _ _ _ _ _ _ _ _ _ _ _ _ _ _ _ _ _ _ _ _ ho (.inl ⟨rfl,rfl,rfl⟩)
    · rename_i M' hp
      rw[hp]
      intro s' y2 y4 y5 y8 y9 y10 y11 y12 y13 y14 y15 y16 y17 y18 y19 y20 y21 y22 y23 ho
      simp only[if_true,Qa,Qb,Qc,Qd,Qe,Qf,Qg,Qh,Qi,Qj,Qk,Ql,Qm,Qn,true_and,and_true,Qo,Qp,Qq,Qr,Qs,Qt,Qu,Qv,Qw,Qx,Qy,Qz,Ra,Rb,Rc,Rd,Re,Rf,Rg,Rh,Ri,Rj,Rk,Rl,Rm,Ya,Yb,Yc,Rn,Ro,Rp,Yd,Ye,Rq,Rs,Rt,Ru,Rv,Rw,Rx]
      exact ih M' s' b _ _ _ _ _ _ _ _ _ _ _ _ _ _ _ _ _ _ _ hl ho hq
    · rename_i M' hp
      injection hl with hl
      subst hl
      rw[hp]
      intro s' y2 y4 y5 y8 y9 y10 y11 y12 y13 y14 y15 y16 y17 y18 y19 y20 y21 y22 y23 ho
      simp only[if_true,Qa,Qb,Qc,Qd,Qe,Qf,Qg,Qh,Qi,Qj,Qk,Ql,Qm,Qn,true_and,and_true,Qo,Qp,Qq,Qr,Qs,Qt,Qu,Qv,Qw,Qx,Qy,Qz,Ra,Rb,Rc,Rd,Re,Rf,Rg,Rh,Ri,Rj,Rk,Rl,Rm,Ya,Yb,Yc,Rn,Ro,Rp,Yd,Ye,Rq,Rs,Rt,Ru,Rv,Rw,Rx]
      refine WC.loop' ?_
      simp only[OQ,SZ,Qa,Qb,Qc,Qd,Qe,Qf,Qg,Qh,Qi,Qj,Qk,Ql,Qm,Qn,true_and,and_true,Qo,Qp,Qq,Qr,Qs,Qt,Qu,Qv,Qw,Qx,Qy,Qz,Ra,Rb,Rc,Rd,Re,Rf,Rg,Rh,Ri,Rj,Rk,Rl,Rm,Ya,Yb,Yc,Rn,Ro,Rp,Yd,Ye,Rq,Rs,Rt,Ru,Rv,Rw,Rx]
      exact hq _ _ _ _ _ _ _ _ _ _ _ _ _ _ _ _ _ _ _ _ _ _ _ ho.oldN (.inr ⟨rfl,rfl⟩)
theorem Wa{x:Int}(hx:i64 x)(h:(B2 x).2≠0):i64 (-x)∧(B2 (-x)).2≠0:=by
  obtain⟨h1,h2⟩:=hx
  unfold B2 at h ⊢
  split at h
  · rw[if_neg (by omega),if_pos ⟨by omega,by omega⟩]
    exact⟨⟨by omega,by omega⟩,by simp⟩
  · split at h
    · rw[if_pos (by omega)]
      exact⟨⟨by omega,by omega⟩,by simp⟩
    · simp at h
theorem Vq        {E : BI}  (hE : Aq   E) {n : Nat} {s0 : AE}  {i j : Nat} {c : List Int} (hc : DF   c) (hcl : c.length < 9223372036854775808) {a : Option (Nat × Nat)} {cap : Option Nat} (hr : BA      n s0 a (A3  c)) (v0 v1 x6 x7 x8 x9 x10 : AV) {Q : A9   → Prop} :
    ∀ (l : List Int) (k : Nat) (M : CH)   (s : AE)  (x2 x4 x5 x14 x15 x16 x17 x18 x19 x20 x21 x22 x23 : AV), c.drop k = l → k ≤ c.length → Gm     n s0 s i j M →
      (match DP M l with
        | none=>∀s' y4 y5 y6 y7 y8 y9 y10 y11 y12 y13 y14 y15 y16 y17 y18 y19 y20 y21 y22 y23,Wx n s0 s'→Q ⟨.ret,[v0,v1,.bool true,.ptr (some (j,0)),y4,y5,y6,y7,y8,y9,y10,y11,y12,y13,y14,y15,y16,y17,y18,y19,y20,y21,y22,y23],[],s'⟩
        | some M'=>∀s' y2 y4 y5 y6 y7 y8 y9 y10 y11 y12 y13 y14 y15 y16 y17 y18 y19 y20 y21 y22 y23,Gm n s0 s' i j M'→Q ⟨.exit 0,[v0,v1,y2,.ptr (some (j,0)),y4,y5,y6,y7,y8,y9,y10,y11,y12,y13,y14,y15,y16,y17,y18,y19,y20,y21,y22,y23],[],s'⟩) →
      WC E none (.loop OO) Q [v0,v1,x2,.ptr (some (j,0)),x4,x5,x6,x7,x8,x9,x10,.slice a c.length cap,iv (c.length:Int),iv (k:Int),x14,x15,x16,x17,x18,x19,x20,x21,x22,x23] [] s:=by
  intro l
  induction l with
  | nil =>
    intro k M s x2 x4 x5 x14 x15 x16 x17 x18 x19 x20 x21 x22 x23 hd hk hmem hq
    have hkl:k=c.length:=by
      have:=congrArg List.length hd
      simp at this;omega
    subst hkl
    refine WC.loop' ?_
    simp only[OO,YO,rG,decide_false,Qa,Qb,Qc,Qd,Qe,Qf,Qg,Qh,Qi,Qj,Qk,Ql,Qm,Qn,true_and,and_true,Qo,Qp,Qq,Qr,Qs,Qt,Qu,Qv,Qw,Qx,Qy,Qz,Ra,Rb,Rc,Rd,Re,Rf,Rg,Rh,Ri,Rj,Rk,Rl,Rm,Ya,Yb,Yc,Rn,Ro,Rp,Yd,Ye,Rq,Rs,Rt,Ru,Rv,Rw,Rx]
    exact hq s _ _ _ _ _ _ _ _ _ _ _ _ _ _ _ _ _ _ _ _ _ hmem
  | cons x l ih =>
    intro k M s x2 x4 x5 x14 x15 x16 x17 x18 x19 x20 x21 x22 x23 hd hk hmem hq
    have hlt:k<c.length:=by
      have:=congrArg List.length hd
      simp at this;omega
    have hx:c[k]? = some x:=by
      have:=congrArg (fun l=>l[0]?) hd
      simpa using this
    have hd':c.drop (k+1)=l:=by
      rw[← rv,hd];rfl
    obtain⟨p,o,rfl,hp,hload⟩:=hr k _ (A6 hx)
    have hxi:=hc x (qj hx)
    have e1:=At (cap:=cap) (i:=p) (o:=o) Try.underlying23 Br hlt
    have e2:AC Try.prog s 3 (.ptr (some (p,o+k * 1)))=some (iv x):=A0 Do (by rw[rC,BU (hmem.old.2 p hp)];exact hload)
    have hkk:decide ((k:Int)<(c.length:Int))=true:=decide_eq_true (by omega)
    have e3:=Ay Try.prog 3 (k:Int) 1 ⟨by omega,by omega⟩
    have e4:AC Try.prog s 69 (.ptr (some (j,0)))=some (.map (some i)):=A0 nS hmem.know.cell
    refine WC.loop' ?_
    simp only[OO,YO,ff,fg,hkk,e1,e2,Qa,Qb,Qc,Qd,Qe,Qf,Qg,Qh,Qi,Qj,Qk,Ql,Qm,Qn,true_and,and_true,Qo,Qp,Qq,Qr,Qs,Qt,Qu,Qv,Qw,Qx,Qy,Qz,Ra,Rb,Rc,Rd,Re,Rf,Rg,Rh,Ri,Rj,Rk,Rl,Rm,Ya,Yb,Yc,Rn,Ro,Rp,Yd,Ye,Rq,Rs,Rt,Ru,Rv,Rw,Rx]
    refine(K5 hE x s hxi).mono ?_
    rintro _ _ ⟨rfl,rfl⟩
    by_cases h0:(B2 x).2=0
    · have hi0:DP M (x::l)=DP M l:=by simp[DP,h0]
      rw[hi0]at hq
      simp only[YP,SY,h0,decide_true,if_true,e3,Qa,Qb,Qc,Qd,Qe,Qf,Qg,Qh,Qi,Qj,Qk,Ql,Qm,Qn,true_and,and_true,Qo,Qp,Qq,Qr,Qs,Qt,Qu,Qv,Qw,Qx,Qy,Qz,Ra,Rb,Rc,Rd,Re,Rf,Rg,Rh,Ri,Rj,Rk,Rl,Rm,Ya,Yb,Yc,Rn,Ro,Rp,Yd,Ye,Rq,Rs,Rt,Ru,Rv,Rw,Rx]
      rw[show((k:Int)+1)=((k+1:Nat):Int)from by omega]
      exact ih (k+1) M s _ _ _ _ _ _ _ _ _ _ _ _ _ hd' hlt hmem hq
    · simp only[YP,fh,h0,decide_false,e4,Qa,Qb,Qc,Qd,Qe,Qf,Qg,Qh,Qi,Qj,Qk,Ql,Qm,Qn,true_and,and_true,Qo,Qp,Qq,Qr,Qs,Qt,Qu,Qv,Qw,Qx,Qy,Qz,Ra,Rb,Rc,Rd,Re,Rf,Rg,Rh,Ri,Rj,Rk,Rl,Rm,Ya,Yb,Yc,Rn,Ro,Rp,Yd,Ye,Rq,Rs,Rt,Ru,Rv,Rw,Rx]
      refine(kD hE hmem.know.map hmem.know.signs x hxi).mono ?_
      rintro _ _ ⟨rfl,rfl⟩
      by_cases h1:0<KV M x
      · have hi1:DP M (x::l)=none:=by simp[DP,h0,h1]
        rw[hi1]at hq
        simp only[fi,h1,decide_true,Qa,Qb,Qc,Qd,Qe,Qf,Qg,Qh,Qi,Qj,Qk,Ql,Qm,Qn,true_and,and_true,Qo,Qp,Qq,Qr,Qs,Qt,Qu,Qv,Qw,Qx,Qy,Qz,Ra,Rb,Rc,Rd,Re,Rf,Rg,Rh,Ri,Rj,Rk,Rl,Rm,Ya,Yb,Yc,Rn,Ro,Rp,Yd,Ye,Rq,Rs,Rt,Ru,Rv,Rw,Rx]
        exact hq s _ _ _ _ _ _ _ _ _ _ _ _ _ _ _ _ _ _ _ _ hmem.oldN
      · obtain⟨hn1,hn2⟩:=Wa hxi h0
        have hi1:DP M (x::l)=DP (En M (-x)) l:=by simp[DP,h0,h1]
        rw[hi1]at hq
        simp only[fj,h1,decide_false,e4,Fe _ x hn1,Qa,Qb,Qc,Qd,Qe,Qf,Qg,Qh,Qi,Qj,Qk,Ql,Qm,Qn,true_and,and_true,Qo,Qp,Qq,Qr,Qs,Qt,Qu,Qv,Qw,Qx,Qy,Qz,Ra,Rb,Rc,Rd,Re,Rf,Rg,Rh,Ri,Rj,Rk,Rl,Rm,Ya,Yb,Yc,Rn,Ro,Rp,Yd,Ye,Rq,Rs,Rt,Ru,Rv,Rw,Rx]
        refine(cF hE hmem.know.map (-x) hn1).mono ?_
        rintro _ s1 ⟨rfl,g1,g2,g3⟩
        simp only[SY,e3,Qa,Qb,Qc,Qd,Qe,Qf,Qg,Qh,Qi,Qj,Qk,Ql,Qm,Qn,true_and,and_true,Qo,Qp,Qq,Qr,Qs,Qt,Qu,Qv,Qw,Qx,Qy,Qz,Ra,Rb,Rc,Rd,Re,Rf,Rg,Rh,Ri,Rj,Rk,Rl,Rm,Ya,Yb,Yc,Rn,Ro,Rp,Yd,Ye,Rq,Rs,Rt,Ru,Rv,Rw,Rx]
        rw[show((k:Int)+1)=((k+1:Nat):Int)from by omega]
        refine ih (k+1) _ s1 _ _ _ _ _ _ _ _ _ _ _ _ _ hd' hlt ⟨⟨g1,by rw[BU (g3 j hmem.know.ne)];exact hmem.know.cell,hmem.know.ne,MW hmem.know.signs ?_⟩,hmem.old.trans ⟨by omega,fun y hy=>g3 y (by have:=hmem.hi;omega)⟩,hmem.hi,g2.trans hmem.nx⟩ hq
        rcases(HQ (-x) hn1).2 with h | h | h
        · exact .inl h
        · exact .inr h
        · exact absurd h hn2
set_option maxRecDepth 4000 in
theorem L8{E:BI}(hE:Aq E){s:AE}{cs:List (List Int)}{c:List Int}(hcs:VM cs)(hc:DF c)(hcl:c.length<9223372036854775808){v u:AV}(hr:R3 s.next s v cs)(hu:AJ s.next s u (A3 c)){fuel:Nat}{b:Bool}(hf:D2 fuel cs c=some b):
  WF E 17 [v,u] (fun r s'=>r=.bool b∧Wx s.next s s') s:=by
 obtain⟨a,cap,rfl,hr⟩:=hr
 obtain⟨a2,cap2,rfl,hu⟩:=hu
 rw[qi]
 refine hE.go lF (by decide) rfl ?_
 have hz:BF Try.prog 69=some (AL 69 0 [.map none],.ptr):=by simp[BF,pw,AV.cells]
 simp only[p7,fb,fc,fe,hz,Made.val,BW,AW Try.underlying23,Qa,Qb,Qc,Qd,Qe,Qf,Qg,Qh,Qi,Qj,Qk,Ql,Qm,Qn,true_and,and_true,Qo,Qp,Qq,Qr,Qs,Qt,Qu,Qv,Qw,Qx,Qy,Qz,Ra,Rb,Rc,Rd,Re,Rf,Rg,Rh,Ri,Rj,Rk,Rl,Rm,Ya,Yb,Yc,Rn,Ro,Rp,Yd,Ye,Rq,Rs,Rt,Ru,Rv,Rw,Rx]
 let s1:=newObj s (.map [] 0)
 let s2:=newObj s1 (AL 69 0 [.map none])
 obtain⟨r,hr1,hr2,_,_,hr5,hr6⟩:=BN 69 0 [.map none]
 have hg:s2.heap.get (s.next+1)=some (.row r):=by
  rw[AK,if_pos (show s.next+1=s1.next from rfl),hr1]
 have hst:=Nt (P:=Try.prog) (t:=69) pr (o:=0) (v:=.map (some s.next)) hg hr5 hr6 (by rw[hr2.1];decide) rfl rfl
 have hst':AP Try.prog (newObj (newObj s (.map [] 0)) (AL 69 0 [.map none])) 69 (.ptr (some ((newObj s (.map [] 0)).next,0))) (.map (some s.next))=_:=hst
 simp only[hst',AS,Qa,Qb,Qc,Qd,Qe,Qf,Qg,Qh,Qi,Qj,Qk,Ql,Qm,Qn,true_and,and_true,Qo,Qp,Qq,Qr,Qs,Qt,Qu,Qv,Qw,Qx,Qy,Qz,Ra,Rb,Rc,Rd,Re,Rf,Rg,Rh,Ri,Rj,Rk,Rl,Rm,Ya,Yb,Yc,Rn,Ro,Rp,Yd,Ye,Rq,Rs,Rt,Ru,Rv,Rw,Rx]
 generalize hs3:setObj s2 (s.next+1) (.row { r with c:=r.c.fill 0 [.map (some s.next)],par:=none })=s3
 have k3:∀x,s3.heap.get x=if x=s.next+1 then some (.row { r with c:=r.c.fill 0 [.map (some s.next)],par:=none })else if x=s.next then some (.map [] 0)else s.heap.get x:=by
  intro x
  rw[← hs3,Ai]
  by_cases h1:x=s.next+1
  ·rw[if_pos h1,if_pos h1]
  ·rw[if_neg h1,if_neg h1,AK,if_neg (show ¬ x=s1.next from h1),AK]
 have hmem:Gm s.next s s3 s.next (s.next+1) []:=by
  refine⟨⟨⟨[],0,by rw[k3,if_neg (by omega),if_pos rfl],.nil⟩,?_,by omega,fun p hp=>by cases hp⟩,⟨by rw[← hs3];show s.next≤s.next+1+1;omega,fun x hx=>by rw[k3,if_neg (by omega),if_neg (by omega)]⟩,qg _,by rw[← hs3];rfl⟩
  refine BX (r:={ r with c:=r.c.fill 0 [.map (some s.next)],par:=none }) (by rw[k3,if_pos rfl]) (by rw[hr2.1];decide) ?_
  show(Ak.fill r.c 0 [AV.map (some s.next)]).get 0=_
  rw[Ak.get_fill,if_pos ⟨qg _,by simp⟩]
  rfl
 have hnx:(newObj s (.map [] 0)).next=s.next+1:=rfl
 rw[hnx]
 refine Vq hE hc hcl hu _ _ _ _ _ _ _ c 0 [] s3 _ _ _ _ _ _ _ _ _ _ _ _ _ rfl (qm _) hmem ?_
 unfold D2 at hf
 cases hi:DP [] c with
 | none =>
  rw[hi]at hf
  injection hf with hf
  subst hf
  intro s' y4 y5 y6 y7 y8 y9 y10 y11 y12 y13 y14 y15 y16 y17 y18 y19 y20 y21 y22 y23 ho
  simp only[Qa,Qb,Qc,Qd,Qe,Qf,Qg,Qh,Qi,Qj,Qk,Ql,Qm,Qn,true_and,and_true,Qo,Qp,Qq,Qr,Qs,Qt,Qu,Qv,Qw,Qx,Qy,Qz,Ra,Rb,Rc,Rd,Re,Rf,Rg,Rh,Ri,Rj,Rk,Rl,Rm,Ya,Yb,Yc,Rn,Ro,Rp,Yd,Ye,Rq,Rs,Rt,Ru,Rv,Rw,Rx]
  exact ho
 | some M =>
  rw[hi]at hf
  intro s' y2 y4 y5 y6 y7 y8 y9 y10 y11 y12 y13 y14 y15 y16 y17 y18 y19 y20 y21 y22 y23 ho
  simp only[if_true,YF,YG,rn,rf,Qa,Qb,Qc,Qd,Qe,Qf,Qg,Qh,Qi,Qj,Qk,Ql,Qm,Qn,true_and,and_true,Qo,Qp,Qq,Qr,Qs,Qt,Qu,Qv,Qw,Qx,Qy,Qz,Ra,Rb,Rc,Rd,Re,Rf,Rg,Rh,Ri,Rj,Rk,Rl,Rm,Ya,Yb,Yc,Rn,Ro,Rp,Yd,Ye,Rq,Rs,Rt,Ru,Rv,Rw,Rx]
  have hf:ML cs fuel M=some b:=hf
  refine V5 hE hcs hr _ _ fuel M s' b _ _ _ _ _ _ _ _ _ _ _ _ _ _ _ _ _ _ _ hf ho ?_
  intro e s4 y2 y4 y5 y6 y7 y8 y9 y10 y11 y12 y13 y14 y15 y16 y17 y18 y19 y20 y21 y22 y23 ho4 he
  rcases he with⟨rfl,rfl,rfl⟩ | ⟨rfl,rfl⟩
  ·simp only[Qa,Qb,Qc,Qd,Qe,Qf,Qg,Qh,Qi,Qj,Qk,Ql,Qm,Qn,true_and,and_true,Qo,Qp,Qq,Qr,Qs,Qt,Qu,Qv,Qw,Qx,Qy,Qz,Ra,Rb,Rc,Rd,Re,Rf,Rg,Rh,Ri,Rj,Rk,Rl,Rm,Ya,Yb,Yc,Rn,Ro,Rp,Yd,Ye,Rq,Rs,Rt,Ru,Rv,Rw,Rx]
   exact ho4
  ·simp only[if_true,YN,Qa,Qb,Qc,Qd,Qe,Qf,Qg,Qh,Qi,Qj,Qk,Ql,Qm,Qn,true_and,and_true,Qo,Qp,Qq,Qr,Qs,Qt,Qu,Qv,Qw,Qx,Qy,Qz,Ra,Rb,Rc,Rd,Re,Rf,Rg,Rh,Ri,Rj,Rk,Rl,Rm,Ya,Yb,Yc,Rn,Ro,Rp,Yd,Ye,Rq,Rs,Rt,Ru,Rv,Rw,Rx]
   exact ho4
end
end Go.Proofs.Ytilhhmkdcoajnaa.Am
set_option linter.unusedVariables false
set_option linter.unusedSimpArgs false
namespace Go.Proofs.Ytilhhmkdcoajnaa.Am
open Go
noncomputable section
structure Gp(P:Program)(ρ:Bq)(w:World)(l:Fg)(rb:RB):Prop where
 ex:∃L:Loop,w.heap[rb.b]? = some (.loop L)∧L.state=l.state∧L.pending=l.pending∧L.params=l.params∧L.assign=l.assign∧L.body=l.body ∧
  (∃rd,ρ l.dfr=some rd∧L.defers=rd.b)∧ES ρ (Dl P l.fn) l.var L.tmps∧(∀fn,P.funcs[l.fn]? = some fn→fn.ntmps≤L.tmps.size)∧l.var.length=(Dl P l.fn).length
def Il(P:Program)(ρ:Bq)(w:World):C8→RB→Prop
 | .row r,rb=>F5 ρ w r rb
 | .map es clock,rb=>∃es':Array MapEntry,w.heap[rb.b]? = some (.map es' clock)∧Ew ρ es es'.toList
 | .loop l,rb=>Gp P ρ w l rb
 | .mark,rb=>w.heap[rb.b]? = some (.deferred (some []))
 | .iter _ _,_=>False
def wr:C8→Bool
 | .row r=>Fl r.mode
 | _=>true
def Nk:C8→Option Nat
 | .row r=>r.par
 | _=>none
structure By(P:Program)(ρ:Bq)(s:AE)(w:World):Prop where
 obj:∀i o rb,s.heap.get i=some o→ρ i=some rb→Il P ρ w o rb
 lt:∀i rb,ρ i=some rb→rb.b<w.heap.size
 sep:∀i j oi oj ri rj,i≠j→s.heap.get i=some oi→s.heap.get j=some oj→ρ i=some ri→ρ j=some rj→ri.b=rj.b→wr oj=true→Nk oj=some i∧wr oi=false
def Gq(ρ:Bq)(s:AE)(b:Nat):Prop:=∃i o rb,s.heap.get i=some o∧wr o=true∧ρ i=some rb∧rb.b=b
structure Fr(ρ:Bq)(s:AE)(w:World)(ρ':Bq)(s':AE)(w':World):Prop where
 le:ρ.le ρ'
 fresh:∀i,ρ i=none→(i<s.next∨s'.next≤i)→ρ' i=none
 next:s.next≤s'.next
 size:w.heap.size≤w'.heap.size
 os:w'.os=w.os
 tape:w'.tape=w.tape
 output:w'.output=w.output
 keep:∀b,b<w.heap.size→¬ Gq ρ s b→w'.heap[b]? = w.heap[b]?
 own:∀b,Gq ρ' s' b→Gq ρ s b∨w.heap.size≤b
 unborn:∀i,ρ i=none→(i<s.next∨s'.next≤i)→s'.heap.get i=s.heap.get i
section
variable{P:Program}{ρ ρ1 ρ2:Bq}{s s1 s2:AE}{w w1 w2:World}
theorem Fr.refl(ρ:Bq)(s:AE)(w:World):Fr ρ s w ρ s w:=
 ⟨Bq.le_refl ρ,fun _ h _=>h,qg _,qg _,rfl,rfl,rfl,fun _ _ _=>rfl,fun _ h=>.inl h,fun _ _ _=>rfl⟩
theorem Fr.trans(h:Fr ρ s w ρ1 s1 w1)(k:Fr ρ1 s1 w1 ρ2 s2 w2):Fr ρ s w ρ2 s2 w2 where
 le:=Bq.le_trans h.le k.le
 fresh:=fun i hi hr=>k.fresh i (h.fresh i hi (hr.imp id (fun h'=>qs k.next h'))) (hr.imp (fun h'=>qw h' h.next) id)
 next:=qs h.next k.next
 size:=qs h.size k.size
 os:=k.os.trans h.os
 tape:=k.tape.trans h.tape
 output:=k.output.trans h.output
 keep:=fun b hb ho=>(k.keep b (qw hb h.size) (fun ho1=>(h.own b ho1).elim ho (fun hge=>by omega))).trans (h.keep b hb ho)
 own:=fun b hb=>(k.own b hb).elim (fun h1=>h.own b h1) (fun hge=>.inr (qs h.size hge))
 unborn:=fun i hi hr=>(k.unborn i (h.fresh i hi (hr.imp id (fun h'=>qs k.next h'))) (hr.imp (fun h'=>qw h' h.next) id)).trans (h.unborn i hi (hr.imp id (fun h'=>qs k.next h')))
theorem Iv{a:Addr}(h:w1.heap[a.block]? = w.heap[a.block]?):w1.cell? a=w.cell? a:=by simp[World.cell?,h]
theorem ES.mono{σ:Bq}(le:ρ.le σ){vars:List Tmp}{var:List AV}{tmps:Array Value}(h:ES ρ vars var tmps):ES σ vars var tmps:=
 fun t k hk=>let ⟨h1,v,h2,h3⟩:=h t k hk;⟨h1,v,h2,h3.mono le⟩
theorem Il.mono    {o : C8}   {rb : RB} (h : Il    P ρ w o rb) (le : ρ.le ρ1) (hk : w1.heap[rb.b]? = w.heap[rb.b]?) : Il    P ρ1 w1 o rb := by
  cases o with
  | row r =>
    exact⟨fun k v hk' hv=>by
        obtain⟨v',h1,h2⟩:=h.cells k v hk' hv
        exact⟨v',(Iv (a:=⟨rb.b,_,none⟩) hk).trans h1,h2.mono le⟩,
      h.le,h.sz,h.tight,fun hm=>by
        obtain⟨cs,e,h1,h2⟩:=h.own hm
        exact⟨cs,e,hk.trans h1,h2⟩,fun p hp=>let ⟨rp,h1⟩:=h.par p hp;⟨rp,le _ _ h1⟩⟩
  | map es clock =>
    obtain⟨es',h1,h2⟩:=h
    exact⟨es',hk.trans h1,h2.mono le⟩
  | loop l =>
    obtain⟨L,h0,h1,h2,h4,h5,h6,⟨rd,h7,h7'⟩,h8,h9⟩:=h.ex
    exact⟨L,hk.trans h0,h1,h2,h4,h5,h6,⟨rd,le _ _ h7,h7'⟩,h8.mono le,h9⟩
  | mark=>exact hk.trans h
  | iter=>exact h
def C3(ρ:Bq)(i:Nat)(rb:RB):Bq:=fun j=>if j=i then some rb else ρ j
theorem A8(i:Nat)(rb:RB):C3 ρ i rb i=some rb:=by simp[C3]
theorem A4{i j:Nat}(rb:RB)(h:j≠i):C3 ρ i rb j=ρ j:=by simp[C3,h]
theorem C1{i:Nat}{rb:RB}(h:ρ i=none):ρ.le (C3 ρ i rb):=fun j r hj=>by
 have:j≠i:=fun e=>by subst e;rw[h]at hj;cases hj
 rw[A4 rb this];exact hj
theorem Cb(s:AE)(o:C8)(j:Nat):(newObj s o).heap.get j=if j=s.next then some o else s.heap.get j:=Ak.get_set _ _ _ _
theorem Dk(s:AE)(i:Nat)(o:C8)(j:Nat):(setObj s i o).heap.get j=if j=i then some o else s.heap.get j:=Ak.get_set _ _ _ _
theorem Bn(s:AE)(i j:Nat):(Bm s i).heap.get j=if j=i then none else s.heap.get j:=Ak.get_del _ _ _
theorem H9{o:Obj}{b:Nat}(h:b<w.heap.size):(w.alloc o).heap[b]? = w.heap[b]? :=
 Go.RowKit.Below.heap_alloc w o b h
theorem By.new  (h : By  P ρ s w) {o : C8}   {o' : Obj} {rb : RB} (hf : ρ s.next = none) (hb : rb.b = w.heap.size)
    (ho:Il P (C3 ρ s.next rb) (w.alloc o') o rb):
    By P (C3 ρ s.next rb) (newObj s o) (w.alloc o')∧Fr ρ s w (C3 ρ s.next rb) (newObj s o) (w.alloc o'):=by
  have hle:=C1 (rb:=rb) hf
  refine⟨⟨?_,?_,?_⟩,?_⟩
  · intro i oi ri hi hr
    rw[Cb]at hi
    by_cases e:i=s.next
    · subst e
      rw[if_pos rfl]at hi
      injection hi with hi
      rw[A8]at hr
      injection hr with hr
      subst hi;subst hr
      exact ho
    · rw [if_neg e] at hi
      rw[A4 rb e]at hr
      exact(h.obj i oi ri hi hr).mono hle (H9 (h.lt i ri hr))
  · intro i ri hr
    by_cases e:i=s.next
    · subst e
      rw[A8]at hr
      injection hr with hr
      subst hr
      simp[hb]
    · rw[A4 rb e]at hr
      have:=h.lt i ri hr
      simp;omega
  · intro i j oi oj ri rj hne hi hj hri hrj hbb hw
    rw[Cb]at hi hj
    by_cases ei:i=s.next
    · subst ei
      have ej:j≠s.next:=fun e=>hne e.symm
      rw[A8]at hri
      rw[A4 rb ej]at hrj
      injection hri with hri
      subst hri
      have:=h.lt j rj hrj
      omega
    · by_cases ej : j = s.next
      · subst ej
        rw[A4 rb ei]at hri
        rw[A8]at hrj
        injection hrj with hrj
        subst hrj
        have:=h.lt i ri hri
        omega
      · rw [if_neg ei] at hi
        rw[if_neg ej]at hj
        rw[A4 rb ei]at hri
        rw[A4 rb ej]at hrj
        exact h.sep i j oi oj ri rj hne hi hj hri hrj hbb hw
  · refine ⟨hle, ?_, by simp [newObj], by simp, rfl, rfl, rfl, fun b hb _ => H9            hb, ?_, ?_⟩
    · intro i hi hr
      have:i≠s.next:=by simp[newObj]at hr;omega
      rw[A4 rb this];exact hi
    · rintro b ⟨i, oi, ri, hi, hw, hr, rfl⟩
      rw[Cb]at hi
      by_cases e:i=s.next
      · subst e
        rw[A8]at hr
        injection hr with hr
        subst hr
        exact .inr (by omega)
      · rw [if_neg e] at hi
        rw[A4 rb e]at hr
        exact .inl ⟨i,oi,ri,hi,hw,hr,rfl⟩
    · intro i _ hi
      rw[Cb,if_neg (by simp[newObj]at hi;omega)]
theorem By.set  (h : By  P ρ s w) {i : Nat} {o o1 : C8}   {rb : RB} (hg : s.heap.get i = some o) (hr : ρ i = some rb) (hw : wr o = true) (hp : ∀ p, Nk    o = some p → p ≠ i → s.heap.get p = none)
    (hp1:Nk o1=none) (hsz:w1.heap.size=w.heap.size) (hkeep:∀b,b≠rb.b→w1.heap[b]? = w.heap[b]?) (hos:w1.os=w.os) (htape:w1.tape=w.tape) (hout:w1.output=w.output)
    (ho:Il P ρ w1 o1 rb):By P ρ (setObj s i o1) w1∧Fr ρ s w ρ (setObj s i o1) w1:=by
  have hsep:∀j oj rj,j≠i→s.heap.get j=some oj→ρ j=some rj→rj.b≠rb.b:=by
    intro j oj rj hne hj hrj e
    have:=hp j (h.sep j i oj o rj rb hne hj hg hrj hr e hw).1 hne
    rw[hj]at this
    cases this
  refine⟨⟨?_,?_,?_⟩,?_⟩
  · intro j oj rj hj hrj
    rw[Dk]at hj
    by_cases e:j=i
    · subst e
      rw[if_pos rfl]at hj
      injection hj with hj
      subst hj
      rw[hr]at hrj
      injection hrj with hrj
      subst hrj
      exact ho
    · rw[if_neg e]at hj
      exact(h.obj j oj rj hj hrj).mono (Bq.le_refl ρ) (hkeep _ (hsep j oj rj e hj hrj))
  · intro j rj hrj
    rw[hsz];exact h.lt j rj hrj
  · intro j k oj ok rj rk hne hj hk hrj hrk hbb hwk
    rw[Dk]at hj hk
    by_cases ej:j=i
    · subst ej
      have ek:k≠j:=fun e=>hne e.symm
      rw[if_neg ek]at hk
      rw[hr]at hrj
      injection hrj with hrj
      subst hrj
      exact absurd hbb.symm (hsep k ok rk ek hk hrk)
    · by_cases ek : k = i
      · subst ek
        rw[if_neg ej]at hj
        rw[hr]at hrk
        injection hrk with hrk
        subst hrk
        exact absurd hbb (hsep j oj rj ej hj hrj)
      · rw [if_neg ej] at hj
        rw[if_neg ek]at hk
        exact h.sep j k oj ok rj rk hne hj hk hrj hrk hbb hwk
  · refine ⟨Bq.le_refl  ρ, fun _ h _ => h, qg          _, by omega, hos, htape, hout, ?_, ?_, ?_⟩
    · intro b _ hno
      exact hkeep b (fun e=>hno ⟨i,o,rb,hg,hw,hr,e.symm⟩)
    · rintro b ⟨j, oj, rj, hj, hwj, hrj, rfl⟩
      rw[Dk]at hj
      by_cases e:j=i
      · subst e
        rw[hr]at hrj
        injection hrj with hrj
        subst hrj
        exact .inl ⟨j,o,rb,hg,hw,hr,rfl⟩
      · rw[if_neg e]at hj
        exact .inl ⟨j,oj,rj,hj,hwj,hrj,rfl⟩
    · intro j hrj _
      rw[Dk,if_neg]
      intro e
      subst e
      rw[hr]at hrj
      cases hrj
theorem By.del  (h : By  P ρ s w) {i : Nat} {rb : RB} (hr : ρ i = some rb) : By  P ρ (Bm     s i) w ∧ Fr ρ s w ρ (Bm     s i) w := by
  refine⟨⟨?_,h.lt,?_⟩,⟨Bq.le_refl ρ,fun _ h _=>h,qg _,qg _,rfl,rfl,rfl,fun _ _ _=>rfl,?_,?_⟩⟩
  · intro j oj rj hj hrj
    rw[Bn]at hj
    by_cases e:j=i
    · rw[if_pos e]at hj;cases hj
    · rw[if_neg e]at hj
      exact h.obj j oj rj hj hrj
  · intro j k oj ok rj rk hne hj hk
    rw[Bn]at hj hk
    by_cases ej:j=i
    · rw[if_pos ej]at hj;cases hj
    · by_cases ek : k = i
      · rw[if_pos ek]at hk;cases hk
      · rw [if_neg ej] at hj
        rw[if_neg ek]at hk
        exact h.sep j k oj ok rj rk hne hj hk
  · rintro b ⟨j, oj, rj, hj, hwj, hrj, rfl⟩
    rw[Bn]at hj
    by_cases e:j=i
    · rw[if_pos e]at hj;cases hj
    · rw[if_neg e]at hj
      exact .inl ⟨j,oj,rj,hj,hwj,hrj,rfl⟩
  · intro j hrj _
    rw[Bn,if_neg]
    intro e
    subst e
    rw[hr]at hrj
    cases hrj
theorem C0{i:Nat}{r:EX}(h:rowAt s i=some r):s.heap.get i=some (.row r):=by
 unfold rowAt at h
 split at h
 ·injection h with h;subst h;assumption
 ·cases h
theorem Ct(b o k:Nat):(⟨b,o,none⟩:Addr).add k=⟨b,o+k,none⟩:=by unfold Addr.add;split<;>simp_all
theorem Ec(h:By P ρ s w){i off n:Nat}{l:List AV}{rb:RB}(hr:ρ i=some rb)(hl:loadN s i off n=some l):
  ∃l':List Value,AX ρ l l'∧l'.length=n∧∀w1:World,w1.heap=w.heap→(loadCells ⟨rb.b,rb.off+off,none⟩ n).run P w1=.ok l'.toArray w1:=by
 unfold loadN at hl
 simp only[qh]at hl
 obtain⟨r,hrow,hl⟩:=hl
 obtain⟨hb,hl⟩:=AI hl
 have hb:off+n≤r.n:=by simpa[qu]using hb
 have hok:F5 ρ w r rb:=h.obj i _ rb (C0 hrow) hr
 have hlen:=Ak.take_length hl
 have hc:∀k,k<n→∃v v',l[k]? = some v∧w.cell? ⟨rb.b,rb.off+off+k,none⟩=some v'∧Ad ρ v v':=by
  intro k hk
  have hv:l[k]? = some l[k]:=qp (by omega)
  have hg:=Ak.take_get hl k hk
  rw[hv]at hg
  obtain⟨v',h1,h2⟩:=hok.cells (off+k) _ (by omega) hg
  exact⟨l[k],v',hv,by rw[show rb.off+off+k=rb.off+(off+k)from by omega];exact h1,h2⟩
 let f:Nat→Value:=fun k=>(w.cell? ⟨rb.b,rb.off+off+k,none⟩).getD undef
 have hf:∀k,k<n→w.cell? ⟨rb.b,rb.off+off+k,none⟩=some (f k):=by
  intro k hk
  obtain⟨v,v',_,h2,_⟩:=hc k hk
  simp[f,h2]
 refine⟨(List.range n).map f,?_,by simp,?_⟩
 ·refine AX.of_get (by simp[hlen]) ?_
  intro k v v' hv hv'
  have hk:k<n:=by
   rcases qk k n with h' | h'
   ·exact h'
   ·rw[rA (by omega)]at hv;cases hv
  obtain⟨u,u',h1,h2,h3⟩:=hc k hk
  rw[h1]at hv
  injection hv with hv
  subst hv
  rw[rX,List.getElem?_range hk]at hv'
  simp only[sT]at hv'
  injection hv' with hv'
  rw[← hv']
  have:f k=u':=by simp[f,h2]
  rw[this];exact h3
 ·intro w1 he
  exact run_loadCells w1 _ n f (fun j hj=>by rw[Ct];exact(Iv (by rw[he])).trans (hf j hj))
theorem bJ(h:By P ρ s w){i off:Nat}{v:AV}{rb:RB}(hr:ρ i=some rb)(hl:load1 s i off=some v):
  ∃v',Ad ρ v v'∧w.cell? ⟨rb.b,rb.off+off,none⟩=some v':=by
 unfold load1 at hl
 simp only[qh]at hl
 obtain⟨r,hrow,hl⟩:=hl
 obtain⟨hb,hl⟩:=AI hl
 have hb:off<r.n:=by simpa[rJ]using hb
 have hok:F5 ρ w r rb:=h.obj i _ rb (C0 hrow) hr
 obtain⟨v',h1,h2⟩:=hok.cells off v hb hl
 exact⟨v',h2,h1⟩
theorem QM       (h : By  P ρ s w) {t : TypeId} {a v : AV} {a' : Value} (hl : AC    P s t a = some v) (ha : Ad   ρ a a') :
    ∃v',(Instr.loadAt t a').run P w=.ok v' w∧Ad ρ v v'∧∃ad,a'=.pointer (some ad)∧(loadVar t ad).run P w=.ok v' w:=by
  unfold AC at hl
  split at hl<;>first | (cases hl;done) | skip
  rename_i i o
  cases ha with
  | ptr hr =>
    rename_i rb
    simp only[qh]at hl
    obtain⟨g,hg,hl⟩:=hl
    cases g with
    | true =>
      simp only[qh]at hl
      obtain⟨n,hn,l,hl,hv⟩:=hl
      injection hv with hv;subst hv
      obtain⟨l',h1,h2,h3⟩:=Ec h hr hl
      have hrun:(loadVar t ⟨rb.b,rb.off+o,none⟩).run P w=.ok (.agg l'.toArray) w:=by
        simp[loadVar,K0 hg,BL hn,h3 w rfl]
      exact⟨.agg l'.toArray,by simp[Instr.loadAt,Instr.sureAddr,hrun],.agg (by simpa using h1),_,rfl,hrun⟩
    | false =>
      obtain⟨v',h1,h2⟩:=bJ h hr hl
      have hrun:(loadVar t ⟨rb.b,rb.off+o,none⟩).run P w=.ok v' w:=by
        simp[loadVar,K0 hg,h2]
      exact⟨v',by simp[Instr.loadAt,Instr.sureAddr,hrun],h1,_,rfl,hrun⟩
end
section
variable{P:Program}{ρ ρ1 ρ2:Bq}{s s1 s2:AE}{w w1 w2:World}
theorem bM{e:TypeId}{sz:Nat}{l:List AV}{cs:Array Value}{t:TypeId}(hl:AX ρ l cs.toList)(b:Nat)(hb:w.heap[b]? = some (.cells cs t (0,0))):
  Il P ρ w (AL e sz l) ⟨b,0,l.length,sz⟩:=by
 have hlen:=hl.length
 refine⟨?_,qg _,rfl,fun _=>rfl,fun _=>⟨cs,t,hb,by simp[hlen]⟩,fun p hp=>by cases hp⟩
 intro k v hk hv
 simp only[Ak.get_fill,qm,qq,true_and,Nat.sub_zero]at hv
 rw[if_pos hk]at hv
 obtain⟨v',h1,h2⟩:=hl.get hv
 refine⟨v',?_,h2⟩
 simp only[World.cell?,hb,qq]
 rw[← Array.getElem?_toList]
 simpa using h1
theorem Hl(h:By P ρ s w)(hf:ρ s.next=none){e t:TypeId}{sz:Nat}{l:List AV}{cs:Array Value}(hl:AX ρ l cs.toList):
  ∃ρ',ρ' s.next=some ⟨w.heap.size,0,l.length,sz⟩∧By P ρ' (newObj s (AL e sz l)) (w.alloc (.cells cs t))∧Fr ρ s w ρ' (newObj s (AL e sz l)) (w.alloc (.cells cs t)):=by
 have hle:=C1 (rb:=⟨w.heap.size,0,l.length,sz⟩) hf
 obtain⟨h1,h2⟩:=h.new (o:=AL e sz l) (o':=.cells cs t) (rb:=⟨w.heap.size,0,l.length,sz⟩) hf rfl
  (bM (hl.mono hle) _ (World.alloc_heap_new w _))
 exact⟨_,A8 _ _,h1,h2⟩
theorem Hq        (h : By  P ρ s w) {i off : Nat} {vs : List AV} {vs' : List Value} {rb : RB} (hr : ρ i = some rb) (hs : Cc     s i off vs = some s1) (hv : AX    ρ vs vs') :
    ∃w1,(storeCells ⟨rb.b,rb.off+off,none⟩ vs').run P w=.ok () w1∧By P ρ s1 w1∧Fr ρ s w ρ s1 w1:=by
  cases vs with
  | nil =>
    cases hv
    simp only[Cc]at hs
    injection hs with hs
    subst hs
    exact⟨w,rfl,h,Fr.refl _ _ _⟩
  | cons v0 vs0 =>
    have hsv:Cc s i off (v0::vs0)=(rowAt s i).bind fun r =>
      AG (Fl r.mode && Nat.ble (off+(v0::vs0).length) r.n && Ae (v0::vs0))
        (some (setObj (A1 s i r) i (.row { r with c:=r.c.fill off (v0::vs0),par:=none }))):=rfl
    rw[hsv]at hs
    generalize v0::vs0=vs at hs hv
    simp only[qh]at hs
    obtain⟨r,hrow,hs⟩:=hs
    obtain⟨hb,hs⟩:=AI hs
    injection hs with hs
    subst hs
    simp only[Bool.and_eq_true,qu]at hb
    obtain⟨⟨hown,hle⟩,hall⟩:=hb
    have hg:=C0 hrow
    have hok:F5 ρ w r rb:=h.obj i _ rb hg hr
    have hmode:r.mode≠.ro:=fun e=>by rw[e]at hown;cases hown
    obtain⟨cs,e,hblk,hsz⟩:=hok.own hmode
    have hlen:=hv.length
    have hfit:rb.off+off+vs'.length≤cs.size:=by have:=hok.le;omega
    have hrun:=run_storeCells_at P rb.b (rb.off+off) e vs' 0 cs w hblk (by simpa using hfit) (hv.oneCell hall)
    refine⟨_,hrun,?_⟩
    simp only[sC]
    generalize hnew:(cs.toList.take (rb.off+off)++vs'++cs.toList.drop (rb.off+off+vs'.length)).toArray=cs1
    have hblk1:(w.setRow rb.b cs1).heap[rb.b]? = some (.cells cs1 e (0,0)):=setRow_heap w rb.b cs cs1 e (0,0) hblk
    have hsize1:cs1.size=cs.size:=by rw[← hnew];simp;omega
    have hget:∀k,cs1[k]? = if rb.off+off≤k∧k<rb.off+off+vs'.length then vs'[k - (rb.off+off)]? else cs[k]? := by
      intro k
      rw[← hnew,List.getElem?_toArray]
      by_cases h1:k<rb.off+off
      · rw[if_neg (by omega),rZ,qv (by simp;omega),rg h1,Array.getElem?_toList]
      · rw[rZ,qy (by simp;omega)]
        have hmin:(cs.toList.take (rb.off+off)).length=rb.off+off:=by simp;omega
        rw[hmin]
        by_cases h2:k<rb.off+off+vs'.length
        · rw[if_pos (by omega),qv (by omega)]
        · rw[if_neg (by omega),qy (by omega),rQ,← Array.getElem?_toList]
          congr 1
          omega
    have key:∀sx:AE,By P ρ sx w→Fr ρ s w ρ sx w→sx.heap.get i=some (.row r)→(∀p,r.par=some p→p≠i→sx.heap.get p=none) →
        By P ρ (setObj sx i (.row { r with c:=r.c.fill off vs,par:=none })) (w.setRow rb.b cs1) ∧
        Fr ρ s w ρ (setObj sx i (.row { r with c:=r.c.fill off vs,par:=none })) (w.setRow rb.b cs1):=by
      intro sx hx hfx hgx hpx
      obtain⟨h1,h2⟩:=hx.set (o1:=.row { r with c:=r.c.fill off vs,par:=none }) (w1:=w.setRow rb.b cs1) hgx hr (by simpa[wr]using hown) hpx rfl (by simp)
        (fun b hb=>setRow_other w rb.b b cs1 hb) rfl rfl rfl (by
          refine⟨?_,hok.le,hok.sz,hok.tight,fun _=>⟨cs1,e,hblk1,by rw[hsize1];exact hsz⟩,fun p hp=>by cases hp⟩
          intro k v hk hkv
          simp only[Ak.get_fill]at hkv
          have hcell:(w.setRow rb.b cs1).cell? ⟨rb.b,rb.off+k,none⟩=cs1[rb.off+k]? := by simp[World.cell?,hblk1]
          rw[hcell,hget]
          by_cases hin:off≤k∧k<off+vs.length
          · rw [if_pos hin] at hkv
            rw[if_pos (by omega),show rb.off+k - (rb.off+off)=k - off from by omega]
            exact hv.get hkv
          · rw [if_neg hin] at hkv
            rw[if_neg (by omega)]
            obtain⟨v',h1,h2⟩:=hok.cells k v hk hkv
            refine⟨v',?_,h2⟩
            simpa[World.cell?,hblk]using h1)
      exact⟨h1,hfx.trans h2⟩
    unfold A1
    split
    · rename_i hp
      exact key s h (Fr.refl _ _ _) hg (fun p hp' _=>by rw[hp]at hp';cases hp')
    · rename_i p hp
      by_cases hpi:p=i
      · have:Nat.beq p i=true:=by rw[hpi];simp[Nat.beq_eq]
        rw[this]
        exact key s h (Fr.refl _ _ _) hg (fun q hq hqi=>by rw[hp]at hq;injection hq with hq;exact absurd (hq.symm.trans hpi) hqi)
      · rw[Ak.beq_no hpi]
        obtain⟨rp,hrp⟩:=hok.par p hp
        obtain⟨hd,hfd⟩:=h.del hrp
        exact key (Bm s p) hd hfd (by rw[Bn,if_neg (fun e=>hpi e.symm)];exact hg) (fun q hq _=>by
          rw[hp]at hq
          injection hq with hq
          subst hq
          rw[Bn,if_pos rfl])
theorem BB{a b:Nat}(h:Nat.beq a b=true):a=b:=rW h
theorem Wk(h:By P ρ s w){t:TypeId}{a v:AV}{a' v':Value}(hs:AP P s t a v=some s1)(ha:Ad ρ a a')(hv:Ad ρ v v'):
  ∃w1,(Instr.storeAt t a' v').run P w=.ok () w1∧By P ρ s1 w1∧Fr ρ s w ρ s1 w1:=by
 unfold AP at hs
 split at hs<;>first | (cases hs;done) | skip
 rename_i i o
 cases ha with
 | ptr hr =>
  rename_i rb
  simp only[qh]at hs
  obtain⟨n,hn,hs⟩:=hs
  obtain⟨hb,hs⟩:=AI hs
  have hb:=BB hb
  obtain⟨w1,h1,h2⟩:=Hq h hr hs hv.cells
  refine⟨w1,?_,h2⟩
  have hc:v'.cells.size=n:=by have:=hv.cells.length;simp at this;omega
  simp[Instr.storeAt,Instr.sureAddr,storeVar,BL hn,hc,h1]
def ND(P:Program)(ρ:Bq)(s:AE)(w:World)(sem:Sem Value)(o:C8)(m:Made):Prop:=
 ∃v' w' ρ',sem.run P w=.ok v' w'∧Ad ρ' (m.val s.next) v'∧By P ρ' (newObj s o) w'∧Fr ρ s w ρ' (newObj s o) w'
theorem VP(h:By P ρ s w)(hf:ρ s.next=none){e:TypeId}{o:C8}{m:Made}(hs:BF P e=some (o,m)):
  ND P ρ s w (Instr.alloc e true (.tuple #[])) o m:=by
 unfold BF at hs
 simp only[qh]at hs
 obtain⟨z,hz,hs⟩:=hs
 injection hs with hs
 injection hs with h1 h2
 subst h1;subst h2
 obtain⟨z',hz',hzr⟩:=JT (w:=w) ρ hz
 obtain⟨ρ',h1,h2,h3⟩:=Hl h hf (e:=e) (t:=e) (sz:=0) hzr.cells
 exact⟨.pointer (some ⟨w.heap.size,0,none⟩),_,ρ',by simp[Instr.alloc,hz',newVar,newRow],Ad.ptr h1,h2,h3⟩
theorem c6(h:By P ρ s w)(hf:ρ s.next=none){e:TypeId}{v:AV}{v':Value}{o:C8}{m:Made}(hs:Ce e v=some (o,m))(hv:Ad ρ v v'):
  ND P ρ s w (Instr.box e v') o m:=by
 unfold Ce at hs
 injection hs with hs
 injection hs with h1 h2
 subst h1;subst h2
 obtain⟨ρ',h1,h2,h3⟩:=Hl h hf (e:=e) (t:=e) (sz:=0) hv.cells
 exact⟨.pointer (some ⟨w.heap.size,0,none⟩),_,ρ',by simp[Instr.box,newVar,newRow],Ad.ptr h1,h2,h3⟩
theorem Tm(h:By P ρ s w)(hf:ρ s.next=none)(t:TypeId):ND P ρ s w (Instr.makeMap t none) (.map [] 0) .map:=by
 have hle:=C1 (rb:=⟨w.heap.size,0,0,0⟩) hf
 obtain⟨h1,h2⟩:=h.new (o:=.map [] 0) (o':=.map #[] 0) (rb:=⟨w.heap.size,0,0,0⟩) hf rfl ⟨#[],World.alloc_heap_new w _,.nil⟩
 exact⟨.map (some w.heap.size),_,_,by simp[Instr.makeMap,newObj],Ad.map (A8 _ _),h1,h2⟩
theorem Lz       {place : Nat → Option (Nat × Nat)} {place' : Nat → Option (Nat × Nat)} (hp : ∀ i p, place i = some p → place' i = some p) :
    ∀ {parts:List (Nat×AV)} {parts':List (Nat×Value)} {cs l:List AV} {cs':Array Value},DO place cs parts=some l→AX ρ cs cs'.toList →
      (parts.map (·.1)=parts'.map (·.1))→AX ρ (parts.map (·.2)) (parts'.map (·.2))→∃l',Instr.fill place' cs' parts'=some l'∧AX ρ l l'.toList:=by
  intro parts
  induction parts with
  | nil =>
    intro parts' cs l cs' h hc hm hv
    cases parts' with
    | nil=>simp[DO]at h;subst h;exact⟨cs',rfl,hc⟩
    | cons=>simp at hm
  | cons p rest ih =>
    intro parts' cs l cs' h hc hm hv
    cases parts' with
    | nil=>simp at hm
    | cons p' rest' =>
      obtain⟨i,v⟩:=p
      obtain⟨i',v'⟩:=p'
      simp only[rm,List.cons.injEq]at hm
      obtain⟨hi,hm⟩:=hm
      skip
      subst hi
      simp only[rm]at hv
      cases hv with
      | cons hv hvs =>
        simp only[DO,qh]at h
        obtain⟨q,hq,h⟩:=h
        obtain⟨hb,h⟩:=AI h
        simp only[Bool.and_eq_true,qu]at hb
        obtain⟨hb1,hb2⟩:=hb
        have hb1:=BB hb1
        have hvc:=hv.cells
        have hvl:=hvc.length
        have hcl:=hc.length
        simp only[Array.length_toList]at hvl hcl
        have hnew:AX ρ (cs.take q.1++(v.cells++cs.drop (q.1+v.cells.length)))
            (v'.cells.zipIdx.foldl (fun cs (c,j)=>cs.setIfInBounds (q.1+j) c) cs').toList:=by
          have e:(v'.cells.zipIdx.foldl (fun cs (c,j)=>cs.setIfInBounds (q.1+j) c) cs').toList=cs'.toList.take q.1++(v'.cells.toList++cs'.toList.drop (q.1+v.cells.length)):=by
            have key:∀ (l:List Value) (k:Nat) (a:Array Value),q.1+k+l.length≤a.size →
                ((l.zipIdx k).foldl (fun cs (x:Value×Nat)=>cs.setIfInBounds (q.1+x.2) x.1) a).toList=a.toList.take (q.1+k)++(l++a.toList.drop (q.1+k+l.length)):=by
              intro l
              induction l with
              | nil=>intro k a _;simp
              | cons x l ihl =>
                intro k a hk
                simp only[qx]at hk
                rw[List.zipIdx_cons,rT,ihl (k+1) _ (by simp;omega)]
                simp only[Array.toList_setIfInBounds,qx]
                have e:=list_seg_step a.toList (q.1+k) x l (by simp;omega)
                simpa[rU,rZ]using e
            have:=key v'.cells.toList 0 cs' (by simp;omega)
            simp only[sC]at this
            rw[← Array.foldl_toList,Array.toList_zipIdx]
            rw[hvl]
            simpa using this
          rw[e]
          exact(hc.take _).append (hvc.append (hc.drop _))
        obtain⟨l',h1,h2⟩:=ih h hnew hm hvs
        refine⟨l',?_,h2⟩
        have hpq:=hp i q hq
        obtain⟨o,n⟩:=q
        simp only[Instr.fill,hpq]
        have c1:¬ (v'.cells.size≠n∨o+v'.cells.size > cs'.size):=by simp only at hb1 hb2;omega
        have:(decide (v'.cells.size≠n) || decide (o+v'.cells.size > cs'.size))=false:=by
          rw[Bool.eq_false_iff];intro hh;apply c1;simpa using hh
        simp only[this]
        exact h1
theorem H7:∀ {fs:List Field}{l:List (Nat×Nat)},B1 P fs=some l →
  ∀w:World,((fs.mapM fun f=>do pure (f.offset,← sizeOf f.type):Sem (List (Nat×Nat)))).run P w=.ok l w
 | [],l,h,w=>by simp[B1]at h;subst h;rfl
 | f::fs,l,h,w=>by
  simp only[B1,qh]at h
  obtain⟨n,hn,r,hr,h⟩:=h
  injection h with h
  subst h
  have ih:=H7 hr w
  simp only[List.mapM_cons,Sem.run_bind,BL hn,Sem.run_pure,Result.andThen_ok,ih]
theorem VR{t:TypeId}{parts:List (Nat×AV)}{parts':Array (Nat×Value)}{v:AV}(h:Bu P t parts=some v)
  (hm:parts.map (·.1)=parts'.toList.map (·.1)) (hv:AX ρ (parts.map (·.2)) (parts'.toList.map (·.2))) (w:World):
  ∃v',(Instr.build t parts').run P w=.ok v' w∧Ad ρ v v':=by
 unfold Bu at h
 simp only[qh]at h
 obtain⟨z,hz,h⟩:=h
 obtain⟨z',hz',hzr⟩:=JT (w:=w) ρ hz
 split at h<;>first | (cases h;done) | skip
 ·rename_i fields hf
  simp only[qh]at h
  obtain⟨places,hpl,l,hl,h⟩:=h
  injection h with h
  subst h
  have hpl':=H7 hpl w
  obtain⟨l',h1,h2⟩:=Lz (place':=fun i=>(places.toArray)[i]?) (fun i p hp=>by simpa using hp) hl hzr.cells hm hv
  refine⟨.agg l',?_,.agg h2⟩
  have hma:(fields.mapM fun f=>do pure (f.offset,← sizeOf f.type):Sem (Array (Nat×Nat))).run P w=.ok places.toArray w:=by
   rw[Array.mapM_eq_mapM_toList,Sem.run_map,hpl']
   rfl
  simp only[Instr.build,Sem.run_bind,hz',Result.andThen_ok,AO hf,hma,h1,Sem.run_pure]
 ·rename_i len e hf
  simp only[qh]at h
  obtain⟨n,hn,l,hl,h⟩:=h
  injection h with h
  subst h
  obtain⟨l',h1,h2⟩:=Lz (place':=fun i=>some (i * n,n)) (fun i p hp=>hp) hl hzr.cells hm hv
  refine⟨.agg l',?_,.agg h2⟩
  simp only[Instr.build,Sem.run_bind,hz',Result.andThen_ok,AO hf,BL hn,h1,Sem.run_pure]
theorem O8      {z : AV} {z' : Value} {n c : Nat} (hz : Ad   ρ z z') (hl : z.cells.length = n) :
    AX ρ (Ht z.cells c) (((Array.range (c * n)).map (z'.cells[· % z'.cells.size]!)).toList):=by
  have hc:=hz.cells
  have hlen:z'.cells.size=n:=by have:=hc.length;simp at this;omega
  have hrl:∀c,(Ht z.cells c).length=c * n:=by
    intro c
    induction c with
    | zero=>simp[Ht]
    | succ c ih=>simp[Ht,ih,hl,Nat.succ_mul];omega
  have hrg:∀ (c k:Nat),k<c * n→(Ht z.cells c)[k]? = z.cells[k % n]? := by
    intro c
    induction c with
    | zero=>intro k hk;omega
    | succ c ih =>
      intro k hk
      simp only[Ht]
      by_cases h1:k<n
      · rw[qv (by omega),Nat.mod_eq_of_lt h1]
      · rw [qy                         (by omega), hl, ih (k - n) (by rw [Nat.succ_mul] at hk; omega)]
        rw[← Nat.mod_eq_sub_mod (by omega)]
  refine AX.of_get (by simp[hrl]) ?_
  intro k v v' hv hv'
  have hk:k<c * n:=by
    rcases qk k (c * n)with h | h
    · exact h
    · rw[rA (by rw[hrl];omega)]at hv;cases hv
  have hn:0<n:=by
    rcases rh n with h | h
    · subst h;simp at hk
    · exact h
  rw[hrg c k hk]at hv
  obtain⟨u,h1,h2⟩:=hc.get hv
  have:v'=u:=by
    rw[Array.getElem?_toList,Array.getElem?_map,Array.getElem?_range]at hv'
    rw[if_pos hk]at hv'
    simp only[sT]at hv'
    injection hv' with hv'
    rw[← hv',hlen]
    rw[Array.getElem?_toList]at h1
    rw[getElem!_def,h1]
  rw[this]
  exact h2
theorem PC(h:By P ρ s w)(hf:ρ s.next=none){t:TypeId}{len:Nat}{parts:List (Nat×AV)}{parts':Array (Nat×Value)}{o:C8}(hs:Ab P t len parts=some o)
  (hm:parts.map (·.1)=parts'.toList.map (·.1)) (hv:AX ρ (parts.map (·.2)) (parts'.toList.map (·.2))):
  ND P ρ s w (Instr.buildSlice t len parts') o (.slice len):=by
 unfold Ab at hs
 split at hs<;>first | (cases hs;done) | skip
 rename_i e he
 simp only[qh]at hs
 obtain⟨n,hn,hs⟩:=hs
 obtain⟨hb,hs⟩:=AI hs
 have hb:len * n≤16777216:=by simpa[qu]using hb
 simp only[qh]at hs
 obtain⟨z,hz,hs⟩:=hs
 obtain⟨hc,hs⟩:=AI hs
 simp only[qh]at hs
 obtain⟨l,hl,hs⟩:=hs
 injection hs with hs
 subst hs
 obtain⟨z',hz',hzr⟩:=JT (w:=w) ρ hz
 have hz2:=O8 (c:=len) hzr (BB hc)
 obtain⟨l',h1,h2⟩:=Lz (place':=fun i=>some (i * n,n)) (fun i p hp=>hp) hl hz2 hm hv
 obtain⟨ρ',g1,g2,g3⟩:=Hl h hf (e:=e) (t:=e) (sz:=n) h2
 refine⟨.slice (some ⟨w.heap.size,0,none⟩) len len,_,ρ',?_,Ad.slice g1 (qg _),g2,g3⟩
 have hbig:¬ len * n > 2 ^ 24:=by omega
 by_cases h0:len * n=0
 ·have hr0:Array.range 0=#[]:=by simp
  rw[h0,hr0]at h1
  simp only[Array.map_empty]at h1
  simp[Instr.buildSlice,AO he,BL hn,h0,hr0,h1,newRow]
 ·simp[Instr.buildSlice,AO he,BL hn,hbig,h0,hz',h1,newRow]
theorem M6(h:By P ρ s w)(hf:ρ s.next=none){t:TypeId}{l c:AV}{l' c':Value}{o:C8}{m:Made}(hs:IY P t l c=some (o,m))
  (hl:Ad ρ l l') (hc:Ad ρ c c'):ND P ρ s w (Instr.makeSlice t l' c') o m:=by
 unfold IY at hs
 split at hs<;>first | (cases hs;done) | skip
 rename_i e l0 c0 he
 cases hl;cases hc
 simp only[qh]at hs
 obtain⟨by_,hby,n,hn,hs⟩:=hs
 obtain⟨hb,hs⟩:=AI hs
 simp only[Bool.and_eq_true,qu]at hb
 obtain⟨⟨hlc,hb1⟩,hb2⟩:=hb
 have hlc:=BB hlc
 subst hlc
 simp only[qh]at hs
 obtain⟨z,hz,hs⟩:=hs
 obtain⟨hc,hs⟩:=AI hs
 injection hs with hs
 injection hs with hs1 hs2
 subst hs1;subst hs2
 obtain⟨z',hz',hzr⟩:=JT (w:=w) ρ hz
 have hz2:=O8 (c:=l0) hzr (BB hc)
 obtain⟨i,hi,hi2⟩:=WZ (w:=w) hby
 obtain⟨ρ',g1,g2,g3⟩:=Hl h hf (e:=e) (t:=e) (sz:=n) hz2
 refine⟨.slice (some ⟨w.heap.size,0,none⟩) l0 l0,_,ρ',?_,Ad.slice g1 (qg _),g2,g3⟩
 have hw:IntKind.i64.wrap (l0:Int)=(l0:Int):=K8 (k:=.i64) (n:=Int.ofNat l0) (by simp[CC,qu];omega)
 have hmul:((by_:Int) * (l0:Int))≤1099511627776:=by
  have:((by_ * l0:Nat):Int)≤1099511627776:=by omega
  simpa using this
 have h1:¬ ((l0:Int)<0):=by omega
 have h2:¬ ((i.bytes:Int) * (l0:Int) > 2 ^ 48):=by rw[hi2];omega
 have h3:¬ ((281474976710656:Int)<(i.bytes:Int) * (l0:Int)):=by omega
 by_cases h0:l0 * n=0
 ·have hr0:Array.range 0=#[]:=by simp
  simp[Instr.makeSlice,AO he,asInt,asIntOf,hi,hw,h1,h3,BL hn,h0,newRow,hr0]
 ·simp[Instr.makeSlice,AO he,asInt,asIntOf,hi,hw,h1,h3,BL hn,h0,hz',newRow]
end
end
end Go.Proofs.Ytilhhmkdcoajnaa.Am
