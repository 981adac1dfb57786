/- The compiled code of the functions of layer 20, printed by a program of ours (dev/Print.lean) and checked by the kernel; conditions: none. -/
import Derived.Test.YtilhhmkdcoajnaaRows
import Derived.Test.YtilhhmkdcoajnaaAmM01
import Derived.Laws.CopyRow
import Derived.Laws.Cells
import Derived.RangeFuncRecord
import Derived.Below
set_option linter.unusedVariables false
set_option linter.unusedSimpArgs false
namespace Go.Proofs.Ytilhhmkdcoajnaa.Am
open Go Go.Proofs
noncomputable section
theorem Bt:BC Try.prog 3=some 1:=by kernel_rfl
theorem W0:CQ Try.prog 3=some 8:=by kernel_rfl
theorem Dg:Fp Try.prog 3=some false:=by kernel_rfl
theorem RN:CY Try.prog 3=some (.int .i64 (0)):=by kernel_rfl
theorem We:BC Try.prog 4=some 1:=by kernel_rfl
theorem kT:Fp Try.prog 4=some false:=by kernel_rfl
theorem oV:BC Try.prog 5=some 1:=by kernel_rfl
theorem oQ:Fp Try.prog 5=some false:=by kernel_rfl
theorem CL:BC Try.prog 23=some 1:=by kernel_rfl
theorem Wz:CQ Try.prog 23=some 24:=by kernel_rfl
theorem DN:Fp Try.prog 23=some false:=by kernel_rfl
theorem Wd:CY Try.prog 23=some (.slice none 0 (some 0)):=by kernel_rfl
theorem PE:BC Try.prog 27=some 2:=by kernel_rfl
theorem nP:CQ Try.prog 27=some 32:=by kernel_rfl
theorem nK:Fp Try.prog 27=some true:=by kernel_rfl
theorem RM:CY Try.prog 27=some (.agg [(.bool false),(.slice none 0 (some 0))]):=by kernel_rfl
theorem cM:BC Try.prog 33=some 1:=by kernel_rfl
theorem om:Fp Try.prog 33=some false:=by kernel_rfl
theorem pQ:BC Try.prog 69=some 1:=by kernel_rfl
theorem nL:Fp Try.prog 69=some false:=by kernel_rfl
theorem pS:CY Try.prog 69=some (.map none):=by kernel_rfl
def PY:List AA:=[
 ⟨none,.p1 some,[(.const (.int .i64 (0)))],(.set 1),[]⟩,
 ⟨none,.p1 some,[(.const (.int .i64 (0)))],(.set 2),[]⟩]
def PZ:List AA:=[
 ⟨none,.p2 (AL Try.prog .gtr 3),[(.var 0),(.const (.int .i64 (0)))],.push,[]⟩,
 ⟨none,.p1 some,[.loc 0],(.set 3),[]⟩]
def Pa:List AA:=[
 ⟨none,.p1 some,[.var 0],(.set 1),[]⟩,
 ⟨none,.p1 some,[(.const (.int .i64 (1)))],(.set 2),[]⟩]
def Pb:List AA:=[
 ⟨none,.p2 (AL Try.prog .lss 3),[(.var 0),(.const (.int .i64 (0)))],.push,[]⟩,
 ⟨(some ((.loc 0),true)),.p1 some,[.var 0],.push,[]⟩,
 ⟨(some ((.loc 1),true)),.p1 (GZ Try.prog Go.UnOp.neg),[.loc 0],.push,[]⟩,
 ⟨(some ((.loc 2),true)),.p2 (AL Try.prog .gtr 3),[(.loc 0),(.const (.int .i64 (0)))],.push,[]⟩,
 ⟨none,.p Rn,[(.loc 3),(.loc 0),(.const (.bool false))],.push,[]⟩,
 ⟨none,.p1 some,[.loc 0],(.set 4),[]⟩]
def Pc:List AA:=[
 ⟨none,.p1 (GZ Try.prog Go.UnOp.neg),[.var 0],.push,[]⟩,
 ⟨none,.p1 some,[.loc 0],(.set 1),[]⟩,
 ⟨none,.p1 some,[(.const (.int .i64 (-1)))],(.set 2),[]⟩]
def Pd:List AA:=[
 ⟨none,.p1 some,[(.const (.int .i64 (0)))],(.set 1),[]⟩,
 ⟨none,.p1 some,[(.const (.int .i64 (0)))],(.set 2),[]⟩]
def nz:Aw:=⟨1,5,(.seq (.ops PY) (.seq (.block 0 (.seq (.ops PZ) (.cond (.var 3)
 (.seq (.ops Pa) .ret)
 (.seq (.ops Pb) (.cond (.var 4)
 (.seq (.ops Pc) .ret)
 .skip))))) (.seq (.ops Pd) .ret))),[((.var 1),none),((.var 2),none)]⟩
def gh:List AA:=[
 ⟨none,.p1 some,[(.const (.int .i64 (0)))],(.set 2),[]⟩]
def gi:List AA:=[
 ⟨none,.call 48,[.var 1],.push,[]⟩,
 ⟨none,.p1 (fun x=>Rp x 0),[.loc 0],.push,[]⟩,
 ⟨none,.p1 (fun x=>Rp x 1),[.loc 1],.push,[]⟩,
 ⟨none,.p1 some,[.loc 1],(.set 3),[]⟩,
 ⟨none,.p1 some,[.loc 0],(.set 4),[]⟩]
def gj:List AA:=[
 ⟨none,.p2 (AL Try.prog .eql 3),[(.var 4),(.const (.int .i64 (0)))],(.set 5),[]⟩]
def gk:List AA:=[
 ⟨none,.p1 some,[(.const (.int .i64 (-1)))],(.set 2),[]⟩]
def gl:List AA:=[
 ⟨none,.r (fun s=>BV (fun m k=>DF Try.prog s 69 m k false)),[.var 0,.var 3],.push,[]⟩,
 ⟨none,.p2 (AL Try.prog .mul 3),[.loc 0,.var 4],.push,[]⟩,
 ⟨none,.p1 some,[.loc 0],(.set 2),[]⟩]
def pg:Aw:=⟨2,6,(.seq (.ops gh) (.seq (.ops gi) (.seq (.seq (.ops gj) (.cond (.var 5)
 (.seq (.ops gk) .ret)
 .skip)) (.seq (.ops gl) .ret)))),[((.var 2),none)]⟩
def gm:List AA:=[
 ⟨none,.call 48,[.var 1],.push,[]⟩,
 ⟨none,.p1 (fun x=>Rp x 0),[.loc 0],.push,[]⟩,
 ⟨none,.p1 (fun x=>Rp x 1),[.loc 1],.push,[]⟩,
 ⟨none,.p1 some,[.loc 1],(.set 2),[]⟩,
 ⟨none,.p1 some,[.loc 0],(.set 3),[]⟩]
def gn:List AA:=[
 ⟨none,.e (fun s=>oI (fun m k x=>AU (EX Try.prog s 69 m k x))),[.var 0,.var 2,.var 3],.push,[]⟩]
def pi:Aw:=⟨2,4,(.seq (.ops gm) (.ops gn)),[]⟩
def gt:List AA:=[
 ⟨none,.p1 some,[(.const (.int .i64 (0)))],(.set 2),[]⟩,
 ⟨none,.p1 some,[(.const (.int .i64 (0)))],(.set 3),[]⟩]
def gu:List AA:=[
 ⟨none,.p1 some,[.var 1],(.set 6),[]⟩,
 ⟨none,.r (fun s l=>match l with | [x]=>Aq Try.prog s 23 x | _=>none),[.var 6],(.set 7),[]⟩,
 ⟨none,.p1 some,[(.const (.int .i64 (0)))],(.set 8),[]⟩]
def Y1:List AA:=[
 ⟨none,.p2 (AL Try.prog .lss 3),[.var 8,.var 7],(.set 9),[]⟩]
def gv:List AA:=[
 ⟨none,.p2 (AC Try.prog 23),[.var 6,.var 8],.push,[]⟩,
 ⟨none,.r1 (fun s a=>AD Try.prog s 3 a),[.loc 0],.push,[]⟩,
 ⟨none,.p1 some,[.loc 0],(.set 4),[]⟩]
def gw:List AA:=[
 ⟨none,.call 49,[.var 0,.var 4],.push,[]⟩,
 ⟨none,.p1 some,[.loc 0],(.set 5),[]⟩]
def ND:List AA:=[
 ⟨none,.p2 (AL Try.prog .gtr 3),[(.var 5),(.const (.int .i64 (0)))],.push,[]⟩,
 ⟨none,.p1 some,[.loc 0],(.set 10),[]⟩]
def gx:List AA:=[
 ⟨none,.p1 some,[(.const (.int .i64 (0)))],(.set 2),[]⟩,
 ⟨none,.p1 some,[(.const (.int .i64 (2)))],(.set 3),[]⟩]
def Pe:List AA:=[
 ⟨none,.p2 (AL Try.prog .lss 3),[(.var 5),(.const (.int .i64 (0)))],.push,[]⟩,
 ⟨(some ((.loc 0),false)),.p1 some,[.var 3],.push,[]⟩,
 ⟨(some ((.loc 1),false)),.p2 (AL Try.prog .eql 3),[(.loc 0),(.const (.int .i64 (1)))],.push,[]⟩,
 ⟨(some ((.loc 2),false)),.p1 some,[.loc 0],.push,[]⟩,
 ⟨(some ((.loc 0),true)),.p1 some,[.var 4],.push,[]⟩,
 ⟨(some ((.loc 1),true)),.p1 some,[.var 2],.push,[]⟩,
 ⟨(some ((.loc 2),true)),.p2 (AL Try.prog .eql 3),[.loc 1,.loc 0],.push,[]⟩,
 ⟨(some ((.loc 6),false)),.p Rn,[(.loc 3),(.loc 0),(.const (.bool false))],.push,[]⟩,
 ⟨none,.p Rn,[(.loc 7),(.const (.bool true)),(.loc 0)],.push,[]⟩,
 ⟨none,.p1 some,[.loc 0],(.set 11),[]⟩]
def Y2:List AA:=[
 ⟨none,.p1 some,[.var 3],.push,[]⟩,
 ⟨none,.p2 (AL Try.prog .add 3),[(.loc 0),(.const (.int .i64 (1)))],.push,[]⟩,
 ⟨none,.p1 some,[.loc 0],(.set 3),[]⟩]
def Y3:List AA:=[
 ⟨none,.p2 (AL Try.prog .gtr 3),[(.var 3),(.const (.int .i64 (1)))],(.set 12),[]⟩]
def Yy:List AA:=[
 ⟨none,.p1 some,[(.const (.int .i64 (0)))],(.set 2),[]⟩,
 ⟨none,.p1 some,[(.const (.int .i64 (2)))],(.set 3),[]⟩]
def Yz:List AA:=[
 ⟨none,.p1 some,[.var 4],(.set 2),[]⟩]
def LL:List AA:=[
 ⟨none,.p2 (AL Try.prog .add 3),[(.var 8),(.const (.int .i64 (1)))],.push,[]⟩,
 ⟨none,.p1 some,[.loc 0],(.set 8),[]⟩]
def LK:Ac:=(.seq (.ops Y1) (.seq (.cond (.var 9)
 .skip
 (.exit 0)) (.seq (.block 1 (.seq (.ops gv) (.seq (.seq (.ops gw) (.block 2 (.seq (.ops ND) (.cond (.var 10)
 (.seq (.ops gx) .ret)
 (.seq (.ops Pe) (.cond (.var 11)
 (.exit 1)
 .skip)))))) (.seq (.seq (.ops Y2) (.seq (.ops Y3) (.cond (.var 12)
 (.seq (.ops Yy) .ret)
 .skip))) (.ops Yz))))) (.ops LL))))
def Y0:List AA:=[
 ⟨none,.p1 some,[.var 2],.push,[]⟩,
 ⟨none,.p1 some,[.var 3],.push,[]⟩,
 ⟨none,.p1 some,[.loc 1],(.set 2),[]⟩,
 ⟨none,.p1 some,[.loc 0],(.set 3),[]⟩]
def pk:Aw:=⟨2,13,(.seq (.ops gt) (.seq (.seq (.ops gu) (.block 0 (.loop LK))) (.seq (.ops Y0) .ret))),[((.var 2),none),((.var 3),none)]⟩
def gp:List AA:=[
 ⟨none,.p1 some,[(.const (.bool false))],(.set 2),[]⟩,
 ⟨none,.p1 some,[(.const (.bool false))],(.set 3),[]⟩]
def gq:List AA:=[
 ⟨none,.r1 (fun s a=>AD Try.prog s 69 a),[.var 1],.push,[]⟩,
 ⟨none,.call 52,[.loc 0,.var 0],.push,[]⟩,
 ⟨none,.p1 (fun x=>Rp x 0),[.loc 0],.push,[]⟩,
 ⟨none,.p1 (fun x=>Rp x 1),[.loc 1],.push,[]⟩,
 ⟨none,.p1 some,[.loc 1],(.set 4),[]⟩,
 ⟨none,.p1 some,[.loc 0],(.set 5),[]⟩]
def Yw:List AA:=[
 ⟨none,.p2 (AL Try.prog .eql 3),[(.var 5),(.const (.int .i64 (1)))],(.set 6),[]⟩]
def gr:List AA:=[
 ⟨none,.r1 (fun s a=>AD Try.prog s 69 a),[.var 1],.push,[]⟩,
 ⟨none,.call 50,[.loc 0,.var 4],.push,[]⟩]
def Yx:List AA:=[
 ⟨none,.p2 (AL Try.prog .eql 3),[(.var 5),(.const (.int .i64 (1)))],.push,[]⟩,
 ⟨none,.p2 (AL Try.prog .eql 3),[(.var 5),(.const (.int .i64 (0)))],.push,[]⟩,
 ⟨none,.p1 some,[.loc 1],(.set 2),[]⟩,
 ⟨none,.p1 some,[.loc 0],(.set 3),[]⟩]
def pj:Aw:=⟨2,7,(.seq (.ops gp) (.seq (.ops gq) (.seq (.seq (.ops Yw) (.cond (.var 6)
 (.ops gr)
 .skip)) (.seq (.ops Yx) .ret)))),[((.var 2),none),((.var 3),none)]⟩
def fY:List AA:=[
 ⟨none,.p1 some,[(.const (.bool false))],(.set 2),[]⟩]
def fZ:List AA:=[
 ⟨none,.mk (fun l=>match l with | []=>some (.map [] 0,.map) | _=>none),[],.push,[]⟩,
 ⟨none,.mk (fun l=>match l with | []=>Bi Try.prog 69 | _=>none),[],(.set 3),[]⟩,
 ⟨none,.e (fun s=>BV (fun a x=>AU (AM Try.prog s 69 a x))),[.var 3,.loc 0],.push,[]⟩]
def fa:List AA:=[
 ⟨none,.p1 some,[.var 1],(.set 11),[]⟩,
 ⟨none,.r (fun s l=>match l with | [x]=>Aq Try.prog s 23 x | _=>none),[.var 11],(.set 12),[]⟩,
 ⟨none,.p1 some,[(.const (.int .i64 (0)))],(.set 13),[]⟩]
def YI:List AA:=[
 ⟨none,.p2 (AL Try.prog .lss 3),[.var 13,.var 12],(.set 14),[]⟩]
def fb:List AA:=[
 ⟨none,.p2 (AC Try.prog 23),[.var 11,.var 13],.push,[]⟩,
 ⟨none,.r1 (fun s a=>AD Try.prog s 3 a),[.loc 0],.push,[]⟩,
 ⟨none,.p1 some,[.loc 0],(.set 4),[]⟩]
def fc:List AA:=[
 ⟨none,.call 48,[.var 4],.push,[]⟩,
 ⟨none,.p1 (fun x=>Rp x 0),[.loc 0],.push,[]⟩,
 ⟨none,.p1 (fun x=>Rp x 1),[.loc 1],.push,[]⟩,
 ⟨none,.p1 some,[.loc 1],.push,[]⟩,
 ⟨none,.p1 some,[.loc 1],(.set 5),[]⟩]
def YJ:List AA:=[
 ⟨none,.p2 (AL Try.prog .eql 3),[(.var 5),(.const (.int .i64 (0)))],(.set 15),[]⟩]
def fe:List AA:=[
 ⟨none,.r1 (fun s a=>AD Try.prog s 69 a),[.var 3],.push,[]⟩,
 ⟨none,.call 49,[.loc 0,.var 4],.push,[]⟩,
 ⟨none,.p2 (AL Try.prog .gtr 3),[(.loc 0),(.const (.int .i64 (0)))],(.set 16),[]⟩]
def ff:List AA:=[
 ⟨none,.p1 some,[(.const (.bool true))],(.set 2),[]⟩]
def fg:List AA:=[
 ⟨none,.r1 (fun s a=>AD Try.prog s 69 a),[.var 3],.push,[]⟩,
 ⟨none,.p1 (GZ Try.prog Go.UnOp.neg),[.var 4],.push,[]⟩,
 ⟨none,.call 50,[.loc 1,.loc 0],.push,[]⟩]
def SE:List AA:=[
 ⟨none,.p2 (AL Try.prog .add 3),[(.var 13),(.const (.int .i64 (1)))],.push,[]⟩,
 ⟨none,.p1 some,[.loc 0],(.set 13),[]⟩]
def OJ:Ac:=(.seq (.ops YI) (.seq (.cond (.var 14)
 .skip
 (.exit 0)) (.seq (.block 1 (.seq (.ops fb) (.seq (.seq (.ops fc) (.seq (.ops YJ) (.cond (.var 15)
 (.exit 1)
 .skip))) (.seq (.seq (.ops fe) (.cond (.var 16)
 (.seq (.ops ff) .ret)
 .skip)) (.ops fg))))) (.ops SE))))
def X8:List AA:=[
 ⟨none,.p (fun l=>some (.func 51 (l.take 0) (l.drop 0))),[.var 3],.push,[]⟩,
 ⟨none,.p1 some,[.loc 0],(.set 6),[]⟩]
def X9:List AA:=[
 ⟨none,.p1 some,[(.const (.bool true))],(.set 7),[]⟩]
def YA:List AA:=[
 ⟨none,.p1 some,[.var 7],(.set 17),[]⟩]
def YB:List AA:=[
 ⟨none,.p1 some,[(.const (.bool false))],(.set 7),[]⟩]
def YC:List AA:=[
 ⟨none,.p1 some,[.var 0],(.set 18),[]⟩,
 ⟨none,.r (fun s l=>match l with | [x]=>Aq Try.prog s 22 x | _=>none),[.var 18],(.set 19),[]⟩,
 ⟨none,.p1 some,[(.const (.int .i64 (0)))],(.set 20),[]⟩]
def SF:List AA:=[
 ⟨none,.p2 (AL Try.prog .lss 3),[.var 20,.var 19],(.set 21),[]⟩]
def YD:List AA:=[
 ⟨none,.p2 (AC Try.prog 22),[.var 18,.var 20],.push,[]⟩,
 ⟨none,.r1 (fun s a=>AD Try.prog s 23 a),[.loc 0],.push,[]⟩,
 ⟨none,.p1 some,[.loc 0],(.set 8),[]⟩]
def YE:List AA:=[
 ⟨none,.callv,[.var 6,.var 8],.push,[]⟩,
 ⟨none,.p1 (fun x=>Rp x 0),[.loc 0],.push,[]⟩,
 ⟨none,.p1 (fun x=>Rp x 1),[.loc 1],.push,[]⟩,
 ⟨none,.p1 some,[.loc 1],(.set 9),[]⟩,
 ⟨none,.p1 some,[.loc 0],(.set 10),[]⟩]
def OL:List AA:=[
 ⟨none,.p1 some,[.var 10],(.set 22),[]⟩]
def YF:List AA:=[
 ⟨none,.p1 some,[(.const (.bool true))],(.set 2),[]⟩]
def SG:List AA:=[
 ⟨none,.p1 (GZ Try.prog Go.UnOp.not),[.var 9],(.set 23),[]⟩]
def YG:List AA:=[
 ⟨none,.p1 some,[(.const (.bool true))],(.set 7),[]⟩]
def SH:List AA:=[
 ⟨none,.p2 (AL Try.prog .add 3),[(.var 20),(.const (.int .i64 (1)))],.push,[]⟩,
 ⟨none,.p1 some,[.loc 0],(.set 20),[]⟩]
def OK:Ac:=(.seq (.ops SF) (.seq (.cond (.var 21)
 .skip
 (.exit 4)) (.seq (.block 5 (.seq (.ops YD) (.seq (.ops YE) (.seq (.seq (.ops OL) (.cond (.var 22)
 (.seq (.ops YF) .ret)
 .skip)) (.seq (.seq (.ops SG) (.cond (.var 23)
 (.exit 5)
 .skip)) (.ops YG)))))) (.ops SH))))
def SD:Ac:=(.seq (.seq (.ops YA) (.cond (.var 17)
 .skip
 (.exit 2))) (.block 3 (.seq (.ops YB) (.seq .skip (.seq (.ops YC) (.block 4 (.loop OK)))))))
def YH:List AA:=[
 ⟨none,.p1 some,[(.const (.bool false))],(.set 2),[]⟩]
def pV:Aw:=⟨2,24,(.seq (.ops fY) (.seq (.ops fZ) (.seq (.seq (.ops fa) (.block 0 (.loop OJ))) (.seq (.ops X8) (.seq (.seq (.ops X9) (.block 2 (.loop SD))) (.seq (.ops YH) .ret)))))),[((.var 2),none)]⟩
def UV:List AA:=[
 ⟨none,.p1 some,[(.const (.slice none 0 (some 0)))],(.set 1),[]⟩]
def UW:List AA:=[
 ⟨none,.p2 (AL Try.prog .eql 23),[(.var 0),(.const (.slice none 0 (some 0)))],(.set 2),[]⟩]
def gy:List AA:=[
 ⟨none,.p1 some,[(.const (.slice none 0 (some 0)))],(.set 1),[]⟩]
def Y4:List AA:=[
 ⟨none,.mk (fun l=>(Ae Try.prog 23 0 (zipIdx [] l)).bind fun r=>some (r,.slice 0)),[],.push,[]⟩,
 ⟨none,.e (fun s l=>Af Try.prog s [23,23] l),[.loc 0,.var 0],.push,[]⟩,
 ⟨none,.p1 some,[.loc 0],(.set 1),[]⟩]
def oT:Aw:=⟨1,3,(.seq (.ops UV) (.seq (.seq (.ops UW) (.cond (.var 2)
 (.seq (.ops gy) .ret)
 .skip)) (.seq (.ops Y4) .ret))),[((.var 1),none)]⟩
def jm:List AA:=[
 ⟨none,.p1 some,[(.const (.int .i64 (0)))],(.set 2),[]⟩]
def jn:List AA:=[
 ⟨none,.r (fun s l=>match l with | [x]=>Aq Try.prog s 23 x | _=>none),[.var 0],(.set 4),[]⟩,
 ⟨none,.p1 some,[(.const (.int .i64 (0)))],(.set 5),[]⟩]
def aA:List AA:=[
 ⟨none,.p2 (AL Try.prog .lss 3),[.var 5,.var 4],(.set 6),[]⟩]
def jo:List AA:=[
 ⟨none,.p1 some,[.var 5],(.set 3),[]⟩]
def jp:List AA:=[
 ⟨none,.p2 (AC Try.prog 23),[.var 0,.var 3],.push,[]⟩,
 ⟨none,.r1 (fun s a=>AD Try.prog s 3 a),[.loc 0],.push,[]⟩,
 ⟨none,.callv,[.var 1,.loc 0],(.set 7),[]⟩]
def jq:List AA:=[
 ⟨none,.p1 some,[.var 3],(.set 2),[]⟩]
def jr:List AA:=[
 ⟨none,.p2 (AL Try.prog .add 3),[(.var 5),(.const (.int .i64 (1)))],.push,[]⟩,
 ⟨none,.p1 some,[.loc 0],(.set 5),[]⟩]
def Ph:Ac:=(.seq (.ops aA) (.seq (.cond (.var 6)
 .skip
 (.exit 0)) (.seq (.block 1 (.seq (.ops jo) (.seq (.ops jp) (.cond (.var 7)
 (.seq (.ops jq) .ret)
 .skip)))) (.ops jr))))
def js:List AA:=[
 ⟨none,.p1 some,[(.const (.int .i64 (-1)))],(.set 2),[]⟩]
def qC:Aw:=⟨2,8,(.seq (.ops jm) (.seq (.seq (.ops jn) (.block 0 (.loop Ph))) (.seq (.ops js) .ret))),[((.var 2),none)]⟩
def jW:List AA:=[
 ⟨none,.r (fun s l=>match l with | [x]=>Aq Try.prog s 23 x | _=>none),[.var 0],.push,[]⟩,
 ⟨none,.p1 some,[.loc 0],(.set 1),[]⟩]
def jX:List AA:=[
 ⟨none,.r1 (fun s x=>CN Try.prog s 3 133 x),[.var 1],.push,[]⟩,
 ⟨none,.call 109,[.loc 0],.push,[]⟩,
 ⟨none,.call 108,[(.var 0),(.const (.int .i64 (0))),(.var 1),(.loc 0)],.push,[]⟩]
def p9:Aw:=⟨1,2,(.seq (.ops jW) (.ops jX)),[]⟩
def Zv:List AA:=[
 ⟨none,.p1 some,[(.const (.slice none 0 (some 0)))],(.set 1),[]⟩]
def Zw:List AA:=[
 ⟨none,.r (fun s l=>match l with | [x]=>Aq Try.prog s 23 x | _=>none),[.var 0],.push,[]⟩,
 ⟨none,.p2 (AL Try.prog .lss 3),[(.loc 0),(.const (.int .i64 (2)))],(.set 5),[]⟩]
def jY:List AA:=[
 ⟨none,.p1 some,[.var 0],(.set 1),[]⟩]
def jZ:List AA:=[
 ⟨none,.p1 some,[(.const (.int .i64 (1)))],(.set 2),[]⟩]
def Uc:List AA:=[
 ⟨none,.r (fun s l=>match l with | [x]=>Aq Try.prog s 23 x | _=>none),[.var 0],.push,[]⟩,
 ⟨none,.p2 (AL Try.prog .lss 3),[.var 2,.loc 0],(.set 6),[]⟩]
def Z0:List AA:=[
 ⟨none,.p2 (AC Try.prog 23),[.var 0,.var 2],.push,[]⟩,
 ⟨none,.r1 (fun s a=>AD Try.prog s 3 a),[.loc 0],.push,[]⟩,
 ⟨none,.p2 (AL Try.prog .sub 3),[(.var 2),(.const (.int .i64 (1)))],.push,[]⟩,
 ⟨none,.p2 (AC Try.prog 23),[.var 0,.loc 0],.push,[]⟩,
 ⟨none,.r1 (fun s a=>AD Try.prog s 3 a),[.loc 0],.push,[]⟩,
 ⟨none,.p2 (AL Try.prog .eql 3),[.loc 3,.loc 0],(.set 7),[]⟩]
def ja:List AA:=[
 ⟨none,.r (Ad Try.prog 23 true false false),[.var 0,.var 2],.push,[]⟩,
 ⟨none,.p1 some,[.loc 0],(.set 3),[]⟩]
def jb:List AA:=[
 ⟨none,.p1 some,[(.const (.int .i64 (1)))],(.set 4),[]⟩]
def Ud:List AA:=[
 ⟨none,.r (fun s l=>match l with | [x]=>Aq Try.prog s 23 x | _=>none),[.var 3],.push,[]⟩,
 ⟨none,.p2 (AL Try.prog .lss 3),[.var 4,.loc 0],(.set 8),[]⟩]
def Z1:List AA:=[
 ⟨none,.p2 (AC Try.prog 23),[.var 3,.var 4],.push,[]⟩,
 ⟨none,.r1 (fun s a=>AD Try.prog s 3 a),[.loc 0],.push,[]⟩,
 ⟨none,.p2 (AL Try.prog .sub 3),[(.var 4),(.const (.int .i64 (1)))],.push,[]⟩,
 ⟨none,.p2 (AC Try.prog 23),[.var 3,.loc 0],.push,[]⟩,
 ⟨none,.r1 (fun s a=>AD Try.prog s 3 a),[.loc 0],.push,[]⟩,
 ⟨none,.p2 (AL Try.prog .neq 3),[.loc 3,.loc 0],(.set 9),[]⟩]
def Zx:List AA:=[
 ⟨none,.p2 (AC Try.prog 23),[.var 3,.var 4],.push,[]⟩,
 ⟨none,.r1 (fun s a=>AD Try.prog s 3 a),[.loc 0],.push,[]⟩,
 ⟨none,.p2 (AC Try.prog 23),[.var 0,.var 2],.push,[]⟩,
 ⟨none,.e (fun s=>BV (fun a x=>AU (AM Try.prog s 3 a x))),[.loc 0,.loc 1],.push,[]⟩]
def Zy:List AA:=[
 ⟨none,.p1 some,[.var 2],.push,[]⟩,
 ⟨none,.p2 (AL Try.prog .add 3),[(.loc 0),(.const (.int .i64 (1)))],.push,[]⟩,
 ⟨none,.p1 some,[.loc 0],(.set 2),[]⟩]
def TB:List AA:=[
 ⟨none,.p1 some,[.var 4],.push,[]⟩,
 ⟨none,.p2 (AL Try.prog .add 3),[(.loc 0),(.const (.int .i64 (1)))],.push,[]⟩,
 ⟨none,.p1 some,[.loc 0],(.set 4),[]⟩]
def JU:Ac:=(.seq (.seq (.ops Ud) (.cond (.var 8)
 .skip
 (.exit 2))) (.seq (.block 3 (.seq (.ops Z1) (.cond (.var 9)
 (.seq (.ops Zx) (.ops Zy))
 .skip))) (.ops TB)))
def TC:List AA:=[
 ⟨none,.r (Ad Try.prog 23 true false false),[.var 0,.var 2],.push,[]⟩,
 ⟨none,.e (fun s l=>Dj Try.prog s [23] l),[.loc 0],.push,[]⟩]
def TD:List AA:=[
 ⟨none,.r (Ad Try.prog 23 false true false),[.var 0,.var 2],.push,[]⟩,
 ⟨none,.p1 some,[.loc 0],(.set 1),[]⟩]
def OU:List AA:=[
 ⟨none,.p1 some,[.var 2],.push,[]⟩,
 ⟨none,.p2 (AL Try.prog .add 3),[(.loc 0),(.const (.int .i64 (1)))],.push,[]⟩,
 ⟨none,.p1 some,[.loc 0],(.set 2),[]⟩]
def JV:Ac:=(.seq (.seq (.ops Uc) (.cond (.var 6)
 .skip
 (.exit 0))) (.seq (.block 1 (.seq (.ops Z0) (.cond (.var 7)
 (.seq (.ops ja) (.seq (.seq (.ops jb) (.block 2 (.loop JU))) (.seq (.ops TC) (.seq (.ops TD) .ret))))
 .skip))) (.ops OU)))
def Zz:List AA:=[
 ⟨none,.p1 some,[.var 0],(.set 1),[]⟩]
def pG:Aw:=⟨1,10,(.seq (.ops Zv) (.seq (.seq (.ops Zw) (.cond (.var 5)
 (.seq (.ops jY) .ret)
 .skip)) (.seq (.seq (.ops jZ) (.block 0 (.loop JV))) (.seq (.ops Zz) .ret)))),[((.var 1),none)]⟩
def XE:List AA:=[
 ⟨none,.p1 some,[(.const (.bool true))],(.set 4),[]⟩]
def XF:List AA:=[
 ⟨none,.p1 some,[(.const (.bool true))],(.set 5),[]⟩]
def XG:List AA:=[
 ⟨none,.p2 (AL Try.prog .sub 3),[.var 2,.var 1],.push,[]⟩,
 ⟨none,.p1 some,[.loc 0],(.set 6),[]⟩]
def XH:List AA:=[
 ⟨none,.p2 (AL Try.prog .leq 3),[(.var 6),(.const (.int .i64 (12)))],(.set 15),[]⟩]
def XI:List AA:=[
 ⟨none,.call 117,[.var 0,.var 1,.var 2],.push,[]⟩]
def kf:List AA:=[
 ⟨none,.p2 (AL Try.prog .eql 3),[(.var 3),(.const (.int .i64 (0)))],(.set 16),[]⟩]
def kg:List AA:=[
 ⟨none,.call 118,[.var 0,.var 1,.var 2],.push,[]⟩]
def kh:List AA:=[
 ⟨none,.p1 (GZ Try.prog Go.UnOp.not),[.var 4],(.set 17),[]⟩]
def ki:List AA:=[
 ⟨none,.call 119,[.var 0,.var 1,.var 2],.push,[]⟩]
def kj:List AA:=[
 ⟨none,.p1 some,[.var 3],.push,[]⟩,
 ⟨none,.p2 (AL Try.prog .sub 3),[(.loc 0),(.const (.int .i64 (1)))],.push,[]⟩,
 ⟨none,.p1 some,[.loc 0],(.set 3),[]⟩]
def dJ:List AA:=[
 ⟨none,.call 120,[.var 0,.var 1,.var 2],.push,[]⟩,
 ⟨none,.p1 (fun x=>Rp x 0),[.loc 0],.push,[]⟩,
 ⟨none,.p1 (fun x=>Rp x 1),[.loc 1],.push,[]⟩,
 ⟨none,.p1 some,[.loc 1],(.set 7),[]⟩,
 ⟨none,.p1 some,[.loc 0],(.set 8),[]⟩]
def dK:List AA:=[
 ⟨none,.p2 (AL Try.prog .eql 138),[(.var 8),(.const (.int .i64 (2)))],(.set 18),[]⟩]
def dL:List AA:=[
 ⟨none,.call 121,[.var 0,.var 1,.var 2],.push,[]⟩]
def dM:List AA:=[
 ⟨none,.p2 (AL Try.prog .sub 3),[(.var 2),(.const (.int .i64 (1)))],.push,[]⟩,
 ⟨none,.p1 some,[.var 7],.push,[]⟩,
 ⟨none,.p2 (AL Try.prog .sub 3),[.loc 0,.var 1],.push,[]⟩,
 ⟨none,.p2 (AL Try.prog .sub 3),[.loc 2,.loc 0],.push,[]⟩,
 ⟨none,.p1 some,[.loc 0],(.set 7),[]⟩]
def dN:List AA:=[
 ⟨none,.p1 some,[(.const (.int .i64 (1)))],(.set 8),[]⟩]
def dO:List AA:=[
 ⟨(some ((.var 4),true)),.p1 some,[.var 5],.push,[]⟩,
 ⟨none,.p Rn,[(.var 4),(.loc 0),(.const (.bool false))],.push,[]⟩,
 ⟨(some ((.loc 0),true)),.p1 some,[.var 8],.push,[]⟩,
 ⟨(some ((.loc 1),true)),.p2 (AL Try.prog .eql 138),[(.loc 0),(.const (.int .i64 (1)))],.push,[]⟩,
 ⟨none,.p Rn,[(.loc 2),(.loc 0),(.const (.bool false))],(.set 19),[]⟩]
def dP:List AA:=[
 ⟨none,.call 122,[.var 0,.var 1,.var 2],(.set 20),[]⟩]
def dQ:List AA:=[
 ⟨none,.p2 (AL Try.prog .gtr 3),[(.var 1),(.const (.int .i64 (0)))],.push,[]⟩,
 ⟨(some ((.loc 0),true)),.p1 some,[.var 0],.push,[]⟩,
 ⟨(some ((.loc 1),true)),.p1 some,[.var 1],.push,[]⟩,
 ⟨(some ((.loc 2),true)),.p2 (AL Try.prog .sub 3),[(.loc 0),(.const (.int .i64 (1)))],.push,[]⟩,
 ⟨(some ((.loc 3),true)),.p2 (AC Try.prog 23),[.loc 2,.loc 0],.push,[]⟩,
 ⟨(some ((.loc 4),true)),.r1 (fun s a=>AD Try.prog s 3 a),[.loc 0],.push,[]⟩,
 ⟨(some ((.loc 5),true)),.p1 some,[.var 0],.push,[]⟩,
 ⟨(some ((.loc 6),true)),.p1 some,[.var 7],.push,[]⟩,
 ⟨(some ((.loc 7),true)),.p2 (AC Try.prog 23),[.loc 1,.loc 0],.push,[]⟩,
 ⟨(some ((.loc 8),true)),.r1 (fun s a=>AD Try.prog s 3 a),[.loc 0],.push,[]⟩,
 ⟨(some ((.loc 9),true)),.call 123,[.loc 4,.loc 0],.push,[]⟩,
 ⟨(some ((.loc 10),true)),.p1 (GZ Try.prog Go.UnOp.not),[.loc 0],.push,[]⟩,
 ⟨none,.p Rn,[(.loc 11),(.loc 0),(.const (.bool false))],(.set 21),[]⟩]
def dR:List AA:=[
 ⟨none,.call 124,[.var 0,.var 1,.var 2,.var 7],.push,[]⟩,
 ⟨none,.p1 some,[.loc 0],(.set 9),[]⟩]
def dS:List AA:=[
 ⟨none,.p1 some,[.var 9],(.set 1),[]⟩]
def dT:List AA:=[
 ⟨none,.call 125,[.var 0,.var 1,.var 2,.var 7],.push,[]⟩,
 ⟨none,.p1 (fun x=>Rp x 0),[.loc 0],.push,[]⟩,
 ⟨none,.p1 (fun x=>Rp x 1),[.loc 1],.push,[]⟩,
 ⟨none,.p1 some,[.loc 1],(.set 10),[]⟩,
 ⟨none,.p1 some,[.loc 0],(.set 11),[]⟩]
def dU:List AA:=[
 ⟨none,.p1 some,[.var 11],(.set 5),[]⟩]
def dV:List AA:=[
 ⟨none,.p2 (AL Try.prog .sub 3),[.var 10,.var 1],.push,[]⟩,
 ⟨none,.p2 (AL Try.prog .sub 3),[.var 2,.var 10],.push,[]⟩,
 ⟨none,.p1 some,[.loc 1],(.set 12),[]⟩,
 ⟨none,.p1 some,[.loc 0],(.set 13),[]⟩]
def dW:List AA:=[
 ⟨none,.p2 (AL Try.prog .quo 3),[(.var 6),(.const (.int .i64 (8)))],.push,[]⟩,
 ⟨none,.p1 some,[.loc 0],(.set 14),[]⟩]
def dX:List AA:=[
 ⟨none,.p2 (AL Try.prog .lss 3),[.var 12,.var 13],(.set 22),[]⟩]
def dY:List AA:=[
 ⟨none,.p2 (AL Try.prog .geq 3),[.var 12,.var 14],.push,[]⟩,
 ⟨none,.p1 some,[.loc 0],(.set 4),[]⟩]
def dZ:List AA:=[
 ⟨none,.call 108,[.var 0,.var 1,.var 10,.var 3],.push,[]⟩]
def da:List AA:=[
 ⟨none,.p2 (AL Try.prog .add 3),[(.var 10),(.const (.int .i64 (1)))],.push,[]⟩,
 ⟨none,.p1 some,[.loc 0],(.set 1),[]⟩]
def db:List AA:=[
 ⟨none,.p2 (AL Try.prog .geq 3),[.var 13,.var 14],.push,[]⟩,
 ⟨none,.p1 some,[.loc 0],(.set 4),[]⟩]
def dc:List AA:=[
 ⟨none,.p2 (AL Try.prog .add 3),[(.var 10),(.const (.int .i64 (1)))],.push,[]⟩,
 ⟨none,.call 108,[.var 0,.loc 0,.var 2,.var 3],.push,[]⟩]
def de:List AA:=[
 ⟨none,.p1 some,[.var 10],(.set 2),[]⟩]
def OE:Ac:=(.block 1 (.seq (.ops XG) (.seq (.seq (.ops XH) (.cond (.var 15)
 (.seq (.ops XI) .ret)
 .skip)) (.seq (.seq (.ops kf) (.cond (.var 16)
 (.seq (.ops kg) .ret)
 .skip)) (.seq (.seq (.ops kh) (.cond (.var 17)
 (.seq (.ops ki) (.ops kj))
 .skip)) (.seq (.ops dJ) (.seq (.seq (.ops dK) (.cond (.var 18)
 (.seq (.ops dL) (.seq (.ops dM) (.ops dN)))
 .skip)) (.seq (.seq (.ops dO) (.cond (.var 19)
 (.seq (.ops dP) (.cond (.var 20)
 .ret
 .skip))
 .skip)) (.seq (.seq (.ops dQ) (.cond (.var 21)
 (.seq (.ops dR) (.seq (.ops dS) (.exit 1)))
 .skip)) (.seq (.ops dT) (.seq (.ops dU) (.seq (.ops dV) (.seq (.ops dW) (.seq (.ops dX) (.cond (.var 22)
 (.seq (.ops dY) (.seq (.ops dZ) (.ops da)))
 (.seq (.ops db) (.seq (.ops dc) (.ops de))))))))))))))))))
def nT:Aw:=⟨4,23,(.seq (.ops XE) (.seq (.ops XF) (.block 0 (.loop OE)))),[]⟩
def SA:List AA:=[
 ⟨none,.p2 (AL Try.prog .add 3),[(.var 1),(.const (.int .i64 (1)))],.push,[]⟩,
 ⟨none,.p1 some,[.loc 0],(.set 3),[]⟩]
def K9:List AA:=[
 ⟨none,.p2 (AL Try.prog .lss 3),[.var 3,.var 2],(.set 5),[]⟩]
def Xk:List AA:=[
 ⟨none,.p1 some,[.var 3],(.set 4),[]⟩]
def SB:List AA:=[
 ⟨none,.p2 (AL Try.prog .gtr 3),[.var 4,.var 1],.push,[]⟩,
 ⟨(some ((.loc 0),true)),.p1 some,[.var 0],.push,[]⟩,
 ⟨(some ((.loc 1),true)),.p1 some,[.var 4],.push,[]⟩,
 ⟨(some ((.loc 2),true)),.p2 (AC Try.prog 23),[.loc 1,.loc 0],.push,[]⟩,
 ⟨(some ((.loc 3),true)),.r1 (fun s a=>AD Try.prog s 3 a),[.loc 0],.push,[]⟩,
 ⟨(some ((.loc 4),true)),.p1 some,[.var 0],.push,[]⟩,
 ⟨(some ((.loc 5),true)),.p1 some,[.var 4],.push,[]⟩,
 ⟨(some ((.loc 6),true)),.p2 (AL Try.prog .sub 3),[(.loc 0),(.const (.int .i64 (1)))],.push,[]⟩,
 ⟨(some ((.loc 7),true)),.p2 (AC Try.prog 23),[.loc 2,.loc 0],.push,[]⟩,
 ⟨(some ((.loc 8),true)),.r1 (fun s a=>AD Try.prog s 3 a),[.loc 0],.push,[]⟩,
 ⟨(some ((.loc 9),true)),.call 123,[.loc 5,.loc 0],.push,[]⟩,
 ⟨none,.p Rn,[(.loc 10),(.loc 0),(.const (.bool false))],(.set 6),[]⟩]
def Xl:List AA:=[
 ⟨none,.p2 (AL Try.prog .sub 3),[(.var 4),(.const (.int .i64 (1)))],.push,[]⟩,
 ⟨none,.p2 (AL Try.prog .sub 3),[(.var 4),(.const (.int .i64 (1)))],.push,[]⟩,
 ⟨none,.p2 (AC Try.prog 23),[.var 0,.loc 0],.push,[]⟩,
 ⟨none,.r1 (fun s a=>AD Try.prog s 3 a),[.loc 0],.push,[]⟩,
 ⟨none,.p2 (AC Try.prog 23),[.var 0,.var 4],.push,[]⟩,
 ⟨none,.r1 (fun s a=>AD Try.prog s 3 a),[.loc 0],.push,[]⟩,
 ⟨none,.p2 (AC Try.prog 23),[.var 0,.var 4],.push,[]⟩,
 ⟨none,.e (fun s=>BV (fun a x=>AU (AM Try.prog s 3 a x))),[.loc 0,.loc 3],.push,[]⟩,
 ⟨none,.p2 (AC Try.prog 23),[.var 0,.loc 7],.push,[]⟩,
 ⟨none,.e (fun s=>BV (fun a x=>AU (AM Try.prog s 3 a x))),[.loc 0,.loc 3],.push,[]⟩]
def Xm:List AA:=[
 ⟨none,.p1 some,[.var 4],.push,[]⟩,
 ⟨none,.p2 (AL Try.prog .sub 3),[(.loc 0),(.const (.int .i64 (1)))],.push,[]⟩,
 ⟨none,.p1 some,[.loc 0],(.set 4),[]⟩]
def K8:Ac:=(.seq (.seq (.ops SB) (.cond (.var 6)
 .skip
 (.exit 2))) (.seq (.block 3 (.ops Xl)) (.ops Xm)))
def Xn:List AA:=[
 ⟨none,.p1 some,[.var 3],.push,[]⟩,
 ⟨none,.p2 (AL Try.prog .add 3),[(.loc 0),(.const (.int .i64 (1)))],.push,[]⟩,
 ⟨none,.p1 some,[.loc 0],(.set 3),[]⟩]
def Hv:Ac:=(.seq (.seq (.ops K9) (.cond (.var 5)
 .skip
 (.exit 0))) (.seq (.block 1 (.seq (.ops Xk) (.block 2 (.loop K8)))) (.ops Xn)))
def kn:Aw:=⟨3,7,(.seq (.ops SA) (.block 0 (.loop Hv))),[]⟩
theorem lT:AS Try.prog 48=some nz:=by kernel_rfl
theorem lU:AS Try.prog 49=some pg:=by kernel_rfl
theorem lV:AS Try.prog 50=some pi:=by kernel_rfl
theorem lX:AS Try.prog 52=some pk:=by kernel_rfl
theorem lW:AS Try.prog 51=some pj:=by kernel_rfl
theorem lH:AS Try.prog 17=some pV:=by kernel_rfl
theorem lY:AS Try.prog 60=some oT:=by kernel_rfl
theorem mH:AS Try.prog 94=some qC:=by kernel_rfl
theorem mB:AS Try.prog 87=some p9:=by kernel_rfl
theorem mC:AS Try.prog 88=some pG:=by kernel_rfl
theorem dp:AS Try.prog 108=some nT:=by kernel_rfl
theorem d6:AS Try.prog 117=some kn:=by kernel_rfl
structure Good(E:BN):Prop where
 P:E.P=Try.prog
 nat:∀ (f:FuncId) (xs:List AV) (s:AF),f≠21→E.nat f xs s=none
theorem Good.go{E:BN}(hE:Good E){f:FuncId}{xs:List AV}{cf:Aw}{K:AV→AF→Prop}{s:AF}(hf:AS Try.prog f=some cf)(hne:f≠21)(ha:xs.length=cf.na)(h:Qa E none cf.body (Ends Try.prog cf.results K) (Ql xs cf.nv) [] s):WF E f xs K s:=
 WF.body' (hE.nat f xs s hne) (by rw[hE.P];exact hf) ha (by rw[hE.P];exact h)
def Ch(x:Int):Int×Int:=if 0<x then (x,1)else if x<0∧x≠-9223372036854775808 then (-x,-1)else (0,0)
theorem PA      {E : BN}  (hE : Good E) (x : Int) (s : AF)  (hx : i64 x) : WF E 48 [iv x] (fun v s' => v = .tuple [iv (Ch    x).1, iv (Ch    x).2] ∧ s = s') s := by
  obtain⟨hx1,hx2⟩:=hx
  refine hE.go lT (by decide) rfl ?_
  unfold Ch
  by_cases h1:0<x
  · simp[nz,PY,PZ,Pa,Pb,Pc,Pd,h1,Qa,Qb,Qc,Qd,Qf,Qg,Qh,Qi,Qj,Qk,Ql,Qm,Qn,true_and,and_true,Qo,Qp,Qq,Qr,Qs,Qu,Qw,Qx,Qz,Ra,Rc,Re,Rf,Rg,Rj,Yc,Rn,Ro,Rs]
  · by_cases h2 : x < 0
    · by_cases h3 : x = -9223372036854775808
      · subst h3
        simp[nz,PY,PZ,Pa,Pb,Pc,Pd,PG,Qa,Qb,Qc,Qd,Qf,Qg,Qh,Qi,Qj,Qk,Ql,Qm,Qn,true_and,and_true,Qo,Qp,Qq,Qr,Qs,Qv,Qw,Qx,Qz,Ra,Rc,Re,Rf,Rg,Rj,Rl,Yc,Rn,Ro,Rq,Rs]
      · have h4:0 < -x:=by omega
        simp[nz,PY,PZ,Pa,Pb,Pc,Pd,h1,h2,h3,D8 _ x ⟨by omega,by omega⟩,Qa,Qb,Qc,Qd,Qf,Qg,Qh,Qi,Qj,Qk,Ql,Qm,Qn,true_and,and_true,Qo,Qp,Qq,Qr,Qs,Qu,Qv,Qw,Qx,Qz,Ra,Rc,Re,Rf,Rg,Rj,Rl,Yc,Rn,Ro,Rq,Rs]
    · have:x=0:=by omega
      subst this
      simp[nz,PY,PZ,Pa,Pb,Pc,Pd,Qa,Qb,Qc,Qd,Qf,Qg,Qh,Qi,Qj,Qk,Ql,Qm,Qn,true_and,and_true,Qo,Qp,Qq,Qr,Qs,Qt,Qv,Qw,Qx,Qz,Ra,Rc,Re,Rf,Rg,Rj,Rl,Yc,Rn,Ro,Rq,Rs]
theorem HJ(x:Int)(hx:i64 x):i64 (Ch x).1∧((Ch x).2=1∨(Ch x).2=-1∨(Ch x).2=0):=by
  obtain⟨h1,h2⟩:=hx
  unfold Ch
  split
  · exact⟨⟨by omega,by omega⟩,.inl rfl⟩
  · split
    · exact⟨⟨by simp only;omega,by simp only;omega⟩,.inr (.inl rfl)⟩
    · exact⟨⟨by decide,by decide⟩,.inr (.inr rfl)⟩
abbrev DA:=List (Int×Int)
def look(M:DA)(k:Int):Int:=match M with
 | []=>0
 | (j,v)::l=>if j=k then v else look l k
def Kc(M:DA)(k v:Int):DA:=match M with
 | []=>[(k,v)]
 | (j,w)::l=>if j=k then (j,v)::l else (j,w)::Kc l k v
def IN(M:DA):Prop:=∀p∈M,p.2=1∨p.2=-1
inductive Hq:DA→List (AV×AV×Nat)→Prop
 | nil:Hq [] []
 | cons {k v:Int} {b:Nat} {M:DA} {es:List (AV×AV×Nat)} (h:Hq M es):Hq ((k,v)::M) ((iv k,iv v,b)::es)
def IL(s:AF)(i:Nat)(M:DA):Prop:=∃es c,s.heap.get i=some (.map es c)∧Hq M es
theorem Im(a b:Int):MA (iv a) (iv b)=some (decide (a=b)):=by
 show some (Ul a b)=_
 rw[Fs];rfl
theorem Lr         {M : DA}   {es : List (AV × AV × Nat)} (h : Hq     M es) (k : Int) : ∀ n, (∃ j v b, D2    (iv k) es n = some (some (j, iv v, b)) ∧ n ≤ j ∧ look M k = v ∧ (∀ w, Hq     (Kc   M k w) (setNth es (j - n) (iv w)))) ∨ (D2    (iv k) es n = some none ∧ look M k = 0 ∧ ∀ w c, Hq     (Kc   M k w) (es ++ [(iv k, iv w, c)])) := by
  induction h with
  | nil=>intro n;exact .inr ⟨rfl,rfl,fun w c=>.cons .nil⟩
  | cons h ih =>
    rename_i j v b M es
    intro n
    by_cases e:j=k
    · subst e
      left
      refine⟨n,v,b,?_,qI n,by simp[look],fun w=>?_⟩
      · simp only[D2,Im,decide_true,Option.bind_some]
      · rw[rJ]
        simp only[Kc,if_true,setNth]
        exact .cons h
    · have he:D2 (iv k) ((iv j,iv v,b)::es) n=D2 (iv k) es (n+1):=by
        simp only[D2,Im,Option.bind_some]
        rw[show decide (k=j)=false from decide_eq_false (fun q=>e q.symm)]
      rcases ih (n+1)with⟨j',v',b',h1,h2,h3,h4⟩ | ⟨h1,h2,h3⟩
      · left
        refine⟨j',v',b',by rw[he];exact h1,by omega,by simp[look,e,h3],fun w=>?_⟩
        rw[show j' - n=(j' - (n+1))+1 from by omega]
        simp only[Kc,if_neg e,setNth]
        exact .cons (h4 w)
      · right
        refine⟨by rw[he];exact h1,by simp[look,e,h2],fun w c=>?_⟩
        simp only[Kc,if_neg e,rK]
        exact .cons (h3 w c)
theorem E4(k:Int):CG Try.prog 3 (iv k)=true:=by
 simp[CG,Try.underlying3,BY]
theorem Tg{s:AF}{i:Nat}{M:DA}(h:IL s i M)(k:Int):DF Try.prog s 69 (.map (some i)) (iv k) false=some (iv (look M k)):=by
 obtain⟨es,c,h1,h2⟩:=h
 simp only[DF,Try.underlying69,E4,AI,cond_true,h1,Option.bind_some]
 rcases Lr h2 k 0 with⟨j,v,b,h3,_,h4,_⟩ | ⟨h3,h4,_⟩
 ·rw[h3,h4];rfl
 ·rw[h3,h4];simp only[Option.bind_some,RN];rfl
theorem T9{s:AF}{i:Nat}{M:DA}(h:IL s i M)(k v:Int):∃s',EX Try.prog s 69 (.map (some i)) (iv k) (iv v)=some s'∧IL s' i (Kc M k v)∧s'.next=s.next∧∀j,j≠i→s'.heap.get j=s.heap.get j:=by
 obtain⟨es,c,h1,h2⟩:=h
 simp only[EX,Try.underlying69,E4,AI,cond_true,h1]
 rcases Lr h2 k 0 with⟨j,u,b,h3,_,_,h4⟩ | ⟨h3,_,h4⟩
 ·rw[h3]
  have h5:=h4 v
  rw[rV]at h5
  exact⟨_,rfl,⟨_,_,by rw[BL,if_pos rfl],h5⟩,rfl,fun x hx=>by rw[BL,if_neg hx]⟩
 ·rw[h3]
  exact⟨_,rfl,⟨_,_,by rw[BL,if_pos rfl],h4 v c⟩,rfl,fun x hx=>by rw[BL,if_neg hx]⟩
theorem Te{M:DA}(h:IN M)(k:Int):look M k=1∨look M k=-1∨look M k=0:=by
 induction M with
 | nil=>exact .inr (.inr rfl)
 | cons p M ih =>
  obtain⟨j,v⟩:=p
  simp only[look]
  split
  ·exact(h (j,v) qR).imp id .inl
  ·exact ih fun q hq=>h q (qS _ hq)
theorem MS{M:DA}(h:IN M){k v:Int}(hv:v=1∨v=-1):IN (Kc M k v):=by
 induction M with
 | nil=>intro p hp;simp[Kc]at hp;subst hp;exact hv
 | cons p M ih =>
  obtain⟨j,w⟩:=p
  simp only[Kc]
  split
  ·intro q hq
   rcases qp.1 hq with rfl | hq
   ·exact hv
   ·exact h q (qS _ hq)
  ·intro q hq
   rcases qp.1 hq with rfl | hq
   ·exact h _ qR
   ·exact ih (fun q hq=>h q (qS _ hq)) q hq
def bX(M:DA)(x:Int):Int:=if (Ch x).2=0 then -1 else look M (Ch x).1 * (Ch x).2
theorem kJ{E:BN}(hE:Good E){s:AF}{i:Nat}{M:DA}(hm:IL s i M)(hg:IN M)(x:Int)(hx:i64 x):WF E 49 [.map (some i),iv x] (fun v s'=>v=iv (bX M x)∧s=s') s:=by
 have hr:=HJ x hx
 have hl:=Te hg (Ch x).1
 refine hE.go lU (by decide) rfl ?_
 simp only[pg,gh,gi,gj,gk,gl,Qa,Qb,Qc,Qd,Qf,Qh,Qi,Qj,Qk,Ql,Qm,Qn,true_and,Qo,Qp,Qq,Qr,Qs,Qw,Qx,Rc,Rf,Rg,Rh,Yc,Rp]
 refine(PA hE x s hx).mono ?_
 rintro _ _ ⟨rfl,rfl⟩
 have hmul:i64 (look M (Ch x).1 * (Ch x).2):=by
  rcases hl with h | h | h<;>rcases hr.2 with h' | h' | h'<;>rw[h,h']<;>exact⟨by decide,by decide⟩
 unfold bX
 by_cases h0:(Ch x).2=0
 ·simp[h0,Qd,Qm,Qn,true_and,Qo,Qp,Qq,Qr,Qu,Re,Rv]
 ·simp[h0,BV,Tg hm,OB _ _ _ _ hmul,Qd,Qm,Qn,and_true,Qo,Qp,Qq,Qr,Qv,Re,Rv]
theorem cC{E:BN}(hE:Good E){s:AF}{i:Nat}{M:DA}(hm:IL s i M)(x:Int)(hx:i64 x):WF E 50 [.map (some i),iv x] (fun v s'=>v=.tuple []∧IL s' i (Kc M (Ch x).1 (Ch x).2)∧s'.next=s.next∧∀j,j≠i→s'.heap.get j=s.heap.get j) s:=by
 refine hE.go lV (by decide) rfl ?_
 simp only[pi,gm,gn,Qa,Qb,Qc,Qd,Qf,Qh,Qj,Qk,Ql,Qm,Qn,true_and,Qq,Qr,Qs,Qw,Rd,Re,Rf,Ri,Rp]
 refine(PA hE x s hx).mono ?_
 rintro _ _ ⟨rfl,rfl⟩
 obtain⟨s',h1,h2,h3,h4⟩:=T9 hm (Ch x).1 (Ch x).2
 simp only[oI,h1,AU,Qd,Qm,Qn,true_and,Qo,Qp,Qq,Qr,Yd,Ye]
 exact⟨h2,h3,h4⟩
abbrev Ax(l:List Int):List AV:=l.map iv
def PM(l:List Int):Prop:=∀x∈l,i64 x
theorem Au{l:List Int}{k:Nat}{x:Int}(h:l[k]? = some x):(Ax l)[k]? = some (iv x):=by rw[qs,h];rfl
def CF(M:DA):List Int→Int→Int→Int×Int
 | [],lit,left=>(lit,left)
 | x::l,lit,left=>if 0<bX M x then (0,2)else if bX M x<0∨(left=1∧x=lit)then CF M l lit left else if 1<left+1 then (0,2)else CF M l x (left+1)
theorem WX        {E : BN}  (hE : Good E) {s : AF}  {i b : Nat} {M : DA}   (hm : IL    s i M) (hg : IN    M) {L : List Int} (hL : PM   L) (hlen : L.length < 9223372036854775808) {a : Option (Nat × Nat)} {cap : Option Nat} (hc : Ay      b s a (Ax  L)) (v0 v1 : AV) {Q : A0   → Prop} :
    ∀ (l : List Int) (k : Nat) (lit left : Int) (x4 x5 x9 x10 x11 x12 : AV), L.drop k = l → k ≤ L.length → (left = 0 ∨ left = 1) → v0 = .map (some i) →
      (∀ (e:M7) (y4 y5 y6 y7 y8 y9 y10 y11 y12:AV),(e=.ret∨e=.exit 0)→Q ⟨e,[v0,v1,iv (CF M l lit left).1,iv (CF M l lit left).2,y4,y5,y6,y7,y8,y9,y10,y11,y12],[],s⟩) →
      WC E none (.loop LK) Q [v0,v1,iv lit,iv left,x4,x5,.slice a L.length cap,iv (L.length:Int),iv (k:Int),x9,x10,x11,x12] [] s:=by
  intro l
  induction l with
  | nil =>
    intro k lit left x4 x5 x9 x10 x11 x12 hd hk hl hv hq
    have hkl:k=L.length:=by
      have:=congrArg List.length hd
      simp at this;omega
    subst hkl
    refine WC.loop' ?_
    simp only[LK,Y1,Qa,Qb,Qc,Qd,Qf,Qh,Qj,Qm,Qn,true_and,Qo,Qp,Qq,Qr,Qs,Qw,Qx,Qy,Qz,Ra,Rb,Rq]
    simp only[qd,decide_false,Qv]
    exact hq _ _ _ _ _ _ _ _ _ _ (.inr rfl)
  | cons x l ih =>
    intro k lit left x4 x5 x9 x10 x11 x12 hd hk hl hv hq
    have hlt:k<L.length:=by
      have:=congrArg List.length hd
      simp at this;omega
    have hx:L[k]? = some x:=by
      have:=congrArg (fun l=>l[0]?) hd
      simpa using this
    have hd':L.drop (k+1)=l:=by
      rw[← rL,hd];rfl
    have hxi:i64 x:=hL x (qL hx)
    subst hv
    obtain⟨j,o,rfl,hj,hload⟩:=hc k _ (Au hx)
    have e1:=Al (cap:=cap) (i:=j) (o:=o) Try.underlying23 Bt hlt
    have e2:AD Try.prog s 3 (.ptr (some (j,o+k * 1)))=some (iv x):=A4 Dg (by rw[qa];exact hload)
    have hkk:decide ((k:Int)<(L.length:Int))=true:=decide_eq_true (by omega)
    have e3:=Ai Try.prog 3 (k:Int) 1 ⟨by omega,by omega⟩
    refine WC.loop' ?_
    simp only[LK,Y1,gv,gw,hkk,e1,e2,Qa,Qb,Qc,Qd,Qf,Qh,Qj,Qk,Qm,Qn,true_and,Qo,Qp,Qq,Qr,Qs,Qu,Qw,Qx,Qy,Qz,Ra,Rb,Rq]
    refine(kJ hE hm hg x hxi).mono ?_
    rintro _ _ ⟨rfl,rfl⟩
    by_cases h1:0<bX M x
    · simp only[ND,gx,h1,decide_true,Qb,Qc,Qd,Qf,Qh,Qi,Qj,Qk,Qm,Qn,true_and,Qo,Qp,Qq,Qr,Qs,Qu,Rs]
      have hu:CF M (x::l) lit left=(0,2):=by simp[CF,h1]
      rw[hu]at hq
      exact hq _ _ _ _ _ _ _ _ _ _ (.inl rfl)
    · have next:∀ (lit' left':Int) (x4' x5' x9' x10' x11' x12':AV),(left'=0∨left'=1)→CF M (x::l) lit left=CF M l lit' left' →
          WC E none (.loop LK) Q [.map (some i),v1,iv lit',iv left',x4',x5',.slice (some (j,o)) L.length cap,iv (L.length:Int),iv ((k:Int)+1),x9',x10',x11',x12'] [] s:=by
        intro lit' left' x4' x5' x9' x10' x11' x12' hl' he
        rw[show((k:Int)+1)=((k+1:Nat):Int)from by omega]
        refine ih (k+1) lit' left' _ _ _ _ _ _ hd' hlt hl' rfl ?_
        rw[← he]
        exact hq
      by_cases h2:bX M x<0
      · simp only[ND,Pe,LL,h1,h2,e3,decide_true,decide_false,Qb,Qc,Qd,Qf,Qg,Qh,Qi,Qj,Qk,Qm,Qn,true_and,Qo,Qp,Qq,Qr,Qs,Qt,Qu,Qv,Rk,Rm,Ya,Rn,Ro,Rq,Rs]
        exact next lit left _ _ _ _ _ _ hl (by simp[CF,h1,h2])
      · rcases hl with rfl | rfl
        · simp only [ND,    Pe,    Y2,    Y3,    Yz,     LL,     h1, h2, decide_false, Qb, Qc, Qd, Qf, Qg, Qh, Qi, Qj, Qk, Qm, Qn, true_and, Qo, Qp, Qq, Qr, Qs, Qv, Rl, Rm, Yb, Rn, Ro, Rq, Rs, Rv]
          simp[e3,Qc,Qd,Qm,Qn,true_and,Qo,Qp,Qq,Qr,Qs,Qt,Qv,Rl,Rm,Yb,Rn,Ro,Rs,Ai Try.prog 3 0 1 ⟨by decide,by decide⟩]
          exact next x 1 _ _ _ _ _ _ (.inr rfl) (by simp[CF,h1,h2])
        · by_cases h3 : x = lit
          · subst h3
            simp only[ND,Pe,LL,h1,h2,decide_true,decide_false,Qb,Qc,Qd,Qf,Qg,Qh,Qi,Qj,Qk,Qm,Qn,true_and,Qo,Qp,Qq,Qr,Qs,Qu,Qv,Rl,Rm,Yb,Rn,Ro,Rq,Rs,Rv]
            simp[e3,Qm]
            exact next x 1 _ _ _ _ _ _ (.inr rfl) (by simp[CF,h1,h2])
          · simp only [ND,    Pe,    Y2,    Y3,    Yy,     LL,     h1, h2, h3, decide_true, decide_false, Qb, Qc, Qd, Qf, Qg, Qh, Qi, Qj, Qk, Qm, Qn, true_and, Qo, Qp, Qq, Qr, Qs, Qv, Rl, Rm, Yb, Rn, Ro, Rq, Rs, Rv]
            simp[Qm,Qo,Qp,Qu,Rs,Ai Try.prog 3 1 1 ⟨by decide,by decide⟩]
            have hu:CF M (x::l) lit 1=(0,2):=by simp[CF,h1,h2,h3]
            rw[hu]at hq
            exact hq _ _ _ _ _ _ _ _ _ _ (.inl rfl)
theorem fC{E:BN}(hE:Good E){s:AF}{i b:Nat}{M:DA}(hm:IL s i M)(hg:IN M){L:List Int}(hL:PM L)(hlen:L.length<9223372036854775808){c:AV}(hc:AX b s c (Ax L)):
  WF E 52 [.map (some i),c] (fun v s'=>v=.tuple [iv (CF M L 0 0).1,iv (CF M L 0 0).2]∧s=s') s:=by
 obtain⟨a,cap,rfl,hc⟩:=hc
 rw[qK]
 refine hE.go lX (by decide) rfl ?_
 simp only[pk,gt,gu,AW Try.underlying23,Qa,Qb,Qc,Qd,Qf,Qh,Qi,Qj,Ql,Qm,Qn,true_and,Qo,Qp,Qq,Qr,Qs,Qw,Rc,Rf,Rg,Rj,Yc]
 refine WX hE hm hg hL hlen hc _ _ L 0 0 0 _ _ _ _ _ _ rfl (qO _) (.inl rfl) rfl ?_
 rintro e y4 y5 y6 y7 y8 y9 y10 y11 y12 (rfl | rfl)
 ·simp only[Qj,Qm,true_and,Qq,Qr,Qx,Ra,Rc,Re,Rf,Rg,Rj,Yc]
 ·simp only[Y0,if_true,Qb,Qc,Qd,Qf,Qh,Qj,Qk,Qm,Qn,true_and,Qo,Qp,Qq,Qr,Qs,Qw,Qy,Rb,Re]
def Jn(M:DA)(x:Int):DA:=Kc M (Ch x).1 (Ch x).2
theorem WV        (M : DA)   : ∀ (L : List Int) (lit left : Int), (left = 0 ∨ left = 1) → (CF    M L lit left).2 = 1 → ((CF    M L lit left).1 ∈ L ∧ bX  M (CF    M L lit left).1 = 0) ∨ (left = 1 ∧ (CF    M L lit left).1 = lit) := by
  intro L
  induction L with
  | nil=>intro lit left _ h;exact .inr ⟨h,rfl⟩
  | cons x l ih =>
    intro lit left hl h
    simp only[CF]at h ⊢
    split at h
    · simp at h
    · rename_i h1
      rw[if_neg h1]
      split at h
      · rename_i h2
        rw[if_pos h2]
        rcases ih lit left hl h with⟨h3,h4⟩ | h3
        · exact .inl ⟨qS _ h3,h4⟩
        · exact .inr h3
      · rename_i h2
        rw[if_neg h2]
        split at h
        · simp at h
        · rename_i h3
          rw[if_neg h3]
          rcases ih x (left+1) (by omega) h with⟨h4,h5⟩ | ⟨h4,h5⟩
          · exact .inl ⟨qS _ h4,h5⟩
          · rw[h5]
            exact .inl ⟨qR,by omega⟩
theorem Ou{M:DA}(h:IN M){x:Int}(hx:i64 x)(h0:bX M x=0):IN (Jn M x):=by
 refine MS h ?_
 rcases(HJ x hx).2 with h1 | h1 | h1
 ·exact .inl h1
 ·exact .inr h1
 ·simp[bX,h1]at h0
theorem Nx{P:Program}{t:TypeId}(hs:BC P t=some 1){s:AF}{i o:Nat}{r:EY}{v:AV}(hg:s.heap.get i=some (.row r))(hm:r.mode=.own)(hp:r.par=none)(ho:o<r.n)(hv:v.cells=[v])(hc:v.isCell=true):
  AM P s t (.ptr (some (i,o))) v=some (setObj s i (.row { r with c:=r.c.fill o [v],par:=none })):=by
 simp[AM,hs,AI,hv,CK,rowAt,hg,hm,Ec,Ak,hc,BS (show o+1≤r.n by omega),Av,hp]
structure kR(s:AF)(i j:Nat)(M:DA):Prop where
 map:IL s i M
 cell:load1 s j 0=some (.map (some i))
 ne:j≠i
 signs:IN M
theorem eO{E:BN}(hE:Good E){s:AF}{i j b:Nat}{M:DA}(hk:kR s i j M){L:List Int}(hL:PM L)(hlen:L.length<9223372036854775808){c:AV}(hc:AX b s c (Ax L)):
    WF E 51 [c,.ptr (some (j,0))] (fun v s'=>v=.tuple [.bool (decide ((CF M L 0 0).2=1)),.bool (decide ((CF M L 0 0).2=0))] ∧
      kR s' i j (if (CF M L 0 0).2=1 then Jn M (CF M L 0 0).1 else M)∧s'.next=s.next∧∀x,x≠i→s'.heap.get x=s.heap.get x) s:=by
  have e1:AD Try.prog s 69 (.ptr (some (j,0)))=some (.map (some i)):=A4 nL hk.cell
  refine hE.go lW (by decide) rfl ?_
  simp only[pj,gp,gq,e1,Qa,Qb,Qc,Qd,Qf,Qh,Qi,Qj,Qk,Ql,Qm,Qn,true_and,Qo,Qp,Qq,Qr,Qs,Qw,Rc,Rf,Rg,Rj,Yc,Rp]
  refine(fC hE hk.map hk.signs hL hlen hc).mono ?_
  rintro _ _ ⟨rfl,rfl⟩
  by_cases h:(CF M L 0 0).2=1
  · have hu := (WV        M L 0 0 (.inl rfl) h).resolve_right (by simp)
    have hx:i64 (CF M L 0 0).1:=hL _ hu.1
    simp only[Yw,gr,h,decide_true,e1,Qb,Qc,Qd,Qf,Qh,Qi,Qj,Qk,Qm,Qn,true_and,Qo,Qp,Qq,Qr,Qs,Qu,Re,Yd,Ye,Rv]
    refine(cC hE hk.map _ hx).mono ?_
    rintro _ s' ⟨rfl,h1,h2,h3⟩
    simp only[Yx,Qb,Qc,Qd,Qf,Qh,Qi,Qj,Qk,Qm,Qn,true_and,Qo,Qp,Qq,Qr,Qs,Rv]
    simp only[Int.reduceEq,decide_false,decide_true,if_true,true_and]
    exact⟨⟨h1,by rw[CO (h3 j hk.ne)];exact hk.cell,hk.ne,Ou hk.signs hx hu.2⟩,h2,h3⟩
  · simp only[Yw,Yx,h,decide_false,if_false,Qb,Qc,Qd,Qf,Qh,Qi,Qj,Qk,Qm,Qn,true_and,Qo,Qp,Qq,Qr,Qs,Qv,Re,Yd,Ye,Rv]
    exact⟨hk,fun _ _=>trivial⟩
def Gd(M:DA):List (List Int)→Bool→Option (DA×Bool)
 | [],more=>some (M,more)
 | c::cs,more=>if (CF M c 0 0).2=0 then none else if (CF M c 0 0).2=1 then Gd (Jn M (CF M c 0 0).1) cs true else Gd M cs more
def P9(cs:List (List Int)):Nat→DA→Option Bool
 | 0,_=>none
 | n+1,M=>match Gd M cs false with
  | none=>some true
  | some (M',true)=>P9 cs n M'
  | some (_,false)=>some false
def F6(M:DA):List Int→Option DA
 | []=>some M
 | x::l=>if (Ch x).2=0 then F6 M l else if 0<bX M x then none else F6 (Jn M (-x)) l
def Lz(n:Nat)(cs:List (List Int))(c:List Int):Option Bool:=match F6 [] c with
 | none=>some true
 | some M=>P9 cs n M
def EG(b:Nat)(s:AF)(a:Option (Nat×Nat))(cs:List (List Int)):Prop:=∀k L,cs[k]? = some L→∃i o u,a=some (i,o)∧i<b∧load1 s i (o+k)=some u∧AX b s u (Ax L)
theorem EG.old{b b':Nat}{s s':AF}{a:Option (Nat×Nat)}{cs:List (List Int)}(h:EG b s a cs)(k:BG b' s s')(hb:b≤b'):EG b s' a cs:=fun j L hj=>by
 obtain⟨i,o,u,h1,h2,h3,h4⟩:=h j L hj
 exact⟨i,o,u,h1,h2,by rw[CO (k.2 i (qi h2 hb))];exact h3,h4.old k hb⟩
theorem EG.mono{b b':Nat}{s:AF}{a:Option (Nat×Nat)}{cs:List (List Int)}(h:EG b s a cs)(hb:b≤b'):EG b' s a cs:=fun j L hj=>by
 obtain⟨i,o,u,h1,h2,h3,h4⟩:=h j L hj
 exact⟨i,o,u,h1,qi h2 hb,h3,h4.mono hb⟩
def Wj(cs:List (List Int)):Prop:=cs.length<9223372036854775808∧∀L∈cs,PM L∧L.length<9223372036854775808
def N6(b:Nat)(s:AF)(v:AV)(cs:List (List Int)):Prop:=∃a cap,v=.slice a cs.length cap∧EG b s a cs
structure Gp(n:Nat)(s0 s:AF)(i j:Nat)(M:DA):Prop where
 know:kR s i j M
 old:BG n s0 s
 hi:n≤i
 nx:s.next=s0.next+2
def Wm(n:Nat)(s0 s:AF):Prop:=BG n s0 s∧s.next=s0.next+2
theorem Gp.oldN{n:Nat}{s0 s:AF}{i j:Nat}{M:DA}(h:Gp n s0 s i j M):Wm n s0 s:=⟨h.old,h.nx⟩
theorem V2        {E : BN}  (hE : Good E) {n : Nat} {s0 : AF}  {i j : Nat} {cs : List (List Int)} (hcs : Wj   cs) {a : Option (Nat × Nat)} {cap : Option Nat} (hr : EG     n s0 a cs) (v0 v1 v3 : AV) {Q : A0   → Prop} :
    ∀ (l : List (List Int)) (k : Nat) (M : DA)   (more : Bool) (s : AF)  (x2 x4 x5 x8 x9 x10 x11 x12 x13 x14 x15 x16 x17 x21 x22 x23 : AV), cs.drop k = l → k ≤ cs.length → Gp     n s0 s i j M →
      (match Gd M l more with
        | none=>∀s' y4 y5 y7 y8 y9 y10 y11 y12 y13 y14 y15 y16 y17 y18 y19 y20 y21 y22 y23,Wm n s0 s'→Q ⟨.ret,[v0,v1,.bool true,v3,y4,y5,.func 51 [] [.ptr (some (j,0))],y7,y8,y9,y10,y11,y12,y13,y14,y15,y16,y17,y18,y19,y20,y21,y22,y23],[],s'⟩
        | some (M',more')=>∀s' y2 y4 y5 y8 y9 y10 y11 y12 y13 y14 y15 y16 y17 y18 y19 y20 y21 y22 y23,Gp n s0 s' i j M'→Q ⟨.exit 4,[v0,v1,y2,v3,y4,y5,.func 51 [] [.ptr (some (j,0))],.bool more',y8,y9,y10,y11,y12,y13,y14,y15,y16,y17,y18,y19,y20,y21,y22,y23],[],s'⟩) →
      WC E none (.loop OK) Q [v0,v1,x2,v3,x4,x5,.func 51 [] [.ptr (some (j,0))],.bool more,x8,x9,x10,x11,x12,x13,x14,x15,x16,x17,.slice a cs.length cap,iv (cs.length:Int),iv (k:Int),x21,x22,x23] [] s:=by
  intro l
  induction l with
  | nil =>
    intro k M more s x2 x4 x5 x8 x9 x10 x11 x12 x13 x14 x15 x16 x17 x21 x22 x23 hd hk hmem hq
    have hkl:k=cs.length:=by
      have:=congrArg List.length hd
      simp at this;omega
    subst hkl
    refine WC.loop' ?_
    simp only[OK,SF,qd,decide_false,Qa,Qb,Qc,Qd,Qf,Qh,Qj,Qm,Qn,true_and,Qo,Qp,Qq,Qr,Qs,Qv,Qw,Qx,Qy,Qz,Ra,Rb,Rq]
    exact hq s _ _ _ _ _ _ _ _ _ _ _ _ _ _ _ _ _ _ _ hmem
  | cons L l ih =>
    intro k M more s x2 x4 x5 x8 x9 x10 x11 x12 x13 x14 x15 x16 x17 x21 x22 x23 hd hk hmem hq
    have hlt:k<cs.length:=by
      have:=congrArg List.length hd
      simp at this;omega
    have hx:cs[k]? = some L:=by
      have:=congrArg (fun l=>l[0]?) hd
      simpa using this
    have hd':cs.drop (k+1)=l:=by
      rw[← rL,hd];rfl
    obtain⟨p,o,u,rfl,hp,hload,hu⟩:=hr k L hx
    obtain⟨hL,hLl⟩:=hcs.2 L (qL hx)
    have e1:=Al (cap:=cap) (i:=p) (o:=o) Try.underlying22 CL hlt
    have e2:AD Try.prog s 23 (.ptr (some (p,o+k * 1)))=some u:=A4 DN (by rw[qa,CO (hmem.old.2 p hp)];exact hload)
    have hkk:decide ((k:Int)<(cs.length:Int))=true:=decide_eq_true (by omega)
    have hcl:=hcs.1
    have e3:=Ai Try.prog 3 (k:Int) 1 ⟨by omega,by omega⟩
    refine WC.loop' ?_
    simp only[OK,SF,YD,YE,hkk,e1,e2,qo,rK,Qa,Qb,Qc,Qd,Qe,Qf,Qh,Qj,Qk,Qm,Qn,true_and,Qo,Qp,Qq,Qr,Qs,Qu,Qw,Qx,Qy,Qz,Ra,Rb,Rp,Rq]
    refine(eO hE hmem.know hL hLl (hu.old hmem.old (qI n))).mono ?_
    rintro _ s1 ⟨rfl,h1,h2,h3⟩
    have hnx:s1.next=s0.next+2:=h2.trans hmem.nx
    have hold:BG n s0 s1:=hmem.old.trans ⟨by omega,fun x hx=>h3 x (by have:=hmem.hi;omega)⟩
    by_cases h0:(CF M L 0 0).2=0
    · have hp0:Gd M (L::l) more=none:=by simp[Gd,h0]
      rw[hp0]at hq
      simp only[OL,YF,h0,decide_true,Qb,Qc,Qd,Qf,Qh,Qi,Qj,Qm,Qn,true_and,Qo,Qp,Qq,Qr,Qs,Qu,Yd,Ye]
      exact hq s1 _ _ _ _ _ _ _ _ _ _ _ _ _ _ _ _ _ _ _ ⟨hold,hnx⟩
    · by_cases hone : (CF    M L 0 0).2 = 1
      · have hp1:Gd M (L::l) more=Gd (Jn M (CF M L 0 0).1) l true:=by simp[Gd,hone]
        rw[hp1]at hq
        rw[if_pos hone]at h1
        simp only[OL,SG,YG,SH,hone,Int.reduceEq,decide_true,decide_false,Bool.not_true,e3,Qb,Qc,Qd,Qf,Qh,Qi,Qj,Qk,Qm,Qn,true_and,Qo,Qp,Qq,Qr,Qs,Qv,Ya,Yd,Ye,Rx]
        rw[show((k:Int)+1)=((k+1:Nat):Int)from by omega]
        exact ih (k+1) _ true s1 _ _ _ _ _ _ _ _ _ _ _ _ _ _ _ _ hd' hlt ⟨h1,hold,hmem.hi,hnx⟩ hq
      · have hp1:Gd M (L::l) more=Gd M l more:=by simp[Gd,hone,h0]
        rw[hp1]at hq
        rw[if_neg hone]at h1
        simp only[OL,SG,SH,hone,h0,decide_false,Bool.not_false,if_true,e3,Qb,Qc,Qd,Qf,Qh,Qi,Qj,Qk,Qm,Qn,true_and,Qo,Qp,Qq,Qr,Qs,Qu,Qv,Yb,Yd,Ye,Rx]
        rw[show((k:Int)+1)=((k+1:Nat):Int)from by omega]
        exact ih (k+1) _ more s1 _ _ _ _ _ _ _ _ _ _ _ _ _ _ _ _ hd' hlt ⟨h1,hold,hmem.hi,hnx⟩ hq
theorem Vq{E:BN}(hE:Good E){n:Nat}{s0:AF}{i j:Nat}{cs:List (List Int)}(hcs:Wj cs){a:Option (Nat×Nat)}{cap:Option Nat}(hr:EG n s0 a cs)(v1 v3:AV){Q:A0→Prop}:
    ∀ (fuel : Nat) (M : DA)   (s : AF)  (b : Bool) (x2 x4 x5 x8 x9 x10 x11 x12 x13 x14 x15 x16 x17 x18 x19 x20 x21 x22 x23 : AV), P9    cs fuel M = some b → Gp     n s0 s i j M →
      (∀e s' y2 y4 y5 y6 y7 y8 y9 y10 y11 y12 y13 y14 y15 y16 y17 y18 y19 y20 y21 y22 y23,Wm n s0 s'→(e=.ret∧y2=.bool true∧b=true∨e=.exit 2∧b=false)→Q ⟨e,[.slice a cs.length cap,v1,y2,v3,y4,y5,y6,y7,y8,y9,y10,y11,y12,y13,y14,y15,y16,y17,y18,y19,y20,y21,y22,y23],[],s'⟩) →
      WC E none (.loop SD) Q [.slice a cs.length cap,v1,x2,v3,x4,x5,.func 51 [] [.ptr (some (j,0))],.bool true,x8,x9,x10,x11,x12,x13,x14,x15,x16,x17,x18,x19,x20,x21,x22,x23] [] s:=by
  intro fuel
  induction fuel with
  | zero=>intro M s b _ _ _ _ _ _ _ _ _ _ _ _ _ _ _ _ _ _ _ h;cases h
  | succ fuel ih =>
    intro M s b x2 x4 x5 x8 x9 x10 x11 x12 x13 x14 x15 x16 x17 x18 x19 x20 x21 x22 x23 hl hmem hq
    refine WC.loop' ?_
    simp only[SD,YA,YB,YC,AW Try.underlying22,Qa,Qb,Qc,Qd,Qf,Qh,Qi,Qj,Qm,Qn,true_and,Qo,Qp,Qq,Qr,Qs,Qu,Qw,Qy]
    refine V2 hE hcs hr _ _ _ cs 0 M false s _ _ _ _ _ _ _ _ _ _ _ _ _ _ _ _ rfl (qO _) hmem ?_
    simp only[P9]at hl
    split at hl
    · rename_i hp
      injection hl with hl
      subst hl
      rw[hp]
      intro s' y4 y5 y7 y8 y9 y10 y11 y12 y13 y14 y15 y16 y17 y18 y19 y20 y21 y22 y23 ho
      simp only[Qx,Ra]
      exact hq _ _ _ _ _ _ _ _ _ _ _ _ _ _ _ _ _ _ _ _ _ _ _ ho (.inl ⟨rfl,rfl,rfl⟩)
    · rename_i M' hp
      rw[hp]
      intro s' y2 y4 y5 y8 y9 y10 y11 y12 y13 y14 y15 y16 y17 y18 y19 y20 y21 y22 y23 ho
      simp only[if_true,Qw,Qy,Qz,Rb]
      exact ih M' s' b _ _ _ _ _ _ _ _ _ _ _ _ _ _ _ _ _ _ _ hl ho hq
    · rename_i M' hp
      injection hl with hl
      subst hl
      rw[hp]
      intro s' y2 y4 y5 y8 y9 y10 y11 y12 y13 y14 y15 y16 y17 y18 y19 y20 y21 y22 y23 ho
      simp only[if_true,Qw,Qy,Qz,Rb]
      refine WC.loop' ?_
      simp only[Qa,Qb,Qc,Qd,Qf,Qh,Qi,Qj,Qm,Qn,true_and,Qo,Qp,Qq,Qr,Qs,Qv,Qw,Qy]
      exact hq _ _ _ _ _ _ _ _ _ _ _ _ _ _ _ _ _ _ _ _ _ _ _ ho.oldN (.inr ⟨rfl,rfl⟩)
theorem WE{x:Int}(hx:i64 x)(h:(Ch x).2≠0):i64 (-x)∧(Ch (-x)).2≠0:=by
  obtain⟨h1,h2⟩:=hx
  unfold Ch at h ⊢
  split at h
  · rw[if_neg (by omega),if_pos ⟨by omega,by omega⟩]
    exact⟨⟨by omega,by omega⟩,by simp⟩
  · split at h
    · rw[if_pos (by omega)]
      exact⟨⟨by omega,by omega⟩,by simp⟩
    · simp at h
theorem Vh        {E : BN}  (hE : Good E) {n : Nat} {s0 : AF}  {i j : Nat} {c : List Int} (hc : PM   c) (hcl : c.length < 9223372036854775808) {a : Option (Nat × Nat)} {cap : Option Nat} (hr : Ay      n s0 a (Ax  c)) (v0 v1 x6 x7 x8 x9 x10 : AV) {Q : A0   → Prop} :
    ∀ (l : List Int) (k : Nat) (M : DA)   (s : AF)  (x2 x4 x5 x14 x15 x16 x17 x18 x19 x20 x21 x22 x23 : AV), c.drop k = l → k ≤ c.length → Gp     n s0 s i j M →
      (match F6 M l with
        | none=>∀s' y4 y5 y6 y7 y8 y9 y10 y11 y12 y13 y14 y15 y16 y17 y18 y19 y20 y21 y22 y23,Wm n s0 s'→Q ⟨.ret,[v0,v1,.bool true,.ptr (some (j,0)),y4,y5,y6,y7,y8,y9,y10,y11,y12,y13,y14,y15,y16,y17,y18,y19,y20,y21,y22,y23],[],s'⟩
        | some M'=>∀s' y2 y4 y5 y6 y7 y8 y9 y10 y11 y12 y13 y14 y15 y16 y17 y18 y19 y20 y21 y22 y23,Gp n s0 s' i j M'→Q ⟨.exit 0,[v0,v1,y2,.ptr (some (j,0)),y4,y5,y6,y7,y8,y9,y10,y11,y12,y13,y14,y15,y16,y17,y18,y19,y20,y21,y22,y23],[],s'⟩) →
      WC E none (.loop OJ) Q [v0,v1,x2,.ptr (some (j,0)),x4,x5,x6,x7,x8,x9,x10,.slice a c.length cap,iv (c.length:Int),iv (k:Int),x14,x15,x16,x17,x18,x19,x20,x21,x22,x23] [] s:=by
  intro l
  induction l with
  | nil =>
    intro k M s x2 x4 x5 x14 x15 x16 x17 x18 x19 x20 x21 x22 x23 hd hk hmem hq
    have hkl:k=c.length:=by
      have:=congrArg List.length hd
      simp at this;omega
    subst hkl
    refine WC.loop' ?_
    simp only[OJ,YI,qd,decide_false,Qa,Qb,Qc,Qd,Qf,Qh,Qj,Qm,Qn,true_and,Qo,Qp,Qq,Qr,Qs,Qv,Qw,Qx,Qy,Qz,Ra,Rb,Rq]
    exact hq s _ _ _ _ _ _ _ _ _ _ _ _ _ _ _ _ _ _ _ _ _ hmem
  | cons x l ih =>
    intro k M s x2 x4 x5 x14 x15 x16 x17 x18 x19 x20 x21 x22 x23 hd hk hmem hq
    have hlt:k<c.length:=by
      have:=congrArg List.length hd
      simp at this;omega
    have hx:c[k]? = some x:=by
      have:=congrArg (fun l=>l[0]?) hd
      simpa using this
    have hd':c.drop (k+1)=l:=by
      rw[← rL,hd];rfl
    obtain⟨p,o,rfl,hp,hload⟩:=hr k _ (Au hx)
    have hxi:=hc x (qL hx)
    have e1:=Al (cap:=cap) (i:=p) (o:=o) Try.underlying23 Bt hlt
    have e2:AD Try.prog s 3 (.ptr (some (p,o+k * 1)))=some (iv x):=A4 Dg (by rw[qa,CO (hmem.old.2 p hp)];exact hload)
    have hkk:decide ((k:Int)<(c.length:Int))=true:=decide_eq_true (by omega)
    have e3:=Ai Try.prog 3 (k:Int) 1 ⟨by omega,by omega⟩
    have e4:AD Try.prog s 69 (.ptr (some (j,0)))=some (.map (some i)):=A4 nL hmem.know.cell
    refine WC.loop' ?_
    simp only[OJ,YI,fb,fc,hkk,e1,e2,Qa,Qb,Qc,Qd,Qf,Qh,Qj,Qk,Qm,Qn,true_and,Qo,Qp,Qq,Qr,Qs,Qu,Qw,Qx,Qy,Qz,Ra,Rb,Rp,Rq]
    refine(PA hE x s hxi).mono ?_
    rintro _ _ ⟨rfl,rfl⟩
    by_cases h0:(Ch x).2=0
    · have hi0:F6 M (x::l)=F6 M l:=by simp[F6,h0]
      rw[hi0]at hq
      simp only[YJ,SE,h0,decide_true,if_true,e3,Qb,Qc,Qd,Qf,Qh,Qi,Qj,Qk,Qm,Qn,true_and,Qo,Qp,Qq,Qr,Qs,Qu,Yd,Ye,Rv]
      rw[show((k:Int)+1)=((k+1:Nat):Int)from by omega]
      exact ih (k+1) M s _ _ _ _ _ _ _ _ _ _ _ _ _ hd' hlt hmem hq
    · simp only[YJ,fe,h0,decide_false,e4,Qb,Qc,Qd,Qf,Qh,Qi,Qj,Qk,Qm,Qn,true_and,Qo,Qp,Qq,Qr,Qs,Qv,Yd,Ye,Rv]
      refine(kJ hE hmem.know.map hmem.know.signs x hxi).mono ?_
      rintro _ _ ⟨rfl,rfl⟩
      by_cases h1:0<bX M x
      · have hi1:F6 M (x::l)=none:=by simp[F6,h0,h1]
        rw[hi1]at hq
        simp only[ff,h1,decide_true,Qb,Qc,Qd,Qf,Qh,Qi,Qm,Qn,true_and,Qo,Qp,Qq,Qr,Qs,Qu,Rs]
        exact hq s _ _ _ _ _ _ _ _ _ _ _ _ _ _ _ _ _ _ _ _ hmem.oldN
      · obtain⟨hn1,hn2⟩:=WE hxi h0
        have hi1:F6 M (x::l)=F6 (Jn M (-x)) l:=by simp[F6,h0,h1]
        rw[hi1]at hq
        simp only[fg,h1,decide_false,e4,D8 _ x hn1,Qb,Qc,Qd,Qf,Qh,Qj,Qk,Qm,Qn,true_and,Qo,Qp,Qq,Qr,Qs,Qv,Rs]
        refine(cC hE hmem.know.map (-x) hn1).mono ?_
        rintro _ s1 ⟨rfl,g1,g2,g3⟩
        simp only[SE,e3,Qb,Qc,Qd,Qf,Qh,Qi,Qj,Qk,Qm,Qn,true_and,Qo,Qp,Qq,Qr,Qs]
        rw[show((k:Int)+1)=((k+1:Nat):Int)from by omega]
        refine ih (k+1) _ s1 _ _ _ _ _ _ _ _ _ _ _ _ _ hd' hlt ⟨⟨g1,by rw[CO (g3 j hmem.know.ne)];exact hmem.know.cell,hmem.know.ne,MS hmem.know.signs ?_⟩,hmem.old.trans ⟨by omega,fun y hy=>g3 y (by have:=hmem.hi;omega)⟩,hmem.hi,g2.trans hmem.nx⟩ hq
        rcases(HJ (-x) hn1).2 with h | h | h
        · exact .inl h
        · exact .inr h
        · exact absurd h hn2
set_option maxRecDepth 4000 in
theorem TU{E:BN}(hE:Good E){s:AF}{cs:List (List Int)}{c:List Int}(hcs:Wj cs)(hc:PM c)(hcl:c.length<9223372036854775808){v u:AV}(hr:N6 s.next s v cs)(hu:AX s.next s u (Ax c)){fuel:Nat}{b:Bool}(hf:Lz fuel cs c=some b):
  WF E 17 [v,u] (fun r s'=>r=.bool b∧Wm s.next s s') s:=by
 obtain⟨a,cap,rfl,hr⟩:=hr
 obtain⟨a2,cap2,rfl,hu⟩:=hu
 rw[qK]
 refine hE.go lH (by decide) rfl ?_
 have hz:Bi Try.prog 69=some (AO 69 0 [.map none],.ptr):=by simp[Bi,pS,AV.cells]
 simp only[pV,fY,fZ,fa,hz,Made.val,BV,AW Try.underlying23,Qa,Qb,Qc,Qd,Qf,Qh,Qi,Qj,Qk,Ql,Qm,Qn,true_and,Qo,Qp,Qq,Qr,Qs,Qw,Rc,Rf,Rg,Rh,Yc]
 let s1:=newObj s (.map [] 0)
 let s2:=newObj s1 (AO 69 0 [.map none])
 obtain⟨r,hr1,hr2,_,_,hr5,hr6⟩:=Br 69 0 [.map none]
 have hg:s2.heap.get (s.next+1)=some (.row r):=by
  rw[AQ,if_pos (show s.next+1=s1.next from rfl),hr1]
 have hst:=Nx (P:=Try.prog) (t:=69) pQ (o:=0) (v:=.map (some s.next)) hg hr5 hr6 (by rw[hr2.1];decide) rfl rfl
 have hst':AM Try.prog (newObj (newObj s (.map [] 0)) (AO 69 0 [.map none])) 69 (.ptr (some ((newObj s (.map [] 0)).next,0))) (.map (some s.next))=_:=hst
 simp only[hst',AU,Qm]
 generalize hs3:setObj s2 (s.next+1) (.row { r with c:=r.c.fill 0 [.map (some s.next)],par:=none })=s3
 have k3:∀x,s3.heap.get x=if x=s.next+1 then some (.row { r with c:=r.c.fill 0 [.map (some s.next)],par:=none })else if x=s.next then some (.map [] 0)else s.heap.get x:=by
  intro x
  rw[← hs3,BL]
  by_cases h1:x=s.next+1
  ·rw[if_pos h1,if_pos h1]
  ·rw[if_neg h1,if_neg h1,AQ,if_neg (show ¬ x=s1.next from h1),AQ]
 have hmem:Gp s.next s s3 s.next (s.next+1) []:=by
  refine⟨⟨⟨[],0,by rw[k3,if_neg (by omega),if_pos rfl],.nil⟩,?_,by omega,fun p hp=>by cases hp⟩,⟨by rw[← hs3];show s.next≤s.next+1+1;omega,fun x hx=>by rw[k3,if_neg (by omega),if_neg (by omega)]⟩,qI _,by rw[← hs3];rfl⟩
  refine B1 (r:={ r with c:=r.c.fill 0 [.map (some s.next)],par:=none }) (by rw[k3,if_pos rfl]) (by rw[hr2.1];decide) ?_
  show(Aj.fill r.c 0 [AV.map (some s.next)]).get 0=_
  rw[Aj.get_fill,if_pos ⟨qI _,by simp⟩]
  rfl
 have hnx:(newObj s (.map [] 0)).next=s.next+1:=rfl
 rw[hnx]
 refine Vh hE hc hcl hu _ _ _ _ _ _ _ c 0 [] s3 _ _ _ _ _ _ _ _ _ _ _ _ _ rfl (qO _) hmem ?_
 unfold Lz at hf
 cases hi:F6 [] c with
 | none =>
  rw[hi]at hf
  injection hf with hf
  subst hf
  intro s' y4 y5 y6 y7 y8 y9 y10 y11 y12 y13 y14 y15 y16 y17 y18 y19 y20 y21 y22 y23 ho
  simp only[Qj,Qm,true_and,Qq,Qr,Qx,Ra,Rc,Re,Rf,Rg,Rh,Yc]
  exact ho
 | some M =>
  rw[hi]at hf
  intro s' y2 y4 y5 y6 y7 y8 y9 y10 y11 y12 y13 y14 y15 y16 y17 y18 y19 y20 y21 y22 y23 ho
  simp only[if_true,X8,X9,rM,rF,Qb,Qc,Qd,Qf,Qh,Qi,Qj,Qk,Qm,Qn,true_and,Qo,Qp,Qq,Qr,Qs,Qw,Qy,Rb]
  have hf:P9 cs fuel M=some b:=hf
  refine Vq hE hcs hr _ _ fuel M s' b _ _ _ _ _ _ _ _ _ _ _ _ _ _ _ _ _ _ _ hf ho ?_
  intro e s4 y2 y4 y5 y6 y7 y8 y9 y10 y11 y12 y13 y14 y15 y16 y17 y18 y19 y20 y21 y22 y23 ho4 he
  rcases he with⟨rfl,rfl,rfl⟩ | ⟨rfl,rfl⟩
  ·simp only[Qj,Qm,true_and,Qq,Qr,Qx,Ra,Rc,Re,Rf,Rg,Rh,Yc]
   exact ho4
  ·simp only[if_true,YH,Qb,Qc,Qd,Qf,Qh,Qi,Qm,Qn,true_and,Qo,Qp,Qq,Qr,Qs,Qw,Qy,Rb,Re]
   exact ho4
end
end Go.Proofs.Ytilhhmkdcoajnaa.Am
set_option linter.unusedVariables false
set_option linter.unusedSimpArgs false
namespace Go.Proofs.Ytilhhmkdcoajnaa.Am
open Go
noncomputable section
structure Gq(P:Program)(ρ:Bp)(w:World)(l:Gm)(rb:RB):Prop where
 ex:∃L:Loop,w.heap[rb.b]? = some (.loop L)∧L.state=l.state∧L.pending=l.pending∧L.params=l.params∧L.assign=l.assign∧L.body=l.body ∧
  (∃rd,ρ l.dfr=some rd∧L.defers=rd.b)∧EV ρ (Fx P l.fn) l.var L.tmps∧(∀fn,P.funcs[l.fn]? = some fn→fn.ntmps≤L.tmps.size)∧l.var.length=(Fx P l.fn).length
def Gr(P:Program)(ρ:Bp)(w:World):C0→RB→Prop
 | .row r,rb=>FG ρ w r rb
 | .map es clock,rb=>∃es':Array MapEntry,w.heap[rb.b]? = some (.map es' clock)∧Ex ρ es es'.toList
 | .loop l,rb=>Gq P ρ w l rb
 | .mark,rb=>w.heap[rb.b]? = some (.deferred (some []))
 | .iter _ _,_=>False
def wr:C0→Bool
 | .row r=>Ec r.mode
 | _=>true
def Nk:C0→Option Nat
 | .row r=>r.par
 | _=>none
structure Bu(P:Program)(ρ:Bp)(s:AF)(w:World):Prop where
 obj:∀i o rb,s.heap.get i=some o→ρ i=some rb→Gr P ρ w o rb
 lt:∀i rb,ρ i=some rb→rb.b<w.heap.size
 sep:∀i j oi oj ri rj,i≠j→s.heap.get i=some oi→s.heap.get j=some oj→ρ i=some ri→ρ j=some rj→ri.b=rj.b→wr oj=true→Nk oj=some i∧wr oi=false
def Gs(ρ:Bp)(s:AF)(b:Nat):Prop:=∃i o rb,s.heap.get i=some o∧wr o=true∧ρ i=some rb∧rb.b=b
structure Fr(ρ:Bp)(s:AF)(w:World)(ρ':Bp)(s':AF)(w':World):Prop where
 le:ρ.le ρ'
 fresh:∀i,ρ i=none→(i<s.next∨s'.next≤i)→ρ' i=none
 next:s.next≤s'.next
 size:w.heap.size≤w'.heap.size
 os:w'.os=w.os
 tape:w'.tape=w.tape
 output:w'.output=w.output
 keep:∀b,b<w.heap.size→¬ Gs ρ s b→w'.heap[b]? = w.heap[b]?
 own:∀b,Gs ρ' s' b→Gs ρ s b∨w.heap.size≤b
 unborn:∀i,ρ i=none→(i<s.next∨s'.next≤i)→s'.heap.get i=s.heap.get i
section
variable{P:Program}{ρ ρ1 ρ2:Bp}{s s1 s2:AF}{w w1 w2:World}
theorem Fr.refl(ρ:Bp)(s:AF)(w:World):Fr ρ s w ρ s w:=
 ⟨Bp.le_refl ρ,fun _ h _=>h,qI _,qI _,rfl,rfl,rfl,fun _ _ _=>rfl,fun _ h=>.inl h,fun _ _ _=>rfl⟩
theorem Fr.trans(h:Fr ρ s w ρ1 s1 w1)(k:Fr ρ1 s1 w1 ρ2 s2 w2):Fr ρ s w ρ2 s2 w2 where
 le:=Bp.le_trans h.le k.le
 fresh:=fun i hi hr=>k.fresh i (h.fresh i hi (hr.imp id (fun h'=>qV k.next h'))) (hr.imp (fun h'=>qi h' h.next) id)
 next:=qV h.next k.next
 size:=qV h.size k.size
 os:=k.os.trans h.os
 tape:=k.tape.trans h.tape
 output:=k.output.trans h.output
 keep:=fun b hb ho=>(k.keep b (qi hb h.size) (fun ho1=>(h.own b ho1).elim ho (fun hge=>by omega))).trans (h.keep b hb ho)
 own:=fun b hb=>(k.own b hb).elim (fun h1=>h.own b h1) (fun hge=>.inr (qV h.size hge))
 unborn:=fun i hi hr=>(k.unborn i (h.fresh i hi (hr.imp id (fun h'=>qV k.next h'))) (hr.imp (fun h'=>qi h' h.next) id)).trans (h.unborn i hi (hr.imp id (fun h'=>qV k.next h')))
theorem IX{a:Addr}(h:w1.heap[a.block]? = w.heap[a.block]?):w1.cell? a=w.cell? a:=by simp[World.cell?,h]
theorem EV.mono{σ:Bp}(le:ρ.le σ){vars:List Tmp}{var:List AV}{tmps:Array Value}(h:EV ρ vars var tmps):EV σ vars var tmps:=
 fun t k hk=>let ⟨h1,v,h2,h3⟩:=h t k hk;⟨h1,v,h2,h3.mono le⟩
theorem Gr.mono    {o : C0}   {rb : RB} (h : Gr    P ρ w o rb) (le : ρ.le ρ1) (hk : w1.heap[rb.b]? = w.heap[rb.b]?) : Gr    P ρ1 w1 o rb := by
  cases o with
  | row r =>
    exact⟨fun k v hk' hv=>by
        obtain⟨v',h1,h2⟩:=h.cells k v hk' hv
        exact⟨v',(IX (a:=⟨rb.b,_,none⟩) hk).trans h1,h2.mono le⟩,
      h.le,h.sz,h.tight,fun hm=>by
        obtain⟨cs,e,h1,h2⟩:=h.own hm
        exact⟨cs,e,hk.trans h1,h2⟩,fun p hp=>let ⟨rp,h1⟩:=h.par p hp;⟨rp,le _ _ h1⟩⟩
  | map es clock =>
    obtain⟨es',h1,h2⟩:=h
    exact⟨es',hk.trans h1,h2.mono le⟩
  | loop l =>
    obtain⟨L,h0,h1,h2,h4,h5,h6,⟨rd,h7,h7'⟩,h8,h9⟩:=h.ex
    exact⟨L,hk.trans h0,h1,h2,h4,h5,h6,⟨rd,le _ _ h7,h7'⟩,h8.mono le,h9⟩
  | mark=>exact hk.trans h
  | iter=>exact h
def Cw(ρ:Bp)(i:Nat)(rb:RB):Bp:=fun j=>if j=i then some rb else ρ j
theorem A2(i:Nat)(rb:RB):Cw ρ i rb i=some rb:=by simp[Cw]
theorem Az{i j:Nat}(rb:RB)(h:j≠i):Cw ρ i rb j=ρ j:=by simp[Cw,h]
theorem Cs{i:Nat}{rb:RB}(h:ρ i=none):ρ.le (Cw ρ i rb):=fun j r hj=>by
 have:j≠i:=fun e=>by subst e;rw[h]at hj;cases hj
 rw[Az rb this];exact hj
theorem CR(s:AF)(o:C0)(j:Nat):(newObj s o).heap.get j=if j=s.next then some o else s.heap.get j:=Aj.get_set _ _ _ _
theorem Dk(s:AF)(i:Nat)(o:C0)(j:Nat):(setObj s i o).heap.get j=if j=i then some o else s.heap.get j:=Aj.get_set _ _ _ _
theorem Bn(s:AF)(i j:Nat):(Cl s i).heap.get j=if j=i then none else s.heap.get j:=Aj.get_del _ _ _
theorem Hk{o:Obj}{b:Nat}(h:b<w.heap.size):(w.alloc o).heap[b]? = w.heap[b]? :=
 Go.RowKit.Below.heap_alloc w o b h
theorem Bu.new  (h : Bu  P ρ s w) {o : C0}   {o' : Obj} {rb : RB} (hf : ρ s.next = none) (hb : rb.b = w.heap.size)
    (ho:Gr P (Cw ρ s.next rb) (w.alloc o') o rb):
    Bu P (Cw ρ s.next rb) (newObj s o) (w.alloc o')∧Fr ρ s w (Cw ρ s.next rb) (newObj s o) (w.alloc o'):=by
  have hle:=Cs (rb:=rb) hf
  refine⟨⟨?_,?_,?_⟩,?_⟩
  · intro i oi ri hi hr
    rw[CR]at hi
    by_cases e:i=s.next
    · subst e
      rw[if_pos rfl]at hi
      injection hi with hi
      rw[A2]at hr
      injection hr with hr
      subst hi;subst hr
      exact ho
    · rw [if_neg e] at hi
      rw[Az rb e]at hr
      exact(h.obj i oi ri hi hr).mono hle (Hk (h.lt i ri hr))
  · intro i ri hr
    by_cases e:i=s.next
    · subst e
      rw[A2]at hr
      injection hr with hr
      subst hr
      simp[hb]
    · rw[Az rb e]at hr
      have:=h.lt i ri hr
      simp;omega
  · intro i j oi oj ri rj hne hi hj hri hrj hbb hw
    rw[CR]at hi hj
    by_cases ei:i=s.next
    · subst ei
      have ej:j≠s.next:=fun e=>hne e.symm
      rw[A2]at hri
      rw[Az rb ej]at hrj
      injection hri with hri
      subst hri
      have:=h.lt j rj hrj
      omega
    · by_cases ej : j = s.next
      · subst ej
        rw[Az rb ei]at hri
        rw[A2]at hrj
        injection hrj with hrj
        subst hrj
        have:=h.lt i ri hri
        omega
      · rw [if_neg ei] at hi
        rw[if_neg ej]at hj
        rw[Az rb ei]at hri
        rw[Az rb ej]at hrj
        exact h.sep i j oi oj ri rj hne hi hj hri hrj hbb hw
  · refine ⟨hle, ?_, by simp [newObj], by simp, rfl, rfl, rfl, fun b hb _ => Hk            hb, ?_, ?_⟩
    · intro i hi hr
      have:i≠s.next:=by simp[newObj]at hr;omega
      rw[Az rb this];exact hi
    · rintro b ⟨i, oi, ri, hi, hw, hr, rfl⟩
      rw[CR]at hi
      by_cases e:i=s.next
      · subst e
        rw[A2]at hr
        injection hr with hr
        subst hr
        exact .inr (by omega)
      · rw [if_neg e] at hi
        rw[Az rb e]at hr
        exact .inl ⟨i,oi,ri,hi,hw,hr,rfl⟩
    · intro i _ hi
      rw[CR,if_neg (by simp[newObj]at hi;omega)]
theorem Bu.set  (h : Bu  P ρ s w) {i : Nat} {o o1 : C0}   {rb : RB} (hg : s.heap.get i = some o) (hr : ρ i = some rb) (hw : wr o = true) (hp : ∀ p, Nk    o = some p → p ≠ i → s.heap.get p = none)
    (hp1:Nk o1=none) (hsz:w1.heap.size=w.heap.size) (hkeep:∀b,b≠rb.b→w1.heap[b]? = w.heap[b]?) (hos:w1.os=w.os) (htape:w1.tape=w.tape) (hout:w1.output=w.output)
    (ho:Gr P ρ w1 o1 rb):Bu P ρ (setObj s i o1) w1∧Fr ρ s w ρ (setObj s i o1) w1:=by
  have hsep:∀j oj rj,j≠i→s.heap.get j=some oj→ρ j=some rj→rj.b≠rb.b:=by
    intro j oj rj hne hj hrj e
    have:=hp j (h.sep j i oj o rj rb hne hj hg hrj hr e hw).1 hne
    rw[hj]at this
    cases this
  refine⟨⟨?_,?_,?_⟩,?_⟩
  · intro j oj rj hj hrj
    rw[Dk]at hj
    by_cases e:j=i
    · subst e
      rw[if_pos rfl]at hj
      injection hj with hj
      subst hj
      rw[hr]at hrj
      injection hrj with hrj
      subst hrj
      exact ho
    · rw[if_neg e]at hj
      exact(h.obj j oj rj hj hrj).mono (Bp.le_refl ρ) (hkeep _ (hsep j oj rj e hj hrj))
  · intro j rj hrj
    rw[hsz];exact h.lt j rj hrj
  · intro j k oj ok rj rk hne hj hk hrj hrk hbb hwk
    rw[Dk]at hj hk
    by_cases ej:j=i
    · subst ej
      have ek:k≠j:=fun e=>hne e.symm
      rw[if_neg ek]at hk
      rw[hr]at hrj
      injection hrj with hrj
      subst hrj
      exact absurd hbb.symm (hsep k ok rk ek hk hrk)
    · by_cases ek : k = i
      · subst ek
        rw[if_neg ej]at hj
        rw[hr]at hrk
        injection hrk with hrk
        subst hrk
        exact absurd hbb (hsep j oj rj ej hj hrj)
      · rw [if_neg ej] at hj
        rw[if_neg ek]at hk
        exact h.sep j k oj ok rj rk hne hj hk hrj hrk hbb hwk
  · refine ⟨Bp.le_refl  ρ, fun _ h _ => h, qI          _, by omega, hos, htape, hout, ?_, ?_, ?_⟩
    · intro b _ hno
      exact hkeep b (fun e=>hno ⟨i,o,rb,hg,hw,hr,e.symm⟩)
    · rintro b ⟨j, oj, rj, hj, hwj, hrj, rfl⟩
      rw[Dk]at hj
      by_cases e:j=i
      · subst e
        rw[hr]at hrj
        injection hrj with hrj
        subst hrj
        exact .inl ⟨j,o,rb,hg,hw,hr,rfl⟩
      · rw[if_neg e]at hj
        exact .inl ⟨j,oj,rj,hj,hwj,hrj,rfl⟩
    · intro j hrj _
      rw[Dk,if_neg]
      intro e
      subst e
      rw[hr]at hrj
      cases hrj
theorem Bu.del  (h : Bu  P ρ s w) {i : Nat} {rb : RB} (hr : ρ i = some rb) : Bu  P ρ (Cl     s i) w ∧ Fr ρ s w ρ (Cl     s i) w := by
  refine⟨⟨?_,h.lt,?_⟩,⟨Bp.le_refl ρ,fun _ h _=>h,qI _,qI _,rfl,rfl,rfl,fun _ _ _=>rfl,?_,?_⟩⟩
  · intro j oj rj hj hrj
    rw[Bn]at hj
    by_cases e:j=i
    · rw[if_pos e]at hj;cases hj
    · rw[if_neg e]at hj
      exact h.obj j oj rj hj hrj
  · intro j k oj ok rj rk hne hj hk
    rw[Bn]at hj hk
    by_cases ej:j=i
    · rw[if_pos ej]at hj;cases hj
    · by_cases ek : k = i
      · rw[if_pos ek]at hk;cases hk
      · rw [if_neg ej] at hj
        rw[if_neg ek]at hk
        exact h.sep j k oj ok rj rk hne hj hk
  · rintro b ⟨j, oj, rj, hj, hwj, hrj, rfl⟩
    rw[Bn]at hj
    by_cases e:j=i
    · rw[if_pos e]at hj;cases hj
    · rw[if_neg e]at hj
      exact .inl ⟨j,oj,rj,hj,hwj,hrj,rfl⟩
  · intro j hrj _
    rw[Bn,if_neg]
    intro e
    subst e
    rw[hr]at hrj
    cases hrj
theorem Cd{i:Nat}{r:EY}(h:rowAt s i=some r):s.heap.get i=some (.row r):=by
 unfold rowAt at h
 split at h
 ·injection h with h;subst h;assumption
 ·cases h
theorem Co(b o k:Nat):(⟨b,o,none⟩:Addr).add k=⟨b,o+k,none⟩:=by unfold Addr.add;split<;>simp_all
theorem Ed(h:Bu P ρ s w){i off n:Nat}{l:List AV}{rb:RB}(hr:ρ i=some rb)(hl:loadN s i off n=some l):
  ∃l':List Value,AY ρ l l'∧l'.length=n∧∀w1:World,w1.heap=w.heap→(loadCells ⟨rb.b,rb.off+off,none⟩ n).run P w1=.ok l'.toArray w1:=by
 unfold loadN at hl
 simp only[qJ]at hl
 obtain⟨r,hrow,hl⟩:=hl
 obtain⟨hb,hl⟩:=AJ hl
 have hb:off+n≤r.n:=by simpa[qT]using hb
 have hok:FG ρ w r rb:=h.obj i _ rb (Cd hrow) hr
 have hlen:=Aj.take_length hl
 have hc:∀k,k<n→∃v v',l[k]? = some v∧w.cell? ⟨rb.b,rb.off+off+k,none⟩=some v'∧Aa ρ v v':=by
  intro k hk
  have hv:l[k]? = some l[k]:=qP (by omega)
  have hg:=Aj.take_get hl k hk
  rw[hv]at hg
  obtain⟨v',h1,h2⟩:=hok.cells (off+k) _ (by omega) hg
  exact⟨l[k],v',hv,by rw[show rb.off+off+k=rb.off+(off+k)from by omega];exact h1,h2⟩
 let f:Nat→Value:=fun k=>(w.cell? ⟨rb.b,rb.off+off+k,none⟩).getD undef
 have hf:∀k,k<n→w.cell? ⟨rb.b,rb.off+off+k,none⟩=some (f k):=by
  intro k hk
  obtain⟨v,v',_,h2,_⟩:=hc k hk
  simp[f,h2]
 refine⟨(List.range n).map f,?_,by simp,?_⟩
 ·refine AY.of_get (by simp[hlen]) ?_
  intro k v v' hv hv'
  have hk:k<n:=by
   rcases qN k n with h' | h'
   ·exact h'
   ·rw[qZ (by omega)]at hv;cases hv
  obtain⟨u,u',h1,h2,h3⟩:=hc k hk
  rw[h1]at hv
  injection hv with hv
  subst hv
  rw[qs,List.getElem?_range hk]at hv'
  simp only[rl]at hv'
  injection hv' with hv'
  rw[← hv']
  have:f k=u':=by simp[f,h2]
  rw[this];exact h3
 ·intro w1 he
  exact run_loadCells w1 _ n f (fun j hj=>by rw[Co];exact(IX (by rw[he])).trans (hf j hj))
theorem bK(h:Bu P ρ s w){i off:Nat}{v:AV}{rb:RB}(hr:ρ i=some rb)(hl:load1 s i off=some v):
  ∃v',Aa ρ v v'∧w.cell? ⟨rb.b,rb.off+off,none⟩=some v':=by
 unfold load1 at hl
 simp only[qJ]at hl
 obtain⟨r,hrow,hl⟩:=hl
 obtain⟨hb,hl⟩:=AJ hl
 have hb:off<r.n:=by simpa[qj]using hb
 have hok:FG ρ w r rb:=h.obj i _ rb (Cd hrow) hr
 obtain⟨v',h1,h2⟩:=hok.cells off v hb hl
 exact⟨v',h2,h1⟩
theorem P7       (h : Bu  P ρ s w) {t : TypeId} {a v : AV} {a' : Value} (hl : AD    P s t a = some v) (ha : Aa   ρ a a') :
    ∃v',(Instr.loadAt t a').run P w=.ok v' w∧Aa ρ v v'∧∃ad,a'=.pointer (some ad)∧(loadVar t ad).run P w=.ok v' w:=by
  unfold AD at hl
  split at hl<;>first | (cases hl;done) | skip
  rename_i i o
  cases ha with
  | ptr hr =>
    rename_i rb
    simp only[qJ]at hl
    obtain⟨g,hg,hl⟩:=hl
    cases g with
    | true =>
      simp only[qJ]at hl
      obtain⟨n,hn,l,hl,hv⟩:=hl
      injection hv with hv;subst hv
      obtain⟨l',h1,h2,h3⟩:=Ed h hr hl
      have hrun:(loadVar t ⟨rb.b,rb.off+o,none⟩).run P w=.ok (.agg l'.toArray) w:=by
        simp[loadVar,Kt hg,BM hn,h3 w rfl]
      exact⟨.agg l'.toArray,by simp[Instr.loadAt,Instr.sureAddr,hrun],.agg (by simpa using h1),_,rfl,hrun⟩
    | false =>
      obtain⟨v',h1,h2⟩:=bK h hr hl
      have hrun:(loadVar t ⟨rb.b,rb.off+o,none⟩).run P w=.ok v' w:=by
        simp[loadVar,Kt hg,h2]
      exact⟨v',by simp[Instr.loadAt,Instr.sureAddr,hrun],h1,_,rfl,hrun⟩
end
section
variable{P:Program}{ρ ρ1 ρ2:Bp}{s s1 s2:AF}{w w1 w2:World}
theorem bM{e:TypeId}{sz:Nat}{l:List AV}{cs:Array Value}{t:TypeId}(hl:AY ρ l cs.toList)(b:Nat)(hb:w.heap[b]? = some (.cells cs t (0,0))):
  Gr P ρ w (AO e sz l) ⟨b,0,l.length,sz⟩:=by
 have hlen:=hl.length
 refine⟨?_,qI _,rfl,fun _=>rfl,fun _=>⟨cs,t,hb,by simp[hlen]⟩,fun p hp=>by cases hp⟩
 intro k v hk hv
 simp only[Aj.get_fill,qO,qU,true_and,rV]at hv
 rw[if_pos hk]at hv
 obtain⟨v',h1,h2⟩:=hl.get hv
 refine⟨v',?_,h2⟩
 simp only[World.cell?,hb,qU]
 rw[← Array.getElem?_toList]
 simpa using h1
theorem HZ(h:Bu P ρ s w)(hf:ρ s.next=none){e t:TypeId}{sz:Nat}{l:List AV}{cs:Array Value}(hl:AY ρ l cs.toList):
  ∃ρ',ρ' s.next=some ⟨w.heap.size,0,l.length,sz⟩∧Bu P ρ' (newObj s (AO e sz l)) (w.alloc (.cells cs t))∧Fr ρ s w ρ' (newObj s (AO e sz l)) (w.alloc (.cells cs t)):=by
 have hle:=Cs (rb:=⟨w.heap.size,0,l.length,sz⟩) hf
 obtain⟨h1,h2⟩:=h.new (o:=AO e sz l) (o':=.cells cs t) (rb:=⟨w.heap.size,0,l.length,sz⟩) hf rfl
  (bM (hl.mono hle) _ (World.alloc_heap_new w _))
 exact⟨_,A2 _ _,h1,h2⟩
theorem Hc        (h : Bu  P ρ s w) {i off : Nat} {vs : List AV} {vs' : List Value} {rb : RB} (hr : ρ i = some rb) (hs : CK     s i off vs = some s1) (hv : AY    ρ vs vs') :
    ∃w1,(storeCells ⟨rb.b,rb.off+off,none⟩ vs').run P w=.ok () w1∧Bu P ρ s1 w1∧Fr ρ s w ρ s1 w1:=by
  cases vs with
  | nil =>
    cases hv
    simp only[CK]at hs
    injection hs with hs
    subst hs
    exact⟨w,rfl,h,Fr.refl _ _ _⟩
  | cons v0 vs0 =>
    have hsv:CK s i off (v0::vs0)=(rowAt s i).bind fun r =>
      AI (Ec r.mode && Nat.ble (off+(v0::vs0).length) r.n && Ak (v0::vs0))
        (some (setObj (Av s i r) i (.row { r with c:=r.c.fill off (v0::vs0),par:=none }))):=rfl
    rw[hsv]at hs
    generalize v0::vs0=vs at hs hv
    simp only[qJ]at hs
    obtain⟨r,hrow,hs⟩:=hs
    obtain⟨hb,hs⟩:=AJ hs
    injection hs with hs
    subst hs
    simp only[Bool.and_eq_true,qT]at hb
    obtain⟨⟨hown,hle⟩,hall⟩:=hb
    have hg:=Cd hrow
    have hok:FG ρ w r rb:=h.obj i _ rb hg hr
    have hmode:r.mode≠.ro:=fun e=>by rw[e]at hown;cases hown
    obtain⟨cs,e,hblk,hsz⟩:=hok.own hmode
    have hlen:=hv.length
    have hfit:rb.off+off+vs'.length≤cs.size:=by have:=hok.le;omega
    have hrun:=run_storeCells_at P rb.b (rb.off+off) e vs' 0 cs w hblk (by simpa using hfit) (hv.oneCell hall)
    refine⟨_,hrun,?_⟩
    simp only[rN]
    generalize hnew:(cs.toList.take (rb.off+off)++vs'++cs.toList.drop (rb.off+off+vs'.length)).toArray=cs1
    have hblk1:(w.setRow rb.b cs1).heap[rb.b]? = some (.cells cs1 e (0,0)):=setRow_heap w rb.b cs cs1 e (0,0) hblk
    have hsize1:cs1.size=cs.size:=by rw[← hnew];simp;omega
    have hget:∀k,cs1[k]? = if rb.off+off≤k∧k<rb.off+off+vs'.length then vs'[k - (rb.off+off)]? else cs[k]? := by
      intro k
      rw[← hnew,List.getElem?_toArray]
      by_cases h1:k<rb.off+off
      · rw[if_neg (by omega),qz,qX (by simp;omega),qq h1,Array.getElem?_toList]
      · rw[qz,qY (by simp;omega)]
        have hmin:(cs.toList.take (rb.off+off)).length=rb.off+off:=by simp;omega
        rw[hmin]
        by_cases h2:k<rb.off+off+vs'.length
        · rw[if_pos (by omega),qX (by omega)]
        · rw[if_neg (by omega),qY (by omega),qk,← Array.getElem?_toList]
          congr 1
          omega
    have key:∀sx:AF,Bu P ρ sx w→Fr ρ s w ρ sx w→sx.heap.get i=some (.row r)→(∀p,r.par=some p→p≠i→sx.heap.get p=none) →
        Bu P ρ (setObj sx i (.row { r with c:=r.c.fill off vs,par:=none })) (w.setRow rb.b cs1) ∧
        Fr ρ s w ρ (setObj sx i (.row { r with c:=r.c.fill off vs,par:=none })) (w.setRow rb.b cs1):=by
      intro sx hx hfx hgx hpx
      obtain⟨h1,h2⟩:=hx.set (o1:=.row { r with c:=r.c.fill off vs,par:=none }) (w1:=w.setRow rb.b cs1) hgx hr (by simpa[wr]using hown) hpx rfl (by simp)
        (fun b hb=>setRow_other w rb.b b cs1 hb) rfl rfl rfl (by
          refine⟨?_,hok.le,hok.sz,hok.tight,fun _=>⟨cs1,e,hblk1,by rw[hsize1];exact hsz⟩,fun p hp=>by cases hp⟩
          intro k v hk hkv
          simp only[Aj.get_fill]at hkv
          have hcell:(w.setRow rb.b cs1).cell? ⟨rb.b,rb.off+k,none⟩=cs1[rb.off+k]? := by simp[World.cell?,hblk1]
          rw[hcell,hget]
          by_cases hin:off≤k∧k<off+vs.length
          · rw [if_pos hin] at hkv
            rw[if_pos (by omega),show rb.off+k - (rb.off+off)=k - off from by omega]
            exact hv.get hkv
          · rw [if_neg hin] at hkv
            rw[if_neg (by omega)]
            obtain⟨v',h1,h2⟩:=hok.cells k v hk hkv
            refine⟨v',?_,h2⟩
            simpa[World.cell?,hblk]using h1)
      exact⟨h1,hfx.trans h2⟩
    unfold Av
    split
    · rename_i hp
      exact key s h (Fr.refl _ _ _) hg (fun p hp' _=>by rw[hp]at hp';cases hp')
    · rename_i p hp
      by_cases hpi:p=i
      · have:Nat.beq p i=true:=by rw[hpi];simp[Nat.beq_eq]
        rw[this]
        exact key s h (Fr.refl _ _ _) hg (fun q hq hqi=>by rw[hp]at hq;injection hq with hq;exact absurd (hq.symm.trans hpi) hqi)
      · rw[Aj.beq_no hpi]
        obtain⟨rp,hrp⟩:=hok.par p hp
        obtain⟨hd,hfd⟩:=h.del hrp
        exact key (Cl s p) hd hfd (by rw[Bn,if_neg (fun e=>hpi e.symm)];exact hg) (fun q hq _=>by
          rw[hp]at hq
          injection hq with hq
          subst hq
          rw[Bn,if_pos rfl])
theorem A3{a b:Nat}(h:Nat.beq a b=true):a=b:=qu h
theorem WS(h:Bu P ρ s w){t:TypeId}{a v:AV}{a' v':Value}(hs:AM P s t a v=some s1)(ha:Aa ρ a a')(hv:Aa ρ v v'):
  ∃w1,(Instr.storeAt t a' v').run P w=.ok () w1∧Bu P ρ s1 w1∧Fr ρ s w ρ s1 w1:=by
 unfold AM at hs
 split at hs<;>first | (cases hs;done) | skip
 rename_i i o
 cases ha with
 | ptr hr =>
  rename_i rb
  simp only[qJ]at hs
  obtain⟨n,hn,hs⟩:=hs
  obtain⟨hb,hs⟩:=AJ hs
  have hb:=A3 hb
  obtain⟨w1,h1,h2⟩:=Hc h hr hs hv.cells
  refine⟨w1,?_,h2⟩
  have hc:v'.cells.size=n:=by have:=hv.cells.length;simp at this;omega
  simp[Instr.storeAt,Instr.sureAddr,storeVar,BM hn,hc,h1]
def M8(P:Program)(ρ:Bp)(s:AF)(w:World)(sem:Sem Value)(o:C0)(m:Made):Prop:=
 ∃v' w' ρ',sem.run P w=.ok v' w'∧Aa ρ' (m.val s.next) v'∧Bu P ρ' (newObj s o) w'∧Fr ρ s w ρ' (newObj s o) w'
theorem VD(h:Bu P ρ s w)(hf:ρ s.next=none){e:TypeId}{o:C0}{m:Made}(hs:Bi P e=some (o,m)):
  M8 P ρ s w (Instr.alloc e true (.tuple #[])) o m:=by
 unfold Bi at hs
 simp only[qJ]at hs
 obtain⟨z,hz,hs⟩:=hs
 injection hs with hs
 injection hs with h1 h2
 subst h1;subst h2
 obtain⟨z',hz',hzr⟩:=Iz (w:=w) ρ hz
 obtain⟨ρ',h1,h2,h3⟩:=HZ h hf (e:=e) (t:=e) (sz:=0) hzr.cells
 exact⟨.pointer (some ⟨w.heap.size,0,none⟩),_,ρ',by simp[Instr.alloc,hz',newVar,newRow],Aa.ptr h1,h2,h3⟩
theorem c9(h:Bu P ρ s w)(hf:ρ s.next=none){e:TypeId}{v:AV}{v':Value}{o:C0}{m:Made}(hs:DS e v=some (o,m))(hv:Aa ρ v v'):
  M8 P ρ s w (Instr.box e v') o m:=by
 unfold DS at hs
 injection hs with hs
 injection hs with h1 h2
 subst h1;subst h2
 obtain⟨ρ',h1,h2,h3⟩:=HZ h hf (e:=e) (t:=e) (sz:=0) hv.cells
 exact⟨.pointer (some ⟨w.heap.size,0,none⟩),_,ρ',by simp[Instr.box,newVar,newRow],Aa.ptr h1,h2,h3⟩
theorem Tj(h:Bu P ρ s w)(hf:ρ s.next=none)(t:TypeId):M8 P ρ s w (Instr.makeMap t none) (.map [] 0) .map:=by
 have hle:=Cs (rb:=⟨w.heap.size,0,0,0⟩) hf
 obtain⟨h1,h2⟩:=h.new (o:=.map [] 0) (o':=.map #[] 0) (rb:=⟨w.heap.size,0,0,0⟩) hf rfl ⟨#[],World.alloc_heap_new w _,.nil⟩
 exact⟨.map (some w.heap.size),_,_,by simp[Instr.makeMap],Aa.map (A2 _ _),h1,h2⟩
theorem Lq       {place : Nat → Option (Nat × Nat)} {place' : Nat → Option (Nat × Nat)} (hp : ∀ i p, place i = some p → place' i = some p) :
    ∀ {parts:List (Nat×AV)} {parts':List (Nat×Value)} {cs l:List AV} {cs':Array Value},Dp place cs parts=some l→AY ρ cs cs'.toList →
      (parts.map (·.1)=parts'.map (·.1))→AY ρ (parts.map (·.2)) (parts'.map (·.2))→∃l',Instr.fill place' cs' parts'=some l'∧AY ρ l l'.toList:=by
  intro parts
  induction parts with
  | nil =>
    intro parts' cs l cs' h hc hm hv
    cases parts' with
    | nil=>simp[Dp]at h;subst h;exact⟨cs',rfl,hc⟩
    | cons=>simp at hm
  | cons p rest ih =>
    intro parts' cs l cs' h hc hm hv
    cases parts' with
    | nil=>simp at hm
    | cons p' rest' =>
      obtain⟨i,v⟩:=p
      obtain⟨i',v'⟩:=p'
      simp only[rI,List.cons.injEq]at hm
      obtain⟨hi,hm⟩:=hm
      skip
      subst hi
      simp only[rI]at hv
      cases hv with
      | cons hv hvs =>
        simp only[Dp,qJ]at h
        obtain⟨q,hq,h⟩:=h
        obtain⟨hb,h⟩:=AJ h
        simp only[Bool.and_eq_true,qT]at hb
        obtain⟨hb1,hb2⟩:=hb
        have hb1:=A3 hb1
        have hvc:=hv.cells
        have hvl:=hvc.length
        have hcl:=hc.length
        simp only[Array.length_toList]at hvl hcl
        have hnew:AY ρ (cs.take q.1++(v.cells++cs.drop (q.1+v.cells.length)))
            (v'.cells.zipIdx.foldl (fun cs (c,j)=>cs.setIfInBounds (q.1+j) c) cs').toList:=by
          have e:(v'.cells.zipIdx.foldl (fun cs (c,j)=>cs.setIfInBounds (q.1+j) c) cs').toList=cs'.toList.take q.1++(v'.cells.toList++cs'.toList.drop (q.1+v.cells.length)):=by
            have key:∀ (l:List Value) (k:Nat) (a:Array Value),q.1+k+l.length≤a.size →
                ((l.zipIdx k).foldl (fun cs (x:Value×Nat)=>cs.setIfInBounds (q.1+x.2) x.1) a).toList=a.toList.take (q.1+k)++(l++a.toList.drop (q.1+k+l.length)):=by
              intro l
              induction l with
              | nil=>intro k a _;simp
              | cons x l ihl =>
                intro k a hk
                simp only[qh]at hk
                rw[List.zipIdx_cons,q0,ihl (k+1) _ (by simp;omega)]
                simp only[Array.toList_setIfInBounds,qh]
                have e:=list_seg_step a.toList (q.1+k) x l (by simp;omega)
                simpa[rA,qz]using e
            have:=key v'.cells.toList 0 cs' (by simp;omega)
            simp only[rN]at this
            rw[← Array.foldl_toList,Array.toList_zipIdx]
            rw[hvl]
            simpa using this
          rw[e]
          exact(hc.take _).append (hvc.append (hc.drop _))
        obtain⟨l',h1,h2⟩:=ih h hnew hm hvs
        refine⟨l',?_,h2⟩
        have hpq:=hp i q hq
        obtain⟨o,n⟩:=q
        simp only[Instr.fill,hpq]
        have c1:¬ (v'.cells.size≠n∨o+v'.cells.size > cs'.size):=by simp only at hb1 hb2;omega
        have:(decide (v'.cells.size≠n) || decide (o+v'.cells.size > cs'.size))=false:=by
          rw[Bool.eq_false_iff];intro hh;apply c1;simpa using hh
        simp only[this]
        exact h1
theorem Hj:∀ {fs:List Field}{l:List (Nat×Nat)},B0 P fs=some l →
  ∀w:World,((fs.mapM fun f=>do pure (f.offset,← sizeOf f.type):Sem (List (Nat×Nat)))).run P w=.ok l w
 | [],l,h,w=>by simp[B0]at h;subst h;rfl
 | f::fs,l,h,w=>by
  simp only[B0,qJ]at h
  obtain⟨n,hn,r,hr,h⟩:=h
  injection h with h
  subst h
  have ih:=Hj hr w
  simp only[List.mapM_cons,Sem.run_bind,BM hn,Sem.run_pure,Result.andThen_ok,ih]
theorem VG{t:TypeId}{parts:List (Nat×AV)}{parts':Array (Nat×Value)}{v:AV}(h:Bz P t parts=some v)
  (hm:parts.map (·.1)=parts'.toList.map (·.1)) (hv:AY ρ (parts.map (·.2)) (parts'.toList.map (·.2))) (w:World):
  ∃v',(Instr.build t parts').run P w=.ok v' w∧Aa ρ v v':=by
 unfold Bz at h
 simp only[qJ]at h
 obtain⟨z,hz,h⟩:=h
 obtain⟨z',hz',hzr⟩:=Iz (w:=w) ρ hz
 split at h<;>first | (cases h;done) | skip
 ·rename_i fields hf
  simp only[qJ]at h
  obtain⟨places,hpl,l,hl,h⟩:=h
  injection h with h
  subst h
  have hpl':=Hj hpl w
  obtain⟨l',h1,h2⟩:=Lq (place':=fun i=>(places.toArray)[i]?) (fun i p hp=>by simpa using hp) hl hzr.cells hm hv
  refine⟨.agg l',?_,.agg h2⟩
  have hma:(fields.mapM fun f=>do pure (f.offset,← sizeOf f.type):Sem (Array (Nat×Nat))).run P w=.ok places.toArray w:=by
   rw[Array.mapM_eq_mapM_toList,Sem.run_map,hpl']
   rfl
  simp only[Instr.build,Sem.run_bind,hz',Result.andThen_ok,AN hf,hma,h1,Sem.run_pure]
 ·rename_i len e hf
  simp only[qJ]at h
  obtain⟨n,hn,l,hl,h⟩:=h
  injection h with h
  subst h
  obtain⟨l',h1,h2⟩:=Lq (place':=fun i=>some (i * n,n)) (fun i p hp=>hp) hl hzr.cells hm hv
  refine⟨.agg l',?_,.agg h2⟩
  simp only[Instr.build,Sem.run_bind,hz',Result.andThen_ok,AN hf,BM hn,h1,Sem.run_pure]
theorem O6      {z : AV} {z' : Value} {n c : Nat} (hz : Aa   ρ z z') (hl : z.cells.length = n) :
    AY ρ (Jx z.cells c) (((Array.range (c * n)).map (z'.cells[· % z'.cells.size]!)).toList):=by
  have hc:=hz.cells
  have hlen:z'.cells.size=n:=by have:=hc.length;simp at this;omega
  have hrl:∀c,(Jx z.cells c).length=c * n:=by
    intro c
    induction c with
    | zero=>simp[Jx]
    | succ c ih=>simp[Jx,ih,hl,Nat.succ_mul];omega
  have hrg:∀ (c k:Nat),k<c * n→(Jx z.cells c)[k]? = z.cells[k % n]? := by
    intro c
    induction c with
    | zero=>intro k hk;omega
    | succ c ih =>
      intro k hk
      simp only[Jx]
      by_cases h1:k<n
      · rw[qX (by omega),Nat.mod_eq_of_lt h1]
      · rw [qY                         (by omega), hl, ih (k - n) (by rw [Nat.succ_mul] at hk; omega)]
        rw[← Nat.mod_eq_sub_mod (by omega)]
  refine AY.of_get (by simp[hrl]) ?_
  intro k v v' hv hv'
  have hk:k<c * n:=by
    rcases qN k (c * n)with h | h
    · exact h
    · rw[qZ (by rw[hrl];omega)]at hv;cases hv
  have hn:0<n:=by
    rcases rG n with h | h
    · subst h;simp at hk
    · exact h
  rw[hrg c k hk]at hv
  obtain⟨u,h1,h2⟩:=hc.get hv
  have:v'=u:=by
    rw[Array.getElem?_toList,Array.getElem?_map,Array.getElem?_range]at hv'
    rw[if_pos hk]at hv'
    simp only[rl]at hv'
    injection hv' with hv'
    rw[← hv',hlen]
    rw[Array.getElem?_toList]at h1
    rw[getElem!_def,h1]
  rw[this]
  exact h2
theorem PB(h:Bu P ρ s w)(hf:ρ s.next=none){t:TypeId}{len:Nat}{parts:List (Nat×AV)}{parts':Array (Nat×Value)}{o:C0}(hs:Ae P t len parts=some o)
  (hm:parts.map (·.1)=parts'.toList.map (·.1)) (hv:AY ρ (parts.map (·.2)) (parts'.toList.map (·.2))):
  M8 P ρ s w (Instr.buildSlice t len parts') o (.slice len):=by
 unfold Ae at hs
 split at hs<;>first | (cases hs;done) | skip
 rename_i e he
 simp only[qJ]at hs
 obtain⟨n,hn,hs⟩:=hs
 obtain⟨hb,hs⟩:=AJ hs
 have hb:len * n≤16777216:=by simpa[qT]using hb
 simp only[qJ]at hs
 obtain⟨z,hz,hs⟩:=hs
 obtain⟨hc,hs⟩:=AJ hs
 simp only[qJ]at hs
 obtain⟨l,hl,hs⟩:=hs
 injection hs with hs
 subst hs
 obtain⟨z',hz',hzr⟩:=Iz (w:=w) ρ hz
 have hz2:=O6 (c:=len) hzr (A3 hc)
 obtain⟨l',h1,h2⟩:=Lq (place':=fun i=>some (i * n,n)) (fun i p hp=>hp) hl hz2 hm hv
 obtain⟨ρ',g1,g2,g3⟩:=HZ h hf (e:=e) (t:=e) (sz:=n) h2
 refine⟨.slice (some ⟨w.heap.size,0,none⟩) len len,_,ρ',?_,Aa.slice g1 (qI _),g2,g3⟩
 have hbig:¬ len * n > 2 ^ 24:=by omega
 by_cases h0:len * n=0
 ·have hr0:Array.range 0=#[]:=by simp
  rw[h0,hr0]at h1
  simp only[Array.map_empty]at h1
  simp[Instr.buildSlice,AN he,BM hn,h0,hr0,h1,newRow]
 ·simp[Instr.buildSlice,AN he,BM hn,hbig,h0,hz',h1,newRow]
theorem M0(h:Bu P ρ s w)(hf:ρ s.next=none){t:TypeId}{l c:AV}{l' c':Value}{o:C0}{m:Made}(hs:EN P t l c=some (o,m))
  (hl:Aa ρ l l') (hc:Aa ρ c c'):M8 P ρ s w (Instr.makeSlice t l' c') o m:=by
 unfold EN at hs
 split at hs<;>first | (cases hs;done) | skip
 rename_i e l0 c0 he
 cases hl;cases hc
 simp only[qJ]at hs
 obtain⟨by_,hby,n,hn,hs⟩:=hs
 obtain⟨hb,hs⟩:=AJ hs
 simp only[Bool.and_eq_true,qT]at hb
 obtain⟨⟨hlc,hb1⟩,hb2⟩:=hb
 have hlc:=A3 hlc
 subst hlc
 simp only[qJ]at hs
 obtain⟨z,hz,hs⟩:=hs
 obtain⟨hc,hs⟩:=AJ hs
 injection hs with hs
 injection hs with hs1 hs2
 subst hs1;subst hs2
 obtain⟨z',hz',hzr⟩:=Iz (w:=w) ρ hz
 have hz2:=O6 (c:=l0) hzr (A3 hc)
 obtain⟨i,hi,hi2⟩:=V9 (w:=w) hby
 obtain⟨ρ',g1,g2,g3⟩:=HZ h hf (e:=e) (t:=e) (sz:=n) hz2
 refine⟨.slice (some ⟨w.heap.size,0,none⟩) l0 l0,_,ρ',?_,Aa.slice g1 (qI _),g2,g3⟩
 have hw:IntKind.i64.wrap (l0:Int)=(l0:Int):=Kw (k:=.i64) (n:=Int.ofNat l0) (by simp[CD,qT];omega)
 have hmul:((by_:Int) * (l0:Int))≤1099511627776:=by
  have:((by_ * l0:Nat):Int)≤1099511627776:=by omega
  simpa using this
 have h1:¬ ((l0:Int)<0):=by omega
 have h2:¬ ((i.bytes:Int) * (l0:Int) > 2 ^ 48):=by rw[hi2];omega
 have h3:¬ ((281474976710656:Int)<(i.bytes:Int) * (l0:Int)):=by omega
 by_cases h0:l0 * n=0
 ·have hr0:Array.range 0=#[]:=by simp
  simp[Instr.makeSlice,AN he,asInt,asIntOf,hi,hw,h1,h3,BM hn,h0,newRow,hr0]
 ·simp[Instr.makeSlice,AN he,asInt,asIntOf,hi,hw,h1,h3,BM hn,h0,hz',newRow]
end
section
variable{P:Program}{ρ ρ1 ρ2:Bp}{s s1 s2:AF}{w w1 w2:World}
theorem Bu.drawn(h:Bu P ρ s w)(d:Nat):Bu P ρ s { w with drawn:=d }:=
 ⟨fun i o rb hi hr=>(h.obj i o rb hi hr).mono (Bp.le_refl ρ) rfl,h.lt,h.sep⟩
theorem Fr.drawn'(d:Nat):Fr ρ s w ρ s { w with drawn:=d }:=
 ⟨Bp.le_refl ρ,fun _ h _=>h,qI _,qI _,rfl,rfl,rfl,fun _ _ _=>rfl,fun _ h=>.inl h,fun _ _ _=>rfl⟩
theorem Bu.split  (h : Bu  P ρ s w) {i : Nat} {r rj : EY}   {rb rbj : RB} (hg : s.heap.get i = some (.row r)) (hr : ρ i = some rb) (hown : Ec    r.mode = true)
    (hsole:∀k ok rk,k≠i→s.heap.get k=some ok→ρ k=some rk→rk.b≠rb.b) (hf:ρ s.next=none)
    (hn2:s2.next=s.next) (hk2:∀k,k≠i→s2.heap.get k=s.heap.get k)
    (hi2:s2.heap.get i=none∨∃r',s2.heap.get i=some (.row r')∧Ec r'.mode=false∧FG ρ w1 r' rb)
    (hj:FG (Cw ρ s.next rbj) w1 rj rbj) (hbj:rbj.b=rb.b) (hpar:s2.heap.get i=none∨rj.par=some i)
    (hsz:w1.heap.size=w.heap.size) (hkeep:∀b,b≠rb.b→w1.heap[b]? = w.heap[b]?) (hos:w1.os=w.os) (htape:w1.tape=w.tape) (hout:w1.output=w.output):
    Bu P (Cw ρ s.next rbj) (newObj s2 (.row rj)) w1∧Fr ρ s w (Cw ρ s.next rbj) (newObj s2 (.row rj)) w1:=by
  have hle:=Cs (rb:=rbj) hf
  have hin:i≠s.next:=fun e=>by rw[e,hf]at hr;cases hr
  have hget:∀k,(newObj s2 (.row rj)).heap.get k=if k=s.next then some (.row rj)else s2.heap.get k:=fun k=>by rw[CR,hn2]
  refine⟨⟨?_,?_,?_⟩,?_⟩
  · intro k ok rk hk hrk
    rw[hget]at hk
    by_cases e:k=s.next
    · subst e
      rw[if_pos rfl]at hk
      injection hk with hk
      rw[A2]at hrk
      injection hrk with hrk
      subst hk;subst hrk
      exact hj
    · rw [if_neg e] at hk
      rw[Az rbj e]at hrk
      by_cases ei:k=i
      · subst ei
        rw[hr]at hrk
        injection hrk with hrk
        subst hrk
        rcases hi2 with h0 | ⟨r',h1,_,h2⟩
        · rw[h0]at hk;cases hk
        · rw[h1]at hk
          injection hk with hk
          subst hk
          exact Gr.mono (o:=.row r') (w:=w1) (w1:=w1) h2 hle rfl
      · rw[hk2 k ei]at hk
        exact(h.obj k ok rk hk hrk).mono hle (hkeep _ (hsole k ok rk ei hk hrk))
  · intro k rk hrk
    by_cases e:k=s.next
    · subst e
      rw[A2]at hrk
      injection hrk with hrk
      subst hrk
      rw[hbj,hsz]
      exact h.lt i rb hr
    · rw [Az           rbj e] at hrk
      rw[hsz]
      exact h.lt k rk hrk
  · intro a c oa oc ra rc hne ha hc hra hrc hbb hwc
    rw[hget]at ha hc
    by_cases ea:a=s.next
    · subst ea
      rw[if_pos rfl]at ha
      rw[A2]at hra
      injection hra with hra
      subst hra
      have ec:c≠s.next:=fun e=>hne e.symm
      rw[if_neg ec]at hc
      rw[Az rbj ec]at hrc
      by_cases eci:c=i
      · subst eci
        rcases hi2 with h0 | ⟨r',h1,h2,_⟩
        · rw[h0]at hc;cases hc
        · rw[h1]at hc
          injection hc with hc
          subst hc
          simp[wr,h2]at hwc
      · rw[hk2 c eci]at hc
        exact absurd (hbb.symm.trans hbj) (hsole c oc rc eci hc hrc)
    · rw [if_neg ea] at ha
      rw[Az rbj ea]at hra
      by_cases ec:c=s.next
      · subst ec
        rw[if_pos rfl]at hc
        injection hc with hc
        subst hc
        rw[A2]at hrc
        injection hrc with hrc
        subst hrc
        by_cases eai:a=i
        · subst eai
          rcases hi2 with h0 | ⟨r',h1,h2,_⟩
          · rw[h0]at ha;cases ha
          · rw[h1]at ha
            injection ha with ha
            subst ha
            rcases hpar with hp | hp
            · rw[h1]at hp;cases hp
            · exact⟨hp,by simpa[wr]using h2⟩
        · rw[hk2 a eai]at ha
          exact absurd (hbb.trans hbj) (hsole a oa ra eai ha hra)
      · rw [if_neg ec] at hc
        rw[Az rbj ec]at hrc
        by_cases eci:c=i
        · subst eci
          rcases hi2 with h0 | ⟨r',h1,h2,_⟩
          · rw[h0]at hc;cases hc
          · rw[h1]at hc
            injection hc with hc
            subst hc
            simp[wr,h2]at hwc
        · rw[hk2 c eci]at hc
          by_cases eai:a=i
          · subst eai
            rw[hr]at hra
            injection hra with hra
            subst hra
            exact absurd hbb.symm (hsole c oc rc eci hc hrc)
          · rw[hk2 a eai]at ha
            exact h.sep a c oa oc ra rc hne ha hc hra hrc hbb hwc
  · refine ⟨hle, ?_, by simp [newObj, hn2], by omega, hos, htape, hout, ?_, ?_, ?_⟩
    · intro k hk hrk
      have:k≠s.next:=by simp[newObj,hn2]at hrk;omega
      rw[Az rbj this];exact hk
    · intro b _ hno
      exact hkeep b (fun e=>hno ⟨i,_,rb,hg,by simpa[wr]using hown,hr,e.symm⟩)
    · rintro b ⟨k, ok, rk, hk, hwk, hrk, rfl⟩
      rw[hget]at hk
      by_cases e:k=s.next
      · subst e
        rw[A2]at hrk
        injection hrk with hrk
        subst hrk
        exact .inl ⟨i,_,rb,hg,by simpa[wr]using hown,hr,hbj.symm⟩
      · rw [if_neg e] at hk
        rw[Az rbj e]at hrk
        by_cases ei:k=i
        · subst ei
          exact .inl ⟨k,_,rk,hg,by simpa[wr]using hown,hrk,rfl⟩
        · rw[hk2 k ei]at hk
          exact .inl ⟨k,ok,rk,hk,hwk,hrk,rfl⟩
    · intro k hrk hk
      rw[hget,if_neg (by simp only[newObj]at hk;omega)]
      have:k≠i:=fun e=>by rw[e,hr]at hrk;cases hrk
      exact hk2 k this
theorem NU        (newLen : Nat) : ∀ (k c : Nat), c < newLen → Builtin.growBy newLen k c ≤ 2 * newLen + 192
  | 0,c,h=>by simp only[Builtin.growBy];omega
  | k + 1, c, h => by
    simp only[Builtin.growBy]
    split
    · omega
    · by_cases h2 : c + (c + 768) / 4 < newLen
      · exact NU newLen k _ h2
      · have:Builtin.growBy newLen k (c+(c+768) / 4)=c+(c+768) / 4:=by
          cases k with
          | zero=>rfl
          | succ k=>simp only[Builtin.growBy];rw[if_pos (by omega)]
        rw[this];omega
theorem Tl{need cap:Nat}(h:cap<need):Builtin.nextslicecap need cap≤2 * need+192:=by
  unfold Builtin.nextslicecap
  split
  · omega
  · split
    · omega
    · exact NU need 4 cap h
theorem bU(d:TypeDesc)(h:∀k,d≠.int k):(match d with | .int _=>true | _=>false)=false:=by
 cases d<;>first | rfl | exact absurd rfl (h _)
theorem P1{e:TypeId}{n:Nat}(h:CQ P e=some n):∃i,(∀w,(typeInfo e).run P w=.ok i w)∧i.bytes=n:=by
 unfold CQ at h
 split at h
 ·injection h with h;rename_i i hi;exact⟨i,fun w=>by simp[typeInfo,hi],h⟩
 ·cases h
structure UJ(P:Program)(e xt:TypeId)(size n:Nat)(x':Value)(new:Array Value)(w:World):Prop where
 ok:(∃d,P.underlying xt=some d∧(∀k,d≠.int k)∧(Builtin.lenOf x').run P w=.ok n w∧∀d,(Builtin.firstCells size n x').run P { w with drawn:=d }=.ok new { w with drawn:=d }) ∨
  (∃k kd,P.underlying xt=some (.int k)∧x'=.int kd (n:Int)∧n≤1099511627776∧n≠0∧∃z,(∀w,(zeroValue e).run P w=.ok z w)∧z.cells.size=size∧new=Builtin.zeroCells z.cells n)
theorem DV{st xt ty e:TypeId}{size by_ n sLen sCap:Nat}{base:Option Addr}{x':Value}{new:Array Value}
    (hu:P.underlying st=some (.slice e)) (hs:BC P e=some size) (hby:CQ P e=some by_) (hsz:size≠0) (hb:(sLen+n) * by_≤1099511627776)
    (hx:UJ P e xt size n x' new w) (hle:sLen+n≤sCap)
    (hst:match base with | some a=>(storeCells (a.add (sLen * size)) new.toList).run P w=.ok () w1 | none=>w1=w):
    (Builtin.append_ #[st,xt] ty #[.slice base sLen sCap,x']).run P w=.ok (.slice base (sLen+n) sCap) w1:=by
  rcases hx.ok with⟨d,hd,hnd,hn,hfc⟩ | ⟨k,kd,hk,rfl,hn,hn0,z,hz,hzs,hnew⟩
  · have hm := bU     d hnd
    have hfc:=hfc w.drawn
    cases base with
    | none =>
      simp only at hst
      subst hst
      simp[Builtin.append_,AN hu,BM hs,AN hd,hn,hle,hfc]
    | some a =>
      simp only at hst
      simp[Builtin.append_,AN hu,BM hs,AN hd,hn,hle,hfc,hst]
  · obtain⟨i,hi,hi2⟩:=P1 hby
    have hw:IntKind.i64.wrap (n:Int)=(n:Int):=Kw (k:=.i64) (n:=Int.ofNat n) (by simp[CD,qT];omega)
    have h0:¬ ((n:Int)<0):=by omega
    have hm1:n * by_≤1099511627776:=qV (rO _ (Nat.le_add_left _ _)) hb
    have h1:¬ ((281474976710656:Int)<(n:Int) * (i.bytes:Int)):=by
      rw[hi2]
      have:((n * by_:Nat):Int)≤1099511627776:=by omega
      have e:((n * by_:Nat):Int)=(n:Int) * (by_:Int):=by simp
      omega
    cases base with
    | none =>
      simp only at hst
      subst hst
      simp[Builtin.append_,AN hu,BM hs,AN hk,asInt,asIntOf,hw,hi,h0,h1,hle,hz]
    | some a =>
      simp only at hst
      rw[hnew]at hst
      have hns:n * size≠0:=Nat.mul_ne_zero hn0 hsz
      simp[Builtin.append_,AN hu,BM hs,AN hk,asInt,asIntOf,hw,hi,h0,h1,hle,hns,hz,hst]
theorem run_append_grow{st xt ty e:TypeId}{size by_ n sLen sCap:Nat}{base:Option Addr}{x':Value}{old new:Array Value}{z:Value}
    (hu:P.underlying st=some (.slice e)) (hs:BC P e=some size) (hby:CQ P e=some by_) (hsz:size≠0)
    (hb:(sLen+n) * by_≤1099511627776) (hb2:sLen+n≤1099511627776)
    (hx:UJ P e xt size n x' new w) (hgt:sCap<sLen+n) (hz:∀w,(zeroValue e).run P w=.ok z w)
    (hold:∀d,(Builtin.firstCells size sLen (.slice base sLen sCap)).run P { w with drawn:=d }=.ok old { w with drawn:=d }):
    ∃newCap,sLen+n≤newCap∧(Builtin.append_ #[st,xt] ty #[.slice base sLen sCap,x']).run P w =
      .ok (.slice (some ⟨w.heap.size,0,none⟩) (sLen+n) newCap) (World.alloc { w with drawn:=w.drawn+1 } (.cells (old++new++Builtin.zeroCells z.cells (newCap - (sLen+n))) e)):=by
  obtain⟨i,hi,hi2⟩:=P1 hby
  have hcap:=Tl hgt
  have hnc:¬ (281474976710656:Nat)<Builtin.nextslicecap (sLen+n) sCap * i.bytes:=by
    rw[hi2]
    have h1:Builtin.nextslicecap (sLen+n) sCap * by_≤(2 * (sLen+n)+192) * by_:=rO _ hcap
    have h2:by_≤(sLen+n) * by_:=Nat.le_mul_of_pos_left _ (by omega)
    have h3:(2 * (sLen+n)+192) * by_=2 * ((sLen+n) * by_)+192 * by_:=by rw[qt,Nat.mul_assoc]
    omega
  have hle:¬ sLen+n≤sCap:=by omega
  have hmax:¬ ((9223372036854775807:Int)<((sLen:Int)+(n:Int))):=by omega
  let q:Question:=.appendCap (sLen+n) sCap e
  let newCap:=q.cut (w.tape w.drawn q)
  have hq:sLen+n≤newCap:=by simp[newCap,q,Question.cut]
  refine⟨newCap,hq,?_⟩
  have hf:q.forced=false:=rfl
  have hold:(Builtin.firstCells size sLen (.slice base sLen sCap)).run P w.drew=.ok old w.drew:=hold (w.drawn+1)
  rcases hx.ok with⟨d,hd,hnd,hn,hfc⟩ | ⟨k,kd,hk,rfl,hn,hn0,z',hz',hzs,hnew⟩
  · have hm := bU     d hnd
    have hfc:(Builtin.firstCells size n x').run P w.drew=.ok new w.drew:=hfc (w.drawn+1)
    simp[Builtin.append_,AN hu,BM hs,AN hd,hle,hn,hi,hmax,hnc,hold,hfc,hz,newRow,IntKind.max,IntKind.signed,IntKind.bits]
    simp[newCap,q,hf]
  · have hw : IntKind.i64.wrap (n : Int) = (n : Int) := Kw      (k := .i64) (n := Int.ofNat n) (by simp [CD,      qT];         omega)
    have h0:¬ ((n:Int)<0):=by omega
    have hm1:n * by_≤1099511627776:=qV (rO _ (Nat.le_add_left _ _)) hb
    have h1:¬ ((281474976710656:Int)<(n:Int) * (i.bytes:Int)):=by
      rw[hi2]
      have:((n * by_:Nat):Int)≤1099511627776:=by omega
      have e:((n * by_:Nat):Int)=(n:Int) * (by_:Int):=by simp
      omega
    have hzz:z'=z:=by
      have:=hz' w
      rw[hz w]at this
      injection this with this
      exact this.symm
    subst hzz
    have hns:n * size≠0:=Nat.mul_ne_zero hn0 hsz
    simp[Builtin.append_,AN hu,BM hs,AN hk,asInt,asIntOf,hw,hi,h0,h1,hle,hns,hz,hmax,hnc,hold,newRow,IntKind.max,IntKind.signed,IntKind.bits]
    simp[newCap,q,hf,hnew]
theorem KX          (ρ : Bp)  {e : TypeId} {size : Nat} (h : CC     P e size = true) : ∃ z z', CY    P e = some z ∧ Aa   ρ z z' ∧ (∀ w, (zeroValue e).run P w = .ok z' w) ∧ z'.cells.size = size ∧ z.cells.length = size := by
  unfold CC at h
  split at h
  · rename_i z hz
    have hl:=A3 h
    have key:∃z',(∀w,(zeroValue e).run P w=.ok z' w)∧Aa ρ z z':=by
      unfold CY at hz
      split at hz
      · split at hz
        · rename_i i hi _ v hv
          exact⟨v,fun w=>by simp[zeroValue,typeInfo,hi,hv],CE ρ hz⟩
        · cases hz
      · cases hz
    obtain⟨z',h1,h2⟩:=key
    have:=h2.cells.length
    exact⟨z,z',hz,h2,h1,by simp at this;omega,hl⟩
  · cases h
theorem Ho{z:AV}{z':Value}{size:Nat}(hz:Aa ρ z z')(hl:z.cells.length=size)(hs:z'.cells.size=size)(n:Nat):
  AY ρ (Jx z.cells n) (Builtin.zeroCells z'.cells n).toList:=by
 have:=O6 (c:=n) hz hl
 unfold Builtin.zeroCells
 rw[hs]
 rw[hs]at this
 exact this
theorem Q9(h:Bu P ρ s w){e xt:TypeId}{size:Nat}{x:AV}{x':Value}{src:Nat×List AV}
  (hg:(match x with | .int ..=>TY P xt | _=>BI P xt)=true) (hs:BZ P s e size x=some src) (hx:Aa ρ x x'):
  ∃new:Array Value,AY ρ src.2 new.toList∧UJ P e xt size src.1 x' new w∧new.size=src.1 * size:=by
 have hslice:(∃d,P.underlying xt=some d∧∀k,d≠.int k)∨∃k n,x=.int k n:=by
  cases x with
  | int k n=>exact .inr ⟨k,n,rfl⟩
  | _ =>
   refine .inl ?_
   simp only[BI]at hg
   split at hg
   ·rename_i hd;exact⟨_,hd,by simp⟩
   ·rename_i hd;exact⟨_,hd,by simp⟩
   ·cases hg
 unfold BZ at hs
 split at hs
 ·rename_i kd n
  obtain⟨hb,hs⟩:=AJ hs
  simp only[Bool.and_eq_true,qT,qj]at hb
  simp only[qJ]at hs
  obtain⟨z,hz,hs⟩:=hs
  obtain⟨hl,hs⟩:=AJ hs
  injection hs with hs
  subst hs
  obtain⟨z0,z',hz0,h1,h2,h3,h4⟩:=KX ρ (P:=P) (e:=e) (size:=size) (by simp[CC,hz,hl])
  rw[hz]at hz0
  injection hz0 with hz0
  subst hz0
  cases hx
  have hk:∃k,P.underlying xt=some (.int k):=by
   simp only[TY]at hg
   split at hg
   ·rename_i k hk;exact⟨k,hk⟩
   ·cases hg
  obtain⟨k,hk⟩:=hk
  exact⟨Builtin.zeroCells z'.cells n,Ho h1 h4 h3 n,⟨.inr ⟨k,kd,hk,rfl,hb.1,by omega,z',h2,h3,rfl⟩⟩,by simp[Builtin.zeroCells,h3]⟩
 ·injection hs with hs
  subst hs
  obtain⟨d,hd,hnd⟩:=hslice.resolve_right (by simp)
  cases hx
  exact⟨#[],.nil,⟨.inl ⟨d,hd,hnd,rfl,fun _=>rfl⟩⟩,by simp⟩
 ·rename_i i o n cap
  simp only[qJ]at hs
  obtain⟨l,hl,hs⟩:=hs
  injection hs with hs
  subst hs
  obtain⟨d,hd,hnd⟩:=hslice.resolve_right (by simp)
  unfold fA at hl
  cases hn0:Nat.beq n 0 with
  | true =>
   rw[hn0]at hl
   injection hl with hl
   subst hl
   have:=A3 hn0
   subst this
   cases hx<;>exact⟨#[],by simpa using AY.nil,⟨.inl ⟨d,hd,hnd,rfl,fun d=>by simp[Builtin.firstCells,loadCells,loadCellsFrom]⟩⟩,by simp⟩
  | false =>
  rw[hn0]at hl
  simp only[cond_false]at hl
  cases hx with
  | slice hr hlc =>
   obtain⟨l',h1,h2,h3⟩:=Ed h hr hl
   exact⟨l'.toArray,by simpa using h1,⟨.inl ⟨d,hd,hnd,rfl,fun d=>h3 _ rfl⟩⟩,by simpa using h2⟩
  | sliceOpen hr hsz hlc h1 h2 =>
   obtain⟨l',h1,h2,h3⟩:=Ed h hr hl
   exact⟨l'.toArray,by simpa using h1,⟨.inl ⟨d,hd,hnd,rfl,fun d=>h3 _ rfl⟩⟩,by simpa using h2⟩
  | sliceEnd hr hsz h1 h2 =>
   obtain⟨l',h1,h2,h3⟩:=Ed h hr hl
   have hl0:l'=[]:=by simpa using h2
   subst hl0
   cases h1
   exact⟨#[],by simpa using AY.nil,⟨.inl ⟨d,hd,hnd,rfl,fun d=>by simp[Builtin.firstCells,loadCells,loadCellsFrom]⟩⟩,by simp⟩
 ·rename_i l
  obtain⟨hb,hs⟩:=AJ hs
  injection hs with hs
  subst hs
  obtain⟨d,hd,hnd⟩:=hslice.resolve_right (by simp)
  cases hx with
  | str hl =>
   rename_i b
   subst hl
   have hsz1:=A3 hb
   have hlen:(List.map (fun(b:UInt8)=>b.toNat) b.data.toList).length=b.size:=by simp
   refine⟨(b.extract 0 b.size).data.map fun b=>.int .u8 b.toNat,?_,⟨.inl ⟨d,hd,hnd,by simp[Builtin.lenOf,hlen],fun d=>by simp[Builtin.firstCells,hlen]⟩⟩,by simp[hsz1]⟩
   have he:(b.extract 0 b.size).data.toList=b.data.toList:=by simp
   rw[Array.toList_map,he]
   generalize b.data.toList=l
   induction l with
   | nil=>exact .nil
   | cons x l ih=>exact .cons (.int _ _) ih
 ·cases hs
def UH(P:Program)(ρ:Bp)(s:AF)(w:World)(sem:Sem Value)(v:AV)(s':AF):Prop:=
 ∃v' w' ρ',sem.run P w=.ok v' w'∧Aa ρ' v v'∧Bu P ρ' s' w'∧Fr ρ s w ρ' s' w'
theorem AY.get'{l:List AV}{cs:Array Value}(h:AY ρ l cs.toList){k:Nat}{v:AV}(hk:l[k]? = some v):∃v',cs[k]? = some v'∧Aa ρ v v':=by
 obtain⟨v',h1,h2⟩:=h.get hk
 exact⟨v',by rw[← Array.getElem?_toList];exact h1,h2⟩
theorem Gt(h:Bu P ρ s w)(hf:ρ s.next=none){e:TypeId}{size n newCap:Nat}{cells:List AV}{v:AV}{cs rest:Array Value}(hs:Bv P s e size n cells=some (v,s1))
  (hc:AY ρ cells cs.toList) (hcs:cs.size=n * size) (hsz:0<size) (hcap:n≤newCap) (hrest:rest.size=(newCap - n) * size):
  ∃ρ',Aa ρ' v (.slice (some ⟨w.heap.size,0,none⟩) n newCap)∧Bu P ρ' s1 (World.alloc w (.cells (cs++rest) e))∧Fr ρ s w ρ' s1 (World.alloc w (.cells (cs++rest) e)):=by
 unfold Bv at hs
 obtain⟨hz,hs⟩:=AJ hs
 injection hs with hs
 injection hs with hs1 hs2
 subst hs1;subst hs2
 have hlen:cells.length=n * size:=by have:=hc.length;simp at this;omega
 have htot:newCap * size=n * size+(newCap - n) * size:=by rw[← qt];congr 1;omega
 have hle:=Cs (rb:=⟨w.heap.size,0,newCap * size,size⟩) hf
 have hblk:(World.alloc w (.cells (cs++rest) e)).heap[w.heap.size]? = some (.cells (cs++rest) e (0,0)):=World.alloc_heap_new w _
 obtain⟨h1,h2⟩:=h.new (o:=Cp e size (Aj.fill .leaf 0 cells) cells.length none) (o':=.cells (cs++rest) e) (rb:=⟨w.heap.size,0,newCap * size,size⟩) hf rfl (by
  refine⟨?_,by simp only;omega,rfl,(fun hh=>by cases hh),fun _=>⟨cs++rest,e,hblk,by simp[hcs,hrest];omega⟩,fun p hp=>by cases hp⟩
  intro k v hk hv
  simp only[Aj.get_fill,qO,qU,true_and,rV]at hv
  simp only at hk
  rw[if_pos hk]at hv
  obtain⟨v',g1,g2⟩:=hc.get' hv
  refine⟨v',?_,g2.mono hle⟩
  simp only[World.cell?,hblk,qU]
  have hkc:k<cs.size:=by omega
  simp only[Option.isSome_none,Bool.false_eq_true,if_false]
  rw[Array.getElem?_append_left hkc]
  exact g1)
 refine⟨_,Aa.sliceOpen (A2 _ _) hsz hcap (by simp) ?_,h1,h2⟩
 simp only[qU]
 exact Nat.mul_lt_mul_of_pos_right (by omega) hsz
theorem Mp         (h : Bu  P ρ s w) {i : Nat} {r : EY}   {rb : RB} (hg : s.heap.get i = some (.row r)) (hr : ρ i = some rb) (hown : Ec    r.mode = true) :
    Bu P ρ (Av s i r) w∧Fr ρ s w ρ (Av s i r) w∧(Av s i r).next=s.next∧(Av s i r).heap.get i=some (.row r) ∧
    (∀k ok rk,k≠i→(Av s i r).heap.get k=some ok→ρ k=some rk→rk.b≠rb.b)∧(∀p,r.par=some p→p≠i→(Av s i r).heap.get p=none):=by
  have hok:FG ρ w r rb:=h.obj i _ rb hg hr
  unfold Av
  split
  · rename_i hp
    refine⟨h,Fr.refl _ _ _,rfl,hg,fun k ok rk hne hk hrk e=>?_,fun p hp'=>by rw[hp]at hp';cases hp'⟩
    have:=(h.sep k i ok _ rk rb hne hk hg hrk hr e (by simpa[wr]using hown)).1
    simp[Nk,hp]at this
  · rename_i p hp
    by_cases hpi:p=i
    · have:Nat.beq p i=true:=by rw[hpi];simp[Nat.beq_eq]
      rw[this]
      refine⟨h,Fr.refl _ _ _,rfl,hg,fun k ok rk hne hk hrk e=>?_,fun q hq hqi=>by rw[hp]at hq;injection hq with hq;exact absurd (hq.symm.trans hpi) hqi⟩
      have:=(h.sep k i ok _ rk rb hne hk hg hrk hr e (by simpa[wr]using hown)).1
      simp[Nk,hp]at this
      exact hne (this.symm.trans hpi)
    · rw[Aj.beq_no hpi]
      obtain⟨rp,hrp⟩:=hok.par p hp
      obtain⟨hd,hfd⟩:=h.del hrp
      refine⟨hd,hfd,rfl,by show(Cl s p).heap.get i=_;rw[Bn,if_neg (fun e=>hpi e.symm)];exact hg,fun k ok rk hne hk hrk e=>?_,fun q hq _=>by
        rw[hp]at hq
        injection hq with hq
        subst hq
        show(Cl s p).heap.get p=none
        rw[Bn,if_pos rfl]⟩
      have hk':(Cl s p).heap.get k=some ok:=hk
      rw[Bn]at hk'
      by_cases hkp:k=p
      · rw[if_pos hkp]at hk';cases hk'
      · rw[if_neg hkp]at hk'
        have:=(h.sep k i ok _ rk rb hne hk' hg hrk hr e (by simpa[wr]using hown)).1
        simp[Nk,hp]at this
        exact hkp this.symm
theorem QY(i:Nat)(r:EY)(ends:Bool)(k:Nat)(hk:k≠i):(Cm s i r ends).heap.get k=(Av s i r).heap.get k:=by
 unfold Cm
 cases ends with
 | true=>simp only[cond_true];rw[Dk,if_neg hk]
 | false=>simp only[cond_false];rw[Bn,if_neg hk]
theorem I0(i:Nat)(r:EY)(ends:Bool)(hn:(Av s i r).next=s.next):(Cm s i r ends).next=s.next:=by
 unfold Cm
 cases ends with
 | true=>exact hn
 | false=>exact hn
theorem Jq{i off n:Nat}{l:List AV}{r:EY}(hrow:rowAt s i=some r)(hl:loadN s i off n=some l):off+n≤r.n∧r.c.take off n=some l:=by
 unfold loadN at hl
 rw[hrow]at hl
 obtain⟨hb,hl⟩:=AJ (by simpa using hl)
 exact⟨by simpa[qT]using hb,hl⟩
theorem Nv{r:EY}{o m:Nat}{old new:List AV}(ht:r.c.take o m=some old)(k:Nat)(hk:k<(old++new).length):
    (bif Nat.beq o 0 then r.c.fill m new else Aj.fill .leaf 0 (old++new)).get k=(old++new)[k]? := by
  have hlen:=Aj.take_length ht
  by_cases h0:o=0
  · subst h0
    simp only[show Nat.beq 0 0=true from rfl,cond_true,Aj.get_fill]
    by_cases h1:k<m
    · rw[if_neg (by omega),qX (by omega)]
      have:=Aj.take_get ht k h1
      simpa using this
    · simp only[qM]at hk
      rw[if_pos (by omega),qY (by omega),hlen]
  · rw[Aj.beq_no h0]
    simp only[cond_false,Aj.get_fill,qO,qU,true_and,rV]
    rw[if_pos hk]
theorem PQ          (h : Bu  P ρ s w) (hf : ρ s.next = none) {e : TypeId} {size i o len cap : Nat} {src : Nat × List AV} {r : EY}   {rb : RB} {old : List AV} {v : AV} {new : Array Value}
    (hs:DQ P s e size i o len src r old=some (v,s1)) (hrow:rowAt s i=some r) (hr:ρ i=some rb) (hl:loadN s i o (len * size)=some old)
    (hnew:AY ρ src.2 new.toList) (hns:new.size=src.1 * size) (hall:Ak src.2=true) (hsz:0<size) (hle:len+src.1≤cap) (h1:o+cap * size≤rb.N) (h2:rb.N<o+(cap+1) * size)
    (hgt:r.n<o+(len+src.1) * size):
    ∃w1 ρ',(storeCells ⟨rb.b,rb.off+o+len * size,none⟩ new.toList).run P w=.ok () w1∧Aa ρ' v (.slice (some ⟨rb.b,rb.off+o,none⟩) (len+src.1) cap)∧Bu P ρ' s1 w1∧Fr ρ s w ρ' s1 w1:=by
  unfold DQ at hs
  obtain⟨hg,hs⟩:=AJ hs
  simp only[Bool.and_eq_true]at hg
  obtain⟨hown,_⟩:=hg
  injection hs with hs
  injection hs with hs1 hs2
  have hget:=Cd hrow
  have hok:FG ρ w r rb:=h.obj i _ rb hget hr
  obtain⟨hle1,htake⟩:=Jq hrow hl
  have hmode:r.mode≠.ro:=fun e=>by rw[e]at hown;cases hown
  obtain⟨cs,ety,hblk,hszb⟩:=hok.own hmode
  have hoN:o≤rb.N:=by omega
  have hneed:(len+src.1) * size≤cap * size:=rO _ hle
  have hsum:(len+src.1) * size=len * size+src.1 * size:=qt _ _ _
  have hfit:rb.off+o+len * size+new.toList.length≤cs.size:=by simp only[Array.length_toList];omega
  have hone:∀x∈new.toList,x.oneCell'=true:=hnew.oneCell hall
  have hrun:=run_storeCells_at P rb.b (rb.off+o+len * size) ety new.toList 0 cs w hblk (by simpa using hfit) hone
  simp only[rN]at hrun
  generalize hcs1:(cs.toList.take (rb.off+o+len * size)++new.toList++cs.toList.drop (rb.off+o+len * size+new.toList.length)).toArray=cs1 at hrun
  have hblk1:(w.setRow rb.b cs1).heap[rb.b]? = some (.cells cs1 ety (0,0)):=setRow_heap w rb.b cs cs1 ety (0,0) hblk
  have hsize1:cs1.size=cs.size:=by rw[← hcs1];simp;simp at hfit;omega
  have hgetc:∀k,cs1[k]? = if rb.off+o+len * size≤k∧k<rb.off+o+len * size+new.size then new[k - (rb.off+o+len * size)]? else cs[k]? := by
    intro k
    rw[← hcs1,List.getElem?_toArray]
    simp only[Array.length_toList]at hfit ⊢
    by_cases g1:k<rb.off+o+len * size
    · rw[if_neg (by omega),qz,qX (by simp;omega),qq g1,Array.getElem?_toList]
    · rw[qz,qY (by simp;omega)]
      have hmin:(cs.toList.take (rb.off+o+len * size)).length=rb.off+o+len * size:=by simp;omega
      rw[hmin]
      by_cases g2:k<rb.off+o+len * size+new.size
      · rw[if_pos (by omega),qX (by simp;omega),Array.getElem?_toList]
      · rw[if_neg (by omega),qY (by simp;omega),qk,← Array.getElem?_toList]
        congr 1
        simp
        omega
  obtain⟨hu,hfu,hnu,hgu,hsole,_⟩:=Mp h hget hr hown
  have hlenold:=Aj.take_length htake
  have hlensrc:src.2.length=src.1 * size:=by have:=hnew.length;simp at this;omega
  have hlenall:(old++src.2).length=(len+src.1) * size:=by simp;omega
  let rbj:RB:=⟨rb.b,rb.off+o,rb.N - o,size⟩
  have hle':ρ.le (Cw ρ (Av s i r).next rbj):=by rw[hnu];exact Cs (rb:=rbj) hf
  have hcell:∀k,(w.setRow rb.b cs1).cell? ⟨rb.b,k,none⟩=cs1[k]? := fun k=>by simp[World.cell?,hblk1]
  have hcell0:∀k,w.cell? ⟨rb.b,k,none⟩=cs[k]? := fun k=>by simp[World.cell?,hblk]
  have hsplit:=Bu.split (s2:=Cm s i r (Nat.beq (o+len * size) r.n)) (w1:=w.setRow rb.b cs1) (rbj:=rbj) (i:=i)
    (rj:={ elem:=e,sz:=size,n:=(old++src.2).length,c:=bif Nat.beq o 0 then r.c.fill (len * size) src.2 else Aj.fill .leaf 0 (old++src.2),spare:=true,mode:=.own,par:=bif Nat.beq (o+len * size) r.n then some i else none,bytes:=false })
    hu hgu hr hown hsole (by rw[hnu];exact hf) ((I0 i r _ hnu).trans hnu.symm) (fun k hk=>QY i r _ k hk)
    (by
      cases hends:Nat.beq (o+len * size) r.n with
      | false=>exact .inl (by show(Cl _ i).heap.get i=none;rw[Bn,if_pos rfl])
      | true =>
        have hends:=A3 hends
        refine .inr ⟨{ r with mode:=.sealed,par:=none },by show(setObj _ i _).heap.get i=_;rw[Dk,if_pos rfl],rfl,?_⟩
        refine⟨?_,hok.le,hok.sz,hok.tight,fun _=>⟨cs1,ety,hblk1,by rw[hsize1];exact hszb⟩,fun p hp=>by cases hp⟩
        intro k v hk hv
        obtain⟨v',g1,g2⟩:=hok.cells k v hk hv
        refine⟨v',?_,g2⟩
        rw[hcell,hgetc,if_neg (by simp only at hk;omega)]
        rw[hcell0]at g1
        exact g1)
    (by
      refine⟨?_,by simp only[rbj];omega,rfl,(fun hh=>by cases hh),fun _=>⟨cs1,ety,hblk1,by simp only[rbj];omega⟩,?_⟩
      · intro k v hk hv
        simp only at hk hv
        rw[Nv htake k hk]at hv
        show ∃v',(w.setRow rb.b cs1).cell? ⟨rb.b,rb.off+o+k,none⟩=some v'∧Aa _ v v'
        rw[hcell,hgetc]
        by_cases hk1:k<len * size
        · rw [if_neg (by omega)]
          rw[qX (by omega),← Aj.take_get htake k hk1]at hv
          obtain⟨v',g1,g2⟩:=hok.cells (o+k) v (by omega) hv
          refine⟨v',?_,g2.mono hle'⟩
          rw[hcell0]at g1
          rw[show rb.off+o+k=rb.off+(o+k)from by omega]
          exact g1
        · rw [hlenall] at hk
          rw[if_pos (by omega),show rb.off+o+k - (rb.off+o+len * size)=k - len * size from by omega]
          rw[qY (by omega),hlenold]at hv
          obtain⟨v',g1,g2⟩:=hnew.get' hv
          exact⟨v',g1,g2.mono hle'⟩
      · intro p hp
        simp only at hp
        cases hends:Nat.beq (o+len * size) r.n with
        | false=>rw[hends]at hp;cases hp
        | true =>
          rw[hends]at hp
          simp only[cond_true]at hp
          injection hp with hp
          subst hp
          exact⟨rb,hle' _ _ hr⟩)
    rfl
    (by
      cases hends:Nat.beq (o+len * size) r.n with
      | false=>exact .inl (by show(Cl _ i).heap.get i=none;rw[Bn,if_pos rfl])
      | true=>exact .inr rfl)
    (by simp) (fun b hb=>setRow_other w rb.b b cs1 hb) rfl rfl rfl
  rw[hnu]at hsplit
  refine⟨w.setRow rb.b cs1,Cw ρ s.next rbj,hrun,?_,?_,?_⟩
  · rw[← hs1]
    have hj:Cw ρ s.next rbj s.next=some rbj:=A2 _ _
    have hm1:cap * size≤rb.N - o:=by omega
    have hm2:rb.N - o<(cap+1) * size:=by omega
    exact Aa.sliceOpen (rb:=rbj) (o:=0) hj hsz hle (by simpa using hm1) (by simpa using hm2)
  · rw[← hs2];exact hsplit.1
  · rw[← hs2];exact hfu.trans hsplit.2
theorem N9           (h : Bu  P ρ s w) (hf : ρ s.next = none) {e : TypeId} {size i o len newCap : Nat} {src : Nat × List AV} {r : EY}   {rb : RB} {old : List AV} {v : AV} {cs rest : Array Value}
    (hs:DQ P s e size i o len src r old=some (v,s1)) (hrow:rowAt s i=some r) (hr:ρ i=some rb) (hl:loadN s i o (len * size)=some old)
    (hc:AY ρ (old++src.2) cs.toList) (hcs:cs.size=(len+src.1) * size) (hsz:0<size) (hcap:len+src.1≤newCap) (hrest:rest.size=(newCap - (len+src.1)) * size):
    ∃ρ',Aa ρ' v (.slice (some ⟨w.heap.size,0,none⟩) (len+src.1) newCap)∧Bu P ρ' s1 (World.alloc w (.cells (cs++rest) e))∧Fr ρ s w ρ' s1 (World.alloc w (.cells (cs++rest) e)):=by
  unfold DQ at hs
  obtain⟨hg,hs⟩:=AJ hs
  simp only[Bool.and_eq_true]at hg
  obtain⟨hown,_⟩:=hg
  injection hs with hs
  injection hs with hs1 hs2
  have hget:=Cd hrow
  have hok:FG ρ w r rb:=h.obj i _ rb hget hr
  obtain⟨hle1,htake⟩:=Jq hrow hl
  obtain⟨hu,hfu,hnu,hgu,hsole,hpar⟩:=Mp h hget hr hown
  have hlen:(old++src.2).length=(len+src.1) * size:=by have:=hc.length;simp only[Array.length_toList]at this;omega
  have htot:newCap * size=(len+src.1) * size+(newCap - (len+src.1)) * size:=by rw[← qt];congr 1;omega
  have hsealed:Bu P ρ (Cm s i r (Nat.beq (o+len * size) r.n)) w∧Fr ρ (Av s i r) w ρ (Cm s i r (Nat.beq (o+len * size) r.n)) w:=by
    cases hends:Nat.beq (o+len * size) r.n with
    | false=>exact hu.del hr
    | true =>
      refine hu.set (o1:=.row { r with mode:=.sealed,par:=none }) (w1:=w) hgu hr (by simpa[wr]using hown) hpar rfl rfl (fun _ _=>rfl) rfl rfl rfl ?_
      exact⟨hok.cells,hok.le,hok.sz,hok.tight,fun _=>hok.own (fun e=>by rw[e]at hown;cases hown),fun p hp=>by cases hp⟩
  have hns:(Cm s i r (Nat.beq (o+len * size) r.n)).next=s.next:=I0 i r _ hnu
  have hf2:ρ (Cm s i r (Nat.beq (o+len * size) r.n)).next=none:=by rw[hns];exact hf
  generalize hs2':Cm s i r (Nat.beq (o+len * size) r.n)=s2 at *
  have hle:=Cs (rb:=⟨w.heap.size,0,newCap * size,size⟩) hf2
  have hblk:(World.alloc w (.cells (cs++rest) e)).heap[w.heap.size]? = some (.cells (cs++rest) e (0,0)):=World.alloc_heap_new w _
  obtain⟨h1,h2⟩:=hsealed.1.new (o:=Cp e size (bif Nat.beq o 0 then r.c.fill (len * size) src.2 else Aj.fill .leaf 0 (old++src.2)) (old++src.2).length (bif Nat.beq (o+len * size) r.n then some i else none))
    (o':=.cells (cs++rest) e) (rb:=⟨w.heap.size,0,newCap * size,size⟩) hf2 rfl (by
    refine⟨?_,by simp only;omega,rfl,(fun hh=>by cases hh),fun _=>⟨cs++rest,e,hblk,by simp[hcs,hrest];omega⟩,?_⟩
    · intro k v hk hv
      simp only at hk hv
      rw[Nv htake k hk]at hv
      obtain⟨v',g1,g2⟩:=hc.get' hv
      refine⟨v',?_,g2.mono hle⟩
      simp only[World.cell?,hblk,qU]
      have hkc:k<cs.size:=by omega
      simp only[Option.isSome_none,Bool.false_eq_true,if_false]
      rw[Array.getElem?_append_left hkc]
      exact g1
    · intro p hp
      simp only at hp
      cases hends:Nat.beq (o+len * size) r.n with
      | false=>rw[hends]at hp;cases hp
      | true =>
        rw[hends]at hp
        simp only[cond_true]at hp
        injection hp with hp
        subst hp
        exact⟨rb,hle _ _ hr⟩)
  refine⟨_,?_,by rw[← hs2];exact h1,by rw[← hs2];exact(hfu.trans hsealed.2).trans h2⟩
  rw[← hs1,← hns]
  refine Aa.sliceOpen (A2 _ _) hsz hcap (by simp) ?_
  simp only[qU]
  exact Nat.mul_lt_mul_of_pos_right (by omega) hsz
end
section
variable{P:Program}{ρ ρ1 ρ2:Bp}{s s1 s2:AF}{w w1 w2:World}
theorem C6{i o len:Nat}{cap:Option Nat}{v':Value}(h:Aa ρ (.slice (some (i,o)) len cap) v'):
  ∃rb a c,ρ i=some rb∧v'=.slice (some a) len c∧len≤c∧(∀k,cap=some k→c=k∧a=⟨rb.b,rb.off+o,none⟩) ∧
   (cap=none→0<rb.sz∧((a=⟨rb.b,rb.off+o,none⟩∧o+c * rb.sz≤rb.N∧rb.N<o+(c+1) * rb.sz)∨(len=0∧c=0∧o≤rb.N∧rb.N<o+rb.sz))):=by
 cases h with
 | slice hr hl=>exact⟨_,_,_,hr,rfl,hl,(fun k hk=>by injection hk with hk;exact⟨hk,rfl⟩),fun hk=>by cases hk⟩
 | sliceOpen hr hs hl h1 h2=>exact⟨_,_,_,hr,rfl,hl,(fun k hk=>by cases hk),fun _=>⟨hs,.inl ⟨rfl,h1,h2⟩⟩⟩
 | sliceEnd hr hs h1 h2=>exact⟨_,_,_,hr,rfl,qI _,(fun k hk=>by cases hk),fun _=>⟨hs,.inr ⟨rfl,rfl,h1,h2⟩⟩⟩
theorem FR(a:Addr)(w:World):(loadCells a 0).run P w=.ok #[] w:=rfl
theorem Km(h:Bu P ρ s w){st xt ty e:TypeId}{size by_ n sLen sCap:Nat}{base:Option Addr}{x':Value}{old:List Value}{oldA:List AV}{new:Array Value}
  (hu:P.underlying st=some (.slice e)) (hs:BC P e=some size) (hby:CQ P e=some by_) (hsz:size≠0)
  (hb:(sLen+n) * by_≤1099511627776) (hb2:sLen+n≤1099511627776)
  (hx:UJ P e xt size n x' new w) (hgt:sCap<sLen+n) (hz:CC P e size=true)
  (hold:∀w1:World,w1.heap=w.heap→(Builtin.firstCells size sLen (.slice base sLen sCap)).run P w1=.ok old.toArray w1):
  ∃newCap rest,sLen+n≤newCap∧Array.size rest=(newCap - (sLen+n)) * size∧(Builtin.append_ #[st,xt] ty #[.slice base sLen sCap,x']).run P w =
   .ok (.slice (some ⟨w.heap.size,0,none⟩) (sLen+n) newCap) (World.alloc { w with drawn:=w.drawn+1 } (.cells ((old.toArray++new)++rest) e)):=by
 obtain⟨z,z',_,_,h2,h3,_⟩:=KX ρ hz
 obtain⟨newCap,g1,g2⟩:=run_append_grow (ty:=ty) hu hs hby hsz hb hb2 hx hgt h2 (old:=old.toArray) (fun d=>hold _ rfl)
 exact⟨newCap,_,g1,by simp[Builtin.zeroCells,h3],g2⟩
theorem RT         (h : Bu  P ρ s w) (hf : ρ s.next = none) {st xt ty : TypeId} {a x v : AV} {a' x' : Value} (hs : Af      P s [st, xt] [a, x] = some (v, s1)) (ha : Aa   ρ a a') (hx : Aa   ρ x x') :
    UH P ρ s w (Builtin.append_ #[st,xt] ty #[a',x']) v s1:=by
  unfold Af at hs
  split at hs<;>first | (cases hs;done) | skip
  rename_i RA xt0 a0 len cap x0 hty hargs
  injection hty with e1 e2
  injection e2 with e2 _
  injection hargs with e3 e4
  injection e4 with e4 _
  subst e1;subst e2;subst e3;subst e4
  split at hs<;>first | (cases hs;done) | skip
  rename_i e hu
  simp only[qJ]at hs
  obtain⟨size,hsize,by_,hby,hs⟩:=hs
  obtain⟨hg,hsA⟩:=AJ hs
  clear hs
  simp only[Bool.and_eq_true]at hg
  obtain⟨hg0,hg1⟩:=hg
  have hsz:size≠0:=by intro e0;rw[e0]at hg0;cases hg0
  simp only[qJ]at hsA
  obtain⟨src,hsrc,hsB⟩:=hsA
  obtain⟨hg2,hs⟩:=AJ hsB
  clear hsB
  simp only[Bool.and_eq_true,qT]at hg2
  obtain⟨⟨hall,hb⟩,hb2⟩:=hg2
  obtain⟨new,hnew,hsok,hns⟩:=Q9 h hg1 hsrc hx
  have hone:=hnew.oneCell hall
  have hsrclen:src.2.length=src.1 * size:=by have:=hnew.length;simp only[Array.length_toList]at this;omega
  unfold appTo at hs
  split at hs
  ·
    cases ha
    cases hk:Nat.beq src.1 0 with
    | true =>
      rw[hk]at hs
      simp only[cond_true]at hs
      injection hs with hs
      injection hs with hs1 hs2
      subst hs1;subst hs2
      have hk:=A3 hk
      have:=DV (w:=w) (w1:=w) (ty:=ty) (base:=none) (sLen:=0) (sCap:=0) hu hsize hby hsz (by simpa using hb) hsok (by rw[hk];exact qI _) rfl
      rw[hk]at this
      exact⟨.slice none 0 0,w,ρ,this,.sliceNil,h,Fr.refl _ _ _⟩
    | false =>
      rw[hk]at hs
      simp only[cond_false]at hs
      have hk:src.1≠0:=fun e0=>by rw[e0]at hk;cases hk
      have hz:CC P e size=true:=by unfold Bv at hs;exact(AJ hs).1
      obtain⟨newCap,rest,g1,g2,g3⟩:=Km (ty:=ty) (oldA:=[]) (base:=none) (sLen:=0) (sCap:=0) h hu hsize hby hsz hb hb2 hsok (by omega) hz (old:=[]) (fun w1 _=>rfl)
      simp only[qU]at g1 g2 g3
      obtain⟨ρ',f1,f2,f3⟩:=Gt (h.drawn (w.drawn+1)) hf hs (newCap:=newCap) (cs:=[].toArray++new) (rest:=rest) (by simpa using hnew) (by simpa using hns) (by omega) g1 g2
      exact⟨_,_,ρ',g3,f1,f2,(Fr.drawn' (w.drawn+1)).trans f3⟩
  · rename_i i o
    obtain⟨rb,ad,c,hr,hv,hlc,hexact,hopen⟩:=C6 ha
    subst hv
    split at hs
    ·
      rename_i c0
      obtain⟨rfl,rfl⟩:=hexact c0 rfl
      unfold DP at hs
      cases hfit:Nat.ble (len+src.1) c with
      | true =>
        rw[hfit]at hs
        simp only[cond_true,qJ]at hs
        obtain⟨s',hst,hs⟩:=hs
        injection hs with hs
        injection hs with hs1 hs2
        subst hs1;subst hs2
        have hfit:len+src.1≤c:=by simpa[qT]using hfit
        obtain⟨w1,k1,k2,k3⟩:=Hc h hr hst hnew
        have:=DV (w:=w) (w1:=w1) (ty:=ty) (base:=some ⟨rb.b,rb.off+o,none⟩) (sLen:=len) (sCap:=c) hu hsize hby hsz hb hsok hfit (by simp only[Co];rw[show rb.off+o+len * size=rb.off+(o+len * size)from by omega];exact k1)
        exact⟨_,w1,ρ,this,.slice (k3.le _ _ hr) hfit,k2,k3⟩
      | false =>
        rw[hfit]at hs
        simp only[cond_false,qJ]at hs
        obtain⟨old,hold,hs⟩:=hs
        have hfit:c<len+src.1:=by
          rcases qN c (len+src.1)with h' | h'
          · exact h'
          · rw[Nat.ble_eq_true_of_le h']at hfit;cases hfit
        obtain⟨old',o1,o2,o3⟩:=Ed h hr hold
        have hz:CC P e size=true:=by unfold Bv at hs;exact(AJ hs).1
        obtain⟨newCap,rest,g1,g2,g3⟩:=Km (ty:=ty) (oldA:=old) h hu hsize hby hsz hb hb2 hsok hfit hz (old:=old') (base:=some ⟨rb.b,rb.off+o,none⟩) (fun w1 hw1=>o3 w1 hw1)
        obtain⟨ρ',f1,f2,f3⟩:=Gt (h.drawn (w.drawn+1)) hf hs (cs:=old'.toArray++new) (rest:=rest) (by rw[Array.toList_append];exact o1.append hnew) (by simp[hns,o2,qt]) (by omega) g1 g2
        exact⟨_,_,ρ',g3,f1,f2,(Fr.drawn' (w.drawn+1)).trans f3⟩
    ·
      obtain⟨hsz0,hcases⟩:=hopen rfl
      simp only[qJ]at hs
      obtain⟨r,hrow,hs⟩:=hs
      have hok:FG ρ w r rb:=h.obj i _ rb (Cd hrow) hr
      unfold Dz at hs
      obtain⟨hgs,hsC⟩:=AJ hs
      clear hs
      have hs:=hsC
      clear hsC
      have hgs:=A3 hgs
      have hrs:rb.sz=size:=by rw[← hok.sz];exact hgs.symm
      rw[hrs]at hcases hsz0
      cases hfit:Nat.ble (o+(len+src.1) * size) r.n with
      | true =>
        rw[hfit]at hs
        simp only[cond_true,qJ]at hs
        obtain⟨s',hst,hs⟩:=hs
        injection hs with hs
        injection hs with hs1 hs2
        subst hs1;subst hs2
        have hfit:o+(len+src.1) * size≤r.n:=by simpa[qT]using hfit
        have hfit2:o+(len+src.1) * size≤rb.N:=qV hfit hok.le
        obtain⟨w1,k1,k2,k3⟩:=Hc h hr hst hnew
        rcases hcases with⟨rfl,c1,c2⟩ | ⟨rfl,rfl,c1,c2⟩
        · have hle:len+src.1≤c:=by
            rcases qN c (len+src.1)with h' | h'
            · have:(c+1) * size≤(len+src.1) * size:=rO _ h'
              omega
            · exact h'
          have:=DV (w:=w) (w1:=w1) (ty:=ty) (base:=some ⟨rb.b,rb.off+o,none⟩) (sLen:=len) (sCap:=c) hu hsize hby hsz hb hsok hle (by simp only[Co];rw[show rb.off+o+len * size=rb.off+(o+len * size)from by omega];exact k1)
          exact⟨_,w1,ρ,this,.sliceOpen (k3.le _ _ hr) (by rw[hrs];exact hsz0) hle (by rw[hrs];exact c1) (by rw[hrs];exact c2),k2,k3⟩
        · have hk0:src.1=0:=by
            rcases rG src.1 with h' | h'
            · exact h'
            · have:1 * size≤(0+src.1) * size:=rO _ (by omega)
              omega
          have hnew0:new.toList=[]:=by
            have:new.size=0:=by rw[hns,hk0];simp
            simpa using this
          have hs20:src.2=[]:=by
            have:src.2.length=0:=by rw[hsrclen,hk0];simp
            simpa using this
          have hst0:s'=s:=by rw[hs20]at hst;simp[CK]at hst;exact hst.symm
          subst hst0
          have:=DV (w:=w) (w1:=w) (ty:=ty) (base:=some ad) (sLen:=0) (sCap:=0) hu hsize hby hsz hb hsok (by omega) (by simp only[hnew0];rfl)
          rw[hk0]at this ⊢
          exact⟨_,w,ρ,this,.sliceEnd hr (by rw[hrs];exact hsz0) c1 (by rw[hrs];exact c2),h,Fr.refl _ _ _⟩
      | false =>
        rw[hfit]at hs
        simp only[cond_false,qJ]at hs
        obtain⟨old,hold,hs⟩:=hs
        have hgt:r.n<o+(len+src.1) * size:=by
          rcases qN r.n (o+(len+src.1) * size)with h' | h'
          · exact h'
          · rw[Nat.ble_eq_true_of_le h']at hfit;cases hfit
        obtain⟨old',o1,o2,o3⟩:=Ed h hr hold
        obtain⟨hle1,htake⟩:=Jq hrow hold
        have hold':∀w1:World,w1.heap=w.heap→(Builtin.firstCells size len (.slice (some ad) len c)).run P w1=.ok old'.toArray w1:=by
          intro w1 hw1
          rcases hcases with⟨rfl,_,_⟩ | ⟨rfl,rfl,_,_⟩
          · exact o3 w1 hw1
          · have:old'=[]:=by simpa using o2
            subst this
            simp[Builtin.firstCells,FR]
        have hcsrel:AY ρ (old++src.2) (old'.toArray++new).toList:=by rw[Array.toList_append];exact o1.append hnew
        have hcssz:(old'.toArray++new).size=(len+src.1) * size:=by simp[hns,o2,qt]
        cases hsp:r.spare with
        | true =>
          rw[hsp]at hs
          simp only[cond_true]at hs
          have hz:CC P e size=true:=by
            unfold DQ at hs
            have:=(AJ hs).1
            simp only[Bool.and_eq_true]at this
            exact this.2
          rcases qN c (len+src.1)with hlt | hge
          · obtain ⟨newCap, rest, g1, g2, g3⟩ := Km      (ty := ty) (oldA := old) h hu hsize hby hsz hb hb2 hsok hlt hz hold'
            obtain⟨ρ',f1,f2,f3⟩:=N9 (h.drawn (w.drawn+1)) hf hs hrow hr hold hcsrel hcssz (by omega) g1 g2
            exact⟨_,_,ρ',g3,f1,f2,(Fr.drawn' (w.drawn+1)).trans f3⟩
          · rcases hcases with ⟨rfl, c1, c2⟩ | ⟨rfl, rfl, c1, c2⟩
            · obtain⟨w1,ρ',k1,k2,k3,k4⟩:=PQ h hf hs hrow hr hold hnew hns hall (by omega) hge c1 c2 hgt
              have:=DV (w:=w) (w1:=w1) (ty:=ty) (base:=some ⟨rb.b,rb.off+o,none⟩) (sLen:=len) (sCap:=c) hu hsize hby hsz hb hsok hge (by simp only[Co];exact k1)
              exact⟨_,w1,ρ',this,k2,k3,k4⟩
            · have hk0:src.1=0:=by omega
              rw[hk0]at hgt
              simp at hgt hle1
              omega
        | false =>
          rw[hsp]at hs
          simp only[cond_false]at hs
          have htight:=hok.tight hsp
          have hlt:c<len+src.1:=by
            rcases qN c (len+src.1)with h' | h'
            · exact h'
            · rcases hcases with ⟨rfl, c1, c2⟩ | ⟨rfl, rfl, c1, c2⟩
              · have:(len+src.1) * size≤c * size:=rO _ h'
                omega
              · have hk0:src.1=0:=by omega
                rw[hk0]at hgt
                simp at hgt hle1
                omega
          have hz:CC P e size=true:=by unfold Bv at hs;exact(AJ hs).1
          obtain⟨newCap,rest,g1,g2,g3⟩:=Km (ty:=ty) (oldA:=old) h hu hsize hby hsz hb hb2 hsok hlt hz hold'
          obtain⟨ρ',f1,f2,f3⟩:=Gt (h.drawn (w.drawn+1)) hf hs hcsrel hcssz (by omega) g1 g2
          exact⟨_,_,ρ',g3,f1,f2,(Fr.drawn' (w.drawn+1)).trans f3⟩
end
end
end Go.Proofs.Ytilhhmkdcoajnaa.Am
