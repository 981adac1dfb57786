/- The compiled code of the solver, printed by a program of ours (dev/Print.lean) and checked by the kernel; conditions: none. -/
import Derived.Test.YtilhhmkdcoajnaaAmM06
set_option linter.unusedVariables false
set_option linter.unusedSimpArgs false
namespace Go.Proofs.Ytilhhmkdcoajnaa.Am
open Go Go.Proofs
noncomputable section
theorem Ft:E1 Try.prog 44=some false:=by kernel_rfl
theorem HT:BD Try.prog 88=some 1:=by kernel_rfl
theorem nU:E1 Try.prog 88=some false:=by kernel_rfl
theorem Er:BD Try.prog 89=some 1:=by kernel_rfl
theorem pT:Cg Try.prog 89=some 24:=by kernel_rfl
theorem Kk:E1 Try.prog 89=some false:=by kernel_rfl
theorem pA:CF Try.prog 89=some (.slice none 0 (some 0)):=by kernel_rfl
theorem pz:CF Try.prog 91=some (.agg [(.slice none 0 (some 0)),(.slice none 0 (some 0)),(.slice none 0 (some 0)),(.slice none 0 (some 0)),(.slice none 0 (some 0)),(.slice none 0 (some 0)),(.slice none 0 (some 0)),(.slice none 0 (some 0)),(.slice none 0 (some 0)),(.int .i64 (0)),(.bool false),(.slice none 0 (some 0)),(.slice none 0 (some 0)),(.int .i64 (0)),(.int .i64 (0))]):=by kernel_rfl
theorem HU:BD Try.prog 92=some 1:=by kernel_rfl
theorem XA:Cg Try.prog 92=some 8:=by kernel_rfl
theorem kO:E1 Try.prog 92=some false:=by kernel_rfl
theorem Ws:CF Try.prog 92=some (.ptr none):=by kernel_rfl
theorem kI:CF Try.prog 104=some (.agg [(.slice none 0 (some 0)),(.bool false),(.bool false)]):=by kernel_rfl
theorem ol:BD Try.prog 115=some 1:=by kernel_rfl
theorem PU:E1 Try.prog 115=some false:=by kernel_rfl
theorem ov:CF Try.prog 115=some (.map none):=by kernel_rfl
theorem om:BD Try.prog 119=some 0:=by kernel_rfl
theorem cV:CF Try.prog 119=some (.agg []):=by kernel_rfl
def jt:List AA:=[
 ⟨none,.p1 some,[(.const (.int .i64 (0)))],(.set 1),[]⟩]
def ju:List AA:=[
 ⟨none,.p1 (Hv Try.prog Go.UnOp.neg),[.var 0],.push,[]⟩,
 ⟨none,.p (fun l=>match l with | v::l=>D6 true v l | []=>none),[.var 0,.loc 0],.push,[]⟩,
 ⟨none,.p1 some,[.loc 0],(.set 1),[]⟩]
def qd:Aw:=⟨1,2,(.seq (.ops jt) (.seq (.ops ju) .ret)),[((.var 1),none)]⟩
def Z2:List AA:=[
 ⟨none,.p1 some,[(.const (.int .i64 (0)))],(.set 1),[]⟩]
def Z3:List AA:=[
 ⟨none,.p2 (AN Try.prog .lss 3),[(.var 0),(.const (.int .i64 (0)))],(.set 2),[]⟩]
def jv:List AA:=[
 ⟨none,.p2 (AN Try.prog .mul 3),[(.const (.int .i64 (2))),(.var 0)],.push,[]⟩,
 ⟨none,.p2 (AN Try.prog .sub 3),[(.const (.int .i64 (1))),(.loc 0)],.push,[]⟩,
 ⟨none,.p1 some,[.loc 0],(.set 1),[]⟩]
def jw:List AA:=[
 ⟨none,.p2 (AN Try.prog .mul 3),[(.const (.int .i64 (2))),(.var 0)],.push,[]⟩,
 ⟨none,.p1 some,[.loc 0],(.set 1),[]⟩]
def pe:Aw:=⟨1,3,(.seq (.ops Z2) (.seq (.seq (.ops Z3) (.cond (.var 2)
 (.seq (.ops jv) .ret)
 .skip)) (.seq (.ops jw) .ret))),[((.var 1),none)]⟩
def Zg:List AA:=[
 ⟨none,.p1 some,[(.const (.int .i64 (0)))],(.set 2),[]⟩]
def Zh:List AA:=[
 ⟨none,.p2 (AN Try.prog .lss 3),[(.var 1),(.const (.int .i64 (0)))],(.set 3),[]⟩]
def jR:List AA:=[
 ⟨none,.p1 AF,[.var 0],.push,[]⟩,
 ⟨none,.p1 (fun x=>AB Try.prog 91 x 2),[.loc 0],.push,[]⟩,
 ⟨none,.r1 (fun s a=>AC Try.prog s 23 a),[.loc 0],.push,[]⟩,
 ⟨none,.p1 (Hv Try.prog Go.UnOp.neg),[.var 1],.push,[]⟩,
 ⟨none,.p2 (AD Try.prog 23),[.loc 1,.loc 0],.push,[]⟩,
 ⟨none,.r1 (fun s a=>AC Try.prog s 3 a),[.loc 0],.push,[]⟩,
 ⟨none,.p1 (Hv Try.prog Go.UnOp.neg),[.loc 0],.push,[]⟩,
 ⟨none,.p1 some,[.loc 0],(.set 2),[]⟩]
def jS:List AA:=[
 ⟨none,.p1 AF,[.var 0],.push,[]⟩,
 ⟨none,.p1 (fun x=>AB Try.prog 91 x 2),[.loc 0],.push,[]⟩,
 ⟨none,.r1 (fun s a=>AC Try.prog s 23 a),[.loc 0],.push,[]⟩,
 ⟨none,.p2 (AD Try.prog 23),[.loc 0,.var 1],.push,[]⟩,
 ⟨none,.r1 (fun s a=>AC Try.prog s 3 a),[.loc 0],.push,[]⟩,
 ⟨none,.p1 some,[.loc 0],(.set 2),[]⟩]
def pY:Aw:=⟨2,4,(.seq (.ops Zg) (.seq (.seq (.ops Zh) (.cond (.var 3)
 (.seq (.ops jR) .ret)
 .skip)) (.seq (.ops jS) .ret))),[((.var 2),none)]⟩
def jE:List AA:=[
 ⟨none,.call 90,[.var 1],.push,[]⟩,
 ⟨none,.p1 some,[.loc 0],(.set 3),[]⟩]
def jF:List AA:=[
 ⟨none,.p1 AF,[.var 0],.push,[]⟩,
 ⟨none,.p1 (fun x=>AB Try.prog 91 x 2),[.loc 0],.push,[]⟩,
 ⟨none,.r1 (fun s a=>AC Try.prog s 23 a),[.loc 0],.push,[]⟩,
 ⟨none,.p1 AF,[.var 0],.push,[]⟩,
 ⟨none,.p1 (fun x=>AB Try.prog 91 x 3),[.loc 0],.push,[]⟩,
 ⟨none,.r1 (fun s a=>AC Try.prog s 23 a),[.loc 0],.push,[]⟩,
 ⟨none,.p1 AF,[.var 0],.push,[]⟩,
 ⟨none,.p1 (fun x=>AB Try.prog 91 x 4),[.loc 0],.push,[]⟩,
 ⟨none,.r1 (fun s a=>AC Try.prog s 89 a),[.loc 0],.push,[]⟩,
 ⟨none,.p2 (AN Try.prog .quo 3),[.var 1,.var 3],.push,[]⟩,
 ⟨none,.p1 AF,[.var 0],.push,[]⟩,
 ⟨none,.p1 (fun x=>AB Try.prog 91 x 8),[.loc 0],.push,[]⟩,
 ⟨none,.r1 (fun s a=>AC Try.prog s 23 a),[.loc 0],.push,[]⟩,
 ⟨none,.r (fun s l=>match l with | [x]=>As Try.prog s 23 x | _=>none),[.loc 0],.push,[]⟩,
 ⟨none,.p2 (AD Try.prog 23),[.loc 11,.var 3],.push,[]⟩,
 ⟨none,.e (fun s=>BW (fun a x=>AS (AP Try.prog s 3 a x))),[.loc 0,.loc 5],.push,[⟨none,.r (fun s l=>match l with | [x]=>As Try.prog s 23 x | _=>none),[.loc 3],(.loc 2)⟩]⟩,
 ⟨none,.p2 (AD Try.prog 23),[.loc 10,.var 3],.push,[]⟩,
 ⟨none,.e (fun s=>BW (fun a x=>AS (AP Try.prog s 3 a x))),[.loc 0,.loc 3],.push,[]⟩,
 ⟨none,.p2 (AD Try.prog 89),[.loc 9,.var 3],.push,[]⟩,
 ⟨none,.e (fun s=>BW (fun a x=>AS (AP Try.prog s 92 a x))),[.loc 0,.var 2],.push,[]⟩]
def jG:List AA:=[
 ⟨none,.p1 AF,[.var 0],.push,[]⟩,
 ⟨none,.p1 (fun x=>AB Try.prog 91 x 7),[.loc 0],.push,[]⟩,
 ⟨none,.r1 (fun s a=>AC Try.prog s 23 a),[.loc 0],.push,[]⟩,
 ⟨none,.mk (fun l=>(Ab Try.prog 23 1 (zipIdx [0] l)).bind fun r=>some (r,.slice 1)),[.var 1],.push,[]⟩,
 ⟨none,.e (fun s l=>AY Try.prog s [23,23] l),[.loc 1,.loc 0],.push,[]⟩,
 ⟨none,.p1 AF,[.var 0],.push,[]⟩,
 ⟨none,.p1 (fun x=>AB Try.prog 91 x 7),[.loc 0],.push,[]⟩,
 ⟨none,.e (fun s=>BW (fun a x=>AS (AP Try.prog s 23 a x))),[.loc 0,.loc 2],.push,[]⟩]
def qR:Aw:=⟨3,4,(.seq (.ops jE) (.seq (.ops jF) (.ops jG))),[]⟩
def jT:List AA:=[
 ⟨none,.p1 AF,[.var 1],.push,[]⟩,
 ⟨none,.p1 (fun x=>AB Try.prog 104 x 0),[.loc 0],.push,[]⟩,
 ⟨none,.r1 (fun s a=>AC Try.prog s 23 a),[.loc 0],.push,[]⟩,
 ⟨none,.r (AU Try.prog 23 false true false),[(.loc 0),(.const (.int .i64 (2)))],(.set 3),[]⟩,
 ⟨none,.r (fun s l=>match l with | [x]=>As Try.prog s 23 x | _=>none),[.var 3],(.set 4),[]⟩,
 ⟨none,.p1 some,[(.const (.int .i64 (0)))],(.set 5),[]⟩]
def Uj:List AA:=[
 ⟨none,.p2 (AN Try.prog .lss 3),[.var 5,.var 4],(.set 6),[]⟩]
def Zi:List AA:=[
 ⟨none,.p2 (AD Try.prog 23),[.var 3,.var 5],.push,[]⟩,
 ⟨none,.r1 (fun s a=>AC Try.prog s 3 a),[.loc 0],.push,[]⟩,
 ⟨none,.p1 some,[.loc 0],(.set 2),[]⟩]
def Zj:List AA:=[
 ⟨none,.p1 AF,[.var 0],.push,[]⟩,
 ⟨none,.p1 (fun x=>AB Try.prog 91 x 0),[.loc 0],.push,[]⟩,
 ⟨none,.r1 (fun s a=>AC Try.prog s 88 a),[.loc 0],.push,[]⟩,
 ⟨none,.p1 AF,[.var 0],.push,[]⟩,
 ⟨none,.p1 (fun x=>AB Try.prog 91 x 0),[.loc 0],.push,[]⟩,
 ⟨none,.r1 (fun s a=>AC Try.prog s 88 a),[.loc 0],.push,[]⟩,
 ⟨none,.mk (fun l=>(Ab Try.prog 89 1 (zipIdx [0] l)).bind fun r=>some (r,.slice 1)),[.var 1],.push,[]⟩,
 ⟨none,.call 91,[.var 2],.push,[⟨none,.r1 (fun s a=>AC Try.prog s 88 a),[.loc 3],(.loc 2)⟩,⟨none,.r1 (fun s a=>AC Try.prog s 88 a),[.loc 6],(.loc 5)⟩]⟩,
 ⟨none,.call 91,[.var 2],.push,[⟨none,.r1 (fun s a=>AC Try.prog s 88 a),[.loc 4],(.loc 3)⟩,⟨none,.r1 (fun s a=>AC Try.prog s 88 a),[.loc 7],(.loc 6)⟩]⟩,
 ⟨none,.p2 (AD Try.prog 88),[.loc 3,.loc 0],.push,[]⟩,
 ⟨none,.r1 (fun s a=>AC Try.prog s 89 a),[.loc 0],.push,[]⟩,
 ⟨none,.e (fun s l=>AY Try.prog s [89,89] l),[.loc 0,.loc 4],.push,[⟨none,.r1 (fun s a=>AC Try.prog s 88 a),[.loc 10],(.loc 9)⟩]⟩,
 ⟨none,.p2 (AD Try.prog 88),[.loc 9,.loc 4],.push,[]⟩,
 ⟨none,.e (fun s=>BW (fun a x=>AS (AP Try.prog s 89 a x))),[.loc 0,.loc 1],.push,[]⟩]
def Zk:List AA:=[
 ⟨none,.p2 (AN Try.prog .add 3),[(.var 5),(.const (.int .i64 (1)))],.push,[]⟩,
 ⟨none,.p1 some,[.loc 0],(.set 5),[]⟩]
def NL:Ac:=(.seq (.ops Uj) (.seq (.cond (.var 6)
 .skip
 (.exit 0)) (.seq (.block 1 (.seq (.ops Zi) (.ops Zj))) (.ops Zk))))
def qW:Aw:=⟨2,7,(.seq (.ops jT) (.block 0 (.loop NL))),[]⟩
def ZJ:List AA:=[
 ⟨none,.p1 AF,[.var 0],.push,[]⟩,
 ⟨none,.p1 (fun x=>AB Try.prog 91 x 8),[.loc 0],.push,[]⟩,
 ⟨none,.r1 (fun s a=>AC Try.prog s 23 a),[.loc 0],.push,[]⟩,
 ⟨none,.r (fun s l=>match l with | [x]=>As Try.prog s 23 x | _=>none),[.loc 0],.push,[]⟩,
 ⟨none,.p2 (AN Try.prog .leq 3),[.loc 0,.var 1],(.set 5),[]⟩]
def iJ:List AA:=[
 ⟨none,.p1 AF,[.var 0],.push,[]⟩,
 ⟨none,.p1 (fun x=>AB Try.prog 91 x 8),[.loc 0],.push,[]⟩,
 ⟨none,.r1 (fun s a=>AC Try.prog s 23 a),[.loc 0],.push,[]⟩,
 ⟨none,.p2 (AD Try.prog 23),[.loc 0,.var 1],.push,[]⟩,
 ⟨none,.r1 (fun s a=>AC Try.prog s 3 a),[.loc 0],.push,[]⟩,
 ⟨none,.p1 some,[.loc 0],(.set 2),[]⟩]
def iK:List AA:=[
 ⟨none,.p1 AF,[.var 0],.push,[]⟩,
 ⟨none,.p1 (fun x=>AB Try.prog 91 x 7),[.loc 0],.push,[]⟩,
 ⟨none,.r1 (fun s a=>AC Try.prog s 23 a),[.loc 0],.push,[]⟩,
 ⟨none,.r (AU Try.prog 23 true false false),[.loc 0,.var 2],(.set 6),[]⟩,
 ⟨none,.r (fun s l=>match l with | [x]=>As Try.prog s 23 x | _=>none),[.var 6],(.set 7),[]⟩,
 ⟨none,.p1 some,[(.const (.int .i64 (0)))],(.set 8),[]⟩]
def ZK:List AA:=[
 ⟨none,.p2 (AN Try.prog .lss 3),[.var 8,.var 7],(.set 9),[]⟩]
def iL:List AA:=[
 ⟨none,.p2 (AD Try.prog 23),[.var 6,.var 8],.push,[]⟩,
 ⟨none,.r1 (fun s a=>AC Try.prog s 3 a),[.loc 0],.push,[]⟩,
 ⟨none,.p1 some,[.loc 0],(.set 3),[]⟩]
def iM:List AA:=[
 ⟨none,.call 90,[.var 3],.push,[]⟩,
 ⟨none,.p1 some,[.loc 0],(.set 4),[]⟩]
def iN:List AA:=[
 ⟨none,.p1 AF,[.var 0],.push,[]⟩,
 ⟨none,.p1 (fun x=>AB Try.prog 91 x 6),[.loc 0],.push,[]⟩,
 ⟨none,.r1 (fun s a=>AC Try.prog s 23 a),[.loc 0],.push,[]⟩,
 ⟨none,.p1 AF,[.var 0],.push,[]⟩,
 ⟨none,.p1 (fun x=>AB Try.prog 91 x 2),[.loc 0],.push,[]⟩,
 ⟨none,.r1 (fun s a=>AC Try.prog s 23 a),[.loc 0],.push,[]⟩,
 ⟨none,.p1 AF,[.var 0],.push,[]⟩,
 ⟨none,.p1 (fun x=>AB Try.prog 91 x 4),[.loc 0],.push,[]⟩,
 ⟨none,.r1 (fun s a=>AC Try.prog s 89 a),[.loc 0],.push,[]⟩,
 ⟨none,.p1 AF,[.var 0],.push,[]⟩,
 ⟨none,.p1 (fun x=>AB Try.prog 91 x 2),[.loc 0],.push,[]⟩,
 ⟨none,.r1 (fun s a=>AC Try.prog s 23 a),[.loc 0],.push,[]⟩,
 ⟨none,.p2 (AD Try.prog 23),[.loc 0,.var 4],.push,[]⟩,
 ⟨none,.r1 (fun s a=>AC Try.prog s 3 a),[.loc 0],.push,[]⟩,
 ⟨none,.p2 (AD Try.prog 23),[.loc 11,.var 4],.push,[]⟩,
 ⟨none,.e (fun s=>BW (fun a x=>AS (AP Try.prog s 3 a x))),[.loc 0,.loc 1],.push,[]⟩,
 ⟨none,.p2 (AD Try.prog 23),[.loc 10,.var 4],.push,[]⟩,
 ⟨none,.e (fun s=>BW (fun a x=>AS (AP Try.prog s 3 a x))),[(.loc 0),(.const (.int .i64 (0)))],.push,[]⟩,
 ⟨none,.p2 (AD Try.prog 89),[.loc 9,.var 4],.push,[]⟩,
 ⟨none,.e (fun s=>BW (fun a x=>AS (AP Try.prog s 92 a x))),[(.loc 0),(.const (.ptr none))],.push,[]⟩]
def iO:List AA:=[
 ⟨none,.p2 (AN Try.prog .add 3),[(.var 8),(.const (.int .i64 (1)))],.push,[]⟩,
 ⟨none,.p1 some,[.loc 0],(.set 8),[]⟩]
def Pl:Ac:=(.seq (.ops ZK) (.seq (.cond (.var 9)
 .skip
 (.exit 0)) (.seq (.block 1 (.seq (.ops iL) (.seq (.ops iM) (.ops iN)))) (.ops iO))))
def iP:List AA:=[
 ⟨none,.p1 AF,[.var 0],.push,[]⟩,
 ⟨none,.p1 (fun x=>AB Try.prog 91 x 7),[.loc 0],.push,[]⟩,
 ⟨none,.r1 (fun s a=>AC Try.prog s 23 a),[.loc 0],.push,[]⟩,
 ⟨none,.r (AU Try.prog 23 false true false),[.loc 0,.var 2],.push,[]⟩,
 ⟨none,.p1 AF,[.var 0],.push,[]⟩,
 ⟨none,.p1 (fun x=>AB Try.prog 91 x 8),[.loc 0],.push,[]⟩,
 ⟨none,.r1 (fun s a=>AC Try.prog s 23 a),[.loc 0],.push,[]⟩,
 ⟨none,.r (AU Try.prog 23 false true false),[.loc 0,.var 1],.push,[]⟩,
 ⟨none,.p1 AF,[.var 0],.push,[]⟩,
 ⟨none,.p1 (fun x=>AB Try.prog 91 x 7),[.loc 0],.push,[]⟩,
 ⟨none,.e (fun s=>BW (fun a x=>AS (AP Try.prog s 23 a x))),[.loc 0,.loc 6],.push,[⟨none,.r (AU Try.prog 23 false true false),[.loc 4,.var 1],(.loc 3)⟩]⟩,
 ⟨none,.p1 AF,[.var 0],.push,[]⟩,
 ⟨none,.p1 (fun x=>AB Try.prog 91 x 8),[.loc 0],.push,[]⟩,
 ⟨none,.e (fun s=>BW (fun a x=>AS (AP Try.prog s 23 a x))),[.loc 0,.loc 5],.push,[]⟩,
 ⟨none,.p1 AF,[.var 0],.push,[]⟩,
 ⟨none,.p1 (fun x=>AB Try.prog 91 x 9),[.loc 0],.push,[]⟩,
 ⟨none,.e (fun s=>BW (fun a x=>AS (AP Try.prog s 3 a x))),[.loc 0,.var 2],.push,[]⟩]
def pV:Aw:=⟨2,10,(.seq (.seq (.ops ZJ) (.cond (.var 5)
 .ret
 .skip)) (.seq (.ops iJ) (.seq (.seq (.ops iK) (.block 0 (.loop Pl))) (.ops iP)))),[]⟩
def ZV:List AA:=[
 ⟨none,.p1 AF,[.var 0],.push,[]⟩,
 ⟨none,.p1 (fun x=>AB Try.prog 91 x 10),[.loc 0],.push,[]⟩,
 ⟨none,.r1 (fun s a=>AC Try.prog s 4 a),[.loc 0],.push,[]⟩,
 ⟨none,.p1 (Hv Try.prog Go.UnOp.not),[.loc 0],(.set 1),[]⟩]
def iW:List AA:=[
 ⟨none,.p1 AF,[.var 0],.push,[]⟩,
 ⟨none,.p1 (fun x=>AB Try.prog 91 x 12),[.loc 0],.push,[]⟩,
 ⟨none,.r1 (fun s a=>AC Try.prog s 33 a),[.loc 0],.push,[]⟩,
 ⟨none,.p (fun l=>Bu Try.prog 27 (zipIdx [] l)),[],.push,[]⟩,
 ⟨none,.mk (fun l=>(Ab Try.prog 33 1 (zipIdx [0] l)).bind fun r=>some (r,.slice 1)),[.loc 0],.push,[]⟩,
 ⟨none,.e (fun s l=>AY Try.prog s [33,33] l),[.loc 2,.loc 0],.push,[]⟩,
 ⟨none,.p1 AF,[.var 0],.push,[]⟩,
 ⟨none,.p1 (fun x=>AB Try.prog 91 x 10),[.loc 0],.push,[]⟩,
 ⟨none,.e (fun s=>BW (fun a x=>AS (AP Try.prog s 4 a x))),[(.loc 0),(.const (.bool true))],.push,[]⟩,
 ⟨none,.p1 AF,[.var 0],.push,[]⟩,
 ⟨none,.p1 (fun x=>AB Try.prog 91 x 12),[.loc 0],.push,[]⟩,
 ⟨none,.e (fun s=>BW (fun a x=>AS (AP Try.prog s 33 a x))),[.loc 0,.loc 5],.push,[]⟩]
def pW:Aw:=⟨1,2,(.seq (.ops ZV) (.cond (.var 1)
 (.ops iW)
 .skip)),[]⟩
def gg:List AA:=[
 ⟨none,.p1 some,[(.const (.int .i64 (0)))],(.set 1),[]⟩]
def gh:List AA:=[
 ⟨none,.p2 (AN Try.prog .eql 44),[(.var 0),(.const (.ptr none))],(.set 2),[]⟩]
def oA:List AA:=[
 ⟨none,.p1 some,[(.const (.int .i64 (0)))],(.set 1),[]⟩]
def gi:List AA:=[
 ⟨none,.p1 AF,[.var 0],.push,[]⟩,
 ⟨none,.p1 (fun x=>AB Try.prog 91 x 2),[.loc 0],.push,[]⟩,
 ⟨none,.r1 (fun s a=>AC Try.prog s 23 a),[.loc 0],.push,[]⟩,
 ⟨none,.r (fun s l=>match l with | [x]=>As Try.prog s 23 x | _=>none),[.loc 0],.push,[]⟩,
 ⟨none,.p2 (AN Try.prog .sub 3),[(.loc 0),(.const (.int .i64 (1)))],.push,[]⟩,
 ⟨none,.p1 some,[.loc 0],(.set 1),[]⟩]
def qD:Aw:=⟨1,3,(.seq (.ops gg) (.seq (.seq (.ops gh) (.cond (.var 2)
 (.seq (.ops oA) .ret)
 .skip)) (.seq (.ops gi) .ret))),[((.var 1),none)]⟩
def gf:List AA:=[
 ⟨none,.p2 (AN Try.prog .eql 44),[(.var 0),(.const (.ptr none))],(.set 2),[]⟩]
def Y1:List AA:=[
 ⟨none,.p1 AF,[.var 0],.push,[]⟩,
 ⟨none,.p1 (fun x=>AB Try.prog 91 x 2),[.loc 0],.push,[]⟩,
 ⟨none,.r1 (fun s a=>AC Try.prog s 23 a),[.loc 0],.push,[]⟩,
 ⟨none,.r (fun s l=>match l with | [x]=>As Try.prog s 23 x | _=>none),[.loc 0],.push,[]⟩,
 ⟨none,.p2 (AN Try.prog .leq 3),[.loc 0,.var 1],(.set 3),[]⟩]
def Y2:List AA:=[
 ⟨none,.p1 AF,[.var 0],.push,[]⟩,
 ⟨none,.p1 (fun x=>AB Try.prog 91 x 0),[.loc 0],.push,[]⟩,
 ⟨none,.r1 (fun s a=>AC Try.prog s 88 a),[.loc 0],.push,[]⟩,
 ⟨none,.mk (fun l=>(Ab Try.prog 88 2 (zipIdx [0,1] l)).bind fun r=>some (r,.slice 2)),[(.const (.slice none 0 (some 0))),(.const (.slice none 0 (some 0)))],.push,[]⟩,
 ⟨none,.e (fun s l=>AY Try.prog s [88,88] l),[.loc 1,.loc 0],.push,[]⟩,
 ⟨none,.p1 AF,[.var 0],.push,[]⟩,
 ⟨none,.p1 (fun x=>AB Try.prog 91 x 0),[.loc 0],.push,[]⟩,
 ⟨none,.e (fun s=>BW (fun a x=>AS (AP Try.prog s 88 a x))),[.loc 0,.loc 2],.push,[]⟩]
def Y3:List AA:=[
 ⟨none,.p1 AF,[.var 0],.push,[]⟩,
 ⟨none,.p1 (fun x=>AB Try.prog 91 x 2),[.loc 0],.push,[]⟩,
 ⟨none,.r1 (fun s a=>AC Try.prog s 23 a),[.loc 0],.push,[]⟩,
 ⟨none,.mk (fun l=>(Ab Try.prog 23 1 (zipIdx [0] l)).bind fun r=>some (r,.slice 1)),[(.const (.int .i64 (0)))],.push,[]⟩,
 ⟨none,.p1 AF,[.var 0],.push,[]⟩,
 ⟨none,.p1 (fun x=>AB Try.prog 91 x 3),[.loc 0],.push,[]⟩,
 ⟨none,.r1 (fun s a=>AC Try.prog s 23 a),[.loc 0],.push,[]⟩,
 ⟨none,.mk (fun l=>(Ab Try.prog 23 1 (zipIdx [0] l)).bind fun r=>some (r,.slice 1)),[(.const (.int .i64 (0)))],.push,[]⟩,
 ⟨none,.p1 AF,[.var 0],.push,[]⟩,
 ⟨none,.p1 (fun x=>AB Try.prog 91 x 4),[.loc 0],.push,[]⟩,
 ⟨none,.r1 (fun s a=>AC Try.prog s 89 a),[.loc 0],.push,[]⟩,
 ⟨none,.mk (fun l=>(Ab Try.prog 89 1 (zipIdx [0] l)).bind fun r=>some (r,.slice 1)),[(.const (.ptr none))],.push,[]⟩,
 ⟨none,.e (fun s l=>AY Try.prog s [23,23] l),[.loc 9,.loc 8],.push,[⟨none,.r1 (fun s a=>AC Try.prog s 89 a),[.loc 3],(.loc 2)⟩,⟨none,.r1 (fun s a=>AC Try.prog s 23 a),[.loc 7],(.loc 6)⟩]⟩,
 ⟨none,.e (fun s l=>AY Try.prog s [23,23] l),[.loc 6,.loc 5],.push,[⟨none,.r1 (fun s a=>AC Try.prog s 89 a),[.loc 4],(.loc 3)⟩]⟩,
 ⟨none,.e (fun s l=>AY Try.prog s [89,89] l),[.loc 3,.loc 2],.push,[]⟩,
 ⟨none,.p1 AF,[.var 0],.push,[]⟩,
 ⟨none,.p1 (fun x=>AB Try.prog 91 x 2),[.loc 0],.push,[]⟩,
 ⟨none,.e (fun s=>BW (fun a x=>AS (AP Try.prog s 23 a x))),[.loc 0,.loc 4],.push,[]⟩,
 ⟨none,.p1 AF,[.var 0],.push,[]⟩,
 ⟨none,.p1 (fun x=>AB Try.prog 91 x 3),[.loc 0],.push,[]⟩,
 ⟨none,.e (fun s=>BW (fun a x=>AS (AP Try.prog s 23 a x))),[.loc 0,.loc 6],.push,[]⟩,
 ⟨none,.p1 AF,[.var 0],.push,[]⟩,
 ⟨none,.p1 (fun x=>AB Try.prog 91 x 4),[.loc 0],.push,[]⟩,
 ⟨none,.e (fun s=>BW (fun a x=>AS (AP Try.prog s 89 a x))),[.loc 0,.loc 8],.push,[]⟩]
def Y4:List AA:=[
 ⟨none,.p1 AF,[.var 0],.push,[]⟩,
 ⟨none,.p1 (fun x=>AB Try.prog 91 x 5),[.loc 0],.push,[]⟩,
 ⟨none,.r1 (fun s a=>AC Try.prog s 23 a),[.loc 0],.push,[]⟩,
 ⟨none,.mk (fun l=>(Ab Try.prog 23 1 (zipIdx [0] l)).bind fun r=>some (r,.slice 1)),[(.const (.int .i64 (0)))],.push,[]⟩,
 ⟨none,.p1 AF,[.var 0],.push,[]⟩,
 ⟨none,.p1 (fun x=>AB Try.prog 91 x 6),[.loc 0],.push,[]⟩,
 ⟨none,.r1 (fun s a=>AC Try.prog s 23 a),[.loc 0],.push,[]⟩,
 ⟨none,.mk (fun l=>(Ab Try.prog 23 1 (zipIdx [0] l)).bind fun r=>some (r,.slice 1)),[(.const (.int .i64 (-1)))],.push,[]⟩,
 ⟨none,.e (fun s l=>AY Try.prog s [23,23] l),[.loc 5,.loc 4],.push,[⟨none,.r1 (fun s a=>AC Try.prog s 23 a),[.loc 3],(.loc 2)⟩]⟩,
 ⟨none,.e (fun s l=>AY Try.prog s [23,23] l),[.loc 2,.loc 1],.push,[]⟩,
 ⟨none,.p1 AF,[.var 0],.push,[]⟩,
 ⟨none,.p1 (fun x=>AB Try.prog 91 x 5),[.loc 0],.push,[]⟩,
 ⟨none,.e (fun s=>BW (fun a x=>AS (AP Try.prog s 23 a x))),[.loc 0,.loc 3],.push,[]⟩,
 ⟨none,.p1 AF,[.var 0],.push,[]⟩,
 ⟨none,.p1 (fun x=>AB Try.prog 91 x 6),[.loc 0],.push,[]⟩,
 ⟨none,.e (fun s=>BW (fun a x=>AS (AP Try.prog s 23 a x))),[.loc 0,.loc 5],.push,[]⟩]
def Pc:Ac:=(.seq (.seq (.ops Y1) (.cond (.var 3)
 .skip
 (.exit 0))) (.block 1 (.seq (.ops Y2) (.seq (.ops Y3) (.ops Y4)))))
def qC:Aw:=⟨2,4,(.seq (.seq (.ops gf) (.cond (.var 2)
 .ret
 .skip)) (.block 0 (.loop Pc))),[]⟩
def gS:List AA:=[
 ⟨none,.p1 some,[(.const (.ptr none))],(.set 1),[]⟩]
def gT:List AA:=[
 ⟨none,.p (fun l=>Bu Try.prog 91 (zipIdx [14] l)),[(.const (.int .i64 (2000)))],.push,[]⟩,
 ⟨none,.mk (fun l=>match l with | [v]=>Ce 91 v | _=>none),[.loc 0],.push,[]⟩,
 ⟨none,.p1 some,[.loc 0],(.set 2),[]⟩]
def gU:List AA:=[
 ⟨none,.p (fun l=>match l with | v::l=>D6 true v l | []=>none),[(.var 0),(.const (.int .i64 (0)))],.push,[]⟩,
 ⟨none,.call 46,[.var 2,.loc 0],.push,[]⟩]
def gV:List AA:=[
 ⟨none,.p1 some,[.var 2],(.set 1),[]⟩]
def qB:Aw:=⟨1,3,(.seq (.ops gS) (.seq (.ops gT) (.seq (.ops gU) (.seq (.ops gV) .ret)))),[((.var 1),none)]⟩
def ip:List AA:=[
 ⟨none,.p1 AF,[.var 0],.push,[]⟩,
 ⟨none,.p1 (fun x=>AB Try.prog 91 x 5),[.loc 0],.push,[]⟩,
 ⟨none,.r1 (fun s a=>AC Try.prog s 23 a),[.loc 0],.push,[]⟩,
 ⟨none,.r (fun s l=>match l with | [x]=>As Try.prog s 23 x | _=>none),[.loc 0],(.set 2),[]⟩,
 ⟨none,.p1 some,[(.const (.int .i64 (0)))],(.set 3),[]⟩]
def Zc:List AA:=[
 ⟨none,.p2 (AN Try.prog .lss 3),[.var 3,.var 2],(.set 4),[]⟩]
def iq:List AA:=[
 ⟨none,.p1 some,[.var 3],(.set 1),[]⟩]
def ir:List AA:=[
 ⟨none,.p1 AF,[.var 0],.push,[]⟩,
 ⟨none,.p1 (fun x=>AB Try.prog 91 x 5),[.loc 0],.push,[]⟩,
 ⟨none,.r1 (fun s a=>AC Try.prog s 23 a),[.loc 0],.push,[]⟩,
 ⟨none,.p2 (AD Try.prog 23),[.loc 0,.var 1],.push,[]⟩,
 ⟨none,.r1 (fun s a=>AC Try.prog s 3 a),[.loc 0],.push,[]⟩,
 ⟨none,.p2 (AN Try.prog .quo 3),[(.loc 0),(.const (.int .i64 (2)))],.push,[]⟩,
 ⟨none,.p2 (AD Try.prog 23),[.loc 3,.var 1],.push,[]⟩,
 ⟨none,.e (fun s=>BW (fun a x=>AS (AP Try.prog s 3 a x))),[.loc 0,.loc 1],.push,[]⟩]
def iu:List AA:=[
 ⟨none,.p2 (AN Try.prog .add 3),[(.var 3),(.const (.int .i64 (1)))],.push,[]⟩,
 ⟨none,.p1 some,[.loc 0],(.set 3),[]⟩]
def Pm:Ac:=(.seq (.ops Zc) (.seq (.cond (.var 4)
 .skip
 (.exit 0)) (.seq (.block 1 (.seq (.ops iq) (.ops ir))) (.ops iu))))
def qO:Aw:=⟨1,5,(.seq (.ops ip) (.block 0 (.loop Pm))),[]⟩
def iy:List AA:=[
 ⟨none,.mk (fun l=>match l with | [v]=>Ce 44 v | _=>none),[.var 0],(.set 1),[]⟩]
def iz:List AA:=[
 ⟨none,.r1 (fun s a=>AC Try.prog s 44 a),[.var 1],.push,[]⟩,
 ⟨none,.p1 AF,[.loc 0],.push,[]⟩,
 ⟨none,.p1 (fun x=>AB Try.prog 91 x 1),[.loc 0],.push,[]⟩,
 ⟨none,.r1 (fun s a=>AC Try.prog s 89 a),[.loc 0],.push,[]⟩,
 ⟨none,.r (fun s l=>match l with | [x]=>As Try.prog s 89 x | _=>none),[.loc 0],.push,[]⟩,
 ⟨none,.r1 (fun s a=>AC Try.prog s 44 a),[.var 1],.push,[]⟩,
 ⟨none,.p1 AF,[.loc 0],.push,[]⟩,
 ⟨none,.p1 (fun x=>AB Try.prog 91 x 14),[.loc 0],.push,[]⟩,
 ⟨none,.r1 (fun s a=>AC Try.prog s 3 a),[.loc 0],.push,[]⟩,
 ⟨none,.p2 (AN Try.prog .lss 3),[.loc 4,.loc 0],(.set 3),[]⟩]
def oE:List AA:=[
 ⟨none,.r1 (fun s a=>AC Try.prog s 44 a),[.var 1],.push,[]⟩,
 ⟨none,.p1 AF,[.loc 0],.push,[]⟩,
 ⟨none,.p1 (fun x=>AB Try.prog 91 x 14),[.loc 0],.push,[]⟩,
 ⟨none,.r1 (fun s a=>AC Try.prog s 3 a),[.loc 0],.push,[]⟩,
 ⟨none,.r1 (fun s a=>AC Try.prog s 44 a),[.var 1],.push,[]⟩,
 ⟨none,.p1 AF,[.loc 0],.push,[]⟩,
 ⟨none,.p1 (fun x=>AB Try.prog 91 x 14),[.loc 0],.push,[]⟩,
 ⟨none,.r1 (fun s a=>AC Try.prog s 3 a),[.loc 0],.push,[]⟩,
 ⟨none,.p2 (AN Try.prog .quo 3),[(.loc 0),(.const (.int .i64 (8)))],.push,[]⟩,
 ⟨none,.p2 (AN Try.prog .add 3),[.loc 5,.loc 0],.push,[]⟩,
 ⟨none,.p1 AF,[.loc 9],.push,[]⟩,
 ⟨none,.p1 (fun x=>AB Try.prog 91 x 14),[.loc 0],.push,[]⟩,
 ⟨none,.e (fun s=>BW (fun a x=>AS (AP Try.prog s 3 a x))),[.loc 0,.loc 2],.push,[]⟩]
def oF:List AA:=[
 ⟨none,.mk (fun l=>match l with | []=>BF Try.prog 3 | _=>none),[],(.set 2),[]⟩,
 ⟨none,.e (fun s=>BW (fun a x=>AS (AP Try.prog s 3 a x))),[(.var 2),(.const (.int .i64 (0)))],.push,[]⟩]
def oG:List AA:=[
 ⟨none,.r1 (fun s a=>AC Try.prog s 44 a),[.var 1],.push,[]⟩,
 ⟨none,.r1 (fun s a=>AC Try.prog s 44 a),[.var 1],.push,[]⟩,
 ⟨none,.p1 AF,[.loc 0],.push,[]⟩,
 ⟨none,.p1 (fun x=>AB Try.prog 91 x 1),[.loc 0],.push,[]⟩,
 ⟨none,.r1 (fun s a=>AC Try.prog s 89 a),[.loc 0],.push,[]⟩,
 ⟨none,.p (fun l=>some (.func 97 (l.take 0) (l.drop 0))),[.var 1,.var 2],.push,[]⟩,
 ⟨none,.call 96,[.loc 1,.loc 0],.push,[⟨none,.r1 (fun s a=>AC Try.prog s 44 a),[.var 1],(.loc 6)⟩]⟩,
 ⟨none,.p1 AF,[.loc 6],.push,[]⟩,
 ⟨none,.p1 (fun x=>AB Try.prog 91 x 1),[.loc 0],.push,[]⟩,
 ⟨none,.e (fun s=>BW (fun a x=>AS (AP Try.prog s 89 a x))),[.loc 0,.loc 2],.push,[]⟩]
def qP:Aw:=⟨1,4,(.seq (.ops iy) (.seq (.seq (.ops iz) (.cond (.var 3)
 .ret
 .skip)) (.seq (.ops oE) (.seq (.ops oF) (.ops oG))))),[]⟩
def i6:List AA:=[
 ⟨none,.mk (fun l=>match l with | [v]=>Ce 44 v | _=>none),[.var 0],(.set 1),[]⟩,
 ⟨none,.p1 some,[(.const (.int .i64 (0)))],(.set 2),[]⟩]
def i9:List AA:=[
 ⟨none,.mk (fun l=>match l with | []=>BF Try.prog 3 | _=>none),[],(.set 3),[]⟩,
 ⟨none,.e (fun s=>BW (fun a x=>AS (AP Try.prog s 3 a x))),[(.var 3),(.const (.int .i64 (0)))],.push,[]⟩]
def jA:List AA:=[
 ⟨none,.p (fun l=>some (.func 99 (l.take 0) (l.drop 0))),[.var 3,.var 1],.push,[]⟩,
 ⟨none,.p1 some,[.loc 0],(.set 4),[]⟩]
def jB:List AA:=[
 ⟨none,.p1 some,[(.const (.int .i64 (1)))],(.set 5),[]⟩]
def Uh:List AA:=[
 ⟨none,.r1 (fun s a=>AC Try.prog s 44 a),[.var 1],.push,[]⟩,
 ⟨none,.p1 AF,[.loc 0],.push,[]⟩,
 ⟨none,.p1 (fun x=>AB Try.prog 91 x 2),[.loc 0],.push,[]⟩,
 ⟨none,.r1 (fun s a=>AC Try.prog s 23 a),[.loc 0],.push,[]⟩,
 ⟨none,.r (fun s l=>match l with | [x]=>As Try.prog s 23 x | _=>none),[.loc 0],.push,[]⟩,
 ⟨none,.p2 (AN Try.prog .lss 3),[.var 5,.loc 0],(.set 6),[]⟩]
def Zd:List AA:=[
 ⟨none,.r1 (fun s a=>AC Try.prog s 44 a),[.var 1],.push,[]⟩,
 ⟨none,.p1 AF,[.loc 0],.push,[]⟩,
 ⟨none,.p1 (fun x=>AB Try.prog 91 x 2),[.loc 0],.push,[]⟩,
 ⟨none,.r1 (fun s a=>AC Try.prog s 23 a),[.loc 0],.push,[]⟩,
 ⟨none,.p2 (AD Try.prog 23),[.loc 0,.var 5],.push,[]⟩,
 ⟨none,.r1 (fun s a=>AC Try.prog s 3 a),[.loc 0],.push,[]⟩,
 ⟨none,.p2 (AN Try.prog .eql 3),[(.loc 0),(.const (.int .i64 (0)))],.push,[]⟩,
 ⟨(some ((.loc 0),true)),.p1 some,[.var 4],.push,[]⟩,
 ⟨(some ((.loc 1),true)),.p1 some,[.var 5],.push,[]⟩,
 ⟨(some ((.loc 2),true)),.callv,[.loc 1,.loc 0],.push,[]⟩,
 ⟨none,.p Rn,[(.loc 3),(.loc 0),(.const (.bool false))],(.set 7),[]⟩]
def jC:List AA:=[
 ⟨none,.e (fun s=>BW (fun a x=>AS (AP Try.prog s 3 a x))),[.var 3,.var 5],.push,[]⟩]
def Ui:List AA:=[
 ⟨none,.p1 some,[.var 5],.push,[]⟩,
 ⟨none,.p2 (AN Try.prog .add 3),[(.loc 0),(.const (.int .i64 (1)))],.push,[]⟩,
 ⟨none,.p1 some,[.loc 0],(.set 5),[]⟩]
def NK:Ac:=(.seq (.seq (.ops Uh) (.cond (.var 6)
 .skip
 (.exit 0))) (.seq (.block 1 (.seq (.ops Zd) (.cond (.var 7)
 (.ops jC)
 .skip))) (.ops Ui)))
def jD:List AA:=[
 ⟨none,.r1 (fun s a=>AC Try.prog s 3 a),[.var 3],.push,[]⟩,
 ⟨none,.p1 some,[.loc 0],(.set 2),[]⟩]
def qQ:Aw:=⟨1,8,(.seq (.ops i6) (.seq (.ops i9) (.seq (.ops jA) (.seq (.seq (.ops jB) (.block 0 (.loop NK))) (.seq (.ops jD) .ret))))),[((.var 2),none)]⟩
def aI:List AA:=[
 ⟨none,.p1 some,[(.const (.bool false))],(.set 3),[]⟩]
def aJ:List AA:=[
 ⟨none,.r1 (fun s a=>AC Try.prog s 3 a),[.var 1],.push,[]⟩,
 ⟨none,.p2 (AN Try.prog .eql 3),[(.loc 0),(.const (.int .i64 (0)))],.push,[]⟩,
 ⟨(some ((.loc 0),false)),.r1 (fun s a=>AC Try.prog s 44 a),[.var 2],.push,[]⟩,
 ⟨(some ((.loc 1),false)),.p1 AF,[.loc 0],.push,[]⟩,
 ⟨(some ((.loc 2),false)),.p1 (fun x=>AB Try.prog 91 x 5),[.loc 0],.push,[]⟩,
 ⟨(some ((.loc 3),false)),.r1 (fun s a=>AC Try.prog s 23 a),[.loc 0],.push,[]⟩,
 ⟨(some ((.loc 4),false)),.p1 some,[.var 0],.push,[]⟩,
 ⟨(some ((.loc 5),false)),.p2 (AD Try.prog 23),[.loc 1,.loc 0],.push,[]⟩,
 ⟨(some ((.loc 6),false)),.r1 (fun s a=>AC Try.prog s 3 a),[.loc 0],.push,[]⟩,
 ⟨(some ((.loc 7),false)),.r1 (fun s a=>AC Try.prog s 44 a),[.var 2],.push,[]⟩,
 ⟨(some ((.loc 8),false)),.p1 AF,[.loc 0],.push,[]⟩,
 ⟨(some ((.loc 9),false)),.p1 (fun x=>AB Try.prog 91 x 5),[.loc 0],.push,[]⟩,
 ⟨(some ((.loc 10),false)),.r1 (fun s a=>AC Try.prog s 23 a),[.loc 0],.push,[]⟩,
 ⟨(some ((.loc 11),false)),.r1 (fun s a=>AC Try.prog s 3 a),[.var 1],.push,[]⟩,
 ⟨(some ((.loc 12),false)),.p2 (AD Try.prog 23),[.loc 1,.loc 0],.push,[]⟩,
 ⟨(some ((.loc 13),false)),.r1 (fun s a=>AC Try.prog s 3 a),[.loc 0],.push,[]⟩,
 ⟨(some ((.loc 14),false)),.p2 (AN Try.prog .gtr 3),[.loc 7,.loc 0],.push,[]⟩,
 ⟨none,.p Rn,[(.loc 15),(.const (.bool true)),(.loc 0)],.push,[]⟩,
 ⟨none,.p1 some,[.loc 0],(.set 3),[]⟩]
def pg:Aw:=⟨3,4,(.seq (.ops aI) (.seq (.ops aJ) .ret)),[((.var 3),none)]⟩
def jH:List AA:=[
 ⟨none,.p1 some,[(.const (.bool false))],(.set 2),[]⟩]
def jI:List AA:=[
 ⟨none,.call 94,[.var 0,.var 1],.push,[]⟩,
 ⟨none,.p2 (AN Try.prog .geq 3),[(.loc 0),(.const (.int .i64 (0)))],.push,[]⟩,
 ⟨none,.p1 some,[.loc 0],(.set 2),[]⟩]
def qS:Aw:=⟨2,3,(.seq (.ops jH) (.seq (.ops jI) .ret)),[((.var 2),none)]⟩
def Ze:List AA:=[
 ⟨none,.p1 some,[(.const (.bool false))],(.set 2),[]⟩]
def Zf:List AA:=[
 ⟨none,.p2 (AN Try.prog .eql 3),[(.var 0),(.const (.int .i64 (0)))],.push,[]⟩,
 ⟨(some ((.loc 0),false)),.p1 some,[.var 0],.push,[]⟩,
 ⟨(some ((.loc 1),false)),.r1 (fun s a=>AC Try.prog s 44 a),[.var 1],.push,[]⟩,
 ⟨(some ((.loc 2),false)),.call 47,[.loc 0],.push,[]⟩,
 ⟨(some ((.loc 3),false)),.p1 (Hv Try.prog Go.UnOp.neg),[.loc 0],.push,[]⟩,
 ⟨(some ((.loc 4),false)),.p2 (AN Try.prog .lss 3),[.loc 3,.loc 0],.push,[]⟩,
 ⟨none,.p Rn,[(.loc 5),(.const (.bool true)),(.loc 0)],.push,[]⟩,
 ⟨(some ((.loc 0),false)),.p1 some,[.var 0],.push,[]⟩,
 ⟨(some ((.loc 1),false)),.r1 (fun s a=>AC Try.prog s 44 a),[.var 1],.push,[]⟩,
 ⟨(some ((.loc 2),false)),.call 47,[.loc 0],.push,[]⟩,
 ⟨(some ((.loc 3),false)),.p2 (AN Try.prog .gtr 3),[.loc 2,.loc 0],.push,[]⟩,
 ⟨none,.p Rn,[(.loc 4),(.const (.bool true)),(.loc 0)],.push,[]⟩,
 ⟨none,.p1 some,[.loc 0],(.set 2),[]⟩]
def pX:Aw:=⟨2,3,(.seq (.ops Ze) (.seq (.ops Zf) .ret)),[((.var 2),none)]⟩
def XB:List AA:=[
 ⟨none,.p1 some,[(.const (.bool false))],(.set 2),[]⟩]
def XC:List AA:=[
 ⟨none,.r1 (fun s a=>AC Try.prog s 23 a),[.var 1],.push,[]⟩,
 ⟨none,.p1 (Hv Try.prog Go.UnOp.neg),[.var 0],.push,[]⟩,
 ⟨none,.call 101,[.loc 1,.loc 0],.push,[]⟩,
 ⟨none,.p1 some,[.loc 0],(.set 2),[]⟩]
def nY:Aw:=⟨2,3,(.seq (.ops XB) (.seq (.ops XC) .ret)),[((.var 2),none)]⟩
def XD:List AA:=[
 ⟨none,.p1 some,[(.const (.bool false))],(.set 2),[]⟩]
def XE:List AA:=[
 ⟨none,.call 113,[.var 0,.var 1],.push,[]⟩,
 ⟨none,.p2 (AN Try.prog .geq 3),[(.loc 0),(.const (.int .i64 (0)))],.push,[]⟩,
 ⟨none,.p1 some,[.loc 0],(.set 2),[]⟩]
def nZ:Aw:=⟨2,3,(.seq (.ops XD) (.seq (.ops XE) .ret)),[((.var 2),none)]⟩
def Xk:List AA:=[
 ⟨none,.p1 some,[(.const (.int .i64 (0)))],(.set 2),[]⟩]
def Xl:List AA:=[
 ⟨none,.r (fun s l=>match l with | [x]=>As Try.prog s 23 x | _=>none),[.var 0],(.set 4),[]⟩,
 ⟨none,.p1 some,[(.const (.int .i64 (0)))],(.set 5),[]⟩]
def OL:List AA:=[
 ⟨none,.p2 (AN Try.prog .lss 3),[.var 5,.var 4],(.set 6),[]⟩]
def SN:List AA:=[
 ⟨none,.p1 some,[.var 5],(.set 3),[]⟩]
def SO:List AA:=[
 ⟨none,.p2 (AD Try.prog 23),[.var 0,.var 3],.push,[]⟩,
 ⟨none,.r1 (fun s a=>AC Try.prog s 3 a),[.loc 0],.push,[]⟩,
 ⟨none,.p2 (AN Try.prog .eql 3),[.var 1,.loc 0],(.set 7),[]⟩]
def Xm:List AA:=[
 ⟨none,.p1 some,[.var 3],(.set 2),[]⟩]
def Xn:List AA:=[
 ⟨none,.p2 (AN Try.prog .add 3),[(.var 5),(.const (.int .i64 (1)))],.push,[]⟩,
 ⟨none,.p1 some,[.loc 0],(.set 5),[]⟩]
def Jk:Ac:=(.seq (.ops OL) (.seq (.cond (.var 6)
 .skip
 (.exit 0)) (.seq (.block 1 (.seq (.ops SN) (.seq (.ops SO) (.cond (.var 7)
 (.seq (.ops Xm) .ret)
 .skip)))) (.ops Xn))))
def Xo:List AA:=[
 ⟨none,.p1 some,[(.const (.int .i64 (-1)))],(.set 2),[]⟩]
def nl:Aw:=⟨2,8,(.seq (.ops Xk) (.seq (.seq (.ops Xl) (.block 0 (.loop Jk))) (.seq (.ops Xo) .ret))),[((.var 2),none)]⟩
def jJ:List AA:=[
 ⟨none,.p1 some,[(.const (.slice none 0 (some 0)))],(.set 1),[]⟩,
 ⟨none,.p1 some,[(.const (.bool false))],(.set 2),[]⟩]
def jK:List AA:=[
 ⟨none,.call 60,[.var 0],.push,[]⟩,
 ⟨none,.mk (fun l=>match l with | []=>BF Try.prog 23 | _=>none),[],(.set 3),[]⟩,
 ⟨none,.e (fun s=>BW (fun a x=>AS (AP Try.prog s 23 a x))),[.var 3,.loc 0],.push,[]⟩]
def jL:List AA:=[
 ⟨none,.r1 (fun s a=>AC Try.prog s 23 a),[.var 3],.push,[]⟩,
 ⟨none,.call 87,[.loc 0],.push,[]⟩]
def jM:List AA:=[
 ⟨none,.r1 (fun s a=>AC Try.prog s 23 a),[.var 3],.push,[]⟩,
 ⟨none,.call 88,[.loc 0],.push,[]⟩,
 ⟨none,.e (fun s=>BW (fun a x=>AS (AP Try.prog s 23 a x))),[.var 3,.loc 0],.push,[]⟩]
def jN:List AA:=[
 ⟨none,.r1 (fun s a=>AC Try.prog s 23 a),[.var 3],.push,[]⟩,
 ⟨none,.r1 (fun s a=>AC Try.prog s 23 a),[.var 3],.push,[]⟩,
 ⟨none,.p (fun l=>some (.func 100 (l.take 0) (l.drop 0))),[.var 3],.push,[]⟩,
 ⟨none,.call 72,[.loc 1,.loc 0],.push,[⟨none,.r1 (fun s a=>AC Try.prog s 23 a),[.var 3],(.loc 3)⟩]⟩,
 ⟨none,.p1 (Hv Try.prog Go.UnOp.not),[.loc 0],.push,[]⟩,
 ⟨none,.p1 some,[.loc 4],(.set 1),[]⟩,
 ⟨none,.p1 some,[.loc 0],(.set 2),[]⟩]
def qT:Aw:=⟨1,4,(.seq (.ops jJ) (.seq (.ops jK) (.seq (.ops jL) (.seq (.ops jM) (.seq (.ops jN) .ret))))),[((.var 1),none),((.var 2),none)]⟩
def jO:List AA:=[
 ⟨none,.r (fun s l=>match l with | [x]=>As Try.prog s 23 x | _=>none),[.var 0],.push,[]⟩,
 ⟨none,.call 102,[.var 0,.loc 0,.var 1],.push,[]⟩]
def qU:Aw:=⟨2,2,(.ops jO),[]⟩
def jP:List AA:=[
 ⟨none,.p1 some,[(.const (.int .i64 (0)))],(.set 3),[]⟩]
def jQ:List AA:=[
 ⟨none,.r1 (fun s a=>AC Try.prog s 44 a),[.var 2],.push,[]⟩,
 ⟨none,.r1 (fun s a=>AC Try.prog s 44 a),[.var 2],.push,[]⟩,
 ⟨none,.call 77,[.loc 1,.var 1],.push,[⟨none,.r1 (fun s a=>AC Try.prog s 44 a),[.var 2],(.loc 1)⟩]⟩,
 ⟨none,.call 77,[.loc 1,.var 0],.push,[]⟩,
 ⟨none,.p2 (AN Try.prog .sub 3),[.loc 1,.loc 0],.push,[]⟩,
 ⟨none,.p1 some,[.loc 0],(.set 3),[]⟩]
def qV:Aw:=⟨3,4,(.seq (.ops jP) (.seq (.ops jQ) .ret)),[((.var 3),none)]⟩
def XG:List AA:=[
 ⟨none,.p1 some,[(.const (.int .i64 (20)))],(.set 3),[]⟩]
def XH:List AA:=[
 ⟨none,.p1 some,[(.const (.int .i64 (0)))],(.set 4),[]⟩,
 ⟨none,.p1 some,[.var 3],(.set 5),[]⟩]
def XI:List AA:=[
 ⟨none,.p2 (AN Try.prog .leq 3),[.var 5,.var 1],(.set 7),[]⟩]
def kW:List AA:=[
 ⟨none,.call 114,[.var 0,.var 4,.var 5,.var 2],.push,[]⟩]
def kX:List AA:=[
 ⟨none,.p1 some,[.var 5],(.set 4),[]⟩]
def kY:List AA:=[
 ⟨none,.p1 some,[.var 5],.push,[]⟩,
 ⟨none,.p2 (AN Try.prog .add 3),[.loc 0,.var 3],.push,[]⟩,
 ⟨none,.p1 some,[.loc 0],(.set 5),[]⟩]
def XF:Ac:=(.seq (.seq (.ops XI) (.cond (.var 7)
 .skip
 (.exit 0))) (.block 1 (.seq (.ops kW) (.seq (.ops kX) (.ops kY)))))
def XJ:List AA:=[
 ⟨none,.call 114,[.var 0,.var 4,.var 1,.var 2],.push,[]⟩]
def XK:List AA:=[
 ⟨none,.p2 (AN Try.prog .lss 3),[.var 3,.var 1],(.set 8),[]⟩]
def kZ:List AA:=[
 ⟨none,.p2 (AN Try.prog .mul 3),[(.const (.int .i64 (2))),(.var 3)],.push,[]⟩,
 ⟨none,.p1 some,[(.const (.int .i64 (0)))],(.set 4),[]⟩,
 ⟨none,.p1 some,[.loc 0],(.set 5),[]⟩]
def c9:List AA:=[
 ⟨none,.p2 (AN Try.prog .leq 3),[.var 5,.var 1],(.set 9),[]⟩]
def dA:List AA:=[
 ⟨none,.p2 (AN Try.prog .add 3),[.var 4,.var 3],.push,[]⟩,
 ⟨none,.call 115,[.var 0,.var 4,.loc 0,.var 5,.var 2],.push,[]⟩]
def dB:List AA:=[
 ⟨none,.p1 some,[.var 5],(.set 4),[]⟩]
def dC:List AA:=[
 ⟨none,.p1 some,[.var 5],.push,[]⟩,
 ⟨none,.p2 (AN Try.prog .mul 3),[(.const (.int .i64 (2))),(.var 3)],.push,[]⟩,
 ⟨none,.p2 (AN Try.prog .add 3),[.loc 1,.loc 0],.push,[]⟩,
 ⟨none,.p1 some,[.loc 0],(.set 5),[]⟩]
def c8:Ac:=(.seq (.seq (.ops c9) (.cond (.var 9)
 .skip
 (.exit 4))) (.block 5 (.seq (.ops dA) (.seq (.ops dB) (.ops dC)))))
def dD:List AA:=[
 ⟨none,.p2 (AN Try.prog .add 3),[.var 4,.var 3],.push,[]⟩,
 ⟨none,.p1 some,[.loc 0],(.set 6),[]⟩]
def dE:List AA:=[
 ⟨none,.p2 (AN Try.prog .lss 3),[.var 6,.var 1],(.set 10),[]⟩]
def dF:List AA:=[
 ⟨none,.call 115,[.var 0,.var 4,.var 6,.var 1,.var 2],.push,[]⟩]
def dG:List AA:=[
 ⟨none,.p1 some,[.var 3],.push,[]⟩,
 ⟨none,.p2 (AN Try.prog .mul 3),[(.loc 0),(.const (.int .i64 (2)))],.push,[]⟩,
 ⟨none,.p1 some,[.loc 0],(.set 3),[]⟩]
def UX:Ac:=(.seq (.seq (.ops XK) (.cond (.var 8)
 .skip
 (.exit 2))) (.block 3 (.seq (.ops kZ) (.seq (.block 4 (.loop c8)) (.seq (.seq (.ops dD) (.seq (.ops dE) (.cond (.var 10)
 (.ops dF)
 .skip))) (.ops dG))))))
def nf:Aw:=⟨3,11,(.seq (.ops XG) (.seq (.ops XH) (.seq (.block 0 (.loop XF)) (.seq (.ops XJ) (.block 2 (.loop UX)))))),[]⟩
def SP:List AA:=[
 ⟨none,.p2 (AN Try.prog .add 3),[(.var 1),(.const (.int .i64 (1)))],.push,[]⟩,
 ⟨none,.p1 some,[.loc 0],(.set 4),[]⟩]
def LL:List AA:=[
 ⟨none,.p2 (AN Try.prog .lss 3),[.var 4,.var 2],(.set 6),[]⟩]
def Xp:List AA:=[
 ⟨none,.p1 some,[.var 4],(.set 5),[]⟩]
def SQ:List AA:=[
 ⟨none,.p2 (AN Try.prog .gtr 3),[.var 5,.var 1],.push,[]⟩,
 ⟨(some ((.loc 0),true)),.p1 some,[.var 3],.push,[]⟩,
 ⟨(some ((.loc 1),true)),.p1 some,[.var 0],.push,[]⟩,
 ⟨(some ((.loc 2),true)),.p1 some,[.var 5],.push,[]⟩,
 ⟨(some ((.loc 3),true)),.p2 (AD Try.prog 23),[.loc 1,.loc 0],.push,[]⟩,
 ⟨(some ((.loc 4),true)),.r1 (fun s a=>AC Try.prog s 3 a),[.loc 0],.push,[]⟩,
 ⟨(some ((.loc 5),true)),.p1 some,[.var 0],.push,[]⟩,
 ⟨(some ((.loc 6),true)),.p1 some,[.var 5],.push,[]⟩,
 ⟨(some ((.loc 7),true)),.p2 (AN Try.prog .sub 3),[(.loc 0),(.const (.int .i64 (1)))],.push,[]⟩,
 ⟨(some ((.loc 8),true)),.p2 (AD Try.prog 23),[.loc 2,.loc 0],.push,[]⟩,
 ⟨(some ((.loc 9),true)),.r1 (fun s a=>AC Try.prog s 3 a),[.loc 0],.push,[]⟩,
 ⟨(some ((.loc 10),true)),.callv,[.loc 9,.loc 5,.loc 0],.push,[]⟩,
 ⟨(some ((.loc 11),true)),.p2 (AN Try.prog .lss 3),[(.loc 0),(.const (.int .i64 (0)))],.push,[]⟩,
 ⟨none,.p Rn,[(.loc 12),(.loc 0),(.const (.bool false))],(.set 7),[]⟩]
def Xq:List AA:=[
 ⟨none,.p2 (AN Try.prog .sub 3),[(.var 5),(.const (.int .i64 (1)))],.push,[]⟩,
 ⟨none,.p2 (AN Try.prog .sub 3),[(.var 5),(.const (.int .i64 (1)))],.push,[]⟩,
 ⟨none,.p2 (AD Try.prog 23),[.var 0,.loc 0],.push,[]⟩,
 ⟨none,.r1 (fun s a=>AC Try.prog s 3 a),[.loc 0],.push,[]⟩,
 ⟨none,.p2 (AD Try.prog 23),[.var 0,.var 5],.push,[]⟩,
 ⟨none,.r1 (fun s a=>AC Try.prog s 3 a),[.loc 0],.push,[]⟩,
 ⟨none,.p2 (AD Try.prog 23),[.var 0,.var 5],.push,[]⟩,
 ⟨none,.e (fun s=>BW (fun a x=>AS (AP Try.prog s 3 a x))),[.loc 0,.loc 3],.push,[]⟩,
 ⟨none,.p2 (AD Try.prog 23),[.var 0,.loc 7],.push,[]⟩,
 ⟨none,.e (fun s=>BW (fun a x=>AS (AP Try.prog s 3 a x))),[.loc 0,.loc 3],.push,[]⟩]
def Xr:List AA:=[
 ⟨none,.p1 some,[.var 5],.push,[]⟩,
 ⟨none,.p2 (AN Try.prog .sub 3),[(.loc 0),(.const (.int .i64 (1)))],.push,[]⟩,
 ⟨none,.p1 some,[.loc 0],(.set 5),[]⟩]
def LK:Ac:=(.seq (.seq (.ops SQ) (.cond (.var 7)
 .skip
 (.exit 2))) (.seq (.block 3 (.ops Xq)) (.ops Xr)))
def Xs:List AA:=[
 ⟨none,.p1 some,[.var 4],.push,[]⟩,
 ⟨none,.p2 (AN Try.prog .add 3),[(.loc 0),(.const (.int .i64 (1)))],.push,[]⟩,
 ⟨none,.p1 some,[.loc 0],(.set 4),[]⟩]
def IL:Ac:=(.seq (.seq (.ops LL) (.cond (.var 6)
 .skip
 (.exit 0))) (.seq (.block 1 (.seq (.ops Xp) (.block 2 (.loop LK)))) (.ops Xs)))
def km:Aw:=⟨4,8,(.seq (.ops SP) (.block 0 (.loop IL))),[]⟩
def gM:List AA:=[
 ⟨none,.mk (fun l=>match l with | [v]=>Ce 44 v | _=>none),[.var 0],(.set 2),[]⟩,
 ⟨none,.p1 some,[(.const (.int .i64 (0)))],(.set 3),[]⟩]
def gN:List AA:=[
 ⟨none,.r1 (fun s a=>AC Try.prog s 44 a),[.var 2],.push,[]⟩,
 ⟨none,.p2 (AN Try.prog .eql 44),[(.loc 0),(.const (.ptr none))],.push,[]⟩,
 ⟨none,.p1 some,[.loc 0],(.set 7),[]⟩]
def nw:List AA:=[
 ⟨none,.p1 some,[(.const (.int .i64 (1)))],(.set 3),[]⟩]
def gO:List AA:=[
 ⟨none,.p (fun l=>some (.func 73 (l.take 0) (l.drop 0))),[.var 2],.push,[]⟩,
 ⟨none,.call 72,[.var 1,.loc 0],.push,[]⟩,
 ⟨none,.p1 some,[.loc 0],(.set 8),[]⟩]
def ny:List AA:=[
 ⟨none,.p1 some,[(.const (.int .i64 (2)))],(.set 3),[]⟩]
def gP:List AA:=[
 ⟨none,.r1 (fun s a=>AC Try.prog s 44 a),[.var 2],.push,[]⟩,
 ⟨none,.call 63,[(.loc 0),(.const (.int .i64 (0)))],.push,[]⟩]
def gQ:List AA:=[
 ⟨none,.call 74,[.var 1],.push,[]⟩,
 ⟨none,.p1 (fun x=>Rp x 0),[.loc 0],.push,[]⟩,
 ⟨none,.p1 (fun x=>Rp x 1),[.loc 1],.push,[]⟩,
 ⟨none,.p1 some,[.loc 1],(.set 4),[]⟩,
 ⟨none,.p1 some,[.loc 0],(.set 5),[]⟩]
def Uc:List AA:=[
 ⟨none,.p1 (Hv Try.prog Go.UnOp.not),[.var 5],.push,[]⟩,
 ⟨(some ((.loc 0),false)),.r1 (fun s a=>AC Try.prog s 44 a),[.var 2],.push,[]⟩,
 ⟨(some ((.loc 1),false)),.p1 AF,[.loc 0],.push,[]⟩,
 ⟨(some ((.loc 2),false)),.p1 (fun x=>AB Try.prog 91 x 10),[.loc 0],.push,[]⟩,
 ⟨(some ((.loc 3),false)),.r1 (fun s a=>AC Try.prog s 4 a),[.loc 0],.push,[]⟩,
 ⟨none,.p Rn,[(.loc 4),(.const (.bool true)),(.loc 0)],(.set 9),[]⟩]
def Yy:List AA:=[
 ⟨none,.p1 some,[(.const (.int .i64 (0)))],(.set 3),[]⟩]
def gR:List AA:=[
 ⟨none,.p (fun l=>some (.func 76 (l.take 0) (l.drop 0))),[.var 2],.push,[]⟩,
 ⟨none,.call 75,[.var 4,.loc 0],.push,[]⟩]
def Sq:List AA:=[
 ⟨none,.p (fun l=>Bu Try.prog 104 (zipIdx [0] l)),[.var 4],.push,[]⟩,
 ⟨none,.mk (fun l=>match l with | [v]=>Ce 104 v | _=>none),[.loc 0],.push,[]⟩,
 ⟨none,.p1 some,[.loc 0],(.set 6),[]⟩]
def LU:List AA:=[
 ⟨none,.r (fun s l=>match l with | [x]=>As Try.prog s 23 x | _=>none),[.var 4],.push,[]⟩,
 ⟨none,.p2 (AN Try.prog .gtr 3),[(.loc 0),(.const (.int .i64 (1)))],(.set 10),[]⟩]
def Sr:List AA:=[
 ⟨none,.r1 (fun s a=>AC Try.prog s 44 a),[.var 2],.push,[]⟩,
 ⟨none,.call 78,[.loc 0,.var 6],.push,[]⟩]
def LV:List AA:=[
 ⟨none,.r (fun s l=>match l with | [x]=>As Try.prog s 23 x | _=>none),[.var 4],.push,[]⟩,
 ⟨none,.p2 (AN Try.prog .eql 3),[(.loc 0),(.const (.int .i64 (0)))],.push,[]⟩,
 ⟨(some ((.loc 0),false)),.r1 (fun s a=>AC Try.prog s 44 a),[.var 2],.push,[]⟩,
 ⟨(some ((.loc 1),false)),.p1 some,[.var 4],.push,[]⟩,
 ⟨(some ((.loc 2),false)),.p2 (AD Try.prog 23),[(.loc 0),(.const (.int .i64 (0)))],.push,[]⟩,
 ⟨(some ((.loc 3),false)),.r1 (fun s a=>AC Try.prog s 3 a),[.loc 0],.push,[]⟩,
 ⟨(some ((.loc 4),false)),.call 77,[.loc 3,.loc 0],.push,[]⟩,
 ⟨(some ((.loc 5),false)),.p2 (AN Try.prog .lss 3),[(.loc 0),(.const (.int .i64 (0)))],.push,[]⟩,
 ⟨none,.p Rn,[(.loc 6),(.const (.bool true)),(.loc 0)],.push,[]⟩,
 ⟨none,.p1 some,[.loc 0],(.set 11),[]⟩]
def LW:List AA:=[
 ⟨none,.r1 (fun s a=>AC Try.prog s 44 a),[.var 2],.push,[]⟩,
 ⟨none,.call 65,[.loc 0],.push,[]⟩]
def OS:List AA:=[
 ⟨none,.r1 (fun s a=>AC Try.prog s 44 a),[.var 2],.push,[]⟩,
 ⟨none,.p2 (AD Try.prog 23),[(.var 4),(.const (.int .i64 (0)))],.push,[]⟩,
 ⟨none,.r1 (fun s a=>AC Try.prog s 3 a),[.loc 0],.push,[]⟩,
 ⟨none,.call 77,[.loc 2,.loc 0],.push,[]⟩,
 ⟨none,.p2 (AN Try.prog .eql 3),[(.loc 0),(.const (.int .i64 (0)))],.push,[]⟩,
 ⟨(some ((.loc 0),true)),.p1 some,[.var 4],.push,[]⟩,
 ⟨(some ((.loc 1),true)),.r (fun s l=>match l with | [x]=>As Try.prog s 23 x | _=>none),[.loc 0],.push,[]⟩,
 ⟨(some ((.loc 2),true)),.p2 (AN Try.prog .eql 3),[(.loc 0),(.const (.int .i64 (1)))],.push,[]⟩,
 ⟨(some ((.loc 3),true)),.p1 some,[.loc 0],.push,[]⟩,
 ⟨(some ((.loc 0),false)),.r1 (fun s a=>AC Try.prog s 44 a),[.var 2],.push,[]⟩,
 ⟨(some ((.loc 1),false)),.p1 some,[.var 4],.push,[]⟩,
 ⟨(some ((.loc 2),false)),.p2 (AD Try.prog 23),[(.loc 0),(.const (.int .i64 (1)))],.push,[]⟩,
 ⟨(some ((.loc 3),false)),.r1 (fun s a=>AC Try.prog s 3 a),[.loc 0],.push,[]⟩,
 ⟨(some ((.loc 4),false)),.call 77,[.loc 3,.loc 0],.push,[]⟩,
 ⟨(some ((.loc 5),false)),.p2 (AN Try.prog .lss 3),[(.loc 0),(.const (.int .i64 (0)))],.push,[]⟩,
 ⟨(some ((.loc 10),true)),.p Rn,[(.loc 6),(.const (.bool true)),(.loc 0)],.push,[]⟩,
 ⟨none,.p Rn,[(.loc 11),(.loc 0),(.const (.bool false))],.push,[]⟩,
 ⟨none,.p1 some,[.loc 0],(.set 12),[]⟩]
def LX:List AA:=[
 ⟨none,.r1 (fun s a=>AC Try.prog s 44 a),[.var 2],.push,[]⟩,
 ⟨none,.p2 (AD Try.prog 23),[(.var 4),(.const (.int .i64 (0)))],.push,[]⟩,
 ⟨none,.r1 (fun s a=>AC Try.prog s 3 a),[.loc 0],.push,[]⟩,
 ⟨none,.call 71,[.loc 2,.loc 0,.var 6],.push,[]⟩]
def GN:List AA:=[
 ⟨none,.p1 some,[(.const (.int .i64 (0)))],(.set 3),[]⟩]
def pE:Aw:=⟨2,13,(.seq (.ops gM) (.seq (.block 0 (.seq (.ops gN) (.cond (.var 7)
 (.seq (.ops nw) .ret)
 (.seq (.ops gO) (.cond (.var 8)
 (.seq (.ops ny) .ret)
 .skip))))) (.seq (.ops gP) (.seq (.ops gQ) (.seq (.seq (.ops Uc) (.cond (.var 9)
 (.seq (.ops Yy) .ret)
 .skip)) (.seq (.ops gR) (.seq (.ops Sq) (.seq (.seq (.ops LU) (.cond (.var 10)
 (.ops Sr)
 .skip)) (.seq (.block 1 (.seq (.ops LV) (.cond (.var 11)
 (.ops LW)
 (.seq (.ops OS) (.cond (.var 12)
 (.ops LX)
 .skip))))) (.seq (.ops GN) .ret)))))))))),[((.var 3),none)]⟩
def Xb:List AA:=[
 ⟨none,.p1 some,[(.const (.bool false))],(.set 2),[]⟩]
def Xc:List AA:=[
 ⟨none,.p1 some,[(.const (.int .i64 (2)))],(.set 3),[]⟩]
def SJ:List AA:=[
 ⟨none,.p1 AF,[.var 1],.push,[]⟩,
 ⟨none,.p1 (fun x=>AB Try.prog 104 x 0),[.loc 0],.push,[]⟩,
 ⟨none,.r1 (fun s a=>AC Try.prog s 23 a),[.loc 0],.push,[]⟩,
 ⟨none,.r (fun s l=>match l with | [x]=>As Try.prog s 23 x | _=>none),[.loc 0],.push,[]⟩,
 ⟨none,.p2 (AN Try.prog .lss 3),[.var 3,.loc 0],(.set 4),[]⟩]
def Xd:List AA:=[
 ⟨none,.p1 AF,[.var 1],.push,[]⟩,
 ⟨none,.p1 (fun x=>AB Try.prog 104 x 0),[.loc 0],.push,[]⟩,
 ⟨none,.r1 (fun s a=>AC Try.prog s 23 a),[.loc 0],.push,[]⟩,
 ⟨none,.p2 (AD Try.prog 23),[.loc 0,.var 3],.push,[]⟩,
 ⟨none,.r1 (fun s a=>AC Try.prog s 3 a),[.loc 0],.push,[]⟩,
 ⟨none,.call 77,[.var 0,.loc 0],.push,[]⟩,
 ⟨none,.p2 (AN Try.prog .geq 3),[(.loc 0),(.const (.int .i64 (0)))],(.set 5),[]⟩]
def Xe:List AA:=[
 ⟨none,.p1 AF,[.var 1],.push,[]⟩,
 ⟨none,.p1 (fun x=>AB Try.prog 104 x 0),[.loc 0],.push,[]⟩,
 ⟨none,.r1 (fun s a=>AC Try.prog s 23 a),[.loc 0],.push,[]⟩,
 ⟨none,.p1 AF,[.var 1],.push,[]⟩,
 ⟨none,.p1 (fun x=>AB Try.prog 104 x 0),[.loc 0],.push,[]⟩,
 ⟨none,.r1 (fun s a=>AC Try.prog s 23 a),[.loc 0],.push,[]⟩,
 ⟨none,.p1 AF,[.var 1],.push,[]⟩,
 ⟨none,.p1 (fun x=>AB Try.prog 104 x 0),[.loc 0],.push,[]⟩,
 ⟨none,.r1 (fun s a=>AC Try.prog s 23 a),[.loc 0],.push,[]⟩,
 ⟨none,.p2 (AD Try.prog 23),[.loc 0,.var 3],.push,[]⟩,
 ⟨none,.r1 (fun s a=>AC Try.prog s 3 a),[.loc 0],.push,[]⟩,
 ⟨none,.p1 AF,[.var 1],.push,[]⟩,
 ⟨none,.p1 (fun x=>AB Try.prog 104 x 0),[.loc 0],.push,[]⟩,
 ⟨none,.r1 (fun s a=>AC Try.prog s 23 a),[.loc 0],.push,[]⟩,
 ⟨none,.p2 (AD Try.prog 23),[(.loc 0),(.const (.int .i64 (1)))],.push,[]⟩,
 ⟨none,.r1 (fun s a=>AC Try.prog s 3 a),[.loc 0],.push,[]⟩,
 ⟨none,.p2 (AD Try.prog 23),[(.loc 13),(.const (.int .i64 (1)))],.push,[]⟩,
 ⟨none,.e (fun s=>BW (fun a x=>AS (AP Try.prog s 3 a x))),[.loc 0,.loc 6],.push,[]⟩,
 ⟨none,.p2 (AD Try.prog 23),[.loc 12,.var 3],.push,[]⟩,
 ⟨none,.e (fun s=>BW (fun a x=>AS (AP Try.prog s 3 a x))),[.loc 0,.loc 3],.push,[]⟩]
def Xf:List AA:=[
 ⟨none,.p1 AF,[.var 0],.push,[]⟩,
 ⟨none,.p1 (fun x=>AB Try.prog 91 x 0),[.loc 0],.push,[]⟩,
 ⟨none,.r1 (fun s a=>AC Try.prog s 88 a),[.loc 0],.push,[]⟩,
 ⟨none,.p1 AF,[.var 1],.push,[]⟩,
 ⟨none,.p1 (fun x=>AB Try.prog 104 x 0),[.loc 0],.push,[]⟩,
 ⟨none,.r1 (fun s a=>AC Try.prog s 23 a),[.loc 0],.push,[]⟩,
 ⟨none,.p2 (AD Try.prog 23),[(.loc 0),(.const (.int .i64 (1)))],.push,[]⟩,
 ⟨none,.r1 (fun s a=>AC Try.prog s 3 a),[.loc 0],.push,[]⟩,
 ⟨none,.p1 AF,[.var 0],.push,[]⟩,
 ⟨none,.p1 (fun x=>AB Try.prog 91 x 0),[.loc 0],.push,[]⟩,
 ⟨none,.r1 (fun s a=>AC Try.prog s 88 a),[.loc 0],.push,[]⟩,
 ⟨none,.p1 AF,[.var 1],.push,[]⟩,
 ⟨none,.p1 (fun x=>AB Try.prog 104 x 0),[.loc 0],.push,[]⟩,
 ⟨none,.r1 (fun s a=>AC Try.prog s 23 a),[.loc 0],.push,[]⟩,
 ⟨none,.p2 (AD Try.prog 23),[(.loc 0),(.const (.int .i64 (1)))],.push,[]⟩,
 ⟨none,.r1 (fun s a=>AC Try.prog s 3 a),[.loc 0],.push,[]⟩,
 ⟨none,.mk (fun l=>(Ab Try.prog 89 1 (zipIdx [0] l)).bind fun r=>some (r,.slice 1)),[.var 1],.push,[]⟩,
 ⟨none,.call 91,[.loc 9],.push,[⟨none,.r1 (fun s a=>AC Try.prog s 3 a),[.loc 3],(.loc 2)⟩,⟨none,.r1 (fun s a=>AC Try.prog s 23 a),[.loc 5],(.loc 4)⟩,⟨none,.r1 (fun s a=>AC Try.prog s 88 a),[.loc 8],(.loc 7)⟩,⟨none,.r1 (fun s a=>AC Try.prog s 88 a),[.loc 16],(.loc 15)⟩]⟩,
 ⟨none,.call 91,[.loc 2],.push,[⟨none,.r1 (fun s a=>AC Try.prog s 88 a),[.loc 9],(.loc 8)⟩,⟨none,.r1 (fun s a=>AC Try.prog s 88 a),[.loc 17],(.loc 16)⟩]⟩,
 ⟨none,.p2 (AD Try.prog 88),[.loc 8,.loc 0],.push,[]⟩,
 ⟨none,.r1 (fun s a=>AC Try.prog s 89 a),[.loc 0],.push,[]⟩,
 ⟨none,.e (fun s l=>AY Try.prog s [89,89] l),[.loc 0,.loc 4],.push,[⟨none,.r1 (fun s a=>AC Try.prog s 88 a),[.loc 20],(.loc 19)⟩]⟩,
 ⟨none,.p2 (AD Try.prog 88),[.loc 19,.loc 4],.push,[]⟩,
 ⟨none,.e (fun s=>BW (fun a x=>AS (AP Try.prog s 89 a x))),[.loc 0,.loc 1],.push,[]⟩]
def Xg:List AA:=[
 ⟨none,.p1 some,[(.const (.bool true))],(.set 2),[]⟩]
def Xh:List AA:=[
 ⟨none,.p1 some,[.var 3],.push,[]⟩,
 ⟨none,.p2 (AN Try.prog .add 3),[(.loc 0),(.const (.int .i64 (1)))],.push,[]⟩,
 ⟨none,.p1 some,[.loc 0],(.set 3),[]⟩]
def LJ:Ac:=(.seq (.seq (.ops SJ) (.cond (.var 4)
 .skip
 (.exit 0))) (.seq (.block 1 (.seq (.ops Xd) (.cond (.var 5)
 (.seq (.ops Xe) (.seq (.ops Xf) (.seq (.ops Xg) .ret)))
 .skip))) (.ops Xh)))
def Xi:List AA:=[
 ⟨none,.p1 some,[(.const (.bool false))],(.set 2),[]⟩]
def nj:Aw:=⟨2,6,(.seq (.ops Xb) (.seq (.seq (.ops Xc) (.block 0 (.loop LJ))) (.seq (.ops Xi) .ret))),[((.var 2),none)]⟩
def Um:List AA:=[
 ⟨none,.p1 some,[(.const (.bool false))],(.set 3),[]⟩,
 ⟨none,.p1 some,[(.const (.bool false))],(.set 4),[]⟩]
def Un:List AA:=[
 ⟨none,.p1 AF,[.var 1],.push,[]⟩,
 ⟨none,.p1 (fun x=>AB Try.prog 104 x 2),[.loc 0],.push,[]⟩,
 ⟨none,.r1 (fun s a=>AC Try.prog s 4 a),[.loc 0],(.set 5),[]⟩]
def jx:List AA:=[
 ⟨none,.p1 some,[(.const (.bool false))],(.set 3),[]⟩,
 ⟨none,.p1 some,[(.const (.bool false))],(.set 4),[]⟩]
def Z4:List AA:=[
 ⟨none,.p1 AF,[.var 1],.push,[]⟩,
 ⟨none,.p1 (fun x=>AB Try.prog 104 x 0),[.loc 0],.push,[]⟩,
 ⟨none,.r1 (fun s a=>AC Try.prog s 23 a),[.loc 0],.push,[]⟩,
 ⟨none,.p2 (AD Try.prog 23),[(.loc 0),(.const (.int .i64 (0)))],.push,[]⟩,
 ⟨none,.r1 (fun s a=>AC Try.prog s 3 a),[.loc 0],.push,[]⟩,
 ⟨none,.p2 (AN Try.prog .eql 3),[.loc 0,.var 2],(.set 6),[]⟩]
def jy:List AA:=[
 ⟨none,.p1 AF,[.var 1],.push,[]⟩,
 ⟨none,.p1 (fun x=>AB Try.prog 104 x 0),[.loc 0],.push,[]⟩,
 ⟨none,.r1 (fun s a=>AC Try.prog s 23 a),[.loc 0],.push,[]⟩,
 ⟨none,.p1 AF,[.var 1],.push,[]⟩,
 ⟨none,.p1 (fun x=>AB Try.prog 104 x 0),[.loc 0],.push,[]⟩,
 ⟨none,.r1 (fun s a=>AC Try.prog s 23 a),[.loc 0],.push,[]⟩,
 ⟨none,.p1 AF,[.var 1],.push,[]⟩,
 ⟨none,.p1 (fun x=>AB Try.prog 104 x 0),[.loc 0],.push,[]⟩,
 ⟨none,.r1 (fun s a=>AC Try.prog s 23 a),[.loc 0],.push,[]⟩,
 ⟨none,.p2 (AD Try.prog 23),[(.loc 0),(.const (.int .i64 (1)))],.push,[]⟩,
 ⟨none,.r1 (fun s a=>AC Try.prog s 3 a),[.loc 0],.push,[]⟩,
 ⟨none,.p1 AF,[.var 1],.push,[]⟩,
 ⟨none,.p1 (fun x=>AB Try.prog 104 x 0),[.loc 0],.push,[]⟩,
 ⟨none,.r1 (fun s a=>AC Try.prog s 23 a),[.loc 0],.push,[]⟩,
 ⟨none,.p2 (AD Try.prog 23),[(.loc 0),(.const (.int .i64 (0)))],.push,[]⟩,
 ⟨none,.r1 (fun s a=>AC Try.prog s 3 a),[.loc 0],.push,[]⟩,
 ⟨none,.p2 (AD Try.prog 23),[(.loc 13),(.const (.int .i64 (0)))],.push,[]⟩,
 ⟨none,.e (fun s=>BW (fun a x=>AS (AP Try.prog s 3 a x))),[.loc 0,.loc 6],.push,[]⟩,
 ⟨none,.p2 (AD Try.prog 23),[(.loc 12),(.const (.int .i64 (1)))],.push,[]⟩,
 ⟨none,.e (fun s=>BW (fun a x=>AS (AP Try.prog s 3 a x))),[.loc 0,.loc 3],.push,[]⟩]
def Z5:List AA:=[
 ⟨none,.p1 AF,[.var 1],.push,[]⟩,
 ⟨none,.p1 (fun x=>AB Try.prog 104 x 0),[.loc 0],.push,[]⟩,
 ⟨none,.r1 (fun s a=>AC Try.prog s 23 a),[.loc 0],.push,[]⟩,
 ⟨none,.p2 (AD Try.prog 23),[(.loc 0),(.const (.int .i64 (0)))],.push,[]⟩,
 ⟨none,.r1 (fun s a=>AC Try.prog s 3 a),[.loc 0],.push,[]⟩,
 ⟨none,.call 77,[.var 0,.loc 0],.push,[]⟩,
 ⟨none,.p2 (AN Try.prog .gtr 3),[(.loc 0),(.const (.int .i64 (0)))],.push,[]⟩,
 ⟨none,.p1 some,[.loc 0],(.set 7),[]⟩]
def Z6:List AA:=[
 ⟨none,.p1 some,[(.const (.bool true))],(.set 3),[]⟩,
 ⟨none,.p1 some,[(.const (.bool false))],(.set 4),[]⟩]
def Z7:List AA:=[
 ⟨none,.call 110,[.var 0,.var 1],.push,[]⟩,
 ⟨none,.p1 some,[.loc 0],(.set 8),[]⟩]
def Z8:List AA:=[
 ⟨none,.p1 some,[(.const (.bool false))],(.set 3),[]⟩,
 ⟨none,.p1 some,[(.const (.bool false))],(.set 4),[]⟩]
def Z9:List AA:=[
 ⟨none,.p1 AF,[.var 1],.push,[]⟩,
 ⟨none,.p1 (fun x=>AB Try.prog 104 x 0),[.loc 0],.push,[]⟩,
 ⟨none,.r1 (fun s a=>AC Try.prog s 23 a),[.loc 0],.push,[]⟩,
 ⟨none,.p2 (AD Try.prog 23),[(.loc 0),(.const (.int .i64 (0)))],.push,[]⟩,
 ⟨none,.r1 (fun s a=>AC Try.prog s 3 a),[.loc 0],.push,[]⟩,
 ⟨none,.call 77,[.var 0,.loc 0],.push,[]⟩,
 ⟨none,.p2 (AN Try.prog .lss 3),[(.loc 0),(.const (.int .i64 (0)))],.push,[]⟩,
 ⟨none,.p1 some,[.loc 0],(.set 9),[]⟩]
def TG:List AA:=[
 ⟨none,.p1 some,[(.const (.bool true))],(.set 3),[]⟩,
 ⟨none,.p1 some,[(.const (.bool true))],(.set 4),[]⟩]
def TH:List AA:=[
 ⟨none,.p1 AF,[.var 1],.push,[]⟩,
 ⟨none,.p1 (fun x=>AB Try.prog 104 x 0),[.loc 0],.push,[]⟩,
 ⟨none,.r1 (fun s a=>AC Try.prog s 23 a),[.loc 0],.push,[]⟩,
 ⟨none,.p2 (AD Try.prog 23),[(.loc 0),(.const (.int .i64 (0)))],.push,[]⟩,
 ⟨none,.r1 (fun s a=>AC Try.prog s 3 a),[.loc 0],.push,[]⟩,
 ⟨none,.call 71,[.var 0,.loc 0,.var 1],.push,[]⟩]
def TI:List AA:=[
 ⟨none,.p1 some,[(.const (.bool true))],(.set 3),[]⟩,
 ⟨none,.p1 some,[(.const (.bool false))],(.set 4),[]⟩]
def pG:Aw:=⟨3,10,(.seq (.ops Um) (.seq (.seq (.ops Un) (.cond (.var 5)
 (.seq (.ops jx) .ret)
 .skip)) (.seq (.seq (.ops Z4) (.cond (.var 6)
 (.ops jy)
 .skip)) (.seq (.block 0 (.seq (.ops Z5) (.cond (.var 7)
 (.seq (.ops Z6) .ret)
 (.seq (.ops Z7) (.cond (.var 8)
 (.seq (.ops Z8) .ret)
 (.seq (.ops Z9) (.cond (.var 9)
 (.seq (.ops TG) .ret)
 .skip))))))) (.seq (.ops TH) (.seq (.ops TI) .ret)))))),[((.var 3),none),((.var 4),none)]⟩
def iQ:List AA:=[
 ⟨none,.p1 some,[(.const (.ptr none))],(.set 1),[]⟩]
def ZL:List AA:=[
 ⟨none,.p1 AF,[.var 0],.push,[]⟩,
 ⟨none,.p1 (fun x=>AB Try.prog 91 x 9),[.loc 0],.push,[]⟩,
 ⟨none,.r1 (fun s a=>AC Try.prog s 3 a),[.loc 0],.push,[]⟩,
 ⟨none,.p1 AF,[.var 0],.push,[]⟩,
 ⟨none,.p1 (fun x=>AB Try.prog 91 x 7),[.loc 0],.push,[]⟩,
 ⟨none,.r1 (fun s a=>AC Try.prog s 23 a),[.loc 0],.push,[]⟩,
 ⟨none,.r (fun s l=>match l with | [x]=>As Try.prog s 23 x | _=>none),[.loc 0],.push,[]⟩,
 ⟨none,.p2 (AN Try.prog .lss 3),[.loc 4,.loc 0],(.set 10),[]⟩]
def ZQ:List AA:=[
 ⟨none,.p1 AF,[.var 0],.push,[]⟩,
 ⟨none,.p1 (fun x=>AB Try.prog 91 x 7),[.loc 0],.push,[]⟩,
 ⟨none,.r1 (fun s a=>AC Try.prog s 23 a),[.loc 0],.push,[]⟩,
 ⟨none,.p1 AF,[.var 0],.push,[]⟩,
 ⟨none,.p1 (fun x=>AB Try.prog 91 x 9),[.loc 0],.push,[]⟩,
 ⟨none,.r1 (fun s a=>AC Try.prog s 3 a),[.loc 0],.push,[]⟩,
 ⟨none,.p2 (AD Try.prog 23),[.loc 3,.loc 0],.push,[]⟩,
 ⟨none,.r1 (fun s a=>AC Try.prog s 3 a),[.loc 0],.push,[]⟩,
 ⟨none,.p1 (Hv Try.prog Go.UnOp.neg),[.loc 0],.push,[]⟩,
 ⟨none,.p1 some,[.loc 0],(.set 2),[]⟩]
def ZT:List AA:=[
 ⟨none,.p1 AF,[.var 0],.push,[]⟩,
 ⟨none,.p1 (fun x=>AB Try.prog 91 x 9),[.loc 0],.push,[]⟩,
 ⟨none,.r1 (fun s a=>AC Try.prog s 3 a),[.loc 0],.push,[]⟩,
 ⟨none,.p2 (AN Try.prog .add 3),[(.loc 0),(.const (.int .i64 (1)))],.push,[]⟩,
 ⟨none,.p1 AF,[.var 0],.push,[]⟩,
 ⟨none,.p1 (fun x=>AB Try.prog 91 x 9),[.loc 0],.push,[]⟩,
 ⟨none,.e (fun s=>BW (fun a x=>AS (AP Try.prog s 3 a x))),[.loc 0,.loc 2],.push,[]⟩]
def iR:List AA:=[
 ⟨none,.p1 AF,[.var 0],.push,[]⟩,
 ⟨none,.p1 (fun x=>AB Try.prog 91 x 0),[.loc 0],.push,[]⟩,
 ⟨none,.r1 (fun s a=>AC Try.prog s 88 a),[.loc 0],.push,[]⟩,
 ⟨none,.call 91,[.var 2],.push,[⟨none,.r1 (fun s a=>AC Try.prog s 88 a),[.loc 2],(.loc 1)⟩]⟩,
 ⟨none,.p2 (AD Try.prog 88),[.loc 1,.loc 0],.push,[]⟩,
 ⟨none,.r1 (fun s a=>AC Try.prog s 89 a),[.loc 0],.push,[]⟩,
 ⟨none,.p1 some,[.loc 0],(.set 3),[]⟩]
def iS:List AA:=[
 ⟨none,.r (fun s l=>match l with | [x]=>As Try.prog s 89 x | _=>none),[.var 3],.push,[]⟩,
 ⟨none,.r (AU Try.prog 89 false true true),[(.var 3),(.const (.int .i64 (0))),(.loc 0)],.push,[]⟩,
 ⟨none,.p1 some,[.loc 0],(.set 4),[]⟩]
def iT:List AA:=[
 ⟨none,.p1 some,[(.const (.ptr none))],(.set 5),[]⟩]
def iU:List AA:=[
 ⟨none,.p1 some,[.var 3],(.set 11),[]⟩,
 ⟨none,.r (fun s l=>match l with | [x]=>As Try.prog s 89 x | _=>none),[.var 11],(.set 12),[]⟩,
 ⟨none,.p1 some,[(.const (.int .i64 (0)))],(.set 13),[]⟩]
def ZU:List AA:=[
 ⟨none,.p2 (AN Try.prog .lss 3),[.var 13,.var 12],(.set 14),[]⟩]
def iV:List AA:=[
 ⟨none,.p2 (AD Try.prog 89),[.var 11,.var 13],.push,[]⟩,
 ⟨none,.r1 (fun s a=>AC Try.prog s 92 a),[.loc 0],.push,[]⟩,
 ⟨none,.p1 some,[.var 13],(.set 6),[]⟩,
 ⟨none,.p1 some,[.loc 0],(.set 7),[]⟩]
def ZM:List AA:=[
 ⟨none,.call 92,[.var 0,.var 7,.var 2],.push,[]⟩,
 ⟨none,.p1 (fun x=>Rp x 0),[.loc 0],.push,[]⟩,
 ⟨none,.p1 (fun x=>Rp x 1),[.loc 1],.push,[]⟩,
 ⟨none,.p1 some,[.loc 1],(.set 8),[]⟩,
 ⟨none,.p1 some,[.loc 0],(.set 9),[]⟩]
def OT:List AA:=[
 ⟨none,.p1 some,[.var 8],(.set 15),[]⟩]
def St:List AA:=[
 ⟨none,.p1 some,[.var 4],.push,[]⟩,
 ⟨none,.mk (fun l=>(Ab Try.prog 89 1 (zipIdx [0] l)).bind fun r=>some (r,.slice 1)),[.var 7],.push,[]⟩,
 ⟨none,.e (fun s l=>AY Try.prog s [89,89] l),[.loc 1,.loc 0],.push,[]⟩,
 ⟨none,.p1 some,[.loc 0],(.set 4),[]⟩]
def OU:List AA:=[
 ⟨none,.p1 some,[.var 9],(.set 16),[]⟩]
def ZN:List AA:=[
 ⟨none,.p1 some,[.var 4],.push,[]⟩,
 ⟨none,.p2 (AN Try.prog .add 3),[(.var 6),(.const (.int .i64 (1)))],.push,[]⟩,
 ⟨none,.r (AU Try.prog 89 true false false),[.var 3,.loc 0],.push,[]⟩,
 ⟨none,.e (fun s l=>AY Try.prog s [89,89] l),[.loc 2,.loc 0],.push,[]⟩,
 ⟨none,.p1 some,[.loc 0],(.set 4),[]⟩,
 ⟨none,.p1 some,[.var 7],(.set 5),[]⟩]
def Su:List AA:=[
 ⟨none,.p2 (AN Try.prog .add 3),[(.var 13),(.const (.int .i64 (1)))],.push,[]⟩,
 ⟨none,.p1 some,[.loc 0],(.set 13),[]⟩]
def Ld:Ac:=(.seq (.ops ZU) (.seq (.cond (.var 14)
 .skip
 (.exit 2)) (.seq (.block 3 (.seq (.ops iV) (.seq (.ops ZM) (.seq (.seq (.ops OT) (.cond (.var 15)
 (.ops St)
 .skip)) (.seq (.ops OU) (.cond (.var 16)
 (.seq (.ops ZN) (.exit 2))
 .skip)))))) (.ops Su))))
def ZO:List AA:=[
 ⟨none,.p1 AF,[.var 0],.push,[]⟩,
 ⟨none,.p1 (fun x=>AB Try.prog 91 x 0),[.loc 0],.push,[]⟩,
 ⟨none,.r1 (fun s a=>AC Try.prog s 88 a),[.loc 0],.push,[]⟩,
 ⟨none,.call 91,[.var 2],.push,[⟨none,.r1 (fun s a=>AC Try.prog s 88 a),[.loc 2],(.loc 1)⟩]⟩,
 ⟨none,.p2 (AD Try.prog 88),[.loc 1,.loc 0],.push,[]⟩,
 ⟨none,.e (fun s=>BW (fun a x=>AS (AP Try.prog s 89 a x))),[.loc 0,.var 4],.push,[]⟩]
def Sw:List AA:=[
 ⟨none,.p2 (AN Try.prog .neq 92),[(.var 5),(.const (.ptr none))],(.set 17),[]⟩]
def ZP:List AA:=[
 ⟨none,.p1 AF,[.var 0],.push,[]⟩,
 ⟨none,.p1 (fun x=>AB Try.prog 91 x 7),[.loc 0],.push,[]⟩,
 ⟨none,.r1 (fun s a=>AC Try.prog s 23 a),[.loc 0],.push,[]⟩,
 ⟨none,.r (fun s l=>match l with | [x]=>As Try.prog s 23 x | _=>none),[.loc 0],.push,[]⟩,
 ⟨none,.p1 AF,[.var 0],.push,[]⟩,
 ⟨none,.p1 (fun x=>AB Try.prog 91 x 9),[.loc 0],.push,[]⟩,
 ⟨none,.e (fun s=>BW (fun a x=>AS (AP Try.prog s 3 a x))),[.loc 0,.loc 2],.push,[]⟩]
def ZR:List AA:=[
 ⟨none,.p1 some,[.var 5],(.set 1),[]⟩]
def Le:Ac:=(.seq (.seq (.ops ZL) (.cond (.var 10)
 .skip
 (.exit 0))) (.block 1 (.seq (.ops ZQ) (.seq (.ops ZT) (.seq (.ops iR) (.seq (.ops iS) (.seq (.ops iT) (.seq (.seq (.ops iU) (.block 2 (.loop Ld))) (.seq (.ops ZO) (.seq (.ops Sw) (.cond (.var 17)
 (.seq (.ops ZP) (.seq (.ops ZR) .ret))
 .skip)))))))))))
def ZS:List AA:=[
 ⟨none,.p1 some,[(.const (.ptr none))],(.set 1),[]⟩]
def qL:Aw:=⟨1,18,(.seq (.ops iQ) (.seq (.block 0 (.loop Le)) (.seq (.ops ZS) .ret))),[((.var 1),none)]⟩
def jz:List AA:=[
 ⟨none,.mk (fun l=>match l with | [v]=>Ce 92 v | _=>none),[.var 0],(.set 2),[]⟩,
 ⟨none,.mk (fun l=>match l with | [v]=>Ce 3 v | _=>none),[.var 1],(.set 3),[]⟩,
 ⟨none,.p1 some,[(.const .nilFunc)],(.set 4),[]⟩]
def j0:List AA:=[
 ⟨none,.p (fun l=>some (.func 111 (l.take 0) (l.drop 0))),[.var 2,.var 3],.push,[]⟩,
 ⟨none,.p1 some,[.loc 0],(.set 4),[]⟩]
def qe:Aw:=⟨2,5,(.seq (.ops jz) (.seq (.ops j0) .ret)),[((.var 4),none)]⟩
def Xj:List AA:=[
 ⟨none,.r1 (fun s a=>AC Try.prog s 92 a),[.var 1],.push,[]⟩,
 ⟨none,.p1 AF,[.loc 0],.push,[]⟩,
 ⟨none,.p1 (fun x=>AB Try.prog 104 x 0),[.loc 0],.push,[]⟩,
 ⟨none,.r1 (fun s a=>AC Try.prog s 23 a),[.loc 0],(.set 4),[]⟩,
 ⟨none,.r (fun s l=>match l with | [x]=>As Try.prog s 23 x | _=>none),[.var 4],(.set 5),[]⟩,
 ⟨none,.p1 some,[(.const (.int .i64 (0)))],(.set 6),[]⟩]
def OK:List AA:=[
 ⟨none,.p2 (AN Try.prog .lss 3),[.var 6,.var 5],(.set 7),[]⟩]
def SK:List AA:=[
 ⟨none,.p2 (AD Try.prog 23),[.var 4,.var 6],.push,[]⟩,
 ⟨none,.r1 (fun s a=>AC Try.prog s 3 a),[.loc 0],.push,[]⟩,
 ⟨none,.p1 some,[.loc 0],(.set 3),[]⟩]
def SL:List AA:=[
 ⟨none,.r1 (fun s a=>AC Try.prog s 3 a),[.var 2],.push,[]⟩,
 ⟨none,.p2 (AN Try.prog .neq 3),[.var 3,.loc 0],.push,[]⟩,
 ⟨(some ((.loc 0),true)),.p1 some,[.var 0],.push,[]⟩,
 ⟨(some ((.loc 1),true)),.p1 some,[.var 3],.push,[]⟩,
 ⟨(some ((.loc 2),true)),.callv,[.loc 1,.loc 0],.push,[]⟩,
 ⟨(some ((.loc 3),true)),.p1 (Hv Try.prog Go.UnOp.not),[.loc 0],.push,[]⟩,
 ⟨none,.p Rn,[(.loc 4),(.loc 0),(.const (.bool false))],(.set 8),[]⟩]
def SM:List AA:=[
 ⟨none,.p2 (AN Try.prog .add 3),[(.var 6),(.const (.int .i64 (1)))],.push,[]⟩,
 ⟨none,.p1 some,[.loc 0],(.set 6),[]⟩]
def Jj:Ac:=(.seq (.ops OK) (.seq (.cond (.var 7)
 .skip
 (.exit 0)) (.seq (.block 1 (.seq (.ops SK) (.seq (.ops SL) (.cond (.var 8)
 .ret
 .skip)))) (.ops SM))))
def nk:Aw:=⟨3,9,(.seq (.ops Xj) (.block 0 (.loop Jj))),[]⟩
def ic:List AA:=[
 ⟨none,.mk (fun l=>match l with | [v]=>Ce 44 v | _=>none),[.var 0],(.set 2),[]⟩,
 ⟨none,.mk (fun l=>match l with | []=>BF Try.prog 23 | _=>none),[],(.set 3),[]⟩,
 ⟨none,.mk (fun l=>match l with | []=>BF Try.prog 3 | _=>none),[],(.set 4),[]⟩]
def ie:List AA:=[
 ⟨none,.mk (fun l=>match l with | []=>some (.map [] 0,.map) | _=>none),[],.push,[]⟩,
 ⟨none,.mk (fun l=>match l with | []=>BF Try.prog 115 | _=>none),[],(.set 5),[]⟩,
 ⟨none,.e (fun s=>BW (fun a x=>AS (AP Try.prog s 115 a x))),[.var 5,.loc 0],.push,[]⟩]
def ig:List AA:=[
 ⟨none,.mk (fun l=>(Ab Try.prog 23 1 (zipIdx [0] l)).bind fun r=>some (r,.slice 1)),[(.const (.int .i64 (0)))],.push,[]⟩,
 ⟨none,.e (fun s=>BW (fun a x=>AS (AP Try.prog s 23 a x))),[.var 3,.loc 0],.push,[]⟩]
def ii:List AA:=[
 ⟨none,.r1 (fun s a=>AC Try.prog s 44 a),[.var 2],.push,[]⟩,
 ⟨none,.p1 AF,[.loc 0],.push,[]⟩,
 ⟨none,.p1 (fun x=>AB Try.prog 91 x 7),[.loc 0],.push,[]⟩,
 ⟨none,.r1 (fun s a=>AC Try.prog s 23 a),[.loc 0],.push,[]⟩,
 ⟨none,.r (fun s l=>match l with | [x]=>As Try.prog s 23 x | _=>none),[.loc 0],.push,[]⟩,
 ⟨none,.mk (fun l=>match l with | []=>BF Try.prog 3 | _=>none),[],(.set 6),[]⟩,
 ⟨none,.e (fun s=>BW (fun a x=>AS (AP Try.prog s 3 a x))),[(.var 6),(.const (.int .i64 (0)))],.push,[⟨none,.r (fun s l=>match l with | [x]=>As Try.prog s 23 x | _=>none),[.loc 2],(.loc 1)⟩,⟨none,.r1 (fun s a=>AC Try.prog s 23 a),[.loc 3],(.loc 2)⟩,⟨none,.r1 (fun s a=>AC Try.prog s 44 a),[.var 2],(.loc 5)⟩]⟩,
 ⟨none,.p1 some,[.loc 1],(.set 7),[]⟩]
def ij:List AA:=[
 ⟨none,.p1 some,[(.const (.int .i64 (0)))],(.set 8),[]⟩]
def ik:List AA:=[
 ⟨none,.call 93,[.var 1,.var 8],(.set 14),[]⟩]
def il:List AA:=[
 ⟨none,.p1 some,[.var 15],(.set 9),[]⟩]
def im:List AA:=[
 ⟨none,.call 90,[.var 9],.push,[]⟩,
 ⟨none,.p1 some,[.loc 0],(.set 10),[]⟩]
def Zb:List AA:=[
 ⟨none,.r1 (fun s a=>AC Try.prog s 115 a),[.var 5],.push,[]⟩,
 ⟨none,.r (fun s=>BW (fun m k=>DK Try.prog s 115 m k true)),[.loc 0,.var 10],.push,[]⟩,
 ⟨none,.p1 (fun x=>Rp x 0),[.loc 0],.push,[]⟩,
 ⟨none,.p1 (fun x=>Rp x 1),[.loc 1],.push,[]⟩,
 ⟨none,.mk (fun l=>match l with | []=>BF Try.prog 119 | _=>none),[],.push,[]⟩,
 ⟨none,.e (fun s=>BW (fun a x=>AS (AP Try.prog s 119 a x))),[.loc 0,.loc 2],.push,[]⟩,
 ⟨none,.p1 some,[.loc 2],(.set 11),[]⟩]
def Ug:List AA:=[
 ⟨(some ((.var 11),false)),.r1 (fun s a=>AC Try.prog s 44 a),[.var 2],.push,[]⟩,
 ⟨(some ((.var 11),false)),.p1 AF,[.loc 0],.push,[]⟩,
 ⟨(some ((.var 11),false)),.p1 (fun x=>AB Try.prog 91 x 3),[.loc 0],.push,[]⟩,
 ⟨(some ((.var 11),false)),.r1 (fun s a=>AC Try.prog s 23 a),[.loc 0],.push,[]⟩,
 ⟨(some ((.var 11),false)),.p1 some,[.var 10],.push,[]⟩,
 ⟨(some ((.var 11),false)),.p2 (AD Try.prog 23),[.loc 1,.loc 0],.push,[]⟩,
 ⟨(some ((.var 11),false)),.r1 (fun s a=>AC Try.prog s 3 a),[.loc 0],.push,[]⟩,
 ⟨(some ((.var 11),false)),.p2 (AN Try.prog .eql 3),[(.loc 0),(.const (.int .i64 (0)))],.push,[]⟩,
 ⟨none,.p Rn,[(.var 11),(.const (.bool true)),(.loc 0)],(.set 16),[]⟩]
def Sx:List AA:=[
 ⟨none,.r1 (fun s a=>AC Try.prog s 115 a),[.var 5],.push,[]⟩,
 ⟨none,.p (fun l=>Bu Try.prog 119 (zipIdx [] l)),[],.push,[]⟩,
 ⟨none,.e (fun s=>og (fun m k x=>AS (EV Try.prog s 115 m k x))),[.loc 1,.var 10,.loc 0],.push,[]⟩]
def Sy:List AA:=[
 ⟨none,.r1 (fun s a=>AC Try.prog s 44 a),[.var 2],.push,[]⟩,
 ⟨none,.p1 AF,[.loc 0],.push,[]⟩,
 ⟨none,.p1 (fun x=>AB Try.prog 91 x 5),[.loc 0],.push,[]⟩,
 ⟨none,.r1 (fun s a=>AC Try.prog s 23 a),[.loc 0],.push,[]⟩,
 ⟨none,.p2 (AD Try.prog 23),[.loc 0,.var 10],.push,[]⟩,
 ⟨none,.r1 (fun s a=>AC Try.prog s 3 a),[.loc 0],.push,[]⟩,
 ⟨none,.p2 (AN Try.prog .add 3),[(.loc 0),(.const (.int .i64 (1)))],.push,[]⟩,
 ⟨none,.p2 (AD Try.prog 23),[.loc 3,.var 10],.push,[]⟩,
 ⟨none,.e (fun s=>BW (fun a x=>AS (AP Try.prog s 3 a x))),[.loc 0,.loc 1],.push,[]⟩]
def Sz:List AA:=[
 ⟨none,.r1 (fun s a=>AC Try.prog s 44 a),[.var 2],.push,[]⟩,
 ⟨none,.p1 AF,[.loc 0],.push,[]⟩,
 ⟨none,.p1 (fun x=>AB Try.prog 91 x 3),[.loc 0],.push,[]⟩,
 ⟨none,.r1 (fun s a=>AC Try.prog s 23 a),[.loc 0],.push,[]⟩,
 ⟨none,.p2 (AD Try.prog 23),[.loc 0,.var 10],.push,[]⟩,
 ⟨none,.r1 (fun s a=>AC Try.prog s 3 a),[.loc 0],.push,[]⟩,
 ⟨none,.r1 (fun s a=>AC Try.prog s 44 a),[.var 2],.push,[]⟩,
 ⟨none,.p1 AF,[.loc 0],.push,[]⟩,
 ⟨none,.p1 (fun x=>AB Try.prog 91 x 8),[.loc 0],.push,[]⟩,
 ⟨none,.r1 (fun s a=>AC Try.prog s 23 a),[.loc 0],.push,[]⟩,
 ⟨none,.r (fun s l=>match l with | [x]=>As Try.prog s 23 x | _=>none),[.loc 0],.push,[]⟩,
 ⟨none,.p2 (AN Try.prog .eql 3),[.loc 5,.loc 0],(.set 17),[]⟩]
def S0:List AA:=[
 ⟨none,.r1 (fun s a=>AC Try.prog s 3 a),[.var 6],.push,[]⟩,
 ⟨none,.p2 (AN Try.prog .add 3),[(.loc 0),(.const (.int .i64 (1)))],.push,[]⟩,
 ⟨none,.e (fun s=>BW (fun a x=>AS (AP Try.prog s 3 a x))),[.var 6,.loc 0],.push,[]⟩]
def S1:List AA:=[
 ⟨none,.r1 (fun s a=>AC Try.prog s 23 a),[.var 3],.push,[]⟩,
 ⟨none,.mk (fun l=>(Ab Try.prog 23 1 (zipIdx [0] l)).bind fun r=>some (r,.slice 1)),[.var 9],.push,[]⟩,
 ⟨none,.e (fun s l=>AY Try.prog s [23,23] l),[.loc 1,.loc 0],.push,[]⟩,
 ⟨none,.e (fun s=>BW (fun a x=>AS (AP Try.prog s 23 a x))),[.var 3,.loc 0],.push,[]⟩]
def S2:List AA:=[
 ⟨none,.r1 (fun s a=>AC Try.prog s 3 a),[.var 4],.push,[]⟩,
 ⟨none,.r1 (fun s a=>AC Try.prog s 44 a),[.var 2],.push,[]⟩,
 ⟨none,.p1 AF,[.loc 0],.push,[]⟩,
 ⟨none,.p1 (fun x=>AB Try.prog 91 x 3),[.loc 0],.push,[]⟩,
 ⟨none,.r1 (fun s a=>AC Try.prog s 23 a),[.loc 0],.push,[]⟩,
 ⟨none,.p2 (AD Try.prog 23),[.loc 0,.var 10],.push,[]⟩,
 ⟨none,.r1 (fun s a=>AC Try.prog s 3 a),[.loc 0],.push,[]⟩,
 ⟨none,.p (fun l=>match l with | v::l=>D6 true v l | []=>none),[.loc 6,.loc 0],.push,[]⟩,
 ⟨none,.e (fun s=>BW (fun a x=>AS (AP Try.prog s 3 a x))),[.var 4,.loc 0],.push,[]⟩]
def oC:Ac:=(.ops il)
def oD:Ac:=(.block 3 (.seq (.ops im) (.seq (.seq (.ops Zb) (.seq (.ops Ug) (.cond (.var 16)
 (.exit 3)
 .skip))) (.seq (.ops Sx) (.seq (.ops Sy) (.seq (.ops Sz) (.cond (.var 17)
 (.ops S0)
 (.seq (.ops S1) (.ops S2)))))))))
def pN:Code:=(Hm 67).1
def pR:Code:=(Hm 67).2
def ZY:List AA:=[
 ⟨none,.p1 some,[(.const (.bool false))],(.set 12),[]⟩]
def S3:List AA:=[
 ⟨none,.p1 (Hv Try.prog Go.UnOp.not),[.var 12],(.set 18),[]⟩]
def ZZ:List AA:=[
 ⟨none,.p1 some,[.var 7],.push,[]⟩,
 ⟨none,.p2 (AN Try.prog .sub 3),[(.loc 0),(.const (.int .i64 (1)))],.push,[]⟩,
 ⟨none,.p1 some,[.loc 0],(.set 7),[]⟩]
def Za:List AA:=[
 ⟨none,.r1 (fun s a=>AC Try.prog s 115 a),[.var 5],.push,[]⟩,
 ⟨none,.r1 (fun s a=>AC Try.prog s 44 a),[.var 2],.push,[]⟩,
 ⟨none,.p1 AF,[.loc 0],.push,[]⟩,
 ⟨none,.p1 (fun x=>AB Try.prog 91 x 7),[.loc 0],.push,[]⟩,
 ⟨none,.r1 (fun s a=>AC Try.prog s 23 a),[.loc 0],.push,[]⟩,
 ⟨none,.p2 (AD Try.prog 23),[.loc 0,.var 7],.push,[]⟩,
 ⟨none,.r1 (fun s a=>AC Try.prog s 3 a),[.loc 0],.push,[]⟩,
 ⟨none,.call 90,[.loc 0],.push,[⟨none,.r1 (fun s a=>AC Try.prog s 115 a),[.var 5],(.loc 7)⟩]⟩,
 ⟨none,.r (fun s=>BW (fun m k=>DK Try.prog s 115 m k true)),[.loc 7,.loc 0],.push,[]⟩,
 ⟨none,.p1 (fun x=>Rp x 0),[.loc 0],.push,[]⟩,
 ⟨none,.p1 (fun x=>Rp x 1),[.loc 1],.push,[]⟩,
 ⟨none,.p1 some,[.loc 0],(.set 12),[]⟩]
def Jo:Ac:=(.seq (.seq (.ops S3) (.cond (.var 18)
 .skip
 (.exit 4))) (.block 5 (.seq (.ops ZZ) (.ops Za))))
def S4:List AA:=[
 ⟨none,.r1 (fun s a=>AC Try.prog s 44 a),[.var 2],.push,[]⟩,
 ⟨none,.p1 AF,[.loc 0],.push,[]⟩,
 ⟨none,.p1 (fun x=>AB Try.prog 91 x 7),[.loc 0],.push,[]⟩,
 ⟨none,.r1 (fun s a=>AC Try.prog s 23 a),[.loc 0],.push,[]⟩,
 ⟨none,.p2 (AD Try.prog 23),[.loc 0,.var 7],.push,[]⟩,
 ⟨none,.r1 (fun s a=>AC Try.prog s 3 a),[.loc 0],.push,[]⟩,
 ⟨none,.p1 some,[.loc 0],(.set 8),[]⟩]
def S5:List AA:=[
 ⟨none,.r1 (fun s a=>AC Try.prog s 44 a),[.var 2],.push,[]⟩,
 ⟨none,.p1 AF,[.loc 0],.push,[]⟩,
 ⟨none,.p1 (fun x=>AB Try.prog 91 x 4),[.loc 0],.push,[]⟩,
 ⟨none,.r1 (fun s a=>AC Try.prog s 89 a),[.loc 0],.push,[]⟩,
 ⟨none,.call 90,[.var 8],.push,[⟨none,.r1 (fun s a=>AC Try.prog s 89 a),[.loc 2],(.loc 1)⟩,⟨none,.r1 (fun s a=>AC Try.prog s 44 a),[.var 2],(.loc 4)⟩]⟩,
 ⟨none,.p2 (AD Try.prog 89),[.loc 1,.loc 0],.push,[]⟩,
 ⟨none,.r1 (fun s a=>AC Try.prog s 92 a),[.loc 0],.push,[]⟩,
 ⟨none,.p1 some,[.loc 0],(.set 1),[]⟩]
def S6:List AA:=[
 ⟨none,.r1 (fun s a=>AC Try.prog s 3 a),[.var 6],.push,[]⟩,
 ⟨none,.p2 (AN Try.prog .sub 3),[(.loc 0),(.const (.int .i64 (1)))],.push,[]⟩,
 ⟨none,.e (fun s=>BW (fun a x=>AS (AP Try.prog s 3 a x))),[.var 6,.loc 0],.push,[]⟩]
def S7:List AA:=[
 ⟨none,.r1 (fun s a=>AC Try.prog s 3 a),[.var 6],.push,[]⟩,
 ⟨none,.p2 (AN Try.prog .eql 3),[(.loc 0),(.const (.int .i64 (0)))],(.set 19),[]⟩]
def S8:List AA:=[
 ⟨none,.r1 (fun s a=>AC Try.prog s 23 a),[.var 3],.push,[]⟩,
 ⟨none,.p1 (Hv Try.prog Go.UnOp.neg),[.var 8],.push,[]⟩,
 ⟨none,.p2 (AD Try.prog 23),[(.loc 1),(.const (.int .i64 (0)))],.push,[]⟩,
 ⟨none,.e (fun s=>BW (fun a x=>AS (AP Try.prog s 3 a x))),[.loc 0,.loc 1],.push,[]⟩]
def Jp:Ac:=(.block 1 (.seq (.seq (.ops ik) (.block 2 (.rangeFunc 67 (.var 14) #[26] pN pR))) (.seq (.seq (.ops ZY) (.block 4 (.loop Jo))) (.seq (.ops S4) (.seq (.ops S5) (.seq (.ops S6) (.seq (.ops S7) (.cond (.var 19)
 (.seq (.ops S8) (.exit 0))
 .skip))))))))
def S9:List AA:=[
 ⟨none,.r1 (fun s a=>AC Try.prog s 23 a),[.var 3],.push,[]⟩,
 ⟨none,.r (AU Try.prog 23 true false false),[(.loc 0),(.const (.int .i64 (1)))],.push,[]⟩,
 ⟨none,.p (fun l=>some (.func 95 (l.take 0) (l.drop 0))),[.var 2,.var 4],.push,[]⟩,
 ⟨none,.call 94,[.loc 1,.loc 0],.push,[]⟩,
 ⟨none,.p1 some,[.loc 0],(.set 13),[]⟩]
def Lf:List AA:=[
 ⟨none,.p2 (AN Try.prog .geq 3),[(.var 13),(.const (.int .i64 (0)))],(.set 20),[]⟩]
def TA:List AA:=[
 ⟨none,.r1 (fun s a=>AC Try.prog s 23 a),[.var 3],.push,[]⟩,
 ⟨none,.r1 (fun s a=>AC Try.prog s 23 a),[.var 3],.push,[]⟩,
 ⟨none,.p2 (AN Try.prog .add 3),[(.var 13),(.const (.int .i64 (1)))],.push,[]⟩,
 ⟨none,.r1 (fun s a=>AC Try.prog s 23 a),[.var 3],.push,[]⟩,
 ⟨none,.p2 (AN Try.prog .add 3),[(.var 13),(.const (.int .i64 (1)))],.push,[]⟩,
 ⟨none,.p2 (AD Try.prog 23),[.loc 1,.loc 0],.push,[]⟩,
 ⟨none,.r1 (fun s a=>AC Try.prog s 3 a),[.loc 0],.push,[]⟩,
 ⟨none,.r1 (fun s a=>AC Try.prog s 23 a),[.var 3],.push,[]⟩,
 ⟨none,.p2 (AD Try.prog 23),[(.loc 0),(.const (.int .i64 (1)))],.push,[]⟩,
 ⟨none,.r1 (fun s a=>AC Try.prog s 3 a),[.loc 0],.push,[]⟩,
 ⟨none,.p2 (AD Try.prog 23),[(.loc 9),(.const (.int .i64 (1)))],.push,[]⟩,
 ⟨none,.e (fun s=>BW (fun a x=>AS (AP Try.prog s 3 a x))),[.loc 0,.loc 4],.push,[⟨none,.r1 (fun s a=>AC Try.prog s 23 a),[.var 3],(.loc 10)⟩]⟩,
 ⟨none,.p2 (AD Try.prog 23),[.loc 10,.loc 9],.push,[]⟩,
 ⟨none,.e (fun s=>BW (fun a x=>AS (AP Try.prog s 3 a x))),[.loc 0,.loc 3],.push,[]⟩]
def TB:List AA:=[
 ⟨none,.r1 (fun s a=>AC Try.prog s 23 a),[.var 3],.push,[]⟩,
 ⟨none,.r1 (fun s a=>AC Try.prog s 3 a),[.var 4],.push,[]⟩,
 ⟨none,.e (fun s=>BW (fun a x=>AS (AP Try.prog s 23 a x))),[.var 3,.loc 1],.push,[⟨none,.r1 (fun s a=>AC Try.prog s 3 a),[.var 4],(.loc 1)⟩]⟩,
 ⟨none,.e (fun s=>BW (fun a x=>AS (AP Try.prog s 3 a x))),[.var 4,.loc 1],.push,[]⟩]
def qN:Aw:=⟨2,21,(.seq (.ops ic) (.seq (.ops ie) (.seq (.ops ig) (.seq (.ops ii) (.seq (.seq (.ops ij) (.block 0 (.loop Jp))) (.seq (.seq (.ops S9) (.seq (.ops Lf) (.cond (.var 20)
 (.ops TA)
 .skip))) (.seq (.ops TB) .ret))))))),[((.var 3),some 23),((.var 4),some 3)]⟩
def j7:List AA:=[
 ⟨none,.p1 some,[(.const (.bool false))],(.set 3),[]⟩]
def j8:List AA:=[
 ⟨none,.r1 (fun s a=>AC Try.prog s 44 a),[.var 1],.push,[]⟩,
 ⟨none,.p1 AF,[.loc 0],.push,[]⟩,
 ⟨none,.p1 (fun x=>AB Try.prog 91 x 3),[.loc 0],.push,[]⟩,
 ⟨none,.r1 (fun s a=>AC Try.prog s 23 a),[.loc 0],.push,[]⟩,
 ⟨none,.r1 (fun s a=>AC Try.prog s 3 a),[.var 2],.push,[]⟩,
 ⟨none,.call 90,[.var 0],.push,[⟨none,.r1 (fun s a=>AC Try.prog s 3 a),[.var 2],(.loc 1)⟩,⟨none,.r1 (fun s a=>AC Try.prog s 23 a),[.loc 3],(.loc 2)⟩,⟨none,.r1 (fun s a=>AC Try.prog s 44 a),[.var 1],(.loc 5)⟩]⟩,
 ⟨none,.p2 (AD Try.prog 23),[.loc 2,.loc 0],.push,[]⟩,
 ⟨none,.r1 (fun s a=>AC Try.prog s 3 a),[.loc 0],.push,[]⟩,
 ⟨none,.p2 (AN Try.prog .eql 3),[.loc 0,.loc 3],.push,[]⟩,
 ⟨none,.p1 some,[.loc 0],(.set 3),[]⟩]
def qf:Aw:=⟨3,4,(.seq (.ops j7) (.seq (.ops j8) .ret)),[((.var 3),none)]⟩
def iX:List AA:=[
 ⟨none,.call 63,[.var 0,.var 2],.push,[]⟩]
def ZW:List AA:=[
 ⟨none,.p1 AF,[.var 0],.push,[]⟩,
 ⟨none,.p1 (fun x=>AB Try.prog 91 x 12),[.loc 0],.push,[]⟩,
 ⟨none,.r1 (fun s a=>AC Try.prog s 33 a),[.loc 0],.push,[]⟩,
 ⟨none,.call 60,[.var 1],.push,[⟨none,.r1 (fun s a=>AC Try.prog s 33 a),[.loc 2],(.loc 1)⟩]⟩,
 ⟨none,.p (fun l=>Bu Try.prog 27 (zipIdx [1] l)),[.loc 0],.push,[]⟩,
 ⟨none,.mk (fun l=>(Ab Try.prog 33 1 (zipIdx [0] l)).bind fun r=>some (r,.slice 1)),[.loc 0],.push,[]⟩,
 ⟨none,.e (fun s l=>AY Try.prog s [33,33] l),[.loc 3,.loc 0],.push,[]⟩,
 ⟨none,.p1 AF,[.var 0],.push,[]⟩,
 ⟨none,.p1 (fun x=>AB Try.prog 91 x 12),[.loc 0],.push,[]⟩,
 ⟨none,.e (fun s=>BW (fun a x=>AS (AP Try.prog s 33 a x))),[.loc 0,.loc 2],.push,[]⟩]
def iY:List AA:=[
 ⟨none,.p (fun l=>Bu Try.prog 104 (zipIdx [0,1] l)),[(.var 1),(.const (.bool true))],.push,[]⟩,
 ⟨none,.mk (fun l=>match l with | [v]=>Ce 104 v | _=>none),[.loc 0],.push,[]⟩,
 ⟨none,.p1 some,[.loc 0],(.set 3),[]⟩]
def iZ:List AA:=[
 ⟨none,.r (fun s l=>match l with | [x]=>As Try.prog s 23 x | _=>none),[.var 1],.push,[]⟩,
 ⟨none,.p2 (AN Try.prog .gtr 3),[(.loc 0),(.const (.int .i64 (1)))],(.set 4),[]⟩]
def ia:List AA:=[
 ⟨none,.call 78,[.var 0,.var 3],.push,[]⟩]
def ib:List AA:=[
 ⟨none,.p1 AF,[.var 0],.push,[]⟩,
 ⟨none,.p1 (fun x=>AB Try.prog 91 x 1),[.loc 0],.push,[]⟩,
 ⟨none,.r1 (fun s a=>AC Try.prog s 89 a),[.loc 0],.push,[]⟩,
 ⟨none,.mk (fun l=>(Ab Try.prog 89 1 (zipIdx [0] l)).bind fun r=>some (r,.slice 1)),[.var 3],.push,[]⟩,
 ⟨none,.e (fun s l=>AY Try.prog s [89,89] l),[.loc 1,.loc 0],.push,[]⟩,
 ⟨none,.p1 AF,[.var 0],.push,[]⟩,
 ⟨none,.p1 (fun x=>AB Try.prog 91 x 1),[.loc 0],.push,[]⟩,
 ⟨none,.e (fun s=>BW (fun a x=>AS (AP Try.prog s 89 a x))),[.loc 0,.loc 2],.push,[]⟩]
def ZX:List AA:=[
 ⟨none,.p2 (AD Try.prog 23),[(.var 1),(.const (.int .i64 (0)))],.push,[]⟩,
 ⟨none,.r1 (fun s a=>AC Try.prog s 3 a),[.loc 0],.push,[]⟩,
 ⟨none,.call 71,[.var 0,.loc 0,.var 3],.push,[]⟩]
def qM:Aw:=⟨3,5,(.seq (.ops iX) (.seq (.ops ZW) (.seq (.ops iY) (.seq (.seq (.ops iZ) (.cond (.var 4)
 (.seq (.ops ia) (.ops ib))
 .skip)) (.ops ZX))))),[]⟩
def gE:List AA:=[
 ⟨none,.p1 some,[(.const (.int .i64 (0)))],(.set 2),[]⟩]
def gF:List AA:=[
 ⟨none,.p2 (AN Try.prog .eql 44),[(.var 0),(.const (.ptr none))],(.set 7),[]⟩]
def nu:List AA:=[
 ⟨none,.p1 some,[(.const (.int .i64 (2)))],(.set 2),[]⟩]
def gG:List AA:=[
 ⟨none,.call 63,[(.var 0),(.const (.int .i64 (0)))],.push,[]⟩]
def gH:List AA:=[
 ⟨none,.p1 some,[(.const (.int .i64 (32)))],(.set 3),[]⟩]
def gI:List AA:=[
 ⟨none,.p1 some,[(.const (.int .i64 (0)))],(.set 4),[]⟩]
def Yw:List AA:=[
 ⟨none,.p1 AF,[.var 0],.push,[]⟩,
 ⟨none,.p1 (fun x=>AB Try.prog 91 x 10),[.loc 0],.push,[]⟩,
 ⟨none,.r1 (fun s a=>AC Try.prog s 4 a),[.loc 0],.push,[]⟩,
 ⟨none,.p1 (Hv Try.prog Go.UnOp.not),[.loc 0],(.set 8),[]⟩]
def gK:List AA:=[
 ⟨none,.call 64,[.var 0],.push,[]⟩,
 ⟨none,.p1 some,[.loc 0],(.set 5),[]⟩]
def Yx:List AA:=[
 ⟨none,.p2 (AN Try.prog .neq 92),[(.var 5),(.const (.ptr none))],(.set 9),[]⟩]
def gL:List AA:=[
 ⟨none,.p1 AF,[.var 0],.push,[]⟩,
 ⟨none,.p1 (fun x=>AB Try.prog 91 x 8),[.loc 0],.push,[]⟩,
 ⟨none,.r1 (fun s a=>AC Try.prog s 23 a),[.loc 0],.push,[]⟩,
 ⟨none,.r (fun s l=>match l with | [x]=>As Try.prog s 23 x | _=>none),[.loc 0],.push,[]⟩,
 ⟨none,.p2 (AN Try.prog .eql 3),[(.loc 0),(.const (.int .i64 (0)))],.push,[]⟩,
 ⟨none,.p1 some,[.loc 0],(.set 10),[]⟩]
def Yj:List AA:=[
 ⟨none,.call 65,[.var 0],.push,[]⟩]
def Sj:List AA:=[
 ⟨none,.p2 (AN Try.prog .geq 3),[.var 4,.var 1],.push,[]⟩,
 ⟨none,.p1 some,[.loc 0],(.set 11),[]⟩]
def Yk:List AA:=[
 ⟨none,.call 63,[(.var 0),(.const (.int .i64 (0)))],.push,[]⟩]
def Yl:List AA:=[
 ⟨none,.p1 some,[(.const (.int .i64 (2)))],(.set 2),[]⟩]
def Ym:List AA:=[
 ⟨none,.p1 some,[.var 4],.push,[]⟩,
 ⟨none,.p2 (AN Try.prog .add 3),[(.loc 0),(.const (.int .i64 (1)))],.push,[]⟩,
 ⟨none,.p1 some,[.loc 0],(.set 4),[]⟩]
def Sk:List AA:=[
 ⟨none,.p1 AF,[.var 0],.push,[]⟩,
 ⟨none,.p1 (fun x=>AB Try.prog 91 x 13),[.loc 0],.push,[]⟩,
 ⟨none,.r1 (fun s a=>AC Try.prog s 3 a),[.loc 0],.push,[]⟩,
 ⟨none,.p2 (AN Try.prog .add 3),[(.loc 0),(.const (.int .i64 (1)))],.push,[]⟩,
 ⟨none,.p1 AF,[.var 0],.push,[]⟩,
 ⟨none,.p1 (fun x=>AB Try.prog 91 x 13),[.loc 0],.push,[]⟩,
 ⟨none,.e (fun s=>BW (fun a x=>AS (AP Try.prog s 3 a x))),[.loc 0,.loc 2],.push,[]⟩]
def Sl:List AA:=[
 ⟨none,.call 67,[.var 0,.var 5],.push,[]⟩,
 ⟨none,.p1 (fun x=>Rp x 0),[.loc 0],.push,[]⟩,
 ⟨none,.p1 (fun x=>Rp x 1),[.loc 1],.push,[]⟩,
 ⟨none,.call 66,[.var 0,.loc 1,.loc 0],.push,[]⟩]
def Yn:List AA:=[
 ⟨none,.p2 (AN Try.prog .geq 3),[.var 4,.var 3],(.set 12),[]⟩]
def Yo:List AA:=[
 ⟨none,.p1 some,[.var 3],.push,[]⟩,
 ⟨none,.p2 (AN Try.prog .add 3),[(.loc 0),(.const (.int .i64 (32)))],.push,[]⟩,
 ⟨none,.p1 some,[.loc 0],(.set 3),[]⟩]
def Yp:List AA:=[
 ⟨none,.call 68,[.var 0],.push,[]⟩]
def Yq:List AA:=[
 ⟨none,.call 63,[(.var 0),(.const (.int .i64 (0)))],.push,[]⟩]
def Yr:List AA:=[
 ⟨none,.call 69,[.var 0],.push,[]⟩]
def Ys:List AA:=[
 ⟨none,.call 70,[.var 0],.push,[]⟩,
 ⟨none,.p1 some,[.loc 0],(.set 6),[]⟩]
def Sm:List AA:=[
 ⟨none,.p2 (AN Try.prog .eql 3),[(.var 6),(.const (.int .i64 (0)))],(.set 13),[]⟩]
def Sn:List AA:=[
 ⟨none,.p1 AF,[.var 0],.push,[]⟩,
 ⟨none,.p1 (fun x=>AB Try.prog 91 x 2),[.loc 0],.push,[]⟩,
 ⟨none,.r1 (fun s a=>AC Try.prog s 23 a),[.loc 0],.push,[]⟩,
 ⟨none,.call 60,[.loc 0],.push,[]⟩,
 ⟨none,.p1 AF,[.var 0],.push,[]⟩,
 ⟨none,.p1 (fun x=>AB Try.prog 91 x 11),[.loc 0],.push,[]⟩,
 ⟨none,.e (fun s=>BW (fun a x=>AS (AP Try.prog s 23 a x))),[.loc 0,.loc 2],.push,[]⟩]
def Yt:List AA:=[
 ⟨none,.call 63,[(.var 0),(.const (.int .i64 (0)))],.push,[]⟩]
def Yu:List AA:=[
 ⟨none,.p1 some,[(.const (.int .i64 (1)))],(.set 2),[]⟩]
def So:List AA:=[
 ⟨none,.p1 AF,[.var 0],.push,[]⟩,
 ⟨none,.p1 (fun x=>AB Try.prog 91 x 8),[.loc 0],.push,[]⟩,
 ⟨none,.r1 (fun s a=>AC Try.prog s 23 a),[.loc 0],.push,[]⟩,
 ⟨none,.p1 AF,[.var 0],.push,[]⟩,
 ⟨none,.p1 (fun x=>AB Try.prog 91 x 7),[.loc 0],.push,[]⟩,
 ⟨none,.r1 (fun s a=>AC Try.prog s 23 a),[.loc 0],.push,[]⟩,
 ⟨none,.r (fun s l=>match l with | [x]=>As Try.prog s 23 x | _=>none),[.loc 0],.push,[]⟩,
 ⟨none,.mk (fun l=>(Ab Try.prog 23 1 (zipIdx [0] l)).bind fun r=>some (r,.slice 1)),[.loc 0],.push,[]⟩,
 ⟨none,.e (fun s l=>AY Try.prog s [23,23] l),[.loc 5,.loc 0],.push,[]⟩,
 ⟨none,.p1 AF,[.var 0],.push,[]⟩,
 ⟨none,.p1 (fun x=>AB Try.prog 91 x 8),[.loc 0],.push,[]⟩,
 ⟨none,.e (fun s=>BW (fun a x=>AS (AP Try.prog s 23 a x))),[.loc 0,.loc 2],.push,[]⟩]
def Sp:List AA:=[
 ⟨none,.p1 AF,[.var 0],.push,[]⟩,
 ⟨none,.p1 (fun x=>AB Try.prog 91 x 6),[.loc 0],.push,[]⟩,
 ⟨none,.r1 (fun s a=>AC Try.prog s 23 a),[.loc 0],.push,[]⟩,
 ⟨none,.p2 (AD Try.prog 23),[.loc 0,.var 6],.push,[]⟩,
 ⟨none,.r1 (fun s a=>AC Try.prog s 3 a),[.loc 0],.push,[]⟩,
 ⟨none,.p2 (AN Try.prog .mul 3),[.var 6,.loc 0],.push,[]⟩,
 ⟨none,.call 71,[(.var 0),(.loc 0),(.const (.ptr none))],.push,[]⟩]
def Fu:Ac:=(.seq (.seq (.ops Yw) (.cond (.var 8)
 .skip
 (.exit 0))) (.block 1 (.seq (.seq (.ops gK) (.seq (.ops Yx) (.cond (.var 9)
 (.seq (.block 2 (.seq (.ops gL) (.cond (.var 10)
 (.ops Yj)
 (.seq (.ops Sj) (.cond (.var 11)
 (.seq (.ops Yk) (.seq (.ops Yl) .ret))
 (.seq (.ops Ym) (.seq (.ops Sk) (.ops Sl)))))))) (.exit 1))
 .skip))) (.seq (.seq (.ops Yn) (.cond (.var 12)
 (.seq (.ops Yo) (.seq (.ops Yp) (.seq (.ops Yq) (.seq (.ops Yr) (.exit 1)))))
 .skip)) (.seq (.ops Ys) (.seq (.seq (.ops Sm) (.cond (.var 13)
 (.seq (.ops Sn) (.seq (.ops Yt) (.seq (.ops Yu) .ret)))
 .skip)) (.seq (.ops So) (.ops Sp))))))))
def Yv:List AA:=[
 ⟨none,.p1 some,[(.const (.int .i64 (0)))],(.set 2),[]⟩]
def qA:Aw:=⟨2,14,(.seq (.ops gE) (.seq (.seq (.ops gF) (.cond (.var 7)
 (.seq (.ops nu) .ret)
 .skip)) (.seq (.ops gG) (.seq (.ops gH) (.seq (.seq (.ops gI) (.block 0 (.loop Fu))) (.seq (.ops Yv) .ret)))))),[((.var 2),none)]⟩
def gW:List AA:=[
 ⟨none,.p1 some,[(.const (.slice none 0 (some 0)))],(.set 1),[]⟩]
def gX:List AA:=[
 ⟨none,.p2 (AN Try.prog .eql 44),[(.var 0),(.const (.ptr none))],(.set 3),[]⟩]
def nz:List AA:=[
 ⟨none,.p1 some,[(.const (.slice none 0 (some 0)))],(.set 1),[]⟩]
def gY:List AA:=[
 ⟨none,.p1 AF,[.var 0],.push,[]⟩,
 ⟨none,.p1 (fun x=>AB Try.prog 91 x 12),[.loc 0],.push,[]⟩,
 ⟨none,.r1 (fun s a=>AC Try.prog s 33 a),[.loc 0],(.set 4),[]⟩,
 ⟨none,.r (fun s l=>match l with | [x]=>As Try.prog s 33 x | _=>none),[.var 4],(.set 5),[]⟩,
 ⟨none,.p1 some,[(.const (.int .i64 (0)))],(.set 6),[]⟩]
def Yz:List AA:=[
 ⟨none,.p2 (AN Try.prog .lss 3),[.var 6,.var 5],(.set 7),[]⟩]
def gZ:List AA:=[
 ⟨none,.p2 (AD Try.prog 33),[.var 4,.var 6],.push,[]⟩,
 ⟨none,.r1 (fun s a=>AC Try.prog s 27 a),[.loc 0],.push,[]⟩,
 ⟨none,.mk (fun l=>match l with | []=>BF Try.prog 27 | _=>none),[],(.set 2),[]⟩,
 ⟨none,.e (fun s=>BW (fun a x=>AS (AP Try.prog s 27 a x))),[.var 2,.loc 0],.push,[]⟩]
def gc:List AA:=[
 ⟨none,.p1 some,[.var 1],.push,[]⟩,
 ⟨none,.p1 (fun x=>AB Try.prog 27 x 0),[.var 2],.push,[]⟩,
 ⟨none,.r1 (fun s a=>AC Try.prog s 4 a),[.loc 0],.push,[]⟩,
 ⟨none,.p1 (fun x=>AB Try.prog 27 x 1),[.var 2],.push,[]⟩,
 ⟨none,.r1 (fun s a=>AC Try.prog s 23 a),[.loc 0],.push,[]⟩,
 ⟨none,.call 60,[.loc 0],.push,[⟨none,.r1 (fun s a=>AC Try.prog s 4 a),[.loc 4],(.loc 3)⟩]⟩,
 ⟨none,.p (fun l=>Bu Try.prog 27 (zipIdx [0,1] l)),[.loc 3,.loc 0],.push,[]⟩,
 ⟨none,.mk (fun l=>(Ab Try.prog 33 1 (zipIdx [0] l)).bind fun r=>some (r,.slice 1)),[.loc 0],.push,[]⟩,
 ⟨none,.e (fun s l=>AY Try.prog s [33,33] l),[.loc 7,.loc 0],.push,[]⟩,
 ⟨none,.p1 some,[.loc 0],(.set 1),[]⟩]
def ge:List AA:=[
 ⟨none,.p2 (AN Try.prog .add 3),[(.var 6),(.const (.int .i64 (1)))],.push,[]⟩,
 ⟨none,.p1 some,[.loc 0],(.set 6),[]⟩]
def Pb:Ac:=(.seq (.ops Yz) (.seq (.cond (.var 7)
 .skip
 (.exit 0)) (.seq (.block 1 (.seq (.ops gZ) (.ops gc))) (.ops ge))))
def Y0:List AA:=[
 ⟨none,.p1 some,[.var 1],.push,[]⟩,
 ⟨none,.p1 some,[.loc 0],(.set 1),[]⟩]
def mq:Aw:=⟨1,8,(.seq (.ops gW) (.seq (.seq (.ops gX) (.cond (.var 3)
 (.seq (.ops nz) .ret)
 .skip)) (.seq (.seq (.ops gY) (.block 0 (.loop Pb))) (.seq (.ops Y0) .ret)))),[((.var 1),none)]⟩
theorem mG:AQ Try.prog 90=some qd:=by kernel_rfl
theorem mH:AQ Try.prog 91=some pe:=by kernel_rfl
theorem lz:AQ Try.prog 77=some pY:=by kernel_rfl
theorem lm:AQ Try.prog 71=some qR:=by kernel_rfl
theorem mA:AQ Try.prog 78=some qW:=by kernel_rfl
theorem lY:AQ Try.prog 63=some pV:=by kernel_rfl
theorem la:AQ Try.prog 65=some pW:=by kernel_rfl
theorem lO:AQ Try.prog 47=some qD:=by kernel_rfl
theorem lN:AQ Try.prog 46=some qC:=by kernel_rfl
theorem lL:AQ Try.prog 40=some qB:=by kernel_rfl
theorem lj:AQ Try.prog 68=some qO:=by kernel_rfl
theorem lk:AQ Try.prog 69=some qP:=by kernel_rfl
theorem ll:AQ Try.prog 70=some qQ:=by kernel_rfl
theorem mL:AQ Try.prog 99=some pg:=by kernel_rfl
theorem lp:AQ Try.prog 72=some qS:=by kernel_rfl
theorem lq:AQ Try.prog 73=some pX:=by kernel_rfl
theorem dj:AQ Try.prog 100=some nY:=by kernel_rfl
theorem dk:AQ Try.prog 101=some nZ:=by kernel_rfl
theorem dz:AQ Try.prog 113=some nl:=by kernel_rfl
theorem lr:AQ Try.prog 74=some qT:=by kernel_rfl
theorem lx:AQ Try.prog 75=some qU:=by kernel_rfl
theorem ly:AQ Try.prog 76=some qV:=by kernel_rfl
theorem dm:AQ Try.prog 102=some nf:=by kernel_rfl
theorem d6:AQ Try.prog 114=some km:=by kernel_rfl
theorem lK:AQ Try.prog 36=some pE:=by kernel_rfl
theorem dx:AQ Try.prog 110=some nj:=by kernel_rfl
theorem mI:AQ Try.prog 92=some pG:=by kernel_rfl
theorem lZ:AQ Try.prog 64=some qL:=by kernel_rfl
theorem mJ:AQ Try.prog 93=some qe:=by kernel_rfl
theorem dy:AQ Try.prog 111=some nk:=by kernel_rfl
theorem lg:AQ Try.prog 67=some qN:=by kernel_rfl
theorem mi:Dl Try.prog 67=[0,1,2,4,5,6,7,8,9,10,11,13,14,15,25,26,45,70,87,121,131]:=by kernel_rfl
theorem pi:FQ Try.prog 67 pN=some oC:=by kernel_rfl
theorem pk:FQ Try.prog 67 pR=some oD:=by kernel_rfl
theorem mK:AQ Try.prog 95=some qf:=by kernel_rfl
theorem lf:AQ Try.prog 66=some qM:=by kernel_rfl
theorem lJ:AQ Try.prog 34=some qA:=by kernel_rfl
theorem lM:AQ Try.prog 43=some mq:=by kernel_rfl
end
end Go.Proofs.Ytilhhmkdcoajnaa.Am
set_option linter.unusedVariables false
set_option linter.unusedSimpArgs false
set_option maxRecDepth 16000
namespace Go.Proofs.Ytilhhmkdcoajnaa.Am
open Go Go.Proofs
noncomputable section
abbrev Bt:=Nat×Nat×Nat
abbrev Ow:=Nat→Bt
structure AM(m:Bt→Prop)(ow:Ow)(s:AE)(ow':Ow)(s':AE):Prop where
 next:s.next≤s'.next
 tags:∀x,x<s.next→¬ m (ow x)→ow' x=ow x
 heap:∀x,x<s.next→¬ m (ow x)→s'.heap.get x=s.heap.get x
theorem AM.refl(m:Bt→Prop)(ow:Ow)(s:AE):AM m ow s ow s:=⟨qg _,fun _ _ _=>rfl,fun _ _ _=>rfl⟩
theorem AM.trans{m:Bt→Prop}{ow ow1 ow2:Ow}{s s1 s2:AE}(h:AM m ow s ow1 s1)(k:AM m ow1 s1 ow2 s2):AM m ow s ow2 s2:=by
 have h1:=h.next
 refine⟨qs h.next k.next,fun x hx hm=>(k.tags x (by omega) (by rw[h.tags x hx hm];exact hm)).trans (h.tags x hx hm),fun x hx hm=>?_⟩
 rw[k.heap x (by omega) (by rw[h.tags x hx hm];exact hm),h.heap x hx hm]
theorem AM.mono{m m':Bt→Prop}{ow ow':Ow}{s s':AE}(h:AM m ow s ow' s')(k:∀t,m t→m' t):AM m' ow s ow' s':=⟨h.next,fun x hx hm=>h.tags x hx fun q=>hm (k _ q),fun x hx hm=>h.heap x hx fun q=>hm (k _ q)⟩
def ext(ow:Ow)(n:Nat)(T:Bt):Ow:=fun x=>if x<n then ow x else T
theorem Fv{ow:Ow}{n:Nat}{T:Bt}{x:Nat}(h:x<n):ext ow n T x=ow x:=if_pos h
theorem Ej{ow:Ow}{n:Nat}{T:Bt}{x:Nat}(h:n≤x):ext ow n T x=T:=if_neg (by omega)
theorem AM.old{m:Bt→Prop}{ow:Ow}{s s':AE}(h:Ao s.next s s')(T:Bt):AM m ow s (ext ow s.next T) s':=⟨h.1,fun x hx _=>Fv hx,fun x hx _=>h.2 x hx⟩
theorem AM.new(m:Bt→Prop)(ow:Ow)(s:AE)(o:C8)(T:Bt):AM m ow s (ext ow s.next T) (newObj s o):=AM.old (Ao.new s o) T
structure Rz(ow:Ow)(T:Bt)(s:AE)(i:Nat)(r:EX):Prop where
 get:s.heap.get i=some (.row r)
 whose:ow i=T
 lt:i<s.next
 own:r.mode=.own
 sz:r.sz=1
 par:∀p,r.par=some p→ow p=T∧p<s.next∧p≠i
theorem Rz.step{m:Bt→Prop}{ow ow':Ow}{T:Bt}{s s':AE}{i:Nat}{r:EX}(h:Rz ow T s i r)(k:AM m ow s ow' s')(hm:¬ m T):Rz ow' T s' i r:=by
 have hn:=k.next
 have hl:=h.lt
 refine⟨by rw[k.heap i h.lt (by rw[h.whose];exact hm)];exact h.get,by rw[k.tags i h.lt (by rw[h.whose];exact hm)];exact h.whose,by omega,h.own,h.sz,fun p hp=>?_⟩
 obtain⟨h1,h2,h3⟩:=h.par p hp
 exact⟨by rw[k.tags p h2 (by rw[h1];exact hm)];exact h1,by omega,h3⟩
theorem Rz.store{ow:Ow}{T:Bt}{s:AE}{i o:Nat}{r:EX}(h:Rz ow T s i r){vs:List AV}(hne:vs≠[])(ho:o+vs.length≤r.n)(hc:Ae vs=true):
  ∃s',Cc s i o vs=some s'∧Rz ow T s' i { r with c:=r.c.fill o vs,par:=none }∧AM (· = T) ow s ow s'∧s'.next=s.next:=by
 have hrow:rowAt s i=some r:=by simp[rowAt,h.get]
 have hst:Cc s i o vs=some (setObj (A1 s i r) i (.row { r with c:=r.c.fill o vs,par:=none })):=by
  cases vs with
  | nil=>exact absurd rfl hne
  | cons v vs =>
   have hb:=A2 ho
   rw[qx]at hb
   simp[Cc,hrow,h.own,Fl,hb,hc,AG]
 have hun:(A1 s i r).next=s.next:=by
  unfold A1
  split
  ·rfl
  ·rename_i p _
   cases Nat.beq p i<;>rfl
 refine⟨_,hst,⟨by rw[Ai,if_pos rfl],h.whose,by show i<(A1 s i r).next;rw[hun];exact h.lt,h.own,h.sz,fun p hp=>by cases hp⟩,⟨by show s.next≤(A1 s i r).next;omega,fun _ _ _=>rfl,fun x hx hm=>?_⟩,hun⟩
 have hxi:x≠i:=fun e=>hm (by rw[e];exact h.whose)
 rw[Ai,if_neg hxi]
 unfold A1
 cases hp:r.par with
 | none=>rfl
 | some p =>
  obtain⟨h1,h2,h3⟩:=h.par p hp
  have hb:Nat.beq p i=false:=D0 h3
  simp only[hb,cond_false]
  rw[Bw,if_neg (fun e=>hm (by rw[e];exact h1))]
theorem FR{a:Option (Nat×Nat)}{n:Nat}{cx:Option Nat}:E8 (.slice a n cx) (.slice a n cx)=true:=by
 cases a with
 | none=>cases cx<;>simp[E8]
 | some io=>obtain⟨i,o⟩:=io;cases cx<;>simp[E8]
def Bb(ow:Ow)(T:Bt)(s:AE)(v:AV)(cs:List AV):Prop:=(v=.slice none 0 (some 0)∧cs=[]) ∨
 ∃i o cap r,v=.slice (some (i,o)) cs.length cap∧Rz ow T s i r∧(∀k u,cs[k]? = some u→r.c.get (o+k)=some u)∧o+cs.length≤r.n∧(match cap with
  | some c=>cs.length≤c∧o+c≤r.n
  | none=>o=0∧0<r.n)
theorem Bb.nil(ow:Ow)(T:Bt)(s:AE):Bb ow T s (.slice none 0 (some 0)) []:=.inl ⟨rfl,rfl⟩
theorem Bb.step{m:Bt→Prop}{ow ow':Ow}{T:Bt}{s s':AE}{v:AV}{cs:List AV}(h:Bb ow T s v cs)(k:AM m ow s ow' s')(hm:¬ m T):Bb ow' T s' v cs:=by
 rcases h with h | ⟨i,o,cap,r,h1,h2,h3⟩
 ·exact .inl h
 ·exact .inr ⟨i,o,cap,r,h1,h2.step k hm,h3⟩
theorem Bb.isCell{ow:Ow}{T:Bt}{s:AE}{v:AV}{cs:List AV}(h:Bb ow T s v cs):v.isCell=true∧v.cells=[v]:=by
 rcases h with⟨rfl,_⟩ | ⟨i,o,cap,r,rfl,_⟩<;>exact⟨rfl,rfl⟩
theorem Bb.slice{ow:Ow}{T:Bt}{s:AE}{v:AV}{cs:List AV}(h:Bb ow T s v cs):AJ s.next s v cs:=by
 rcases h with⟨rfl,rfl⟩ | ⟨i,o,cap,r,rfl,h2,h3,h4,h5⟩
 ·exact⟨none,some 0,rfl,BA.nil⟩
 ·exact⟨_,_,rfl,fun k u hk=>⟨i,o,rfl,h2.lt,BX h2.get (by have:=AZ hk;omega) (h3 k u hk)⟩⟩
theorem Bb.self{ow:Ow}{T:Bt}{s:AE}{v:AV}{cs:List AV}(h:Bb ow T s v cs):E8 v v=true:=by
 obtain⟨a,cap,rfl,_⟩:=h.slice
 exact FR
theorem Bb.len{ow:Ow}{T:Bt}{s:AE}{v:AV}{cs:List AV}(h:Bb ow T s v cs){t e:TypeId}(ht:Try.prog.underlying t=some (.slice e))(s':AE):As Try.prog s' t v=some (iv (cs.length:Int)):=by
 rcases h with⟨rfl,rfl⟩ | ⟨i,o,cap,r,rfl,_⟩
 ·exact AW ht
 ·exact AW ht
def BE(v:AV)(k:Nat):AV:=match v with
 | .slice (some (i,o)) _ _=>.ptr (some (i,o+k * 1))
 | _=>Ar
theorem Bb.addr{ow:Ow}{T:Bt}{s:AE}{v:AV}{cs:List AV}(h:Bb ow T s v cs){t e:TypeId}(ht:Try.prog.underlying t=some (.slice e))(hs:BD Try.prog e=some 1){k:Nat}(hk:k<cs.length):AD Try.prog t v (iv (k:Int))=some (BE v k):=by
 rcases h with⟨rfl,rfl⟩ | ⟨i,o,cap,r,rfl,_⟩
 ·simp at hk
 ·exact At ht hs hk
theorem Bb.get{ow:Ow}{T:Bt}{s:AE}{v:AV}{cs:List AV}(h:Bb ow T s v cs){t:TypeId}(ht:E1 Try.prog t=some false){k:Nat}{u:AV}(hk:cs[k]? = some u):AC Try.prog s t (BE v k)=some u:=by
  rcases h with⟨rfl,rfl⟩ | ⟨i,o,cap,r,rfl,h2,h3,h4,h5⟩
  · simp at hk
  · refine A0       ht ?_
    rw[rC]
    exact BX h2.get (by have:=AZ hk;omega) (h3 k u hk)
theorem Bb.set  {ow : Ow} {T : Bt}  {s : AE}  {v : AV} {cs : List AV} (h : Bb  ow T s v cs) {t : TypeId} (ht : BD    Try.prog t = some 1) {k : Nat} (hk : k < cs.length) {x : AV} (h1 : x.isCell = true) (h2 : x.cells = [x]) :
    ∃s',AP Try.prog s t (BE v k) x=some s'∧Bb ow T s' v (cs.set k x)∧AM (· = T) ow s ow s'∧s'.next=s.next:=by
  rcases h with⟨rfl,rfl⟩ | ⟨i,o,cap,r,rfl,hm,h3,h4,h5⟩
  · simp at hk
  · obtain⟨s',g1,g2,g3,g4⟩:=hm.store (o:=o+k * 1) (vs:=[x]) (by simp) (by simp;omega) (by simp[Ae,h1])
    refine⟨s',?_,.inr ⟨i,o,cap,_,by rw[qr],g2,fun j u hj=>?_,by rw[qr];exact h4,?_⟩,g3,g4⟩
    · simp[BE,AP,ht,h2,AG]
      rw[← g1]
      congr 1
      omega
    · show(Ak.fill r.c (o+k * 1) [x]).get (o+j)=some u
      rw[Ak.get_fill]
      rw[qz]at hj
      by_cases e:k=j
      · subst e
        rw[if_pos rfl,if_pos hk]at hj
        rw[if_pos ⟨by omega,by show o+k<o+k * 1+1;omega⟩,show o+k - (o+k * 1)=0 by omega]
        exact hj
      · rw [if_neg e] at hj
        rw[if_neg (fun q=>e (by have q1:=q.1;have q2:o+j<o+k * 1+1:=q.2;omega))]
        exact h3 j u hj
    · cases cap with
      | none=>exact h5
      | some c=>exact⟨by rw[qr];exact h5.1,h5.2⟩
def Iy(v:AV)(k:Nat):AV:=match v with
 | .slice a _ cap=>.slice a k cap
 | _=>v
theorem Bb.cut{ow:Ow}{T:Bt}{s:AE}{v:AV}{cs:List AV}(h:Bb ow T s v cs){k:Nat}(hk:k≤cs.length):Bb ow T s (Iy v k) (cs.take k):=by
 rcases h with⟨rfl,rfl⟩ | ⟨i,o,cap,r,rfl,h2,h3,h4,h5⟩
 ·have:k=0:=by simpa using hk
  subst this
  exact .inl ⟨rfl,rfl⟩
 ·have hl:(cs.take k).length=k:=by rw[rK];omega
  refine .inr ⟨i,o,cap,r,by rw[hl];rfl,h2,fun j u hj=>?_,by omega,?_⟩
  ·rw[sL]at hj
   split at hj
   ·exact h3 j u hj
   ·cases hj
  ·cases cap with
   | none=>exact h5
   | some c=>exact⟨by omega,h5.2⟩
theorem Bb.cut_op{ow:Ow}{T:Bt}{s:AE}{v:AV}{cs:List AV}(h:Bb ow T s v cs){t e:TypeId}(ht:Try.prog.underlying t=some (.slice e))(hs:BD Try.prog e=some 1){k:Nat}(hk:k≤cs.length):
  AU Try.prog t false true false s [v,iv (k:Int)]=some (Iy v k):=by
 rcases h with⟨rfl,rfl⟩ | ⟨i,o,cap,r,rfl,h2,h3,h4,h5⟩
 ·have:k=0:=by simpa using hk
  subst this
  have hb:Au (.int .i64 0) 0=some 0:=rfl
  show An Try.prog s t (.slice none 0 (some 0)) none (some (iv ((0:Nat):Int))) none=_
  simp[An,ht,hs,hb,AG,Iy]
 ·cases cap with
  | some c =>
   have hb:Au (iv (k:Int)) c=some k:=by simp[Au,Cx,Bc,AG,A2 (show k≤c by have:=h5.1;omega)]
   show An Try.prog s t (.slice (some (i,o)) cs.length (some c)) none (some (iv (k:Int))) none=_
   cases hz:Nat.beq c 0<;>simp[An,ht,hs,hb,AG,hz,Iy]
  | none =>
   have h5:o=0:=h5.1
   subst h5
   have hb:Au (iv (k:Int)) r.n=some k:=by simp[Au,Cx,Bc,AG,A2 (show k≤r.n by omega)]
   have hrow:rowAt s i=some r:=by simp[rowAt,h2.get]
   show An Try.prog s t (.slice (some (i,0)) cs.length none) none (some (iv (k:Int))) none=_
   simp[An,ht,hs,hrow,h2.sz,AG,hb,A2 (qm r.n),show Nat.beq 1 0=false from rfl,Iy]
def Gg(v:AV)(k:Nat):AV:=match v with
 | .slice none n (some c)=>.slice none (n - k) (some (c - k))
 | .slice (some (i,o)) n (some c)=>.slice (some (bif Nat.beq c k then (i,o)else (i,o+k * 1))) (n - k) (some (c - k))
 | .slice (some (i,o)) n none=>.slice (some (i,o+k * 1)) (n - k) none
 | v=>v
theorem Bb.rest  {ow : Ow} {T : Bt}  {s : AE}  {v : AV} {cs : List AV} (h : Bb  ow T s v cs) {t e : TypeId} (ht : Try.prog.underlying t = some (.slice e)) (hs : BD    Try.prog e = some 1) {k : Nat} (hk : k ≤ cs.length) :
    AU Try.prog t true false false s [v,iv (k:Int)]=some (Gg v k)∧AJ s.next s (Gg v k) (cs.drop k):=by
  have hb:Au (iv (k:Int)) cs.length=some k:=by simp[Au,Cx,Bc,AG,A2 hk]
  rcases h with⟨rfl,rfl⟩ | ⟨i,o,cap,r,rfl,h2,h3,h4,h5⟩
  · have:k=0:=by simpa using hk
    subst this
    have hb0:Au (.int .i64 0) 0=some 0:=rfl
    refine⟨?_,⟨none,some 0,rfl,BA.nil⟩⟩
    show An Try.prog s t (.slice none 0 (some 0)) (some (iv ((0:Nat):Int))) none none=_
    simp[An,ht,hs,hb0,AG,Gg]
  · have cells:∀cap',AJ s.next s (.slice (some (i,o+k * 1)) (cs.length - k) cap') (cs.drop k):=fun cap'=>by
      refine⟨_,_,by rw[rV],fun j u hj=>⟨i,o+k * 1,rfl,h2.lt,?_⟩⟩
      rw[rQ]at hj
      rw[show o+k * 1+j=o+(k+j) by omega]
      exact BX h2.get (by have:=AZ hj;omega) (h3 _ u hj)
    cases cap with
    | some c =>
      cases hz:Nat.beq c k with
      | false =>
        refine⟨?_,by simp only[Gg,hz,cond_false];exact cells (some (c - k))⟩
        show An Try.prog s t (.slice (some (i,o)) cs.length (some c)) (some (iv (k:Int))) none none=_
        simp[An,ht,hs,hb,AG,hz,Gg]
      | true =>
        have hck:=rW hz
        have hkl:k=cs.length:=by have:=h5.1;omega
        refine⟨?_,by simp only[Gg,hz,cond_true];exact⟨_,_,by rw[rV],fun j u hj=>by rw[hkl,List.drop_length]at hj;simp at hj⟩⟩
        show An Try.prog s t (.slice (some (i,o)) cs.length (some c)) (some (iv (k:Int))) none none=_
        simp[An,ht,hs,hb,AG,hz,Gg]
    | none =>
      have h5:o=0:=h5.1
      subst h5
      have hrow:rowAt s i=some r:=by simp[rowAt,h2.get]
      refine⟨?_,by simp only[Gg];exact cells none⟩
      show An Try.prog s t (.slice (some (i,0)) cs.length none) (some (iv (k:Int))) none none=_
      simp[An,ht,hs,hrow,h2.sz,AG,hb,A2 (qm r.n),show Nat.beq 1 0=false from rfl,Gg]
theorem DD{t:Ak AV}{n:Nat}{vs:List AV}{j:Nat}{u:AV}(h:vs[j]? = some u):(t.fill n vs).get (n+j)=some u:=by
 have:=AZ h
 rw[Ak.get_fill,if_pos ⟨by omega,by omega⟩,Nat.add_sub_cancel_left]
 exact h
theorem FT{t:Ak AV}{n:Nat}{vs:List AV}{j:Nat}(h:j<n):(t.fill n vs).get j=t.get j:=by
 rw[Ak.get_fill,if_neg (by omega)]
theorem Of{cs:List AV}{x u:AV}{k:Nat}(h:(cs++[x])[k]? = some u):(k<cs.length∧cs[k]? = some u)∨(k=cs.length∧u=x):=by
 rcases qk k cs.length with hlt | hge
 ·rw[qv hlt]at h;exact .inl ⟨hlt,h⟩
 ·rw[qy hge]at h
  have hk:k=cs.length:=by
   rcases qk (k - cs.length) 1 with h' | h'
   ·omega
   ·rw[rA (by simpa using h')]at h;cases h
  subst hk
  exact .inr ⟨rfl,by simpa using h.symm⟩
theorem Bb.push  {ow : Ow} {T : Bt}  {s : AE}  {v : AV} {cs : List AV} (h : Bb  ow T s v cs) {st e : TypeId} {by_ : Nat} (ht : Try.prog.underlying st = some (.slice e)) (hs : BD    Try.prog e = some 1) (hb : Cg     Try.prog e = some by_) (hby : by_ ≤ 100) (hx : BC           Try.prog st = true) (hz : CB     Try.prog e 1 = true)
    (hl:cs.length≤1000000000) {x:AV} (hc:x.isCell=true) {q:Nat} {ty:TypeId} {sz':Nat} (hq:s.heap.get q=some (AL ty sz' [x])):
    ∃v' s' ow',AY Try.prog s [st,st] [v,.slice (some (q,0)) 1 (some 1)]=some (v',s')∧Bb ow' T s' v' (cs++[x])∧AM (· = T) ow s ow' s':=by
  have hsrc:Bg Try.prog s e 1 (.slice (some (q,0)) 1 (some 1))=some (1,[x]):=EU ty sz' hq rfl
  have hac:Ae [x]=true:=by simp[Ae,hc]
  have hmul:(cs.length+1) * by_≤(cs.length+1) * 100:=sV _ hby
  have fresh:∀ (s1:AE),AM (· = T) ow s ow s1→s1.next=s.next→(∀ (c:Ak AV) (par:Option Nat),(∀k u,(cs++[x])[k]? = some u→c.get k=some u)→(∀p,par=some p→ow p=T∧p<s.next) →
      ∃ow',Bb ow' T (newObj s1 (CL e 1 c (cs++[x]).length par)) (.slice (some (s.next,0)) (cs.length+1) none) (cs++[x])∧AM (· = T) ow s ow' (newObj s1 (CL e 1 c (cs++[x]).length par))):=by
    intro s1 hst hn c par hcg hpar
    refine⟨ext ow s1.next T,.inr ⟨s.next,0,none,{ elem:=e,sz:=1,n:=(cs++[x]).length,c,spare:=true,mode:=.own,par,bytes:=false },by rw[qn];rfl,⟨by rw[AK,if_pos hn.symm];rfl,Ej (by omega),by show s.next<s1.next+1;omega,rfl,rfl,fun p hp=>?_⟩,fun k u hk=>by rw[qq];exact hcg k u hk,by rw[qq];exact qg _,⟨rfl,by show 0<(cs++[x]).length;simp⟩⟩,hst.trans (AM.new _ ow s1 _ T)⟩
    obtain⟨h1,h2⟩:=hpar p hp
    exact⟨by rw[Fv (by omega)];exact h1,by show p<s1.next+1;omega,by omega⟩
  rcases h with⟨rfl,rfl⟩ | ⟨i,o,cap,r,rfl,h2,h3,h4,h5⟩
  · obtain⟨ow',g1,g2⟩:=fresh s (AM.refl _ _ _) rfl (Ak.fill .leaf 0 [x]) none (fun k u hk=>by
      have:=DD (t:=Ak.leaf) (n:=0) hk
      rw[qq]at this
      exact this) (fun p hp=>by cases hp)
    refine⟨_,_,ow',?_,g1,g2⟩
    rw[BT ht hs hb (by decide) hx hsrc hac (by simp;omega) (by simp)]
    simp only[appTo,D0 (show(1:Nat)≠0 by decide),cond_false,Bf,AG,hz,cond_true]
    rfl
  · have happ := BT         (st := st) (xt := st) (a := some (i, o)) (n := cs.length) (cap := cap) ht hs hb (by decide) hx hsrc hac (by omega) (by omega)
    have hcells:loadN s i o (cs.length * 1)=some cs:=by
      have hrow:rowAt s i=some r:=by simp[rowAt,h2.get]
      simp only[loadN,hrow,Option.bind_some,rC,A2 h4,AG,cond_true]
      exact K6 _ _ fun j u hj=>h3 j u hj
    have freshC:∀k u,(cs++[x])[k]? = some u→(Ak.fill .leaf 0 (cs++[x])).get k=some u:=fun k u hk=>by
      have:=DD (t:=Ak.leaf) (n:=0) hk
      rw[qq]at this
      exact this
    cases cap with
    | some c =>
      obtain⟨h6,h7⟩:=h5
      by_cases hfit:cs.length+1≤c
      · obtain⟨s',g1,g2,g3,g4⟩:=h2.store (o:=o+cs.length * 1) (vs:=[x]) (by simp) (by simp;omega) hac
        refine⟨.slice (some (i,o)) (cs.length+1) (some c),s',ow,?_,.inr ⟨i,o,some c,_,by rw[qn];rfl,g2,fun k u hk=>?_,by rw[qn];show o+(cs.length+1)≤r.n;omega,by rw[qn];exact⟨hfit,h7⟩⟩,g3⟩
        · rw[happ]
          simp only[appTo,DB,A2 hfit,cond_true,g1,Option.bind_some]
        · show(Ak.fill r.c (o+cs.length * 1) [x]).get (o+k)=some u
          rcases Of hk with⟨k1,k2⟩ | ⟨rfl,rfl⟩
          · rw[FT (by omega)];exact h3 k u k2
          · have:=DD (t:=r.c) (n:=o+cs.length * 1) (vs:=[u]) (j:=0) rfl
            rw[show o+cs.length=o+cs.length * 1+0 by omega];exact this
      · obtain⟨ow',g1,g2⟩:=fresh s (AM.refl _ _ _) rfl (Ak.fill .leaf 0 (cs++[x])) none freshC (fun p hp=>by cases hp)
        refine⟨_,_,ow',?_,g1,g2⟩
        rw[happ]
        simp only[appTo,DB,E4 (show c<cs.length+1 by omega),cond_false,hcells,Option.bind_some,Bf,AG,hz,cond_true]
    | none =>
      have h5:o=0:=h5.1
      subst h5
      have hrow:rowAt s i=some r:=by simp[rowAt,h2.get]
      by_cases hfit:cs.length+1≤r.n
      · obtain⟨s',g1,g2,g3,g4⟩:=h2.store (o:=0+cs.length * 1) (vs:=[x]) (by simp) (by simp;omega) hac
        refine⟨.slice (some (i,0)) (cs.length+1) none,s',ow,?_,.inr ⟨i,0,none,_,by rw[qn];rfl,g2,fun k u hk=>?_,by rw[qn];show 0+(cs.length+1)≤r.n;omega,⟨rfl,by show 0<r.n;omega⟩⟩,g3⟩
        · rw[happ]
          simp only[appTo,hrow,Option.bind_some,DG,h2.sz,Dj rfl,AG,cond_true,A2 (show 0+(cs.length+1) * 1≤r.n by omega),g1]
        · show(Ak.fill r.c (0+cs.length * 1) [x]).get (0+k)=some u
          rcases Of hk with⟨k1,k2⟩ | ⟨rfl,rfl⟩
          · rw[FT (by omega)];exact h3 k u k2
          · have:=DD (t:=r.c) (n:=0+cs.length * 1) (vs:=[u]) (j:=0) rfl
            rw[show 0+cs.length=0+cs.length * 1+0 by omega];exact this
      · have hnf : Nat.ble (0 + (cs.length + 1) * 1) r.n = false := E4      (by omega)
        have hends:Nat.beq (0+cs.length * 1) r.n=true:=Dj (by omega)
        cases hsp:r.spare with
        | false =>
          obtain⟨ow',g1,g2⟩:=fresh s (AM.refl _ _ _) rfl (Ak.fill .leaf 0 (cs++[x])) none freshC (fun p hp=>by cases hp)
          refine⟨_,_,ow',?_,g1,g2⟩
          rw[happ]
          simp only[appTo,hrow,Option.bind_some,DG,h2.sz,Dj rfl,AG,cond_true,hnf,cond_false,hcells,hsp,Bf,hz]
        | true =>
          have hun:(A1 s i r).next=s.next:=by
            unfold A1
            split
            · rfl
            · rename_i p _
              cases Nat.beq p i<;>rfl
          have hst:AM (· = T) ow s ow (setObj (A1 s i r) i (.row { r with mode:=.sealed,par:=none })):=by
            refine⟨by show s.next≤(A1 s i r).next;omega,fun _ _ _=>rfl,fun y hy hm=>?_⟩
            have hyi:y≠i:=fun e=>hm (by rw[e];exact h2.whose)
            rw[Ai,if_neg hyi]
            unfold A1
            cases hp:r.par with
            | none=>rfl
            | some p =>
              obtain⟨k1,k2,k3⟩:=h2.par p hp
              simp only[D0 k3,cond_false]
              rw[Bw,if_neg (fun e=>hm (by rw[e];exact k1))]
          obtain⟨ow',g1,g2⟩:=fresh _ hst hun (r.c.fill (cs.length * 1) [x]) (some i) (fun k u hk=>by
            rcases Of hk with⟨k1,k2⟩ | ⟨rfl,rfl⟩
            · rw[FT (by omega)]
              have:=h3 k u k2
              rw[qq]at this
              exact this
            · have:=DD (t:=r.c) (n:=cs.length * 1) (vs:=[u]) (j:=0) rfl
              rw[show cs.length=cs.length * 1+0 by omega]
              rw[show(cs.length * 1+0) * 1=cs.length * 1 by omega]
              exact this) (fun p hp=>by injection hp with hp;subst hp;exact⟨h2.whose,h2.lt⟩)
          refine⟨_,_,ow',?_,g1,g2⟩
          rw[happ]
          simp only[appTo,hrow,Option.bind_some,DG,h2.sz,Dj rfl,AG,cond_true,hnf,cond_false,hcells,hsp,DU,h2.own,Fl,hz,Bool.and_self,hends,Cs]
def DT(s:AE)(i:Nat)(cs:List AV):Prop:=∃r,s.heap.get i=some (.row r)∧Hw r cs∧r.mode=.own∧r.par=none
theorem DT.keep{s s':AE}{i:Nat}{cs:List AV}(h:DT s i cs)(k:s'.heap.get i=s.heap.get i):DT s' i cs:=by
 obtain⟨r,h1,h2⟩:=h
 exact⟨r,k.trans h1,h2⟩
theorem DT.load{s:AE}{i k:Nat}{cs:List AV}{u:AV}(h:DT s i cs)(hk:cs[k]? = some u){t:TypeId}(ht:E1 Try.prog t=some false):AC Try.prog s t (.ptr (some (i,k)))=some u:=by
 obtain⟨r,h1,h2,_⟩:=h
 exact A0 ht (BX h1 (by rw[h2.1];exact AZ hk) (h2.2 k u hk))
theorem DT.store{s:AE}{i k:Nat}{cs:List AV}{d:AV}(h:DT s i cs)(hk:k<cs.length){t:TypeId}(ht:BD Try.prog t=some 1)(h1:d.isCell=true)(h2:d.cells=[d]):
    ∃s',AP Try.prog s t (.ptr (some (i,k))) d=some s'∧DT s' i (cs.set k d)∧s'.next=s.next∧∀x,x≠i→s'.heap.get x=s.heap.get x:=by
  obtain⟨r,g1,g2,g3,g4⟩:=h
  refine⟨_,Nt ht g1 g3 g4 (by rw[g2.1];exact hk) h2 h1,⟨{ r with c:=r.c.fill k [d],par:=none },by rw[Ai,if_pos rfl],⟨by show r.n=_;rw[g2.1,qr],fun j u hj=>?_⟩,g3,rfl⟩,rfl,fun x hx=>by rw[Ai,if_neg hx]⟩
  show(Ak.fill r.c k [d]).get j=some u
  rw[qz]at hj
  by_cases e:k=j
  · subst e
    rw[if_pos rfl,if_pos hk]at hj
    rw[Ak.get_fill,if_pos ⟨qg _,by show k<k+1;omega⟩,ru]
    exact hj
  · rw [if_neg e] at hj
    rw[Ak.get_fill,if_neg (fun q=>e (by have q1:=q.1;have q2:j<k+1:=q.2;omega))]
    exact g2.2 j u hj
theorem DT.new{s:AE}{t:TypeId}{cs:List AV}:DT (newObj s (AL t 0 cs)) s.next cs:=by
 obtain⟨r,h1,h2,h3,h4,h5,h6⟩:=BN t 0 cs
 exact⟨r,by rw[AK,if_pos rfl,h1],h2,h5,h6⟩
abbrev B3:=List Int×Bool×Bool
structure Sv where
 watches:List (List Nat)
 learned:List Nat
 value:List Int
 level:List Int
 why:List (Option Nat)
 heat:List Int
 phase:List Int
 trail:List Int
 limits:List Int
 head:Int
 broken:Bool
 model:List Int
 trace:List (Bool×List Int)
 many:Int
 room:Int
 cl:Nat→Option B3
structure Sf where
 w:AV
 l:AV
 val:AV
 lev:AV
 why:AV
 heat:AV
 ph:AV
 tr:AV
 lim:AV
 mo:AV
 trc:AV
def AR(c:Nat):AV:=.ptr (some (c,0))
def JZ:Option Nat→AV
 | none=>.ptr none
 | some c=>AR c
abbrev Df(x:Sf)(v:Sv):List AV:=[x.w,x.l,x.val,x.lev,x.why,x.heat,x.ph,x.tr,x.lim,iv v.head,.bool v.broken,x.mo,x.trc,iv v.many,iv v.room]
abbrev Ei(L:List Nat):List AV:=L.map AR
def Wu(ow:Ow)(s:AE)(p c:Nat)(l:B3):Prop:=∃u,DT s c [u,.bool l.2.1,.bool l.2.2]∧ow c=(p,14,c)∧c<s.next∧Bb ow (p,15,c) s u (A3 l.1)
def pC(ow:Ow)(s:AE)(p:Nat)(v:AV)(ws:List (List Nat)):Prop:=∃us:List AV,us.length=ws.length∧Bb ow (p,1,0) s v us∧∀ (k:Nat)(L:List Nat),ws[k]? = some L→∃u:AV,us[k]? = some u∧Bb ow (p,2,k) s u (Ei L)
def N4(ow:Ow)(s:AE)(p:Nat)(v:AV)(T:Aa):Prop:=∃us O,Bz s v T.length 2 us O∧(∀j∈O,ow j=(p,12,0))∧(∀j,slot v=some j→ow j=(p,12,0)∧j<s.next)∧BH s.next s us T∧∀u∈us,∀j,slot u=some j→ow j=(p,13,0)∧j<s.next
structure Av(ow:Ow)(s:AE)(p:Nat)(x:Sf)(v:Sv):Prop where
 box:DT s p (Df x v)
 tag:ow p=(p,0,0)
 lt:p<s.next
 w:pC ow s p x.w v.watches
 learned:Bb ow (p,3,0) s x.l (v.learned.map AR)
 value:Bb ow (p,4,0) s x.val (A3 v.value)
 level:Bb ow (p,5,0) s x.lev (A3 v.level)
 why:Bb ow (p,6,0) s x.why (v.why.map JZ)
 heat:Bb ow (p,7,0) s x.heat (A3 v.heat)
 phase:Bb ow (p,8,0) s x.ph (A3 v.phase)
 trail:Bb ow (p,9,0) s x.tr (A3 v.trail)
 limits:Bb ow (p,10,0) s x.lim (A3 v.limits)
 model:Bb ow (p,11,0) s x.mo (A3 v.model)
 trace:N4 ow s p x.trc v.trace
 cls:∀c l,v.cl c=some l→Wu ow s p c l
def Bs(p:Nat)(t:Bt):Prop:=t.1=p
def B6(p:Nat)(t:Bt):Prop:=t.1=p∧t.2.1≠1∧t.2.1≠2∧t.2.1<16
def KU(p:Nat)(t:Bt):Prop:=t.1=p∧(t.2.1=1∨t.2.1=2)
theorem AM.w{p:Nat}{ow ow':Ow}{s s':AE}(h:AM (KU p) ow s ow' s'):AM (Bs p) ow s ow' s':=h.mono fun t ht=>ht.1
def U4(p k:Nat)(t:Bt):Prop:=t=(p,0,0)∨t=(p,k,0)
theorem AM.n{p k:Nat}{ow ow':Ow}{s s':AE}(h:AM (U4 p k) ow s ow' s')(h1:k≠1)(h2:k≠2)(h3:k<16):AM (B6 p) ow s ow' s':=h.mono fun t ht=>by
 rcases ht with e | e
 ·rw[e];exact⟨rfl,by simp,by simp,by simp⟩
 ·rw[e];exact⟨rfl,h1,h2,h3⟩
theorem AM.b{p:Nat}{ow ow':Ow}{s s':AE}(h:AM (B6 p) ow s ow' s'):AM (Bs p) ow s ow' s':=h.mono fun t ht=>ht.1
theorem Wu.step{m:Bt→Prop}{ow ow':Ow}{s s':AE}{p c:Nat}{l:B3}(h:Wu ow s p c l)(k:AM m ow s ow' s')(h1:¬ m (p,14,c))(h2:¬ m (p,15,c)):Wu ow' s' p c l:=by
 obtain⟨u,g1,g2,g3,g4⟩:=h
 have hn:=k.next
 exact⟨u,g1.keep (k.heap c g3 (by rw[g2];exact h1)),by rw[k.tags c g3 (by rw[g2];exact h1)];exact g2,by omega,g4.step k h2⟩
theorem pC.step{m:Bt→Prop}{ow ow':Ow}{s s':AE}{p:Nat}{v:AV}{ws:List (List Nat)}(h:pC ow s p v ws)(k:AM m ow s ow' s')(h1:¬ m (p,1,0))(h2:∀j,¬ m (p,2,j)):pC ow' s' p v ws:=by
 obtain⟨us,g1,g2,g3⟩:=h
 exact⟨us,g1,g2.step k h1,fun j L hj=>let ⟨u,q1,q2⟩:=g3 j L hj;⟨u,q1,q2.step k (h2 j)⟩⟩
theorem N4.step{m:Bt→Prop}{ow ow':Ow}{s s':AE}{p:Nat}{v:AV}{T:Aa}(h:N4 ow s p v T)(k:AM m ow s ow' s')(h1:¬ m (p,12,0))(h2:¬ m (p,13,0)):N4 ow' s' p v T:=by
 obtain⟨us,O,g1,g2,g3,g4,g5⟩:=h
 have hn:=k.next
 refine⟨us,O,g1.frame k.next fun j hj=>k.heap j (g3 j hj).2 (by rw[(g3 j hj).1];exact h1),fun j hj=>by rw[k.tags j (g1.lt j hj) (by rw[g2 j hj];exact h1)];exact g2 j hj,fun j hj=>?_,(g4.mono hn).keep fun u hu j hj=>k.heap j (g5 u hu j hj).2 (by rw[(g5 u hu j hj).1];exact h2),fun u hu j hj=>?_⟩
 ·obtain⟨q1,q2⟩:=g3 j hj
  exact⟨by rw[k.tags j q2 (by rw[q1];exact h1)];exact q1,by omega⟩
 ·obtain⟨q1,q2⟩:=g5 u hu j hj
  exact⟨by rw[k.tags j q2 (by rw[q1];exact h2)];exact q1,by omega⟩
theorem DT.step{m:Bt→Prop}{ow ow':Ow}{s s':AE}{i:Nat}{cs:List AV}{T:Bt}(h:DT s i cs)(k:AM m ow s ow' s')(ht:ow i=T)(hl:i<s.next)(hm:¬ m T):DT s' i cs:=h.keep (k.heap i hl (by rw[ht];exact hm))
theorem Cf{p a b i j:Nat}(h:a≠b):¬ ((p,a,i):Bt)=(p,b,j):=fun e=>by
 injection e with _ e
 injection e with e _
 exact h e
theorem Av.keep{m:Bt→Prop}{ow ow':Ow}{s s':AE}{p:Nat}{x:Sf}{v:Sv}(h:Av ow s p x v)(k:AM m ow s ow' s')(hm':∀t,m t→t.1≠p):Av ow' s' p x v:=by
 have hm:∀a i,¬ m (p,a,i):=fun a i q=>hm' _ q rfl
 have hn:=k.next
 have hl:=h.lt
 exact { box:=h.box.step k h.tag h.lt (hm 0 0),tag:=by rw[k.tags p h.lt (by rw[h.tag];exact hm 0 0)];exact h.tag,lt:=by omega,w:=h.w.step k (hm 1 0) (fun j=>hm 2 j),learned:=h.learned.step k (hm 3 0),value:=h.value.step k (hm 4 0),level:=h.level.step k (hm 5 0),why:=h.why.step k (hm 6 0),heat:=h.heat.step k (hm 7 0),phase:=h.phase.step k (hm 8 0),trail:=h.trail.step k (hm 9 0),limits:=h.limits.step k (hm 10 0),model:=h.model.step k (hm 11 0),trace:=h.trace.step k (hm 12 0) (hm 13 0),cls:=fun c l hc=>(h.cls c l hc).step k (hm 14 c) (hm 15 c) }
theorem Av.put_value{ow:Ow}{s:AE}{p:Nat}{x:Sf}{v:Sv}(h:Av ow s p x v){k:Nat}(hk:k<v.value.length)(y:Int):
  ∃s',AP Try.prog s 3 (BE x.val k) (iv y)=some s'∧Av ow s' p x { v with value:=v.value.set k y }∧AM (B6 p) ow s ow s'∧s'.next=s.next:=by
 obtain⟨s',g1,g2,g3,g4⟩:=h.value.set (t:=3) Br (k:=k) (x:=iv y) (by rw[qi];exact hk) rfl rfl
 have hm:∀a i,a≠4→¬ ((p,a,i):Bt)=(p,4,0):=fun a i ha=>Cf ha
 have hl:=h.lt
 refine⟨s',g1,{ box:=h.box.step g3 h.tag h.lt (hm 0 0 (by decide)),tag:=h.tag,lt:=by omega,w:=h.w.step g3 (hm 1 0 (by decide)) (fun j=>hm 2 j (by decide)),learned:=h.learned.step g3 (hm 3 0 (by decide)),value:=by show Bb ow (p,4,0) s' x.val (List.map _ (List.set v.value k y));rw[sA];exact g2,level:=h.level.step g3 (hm 5 0 (by decide)),why:=h.why.step g3 (hm 6 0 (by decide)),heat:=h.heat.step g3 (hm 7 0 (by decide)),phase:=h.phase.step g3 (hm 8 0 (by decide)),trail:=h.trail.step g3 (hm 9 0 (by decide)),limits:=h.limits.step g3 (hm 10 0 (by decide)),model:=h.model.step g3 (hm 11 0 (by decide)),trace:=h.trace.step g3 (hm 12 0 (by decide)) (hm 13 0 (by decide)),cls:=fun c l hc=>(h.cls c l hc).step g3 (hm 14 c (by decide)) (hm 15 c (by decide)) },g3.mono fun t ht=>by rw[ht];exact⟨rfl,by simp,by simp,by simp⟩,g4⟩
theorem Av.put_level{ow:Ow}{s:AE}{p:Nat}{x:Sf}{v:Sv}(h:Av ow s p x v){k:Nat}(hk:k<v.level.length)(y:Int):
  ∃s',AP Try.prog s 3 (BE x.lev k) (iv y)=some s'∧Av ow s' p x { v with level:=v.level.set k y }∧AM (B6 p) ow s ow s'∧s'.next=s.next:=by
 obtain⟨s',g1,g2,g3,g4⟩:=h.level.set (t:=3) Br (k:=k) (x:=iv y) (by rw[qi];exact hk) rfl rfl
 have hm:∀a i,a≠5→¬ ((p,a,i):Bt)=(p,5,0):=fun a i ha=>Cf ha
 have hl:=h.lt
 refine⟨s',g1,{ box:=h.box.step g3 h.tag h.lt (hm 0 0 (by decide)),tag:=h.tag,lt:=by omega,w:=h.w.step g3 (hm 1 0 (by decide)) (fun j=>hm 2 j (by decide)),learned:=h.learned.step g3 (hm 3 0 (by decide)),value:=h.value.step g3 (hm 4 0 (by decide)),level:=by show Bb ow (p,5,0) s' x.lev (List.map _ (List.set v.level k y));rw[sA];exact g2,why:=h.why.step g3 (hm 6 0 (by decide)),heat:=h.heat.step g3 (hm 7 0 (by decide)),phase:=h.phase.step g3 (hm 8 0 (by decide)),trail:=h.trail.step g3 (hm 9 0 (by decide)),limits:=h.limits.step g3 (hm 10 0 (by decide)),model:=h.model.step g3 (hm 11 0 (by decide)),trace:=h.trace.step g3 (hm 12 0 (by decide)) (hm 13 0 (by decide)),cls:=fun c l hc=>(h.cls c l hc).step g3 (hm 14 c (by decide)) (hm 15 c (by decide)) },g3.mono fun t ht=>by rw[ht];exact⟨rfl,by simp,by simp,by simp⟩,g4⟩
theorem Av.put_why{ow:Ow}{s:AE}{p:Nat}{x:Sf}{v:Sv}(h:Av ow s p x v){k:Nat}(hk:k<v.why.length)(y:Option Nat):
  ∃s',AP Try.prog s 92 (BE x.why k) (JZ y)=some s'∧Av ow s' p x { v with why:=v.why.set k y }∧AM (B6 p) ow s ow s'∧s'.next=s.next:=by
 obtain⟨s',g1,g2,g3,g4⟩:=h.why.set (t:=92) HU (k:=k) (x:=JZ y) (by rw[qi];exact hk) (by cases y<;>rfl) (by cases y<;>rfl)
 have hm:∀a i,a≠6→¬ ((p,a,i):Bt)=(p,6,0):=fun a i ha=>Cf ha
 have hl:=h.lt
 refine⟨s',g1,{ box:=h.box.step g3 h.tag h.lt (hm 0 0 (by decide)),tag:=h.tag,lt:=by omega,w:=h.w.step g3 (hm 1 0 (by decide)) (fun j=>hm 2 j (by decide)),learned:=h.learned.step g3 (hm 3 0 (by decide)),value:=h.value.step g3 (hm 4 0 (by decide)),level:=h.level.step g3 (hm 5 0 (by decide)),why:=by show Bb ow (p,6,0) s' x.why (List.map _ (List.set v.why k y));rw[sA];exact g2,heat:=h.heat.step g3 (hm 7 0 (by decide)),phase:=h.phase.step g3 (hm 8 0 (by decide)),trail:=h.trail.step g3 (hm 9 0 (by decide)),limits:=h.limits.step g3 (hm 10 0 (by decide)),model:=h.model.step g3 (hm 11 0 (by decide)),trace:=h.trace.step g3 (hm 12 0 (by decide)) (hm 13 0 (by decide)),cls:=fun c l hc=>(h.cls c l hc).step g3 (hm 14 c (by decide)) (hm 15 c (by decide)) },g3.mono fun t ht=>by rw[ht];exact⟨rfl,by simp,by simp,by simp⟩,g4⟩
theorem Av.put_heat{ow:Ow}{s:AE}{p:Nat}{x:Sf}{v:Sv}(h:Av ow s p x v){k:Nat}(hk:k<v.heat.length)(y:Int):
  ∃s',AP Try.prog s 3 (BE x.heat k) (iv y)=some s'∧Av ow s' p x { v with heat:=v.heat.set k y }∧AM (B6 p) ow s ow s'∧s'.next=s.next:=by
 obtain⟨s',g1,g2,g3,g4⟩:=h.heat.set (t:=3) Br (k:=k) (x:=iv y) (by rw[qi];exact hk) rfl rfl
 have hm:∀a i,a≠7→¬ ((p,a,i):Bt)=(p,7,0):=fun a i ha=>Cf ha
 have hl:=h.lt
 refine⟨s',g1,{ box:=h.box.step g3 h.tag h.lt (hm 0 0 (by decide)),tag:=h.tag,lt:=by omega,w:=h.w.step g3 (hm 1 0 (by decide)) (fun j=>hm 2 j (by decide)),learned:=h.learned.step g3 (hm 3 0 (by decide)),value:=h.value.step g3 (hm 4 0 (by decide)),level:=h.level.step g3 (hm 5 0 (by decide)),why:=h.why.step g3 (hm 6 0 (by decide)),heat:=by show Bb ow (p,7,0) s' x.heat (List.map _ (List.set v.heat k y));rw[sA];exact g2,phase:=h.phase.step g3 (hm 8 0 (by decide)),trail:=h.trail.step g3 (hm 9 0 (by decide)),limits:=h.limits.step g3 (hm 10 0 (by decide)),model:=h.model.step g3 (hm 11 0 (by decide)),trace:=h.trace.step g3 (hm 12 0 (by decide)) (hm 13 0 (by decide)),cls:=fun c l hc=>(h.cls c l hc).step g3 (hm 14 c (by decide)) (hm 15 c (by decide)) },g3.mono fun t ht=>by rw[ht];exact⟨rfl,by simp,by simp,by simp⟩,g4⟩
theorem Av.put_phase{ow:Ow}{s:AE}{p:Nat}{x:Sf}{v:Sv}(h:Av ow s p x v){k:Nat}(hk:k<v.phase.length)(y:Int):
  ∃s',AP Try.prog s 3 (BE x.ph k) (iv y)=some s'∧Av ow s' p x { v with phase:=v.phase.set k y }∧AM (B6 p) ow s ow s'∧s'.next=s.next:=by
 obtain⟨s',g1,g2,g3,g4⟩:=h.phase.set (t:=3) Br (k:=k) (x:=iv y) (by rw[qi];exact hk) rfl rfl
 have hm:∀a i,a≠8→¬ ((p,a,i):Bt)=(p,8,0):=fun a i ha=>Cf ha
 have hl:=h.lt
 refine⟨s',g1,{ box:=h.box.step g3 h.tag h.lt (hm 0 0 (by decide)),tag:=h.tag,lt:=by omega,w:=h.w.step g3 (hm 1 0 (by decide)) (fun j=>hm 2 j (by decide)),learned:=h.learned.step g3 (hm 3 0 (by decide)),value:=h.value.step g3 (hm 4 0 (by decide)),level:=h.level.step g3 (hm 5 0 (by decide)),why:=h.why.step g3 (hm 6 0 (by decide)),heat:=h.heat.step g3 (hm 7 0 (by decide)),phase:=by show Bb ow (p,8,0) s' x.ph (List.map _ (List.set v.phase k y));rw[sA];exact g2,trail:=h.trail.step g3 (hm 9 0 (by decide)),limits:=h.limits.step g3 (hm 10 0 (by decide)),model:=h.model.step g3 (hm 11 0 (by decide)),trace:=h.trace.step g3 (hm 12 0 (by decide)) (hm 13 0 (by decide)),cls:=fun c l hc=>(h.cls c l hc).step g3 (hm 14 c (by decide)) (hm 15 c (by decide)) },g3.mono fun t ht=>by rw[ht];exact⟨rfl,by simp,by simp,by simp⟩,g4⟩
theorem Av.set_head{ow:Ow}{s:AE}{p:Nat}{x:Sf}{v:Sv}(h:Av ow s p x v)(y:Int):
  ∃s',AP Try.prog s 3 (.ptr (some (p,9))) (iv y)=some s'∧Av ow s' p x { v with head:=y }∧AM (B6 p) ow s ow s'∧s'.next=s.next:=by
 obtain⟨s',g1,g2,g3,g4⟩:=h.box.store (k:=9) (d:=iv y) (by simp) (t:=3) Br rfl rfl
 have st:AM (· = (p,0,0)) ow s ow s':=⟨by omega,fun _ _ _=>rfl,fun y _ hm=>g4 y fun e=>hm (by rw[e];exact h.tag)⟩
 have hm:∀a i,a≠0→¬ ((p,a,i):Bt)=(p,0,0):=fun a i ha=>Cf ha
 have hl:=h.lt
 refine⟨s',g1,{ box:=g2,tag:=h.tag,lt:=by omega,w:=h.w.step st (hm 1 0 (by decide)) (fun j=>hm 2 j (by decide)),learned:=h.learned.step st (hm 3 0 (by decide)),value:=h.value.step st (hm 4 0 (by decide)),level:=h.level.step st (hm 5 0 (by decide)),why:=h.why.step st (hm 6 0 (by decide)),heat:=h.heat.step st (hm 7 0 (by decide)),phase:=h.phase.step st (hm 8 0 (by decide)),trail:=h.trail.step st (hm 9 0 (by decide)),limits:=h.limits.step st (hm 10 0 (by decide)),model:=h.model.step st (hm 11 0 (by decide)),trace:=h.trace.step st (hm 12 0 (by decide)) (hm 13 0 (by decide)),cls:=fun c l hc=>(h.cls c l hc).step st (hm 14 c (by decide)) (hm 15 c (by decide)) },st.mono fun t ht=>by rw[ht];exact⟨rfl,by simp,by simp,by simp⟩,g3⟩
theorem Av.set_many{ow:Ow}{s:AE}{p:Nat}{x:Sf}{v:Sv}(h:Av ow s p x v)(y:Int):
  ∃s',AP Try.prog s 3 (.ptr (some (p,13))) (iv y)=some s'∧Av ow s' p x { v with many:=y }∧AM (B6 p) ow s ow s'∧s'.next=s.next:=by
 obtain⟨s',g1,g2,g3,g4⟩:=h.box.store (k:=13) (d:=iv y) (by simp) (t:=3) Br rfl rfl
 have st:AM (· = (p,0,0)) ow s ow s':=⟨by omega,fun _ _ _=>rfl,fun y _ hm=>g4 y fun e=>hm (by rw[e];exact h.tag)⟩
 have hm:∀a i,a≠0→¬ ((p,a,i):Bt)=(p,0,0):=fun a i ha=>Cf ha
 have hl:=h.lt
 refine⟨s',g1,{ box:=g2,tag:=h.tag,lt:=by omega,w:=h.w.step st (hm 1 0 (by decide)) (fun j=>hm 2 j (by decide)),learned:=h.learned.step st (hm 3 0 (by decide)),value:=h.value.step st (hm 4 0 (by decide)),level:=h.level.step st (hm 5 0 (by decide)),why:=h.why.step st (hm 6 0 (by decide)),heat:=h.heat.step st (hm 7 0 (by decide)),phase:=h.phase.step st (hm 8 0 (by decide)),trail:=h.trail.step st (hm 9 0 (by decide)),limits:=h.limits.step st (hm 10 0 (by decide)),model:=h.model.step st (hm 11 0 (by decide)),trace:=h.trace.step st (hm 12 0 (by decide)) (hm 13 0 (by decide)),cls:=fun c l hc=>(h.cls c l hc).step st (hm 14 c (by decide)) (hm 15 c (by decide)) },st.mono fun t ht=>by rw[ht];exact⟨rfl,by simp,by simp,by simp⟩,g3⟩
theorem Av.set_trail{ow:Ow}{s:AE}{p:Nat}{x:Sf}{v:Sv}(h:Av ow s p x v){u:AV}{y:List Int}(hu:Bb ow (p,9,0) s u (A3 y)):
  ∃s',AP Try.prog s 23 (.ptr (some (p,7))) u=some s'∧Av ow s' p { x with tr:=u } { v with trail:=y }∧AM (B6 p) ow s ow s'∧s'.next=s.next:=by
 obtain⟨s',g1,g2,g3,g4⟩:=h.box.store (k:=7) (d:=u) (by simp) (t:=23) Ba hu.isCell.1 hu.isCell.2
 have st:AM (· = (p,0,0)) ow s ow s':=⟨by omega,fun _ _ _=>rfl,fun y _ hm=>g4 y fun e=>hm (by rw[e];exact h.tag)⟩
 have hm:∀a i,a≠0→¬ ((p,a,i):Bt)=(p,0,0):=fun a i ha=>Cf ha
 have hl:=h.lt
 refine⟨s',g1,{ box:=g2,tag:=h.tag,lt:=by omega,w:=h.w.step st (hm 1 0 (by decide)) (fun j=>hm 2 j (by decide)),learned:=h.learned.step st (hm 3 0 (by decide)),value:=h.value.step st (hm 4 0 (by decide)),level:=h.level.step st (hm 5 0 (by decide)),why:=h.why.step st (hm 6 0 (by decide)),heat:=h.heat.step st (hm 7 0 (by decide)),phase:=h.phase.step st (hm 8 0 (by decide)),trail:=hu.step st (hm 9 0 (by decide)),limits:=h.limits.step st (hm 10 0 (by decide)),model:=h.model.step st (hm 11 0 (by decide)),trace:=h.trace.step st (hm 12 0 (by decide)) (hm 13 0 (by decide)),cls:=fun c l hc=>(h.cls c l hc).step st (hm 14 c (by decide)) (hm 15 c (by decide)) },st.mono fun t ht=>by rw[ht];exact⟨rfl,by simp,by simp,by simp⟩,g3⟩
theorem Av.set_limits{ow:Ow}{s:AE}{p:Nat}{x:Sf}{v:Sv}(h:Av ow s p x v){u:AV}{y:List Int}(hu:Bb ow (p,10,0) s u (A3 y)):
  ∃s',AP Try.prog s 23 (.ptr (some (p,8))) u=some s'∧Av ow s' p { x with lim:=u } { v with limits:=y }∧AM (B6 p) ow s ow s'∧s'.next=s.next:=by
 obtain⟨s',g1,g2,g3,g4⟩:=h.box.store (k:=8) (d:=u) (by simp) (t:=23) Ba hu.isCell.1 hu.isCell.2
 have st:AM (· = (p,0,0)) ow s ow s':=⟨by omega,fun _ _ _=>rfl,fun y _ hm=>g4 y fun e=>hm (by rw[e];exact h.tag)⟩
 have hm:∀a i,a≠0→¬ ((p,a,i):Bt)=(p,0,0):=fun a i ha=>Cf ha
 have hl:=h.lt
 refine⟨s',g1,{ box:=g2,tag:=h.tag,lt:=by omega,w:=h.w.step st (hm 1 0 (by decide)) (fun j=>hm 2 j (by decide)),learned:=h.learned.step st (hm 3 0 (by decide)),value:=h.value.step st (hm 4 0 (by decide)),level:=h.level.step st (hm 5 0 (by decide)),why:=h.why.step st (hm 6 0 (by decide)),heat:=h.heat.step st (hm 7 0 (by decide)),phase:=h.phase.step st (hm 8 0 (by decide)),trail:=h.trail.step st (hm 9 0 (by decide)),limits:=hu.step st (hm 10 0 (by decide)),model:=h.model.step st (hm 11 0 (by decide)),trace:=h.trace.step st (hm 12 0 (by decide)) (hm 13 0 (by decide)),cls:=fun c l hc=>(h.cls c l hc).step st (hm 14 c (by decide)) (hm 15 c (by decide)) },st.mono fun t ht=>by rw[ht];exact⟨rfl,by simp,by simp,by simp⟩,g3⟩
theorem Av.set_model{ow:Ow}{s:AE}{p:Nat}{x:Sf}{v:Sv}(h:Av ow s p x v){u:AV}{y:List Int}(hu:Bb ow (p,11,0) s u (A3 y)):
  ∃s',AP Try.prog s 23 (.ptr (some (p,11))) u=some s'∧Av ow s' p { x with mo:=u } { v with model:=y }∧AM (B6 p) ow s ow s'∧s'.next=s.next:=by
 obtain⟨s',g1,g2,g3,g4⟩:=h.box.store (k:=11) (d:=u) (by simp) (t:=23) Ba hu.isCell.1 hu.isCell.2
 have st:AM (· = (p,0,0)) ow s ow s':=⟨by omega,fun _ _ _=>rfl,fun y _ hm=>g4 y fun e=>hm (by rw[e];exact h.tag)⟩
 have hm:∀a i,a≠0→¬ ((p,a,i):Bt)=(p,0,0):=fun a i ha=>Cf ha
 have hl:=h.lt
 refine⟨s',g1,{ box:=g2,tag:=h.tag,lt:=by omega,w:=h.w.step st (hm 1 0 (by decide)) (fun j=>hm 2 j (by decide)),learned:=h.learned.step st (hm 3 0 (by decide)),value:=h.value.step st (hm 4 0 (by decide)),level:=h.level.step st (hm 5 0 (by decide)),why:=h.why.step st (hm 6 0 (by decide)),heat:=h.heat.step st (hm 7 0 (by decide)),phase:=h.phase.step st (hm 8 0 (by decide)),trail:=h.trail.step st (hm 9 0 (by decide)),limits:=h.limits.step st (hm 10 0 (by decide)),model:=hu.step st (hm 11 0 (by decide)),trace:=h.trace.step st (hm 12 0 (by decide)) (hm 13 0 (by decide)),cls:=fun c l hc=>(h.cls c l hc).step st (hm 14 c (by decide)) (hm 15 c (by decide)) },st.mono fun t ht=>by rw[ht];exact⟨rfl,by simp,by simp,by simp⟩,g3⟩
end
end Go.Proofs.Ytilhhmkdcoajnaa.Am
