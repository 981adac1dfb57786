/- The compiled code of the laws of layer 19 and of their reference, printed by a program of ours (dev/Print.lean) and checked by the kernel; conditions: none. -/
import Derived.Test.YtilhhmkdcoajnaaAmSatCode
set_option linter.unusedVariables false
set_option linter.unusedSimpArgs false
namespace Go.Proofs.Ytilhhmkdcoajnaa.Am
open Go Go.Proofs
noncomputable section
def md:List AA:=[
  ⟨none,.p1 some,[(.const (.bool false))],(.set 3),[]⟩]
def me:List AA:=[
  ⟨none,.call 37,[],.push,[]⟩,
  ⟨none,.p1 (unA Try.prog Go.UnOp.not),[.loc 0],(.set 16),[]⟩]
def mf:List AA:=[
  ⟨none,.p1 some,[(.const (.bool false))],(.set 3),[]⟩]
def mg:List AA:=[
  ⟨none,.p2 (AI Try.prog .rem 5),[(.var 0),(.const (.int .u8 (6)))],.push,[]⟩,
  ⟨none,.r1 (fun s x=>Cj Try.prog s 5 3 x),[.loc 0],.push,[]⟩,
  ⟨none,.p2 (AI Try.prog .add 3),[(.const (.int .i64 (1))),(.loc 0)],.push,[]⟩,
  ⟨none,.p1 some,[.loc 0],(.set 4),[]⟩]
def mh:List AA:=[
  ⟨none,.call 31,[(.var 4),(.var 1),(.const (.int .i64 (40)))],.push,[]⟩,
  ⟨none,.p1 some,[.loc 0],(.set 5),[]⟩]
def mi:List AA:=[
  ⟨none,.call 32,[.var 4,.var 5],.push,[]⟩,
  ⟨none,.call 40,[.var 4],.push,[]⟩,
  ⟨none,.p1 some,[.loc 1],(.set 6),[]⟩,
  ⟨none,.p1 some,[.loc 0],(.set 7),[]⟩]
def mj:List AA:=[
  ⟨none,.p2 (AI Try.prog .eql 44),[(.var 6),(.const (.ptr none))],(.set 17),[]⟩]
def ml:List AA:=[
  ⟨none,.p1 some,[(.const (.bool false))],(.set 3),[]⟩]
def mm:List AA:=[
  ⟨none,.mk (fun l=>(Ad Try.prog 22 0 (zipIdx [] l)).bind fun r=>some (r,.slice 0)),[],.push,[]⟩,
  ⟨none,.e (fun s l=>AY Try.prog s [22,22] l),[.loc 0,.var 5],.push,[]⟩,
  ⟨none,.p1 some,[.loc 0],(.set 8),[]⟩]
def mn:List AA:=[
  ⟨none,.p1 some,[(.const (.int .i64 (0)))],(.set 9),[]⟩]
def jf:List AA:=[
  ⟨none,.r (fun s l=>match l with | [x]=>Ao Try.prog s 22 x | _=>none),[.var 8],.push,[]⟩,
  ⟨none,.p2 (AI Try.prog .lss 3),[.var 9,.loc 0],.push,[]⟩,
  ⟨(some ((.loc 0),true)),.p1 some,[.var 2],.push,[]⟩,
  ⟨(some ((.loc 1),true)),.r (fun s l=>match l with | [x]=>Ao Try.prog s 42 x | _=>none),[.loc 0],.push,[]⟩,
  ⟨(some ((.loc 2),true)),.p2 (AI Try.prog .gtr 3),[(.loc 0),(.const (.int .i64 (0)))],.push,[]⟩,
  ⟨none,.p Rn,[(.loc 3),(.loc 0),(.const (.bool false))],(.set 18),[]⟩]
def jg:List AA:=[
  ⟨none,.r (fun s l=>match l with | [x]=>Ao Try.prog s 42 x | _=>none),[.var 2],.push,[]⟩,
  ⟨none,.p2 (AI Try.prog .rem 3),[.var 9,.loc 0],.push,[]⟩,
  ⟨none,.p2 (AC Try.prog 42),[.var 2,.loc 0],.push,[]⟩,
  ⟨none,.r1 (fun s a=>AD Try.prog s 5 a),[.loc 0],.push,[]⟩,
  ⟨none,.r1 (fun s x=>Cj Try.prog s 5 3 x),[.loc 0],.push,[]⟩,
  ⟨none,.r (fun s l=>match l with | [x]=>Ao Try.prog s 22 x | _=>none),[.var 8],.push,[]⟩,
  ⟨none,.p2 (AI Try.prog .rem 3),[.loc 1,.loc 0],.push,[]⟩,
  ⟨none,.p1 some,[.loc 0],(.set 10),[]⟩]
def jh:List AA:=[
  ⟨none,.p2 (AC Try.prog 22),[.var 8,.var 10],.push,[]⟩,
  ⟨none,.r1 (fun s a=>AD Try.prog s 23 a),[.loc 0],.push,[]⟩,
  ⟨none,.p2 (AC Try.prog 22),[.var 8,.var 9],.push,[]⟩,
  ⟨none,.r1 (fun s a=>AD Try.prog s 23 a),[.loc 0],.push,[]⟩,
  ⟨none,.p2 (AC Try.prog 22),[.var 8,.var 9],.push,[]⟩,
  ⟨none,.e (fun s=>on2 (fun a x=>AT (AN Try.prog s 23 a x))),[.loc 0,.loc 3],.push,[]⟩,
  ⟨none,.p2 (AC Try.prog 22),[.var 8,.var 10],.push,[]⟩,
  ⟨none,.e (fun s=>on2 (fun a x=>AT (AN Try.prog s 23 a x))),[.loc 0,.loc 3],.push,[]⟩]
def ji:List AA:=[
  ⟨none,.p1 some,[.var 9],.push,[]⟩,
  ⟨none,.p2 (AI Try.prog .add 3),[(.loc 0),(.const (.int .i64 (1)))],.push,[]⟩,
  ⟨none,.p1 some,[.loc 0],(.set 9),[]⟩]
def jb:AX:=(.seq (.seq (.ops jf) (.cond (.var 18)
  .skip
  (.exit 0))) (.seq (.block 1 (.seq (.ops jg) (.ops jh))) (.ops ji)))
def jj:List AA:=[
  ⟨none,.p1 some,[(.const (.int .i64 (0)))],(.set 11),[]⟩]
def jk:List AA:=[
  ⟨none,.r (fun s l=>match l with | [x]=>Ao Try.prog s 22 x | _=>none),[.var 8],.push,[]⟩,
  ⟨none,.p2 (AI Try.prog .lss 3),[.var 11,.loc 0],(.set 19),[]⟩]
def jl:List AA:=[
  ⟨none,.p1 some,[(.const (.slice none 0 (some 0)))],(.set 12),[]⟩]
def jm:List AA:=[
  ⟨none,.p2 (AC Try.prog 22),[.var 8,.var 11],.push,[]⟩,
  ⟨none,.r1 (fun s a=>AD Try.prog s 23 a),[.loc 0],.push,[]⟩,
  ⟨none,.r (fun s l=>match l with | [x]=>Ao Try.prog s 23 x | _=>none),[.loc 0],.push,[]⟩,
  ⟨none,.p2 (AI Try.prog .sub 3),[(.loc 0),(.const (.int .i64 (1)))],.push,[]⟩,
  ⟨none,.p1 some,[.loc 0],(.set 13),[]⟩]
def jn:List AA:=[
  ⟨none,.p2 (AI Try.prog .geq 3),[(.var 13),(.const (.int .i64 (0)))],(.set 20),[]⟩]
def jo:List AA:=[
  ⟨none,.p1 some,[.var 12],.push,[]⟩,
  ⟨none,.p2 (AC Try.prog 22),[.var 8,.var 11],.push,[]⟩,
  ⟨none,.r1 (fun s a=>AD Try.prog s 23 a),[.loc 0],.push,[]⟩,
  ⟨none,.p2 (AC Try.prog 23),[.loc 0,.var 13],.push,[]⟩,
  ⟨none,.r1 (fun s a=>AD Try.prog s 3 a),[.loc 0],.push,[]⟩,
  ⟨none,.mk (fun l=>(Ad Try.prog 23 1 (zipIdx [0] l)).bind fun r=>some (r,.slice 1)),[.loc 0],.push,[]⟩,
  ⟨none,.e (fun s l=>AY Try.prog s [23,23] l),[.loc 5,.loc 0],.push,[]⟩,
  ⟨none,.p1 some,[.loc 0],(.set 12),[]⟩]
def jp:List AA:=[
  ⟨none,.p1 some,[.var 13],.push,[]⟩,
  ⟨none,.p2 (AI Try.prog .sub 3),[(.loc 0),(.const (.int .i64 (1)))],.push,[]⟩,
  ⟨none,.p1 some,[.loc 0],(.set 13),[]⟩]
def jc:AX:=(.seq (.seq (.ops jn) (.cond (.var 20)
  .skip
  (.exit 4))) (.seq (.block 5 (.ops jo)) (.ops jp)))
def jq:List AA:=[
  ⟨none,.p2 (AI Try.prog .rem 3),[(.var 11),(.const (.int .i64 (3)))],.push,[]⟩,
  ⟨none,.p2 (AI Try.prog .eql 3),[(.loc 0),(.const (.int .i64 (0)))],(.set 21),[]⟩]
def js:List AA:=[
  ⟨none,.p1 some,[.var 12],.push,[]⟩,
  ⟨none,.p2 (AC Try.prog 22),[.var 8,.var 11],.push,[]⟩,
  ⟨none,.r1 (fun s a=>AD Try.prog s 23 a),[.loc 0],.push,[]⟩,
  ⟨none,.e (fun s l=>AY Try.prog s [23,23] l),[.loc 2,.loc 0],.push,[]⟩,
  ⟨none,.p1 some,[.loc 0],(.set 12),[]⟩]
def jt:List AA:=[
  ⟨none,.call 36,[.var 7,.var 12],.push,[]⟩]
def ju:List AA:=[
  ⟨none,.mk (fun l=>(Ad Try.prog 23 2 (zipIdx [0,1] l)).bind fun r=>some (r,.slice 2)),[(.const (.int .i64 (1))),(.const (.int .i64 (-1)))],.push,[]⟩,
  ⟨none,.call 36,[.var 7,.loc 0],.push,[]⟩]
def jv:List AA:=[
  ⟨none,.p1 some,[.var 11],.push,[]⟩,
  ⟨none,.p2 (AI Try.prog .add 3),[(.loc 0),(.const (.int .i64 (1)))],.push,[]⟩,
  ⟨none,.p1 some,[.loc 0],(.set 11),[]⟩]
def jd:AX:=(.seq (.seq (.ops jk) (.cond (.var 19)
  .skip
  (.exit 2))) (.seq (.block 3 (.seq (.ops jl) (.seq (.seq (.ops jm) (.block 4 (.loop jc))) (.seq (.seq (.ops jq) (.cond (.var 21)
  (.ops js)
  .skip)) (.seq (.ops jt) (.ops ju)))))) (.ops jv)))
def jw:List AA:=[
  ⟨none,.p1 some,[(.const (.int .i64 (0)))],(.set 14),[]⟩]
def jx:List AA:=[
  ⟨none,.r (fun s l=>match l with | [x]=>Ao Try.prog s 42 x | _=>none),[.var 2],.push,[]⟩,
  ⟨none,.p2 (AI Try.prog .lss 3),[.var 14,.loc 0],.push,[]⟩,
  ⟨(some ((.loc 0),true)),.p1 some,[.var 14],.push,[]⟩,
  ⟨(some ((.loc 1),true)),.p2 (AI Try.prog .lss 3),[(.loc 0),(.const (.int .i64 (20)))],.push,[]⟩,
  ⟨none,.p Rn,[(.loc 2),(.loc 0),(.const (.bool false))],(.set 22),[]⟩]
def jy:List AA:=[
  ⟨none,.p2 (AI Try.prog .sub 3),[(.var 14),(.const (.int .i64 (1)))],.push,[]⟩,
  ⟨none,.p2 (AC Try.prog 42),[.var 2,.var 14],.push,[]⟩,
  ⟨none,.r1 (fun s a=>AD Try.prog s 5 a),[.loc 0],.push,[]⟩,
  ⟨none,.p2 (AI Try.prog .rem 5),[(.loc 0),(.const (.int .u8 (2)))],.push,[]⟩,
  ⟨none,.p2 (AI Try.prog .eql 5),[(.loc 0),(.const (.int .u8 (0)))],.push,[]⟩,
  ⟨none,.call 45,[.var 7,.loc 4,.loc 0],.push,[]⟩]
def jz:List AA:=[
  ⟨none,.p1 some,[.var 14],.push,[]⟩,
  ⟨none,.p2 (AI Try.prog .add 3),[(.loc 0),(.const (.int .i64 (1)))],.push,[]⟩,
  ⟨none,.p1 some,[.loc 0],(.set 14),[]⟩]
def je:AX:=(.seq (.seq (.ops jx) (.cond (.var 22)
  .skip
  (.exit 6))) (.seq (.block 7 (.ops jy)) (.ops jz)))
def j0:List AA:=[
  ⟨none,.call 34,[(.var 6),(.const (.int .i64 (729)))],.push,[]⟩,
  ⟨none,.call 34,[(.var 7),(.const (.int .i64 (729)))],.push,[]⟩,
  ⟨none,.p2 (AI Try.prog .eql 3),[.loc 1,.loc 0],.push,[]⟩,
  ⟨none,.p1 some,[.loc 0],(.set 15),[]⟩]
def j6:List AA:=[
  ⟨none,.p2 (AI Try.prog .add 3),[(.var 4),(.const (.int .i64 (3)))],.push,[]⟩,
  ⟨none,.call 46,[.var 7,.loc 0],.push,[]⟩]
def j7:List AA:=[
  ⟨none,.call 46,[(.var 7),(.const (.int .i64 (1)))],.push,[]⟩]
def j8:List AA:=[
  ⟨(some ((.var 15),true)),.p1 some,[.var 7],.push,[]⟩,
  ⟨(some ((.var 15),true)),.call 47,[.loc 0],.push,[]⟩,
  ⟨(some ((.var 15),true)),.p1 some,[.var 4],.push,[]⟩,
  ⟨(some ((.var 15),true)),.p2 (AI Try.prog .add 3),[(.loc 0),(.const (.int .i64 (3)))],.push,[]⟩,
  ⟨(some ((.var 15),true)),.p2 (AI Try.prog .eql 3),[.loc 2,.loc 0],.push,[]⟩,
  ⟨none,.p Rn,[(.var 15),(.loc 0),(.const (.bool false))],.push,[]⟩,
  ⟨none,.p1 some,[.loc 0],(.set 3),[]⟩]
def c12:Ar:=⟨3,23,(.seq (.ops md) (.seq (.seq (.ops me) (.cond (.var 16)
  (.seq (.ops mf) .ret)
  .skip)) (.seq (.ops mg) (.seq (.ops mh) (.seq (.ops mi) (.seq (.seq (.ops mj) (.cond (.var 17)
  (.seq (.ops ml) .ret)
  .skip)) (.seq (.ops mm) (.seq (.seq (.ops mn) (.block 0 (.loop jb))) (.seq (.seq (.ops jj) (.block 2 (.loop jd))) (.seq (.seq (.ops jw) (.block 6 (.loop je))) (.seq (.ops j0) (.seq (.ops j6) (.seq (.ops j7) (.seq (.ops j8) .ret)))))))))))))),[((.var 3),none)]⟩
def db:List AA:=[
  ⟨none,.p1 some,[(.const (.bool false))],(.set 1),[]⟩]
def dc:List AA:=[
  ⟨none,.call 21,[],.push,[]⟩,
  ⟨none,.p1 (unA Try.prog Go.UnOp.not),[.loc 0],(.set 9),[]⟩]
def mq:List AA:=[
  ⟨none,.p1 some,[(.const (.bool false))],(.set 1),[]⟩]
def de:List AA:=[
  ⟨none,.call 22,[(.var 0),(.const (.int .i64 (6)))],.push,[]⟩,
  ⟨none,.p1 some,[.loc 0],(.set 2),[]⟩]
def df:List AA:=[
  ⟨none,.call 40,[(.const (.int .i64 (6)))],.push,[]⟩,
  ⟨none,.p1 some,[.loc 0],(.set 3),[]⟩]
def dg:List AA:=[
  ⟨none,.p2 (AI Try.prog .eql 44),[(.var 3),(.const (.ptr none))],(.set 10),[]⟩]
def mr:List AA:=[
  ⟨none,.p1 some,[(.const (.bool false))],(.set 1),[]⟩]
def dh:List AA:=[
  ⟨none,.p1 some,[(.const (.int .i64 (0)))],(.set 4),[]⟩]
def W3:List AA:=[
  ⟨none,.r (fun s l=>match l with | [x]=>Ao Try.prog s 22 x | _=>none),[.var 2],.push,[]⟩,
  ⟨none,.p2 (AI Try.prog .lss 3),[.var 4,.loc 0],(.set 11),[]⟩]
def di:List AA:=[
  ⟨none,.p2 (AC Try.prog 22),[.var 2,.var 4],.push,[]⟩,
  ⟨none,.r1 (fun s a=>AD Try.prog s 23 a),[.loc 0],.push,[]⟩,
  ⟨none,.call 36,[.var 3,.loc 0],.push,[]⟩,
  ⟨none,.p2 (AI Try.prog .neq 49),[(.loc 0),(.const (.int .i64 (0)))],(.set 12),[]⟩]
def j9:List AA:=[
  ⟨none,.p1 some,[(.const (.bool false))],(.set 1),[]⟩]
def W1:List AA:=[
  ⟨none,.p1 some,[.var 4],.push,[]⟩,
  ⟨none,.p2 (AI Try.prog .add 3),[(.loc 0),(.const (.int .i64 (1)))],.push,[]⟩,
  ⟨none,.p1 some,[.loc 0],(.set 4),[]⟩]
def Ke:AX:=(.seq (.seq (.ops W3) (.cond (.var 11)
  .skip
  (.exit 0))) (.seq (.block 1 (.seq (.ops di) (.cond (.var 12)
  (.seq (.ops j9) .ret)
  .skip))) (.ops W1)))
def QW:List AA:=[
  ⟨none,.call 34,[(.var 3),(.const (.int .i64 (729)))],.push,[]⟩,
  ⟨none,.p1 some,[.loc 0],(.set 5),[]⟩]
def QX:List AA:=[
  ⟨none,.call 43,[.var 3],.push,[]⟩,
  ⟨none,.p1 some,[.loc 0],(.set 6),[]⟩]
def QY:List AA:=[
  ⟨none,.call 24,[.var 2,.var 6],.push,[]⟩,
  ⟨none,.p1 (fun x=>Rp x 0),[.loc 0],.push,[]⟩,
  ⟨none,.p1 (fun x=>Rp x 1),[.loc 1],.push,[]⟩,
  ⟨none,.p1 some,[.loc 1],(.set 7),[]⟩,
  ⟨none,.p1 some,[.loc 0],(.set 8),[]⟩]
def NW:List AA:=[
  ⟨none,.p2 (AI Try.prog .eql 3),[(.var 5),(.const (.int .i64 (0)))],.push,[]⟩,
  ⟨none,.p2 (AI Try.prog .neq 4),[.var 8,.loc 0],.push,[]⟩,
  ⟨(some ((.loc 0),false)),.p1 some,[.var 8],.push,[]⟩,
  ⟨(some ((.loc 1),false)),.p1 some,[.var 2],.push,[]⟩,
  ⟨(some ((.loc 2),false)),.call 30,[.loc 0],.push,[]⟩,
  ⟨(some ((.loc 3),false)),.p2 (AI Try.prog .eql 3),[(.loc 0),(.const (.int .i64 (0)))],.push,[]⟩,
  ⟨(some ((.loc 4),false)),.p2 (AI Try.prog .neq 4),[.loc 3,.loc 0],.push,[]⟩,
  ⟨none,.p Rn,[(.loc 5),(.const (.bool true)),(.loc 0)],(.set 13),[]⟩]
def W2:List AA:=[
  ⟨none,.p1 some,[(.const (.bool false))],(.set 1),[]⟩]
def NX:List AA:=[
  ⟨(some ((.var 8),false)),.p1 some,[.var 7],.push,[]⟩,
  ⟨(some ((.var 8),false)),.p1 some,[.var 6],.push,[]⟩,
  ⟨(some ((.var 8),false)),.r (fun s l=>match l with | [x]=>Ao Try.prog s 33 x | _=>none),[.loc 0],.push,[]⟩,
  ⟨(some ((.var 8),false)),.p2 (AI Try.prog .eql 3),[.loc 2,.loc 0],.push,[]⟩,
  ⟨none,.p Rn,[(.var 8),(.const (.bool true)),(.loc 0)],.push,[]⟩,
  ⟨none,.p1 some,[.loc 0],(.set 1),[]⟩]
def c15:Ar:=⟨1,14,(.seq (.ops db) (.seq (.seq (.ops dc) (.cond (.var 9)
  (.seq (.ops mq) .ret)
  .skip)) (.seq (.ops de) (.seq (.ops df) (.seq (.seq (.ops dg) (.cond (.var 10)
  (.seq (.ops mr) .ret)
  .skip)) (.seq (.seq (.ops dh) (.block 0 (.loop Ke))) (.seq (.ops QW) (.seq (.ops QX) (.seq (.ops QY) (.seq (.seq (.ops NW) (.cond (.var 13)
  (.seq (.ops W2) .ret)
  .skip)) (.seq (.ops NX) .ret))))))))))),[((.var 1),none)]⟩
theorem kG:AQ Try.prog 15=some c15:=by kernel_rfl
end
end Go.Proofs.Ytilhhmkdcoajnaa.Am
