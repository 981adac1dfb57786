/- Compiled code of the statements' own Go, and of litmusref14, printed by a program of ours (dev/Print2.lean) and checked by the kernel; conditions: none. -/
import Derived.Test.YtickdehehcmfbaaGreatDoorAmM06
set_option linter.unusedVariables false
set_option linter.unusedSimpArgs false
set_option maxRecDepth 100000
namespace Go.Proofs.YtickdehehcmfbaaGreatDoor.Am
open Go Go.Proofs
noncomputable section
theorem Ca(i o:Nat):AB Tryz.prog 80 (.ptr (some (i,o))) 0=some (.ptr (some (i,o+0))):=by kernel_rfl
theorem Iv:Ap Tryz.prog 122=some 10:=by kernel_rfl
theorem Yp:CC Tryz.prog 122=some 144:=by kernel_rfl
theorem NP:C0 Tryz.prog 122=some true:=by kernel_rfl
theorem WS:Bt Tryz.prog 122=some (.agg [(.int .i64 (0)),(.int .i64 (0)),(.int .i64 (0)),(.bool false),(.str []),(.str []),(.slice none 0 (some 0)),(.slice none 0 (some 0)),(.int .i64 (0)),(.slice none 0 (some 0))]):=by kernel_rfl
theorem KJ(i o:Nat):AB Tryz.prog 122 (.ptr (some (i,o))) 0=some (.ptr (some (i,o+0))):=by kernel_rfl
theorem No(i o:Nat):AB Tryz.prog 122 (.ptr (some (i,o))) 1=some (.ptr (some (i,o+1))):=by kernel_rfl
theorem Tb(i o:Nat):AB Tryz.prog 122 (.ptr (some (i,o))) 2=some (.ptr (some (i,o+2))):=by kernel_rfl
theorem Dh(i o:Nat):AB Tryz.prog 122 (.ptr (some (i,o))) 3=some (.ptr (some (i,o+9))):=by kernel_rfl
theorem Zk:Ap Tryz.prog 78=some 1:=by kernel_rfl
theorem Gd:C0 Tryz.prog 78=some false:=by kernel_rfl
theorem Zl:Ap Tryz.prog 82=some 4:=by kernel_rfl
theorem Zu:C0 Tryz.prog 82=some true:=by kernel_rfl
theorem El(i o:Nat):AB Tryz.prog 82 (.ptr (some (i,o))) 0=some (.ptr (some (i,o+0))):=by kernel_rfl
theorem DL(i o:Nat):AB Tryz.prog 82 (.ptr (some (i,o))) 1=some (.ptr (some (i,o+1))):=by kernel_rfl
theorem X0(i o:Nat):AB Tryz.prog 82 (.ptr (some (i,o))) 2=some (.ptr (some (i,o+2))):=by kernel_rfl
theorem X1(i o:Nat):AB Tryz.prog 82 (.ptr (some (i,o))) 3=some (.ptr (some (i,o+3))):=by kernel_rfl
theorem FQ:Ap Tryz.prog 46=some 12:=by kernel_rfl
theorem Zx:CC Tryz.prog 46=some 144:=by kernel_rfl
theorem F5:C0 Tryz.prog 46=some true:=by kernel_rfl
theorem Zo:Bt Tryz.prog 46=some (.agg [(.int .i64 (0)),(.int .i64 (0)),(.int .i64 (0)),(.bool false),(.str []),(.str []),(.slice none 0 (some 0)),(.slice none 0 (some 0)),(.int .i64 (0)),(.int .i64 (0)),(.int .i64 (0)),(.int .i64 (0))]):=by kernel_rfl
theorem BZ(i o:Nat):AB Tryz.prog 46 (.ptr (some (i,o))) 0=some (.ptr (some (i,o+0))):=by kernel_rfl
theorem B0(i o:Nat):AB Tryz.prog 46 (.ptr (some (i,o))) 1=some (.ptr (some (i,o+1))):=by kernel_rfl
theorem RN(i o:Nat):AB Tryz.prog 46 (.ptr (some (i,o))) 2=some (.ptr (some (i,o+2))):=by kernel_rfl
theorem KK(i o:Nat):AB Tryz.prog 46 (.ptr (some (i,o))) 3=some (.ptr (some (i,o+9))):=by kernel_rfl
def ZG:List AC:=[
 ⟨none,.p1 some,[(.const (.ptr none))],(.set 1),[]⟩]
def ZH:List AC:=[
 ⟨none,.call 16,[.var 0],.push,[]⟩,
 ⟨none,.p1 (fun x=>Xv x 0),[.loc 0],.push,[]⟩,
 ⟨none,.p1 (fun x=>Xv x 1),[.loc 1],.push,[]⟩,
 ⟨none,.p1 some,[.loc 1],.push,[]⟩,
 ⟨none,.p1 some,[.loc 1],(.set 2),[]⟩]
def ZI:List AC:=[
 ⟨none,.call 28,[],.push,[]⟩,
 ⟨none,.p1 some,[.loc 0],(.set 3),[]⟩]
def ZJ:List AC:=[
 ⟨none,.p1 some,[(.const (.int .i64 (0)))],(.set 4),[]⟩]
def WZ:List AC:=[
 ⟨none,.r (fun s l=>match l with | [x]=>BT Tryz.prog s 36 x | _=>none),[.var 2],.push,[]⟩,
 ⟨none,.p2 (AO Tryz.prog .lss 3),[.var 4,.loc 0],(.set 5),[]⟩]
def ZK:List AC:=[
 ⟨none,.p2 (AK Tryz.prog 36),[.var 2,.var 4],.push,[]⟩,
 ⟨none,.r1 (fun s a=>AG Tryz.prog s 46 a),[.loc 0],.push,[]⟩,
 ⟨none,.call 17,[.var 3,.loc 0],.push,[]⟩]
def ZL:List AC:=[
 ⟨none,.p1 some,[.var 4],.push,[]⟩,
 ⟨none,.p2 (AO Tryz.prog .add 3),[(.loc 0),(.const (.int .i64 (1)))],.push,[]⟩,
 ⟨none,.p1 some,[.loc 0],(.set 4),[]⟩]
def Q5:AZ:=(.seq (.seq (.ops WZ) (.cond (.var 5)
 .skip
 (.exit 0))) (.seq (.block 1 (.ops ZK)) (.ops ZL)))
def ZM:List AC:=[
 ⟨none,.p1 some,[.var 3],(.set 1),[]⟩]
def c8:Aq:=⟨1,6,(.seq (.ops ZG) (.seq (.ops ZH) (.seq (.ops ZI) (.seq (.seq (.ops ZJ) (.block 0 (.loop Q5))) (.seq (.ops ZM) .ret))))),[((.var 1),none)]⟩
def ZN:List AC:=[
 ⟨none,.p1 some,[(.const (.bool false))],(.set 2),[]⟩]
def ZO:List AC:=[
 ⟨none,.p1 some,[(.const (.int .i64 (0)))],(.set 3),[]⟩]
def TO:List AC:=[
 ⟨none,.r (fun s l=>match l with | [x]=>BT Tryz.prog s 27 x | _=>none),[.var 0],.push,[]⟩,
 ⟨none,.p2 (AO Tryz.prog .lss 3),[.var 3,.loc 0],(.set 4),[]⟩]
def Wo:List AC:=[
 ⟨none,.p2 (AK Tryz.prog 27),[.var 0,.var 3],.push,[]⟩,
 ⟨none,.r1 (fun s a=>AG Tryz.prog s 3 a),[.loc 0],.push,[]⟩,
 ⟨none,.p2 (AO Tryz.prog .eql 3),[.loc 0,.var 1],(.set 5),[]⟩]
def ZP:List AC:=[
 ⟨none,.p1 some,[(.const (.bool true))],(.set 2),[]⟩]
def ZQ:List AC:=[
 ⟨none,.p1 some,[.var 3],.push,[]⟩,
 ⟨none,.p2 (AO Tryz.prog .add 3),[(.loc 0),(.const (.int .i64 (1)))],.push,[]⟩,
 ⟨none,.p1 some,[.loc 0],(.set 3),[]⟩]
def OX:AZ:=(.seq (.seq (.ops TO) (.cond (.var 4)
 .skip
 (.exit 0))) (.seq (.block 1 (.seq (.ops Wo) (.cond (.var 5)
 (.seq (.ops ZP) .ret)
 .skip))) (.ops ZQ)))
def W0:List AC:=[
 ⟨none,.p1 some,[(.const (.bool false))],(.set 2),[]⟩]
def c9:Aq:=⟨2,6,(.seq (.ops ZN) (.seq (.seq (.ops ZO) (.block 0 (.loop OX))) (.seq (.ops W0) .ret))),[((.var 2),none)]⟩
def JJ:List AC:=[
 ⟨none,.mk (fun l=>match l with | [v]=>DH 46 v | _=>none),[.var 1],(.set 2),[]⟩,
 ⟨none,.p1 some,[(.const (.int .i64 (0)))],(.set 3),[]⟩]
def JK:List AC:=[
 ⟨none,.p1 (fun x=>AB Tryz.prog 46 x 0),[.var 2],.push,[]⟩,
 ⟨none,.r1 (fun s a=>AG Tryz.prog s 3 a),[.loc 0],(.set 4),[]⟩]
def JL:List AC:=[
 ⟨none,.p2 (AO Tryz.prog .eql 3),[(.var 4),(.const (.int .i64 (0)))],.push,[]⟩,
 ⟨none,.p1 some,[.loc 0],(.set 5),[]⟩]
def Ua:List AC:=[
 ⟨none,.p1 (fun x=>AB Tryz.prog 46 x 1),[.var 2],.push,[]⟩,
 ⟨none,.r1 (fun s a=>AG Tryz.prog s 3 a),[.loc 0],.push,[]⟩,
 ⟨none,.call 11,[.var 0,.loc 0],.push,[]⟩,
 ⟨none,.p1 some,[.loc 0],(.set 3),[]⟩]
def K2:List AC:=[
 ⟨none,.p2 (AO Tryz.prog .eql 3),[(.var 4),(.const (.int .i64 (1)))],.push,[]⟩,
 ⟨none,.p1 some,[.loc 0],(.set 6),[]⟩]
def Ub:List AC:=[
 ⟨none,.p1 (fun x=>AB Tryz.prog 46 x 1),[.var 2],.push,[]⟩,
 ⟨none,.r1 (fun s a=>AG Tryz.prog s 3 a),[.loc 0],.push,[]⟩,
 ⟨none,.call 21,[.var 0,.loc 0],.push,[]⟩,
 ⟨none,.p1 some,[.loc 0],(.set 3),[]⟩]
def NT:List AC:=[
 ⟨none,.p2 (AO Tryz.prog .eql 3),[(.var 4),(.const (.int .i64 (2)))],.push,[]⟩,
 ⟨none,.p1 some,[.loc 0],(.set 7),[]⟩]
def Uc:List AC:=[
 ⟨none,.p1 (fun x=>AB Tryz.prog 46 x 2),[.var 2],.push,[]⟩,
 ⟨none,.r1 (fun s a=>AG Tryz.prog s 43 a),[.loc 0],.push,[]⟩,
 ⟨none,.call 22,[.var 0,.loc 0],.push,[]⟩,
 ⟨none,.p1 some,[.loc 0],(.set 3),[]⟩]
def P1:List AC:=[
 ⟨none,.p2 (AO Tryz.prog .eql 3),[(.var 4),(.const (.int .i64 (3)))],.push,[]⟩,
 ⟨none,.p1 some,[.loc 0],(.set 8),[]⟩]
def Ud:List AC:=[
 ⟨none,.p1 (fun x=>AB Tryz.prog 46 x 3),[.var 2],.push,[]⟩,
 ⟨none,.p2 (AK Tryz.prog 44),[(.loc 0),(.const (.int .i64 (0)))],.push,[]⟩,
 ⟨none,.r1 (fun s a=>AG Tryz.prog s 3 a),[.loc 0],.push,[]⟩,
 ⟨none,.p1 (fun x=>AB Tryz.prog 46 x 3),[.var 2],.push,[]⟩,
 ⟨none,.p2 (AK Tryz.prog 44),[(.loc 0),(.const (.int .i64 (1)))],.push,[]⟩,
 ⟨none,.r1 (fun s a=>AG Tryz.prog s 3 a),[.loc 0],.push,[]⟩,
 ⟨none,.call 24,[.var 0,.loc 3,.loc 0],.push,[]⟩,
 ⟨none,.p1 some,[.loc 0],(.set 3),[]⟩]
def P0:List AC:=[
 ⟨none,.p1 (fun x=>AB Tryz.prog 46 x 3),[.var 2],.push,[]⟩,
 ⟨none,.p2 (AK Tryz.prog 44),[(.loc 0),(.const (.int .i64 (0)))],.push,[]⟩,
 ⟨none,.r1 (fun s a=>AG Tryz.prog s 3 a),[.loc 0],.push,[]⟩,
 ⟨none,.p1 (fun x=>AB Tryz.prog 46 x 3),[.var 2],.push,[]⟩,
 ⟨none,.p2 (AK Tryz.prog 44),[(.loc 0),(.const (.int .i64 (1)))],.push,[]⟩,
 ⟨none,.r1 (fun s a=>AG Tryz.prog s 3 a),[.loc 0],.push,[]⟩,
 ⟨none,.p1 (fun x=>AB Tryz.prog 46 x 3),[.var 2],.push,[]⟩,
 ⟨none,.p2 (AK Tryz.prog 44),[(.loc 0),(.const (.int .i64 (2)))],.push,[]⟩,
 ⟨none,.r1 (fun s a=>AG Tryz.prog s 3 a),[.loc 0],.push,[]⟩,
 ⟨none,.call 25,[.var 0,.loc 6,.loc 3,.loc 0],.push,[]⟩,
 ⟨none,.p1 some,[.loc 0],(.set 3),[]⟩]
def YS:Aq:=⟨2,9,(.seq (.ops JJ) (.seq (.seq (.ops JK) (.block 0 (.seq (.ops JL) (.cond (.var 5)
 (.seq (.ops Ua) .ret)
 (.seq (.ops K2) (.cond (.var 6)
 (.seq (.ops Ub) .ret)
 (.seq (.ops NT) (.cond (.var 7)
 (.seq (.ops Uc) .ret)
 (.seq (.ops P1) (.cond (.var 8)
 (.seq (.ops Ud) .ret)
 .skip)))))))))) (.seq (.ops P0) .ret))),[((.var 3),none)]⟩
def Y4:List AC:=[
 ⟨none,.mk (fun l=>match l with | [v]=>DH 53 v | _=>none),[.var 1],(.set 2),[]⟩,
 ⟨none,.p1 some,[(.const (.bool false))],(.set 3),[]⟩]
def Y5:List AC:=[
 ⟨none,.call 7,[],.push,[]⟩,
 ⟨none,.p1 (Pf Tryz.prog Go.UnOp.not),[.loc 0],(.set 15),[]⟩]
def Zz:List AC:=[
 ⟨none,.p1 some,[(.const (.bool false))],(.set 3),[]⟩]
def Y9:List AC:=[
 ⟨none,.call 8,[.var 0],.push,[]⟩,
 ⟨none,.p1 some,[.loc 0],(.set 4),[]⟩]
def ZA:List AC:=[
 ⟨none,.call 10,[.var 4],.push,[]⟩,
 ⟨none,.p1 some,[.loc 0],(.set 5),[]⟩]
def WY:List AC:=[
 ⟨none,.p2 (AO Tryz.prog .eql 3),[(.var 5),(.const (.int .i64 (0)))],(.set 16),[]⟩]
def ZB:List AC:=[
 ⟨none,.call 27,[(.var 4),(.const (.int .i64 (0))),(.const (.int .i64 (1))),(.const (.int .i64 (2)))],.push,[]⟩,
 ⟨none,.p2 (AO Tryz.prog .eql 3),[(.loc 0),(.const (.int .i64 (0)))],.push,[]⟩,
 ⟨(some ((.loc 0),true)),.p1 some,[.var 4],.push,[]⟩,
 ⟨(some ((.loc 1),true)),.call 10,[.loc 0],.push,[]⟩,
 ⟨(some ((.loc 2),true)),.p2 (AO Tryz.prog .eql 3),[(.loc 0),(.const (.int .i64 (1)))],.push,[]⟩,
 ⟨none,.p Rn,[(.loc 3),(.loc 0),(.const (.bool false))],.push,[]⟩,
 ⟨none,.p1 some,[.loc 0],(.set 3),[]⟩]
def ZC:List AC:=[
 ⟨none,.p2 (AK Tryz.prog 53),[(.var 2),(.const (.int .i64 (0)))],.push,[]⟩,
 ⟨none,.r1 (fun s a=>AG Tryz.prog s 5 a),[.loc 0],.push,[]⟩,
 ⟨none,.r1 (fun s x=>A8 Tryz.prog s 5 3 x),[.loc 0],.push,[]⟩,
 ⟨none,.p2 (AO Tryz.prog .rem 3),[.loc 0,.var 5],.push,[]⟩,
 ⟨none,.p2 (AK Tryz.prog 53),[(.var 2),(.const (.int .i64 (1)))],.push,[]⟩,
 ⟨none,.r1 (fun s a=>AG Tryz.prog s 5 a),[.loc 0],.push,[]⟩,
 ⟨none,.p2 (AO Tryz.prog .rem 5),[(.loc 0),(.const (.int .u8 (7)))],.push,[]⟩,
 ⟨none,.r1 (fun s x=>A8 Tryz.prog s 5 3 x),[.loc 0],.push,[]⟩,
 ⟨none,.p2 (AO Tryz.prog .sub 3),[(.loc 0),(.const (.int .i64 (2)))],.push,[]⟩,
 ⟨none,.p2 (AK Tryz.prog 53),[(.var 2),(.const (.int .i64 (2)))],.push,[]⟩,
 ⟨none,.r1 (fun s a=>AG Tryz.prog s 5 a),[.loc 0],.push,[]⟩,
 ⟨none,.p2 (AO Tryz.prog .rem 5),[(.loc 0),(.const (.int .u8 (7)))],.push,[]⟩,
 ⟨none,.r1 (fun s x=>A8 Tryz.prog s 5 3 x),[.loc 0],.push,[]⟩,
 ⟨none,.p2 (AO Tryz.prog .sub 3),[(.loc 0),(.const (.int .i64 (2)))],.push,[]⟩,
 ⟨none,.p1 some,[.loc 10],(.set 6),[]⟩,
 ⟨none,.p1 some,[.loc 5],(.set 7),[]⟩,
 ⟨none,.p1 some,[.loc 0],(.set 8),[]⟩]
def ZD:List AC:=[
 ⟨none,.p (fun l=>AR Tryz.prog 43 (zipIdx [0,3] l)),[(.const (.int .i64 (3))),(.const (.str [112,117,116]))],.push,[]⟩,
 ⟨none,.call 22,[.var 4,.loc 0],.push,[]⟩,
 ⟨none,.p1 some,[.loc 0],(.set 9),[]⟩]
def ZE:List AC:=[
 ⟨none,.call 27,[.var 4,.var 6,.var 7,.var 9],.push,[]⟩,
 ⟨none,.p1 some,[.loc 0],(.set 10),[]⟩]
def Vc:List AC:=[
 ⟨none,.call 13,[.var 4,.var 6],.push,[]⟩,
 ⟨none,.call 13,[.var 4,.var 10],.push,[]⟩,
 ⟨none,.p1 some,[.loc 1],(.set 11),[]⟩,
 ⟨none,.p1 some,[.loc 0],(.set 12),[]⟩]
def Vd:List AC:=[
 ⟨none,.call 9,[.var 12,.var 7],.push,[]⟩,
 ⟨(some ((.loc 0),false)),.p1 some,[.var 10],.push,[]⟩,
 ⟨(some ((.loc 1),false)),.p1 some,[.var 6],.push,[]⟩,
 ⟨(some ((.loc 2),false)),.p2 (AO Tryz.prog .eql 3),[.loc 1,.loc 0],.push,[]⟩,
 ⟨(some ((.loc 3),false)),.p1 some,[.var 11],.push,[]⟩,
 ⟨(some ((.loc 4),false)),.p1 some,[.var 7],.push,[]⟩,
 ⟨(some ((.loc 5),false)),.call 9,[.loc 1,.loc 0],.push,[]⟩,
 ⟨(some ((.loc 6),false)),.p1 (Pf Tryz.prog Go.UnOp.not),[.loc 0],.push,[]⟩,
 ⟨(some ((.loc 7),false)),.p2 (AO Tryz.prog .neq 4),[.loc 4,.loc 0],.push,[]⟩,
 ⟨none,.p Rn,[(.loc 8),(.const (.bool true)),(.loc 0)],.push,[]⟩,
 ⟨(some ((.loc 0),false)),.p1 some,[.var 4],.push,[]⟩,
 ⟨(some ((.loc 1),false)),.p1 some,[.var 6],.push,[]⟩,
 ⟨(some ((.loc 2),false)),.p1 some,[.var 7],.push,[]⟩,
 ⟨(some ((.loc 3),false)),.p1 some,[.var 4],.push,[]⟩,
 ⟨(some ((.loc 4),false)),.p1 some,[.var 7],.push,[]⟩,
 ⟨(some ((.loc 5),false)),.call 11,[.loc 1,.loc 0],.push,[]⟩,
 ⟨(some ((.loc 6),false)),.call 27,[.loc 5,.loc 4,.loc 3,.loc 0],.push,[]⟩,
 ⟨(some ((.loc 7),false)),.p1 some,[.var 6],.push,[]⟩,
 ⟨(some ((.loc 8),false)),.p2 (AO Tryz.prog .neq 3),[.loc 1,.loc 0],.push,[]⟩,
 ⟨none,.p Rn,[(.loc 9),(.const (.bool true)),(.loc 0)],.push,[]⟩,
 ⟨(some ((.loc 0),false)),.p1 some,[.var 4],.push,[]⟩,
 ⟨(some ((.loc 1),false)),.p1 some,[.var 10],.push,[]⟩,
 ⟨(some ((.loc 2),false)),.call 15,[.loc 1,.loc 0],.push,[]⟩,
 ⟨(some ((.loc 3),false)),.p1 some,[.var 4],.push,[]⟩,
 ⟨(some ((.loc 4),false)),.p1 some,[.var 6],.push,[]⟩,
 ⟨(some ((.loc 5),false)),.call 15,[.loc 1,.loc 0],.push,[]⟩,
 ⟨(some ((.loc 6),false)),.p2 (AO Tryz.prog .neq 3),[.loc 3,.loc 0],.push,[]⟩,
 ⟨none,.p Rn,[(.loc 7),(.const (.bool true)),(.loc 0)],(.set 17),[]⟩]
def Y6:List AC:=[
 ⟨none,.p1 some,[(.const (.bool false))],(.set 3),[]⟩]
def Ve:List AC:=[
 ⟨none,.p1 some,[(.const (.int .i64 (0)))],(.set 13),[]⟩]
def Nb:List AC:=[
 ⟨none,.r (fun s l=>match l with | [x]=>BT Tryz.prog s 27 x | _=>none),[.var 11],.push,[]⟩,
 ⟨none,.p2 (AO Tryz.prog .lss 3),[.var 13,.loc 0],(.set 18),[]⟩]
def QM:List AC:=[
 ⟨none,.p2 (AK Tryz.prog 27),[.var 11,.var 13],.push,[]⟩,
 ⟨none,.r1 (fun s a=>AG Tryz.prog s 3 a),[.loc 0],.push,[]⟩,
 ⟨none,.p2 (AO Tryz.prog .neq 3),[.loc 0,.var 7],.push,[]⟩,
 ⟨(some ((.loc 0),true)),.p1 some,[.var 12],.push,[]⟩,
 ⟨(some ((.loc 1),true)),.p1 some,[.var 11],.push,[]⟩,
 ⟨(some ((.loc 2),true)),.p1 some,[.var 13],.push,[]⟩,
 ⟨(some ((.loc 3),true)),.p2 (AK Tryz.prog 27),[.loc 1,.loc 0],.push,[]⟩,
 ⟨(some ((.loc 4),true)),.r1 (fun s a=>AG Tryz.prog s 3 a),[.loc 0],.push,[]⟩,
 ⟨(some ((.loc 5),true)),.call 9,[.loc 4,.loc 0],.push,[]⟩,
 ⟨(some ((.loc 6),true)),.p1 (Pf Tryz.prog Go.UnOp.not),[.loc 0],.push,[]⟩,
 ⟨none,.p Rn,[(.loc 7),(.loc 0),(.const (.bool false))],(.set 19),[]⟩]
def Y7:List AC:=[
 ⟨none,.p1 some,[(.const (.bool false))],(.set 3),[]⟩]
def QN:List AC:=[
 ⟨none,.p1 some,[.var 13],.push,[]⟩,
 ⟨none,.p2 (AO Tryz.prog .add 3),[(.loc 0),(.const (.int .i64 (1)))],.push,[]⟩,
 ⟨none,.p1 some,[.loc 0],(.set 13),[]⟩]
def JQ:AZ:=(.seq (.seq (.ops Nb) (.cond (.var 18)
 .skip
 (.exit 0))) (.seq (.block 1 (.seq (.ops QM) (.cond (.var 19)
 (.seq (.ops Y7) .ret)
 .skip))) (.ops QN)))
def QO:List AC:=[
 ⟨none,.call 9,[.var 11,.var 7],.push,[]⟩,
 ⟨none,.p1 (Pf Tryz.prog Go.UnOp.not),[.loc 0],.push,[]⟩,
 ⟨(some ((.loc 0),true)),.p1 some,[.var 12],.push,[]⟩,
 ⟨(some ((.loc 1),true)),.r (fun s l=>match l with | [x]=>BT Tryz.prog s 27 x | _=>none),[.loc 0],.push,[]⟩,
 ⟨(some ((.loc 2),true)),.p1 some,[.var 11],.push,[]⟩,
 ⟨(some ((.loc 3),true)),.r (fun s l=>match l with | [x]=>BT Tryz.prog s 27 x | _=>none),[.loc 0],.push,[]⟩,
 ⟨(some ((.loc 4),true)),.p2 (AO Tryz.prog .neq 3),[.loc 2,.loc 0],.push,[]⟩,
 ⟨none,.p Rn,[(.loc 5),(.loc 0),(.const (.bool false))],.push,[]⟩,
 ⟨(some ((.loc 0),false)),.p1 some,[.var 11],.push,[]⟩,
 ⟨(some ((.loc 1),false)),.p1 some,[.var 7],.push,[]⟩,
 ⟨(some ((.loc 2),false)),.call 9,[.loc 1,.loc 0],.push,[]⟩,
 ⟨(some ((.loc 3),false)),.p1 some,[.loc 0],.push,[]⟩,
 ⟨(some ((.loc 0),true)),.p1 some,[.var 12],.push,[]⟩,
 ⟨(some ((.loc 1),true)),.r (fun s l=>match l with | [x]=>BT Tryz.prog s 27 x | _=>none),[.loc 0],.push,[]⟩,
 ⟨(some ((.loc 2),true)),.p1 some,[.var 11],.push,[]⟩,
 ⟨(some ((.loc 3),true)),.r (fun s l=>match l with | [x]=>BT Tryz.prog s 27 x | _=>none),[.loc 0],.push,[]⟩,
 ⟨(some ((.loc 4),true)),.p2 (AO Tryz.prog .sub 3),[(.loc 0),(.const (.int .i64 (1)))],.push,[]⟩,
 ⟨(some ((.loc 5),true)),.p2 (AO Tryz.prog .neq 3),[.loc 3,.loc 0],.push,[]⟩,
 ⟨(some ((.loc 10),false)),.p Rn,[(.loc 6),(.loc 0),(.const (.bool false))],.push,[]⟩,
 ⟨none,.p Rn,[(.loc 11),(.const (.bool true)),(.loc 0)],(.set 20),[]⟩]
def Y8:List AC:=[
 ⟨none,.p1 some,[(.const (.bool false))],(.set 3),[]⟩]
def Nc:List AC:=[
 ⟨none,.p2 (AO Tryz.prog .eql 3),[.var 7,.var 8],(.set 21),[]⟩]
def QP:List AC:=[
 ⟨none,.p1 some,[(.const (.bool true))],(.set 3),[]⟩]
def QQ:List AC:=[
 ⟨none,.p (fun l=>AR Tryz.prog 43 (zipIdx [0,2] l)),[(.const (.int .i64 (2))),(.const (.str [55,55]))],.push,[]⟩,
 ⟨none,.call 22,[.var 4,.loc 0],.push,[]⟩,
 ⟨none,.p1 some,[.loc 0],(.set 14),[]⟩]
def QR:List AC:=[
 ⟨none,.call 27,[.var 4,.var 6,.var 7,.var 9],.push,[]⟩,
 ⟨none,.call 27,[.var 4,.loc 0,.var 8,.var 14],.push,[]⟩,
 ⟨none,.call 27,[.var 4,.var 6,.var 8,.var 14],.push,[]⟩,
 ⟨none,.call 27,[.var 4,.loc 0,.var 7,.var 9],.push,[]⟩,
 ⟨none,.p2 (AO Tryz.prog .eql 3),[.loc 2,.loc 0],.push,[]⟩,
 ⟨none,.p1 some,[.loc 0],(.set 3),[]⟩]
def c5:Aq:=⟨2,22,(.seq (.ops Y4) (.seq (.seq (.ops Y5) (.cond (.var 15)
 (.seq (.ops Zz) .ret)
 .skip)) (.seq (.ops Y9) (.seq (.ops ZA) (.seq (.seq (.ops WY) (.cond (.var 16)
 (.seq (.ops ZB) .ret)
 .skip)) (.seq (.ops ZC) (.seq (.ops ZD) (.seq (.ops ZE) (.seq (.ops Vc) (.seq (.seq (.ops Vd) (.cond (.var 17)
 (.seq (.ops Y6) .ret)
 .skip)) (.seq (.seq (.ops Ve) (.block 0 (.loop JQ))) (.seq (.seq (.ops QO) (.cond (.var 20)
 (.seq (.ops Y8) .ret)
 .skip)) (.seq (.seq (.ops Nc) (.cond (.var 21)
 (.seq (.ops QP) .ret)
 .skip)) (.seq (.ops QQ) (.seq (.ops QR) .ret))))))))))))))),[((.var 3),none)]⟩
def US:List AC:=[
 ⟨none,.p1 some,[(.const (.ptr none))],(.set 1),[]⟩,
 ⟨none,.p1 some,[(.const (.slice none 0 (some 0)))],(.set 2),[]⟩]
def UT:List AC:=[
 ⟨none,.p (fun l=>AR Tryz.prog 80 (zipIdx [] l)),[],.push,[]⟩,
 ⟨none,.mk (fun l=>match l with | [v]=>DH 80 v | _=>none),[.loc 0],.push,[]⟩,
 ⟨none,.p1 some,[.loc 0],(.set 3),[]⟩]
def UU:List AC:=[
 ⟨none,.p1 some,[(.const (.slice none 0 (some 0)))],(.set 4),[]⟩]
def UV:List AC:=[
 ⟨none,.p1 some,[(.const (.int .i64 (0)))],(.set 5),[]⟩]
def NS:List AC:=[
 ⟨none,.r (fun s l=>match l with | [x]=>BT Tryz.prog s 22 x | _=>none),[.var 0],.push,[]⟩,
 ⟨none,.p2 (AO Tryz.prog .lss 3),[.var 5,.loc 0],.push,[]⟩,
 ⟨(some ((.loc 0),true)),.p1 some,[.var 5],.push,[]⟩,
 ⟨(some ((.loc 1),true)),.p2 (AO Tryz.prog .lss 3),[(.loc 0),(.const (.int .i64 (40)))],.push,[]⟩,
 ⟨none,.p Rn,[(.loc 2),(.loc 0),(.const (.bool false))],(.set 7),[]⟩]
def UW:List AC:=[
 ⟨none,.p2 (AK Tryz.prog 22),[.var 0,.var 5],.push,[]⟩,
 ⟨none,.r1 (fun s a=>AG Tryz.prog s 82 a),[.loc 0],.push,[]⟩,
 ⟨none,.call 41,[.loc 0,.var 3],.push,[]⟩,
 ⟨none,.mk (fun l=>match l with | []=>Bi Tryz.prog 46 | _=>none),[],(.set 6),[]⟩,
 ⟨none,.e (fun s=>Xs (fun a x=>Xu (Ar Tryz.prog s 46 a x))),[.var 6,.loc 0],.push,[]⟩]
def UX:List AC:=[
 ⟨none,.r1 (fun s a=>AG Tryz.prog s 46 a),[.var 6],.push,[]⟩,
 ⟨none,.call 42,[.var 3,.loc 0],.push,[]⟩]
def UY:List AC:=[
 ⟨none,.p1 some,[.var 4],.push,[]⟩,
 ⟨none,.r1 (fun s a=>AG Tryz.prog s 46 a),[.var 6],.push,[]⟩,
 ⟨none,.mk (fun l=>(Ae Tryz.prog 36 1 (zipIdx [0] l)).bind fun r=>some (r,.slice 1)),[.loc 0],.push,[]⟩,
 ⟨none,.e (fun s l=>BC Tryz.prog s [36,36] l),[.loc 2,.loc 0],.push,[]⟩,
 ⟨none,.p1 some,[.loc 0],(.set 4),[]⟩]
def UZ:List AC:=[
 ⟨none,.p1 some,[.var 5],.push,[]⟩,
 ⟨none,.p2 (AO Tryz.prog .add 3),[(.loc 0),(.const (.int .i64 (1)))],.push,[]⟩,
 ⟨none,.p1 some,[.loc 0],(.set 5),[]⟩]
def JI:AZ:=(.seq (.seq (.ops NS) (.cond (.var 7)
 .skip
 (.exit 0))) (.seq (.block 1 (.seq (.ops UW) (.seq (.ops UX) (.ops UY)))) (.ops UZ)))
def Pz:List AC:=[
 ⟨none,.p1 some,[.var 3],(.set 1),[]⟩,
 ⟨none,.p1 some,[.var 4],(.set 2),[]⟩]
def aF:Aq:=⟨1,8,(.seq (.ops US) (.seq (.ops UT) (.seq (.ops UU) (.seq (.seq (.ops UV) (.block 0 (.loop JI))) (.seq (.ops Pz) .ret))))),[((.var 1),none),((.var 2),none)]⟩
def VJ:List AC:=[
 ⟨none,.mk (fun l=>match l with | [v]=>DH 82 v | _=>none),[.var 0],(.set 2),[]⟩,
 ⟨none,.mk (fun l=>match l with | []=>Bi Tryz.prog 46 | _=>none),[],(.set 3),[]⟩]
def VK:List AC:=[
 ⟨none,.p1 (fun x=>AB Tryz.prog 82 x 1),[.var 2],.push,[]⟩,
 ⟨none,.r1 (fun s a=>AG Tryz.prog s 5 a),[.loc 0],.push,[]⟩,
 ⟨none,.p1 (fun x=>AB Tryz.prog 82 x 1),[.var 2],.push,[]⟩,
 ⟨none,.r1 (fun s a=>AG Tryz.prog s 5 a),[.loc 0],.push,[]⟩,
 ⟨none,.p2 (AO Tryz.prog .rem 5),[(.loc 0),(.const (.int .u8 (7)))],.push,[]⟩,
 ⟨none,.r1 (fun s x=>A8 Tryz.prog s 5 3 x),[.loc 0],.push,[]⟩,
 ⟨none,.p2 (AO Tryz.prog .sub 3),[(.loc 0),(.const (.int .i64 (2)))],.push,[]⟩,
 ⟨none,.p1 (fun x=>AB Tryz.prog 82 x 1),[.var 2],.push,[]⟩,
 ⟨none,.r1 (fun s a=>AG Tryz.prog s 5 a),[.loc 0],.push,[]⟩,
 ⟨none,.p1 (fun x=>AB Tryz.prog 82 x 2),[.var 2],.push,[]⟩,
 ⟨none,.r1 (fun s a=>AG Tryz.prog s 5 a),[.loc 0],.push,[]⟩,
 ⟨none,.p1 (fun x=>AB Tryz.prog 82 x 3),[.var 2],.push,[]⟩,
 ⟨none,.r1 (fun s a=>AG Tryz.prog s 5 a),[.loc 0],.push,[]⟩,
 ⟨none,.mk (fun l=>match l with | []=>Bi Tryz.prog 46 | _=>none),[],(.set 4),[]⟩,
 ⟨none,.call 61,[.loc 11],.push,[⟨none,.r1 (fun s a=>AG Tryz.prog s 5 a),[.loc 2],(.loc 1)⟩,⟨none,.r1 (fun s a=>AG Tryz.prog s 5 a),[.loc 4],(.loc 3)⟩,⟨none,.r1 (fun s a=>AG Tryz.prog s 5 a),[.loc 6],(.loc 5)⟩,⟨none,.r1 (fun s x=>A8 Tryz.prog s 5 3 x),[.loc 9],(.loc 8)⟩,⟨none,.r1 (fun s a=>AG Tryz.prog s 5 a),[.loc 11],(.loc 10)⟩]⟩,
 ⟨none,.call 62,[.var 1,.loc 5],.push,[⟨none,.r1 (fun s a=>AG Tryz.prog s 5 a),[.loc 3],(.loc 2)⟩,⟨none,.r1 (fun s a=>AG Tryz.prog s 5 a),[.loc 5],(.loc 4)⟩,⟨none,.r1 (fun s x=>A8 Tryz.prog s 5 3 x),[.loc 10],(.loc 9)⟩,⟨none,.r1 (fun s a=>AG Tryz.prog s 5 a),[.loc 12],(.loc 11)⟩]⟩,
 ⟨none,.call 62,[.var 1,.loc 4],.push,[⟨none,.r1 (fun s a=>AG Tryz.prog s 5 a),[.loc 4],(.loc 3)⟩,⟨none,.r1 (fun s x=>A8 Tryz.prog s 5 3 x),[.loc 11],(.loc 10)⟩,⟨none,.r1 (fun s a=>AG Tryz.prog s 5 a),[.loc 13],(.loc 12)⟩]⟩,
 ⟨none,.call 62,[.var 1,.loc 3],.push,[⟨none,.r1 (fun s x=>A8 Tryz.prog s 5 3 x),[.loc 12],(.loc 11)⟩,⟨none,.r1 (fun s a=>AG Tryz.prog s 5 a),[.loc 14],(.loc 13)⟩]⟩,
 ⟨none,.p (fun l=>AR Tryz.prog 44 (zipIdx [0,1,2] l)),[.loc 2,.loc 1,.loc 0],.push,[]⟩,
 ⟨none,.p (fun l=>AR Tryz.prog 46 (zipIdx [2,1,3] l)),[.loc 4,.loc 11,.loc 0],.push,[]⟩,
 ⟨none,.e (fun s=>Xs (fun a x=>Xu (Ar Tryz.prog s 46 a x))),[.var 4,.loc 0],.push,[]⟩]
def F7:List AC:=[
 ⟨none,.p1 (fun x=>AB Tryz.prog 82 x 0),[.var 2],.push,[]⟩,
 ⟨none,.r1 (fun s a=>AG Tryz.prog s 5 a),[.loc 0],.push,[]⟩,
 ⟨none,.p2 (AO Tryz.prog .rem 5),[(.loc 0),(.const (.int .u8 (8)))],(.set 5),[]⟩]
def F8:List AC:=[
 ⟨none,.p2 (AO Tryz.prog .eql 5),[(.var 5),(.const (.int .u8 (0)))],.push,[]⟩,
 ⟨none,.p1 some,[.loc 0],(.set 6),[]⟩]
def HC:List AC:=[
 ⟨none,.p2 (AO Tryz.prog .eql 5),[(.var 5),(.const (.int .u8 (1)))],.push,[]⟩,
 ⟨none,.p1 some,[.loc 0],(.set 6),[]⟩]
def QC:List AC:=[
 ⟨none,.p1 (fun x=>AB Tryz.prog 46 x 0),[.var 4],.push,[]⟩,
 ⟨none,.e (fun s=>Xs (fun a x=>Xu (Ar Tryz.prog s 3 a x))),[(.loc 0),(.const (.int .i64 (0)))],.push,[]⟩]
def H2:List AC:=[
 ⟨none,.p2 (AO Tryz.prog .eql 5),[(.var 5),(.const (.int .u8 (2)))],.push,[]⟩,
 ⟨none,.p1 some,[.loc 0],(.set 7),[]⟩]
def VL:List AC:=[
 ⟨none,.p1 (fun x=>AB Tryz.prog 46 x 0),[.var 4],.push,[]⟩,
 ⟨none,.e (fun s=>Xs (fun a x=>Xu (Ar Tryz.prog s 3 a x))),[(.loc 0),(.const (.int .i64 (1)))],.push,[]⟩]
def VM:List AC:=[
 ⟨none,.p1 (fun x=>AB Tryz.prog 82 x 1),[.var 2],.push,[]⟩,
 ⟨none,.r1 (fun s a=>AG Tryz.prog s 5 a),[.loc 0],.push,[]⟩,
 ⟨none,.p2 (AO Tryz.prog .rem 5),[(.loc 0),(.const (.int .u8 (5)))],.push,[]⟩,
 ⟨none,.r1 (fun s x=>A8 Tryz.prog s 5 3 x),[.loc 0],.push,[]⟩,
 ⟨none,.p1 (fun x=>AB Tryz.prog 46 x 1),[.var 4],.push,[]⟩,
 ⟨none,.e (fun s=>Xs (fun a x=>Xu (Ar Tryz.prog s 3 a x))),[.loc 0,.loc 1],.push,[]⟩]
def JM:List AC:=[
 ⟨none,.p2 (AO Tryz.prog .eql 5),[(.var 5),(.const (.int .u8 (3)))],.push,[]⟩,
 ⟨none,.p1 some,[.loc 0],(.set 8),[]⟩]
def H1:List AC:=[
 ⟨none,.p2 (AO Tryz.prog .eql 5),[(.var 5),(.const (.int .u8 (4)))],.push,[]⟩,
 ⟨none,.p1 some,[.loc 0],(.set 8),[]⟩]
def ML:List AC:=[
 ⟨none,.p1 (fun x=>AB Tryz.prog 46 x 0),[.var 4],.push,[]⟩,
 ⟨none,.e (fun s=>Xs (fun a x=>Xu (Ar Tryz.prog s 3 a x))),[(.loc 0),(.const (.int .i64 (2)))],.push,[]⟩]
def KF:List AC:=[
 ⟨none,.p2 (AO Tryz.prog .eql 5),[(.var 5),(.const (.int .u8 (5)))],.push,[]⟩,
 ⟨none,.p1 some,[.loc 0],(.set 9),[]⟩]
def MM:List AC:=[
 ⟨none,.p2 (AO Tryz.prog .eql 5),[(.var 5),(.const (.int .u8 (6)))],.push,[]⟩,
 ⟨none,.p1 some,[.loc 0],(.set 9),[]⟩]
def MN:List AC:=[
 ⟨none,.p1 (fun x=>AB Tryz.prog 46 x 0),[.var 4],.push,[]⟩,
 ⟨none,.e (fun s=>Xs (fun a x=>Xu (Ar Tryz.prog s 3 a x))),[(.loc 0),(.const (.int .i64 (3)))],.push,[]⟩]
def QB:List AC:=[
 ⟨none,.p1 (fun x=>AB Tryz.prog 46 x 0),[.var 4],.push,[]⟩,
 ⟨none,.e (fun s=>Xs (fun a x=>Xu (Ar Tryz.prog s 3 a x))),[(.loc 0),(.const (.int .i64 (4)))],.push,[]⟩]
def EF:List AC:=[
 ⟨none,.r1 (fun s a=>AG Tryz.prog s 46 a),[.var 4],.push,[]⟩,
 ⟨none,.e (fun s=>Xs (fun a x=>Xu (Ar Tryz.prog s 46 a x))),[.var 3,.loc 0],.push,[]⟩]
def aR:Aq:=⟨2,10,(.seq (.ops VJ) (.seq (.ops VK) (.seq (.seq (.ops F7) (.block 0 (.seq (.seq (.ops F8) (.cond (.var 6)
 .skip
 (.ops HC))) (.cond (.var 6)
 (.ops QC)
 (.seq (.ops H2) (.cond (.var 7)
 (.seq (.ops VL) (.ops VM))
 (.seq (.seq (.ops JM) (.cond (.var 8)
 .skip
 (.ops H1))) (.cond (.var 8)
 (.ops ML)
 (.seq (.seq (.ops KF) (.cond (.var 9)
 .skip
 (.ops MM))) (.cond (.var 9)
 (.ops MN)
 (.ops QB))))))))))) (.seq (.ops EF) .ret)))),[((.var 3),some 46)]⟩
def JN:List AC:=[
 ⟨none,.mk (fun l=>match l with | [v]=>DH 46 v | _=>none),[.var 1],(.set 2),[]⟩,
 ⟨none,.p1 some,[(.const (.int .i64 (0)))],(.set 3),[]⟩]
def JO:List AC:=[
 ⟨none,.p1 (fun x=>AB Tryz.prog 46 x 0),[.var 2],.push,[]⟩,
 ⟨none,.r1 (fun s a=>AG Tryz.prog s 3 a),[.loc 0],(.set 4),[]⟩]
def JP:List AC:=[
 ⟨none,.p2 (AO Tryz.prog .eql 3),[(.var 4),(.const (.int .i64 (0)))],.push,[]⟩,
 ⟨none,.p1 some,[.loc 0],(.set 5),[]⟩]
def VN:List AC:=[
 ⟨none,.p1 (fun x=>AB Tryz.prog 46 x 1),[.var 2],.push,[]⟩,
 ⟨none,.r1 (fun s a=>AG Tryz.prog s 3 a),[.loc 0],.push,[]⟩,
 ⟨none,.call 63,[.var 0,.loc 0],.push,[]⟩,
 ⟨none,.p1 some,[.loc 0],(.set 3),[]⟩]
def K4:List AC:=[
 ⟨none,.p2 (AO Tryz.prog .eql 3),[(.var 4),(.const (.int .i64 (1)))],.push,[]⟩,
 ⟨none,.p1 some,[.loc 0],(.set 6),[]⟩]
def VO:List AC:=[
 ⟨none,.p1 (fun x=>AB Tryz.prog 46 x 1),[.var 2],.push,[]⟩,
 ⟨none,.r1 (fun s a=>AG Tryz.prog s 3 a),[.loc 0],.push,[]⟩,
 ⟨none,.call 64,[.var 0,.loc 0],.push,[]⟩,
 ⟨none,.p1 some,[.loc 0],(.set 3),[]⟩]
def NX:List AC:=[
 ⟨none,.p2 (AO Tryz.prog .eql 3),[(.var 4),(.const (.int .i64 (2)))],.push,[]⟩,
 ⟨none,.p1 some,[.loc 0],(.set 7),[]⟩]
def VP:List AC:=[
 ⟨none,.p1 (fun x=>AB Tryz.prog 46 x 2),[.var 2],.push,[]⟩,
 ⟨none,.r1 (fun s a=>AG Tryz.prog s 43 a),[.loc 0],.push,[]⟩,
 ⟨none,.call 65,[.var 0,.loc 0],.push,[]⟩,
 ⟨none,.p1 some,[.loc 0],(.set 3),[]⟩]
def QE:List AC:=[
 ⟨none,.p2 (AO Tryz.prog .eql 3),[(.var 4),(.const (.int .i64 (3)))],.push,[]⟩,
 ⟨none,.p1 some,[.loc 0],(.set 8),[]⟩]
def VQ:List AC:=[
 ⟨none,.p1 (fun x=>AB Tryz.prog 46 x 3),[.var 2],.push,[]⟩,
 ⟨none,.p2 (AK Tryz.prog 44),[(.loc 0),(.const (.int .i64 (0)))],.push,[]⟩,
 ⟨none,.r1 (fun s a=>AG Tryz.prog s 3 a),[.loc 0],.push,[]⟩,
 ⟨none,.p1 (fun x=>AB Tryz.prog 46 x 3),[.var 2],.push,[]⟩,
 ⟨none,.p2 (AK Tryz.prog 44),[(.loc 0),(.const (.int .i64 (1)))],.push,[]⟩,
 ⟨none,.r1 (fun s a=>AG Tryz.prog s 3 a),[.loc 0],.push,[]⟩,
 ⟨none,.call 66,[.var 0,.loc 3,.loc 0],.push,[]⟩,
 ⟨none,.p1 some,[.loc 0],(.set 3),[]⟩]
def QD:List AC:=[
 ⟨none,.p1 (fun x=>AB Tryz.prog 46 x 3),[.var 2],.push,[]⟩,
 ⟨none,.p2 (AK Tryz.prog 44),[(.loc 0),(.const (.int .i64 (0)))],.push,[]⟩,
 ⟨none,.r1 (fun s a=>AG Tryz.prog s 3 a),[.loc 0],.push,[]⟩,
 ⟨none,.p1 (fun x=>AB Tryz.prog 46 x 3),[.var 2],.push,[]⟩,
 ⟨none,.p2 (AK Tryz.prog 44),[(.loc 0),(.const (.int .i64 (1)))],.push,[]⟩,
 ⟨none,.r1 (fun s a=>AG Tryz.prog s 3 a),[.loc 0],.push,[]⟩,
 ⟨none,.p1 (fun x=>AB Tryz.prog 46 x 3),[.var 2],.push,[]⟩,
 ⟨none,.p2 (AK Tryz.prog 44),[(.loc 0),(.const (.int .i64 (2)))],.push,[]⟩,
 ⟨none,.r1 (fun s a=>AG Tryz.prog s 3 a),[.loc 0],.push,[]⟩,
 ⟨none,.call 67,[.var 0,.loc 6,.loc 3,.loc 0],.push,[]⟩,
 ⟨none,.p1 some,[.loc 0],(.set 3),[]⟩]
def YT:Aq:=⟨2,9,(.seq (.ops JN) (.seq (.seq (.ops JO) (.block 0 (.seq (.ops JP) (.cond (.var 5)
 (.seq (.ops VN) .ret)
 (.seq (.ops K4) (.cond (.var 6)
 (.seq (.ops VO) .ret)
 (.seq (.ops NX) (.cond (.var 7)
 (.seq (.ops VP) .ret)
 (.seq (.ops QE) (.cond (.var 8)
 (.seq (.ops VQ) .ret)
 .skip)))))))))) (.seq (.ops QD) .ret))),[((.var 3),none)]⟩
def Vf:List AC:=[
 ⟨none,.mk (fun l=>match l with | []=>Bi Tryz.prog 43 | _=>none),[],(.set 1),[]⟩]
def Vg:List AC:=[
 ⟨none,.p (fun l=>AR Tryz.prog 43 (zipIdx [] l)),[],.push,[]⟩,
 ⟨none,.p (fun l=>AR Tryz.prog 43 (zipIdx [0,1] l)),[(.const (.int .i64 (1))),(.const (.bool true))],.push,[]⟩,
 ⟨none,.p (fun l=>AR Tryz.prog 43 (zipIdx [0] l)),[(.const (.int .i64 (1)))],.push,[]⟩,
 ⟨none,.p (fun l=>AR Tryz.prog 43 (zipIdx [0,2] l)),[(.const (.int .i64 (2))),(.const (.str [48]))],.push,[]⟩,
 ⟨none,.p (fun l=>AR Tryz.prog 43 (zipIdx [0,2] l)),[(.const (.int .i64 (2))),(.const (.str [49]))],.push,[]⟩,
 ⟨none,.p (fun l=>AR Tryz.prog 43 (zipIdx [0,2] l)),[(.const (.int .i64 (2))),(.const (.str [45,53]))],.push,[]⟩,
 ⟨none,.p (fun l=>AR Tryz.prog 43 (zipIdx [0,2] l)),[(.const (.int .i64 (2))),(.const (.str [49,56,52,52,54,55,52,52,48,55,51,55,48,57,53,53,49,54,49,54]))],.push,[]⟩,
 ⟨none,.p (fun l=>AR Tryz.prog 43 (zipIdx [0,3] l)),[(.const (.int .i64 (3))),(.const (.str [97]))],.push,[]⟩,
 ⟨none,.p (fun l=>AR Tryz.prog 43 (zipIdx [0,3] l)),[(.const (.int .i64 (3))),(.const (.str [98]))],.push,[]⟩,
 ⟨none,.p (fun l=>AR Tryz.prog 43 (zipIdx [0] l)),[(.const (.int .i64 (3)))],.push,[]⟩,
 ⟨none,.p (fun l=>AR Tryz.prog 43 (zipIdx [0] l)),[(.const (.int .i64 (4)))],.push,[]⟩,
 ⟨none,.mk (fun l=>(Ae Tryz.prog 41 11 (zipIdx [0,1,2,3,4,5,6,7,8,9,10] l)).bind fun r=>some (r,.slice 11)),[.loc 10,.loc 9,.loc 8,.loc 7,.loc 6,.loc 5,.loc 4,.loc 3,.loc 2,.loc 1,.loc 0],.push,[]⟩,
 ⟨none,.p1 some,[.loc 0],(.set 2),[]⟩]
def Vh:List AC:=[
 ⟨none,.r1 (fun s x=>A8 Tryz.prog s 5 3 x),[.var 0],.push,[]⟩,
 ⟨none,.r (fun s l=>match l with | [x]=>BT Tryz.prog s 41 x | _=>none),[.var 2],.push,[]⟩,
 ⟨none,.p2 (AO Tryz.prog .rem 3),[.loc 1,.loc 0],.push,[]⟩,
 ⟨none,.p2 (AK Tryz.prog 41),[.var 2,.loc 0],.push,[]⟩,
 ⟨none,.r1 (fun s a=>AG Tryz.prog s 43 a),[.loc 0],.push,[]⟩,
 ⟨none,.e (fun s=>Xs (fun a x=>Xu (Ar Tryz.prog s 43 a x))),[.var 1,.loc 0],.push,[]⟩]
def aV:Aq:=⟨1,3,(.seq (.ops Vf) (.seq (.ops Vg) (.seq (.ops Vh) .ret))),[((.var 1),some 43)]⟩
def Nd:List AC:=[
 ⟨none,.p1 some,[(.const (.int .i64 (0)))],(.set 2),[]⟩]
def Nf:List AC:=[
 ⟨none,.p1 AU,[.var 0],.push,[]⟩,
 ⟨none,.p1 (fun x=>AB Tryz.prog 80 x 0),[.loc 0],.push,[]⟩,
 ⟨none,.r1 (fun s a=>AG Tryz.prog s 78 a),[.loc 0],.push,[]⟩,
 ⟨none,.r (fun s l=>match l with | [x]=>BT Tryz.prog s 78 x | _=>none),[.loc 0],.push,[]⟩,
 ⟨none,.p2 (AO Tryz.prog .eql 3),[(.loc 0),(.const (.int .i64 (0)))],(.set 4),[]⟩]
def Vi:List AC:=[
 ⟨none,.p1 some,[(.const (.int .i64 (0)))],(.set 2),[]⟩]
def QS:List AC:=[
 ⟨none,.r1 (fun s x=>A8 Tryz.prog s 5 3 x),[.var 1],.push,[]⟩,
 ⟨none,.p1 AU,[.var 0],.push,[]⟩,
 ⟨none,.p1 (fun x=>AB Tryz.prog 80 x 0),[.loc 0],.push,[]⟩,
 ⟨none,.r1 (fun s a=>AG Tryz.prog s 78 a),[.loc 0],.push,[]⟩,
 ⟨none,.r (fun s l=>match l with | [x]=>BT Tryz.prog s 78 x | _=>none),[.loc 0],.push,[]⟩,
 ⟨none,.p2 (AO Tryz.prog .rem 3),[.loc 4,.loc 0],.push,[]⟩,
 ⟨none,.p1 some,[.loc 0],(.set 3),[]⟩]
def QT:List AC:=[
 ⟨none,.p2 (AO Tryz.prog .geq 5),[(.var 1),(.const (.int .u8 (128)))],(.set 5),[]⟩]
def Vj:List AC:=[
 ⟨none,.p1 AU,[.var 0],.push,[]⟩,
 ⟨none,.p1 (fun x=>AB Tryz.prog 80 x 0),[.loc 0],.push,[]⟩,
 ⟨none,.r1 (fun s a=>AG Tryz.prog s 78 a),[.loc 0],.push,[]⟩,
 ⟨none,.r (fun s l=>match l with | [x]=>BT Tryz.prog s 78 x | _=>none),[.loc 0],.push,[]⟩,
 ⟨none,.p2 (AO Tryz.prog .sub 3),[(.loc 0),(.const (.int .i64 (1)))],.push,[]⟩,
 ⟨none,.r1 (fun s x=>A8 Tryz.prog s 5 3 x),[.var 1],.push,[]⟩,
 ⟨none,.p1 AU,[.var 0],.push,[]⟩,
 ⟨none,.p1 (fun x=>AB Tryz.prog 80 x 0),[.loc 0],.push,[]⟩,
 ⟨none,.r1 (fun s a=>AG Tryz.prog s 78 a),[.loc 0],.push,[]⟩,
 ⟨none,.r (fun s l=>match l with | [x]=>BT Tryz.prog s 78 x | _=>none),[.loc 0],.push,[]⟩,
 ⟨none,.p (fun l=>match l with | v::l=>CD false v l | []=>none),[(.loc 0),(.const (.int .i64 (6)))],.push,[]⟩,
 ⟨none,.p2 (AO Tryz.prog .rem 3),[.loc 5,.loc 0],.push,[]⟩,
 ⟨none,.p2 (AO Tryz.prog .sub 3),[.loc 7,.loc 0],.push,[]⟩,
 ⟨none,.p1 some,[.loc 0],(.set 3),[]⟩]
def QU:List AC:=[
 ⟨none,.call 80,[.var 0,.var 3],.push,[]⟩,
 ⟨none,.p2 (AO Tryz.prog .gtr 3),[(.loc 0),(.const (.int .i64 (8)))],(.set 6),[]⟩]
def QV:List AC:=[
 ⟨none,.p1 some,[(.const (.int .i64 (0)))],(.set 2),[]⟩]
def QW:List AC:=[
 ⟨none,.p1 some,[.var 3],(.set 2),[]⟩]
def Zr:Aq:=⟨2,7,(.seq (.ops Nd) (.seq (.seq (.ops Nf) (.cond (.var 4)
 (.seq (.ops Vi) .ret)
 .skip)) (.seq (.ops QS) (.seq (.seq (.ops QT) (.cond (.var 5)
 (.ops Vj)
 .skip)) (.seq (.seq (.ops QU) (.cond (.var 6)
 (.seq (.ops QV) .ret)
 .skip)) (.seq (.ops QW) .ret)))))),[((.var 2),none)]⟩
def Vk:List AC:=[
 ⟨none,.p1 some,[(.const (.int .i64 (0)))],(.set 2),[]⟩]
def Vl:List AC:=[
 ⟨none,.p (fun l=>AR Tryz.prog 122 (zipIdx [0,1] l)),[(.const (.int .i64 (0))),(.var 1)],.push,[]⟩,
 ⟨none,.call 81,[.var 0,.loc 0],.push,[]⟩,
 ⟨none,.p1 some,[.loc 0],(.set 2),[]⟩]
def aW:Aq:=⟨2,3,(.seq (.ops Vk) (.seq (.ops Vl) .ret)),[((.var 2),none)]⟩
def Vm:List AC:=[
 ⟨none,.p1 some,[(.const (.int .i64 (0)))],(.set 2),[]⟩]
def Vn:List AC:=[
 ⟨none,.p (fun l=>match l with | v::l=>CD true v l | []=>none),[(.var 1),(.const (.int .i64 (0)))],.push,[]⟩,
 ⟨none,.p (fun l=>AR Tryz.prog 122 (zipIdx [0,1] l)),[(.const (.int .i64 (1))),(.loc 0)],.push,[]⟩,
 ⟨none,.call 81,[.var 0,.loc 0],.push,[]⟩,
 ⟨none,.p1 some,[.loc 0],(.set 2),[]⟩]
def aX:Aq:=⟨2,3,(.seq (.ops Vm) (.seq (.ops Vn) .ret)),[((.var 2),none)]⟩
def Vo:List AC:=[
 ⟨none,.mk (fun l=>match l with | [v]=>DH 43 v | _=>none),[.var 1],(.set 2),[]⟩,
 ⟨none,.p1 some,[(.const (.int .i64 (0)))],(.set 3),[]⟩]
def Vp:List AC:=[
 ⟨none,.r1 (fun s a=>AG Tryz.prog s 43 a),[.var 2],.push,[]⟩,
 ⟨none,.call 82,[.loc 0],.push,[]⟩,
 ⟨none,.p (fun l=>AR Tryz.prog 122 (zipIdx [0,2] l)),[(.const (.int .i64 (2))),(.loc 0)],.push,[]⟩,
 ⟨none,.call 81,[.var 0,.loc 0],.push,[]⟩,
 ⟨none,.p1 some,[.loc 0],(.set 3),[]⟩]
def aY:Aq:=⟨2,4,(.seq (.ops Vo) (.seq (.ops Vp) .ret)),[((.var 3),none)]⟩
def Vq:List AC:=[
 ⟨none,.p1 some,[(.const (.int .i64 (0)))],(.set 3),[]⟩]
def Vr:List AC:=[
 ⟨none,.mk (fun l=>(Ae Tryz.prog 27 2 (zipIdx [0,1] l)).bind fun r=>some (r,.slice 2)),[.var 1,.var 2],.push,[]⟩,
 ⟨none,.call 83,[(.var 0),(.const (.int .i64 (3))),(.loc 0)],.push,[]⟩,
 ⟨none,.p1 some,[.loc 0],(.set 3),[]⟩]
def aZ:Aq:=⟨3,4,(.seq (.ops Vq) (.seq (.ops Vr) .ret)),[((.var 3),none)]⟩
def Vs:List AC:=[
 ⟨none,.p1 some,[(.const (.int .i64 (0)))],(.set 4),[]⟩]
def Vt:List AC:=[
 ⟨none,.mk (fun l=>(Ae Tryz.prog 27 3 (zipIdx [0,1,2] l)).bind fun r=>some (r,.slice 3)),[.var 1,.var 2,.var 3],.push,[]⟩,
 ⟨none,.call 83,[(.var 0),(.const (.int .i64 (4))),(.loc 0)],.push,[]⟩,
 ⟨none,.p1 some,[.loc 0],(.set 4),[]⟩]
def aa:Aq:=⟨4,5,(.seq (.ops Vs) (.seq (.ops Vt) .ret)),[((.var 4),none)]⟩
def Vu:List AC:=[
 ⟨none,.p1 some,[(.const (.int .i64 (0)))],(.set 2),[]⟩]
def Vv:List AC:=[
 ⟨none,.p1 some,[(.const (.int .i64 (0)))],(.set 3),[]⟩]
def Vw:List AC:=[
 ⟨none,.call 107,[.var 0,.var 1],.push,[]⟩,
 ⟨none,.mk (fun l=>match l with | []=>Bi Tryz.prog 122 | _=>none),[],(.set 4),[]⟩,
 ⟨none,.e (fun s=>Xs (fun a x=>Xu (Ar Tryz.prog s 122 a x))),[.var 4,.loc 0],.push,[]⟩]
def Vx:List AC:=[
 ⟨none,.p1 some,[(.const (.int .i64 (0)))],(.set 5),[]⟩]
def QX:List AC:=[
 ⟨none,.p1 (fun x=>AB Tryz.prog 122 x 3),[.var 4],.push,[]⟩,
 ⟨none,.r1 (fun s a=>AG Tryz.prog s 27 a),[.loc 0],.push,[]⟩,
 ⟨none,.r (fun s l=>match l with | [x]=>BT Tryz.prog s 27 x | _=>none),[.loc 0],.push,[]⟩,
 ⟨none,.p2 (AO Tryz.prog .lss 3),[.var 5,.loc 0],(.set 6),[]⟩]
def Vy:List AC:=[
 ⟨none,.p1 some,[.var 3],.push,[]⟩,
 ⟨none,.p1 (fun x=>AB Tryz.prog 122 x 3),[.var 4],.push,[]⟩,
 ⟨none,.r1 (fun s a=>AG Tryz.prog s 27 a),[.loc 0],.push,[]⟩,
 ⟨none,.p2 (AK Tryz.prog 27),[.loc 0,.var 5],.push,[]⟩,
 ⟨none,.r1 (fun s a=>AG Tryz.prog s 3 a),[.loc 0],.push,[]⟩,
 ⟨none,.call 80,[.var 0,.loc 0],.push,[]⟩,
 ⟨none,.p (fun l=>match l with | v::l=>CD true v l | []=>none),[.loc 5,.loc 0],.push,[]⟩,
 ⟨none,.p1 some,[.loc 0],(.set 3),[]⟩]
def Vz:List AC:=[
 ⟨none,.p1 some,[.var 5],.push,[]⟩,
 ⟨none,.p2 (AO Tryz.prog .add 3),[(.loc 0),(.const (.int .i64 (1)))],.push,[]⟩,
 ⟨none,.p1 some,[.loc 0],(.set 5),[]⟩]
def K5:AZ:=(.seq (.seq (.ops QX) (.cond (.var 6)
 .skip
 (.exit 0))) (.seq (.block 1 (.ops Vy)) (.ops Vz)))
def QY:List AC:=[
 ⟨none,.p2 (AO Tryz.prog .add 3),[(.var 3),(.const (.int .i64 (1)))],.push,[]⟩,
 ⟨none,.p1 some,[.loc 0],(.set 2),[]⟩]
def ab:Aq:=⟨2,7,(.seq (.ops Vu) (.seq (.ops Vv) (.seq (.ops Vw) (.seq (.seq (.ops Vx) (.block 0 (.loop K5))) (.seq (.ops QY) .ret))))),[((.var 2),none)]⟩
def V0:List AC:=[
 ⟨none,.mk (fun l=>match l with | [v]=>DH 122 v | _=>none),[.var 1],(.set 2),[]⟩,
 ⟨none,.p1 some,[(.const (.int .i64 (0)))],(.set 3),[]⟩]
def V1:List AC:=[
 ⟨none,.p1 some,[(.const (.int .i64 (0)))],(.set 4),[]⟩]
def QZ:List AC:=[
 ⟨none,.p1 AU,[.var 0],.push,[]⟩,
 ⟨none,.p1 (fun x=>AB Tryz.prog 80 x 0),[.loc 0],.push,[]⟩,
 ⟨none,.r1 (fun s a=>AG Tryz.prog s 78 a),[.loc 0],.push,[]⟩,
 ⟨none,.r (fun s l=>match l with | [x]=>BT Tryz.prog s 78 x | _=>none),[.loc 0],.push,[]⟩,
 ⟨none,.p2 (AO Tryz.prog .lss 3),[.var 4,.loc 0],(.set 5),[]⟩]
def V2:List AC:=[
 ⟨none,.p1 AU,[.var 0],.push,[]⟩,
 ⟨none,.p1 (fun x=>AB Tryz.prog 80 x 0),[.loc 0],.push,[]⟩,
 ⟨none,.r1 (fun s a=>AG Tryz.prog s 78 a),[.loc 0],.push,[]⟩,
 ⟨none,.p2 (AK Tryz.prog 78),[.loc 0,.var 4],.push,[]⟩,
 ⟨none,.r1 (fun s a=>AG Tryz.prog s 122 a),[.loc 0],.push,[]⟩,
 ⟨none,.r1 (fun s a=>AG Tryz.prog s 122 a),[.var 2],.push,[]⟩,
 ⟨none,.call 108,[.loc 1,.loc 0],(.set 6),[]⟩]
def V3:List AC:=[
 ⟨none,.p1 some,[.var 4],(.set 3),[]⟩]
def V4:List AC:=[
 ⟨none,.p1 some,[.var 4],.push,[]⟩,
 ⟨none,.p2 (AO Tryz.prog .add 3),[(.loc 0),(.const (.int .i64 (1)))],.push,[]⟩,
 ⟨none,.p1 some,[.loc 0],(.set 4),[]⟩]
def K6:AZ:=(.seq (.seq (.ops QZ) (.cond (.var 5)
 .skip
 (.exit 0))) (.seq (.block 1 (.seq (.ops V2) (.cond (.var 6)
 (.seq (.ops V3) .ret)
 .skip))) (.ops V4)))
def V5:List AC:=[
 ⟨none,.p1 AU,[.var 0],.push,[]⟩,
 ⟨none,.p1 (fun x=>AB Tryz.prog 80 x 0),[.loc 0],.push,[]⟩,
 ⟨none,.r1 (fun s a=>AG Tryz.prog s 78 a),[.loc 0],.push,[]⟩,
 ⟨none,.r1 (fun s a=>AG Tryz.prog s 122 a),[.var 2],.push,[]⟩,
 ⟨none,.mk (fun l=>(Ae Tryz.prog 78 1 (zipIdx [0] l)).bind fun r=>some (r,.slice 1)),[.loc 0],.push,[]⟩,
 ⟨none,.e (fun s l=>BC Tryz.prog s [78,78] l),[.loc 2,.loc 0],.push,[]⟩,
 ⟨none,.p1 AU,[.var 0],.push,[]⟩,
 ⟨none,.p1 (fun x=>AB Tryz.prog 80 x 0),[.loc 0],.push,[]⟩,
 ⟨none,.e (fun s=>Xs (fun a x=>Xu (Ar Tryz.prog s 78 a x))),[.loc 0,.loc 2],.push,[]⟩]
def V6:List AC:=[
 ⟨none,.p1 AU,[.var 0],.push,[]⟩,
 ⟨none,.p1 (fun x=>AB Tryz.prog 80 x 0),[.loc 0],.push,[]⟩,
 ⟨none,.r1 (fun s a=>AG Tryz.prog s 78 a),[.loc 0],.push,[]⟩,
 ⟨none,.r (fun s l=>match l with | [x]=>BT Tryz.prog s 78 x | _=>none),[.loc 0],.push,[]⟩,
 ⟨none,.p2 (AO Tryz.prog .sub 3),[(.loc 0),(.const (.int .i64 (1)))],.push,[]⟩,
 ⟨none,.p1 some,[.loc 0],(.set 3),[]⟩]
def ac:Aq:=⟨2,7,(.seq (.ops V0) (.seq (.seq (.ops V1) (.block 0 (.loop K6))) (.seq (.ops V5) (.seq (.ops V6) .ret)))),[((.var 3),none)]⟩
def V7:List AC:=[
 ⟨none,.mk (fun l=>match l with | [v]=>DH 43 v | _=>none),[.var 0],(.set 1),[]⟩,
 ⟨none,.mk (fun l=>match l with | []=>Bi Tryz.prog 43 | _=>none),[],(.set 2),[]⟩]
def V8:List AC:=[
 ⟨none,.r1 (fun s a=>AG Tryz.prog s 43 a),[.var 1],.push,[]⟩,
 ⟨none,.call 109,[.loc 0],.push,[]⟩,
 ⟨none,.p1 (Pf Tryz.prog Go.UnOp.not),[.loc 0],.push,[]⟩,
 ⟨(some ((.loc 0),false)),.p1 (fun x=>AB Tryz.prog 43 x 0),[.var 1],.push,[]⟩,
 ⟨(some ((.loc 1),false)),.r1 (fun s a=>AG Tryz.prog s 3 a),[.loc 0],.push,[]⟩,
 ⟨(some ((.loc 2),false)),.p2 (AO Tryz.prog .eql 3),[(.loc 0),(.const (.int .i64 (5)))],.push,[]⟩,
 ⟨none,.p Rn,[(.loc 3),(.const (.bool true)),(.loc 0)],.push,[]⟩,
 ⟨(some ((.loc 0),false)),.p1 (fun x=>AB Tryz.prog 43 x 4),[.var 1],.push,[]⟩,
 ⟨(some ((.loc 1),false)),.r1 (fun s a=>AG Tryz.prog s 39 a),[.loc 0],.push,[]⟩,
 ⟨(some ((.loc 2),false)),.r (fun s l=>match l with | [x]=>BT Tryz.prog s 39 x | _=>none),[.loc 0],.push,[]⟩,
 ⟨(some ((.loc 3),false)),.p2 (AO Tryz.prog .gtr 3),[(.loc 0),(.const (.int .i64 (0)))],.push,[]⟩,
 ⟨none,.p Rn,[(.loc 4),(.const (.bool true)),(.loc 0)],(.set 3),[]⟩]
def ZF:List AC:=[
 ⟨none,.p (fun l=>AR Tryz.prog 43 (zipIdx [] l)),[],.push,[]⟩,
 ⟨none,.e (fun s=>Xs (fun a x=>Xu (Ar Tryz.prog s 43 a x))),[.var 2,.loc 0],.push,[]⟩]
def V9:List AC:=[
 ⟨none,.r1 (fun s a=>AG Tryz.prog s 43 a),[.var 1],.push,[]⟩,
 ⟨none,.e (fun s=>Xs (fun a x=>Xu (Ar Tryz.prog s 43 a x))),[.var 2,.loc 0],.push,[]⟩]
def ae:Aq:=⟨1,4,(.seq (.ops V7) (.seq (.seq (.ops V8) (.cond (.var 3)
 (.seq (.ops ZF) .ret)
 .skip)) (.seq (.ops V9) .ret))),[((.var 2),some 43)]⟩
def WA:List AC:=[
 ⟨none,.p1 some,[(.const (.int .i64 (0)))],(.set 3),[]⟩]
def WB:List AC:=[
 ⟨none,.p1 AU,[.var 0],.push,[]⟩,
 ⟨none,.p1 (fun x=>AB Tryz.prog 80 x 0),[.loc 0],.push,[]⟩,
 ⟨none,.r1 (fun s a=>AG Tryz.prog s 78 a),[.loc 0],.push,[]⟩,
 ⟨none,.r (fun s l=>match l with | [x]=>BT Tryz.prog s 78 x | _=>none),[.loc 0],.push,[]⟩,
 ⟨none,.p1 some,[.loc 0],(.set 4),[]⟩]
def WD:List AC:=[
 ⟨none,.p1 some,[(.const (.slice none 0 (some 0)))],(.set 5),[]⟩]
def WE:List AC:=[
 ⟨none,.p1 some,[(.const (.int .i64 (0)))],(.set 6),[]⟩]
def Ng:List AC:=[
 ⟨none,.r (fun s l=>match l with | [x]=>BT Tryz.prog s 27 x | _=>none),[.var 2],.push,[]⟩,
 ⟨none,.p2 (AO Tryz.prog .lss 3),[.var 6,.loc 0],(.set 8),[]⟩]
def Q1:List AC:=[
 ⟨none,.p2 (AK Tryz.prog 27),[.var 2,.var 6],.push,[]⟩,
 ⟨none,.r1 (fun s a=>AG Tryz.prog s 3 a),[.loc 0],.push,[]⟩,
 ⟨none,.p1 some,[.loc 0],(.set 7),[]⟩]
def Q2:List AC:=[
 ⟨none,.p2 (AO Tryz.prog .geq 3),[.var 7,.var 4],(.set 9),[]⟩]
def WG:List AC:=[
 ⟨none,.p1 some,[(.const (.int .i64 (-1)))],(.set 7),[]⟩]
def Q3:List AC:=[
 ⟨none,.p1 some,[.var 5],.push,[]⟩,
 ⟨none,.call 110,[.var 0,.var 7],.push,[]⟩,
 ⟨none,.mk (fun l=>(Ae Tryz.prog 27 1 (zipIdx [0] l)).bind fun r=>some (r,.slice 1)),[.loc 0],.push,[]⟩,
 ⟨none,.e (fun s l=>BC Tryz.prog s [27,27] l),[.loc 2,.loc 0],.push,[]⟩,
 ⟨none,.p1 some,[.loc 0],(.set 5),[]⟩]
def Q4:List AC:=[
 ⟨none,.p1 some,[.var 6],.push,[]⟩,
 ⟨none,.p2 (AO Tryz.prog .add 3),[(.loc 0),(.const (.int .i64 (1)))],.push,[]⟩,
 ⟨none,.p1 some,[.loc 0],(.set 6),[]⟩]
def Gg:AZ:=(.seq (.seq (.ops Ng) (.cond (.var 8)
 .skip
 (.exit 0))) (.seq (.block 1 (.seq (.ops Q1) (.seq (.seq (.ops Q2) (.cond (.var 9)
 (.ops WG)
 .skip)) (.ops Q3)))) (.ops Q4)))
def Q0:List AC:=[
 ⟨none,.p (fun l=>AR Tryz.prog 122 (zipIdx [0,3] l)),[.var 1,.var 5],.push,[]⟩,
 ⟨none,.call 81,[.var 0,.loc 0],.push,[]⟩,
 ⟨none,.p1 some,[.loc 0],(.set 3),[]⟩]
def af:Aq:=⟨3,10,(.seq (.ops WA) (.seq (.ops WB) (.seq (.ops WD) (.seq (.seq (.ops WE) (.block 0 (.loop Gg))) (.seq (.ops Q0) .ret))))),[((.var 3),none)]⟩
def Ps:List AC:=[
 ⟨none,.mk (fun l=>match l with | []=>Bi Tryz.prog 122 | _=>none),[],(.set 2),[]⟩]
def Pt:List AC:=[
 ⟨none,.call 126,[.var 0,.var 1],.push,[]⟩,
 ⟨none,.p1 (Pf Tryz.prog Go.UnOp.not),[.loc 0],(.set 3),[]⟩]
def WW:List AC:=[
 ⟨none,.p (fun l=>AR Tryz.prog 122 (zipIdx [0] l)),[(.const (.int .i64 (2)))],.push,[]⟩,
 ⟨none,.e (fun s=>Xs (fun a x=>Xu (Ar Tryz.prog s 122 a x))),[.var 2,.loc 0],.push,[]⟩]
def Pu:List AC:=[
 ⟨none,.p1 AU,[.var 0],.push,[]⟩,
 ⟨none,.p1 (fun x=>AB Tryz.prog 80 x 0),[.loc 0],.push,[]⟩,
 ⟨none,.r1 (fun s a=>AG Tryz.prog s 78 a),[.loc 0],.push,[]⟩,
 ⟨none,.p2 (AK Tryz.prog 78),[.loc 0,.var 1],.push,[]⟩,
 ⟨none,.r1 (fun s a=>AG Tryz.prog s 122 a),[.loc 0],.push,[]⟩,
 ⟨none,.e (fun s=>Xs (fun a x=>Xu (Ar Tryz.prog s 122 a x))),[.var 2,.loc 0],.push,[]⟩]
def Yr:Aq:=⟨2,4,(.seq (.ops Ps) (.seq (.seq (.ops Pt) (.cond (.var 3)
 (.seq (.ops WW) .ret)
 .skip)) (.seq (.ops Pu) .ret))),[((.var 2),some 122)]⟩
def J7:List AC:=[
 ⟨none,.mk (fun l=>match l with | [v]=>DH 122 v | _=>none),[.var 0],(.set 2),[]⟩,
 ⟨none,.mk (fun l=>match l with | [v]=>DH 122 v | _=>none),[.var 1],(.set 3),[]⟩,
 ⟨none,.p1 some,[(.const (.bool false))],(.set 4),[]⟩]
def J8:List AC:=[
 ⟨none,.p1 (fun x=>AB Tryz.prog 122 x 0),[.var 2],.push,[]⟩,
 ⟨none,.r1 (fun s a=>AG Tryz.prog s 3 a),[.loc 0],.push,[]⟩,
 ⟨none,.p1 (fun x=>AB Tryz.prog 122 x 0),[.var 3],.push,[]⟩,
 ⟨none,.r1 (fun s a=>AG Tryz.prog s 3 a),[.loc 0],.push,[]⟩,
 ⟨none,.p2 (AO Tryz.prog .neq 3),[.loc 2,.loc 0],.push,[]⟩,
 ⟨(some ((.loc 0),false)),.p1 (fun x=>AB Tryz.prog 122 x 1),[.var 2],.push,[]⟩,
 ⟨(some ((.loc 1),false)),.r1 (fun s a=>AG Tryz.prog s 3 a),[.loc 0],.push,[]⟩,
 ⟨(some ((.loc 2),false)),.p1 (fun x=>AB Tryz.prog 122 x 1),[.var 3],.push,[]⟩,
 ⟨(some ((.loc 3),false)),.r1 (fun s a=>AG Tryz.prog s 3 a),[.loc 0],.push,[]⟩,
 ⟨(some ((.loc 4),false)),.p2 (AO Tryz.prog .neq 3),[.loc 2,.loc 0],.push,[]⟩,
 ⟨none,.p Rn,[(.loc 5),(.const (.bool true)),(.loc 0)],.push,[]⟩,
 ⟨(some ((.loc 0),false)),.p1 (fun x=>AB Tryz.prog 122 x 2),[.var 2],.push,[]⟩,
 ⟨(some ((.loc 1),false)),.r1 (fun s a=>AG Tryz.prog s 43 a),[.loc 0],.push,[]⟩,
 ⟨(some ((.loc 2),false)),.p1 (fun x=>AB Tryz.prog 122 x 2),[.var 3],.push,[]⟩,
 ⟨(some ((.loc 3),false)),.r1 (fun s a=>AG Tryz.prog s 43 a),[.loc 0],.push,[]⟩,
 ⟨(some ((.loc 4),false)),.call 127,[.loc 2,.loc 0],.push,[]⟩,
 ⟨(some ((.loc 5),false)),.p1 (Pf Tryz.prog Go.UnOp.not),[.loc 0],.push,[]⟩,
 ⟨none,.p Rn,[(.loc 6),(.const (.bool true)),(.loc 0)],.push,[]⟩,
 ⟨(some ((.loc 0),false)),.p1 (fun x=>AB Tryz.prog 122 x 3),[.var 2],.push,[]⟩,
 ⟨(some ((.loc 1),false)),.r1 (fun s a=>AG Tryz.prog s 27 a),[.loc 0],.push,[]⟩,
 ⟨(some ((.loc 2),false)),.r (fun s l=>match l with | [x]=>BT Tryz.prog s 27 x | _=>none),[.loc 0],.push,[]⟩,
 ⟨(some ((.loc 3),false)),.p1 (fun x=>AB Tryz.prog 122 x 3),[.var 3],.push,[]⟩,
 ⟨(some ((.loc 4),false)),.r1 (fun s a=>AG Tryz.prog s 27 a),[.loc 0],.push,[]⟩,
 ⟨(some ((.loc 5),false)),.r (fun s l=>match l with | [x]=>BT Tryz.prog s 27 x | _=>none),[.loc 0],.push,[]⟩,
 ⟨(some ((.loc 6),false)),.p2 (AO Tryz.prog .neq 3),[.loc 3,.loc 0],.push,[]⟩,
 ⟨none,.p Rn,[(.loc 7),(.const (.bool true)),(.loc 0)],(.set 6),[]⟩]
def Hz:List AC:=[
 ⟨none,.p1 some,[(.const (.bool false))],(.set 4),[]⟩]
def Pv:List AC:=[
 ⟨none,.p1 some,[(.const (.int .i64 (0)))],(.set 5),[]⟩]
def J9:List AC:=[
 ⟨none,.p1 (fun x=>AB Tryz.prog 122 x 3),[.var 2],.push,[]⟩,
 ⟨none,.r1 (fun s a=>AG Tryz.prog s 27 a),[.loc 0],.push,[]⟩,
 ⟨none,.r (fun s l=>match l with | [x]=>BT Tryz.prog s 27 x | _=>none),[.loc 0],.push,[]⟩,
 ⟨none,.p2 (AO Tryz.prog .lss 3),[.var 5,.loc 0],(.set 7),[]⟩]
def MG:List AC:=[
 ⟨none,.p1 (fun x=>AB Tryz.prog 122 x 3),[.var 2],.push,[]⟩,
 ⟨none,.r1 (fun s a=>AG Tryz.prog s 27 a),[.loc 0],.push,[]⟩,
 ⟨none,.p2 (AK Tryz.prog 27),[.loc 0,.var 5],.push,[]⟩,
 ⟨none,.r1 (fun s a=>AG Tryz.prog s 3 a),[.loc 0],.push,[]⟩,
 ⟨none,.p1 (fun x=>AB Tryz.prog 122 x 3),[.var 3],.push,[]⟩,
 ⟨none,.r1 (fun s a=>AG Tryz.prog s 27 a),[.loc 0],.push,[]⟩,
 ⟨none,.p2 (AK Tryz.prog 27),[.loc 0,.var 5],.push,[]⟩,
 ⟨none,.r1 (fun s a=>AG Tryz.prog s 3 a),[.loc 0],.push,[]⟩,
 ⟨none,.p2 (AO Tryz.prog .neq 3),[.loc 4,.loc 0],(.set 8),[]⟩]
def Pw:List AC:=[
 ⟨none,.p1 some,[(.const (.bool false))],(.set 4),[]⟩]
def Px:List AC:=[
 ⟨none,.p1 some,[.var 5],.push,[]⟩,
 ⟨none,.p2 (AO Tryz.prog .add 3),[(.loc 0),(.const (.int .i64 (1)))],.push,[]⟩,
 ⟨none,.p1 some,[.loc 0],(.set 5),[]⟩]
def Ge:AZ:=(.seq (.seq (.ops J9) (.cond (.var 7)
 .skip
 (.exit 0))) (.seq (.block 1 (.seq (.ops MG) (.cond (.var 8)
 (.seq (.ops Pw) .ret)
 .skip))) (.ops Px)))
def MH:List AC:=[
 ⟨none,.p1 some,[(.const (.bool true))],(.set 4),[]⟩]
def TM:Aq:=⟨2,9,(.seq (.ops J7) (.seq (.seq (.ops J8) (.cond (.var 6)
 (.seq (.ops Hz) .ret)
 .skip)) (.seq (.seq (.ops Pv) (.block 0 (.loop Ge))) (.seq (.ops MH) .ret)))),[((.var 4),none)]⟩
def KA:List AC:=[
 ⟨none,.p1 some,[(.const (.int .i64 (0)))],(.set 2),[]⟩]
def KB:List AC:=[
 ⟨none,.p2 (AO Tryz.prog .lss 3),[(.var 1),(.const (.int .i64 (0)))],.push,[]⟩,
 ⟨(some ((.loc 0),false)),.p1 some,[.var 1],.push,[]⟩,
 ⟨(some ((.loc 1),false)),.p1 some,[.var 0],.push,[]⟩,
 ⟨(some ((.loc 2),false)),.p1 AU,[.loc 0],.push,[]⟩,
 ⟨(some ((.loc 3),false)),.p1 (fun x=>AB Tryz.prog 80 x 0),[.loc 0],.push,[]⟩,
 ⟨(some ((.loc 4),false)),.r1 (fun s a=>AG Tryz.prog s 78 a),[.loc 0],.push,[]⟩,
 ⟨(some ((.loc 5),false)),.r (fun s l=>match l with | [x]=>BT Tryz.prog s 78 x | _=>none),[.loc 0],.push,[]⟩,
 ⟨(some ((.loc 6),false)),.p2 (AO Tryz.prog .geq 3),[.loc 5,.loc 0],.push,[]⟩,
 ⟨none,.p Rn,[(.loc 7),(.const (.bool true)),(.loc 0)],(.set 3),[]⟩]
def MI:List AC:=[
 ⟨none,.p (fun l=>AR Tryz.prog 43 (zipIdx [] l)),[],.push,[]⟩,
 ⟨none,.call 65,[.var 0,.loc 0],.push,[]⟩,
 ⟨none,.p1 some,[.loc 0],(.set 2),[]⟩]
def Py:List AC:=[
 ⟨none,.p1 some,[.var 1],(.set 2),[]⟩]
def TN:Aq:=⟨2,4,(.seq (.ops KA) (.seq (.seq (.ops KB) (.cond (.var 3)
 (.seq (.ops MI) .ret)
 .skip)) (.seq (.ops Py) .ret))),[((.var 2),none)]⟩
def MJ:List AC:=[
 ⟨none,.p1 some,[(.const (.bool false))],(.set 2),[]⟩]
def MK:List AC:=[
 ⟨none,.p2 (AO Tryz.prog .geq 3),[(.var 1),(.const (.int .i64 (0)))],.push,[]⟩,
 ⟨(some ((.loc 0),true)),.p1 some,[.var 1],.push,[]⟩,
 ⟨(some ((.loc 1),true)),.p1 some,[.var 0],.push,[]⟩,
 ⟨(some ((.loc 2),true)),.p1 AU,[.loc 0],.push,[]⟩,
 ⟨(some ((.loc 3),true)),.p1 (fun x=>AB Tryz.prog 80 x 0),[.loc 0],.push,[]⟩,
 ⟨(some ((.loc 4),true)),.r1 (fun s a=>AG Tryz.prog s 78 a),[.loc 0],.push,[]⟩,
 ⟨(some ((.loc 5),true)),.r (fun s l=>match l with | [x]=>BT Tryz.prog s 78 x | _=>none),[.loc 0],.push,[]⟩,
 ⟨(some ((.loc 6),true)),.p2 (AO Tryz.prog .lss 3),[.loc 5,.loc 0],.push,[]⟩,
 ⟨none,.p Rn,[(.loc 7),(.loc 0),(.const (.bool false))],.push,[]⟩,
 ⟨none,.p1 some,[.loc 0],(.set 2),[]⟩]
def WX:Aq:=⟨2,3,(.seq (.ops MJ) (.seq (.ops MK) .ret)),[((.var 2),none)]⟩
theorem ZT:AP Tryz.prog 8=some c8:=by kernel_rfl
theorem ZU:AP Tryz.prog 9=some c9:=by kernel_rfl
theorem W7:AP Tryz.prog 17=some YS:=by kernel_rfl
theorem ZS:AP Tryz.prog 5=some c5:=by kernel_rfl
theorem W6:AP Tryz.prog 16=some aF:=by kernel_rfl
theorem XJ:AP Tryz.prog 41=some aR:=by kernel_rfl
theorem XK:AP Tryz.prog 42=some YT:=by kernel_rfl
theorem XO:AP Tryz.prog 61=some aV:=by kernel_rfl
theorem XP:AP Tryz.prog 62=some Zr:=by kernel_rfl
theorem XQ:AP Tryz.prog 63=some aW:=by kernel_rfl
theorem XR:AP Tryz.prog 64=some aX:=by kernel_rfl
theorem XS:AP Tryz.prog 65=some aY:=by kernel_rfl
theorem XT:AP Tryz.prog 66=some aZ:=by kernel_rfl
theorem XU:AP Tryz.prog 67=some aa:=by kernel_rfl
theorem XV:AP Tryz.prog 80=some ab:=by kernel_rfl
theorem XW:AP Tryz.prog 81=some ac:=by kernel_rfl
theorem XX:AP Tryz.prog 82=some ae:=by kernel_rfl
theorem XY:AP Tryz.prog 83=some af:=by kernel_rfl
theorem TR:AP Tryz.prog 107=some Yr:=by kernel_rfl
theorem TS:AP Tryz.prog 108=some TM:=by kernel_rfl
theorem TT:AP Tryz.prog 110=some TN:=by kernel_rfl
theorem TU:AP Tryz.prog 126=some WX:=by kernel_rfl
end
end Go.Proofs.YtickdehehcmfbaaGreatDoor.Am
set_option linter.unusedVariables false
set_option linter.unusedSimpArgs false
namespace Go.Proofs.YtickdehehcmfbaaGreatDoor.Am
open Go Go.Proofs
noncomputable section
theorem R9:C9 Tryz.prog 60=some 65:=by kernel_rfl
theorem Pr(m:Nat):AR Tryz.prog 62 (zipIdx [1] [.map (some m)])=some (.agg [.slice none 0 (some 0),.map (some m)]):=by kernel_rfl
theorem YB{E:Be}(hE:Ah E){s:AD}(hg:Cc s 1 A6=true)(h1:1<s.next){K:AV→AD→Prop}
  (hK:∀p s' O',BK s.next s s'→AS s' p [] O'→CA s' O'→(∀j∈O',s.next≤j)→K (.ptr (some (p,0))) s'):WF E 28 [] K s:=by
 refine hE.go XD (by decide) rfl ?_
 generalize hs:s.next=b
 have hs0:s=ext s []:=(Aa s).symm
 rw[hs]at h1
 have hnx:(ext s [.map 65 [],R 62 0 false [.slice none 0 (some 0),.map (some (nid b 0))]]).next=b+2:=by rw[Wm,hs,AF];rfl
 rw[hs0]
 simp only[aL,Uv,Uw,R9,Pr,hs,Qa,Qb,Qc,Qd,Qe,Qf,Qg,Qh,Qi,Qj,Qk,Ql,Qm,Qn,true_and,and_true,Qo,Qp,Qq,Qr,Qs,Qt,Qu,Qv,Qw,Qx,Qy,Qz,Ra,Rb,Rc,Rd,Re,Rf,Rg,Rh,Ri,Rj,Rk,Rl,Rm,Ya,Yb,Yc,Rn,Ro,Xv,Yd,Ye,Rq,Rs,Rt,Ru,Rw,Rx,Ry,Rz,Wa,Wb,Wc,Wd,We,Wf,Wg,Wh,Wi,Wj,Wl,Wm,Wn,Wp,Wq,Wr,Ws,Wt,Wu,Wv,Ww,Wx,Wy,Wz,Xa,Xb,Xc,Xd,Xe,Xf,Xg,Xh,Xi,Xj,Xk,Xl,Xm,Xn,Xo,Xp,Xq,Xr,ao,au,ap,am,aw,ay,List.getElem?_cons_zero,List.getElem?_cons_succ,aq,az,bA,bB,ak,Nat.reduceAdd,Nat.reduceLT,Nat.reduceLeDiff,decide_true,decide_false,Bool.true_and,Bool.and_true,bC,aj,Option.some.injEq,Xs,Xt,Xu,Xv]
 have hge:∀j∈[nid b 1,nid b 0],b≤j:=fun j hj=>by
  simp only[bT,bm,or_false]at hj
  rcases hj with rfl | rfl<;>rw[AF]<;>omega
 refine hK (nid b 1) _ [nid b 1,nid b 0] AQ ?_ ⟨by rw[BP (Wh (by omega))];exact hg,by rw[hnx];omega,fun hm=>by have:=hge 1 hm;omega⟩ (by rw[hs];exact hge)
 refine⟨⟨List.nodup_nil,fun i t h=>by simp at h,fun t h=>by cases h⟩,bL _,.slice none 0 (some 0),nid b 0,[],[],?_,E8.nil _ _ _,?_,rfl,fun i t m h=>by simp at h,rfl,?_,?_,?_,by simp,by simp⟩
 ·rw[Wg hs (by simp)];rfl
 ·rw[Wg hs (by simp)];rfl
 ·rw[hnx,AF];omega
 ·rw[hnx,AF];omega
 ·rw[AF,AF];omega
set_option maxRecDepth 20000 in
theorem IP    {E : Be}  (hE : Ah    E) {s : AD}  {v : AV} {l : List Int} (h : An     s v l) (hl : l.length ≤ 1000000) {x : Int} {K : AV → AD  → Prop} (hK : K (.bool (decide (x ∈ l))) s) : WF E 9 [v, iv x] K s := by
  refine hE.go ZU (by decide) rfl ?_
  have hlen:=h.len
  simp only[c9,ZN,ZO,Qa,Qb,Qc,Qd,Qe,Qf,Qg,Qh,Qi,Qj,Qk,Ql,Qm,Qn,true_and,and_true,Qo,Qp,Qq,Qr,Qs,Qt,Qu,Qv,Qw,Qx,Qy,Qz,Ra,Rb,Rc,Rd,Re,Rf,Rg,Rh,Ri,Rj,Rk,Rl,Rm,Ya,Yb,Yc,Rn,Ro,Xv,Yd,Ye,Rq,Rs,Rt,Ru,Rw,Rx,Ry,Rz,Wa,Wb,Wc,Wd,We,Wf,Wg,Wh,Wi,Wj,Wl,Wm,Wn,Wp,Wq,Wr,Ws,Wt,Wu,Wv,Ww,Wx,Wy,Wz,Xa,Xb,Xc,Xd,Xe,Xf,Xg,Xh,Xi,Xj,Xk,Xl,Xm,Xn,Xo,Xp,Xq,Xr,ao,au,ap,am,aw,ay,List.getElem?_cons_zero,List.getElem?_cons_succ,aq,az,bA,bB,ak,Nat.reduceAdd,Nat.reduceLT,Nat.reduceLeDiff,decide_true,decide_false,Bool.true_and,Bool.and_true,bC,aj,Option.some.injEq,Xs,Xt,Xu,Xv]
  have key:∀ (l2 l1:List Int) (a4 a5:AV),l=l1++l2→x ∉ l1→WC E none (AZ.loop OX) (Ag 0 (Io (fun x_1 x_2 x_3=>Qb E W0 (fun v s'=>I3 (Bs s' x_2) fun s'=>K (Hb v 2) s') [] x_1 x_3) (Ends Tryz.prog [(CX.var 2,none)] K)))
      [v,iv x,.bool false,iv (l1.length:Int),a4,a5] [] s:=by
    intro l2
    induction l2 with
    | nil =>
      intro l1 a4 a5 hll hx
      refine WC.loop' ?_
      have hlt:¬ ((l1.length:Int)<(l.length:Int)):=by rw[hll];simp
      simp only[OX,TO,hlen,hlt,decide_false,Qa,Qb,Qc,Qd,Qe,Qf,Qg,Qh,Qi,Qj,Qk,Ql,Qm,Qn,true_and,and_true,Qo,Qp,Qq,Qr,Qs,Qt,Qu,Qv,Qw,Qx,Qy,Qz,Ra,Rb,Rc,Rd,Re,Rf,Rg,Rh,Ri,Rj,Rk,Rl,Rm,Ya,Yb,Yc,Rn,Ro,Xv,Yd,Ye,Rq,Rs,Rt,Ru,Rw,Rx,Ry,Rq]
      rw[if_pos trivial]
      simp only[W0,Qa,Qb,Qc,Qd,Qe,Qf,Qg,Qh,Qi,Qj,Qk,Ql,Qm,Qn,true_and,and_true,Qo,Qp,Qq,Qr,Qs,Qt,Qu,Qv,Qw,Qx,Qy,Qz,Ra,Rb,Rc,Rd,Re,Rf,Rg,Rh,Ri,Rj,Rk,Rl,Rm,Ya,Yb,Yc,Rn,Ro,Xv,Yd,Ye,Rq,Rs,Rt,Ru,Rw,Rx,Ry]
      have hx2:decide (x∈l)=false:=decide_eq_false (by rw[hll];simpa using hx)
      rw[hx2]at hK
      exact hK
    | cons y l2 ih =>
      intro l1 a4 a5 hll hx
      refine WC.loop' ?_
      obtain⟨W,hW⟩:∃W,W=AZ.loop OX:=⟨_,rfl⟩
      rw[← hW]
      have hlt:((l1.length:Int)<(l.length:Int)):=by rw[hll];simp;omega
      have hltn:l1.length<l.length:=by omega
      have hadd:i64 ((l1.length:Int)+1):=by unfold i64;omega
      obtain⟨j,q,cap,rfl,hj,hld⟩:=h.at (k:=l1.length) (x:=y) (by rw[hll];simp)
      by_cases e:y=x
      · have hd:decide (y=x)=true:=decide_eq_true e
        simp only[OX,TO,Wo,ZP,hlen,hlt,decide_true,Qa,Qb,Qc,Qd,Qe,Qf,Qg,Qh,Qi,Qj,Qk,Ql,Qm,Qn,true_and,and_true,Qo,Qp,Qq,Qr,Qs,Qt,Qu,Qv,Qw,Qx,Qy,Qz,Ra,Rb,Rc,Rd,Re,Rf,Rg,Rh,Ri,Rj,Rk,Rl,Rm,Ya,Yb,Yc,Rn,Ro,Xv,Yd,Ye,Rq,Rs,Rt,Ru,Rw,Rx,Ry,Rq,Rw,AY Tryz.underlying27 Ea hltn,C6,hld,hd,bR,Rz,Wa,Wb,Wc,Wd,We,Wf,Wg,Wh,Wi,Wj,Wl,Wm,Wn,Wp,Wq,Wr,Ws,Wt,Wu,Wv,Ww,Wx,Wy,Wz,Xa,Xb,Xc,Xd,Xe,Xf,Xg,Xh,Xi,Xj,Xk,Xl,Xm,Xn,Xo,Xp,Xq,Xr,ao,au,ap,am,aw,ay,List.getElem?_cons_zero,List.getElem?_cons_succ,aq,az,bA,bB,ak,Nat.reduceAdd,Nat.reduceLT,Nat.reduceLeDiff,decide_true,decide_false,Bool.true_and,Bool.and_true,bC,aj,Option.some.injEq,Xs,Xt,Xu,Xv]
        subst e
        have hx2:decide (y∈l)=true:=decide_eq_true (by rw[hll];simp)
        rw[hx2]at hK
        exact hK
      · have hd : decide (y = x) = false := decide_eq_false e
        have:=ih (l1++[y]) (.bool true) (.bool false) (by rw[hll];simp) (by simp[hx];exact fun h=>e h.symm)
        rw[← hW,show(l1++[y]).length=l1.length+1 from by simp]at this
        simp only[OX,TO,Wo,ZQ,hlen,hlt,decide_true,Qa,Qb,Qc,Qd,Qe,Qf,Qg,Qh,Qi,Qj,Qk,Ql,Qm,Qn,true_and,and_true,Qo,Qp,Qq,Qr,Qs,Qt,Qu,Qv,Qw,Qx,Qy,Qz,Ra,Rb,Rc,Rd,Re,Rf,Rg,Rh,Ri,Rj,Rk,Rl,Rm,Ya,Yb,Yc,Rn,Ro,Xv,Yd,Ye,Rq,Rs,Rt,Ru,Rw,Rx,Ry,Rq,Rw,AY Tryz.underlying27 Ea hltn,C6,hld,hd,bR,BI _ _ _ _ hadd,Rz,Wa,Wb,Wc,Wd,We,Wf,Wg,Wh,Wi,Wj,Wl,Wm,Wn,Wp,Wq,Wr,Ws,Wt,Wu,Wv,Ww,Wx,Wy,Wz,Xa,Xb,Xc,Xd,Xe,Xf,Xg,Xh,Xi,Xj,Xk,Xl,Xm,Xn,Xo,Xp,Xq,Xr,ao,au,ap,am,aw,ay,List.getElem?_cons_zero,List.getElem?_cons_succ,aq,az,bA,bB,ak,Nat.reduceAdd,Nat.reduceLT,Nat.reduceLeDiff,decide_true,decide_false,Bool.true_and,Bool.and_true,bC,aj,Option.some.injEq,Xs,Xt,Xu,Xv]
        exact this
  exact key l [] _ _ rfl (by simp)
structure FN where
 kind:Int
 id:Int
 con:Nat
 a:Int
 b:Int
 c:Int
def FN.cells(o:FN):List AV:=[iv o.kind,iv o.id]++(Tm.con o.con).cells++[iv o.a,iv o.b,iv o.c]
def FN.ok(o:FN):Prop:=(o.kind=0∨o.kind=1∨o.kind=2∨o.kind=3∨o.kind=4)∧o.con<13∧-1000≤o.id∧o.id≤900
def YU(S:List Tm)(o:FN):List Tm:=if o.kind=3 then DZ S.length S [o.a,o.b]else if o.kind=4 then DZ S.length S [o.a,o.b,o.c]else S
def Xx(S:List Tm)(o:FN):Tm:=
 if o.kind=0 then .var o.id else if o.kind=1 then .bnd (max o.id 0)else if o.kind=2 then .con o.con else if o.kind=3 then .sel (As S o.a) (As S o.b)else .upd (As S o.a) (As S o.b) (As S o.c)
def WH(S:List Tm)(o:FN):List Tm:=push (YU S o) (Xx S o)
theorem Nr(i o:Nat):AK Tryz.prog 44 (.ptr (some (i,o))) (.int .i64 0)=some (.ptr (some (i,o+0))):=by kernel_rfl
theorem Ns(i o:Nat):AK Tryz.prog 44 (.ptr (some (i,o))) (.int .i64 1)=some (.ptr (some (i,o+1))):=by kernel_rfl
theorem WJ(i o:Nat):AK Tryz.prog 44 (.ptr (some (i,o))) (.int .i64 2)=some (.ptr (some (i,o+2))):=by kernel_rfl
set_option maxRecDepth 20000 in
theorem ZW{E:Be}(hE:Ah E){s:AD}{p:Nat}{S:List Tm}{O:List Nat}(h:AS s p S O)(hg:CA s O)(hsm:S.length<90000){o:FN}(ho:o.ok){K:AV→AD→Prop}
  (hK:∀s' O',AS s' p (WH S o) O'→CA s' O'→Bu O s s'→AT O O' s→K (iv (ix (WH S o) (Xx S o):Int)) s'):WF E 17 [.ptr (some (p,0)),.agg o.cells] K s:=by
 obtain⟨kind,id,n,a,b',c⟩:=o
 obtain⟨hkd,hn,hi1,hi2⟩:=ho
 obtain⟨tag,c1,c2,c3,c5,c6,hc,_,d1,d2,d3,d5,d6⟩:=BF n hn
 have hcells:FN.cells ⟨kind,id,n,a,b',c⟩=[iv kind,iv id,iv tag,c1,c2,c3,.slice none 0 (some 0),c5,c6,iv a,iv b',iv c]:=by
  show [iv kind,iv id]++(Tm.con n).cells++_=_
  rw[hc];rfl
 have hid:i64 id:=by have h1:-1000≤id:=hi1;have h2:id≤900:=hi2;unfold i64;omega
 have hkd:kind=0∨kind=1∨kind=2∨kind=3∨kind=4:=hkd
 have hst:=fun os=>h.old (AQ (os:=os))
 have hgl:=fun os=>hg.old (AQ (os:=os))
 have hend:∀os s' O',AS s' p (WH S ⟨kind,id,n,a,b',c⟩) O'→Bu O (ext s os) s'→AT O O' (ext s os)→K (iv (ix (WH S ⟨kind,id,n,a,b',c⟩) (Xx S ⟨kind,id,n,a,b',c⟩):Int)) s':=fun os s' O' g1 g2 g3 =>
  hK s' O' g1 ((hgl os).step g2 g3) ((AQ.frO O).trans g2 (AT.refl O s)) (AT.trans (AT.refl O s) g3 (by rw[Wm,AF];omega))
 have hvar:=fun os K=>OI (K:=K) hE (hst os) (by omega) hid
 have hbnd:=fun os K=>T5 (K:=K) hE (hst os) (by omega) hid
 have hcon:=fun os K=>Ko (K:=K) hE (hst os) (by omega) hn (hgl os)
 have hsel:=fun os K=>YJ (K:=K) hE (hst os) (by omega) (hgl os) (d:=a) (k:=b')
 have hupd:=fun os K=>YP (K:=K) hE (hst os) (by omega) (hgl os) (d:=a) (k:=b') (a:=c)
 rw[hc]at hcon
 rw[hcells]
 refine hE.go W7 (by decide) rfl ?_
 generalize hs:s.next=b
 have hs0:s=ext s []:=(Aa s).symm
 rw[hs0]
 rcases hkd with rfl | rfl | rfl | rfl | rfl
 ·simp only[YS,JJ,JK,JL,Ua,Qa,Qb,Qc,Qd,Qe,Qf,Qg,Qh,Qi,Qj,Qk,Ql,Qm,Qn,true_and,and_true,Qo,Qp,Qq,Qr,Qs,Qt,Qu,Qv,Qw,Qx,Qy,Qz,Ra,Rb,Rc,Rd,Re,Rf,Rg,Rh,Ri,Rj,Rk,Rl,Rm,Ya,Yb,Yc,Rn,Ro,Xv,Yd,Ye,Rq,Rs,Rt,Ru,Rw,Rx,Ry,hs,C6,BZ,B0,Rw,Int.reduceEq,Rz,Wa,Wb,Wc,Wd,We,Wf,Wg,Wh,Wi,Wj,Wl,Wm,Wn,Wp,Wq,Wr,Ws,Wt,Wu,Wv,Ww,Wx,Wy,Wz,Xa,Xb,Xc,Xd,Xe,Xf,Xg,Xh,Xi,Xj,Xk,Xl,Xm,Xn,Xo,Xp,Xq,Xr,ao,au,ap,am,aw,ay,List.getElem?_cons_zero,List.getElem?_cons_succ,aq,az,bA,bB,ak,Nat.reduceAdd,Nat.reduceLT,Nat.reduceLeDiff,decide_true,decide_false,Bool.true_and,Bool.and_true,bC,aj,Option.some.injEq,Xs,Xt,Xu,Xv]
  refine hvar _ _ fun s' O' g1 g2 g3=>?_
  simp only[Qa,Qb,Qc,Qd,Qe,Qf,Qg,Qh,Qi,Qj,Qk,Ql,Qm,Qn,true_and,and_true,Qo,Qp,Qq,Qr,Qs,Qt,Qu,Qv,Qw,Qx,Qy,Qz,Ra,Rb,Rc,Rd,Re,Rf,Rg,Rh,Ri,Rj,Rk,Rl,Rm,Ya,Yb,Yc,Rn,Ro,Xv,Yd,Ye,Rq,Rs,Rt,Ru,Rw,Rx,Ry]
  exact hend _ s' O' g1 g2 g3
 ·simp only[YS,JJ,JK,JL,K2,Ub,Qa,Qb,Qc,Qd,Qe,Qf,Qg,Qh,Qi,Qj,Qk,Ql,Qm,Qn,true_and,and_true,Qo,Qp,Qq,Qr,Qs,Qt,Qu,Qv,Qw,Qx,Qy,Qz,Ra,Rb,Rc,Rd,Re,Rf,Rg,Rh,Ri,Rj,Rk,Rl,Rm,Ya,Yb,Yc,Rn,Ro,Xv,Yd,Ye,Rq,Rs,Rt,Ru,Rw,Rx,Ry,hs,C6,BZ,B0,Rw,Int.reduceEq,Rz,Wa,Wb,Wc,Wd,We,Wf,Wg,Wh,Wi,Wj,Wl,Wm,Wn,Wp,Wq,Wr,Ws,Wt,Wu,Wv,Ww,Wx,Wy,Wz,Xa,Xb,Xc,Xd,Xe,Xf,Xg,Xh,Xi,Xj,Xk,Xl,Xm,Xn,Xo,Xp,Xq,Xr,ao,au,ap,am,aw,ay,List.getElem?_cons_zero,List.getElem?_cons_succ,aq,az,bA,bB,ak,Nat.reduceAdd,Nat.reduceLT,Nat.reduceLeDiff,decide_true,decide_false,Bool.true_and,Bool.and_true,bC,aj,Option.some.injEq,Xs,Xt,Xu,Xv]
  refine hbnd _ _ fun s' O' g1 g2 g3=>?_
  simp only[Qa,Qb,Qc,Qd,Qe,Qf,Qg,Qh,Qi,Qj,Qk,Ql,Qm,Qn,true_and,and_true,Qo,Qp,Qq,Qr,Qs,Qt,Qu,Qv,Qw,Qx,Qy,Qz,Ra,Rb,Rc,Rd,Re,Rf,Rg,Rh,Ri,Rj,Rk,Rl,Rm,Ya,Yb,Yc,Rn,Ro,Xv,Yd,Ye,Rq,Rs,Rt,Ru,Rw,Rx,Ry]
  exact hend _ s' O' g1 g2 g3
 ·simp only[YS,JJ,JK,JL,K2,NT,Uc,Qa,Qb,Qc,Qd,Qe,Qf,Qg,Qh,Qi,Qj,Qk,Ql,Qm,Qn,true_and,and_true,Qo,Qp,Qq,Qr,Qs,Qt,Qu,Qv,Qw,Qx,Qy,Qz,Ra,Rb,Rc,Rd,Re,Rf,Rg,Rh,Ri,Rj,Rk,Rl,Rm,Ya,Yb,Yc,Rn,Ro,Xv,Yd,Ye,Rq,Rs,Rt,Ru,Rw,Rx,Ry,hs,C6,Hu,He,BZ,B0,RN,Rw,Int.reduceEq,Rz,Wa,Wb,Wc,Wd,We,Wf,Wg,Wh,Wi,Wj,Wl,Wm,Wn,Wp,Wq,Wr,Ws,Wt,Wu,Wv,Ww,Wx,Wy,Wz,Xa,Xb,Xc,Xd,Xe,Xf,Xg,Xh,Xi,Xj,Xk,Xl,Xm,Xn,Xo,Xp,Xq,Xr,ao,au,ap,am,aw,ay,List.getElem?_cons_zero,List.getElem?_cons_succ,aq,az,bA,bB,ak,Nat.reduceAdd,Nat.reduceLT,Nat.reduceLeDiff,decide_true,decide_false,Bool.true_and,Bool.and_true,bC,aj,Option.some.injEq,Xs,Xt,Xu,Xv]
  refine hcon _ _ fun s' O' g1 g2 g3=>?_
  simp only[Qa,Qb,Qc,Qd,Qe,Qf,Qg,Qh,Qi,Qj,Qk,Ql,Qm,Qn,true_and,and_true,Qo,Qp,Qq,Qr,Qs,Qt,Qu,Qv,Qw,Qx,Qy,Qz,Ra,Rb,Rc,Rd,Re,Rf,Rg,Rh,Ri,Rj,Rk,Rl,Rm,Ya,Yb,Yc,Rn,Ro,Xv,Yd,Ye,Rq,Rs,Rt,Ru,Rw,Rx,Ry]
  exact hend _ s' O' g1 g2 g3
 ·simp only[YS,JJ,JK,JL,K2,NT,P1,Ud,Qa,Qb,Qc,Qd,Qe,Qf,Qg,Qh,Qi,Qj,Qk,Ql,Qm,Qn,true_and,and_true,Qo,Qp,Qq,Qr,Qs,Qt,Qu,Qv,Qw,Qx,Qy,Qz,Ra,Rb,Rc,Rd,Re,Rf,Rg,Rh,Ri,Rj,Rk,Rl,Rm,Ya,Yb,Yc,Rn,Ro,Xv,Yd,Ye,Rq,Rs,Rt,Ru,Rw,Rx,Ry,hs,C6,BZ,KK,Nr,Ns,Rw,Int.reduceEq,Rz,Wa,Wb,Wc,Wd,We,Wf,Wg,Wh,Wi,Wj,Wl,Wm,Wn,Wp,Wq,Wr,Ws,Wt,Wu,Wv,Ww,Wx,Wy,Wz,Xa,Xb,Xc,Xd,Xe,Xf,Xg,Xh,Xi,Xj,Xk,Xl,Xm,Xn,Xo,Xp,Xq,Xr,ao,au,ap,am,aw,ay,List.getElem?_cons_zero,List.getElem?_cons_succ,aq,az,bA,bB,ak,Nat.reduceAdd,Nat.reduceLT,Nat.reduceLeDiff,decide_true,decide_false,Bool.true_and,Bool.and_true,bC,aj,Option.some.injEq,Xs,Xt,Xu,Xv]
  refine hsel _ _ fun s' O' g1 _ g2 g3=>?_
  simp only[Qa,Qb,Qc,Qd,Qe,Qf,Qg,Qh,Qi,Qj,Qk,Ql,Qm,Qn,true_and,and_true,Qo,Qp,Qq,Qr,Qs,Qt,Qu,Qv,Qw,Qx,Qy,Qz,Ra,Rb,Rc,Rd,Re,Rf,Rg,Rh,Ri,Rj,Rk,Rl,Rm,Ya,Yb,Yc,Rn,Ro,Xv,Yd,Ye,Rq,Rs,Rt,Ru,Rw,Rx,Ry]
  exact hend _ s' O' g1 g2 g3
 ·simp only[YS,JJ,JK,JL,K2,NT,P1,P0,Qa,Qb,Qc,Qd,Qe,Qf,Qg,Qh,Qi,Qj,Qk,Ql,Qm,Qn,true_and,and_true,Qo,Qp,Qq,Qr,Qs,Qt,Qu,Qv,Qw,Qx,Qy,Qz,Ra,Rb,Rc,Rd,Re,Rf,Rg,Rh,Ri,Rj,Rk,Rl,Rm,Ya,Yb,Yc,Rn,Ro,Xv,Yd,Ye,Rq,Rs,Rt,Ru,Rw,Rx,Ry,hs,C6,BZ,KK,Nr,Ns,WJ,Rw,Int.reduceEq,Rz,Wa,Wb,Wc,Wd,We,Wf,Wg,Wh,Wi,Wj,Wl,Wm,Wn,Wp,Wq,Wr,Ws,Wt,Wu,Wv,Ww,Wx,Wy,Wz,Xa,Xb,Xc,Xd,Xe,Xf,Xg,Xh,Xi,Xj,Xk,Xl,Xm,Xn,Xo,Xp,Xq,Xr,ao,au,ap,am,aw,ay,List.getElem?_cons_zero,List.getElem?_cons_succ,aq,az,bA,bB,ak,Nat.reduceAdd,Nat.reduceLT,Nat.reduceLeDiff,decide_true,decide_false,Bool.true_and,Bool.and_true,bC,aj,Option.some.injEq,Xs,Xt,Xu,Xv]
  refine hupd _ _ fun s' O' g1 _ g2 g3=>?_
  simp only[Qa,Qb,Qc,Qd,Qe,Qf,Qg,Qh,Qi,Qj,Qk,Ql,Qm,Qn,true_and,and_true,Qo,Qp,Qq,Qr,Qs,Qt,Qu,Qv,Qw,Qx,Qy,Qz,Ra,Rb,Rc,Rd,Re,Rf,Rg,Rh,Ri,Rj,Rk,Rl,Rm,Ya,Yb,Yc,Rn,Ro,Xv,Yd,Ye,Rq,Rs,Rt,Ru,Rw,Rx,Ry]
  exact hend _ s' O' g1 g2 g3
structure RT where
 kind:Int
 id:Int
 con:Nat
 kids:List Int
 kv:AV
def RT.cells(t:RT):List AV:=[iv t.kind,iv t.id]++(Tm.con t.con).cells++[t.kv]
def E4(T:List RT):List AV:=T.flatMap RT.cells
def GZ(s:AD)(O Q:List Nat)(t:RT):Prop:=
 (t.kids=[]∧t.kv=.slice none 0 (some 0))∨∃j,t.kv=.slice (some (j,0)) t.kids.length none∧j∈O∧j ∉ Q∧BB (s.heap.get j) 0 t.kids.length=some (Bn t.kids)
structure NK(s:AD)(q:Nat)(T:List RT)(O:List Nat):Prop where
 ex:∃tv OT,s.heap.get q=some (R 80 0 false [tv])∧E8 122 10 s tv T.length (E4 T) OT∧(∀t∈T,t.con<11∧GZ s O (q::OT) t)∧(∀j∈q::OT,j∈O)∧q ∉ OT
 low:∀ (i:Nat) (t:RT),T[i]? = some t→∀k∈t.kids,0≤k∧k<(i:Int)
 lt:∀j∈O,j<s.next
theorem GZ.frame{s s':AD}{O Q:List Nat}{t:RT}(h:GZ s O Q t)(k:∀j∈O,s'.heap.get j=s.heap.get j):GZ s' O Q t:=by
 rcases h with h | ⟨j,h1,h2,h3,h4⟩
 ·exact .inl h
 ·exact .inr ⟨j,h1,h2,h3,by rw[k j h2];exact h4⟩
theorem NK.frame{s s':AD}{q:Nat}{T:List RT}{O:List Nat}(h:NK s q T O)(hn:s.next≤s'.next)(k:∀j∈O,s'.heap.get j=s.heap.get j):NK s' q T O:=by
 obtain⟨tv,OT,h1,h2,h3,h4,h5⟩:=h.ex
 refine⟨⟨tv,OT,by rw[k q (h4 q (by simp))];exact h1,h2.frame hn fun j hj=>k j (h4 j (by simp[hj])),fun t ht=>⟨(h3 t ht).1,(h3 t ht).2.frame k⟩,h4,h5⟩,h.low,fun j hj=>bG (h.lt j hj) hn⟩
theorem NK.old{s s':AD}{q:Nat}{T:List RT}{O:List Nat}(h:NK s q T O)(k:BK s.next s s'):NK s' q T O:=h.frame k.1 fun j hj=>k.2 j (h.lt j hj)
theorem GZ.rd{s:AD}{O Q:List Nat}{t:RT}(h:GZ s O Q t)(hlt:∀j∈O,j<s.next):An s t.kv t.kids:=by
 rcases h with⟨h1,h2⟩ | ⟨j,h1,h2,h3,h4⟩
 ·exact .inl ⟨h1,h2⟩
 ·exact .inr ⟨j,0,none,h1,hlt j h2,h4⟩
theorem RT.len{t:RT}(h:t.con<11):t.cells.length=10:=by
 obtain⟨tag,c1,c2,c3,c5,c6,hc,_⟩:=BF _ (bn h (by omega))
 simp[RT.cells,hc]
theorem Gx:∀ {T:List RT},(∀t∈T,t.con<11)→∀ {i:Nat}{t:RT},T[i]? = some t→((E4 T).drop (i * 10)).take 10=t.cells∧i * 10+10≤(E4 T).length
 | [],_,i,t,h=>by simp at h
 | u::T,hT,i,t,h=>by
  have hl:=RT.len (hT u bH)
  have he:E4 (u::T)=u.cells++E4 T:=rfl
  rw[he]
  cases i with
  | zero =>
   simp at h
   subst h
   rw[Nat.zero_mul,aq,cC (by omega),bY (by omega)]
   exact⟨rfl,by simp;omega⟩
  | succ i =>
   obtain⟨h1,h2⟩:=Gx (fun x hx=>hT x (bI _ hx)) (i:=i) (t:=t) (by simpa using h)
   rw[show(i+1) * 10=u.cells.length+i * 10 from by omega,List.drop_append,List.drop_of_length_le (show u.cells.length≤u.cells.length+i * 10 by omega),am,show u.cells.length+i * 10 - u.cells.length=i * 10 from by omega]
   exact⟨h1,by simp;omega⟩
section
variable{E:Be}(hE:Ah E){s:AD}{q:Nat}{T:List RT}{O:List Nat}(h:NK s q T O){K:AV→AD→Prop}
include hE h
theorem YG{x:Int}(hK:K (.bool (I1 T.length x)) s):WF E 126 [.ptr (some (q,0)),iv x] K s:=by
 obtain⟨tv,OT,hobj,hbuf,_⟩:=h.ex
 obtain⟨a,c,rfl,_⟩:=hbuf.slice
 refine hE.go TU (by decide) rfl ?_
 unfold I1 at hK
 by_cases h0:0≤x
 ·have hd:decide (0≤x)=true:=decide_eq_true h0
  rw[hd,Bool.true_and]at hK
  simp only[WX,MJ,MK,Qa,Qb,Qc,Qd,Qe,Qf,Qg,Qh,Qi,Qj,Qk,Ql,Qm,Qn,true_and,and_true,Qo,Qp,Qq,Qr,Qs,Qt,Qu,Qv,Qw,Qx,Qy,Qz,Ra,Rb,Rc,Rd,Re,Rf,Rg,Rh,Ri,Rj,Rk,Rl,Rm,Ya,Yb,Yc,Rn,Ro,Xv,Yd,Ye,Rq,Rs,Rt,Ru,Rw,Rx,Ry,Ru,Rq,hd,hobj,Ca,Gd,Ad Tryz.underlying78,Rz,Wa,Wb,Wc,Wd,We,Wf,Wg,Wh,Wi,Wj,Wl,Wm,Wn,Wp,Wq,Wr,Ws,Wt,Wu,Wv,Ww,Wx,Wy,Wz,Xa,Xb,Xc,Xd,Xe,Xf,Xg,Xh,Xi,Xj,Xk,Xl,Xm,Xn,Xo,Xp,Xq,Xr,ao,au,ap,am,aw,ay,List.getElem?_cons_zero,List.getElem?_cons_succ,aq,az,bA,bB,ak,Nat.reduceAdd,Nat.reduceLT,Nat.reduceLeDiff,decide_true,decide_false,Bool.true_and,Bool.and_true,bC,aj,Option.some.injEq,Xs,Xt,Xu,Xv]
  exact hK
 ·have hd:decide (0≤x)=false:=decide_eq_false h0
  rw[hd,Bool.false_and]at hK
  simp only[WX,MJ,MK,Qa,Qb,Qc,Qd,Qe,Qf,Qg,Qh,Qi,Qj,Qk,Ql,Qm,Qn,true_and,and_true,Qo,Qp,Qq,Qr,Qs,Qt,Qu,Qv,Qw,Qx,Qy,Qz,Ra,Rb,Rc,Rd,Re,Rf,Rg,Rh,Ri,Rj,Rk,Rl,Rm,Ya,Yb,Yc,Rn,Ro,Xv,Yd,Ye,Rq,Rs,Rt,Ru,Rw,Rx,Ry,Ru,Rq,hd,hobj,Ca,Gd,Ad Tryz.underlying78,Rz,Wa,Wb,Wc,Wd,We,Wf,Wg,Wh,Wi,Wj,Wl,Wm,Wn,Wp,Wq,Wr,Ws,Wt,Wu,Wv,Ww,Wx,Wy,Wz,Xa,Xb,Xc,Xd,Xe,Xf,Xg,Xh,Xi,Xj,Xk,Xl,Xm,Xn,Xo,Xp,Xq,Xr,ao,au,ap,am,aw,ay,List.getElem?_cons_zero,List.getElem?_cons_succ,aq,az,bA,bB,ak,Nat.reduceAdd,Nat.reduceLT,Nat.reduceLeDiff,decide_true,decide_false,Bool.true_and,Bool.and_true,bC,aj,Option.some.injEq,Xs,Xt,Xu,Xv]
  exact hK
theorem YE{x:Int}{t:RT}(hx:0≤x)(ht:T[x.toNat]? = some t)(hK:∀s',BK s.next s s'→K (.agg t.cells) s'):WF E 107 [.ptr (some (q,0)),iv x] K s:=by
 obtain⟨tv,OT,hobj,hbuf,hk,hO,_⟩:=h.ex
 have hT:∀t∈T,t.con<11:=fun t ht=>(hk t ht).1
 have hxl:x.toNat<T.length:=by
  rcases bE x.toNat T.length with h' | h'
  ·exact h'
  ·rw[bJ h']at ht;cases ht
 have hin:I1 T.length x=true:=by simp[I1];omega
 obtain⟨hat,hle⟩:=Gx hT ht
 obtain⟨tag,c1,c2,c3,c5,c6,hc,_,d1,d2,d3,d5,d6⟩:=BF _ (bn (hT t (bO ht)) (by omega))
 have hcl:t.cells=[iv t.kind,iv t.id,iv tag,c1,c2,c3,.slice none 0 (some 0),c5,c6,t.kv]:=by
  show [iv t.kind,iv t.id]++(Tm.con t.con).cells++_=_
  rw[hc];rfl
 have hkv:t.kv.isCell=true:=by
  rcases(hk t (bO ht)).2 with⟨_,e⟩ | ⟨_,e,_⟩<;>rw[e]<;>rfl
 rcases hbuf.row with⟨_,h0,_⟩ | ⟨j,r,rfl,hjO,hjr,hh⟩
 ·omega
 have hln:BB (s.heap.get j) (x.toNat * 10) 10=some t.cells:=by rw[hjr,FD hh hle,hat]
 rw[hcl]at hln hK
 have hql:=h.lt q (hO q (by simp))
 have hjl:=h.lt j (hO j (by simp[hjO]))
 have hidx:AK Tryz.prog 78 (.slice (some (j,0)) T.length none) (iv x)=some (.ptr (some (j,x.toNat * 10))):=by
  have:=AY (P:=Tryz.prog) (i:=j) (o:=0) (cap:=none) (k:=x.toNat) (len:=T.length) Tryz.underlying78 Iv hxl
  rw[show((x.toNat:Nat):Int)=x from by omega,ak]at this
  exact this
 have his:=fun os (K:AV→AD→Prop)=>YG (K:=K) hE (h.old (AQ (os:=os))) (x:=x)
 rw[hin]at his
 refine hE.go TR (by decide) rfl ?_
 generalize hs:s.next=b at hK hql hjl
 have hs0:s=ext s []:=(Aa s).symm
 have hfin:∀os,K (.agg [iv t.kind,iv t.id,iv tag,c1,c2,c3,.slice none 0 (some 0),c5,c6,t.kv]) (ext s os):=fun os=>hK _ (by rw[← hs];exact AQ)
 rw[hs0]
 simp only[Yr,Ps,Pt,WS,hs,Qa,Qb,Qc,Qd,Qe,Qf,Qg,Qh,Qi,Qj,Qk,Ql,Qm,Qn,true_and,and_true,Qo,Qp,Qq,Qr,Qs,Qt,Qu,Qv,Qw,Qx,Qy,Qz,Ra,Rb,Rc,Rd,Re,Rf,Rg,Rh,Ri,Rj,Rk,Rl,Rm,Ya,Yb,Yc,Rn,Ro,Xv,Yd,Ye,Rq,Rs,Rt,Ru,Rw,Rx,Ry,Rz,Wa,Wb,Wc,Wd,We,Wf,Wg,Wh,Wi,Wj,Wl,Wm,Wn,Wp,Wq,Wr,Ws,Wt,Wu,Wv,Ww,Wx,Wy,Wz,Xa,Xb,Xc,Xd,Xe,Xf,Xg,Xh,Xi,Xj,Xk,Xl,Xm,Xn,Xo,Xp,Xq,Xr,ao,au,ap,am,aw,ay,List.getElem?_cons_zero,List.getElem?_cons_succ,aq,az,bA,bB,ak,Nat.reduceAdd,Nat.reduceLT,Nat.reduceLeDiff,decide_true,decide_false,Bool.true_and,Bool.and_true,bC,aj,Option.some.injEq,Xs,Xt,Xu,Xv]
 refine his _ _ ?_
 simp only[Pu,Qa,Qb,Qc,Qd,Qe,Qf,Qg,Qh,Qi,Qj,Qk,Ql,Qm,Qn,true_and,and_true,Qo,Qp,Qq,Qr,Qs,Qt,Qu,Qv,Qw,Qx,Qy,Qz,Ra,Rb,Rc,Rd,Re,Rf,Rg,Rh,Ri,Rj,Rk,Rl,Rm,Ya,Yb,Yc,Rn,Ro,Xv,Yd,Ye,Rq,Rs,Rt,Ru,Rw,Rx,Ry,hs,Ry,Bool.not_true,hql,hjl,hobj,Ca,Gd,NP,Iv,hidx,hln,Aj,d1,d2,d3,d5,d6,hkv,Rz,Wa,Wb,Wc,Wd,We,Wf,Wg,Wh,Wi,Wj,Wl,Wm,Wn,Wp,Wq,Wr,Ws,Wt,Wu,Wv,Ww,Wx,Wy,Wz,Xa,Xb,Xc,Xd,Xe,Xf,Xg,Xh,Xi,Xj,Xk,Xl,Xm,Xn,Xo,Xp,Xq,Xr,ao,au,ap,am,aw,ay,List.getElem?_cons_zero,List.getElem?_cons_succ,aq,az,bA,bB,ak,Nat.reduceAdd,Nat.reduceLT,Nat.reduceLeDiff,decide_true,decide_false,Bool.true_and,Bool.and_true,bC,aj,Option.some.injEq,Xs,Xt,Xu,Xv]
 exact hfin _
end
def OD(i j:Nat):Bool:=match Ct Cx 127 [.agg (Tm.con i).cells,.agg (Tm.con j).cells]with
 | some (.bool b)=>b == decide (i=j)
 | _=>false
theorem Sm:((List.range 11).all fun i=>(List.range 11).all fun j=>OD i j)=true:=by kernel_rfl
theorem PV{i j:Nat}(hi:i<11)(hj:j<11):Ct Cx 127 [.agg (Tm.con i).cells,.agg (Tm.con j).cells]=some (.bool (decide (i=j))):=by
  have h:=List.all_eq_true.1 (List.all_eq_true.1 Sm i (List.mem_range.2 hi)) j (List.mem_range.2 hj)
  unfold OD at h
  split at h
  · rename_i b hb
    rw[hb,eq_of_beq h]
  · cases h
theorem PU{E:Be}(hE:Ah E){s:AD}(hg:Cc s 1 A6=true){i j:Nat}(hi:i<11)(hj:j<11){K:AV→AD→Prop}(hK:K (.bool (decide (i=j))) s):WF E 127 [.agg (Tm.con i).cells,.agg (Tm.con j).cells] K s:=by
 refine WF.native (hE.tab _ _ _ (.bool (decide (i=j)),s) ?_) hK
 have h2:Cj 127 [.agg (Tm.con i).cells,.agg (Tm.con j).cells] s=(Ct Cx 127 [.agg (Tm.con i).cells,.agg (Tm.con j).cells]).bind fun r=>AH (Cc s 1 A6) (some (r,s)):=rfl
 unfold Gs
 rw[h2,PV hi hj,Option.bind_some,hg]
 rfl
def Lo(i:Nat):Bool:=match Ct Cx 109 [.agg (Tm.con i).cells]with
 | some (.bool b)=>b
 | _=>false
theorem PE:((List.range 11).all Lo)=true:=by kernel_rfl
theorem Mx{i:Nat}(hi:i<11):Ct Cx 109 [.agg (Tm.con i).cells]=some (.bool true):=by
  have h:=List.all_eq_true.1 PE i (List.mem_range.2 hi)
  unfold Lo at h
  split at h
  · rename_i b hb
    rw[hb,h]
  · cases h
theorem Ls{E:Be}(hE:Ah E){s:AD}(hg:Cc s 1 A6=true){i:Nat}(hi:i<11){K:AV→AD→Prop}(hK:K (.bool true) s):WF E 109 [.agg (Tm.con i).cells] K s:=by
 refine WF.native (hE.tab _ _ _ (.bool true,s) ?_) hK
 have h1:=Mx hi
 have h2:Cj 109 [.agg (Tm.con i).cells] s=(Ct Cx 109 [.agg (Tm.con i).cells]).bind fun r=>AH (Cc s 1 A6) (some (r,s)):=rfl
 unfold Gs
 rw[h2,h1,Option.bind_some,hg]
 rfl
theorem NE{E:Be}(hE:Ah E){s:AD}(hg:Cc s 1 A6=true){K:AV→AD→Prop}(hK:K (.bool true) s):WF E 7 [] K s:=by
 refine WF.native (hE.tab _ _ _ (.bool true,s) ?_) hK
 have h1:Ct Cx 7 []=some (.bool true):=by kernel_rfl
 have h2:Cj 7 [] s=(Ct Cx 7 []).bind fun r=>AH (Cc s 1 A6) (some (r,s)):=rfl
 unfold Gs
 rw[h2,h1,Option.bind_some,hg]
 rfl
theorem RT.ten{t:RT}(h:t.con<11):∃c0 c1 c2 c3 c4 c5 c6,(Tm.con t.con).cells=[c0,c1,c2,c3,c4,c5,c6]∧t.cells=[iv t.kind,iv t.id,c0,c1,c2,c3,c4,c5,c6,t.kv]:=by
 obtain⟨tag,c1,c2,c3,c5,c6,hc,_⟩:=BF _ (bn h (by omega:11<13))
 refine⟨_,_,_,_,_,_,_,hc,?_⟩
 show [iv t.kind,iv t.id]++(Tm.con t.con).cells++_=_
 rw[hc];rfl
set_option maxRecDepth 20000 in
theorem Pl       {E : Be}  (hE : Ah    E) {s : AD}  (hg : Cc   s 1 A6    = true) (h1 : 1 < s.next) {t u : RT} (ht : t.con < 11) (hu : u.con < 11) (rt : An     s t.kv t.kids) (ru : An     s u.kv u.kids) (hl : t.kids.length ≤ 1000) {K : AV → AD  → Prop}
    (hK:∀b s',BK s.next s s'→K (.bool b) s'):WF E 108 [.agg t.cells,.agg u.cells] K s:=by
  obtain⟨c0,c1,c2,c3,c4,c5,c6,hc,hct⟩:=t.ten ht
  obtain⟨e0,e1,e2,e3,e4,e5,e6,he,heu⟩:=u.ten hu
  rw[hct,heu]
  have hsame:=fun os (K:AV→AD→Prop)=>PU (K:=K) hE (s:=ext s os) (by rw[BP (Wh h1)];exact hg) ht hu
  rw[hc,he]at hsame
  have lt:=rt.len
  have lu:=ru.len
  refine hE.go TS (by decide) rfl ?_
  have hend:∀os b,K (.bool b) (ext s os):=fun os b=>hK b _ AQ
  generalize hs:s.next=b
  have hs0:s=ext s []:=(Aa s).symm
  rw[hs0]
  by_cases hk:t.kind=u.kind
  · have dk : decide (t.kind ≠ u.kind) = false := by simp [hk]
    by_cases hi:t.id=u.id
    · have di : decide (t.id ≠ u.id) = false := by simp [hi]
      simp only[TM,J7,J8,Qa,Qb,Qc,Qd,Qe,Qf,Qg,Qh,Qi,Qj,Qk,Ql,Qm,Qn,true_and,and_true,Qo,Qp,Qq,Qr,Qs,Qt,Qu,Qv,Qw,Qx,Qy,Qz,Ra,Rb,Rc,Rd,Re,Rf,Rg,Rh,Ri,Rj,Rk,Rl,Rm,Ya,Yb,Yc,Rn,Ro,Xv,Yd,Ye,Rq,Rs,Rt,Ru,Rw,Rx,Ry,hs,Rx,dk,di,C6,Hu,He,KJ,No,Tb,Dh,Rz,Wa,Wb,Wc,Wd,We,Wf,Wg,Wh,Wi,Wj,Wl,Wm,Wn,Wp,Wq,Wr,Ws,Wt,Wu,Wv,Ww,Wx,Wy,Wz,Xa,Xb,Xc,Xd,Xe,Xf,Xg,Xh,Xi,Xj,Xk,Xl,Xm,Xn,Xo,Xp,Xq,Xr,ao,au,ap,am,aw,ay,List.getElem?_cons_zero,List.getElem?_cons_succ,aq,az,bA,bB,ak,Nat.reduceAdd,Nat.reduceLT,Nat.reduceLeDiff,decide_true,decide_false,Bool.true_and,Bool.and_true,bC,aj,Option.some.injEq,Xs,Xt,Xu,Xv]
      refine hsame _ _ ?_
      by_cases hcn:t.con=u.con
      · have dc : decide (t.con = u.con) = true := decide_eq_true hcn
        by_cases hln:t.kids.length=u.kids.length
        · have dl:decide ((t.kids.length:Int)≠(u.kids.length:Int))=false:=by simp[hln]
          simp only[dc,Pv,Qa,Qb,Qc,Qd,Qe,Qf,Qg,Qh,Qi,Qj,Qk,Ql,Qm,Qn,true_and,and_true,Qo,Qp,Qq,Qr,Qs,Qt,Qu,Qv,Qw,Qx,Qy,Qz,Ra,Rb,Rc,Rd,Re,Rf,Rg,Rh,Ri,Rj,Rk,Rl,Rm,Ya,Yb,Yc,Rn,Ro,Xv,Yd,Ye,Rq,Rs,Rt,Ru,Rw,Rx,Ry,hs,Ry,Bool.not_true,Ht,Dh,lt,lu,Rx,dl,Rz,Wa,Wb,Wc,Wd,We,Wf,Wg,Wh,Wi,Wj,Wl,Wm,Wn,Wp,Wq,Wr,Ws,Wt,Wu,Wv,Ww,Wx,Wy,Wz,Xa,Xb,Xc,Xd,Xe,Xf,Xg,Xh,Xi,Xj,Xk,Xl,Xm,Xn,Xo,Xp,Xq,Xr,ao,au,ap,am,aw,ay,List.getElem?_cons_zero,List.getElem?_cons_succ,aq,az,bA,bB,ak,Nat.reduceAdd,Nat.reduceLT,Nat.reduceLeDiff,decide_true,decide_false,Bool.true_and,Bool.and_true,bC,aj,Option.some.injEq,Xs,Xt,Xu,Xv]
          have hgen:∀os,∃s2,s2=ext s os:=fun os=>⟨_,rfl⟩
          have key:∀ (m i:Nat) (a7 a8:AV),m+i=t.kids.length →
              WC E none (AZ.loop Ge) (Ag 0 (Io (fun x x_1 x_2=>Qb E MH (fun v s'=>I3 (Bs s' x_1) fun s'=>K (Hb v 4) s') [] x x_2) (Ends Tryz.prog [(CX.var 4,none)] K)))
                [.agg [iv t.kind,iv t.id,c0,c1,c2,c3,c4,c5,c6,t.kv],.agg [iv u.kind,iv u.id,e0,e1,e2,e3,e4,e5,e6,u.kv],.ptr (some (nid b 0,0)),.ptr (some (nid b 1,0)),.bool false,iv (i:Int),.bool false,a7,a8] []
                (ext s [R 122 0 false [iv t.kind,iv t.id,c0,c1,c2,c3,c4,c5,c6,t.kv],R 122 0 false [iv u.kind,iv u.id,e0,e1,e2,e3,e4,e5,e6,u.kv]]):=by
            intro m
            induction m with
            | zero =>
              intro i a7 a8 hi2
              refine WC.loop' ?_
              have hlt:¬ ((i:Int)<(t.kids.length:Int)):=by omega
              simp only[Ge,J9,Qa,Qb,Qc,Qd,Qe,Qf,Qg,Qh,Qi,Qj,Qk,Ql,Qm,Qn,true_and,and_true,Qo,Qp,Qq,Qr,Qs,Qt,Qu,Qv,Qw,Qx,Qy,Qz,Ra,Rb,Rc,Rd,Re,Rf,Rg,Rh,Ri,Rj,Rk,Rl,Rm,Ya,Yb,Yc,Rn,Ro,Xv,Yd,Ye,Rq,Rs,Rt,Ru,Rw,Rx,Ry,hs,Ht,Dh,lt,Rq,hlt,decide_false,Rz,Wa,Wb,Wc,Wd,We,Wf,Wg,Wh,Wi,Wj,Wl,Wm,Wn,Wp,Wq,Wr,Ws,Wt,Wu,Wv,Ww,Wx,Wy,Wz,Xa,Xb,Xc,Xd,Xe,Xf,Xg,Xh,Xi,Xj,Xk,Xl,Xm,Xn,Xo,Xp,Xq,Xr,ao,au,ap,am,aw,ay,List.getElem?_cons_zero,List.getElem?_cons_succ,aq,az,bA,bB,ak,Nat.reduceAdd,Nat.reduceLT,Nat.reduceLeDiff,decide_true,decide_false,Bool.true_and,Bool.and_true,bC,aj,Option.some.injEq,Xs,Xt,Xu,Xv]
              rw[if_pos trivial]
              simp only[MH,Qa,Qb,Qc,Qd,Qe,Qf,Qg,Qh,Qi,Qj,Qk,Ql,Qm,Qn,true_and,and_true,Qo,Qp,Qq,Qr,Qs,Qt,Qu,Qv,Qw,Qx,Qy,Qz,Ra,Rb,Rc,Rd,Re,Rf,Rg,Rh,Ri,Rj,Rk,Rl,Rm,Ya,Yb,Yc,Rn,Ro,Xv,Yd,Ye,Rq,Rs,Rt,Ru,Rw,Rx,Ry]
              exact hend _ _
            | succ m ih =>
              intro i a7 a8 hi2
              refine WC.loop' ?_
              obtain⟨W,hW⟩:∃W,W=AZ.loop Ge:=⟨_,rfl⟩
              rw[← hW]
              have hlt:((i:Int)<(t.kids.length:Int)):=by omega
              have hadd:i64 ((i:Int)+1):=by unfold i64;omega
              have hit:i<t.kids.length:=by omega
              have hiu:i<u.kids.length:=by omega
              obtain⟨j,q,cap,hv,hj,hld⟩:=rt.at (k:=i) (bD hit)
              obtain⟨j2,q2,cap2,hv2,hj2,hld2⟩:=ru.at (k:=i) (bD hiu)
              rw[hs]at hj hj2
              have hih:=ih (i+1) (.bool true) (.bool false) (by omega)
              rw[← hW,show((i+1:Nat):Int)=(i:Int)+1 from by omega,hv,hv2]at hih
              rw[hv]at lt
              by_cases hne:t.kids[i]=u.kids[i]
              · have dn:decide (t.kids[i]≠u.kids[i])=false:=by simp[hne]
                simp only[Ge,J9,MG,Px,hv,hv2,Qa,Qb,Qc,Qd,Qe,Qf,Qg,Qh,Qi,Qj,Qk,Ql,Qm,Qn,true_and,and_true,Qo,Qp,Qq,Qr,Qs,Qt,Qu,Qv,Qw,Qx,Qy,Qz,Ra,Rb,Rc,Rd,Re,Rf,Rg,Rh,Ri,Rj,Rk,Rl,Rm,Ya,Yb,Yc,Rn,Ro,Xv,Yd,Ye,Rq,Rs,Rt,Ru,Rw,Rx,Ry,hs,Ht,C6,Dh,lt,Rq,Rx,hlt,decide_true,AY Tryz.underlying27 Ea hit,AY Tryz.underlying27 Ea hiu,bR,hj,hj2,hld,hld2,dn,BI _ _ _ _ hadd,Rz,Wa,Wb,Wc,Wd,We,Wf,Wg,Wh,Wi,Wj,Wl,Wm,Wn,Wp,Wq,Wr,Ws,Wt,Wu,Wv,Ww,Wx,Wy,Wz,Xa,Xb,Xc,Xd,Xe,Xf,Xg,Xh,Xi,Xj,Xk,Xl,Xm,Xn,Xo,Xp,Xq,Xr,ao,au,ap,am,aw,ay,List.getElem?_cons_zero,List.getElem?_cons_succ,aq,az,bA,bB,ak,Nat.reduceAdd,Nat.reduceLT,Nat.reduceLeDiff,decide_true,decide_false,Bool.true_and,Bool.and_true,bC,aj,Option.some.injEq,Xs,Xt,Xu,Xv]
                exact hih
              · have dn:decide (t.kids[i]≠u.kids[i])=true:=by simp[hne]
                simp only[Ge,J9,MG,Pw,hv,hv2,Qa,Qb,Qc,Qd,Qe,Qf,Qg,Qh,Qi,Qj,Qk,Ql,Qm,Qn,true_and,and_true,Qo,Qp,Qq,Qr,Qs,Qt,Qu,Qv,Qw,Qx,Qy,Qz,Ra,Rb,Rc,Rd,Re,Rf,Rg,Rh,Ri,Rj,Rk,Rl,Rm,Ya,Yb,Yc,Rn,Ro,Xv,Yd,Ye,Rq,Rs,Rt,Ru,Rw,Rx,Ry,hs,Ht,C6,Dh,lt,Rq,Rx,hlt,decide_true,AY Tryz.underlying27 Ea hit,AY Tryz.underlying27 Ea hiu,bR,hj,hj2,hld,hld2,dn,Rz,Wa,Wb,Wc,Wd,We,Wf,Wg,Wh,Wi,Wj,Wl,Wm,Wn,Wp,Wq,Wr,Ws,Wt,Wu,Wv,Ww,Wx,Wy,Wz,Xa,Xb,Xc,Xd,Xe,Xf,Xg,Xh,Xi,Xj,Xk,Xl,Xm,Xn,Xo,Xp,Xq,Xr,ao,au,ap,am,aw,ay,List.getElem?_cons_zero,List.getElem?_cons_succ,aq,az,bA,bB,ak,Nat.reduceAdd,Nat.reduceLT,Nat.reduceLeDiff,decide_true,decide_false,Bool.true_and,Bool.and_true,bC,aj,Option.some.injEq,Xs,Xt,Xu,Xv]
                exact hend _ _
          exact key t.kids.length 0 _ _ (by omega)
        · have dl:decide ((t.kids.length:Int)≠(u.kids.length:Int))=true:=by simp;omega
          simp only[dc,Hz,Qa,Qb,Qc,Qd,Qe,Qf,Qg,Qh,Qi,Qj,Qk,Ql,Qm,Qn,true_and,and_true,Qo,Qp,Qq,Qr,Qs,Qt,Qu,Qv,Qw,Qx,Qy,Qz,Ra,Rb,Rc,Rd,Re,Rf,Rg,Rh,Ri,Rj,Rk,Rl,Rm,Ya,Yb,Yc,Rn,Ro,Xv,Yd,Ye,Rq,Rs,Rt,Ru,Rw,Rx,Ry,hs,Ry,Bool.not_true,Ht,Dh,lt,lu,Rx,dl,Rz,Wa,Wb,Wc,Wd,We,Wf,Wg,Wh,Wi,Wj,Wl,Wm,Wn,Wp,Wq,Wr,Ws,Wt,Wu,Wv,Ww,Wx,Wy,Wz,Xa,Xb,Xc,Xd,Xe,Xf,Xg,Xh,Xi,Xj,Xk,Xl,Xm,Xn,Xo,Xp,Xq,Xr,ao,au,ap,am,aw,ay,List.getElem?_cons_zero,List.getElem?_cons_succ,aq,az,bA,bB,ak,Nat.reduceAdd,Nat.reduceLT,Nat.reduceLeDiff,decide_true,decide_false,Bool.true_and,Bool.and_true,bC,aj,Option.some.injEq,Xs,Xt,Xu,Xv]
          exact hend _ _
      · have dc:decide (t.con=u.con)=false:=decide_eq_false hcn
        simp only[dc,Hz,Qa,Qb,Qc,Qd,Qe,Qf,Qg,Qh,Qi,Qj,Qk,Ql,Qm,Qn,true_and,and_true,Qo,Qp,Qq,Qr,Qs,Qt,Qu,Qv,Qw,Qx,Qy,Qz,Ra,Rb,Rc,Rd,Re,Rf,Rg,Rh,Ri,Rj,Rk,Rl,Rm,Ya,Yb,Yc,Rn,Ro,Xv,Yd,Ye,Rq,Rs,Rt,Ru,Rw,Rx,Ry,hs,Ry,Bool.not_false,Rz,Wa,Wb,Wc,Wd,We,Wf,Wg,Wh,Wi,Wj,Wl,Wm,Wn,Wp,Wq,Wr,Ws,Wt,Wu,Wv,Ww,Wx,Wy,Wz,Xa,Xb,Xc,Xd,Xe,Xf,Xg,Xh,Xi,Xj,Xk,Xl,Xm,Xn,Xo,Xp,Xq,Xr,ao,au,ap,am,aw,ay,List.getElem?_cons_zero,List.getElem?_cons_succ,aq,az,bA,bB,ak,Nat.reduceAdd,Nat.reduceLT,Nat.reduceLeDiff,decide_true,decide_false,Bool.true_and,Bool.and_true,bC,aj,Option.some.injEq,Xs,Xt,Xu,Xv]
        exact hend _ _
    · have di:decide (t.id≠u.id)=true:=by simp[hi]
      simp only[TM,J7,J8,Hz,Qa,Qb,Qc,Qd,Qe,Qf,Qg,Qh,Qi,Qj,Qk,Ql,Qm,Qn,true_and,and_true,Qo,Qp,Qq,Qr,Qs,Qt,Qu,Qv,Qw,Qx,Qy,Qz,Ra,Rb,Rc,Rd,Re,Rf,Rg,Rh,Ri,Rj,Rk,Rl,Rm,Ya,Yb,Yc,Rn,Ro,Xv,Yd,Ye,Rq,Rs,Rt,Ru,Rw,Rx,Ry,hs,Rx,dk,di,C6,KJ,No,Rz,Wa,Wb,Wc,Wd,We,Wf,Wg,Wh,Wi,Wj,Wl,Wm,Wn,Wp,Wq,Wr,Ws,Wt,Wu,Wv,Ww,Wx,Wy,Wz,Xa,Xb,Xc,Xd,Xe,Xf,Xg,Xh,Xi,Xj,Xk,Xl,Xm,Xn,Xo,Xp,Xq,Xr,ao,au,ap,am,aw,ay,List.getElem?_cons_zero,List.getElem?_cons_succ,aq,az,bA,bB,ak,Nat.reduceAdd,Nat.reduceLT,Nat.reduceLeDiff,decide_true,decide_false,Bool.true_and,Bool.and_true,bC,aj,Option.some.injEq,Xs,Xt,Xu,Xv]
      exact hend _ _
  · have dk:decide (t.kind≠u.kind)=true:=by simp[hk]
    simp only[TM,J7,J8,Hz,Qa,Qb,Qc,Qd,Qe,Qf,Qg,Qh,Qi,Qj,Qk,Ql,Qm,Qn,true_and,and_true,Qo,Qp,Qq,Qr,Qs,Qt,Qu,Qv,Qw,Qx,Qy,Qz,Ra,Rb,Rc,Rd,Re,Rf,Rg,Rh,Ri,Rj,Rk,Rl,Rm,Ya,Yb,Yc,Rn,Ro,Xv,Yd,Ye,Rq,Rs,Rt,Ru,Rw,Rx,Ry,hs,Rx,dk,C6,KJ,Rz,Wa,Wb,Wc,Wd,We,Wf,Wg,Wh,Wi,Wj,Wl,Wm,Wn,Wp,Wq,Wr,Ws,Wt,Wu,Wv,Ww,Wx,Wy,Wz,Xa,Xb,Xc,Xd,Xe,Xf,Xg,Xh,Xi,Xj,Xk,Xl,Xm,Xn,Xo,Xp,Xq,Xr,ao,au,ap,am,aw,ay,List.getElem?_cons_zero,List.getElem?_cons_succ,aq,az,bA,bB,ak,Nat.reduceAdd,Nat.reduceLT,Nat.reduceLeDiff,decide_true,decide_false,Bool.true_and,Bool.and_true,bC,aj,Option.some.injEq,Xs,Xt,Xu,Xv]
    exact hend _ _
set_option maxRecDepth 20000 in
theorem PR{E:Be}(hE:Ah E){q:Nat}{T:List RT}{O:List Nat}(hT:T.length≤1000){u:RT}(hu:u.con<11){s0:AD}(h0:NK s0 q T O)(hg0:Cc s0 1 A6=true)(h10:1<s0.next)(hru:An s0 u.kv u.kids)(hkl:∀t∈T,t.kids.length≤3){bx:Nat}(hbx:s0.heap.get bx=some (R 122 0 false u.cells))(hbl:bx<s0.next)(a1:AV){Q:Aw→Prop}{marks:List Nat}
  (hfound:∀ (i:Nat) (y5 y6:AV) s',i<T.length→BK s0.next s0 s'→Q ⟨.ret,[.ptr (some (q,0)),a1,.ptr (some (bx,0)),iv (i:Int),iv (i:Int),y5,y6],marks,s'⟩)
  (hnot:∀ (y4 y5 y6:AV) s',BK s0.next s0 s'→Ag 0 Q ⟨.exit 0,[.ptr (some (q,0)),a1,.ptr (some (bx,0)),iv 0,y4,y5,y6],marks,s'⟩):
  ∀ (m i:Nat) (s:AD) (a5 a6:AV),m+i=T.length→BK s0.next s0 s→WC E none (AZ.loop K6) (Ag 0 Q) [.ptr (some (q,0)),a1,.ptr (some (bx,0)),iv 0,iv (i:Int),a5,a6] marks s:=by
 obtain⟨c0,c1,c2,c3,c4,c5,c6,hc,huc⟩:=u.ten hu
 intro m
 induction m with
 | zero =>
  intro i s a5 a6 hi ho
  have h:=h0.old ho
  obtain⟨tv,OT,hobj,hbuf,_⟩:=h.ex
  obtain⟨a,c,rfl,_⟩:=hbuf.slice
  refine WC.loop' ?_
  have hlt:¬ ((i:Int)<(T.length:Int)):=by omega
  simp only[K6,QZ,Qa,Qb,Qc,Qd,Qe,Qf,Qg,Qh,Qi,Qj,Qk,Ql,Qm,Qn,true_and,and_true,Qo,Qp,Qq,Qr,Qs,Qt,Qu,Qv,Qw,Qx,Qy,Qz,Ra,Rb,Rc,Rd,Re,Rf,Rg,Rh,Ri,Rj,Rk,Rl,Rm,Ya,Yb,Yc,Rn,Ro,Xv,Yd,Ye,Rq,Rs,Rt,Ru,Rw,Rx,Ry,hobj,Ca,Gd,Ad Tryz.underlying78,Rq,hlt,decide_false,Rz,Wa,Wb,Wc,Wd,We,Wf,Wg,Wh,Wi,Wj,Wl,Wm,Wn,Wp,Wq,Wr,Ws,Wt,Wu,Wv,Ww,Wx,Wy,Wz,Xa,Xb,Xc,Xd,Xe,Xf,Xg,Xh,Xi,Xj,Xk,Xl,Xm,Xn,Xo,Xp,Xq,Xr,ao,au,ap,am,aw,ay,List.getElem?_cons_zero,List.getElem?_cons_succ,aq,az,bA,bB,ak,Nat.reduceAdd,Nat.reduceLT,Nat.reduceLeDiff,decide_true,decide_false,Bool.true_and,Bool.and_true,bC,aj,Option.some.injEq,Xs,Xt,Xu,Xv]
  exact hnot _ _ _ _ ho
 | succ m ih =>
  intro i s a5 a6 hi ho
  have h:=h0.old ho
  obtain⟨tv,OT,hobj,hbuf,hk,hO,_⟩:=h.ex
  have hil:i<T.length:=by omega
  have ht:T[i]? = some T[i]:=bD hil
  have htm:T[i]∈T:=List.getElem_mem _
  have hTc:∀t∈T,t.con<11:=fun t ht=>(hk t ht).1
  obtain⟨hat,hle⟩:=Gx hTc ht
  rcases hbuf.row with⟨_,hz,_⟩ | ⟨j,r,rfl,hjO,hjr,hh⟩
  ·omega
  have hln:BB (s.heap.get j) (i * 10) 10=some T[i].cells:=by rw[hjr,FD hh hle,hat]
  have hlt:((i:Int)<(T.length:Int)):=by omega
  have hadd:i64 ((i:Int)+1):=by unfold i64;omega
  have hbx1:s.heap.get bx=some (R 122 0 false u.cells):=by rw[ho.2 bx hbl];exact hbx
  have hlb:BB (some (R 122 0 false u.cells)) 0 10=some u.cells:=by
   rw[Wj (by rw[RT.len hu];exact aj _),aq,bY (by rw[RT.len hu];exact aj _)]
  have hal:=fun(K:AV→AD→Prop)=>Pl (K:=K) hE (s:=s) (by rw[BP (ho.2 1 h10)];exact hg0) (bG h10 ho.1) (hTc _ htm) hu ((hk _ htm).2.rd h.lt) (hru.old ho) (by have:=hkl _ htm;omega)
  refine WC.loop' ?_
  obtain⟨W,hW⟩:∃W,W=AZ.loop K6:=⟨_,rfl⟩
  rw[← hW]
  simp only[K6,QZ,V2,Qa,Qb,Qc,Qd,Qe,Qf,Qg,Qh,Qi,Qj,Qk,Ql,Qm,Qn,true_and,and_true,Qo,Qp,Qq,Qr,Qs,Qt,Qu,Qv,Qw,Qx,Qy,Qz,Ra,Rb,Rc,Rd,Re,Rf,Rg,Rh,Ri,Rj,Rk,Rl,Rm,Ya,Yb,Yc,Rn,Ro,Xv,Yd,Ye,Rq,Rs,Rt,Ru,Rw,Rx,Ry,hobj,Ca,Gd,NP,Iv,Ad Tryz.underlying78,Rq,hlt,decide_true,AY Tryz.underlying78 Iv hil,hln,hbx1,hlb,Rz,Wa,Wb,Wc,Wd,We,Wf,Wg,Wh,Wi,Wj,Wl,Wm,Wn,Wp,Wq,Wr,Ws,Wt,Wu,Wv,Ww,Wx,Wy,Wz,Xa,Xb,Xc,Xd,Xe,Xf,Xg,Xh,Xi,Xj,Xk,Xl,Xm,Xn,Xo,Xp,Xq,Xr,ao,au,ap,am,aw,ay,List.getElem?_cons_zero,List.getElem?_cons_succ,aq,az,bA,bB,ak,Nat.reduceAdd,Nat.reduceLT,Nat.reduceLeDiff,decide_true,decide_false,Bool.true_and,Bool.and_true,bC,aj,Option.some.injEq,Xs,Xt,Xu,Xv]
  refine hal _ fun b s' ho'=>?_
  have ho2:BK s0.next s0 s':=ho.trans (ho'.mono ho.1)
  cases b with
  | true =>
   simp only[Qa,Qb,Qc,Qd,Qe,Qf,Qg,Qh,Qi,Qj,Qk,Ql,Qm,Qn,true_and,and_true,Qo,Qp,Qq,Qr,Qs,Qt,Qu,Qv,Qw,Qx,Qy,Qz,Ra,Rb,Rc,Rd,Re,Rf,Rg,Rh,Ri,Rj,Rk,Rl,Rm,Ya,Yb,Yc,Rn,Ro,Xv,Yd,Ye,Rq,Rs,Rt,Ru,Rw,Rx,Ry,V3]
   exact hfound i _ _ s' hil ho2
  | false =>
   have:=ih (i+1) s' (.bool true) (.bool false) (by omega) ho2
   rw[← hW,show((i+1:Nat):Int)=(i:Int)+1 from by omega]at this
   simp only[Qa,Qb,Qc,Qd,Qe,Qf,Qg,Qh,Qi,Qj,Qk,Ql,Qm,Qn,true_and,and_true,Qo,Qp,Qq,Qr,Qs,Qt,Qu,Qv,Qw,Qx,Qy,Qz,Ra,Rb,Rc,Rd,Re,Rf,Rg,Rh,Ri,Rj,Rk,Rl,Rm,Ya,Yb,Yc,Rn,Ro,Xv,Yd,Ye,Rq,Rs,Rt,Ru,Rw,Rx,Ry,V4,BI _ _ _ _ hadd]
   exact this
theorem SY(c0 c1 c2 c3 c4 c5 c6 c7 c8 c9:AV):Ae Tryz.prog 78 1 (zipIdx [0] [.agg [c0,c1,c2,c3,c4,c5,c6,c7,c8,c9]])=some (R 122 10 false [c0,c1,c2,c3,c4,c5,c6,c7,c8,c9]):=by kernel_rfl
theorem UE:B2 Tryz.prog 122 10=true:=by kernel_rfl
theorem S9:BS Tryz.prog 78=true:=by kernel_rfl
set_option maxRecDepth 20000 in
theorem OC      {E : Be}  (hE : Ah    E) {s : AD}  {q : Nat} {T : List RT} {O : List Nat} (h : NK  s q T O) (hg : Cc   s 1 A6    = true) (h1 : 1 < s.next) (hT : T.length ≤ 900) (hkl : ∀ t ∈ T, t.kids.length ≤ 3) {u : RT} (hu : u.con < 11) (hul : u.kids.length ≤ 3)
    (hrow:(u.kids=[]∧u.kv=.slice none 0 (some 0))∨∃j,u.kv=.slice (some (j,0)) u.kids.length none∧j<s.next∧j ∉ O∧BB (s.heap.get j) 0 u.kids.length=some (Bn u.kids)) (hlow:∀k∈u.kids,0≤k∧k<(T.length:Int)) {K:AV→AD→Prop}
    (hK:∀ (i:Nat) s' O' T',(T'=T∨T'=T++[u])→i<T'.length→NK s' q T' O'→Bu O s s'→(∀j∈O',j∈O∨s.next≤j∨Iq u.kv=some j)→K (iv (i:Int)) s'):
    WF E 81 [.ptr (some (q,0)),.agg u.cells] K s:=by
  obtain⟨c0,c1,c2,c3,c4,c5,c6,hc,huc⟩:=u.ten hu
  have hru:An s u.kv u.kids:=by
    rcases hrow with⟨e1,e2⟩ | ⟨j,e1,e2,e3,e4⟩
    · exact .inl ⟨e1,e2⟩
    · exact .inr ⟨j,0,none,e1,e2,e4⟩
  rw[huc]
  refine hE.go XW (by decide) rfl ?_
  have hlt:=h.lt
  have hql:q<s.next:=by obtain⟨_,_,_,_,_,hO,_⟩:=h.ex;exact hlt q (hO q (by simp))
  generalize hs:s.next=b at hql
  have hs0:s=ext s []:=(Aa s).symm
  have hold:BK s.next s (ext s [R 122 0 false u.cells]):=AQ
  have hr1:=h.old hold
  have hbx:(ext s [R 122 0 false u.cells]).heap.get (nid b 0)=some (R 122 0 false u.cells):=by rw[Wg hs (by simp)];rfl
  have hnx:(ext s [R 122 0 false u.cells]).next=b+1:=by rw[Wm,hs,AF];rfl
  have hloop:=fun a1 Q marks hf hn m i s' a5 a6=>PR (Q:=Q) (marks:=marks) hE (by omega) hu hr1 (by rw[BP (Wh h1)];exact hg) (by rw[hnx];omega) (hru.old hold) hkl hbx (by rw[hnx,AF];omega) a1 hf hn m i s' a5 a6
  rw[huc]at hloop
  rw[hs0]
  simp only[ac,V0,V1,Qa,Qb,Qc,Qd,Qe,Qf,Qg,Qh,Qi,Qj,Qk,Ql,Qm,Qn,true_and,and_true,Qo,Qp,Qq,Qr,Qs,Qt,Qu,Qv,Qw,Qx,Qy,Qz,Ra,Rb,Rc,Rd,Re,Rf,Rg,Rh,Ri,Rj,Rk,Rl,Rm,Ya,Yb,Yc,Rn,Ro,Xv,Yd,Ye,Rq,Rs,Rt,Ru,Rw,Rx,Ry,hs,Rz,Wa,Wb,Wc,Wd,We,Wf,Wg,Wh,Wi,Wj,Wl,Wm,Wn,Wp,Wq,Wr,Ws,Wt,Wu,Wv,Ww,Wx,Wy,Wz,Xa,Xb,Xc,Xd,Xe,Xf,Xg,Xh,Xi,Xj,Xk,Xl,Xm,Xn,Xo,Xp,Xq,Xr,ao,au,ap,am,aw,ay,List.getElem?_cons_zero,List.getElem?_cons_succ,aq,az,bA,bB,ak,Nat.reduceAdd,Nat.reduceLT,Nat.reduceLeDiff,decide_true,decide_false,Bool.true_and,Bool.and_true,bC,aj,Option.some.injEq,Xs,Xt,Xu,Xv]
  refine hloop _ _ _ (fun i y5 y6 s' hi ho=>?_) (fun y4 y5 y6 s' ho=>?_) T.length 0 _ _ _ (by omega) (BK.refl _ _)
  · simp only[Qa,Qb,Qc,Qd,Qe,Qf,Qg,Qh,Qi,Qj,Qk,Ql,Qm,Qn,true_and,and_true,Qo,Qp,Qq,Qr,Qs,Qt,Qu,Qv,Qw,Qx,Qy,Qz,Ra,Rb,Rc,Rd,Re,Rf,Rg,Rh,Ri,Rj,Rk,Rl,Rm,Ya,Yb,Yc,Rn,Ro,Xv,Yd,Ye,Rq,Rs,Rt,Ru,Rw,Rx,Ry]
    rw[← huc]at ho
    have ho2:BK s.next s s':=hold.trans (ho.mono hold.1)
    exact hK i s' O T (.inl rfl) hi (h.old ho2) (ho2.frO O) fun j hj=>.inl hj
  · simp only[Qa,Qb,Qc,Qd,Qe,Qf,Qg,Qh,Qi,Qj,Qk,Ql,Qm,Qn,true_and,and_true,Qo,Qp,Qq,Qr,Qs,Qt,Qu,Qv,Qw,Qx,Qy,Qz,Ra,Rb,Rc,Rd,Re,Rf,Rg,Rh,Ri,Rj,Rk,Rl,Rm,Ya,Yb,Yc,Rn,Ro,Xv,Yd,Ye,Rq,Rs,Rt,Ru,Rw,Rx,Ry]
    rw[if_pos trivial]
    rw[← huc]at ho
    have ho2:BK s.next s s':=hold.trans (ho.mono hold.1)
    have h2:=h.old ho2
    obtain⟨tv,OT,hobj,hbuf,hk,hO,hqT⟩:=h2.ex
    have hTc:∀t∈T,t.con<11:=fun t ht=>(hk t ht).1
    have hbx2:s'.heap.get (nid b 0)=some (R 122 0 false [iv u.kind,iv u.id,c0,c1,c2,c3,c4,c5,c6,u.kv]):=by
      rw[ho.2 _ (by rw[hnx,AF];omega),hbx,huc]
    have hsb:b+1≤s'.next:=by have:=ho.1;rw[hnx]at this;exact this
    generalize hs':s'.next=b' at hsb
    have hs0':s'=ext s' []:=(Aa s').symm
    have hucl:u.cells.length=10:=RT.len hu
    have hsrc:CT Tryz.prog (ext s' [R 122 10 false u.cells]) 122 10 (.slice (some (nid b' 0,0)) 1 (some 1))=some (1,u.cells):=by
      show(JC _ (nid b' 0) 0 1 10).bind _=_
      rw[G5 (l:=u.cells) (by rw[FE,Wg hs' (by simp)];show BB (some (R 122 10 false u.cells)) _ _=_;rw[Wj (by rw[hucl];exact aj _),aq,bY (by rw[hucl];exact aj _)])]
      rfl
    have hkv:u.kv.isCell=true:=by rcases hrow with⟨_,e⟩ | ⟨_,e,_⟩<;>rw[e]<;>rfl
    have hac:AX u.cells=true:=by
      obtain⟨tag,d1,d2,d3,d5,d6,hd,_,q1,q2,q3,q5,q6⟩:=BF _ (bn hu (by omega:11<13))
      show AX ([iv u.kind,iv u.id]++(Tm.con u.con).cells++[u.kv])=true
      rw[hd]
      simp only[ap,am,AX,Xl,Xq,q1,q2,q3,q5,q6,hkv,Bool.and_self]
    have hbuf2:=hbuf.frame (s':=ext s' [R 122 10 false u.cells]) (by rw[Wm,AF];omega) fun j hj=>Wh (hbuf.lt j hj)
    obtain⟨v2,s2,OB2,happ,hb2,hn2,hf2,hO2,hsl⟩:=hbuf2.append (xt:=78) (m:=1) Tryz.underlying78 Iv Yp (by omega) S9 UE (by omega) hsrc (by rw[hucl]) hac (by omega) (by omega)
    have hnx2:(ext s' [R 122 10 false u.cells]).next=b'+1:=by rw[Wm,hs',AF];rfl
    rw[hnx2]at hn2 hf2 hO2
    obtain⟨av,cv,hv2⟩:∃a c,v2=.slice a (T.length+1) c:=let ⟨a,c,h,_⟩:=hb2.slice;⟨a,c,h⟩
    subst hv2
    have hql':q<b':=by omega
    have gq:s2.heap.get q=some (R 80 0 false [tv]):=by rw[hf2 q (by omega) hqT,Wh (by omega)];exact hobj
    have hne:newObj s' (R 122 10 false [iv u.kind,iv u.id,c0,c1,c2,c3,c4,c5,c6,u.kv])=ext s' [R 122 10 false u.cells]:=by
      have:=Wl s' [] (R 122 10 false u.cells)
      rw[Aa,huc]at this
      rw[huc];exact this
    have hge:∀j,j<b'→(ext s' [R 122 10 false u.cells]).heap.get j=s'.heap.get j:=fun j hj=>Wh (by omega)
    have gobj:(ext s' [R 122 10 false u.cells]).heap.get q=some (R 80 0 false [tv]):=by rw[hge q hql'];exact hobj
    have hsub:i64 (((T.length+1:Nat):Int) - 1):=by unfold i64;omega
    have hsub2:((T.length+1:Nat):Int) - 1=(T.length:Int):=by omega
    simp only[V5,V6,Qa,Qb,Qc,Qd,Qe,Qf,Qg,Qh,Qi,Qj,Qk,Ql,Qm,Qn,true_and,and_true,Qo,Qp,Qq,Qr,Qs,Qt,Qu,Qv,Qw,Qx,Qy,Qz,Ra,Rb,Rc,Rd,Re,Rf,Rg,Rh,Ri,Rj,Rk,Rl,Rm,Ya,Yb,Yc,Rn,Ro,Xv,Yd,Ye,Rq,Rs,Rt,Ru,Rw,Rx,Ry,hobj,hbx2,Ca,Gd,Zk,NP,Iv,SY,hne,hs',Rz,Wa,Wb,Wc,Wd,We,Wf,Wg,Wh,Wi,Wj,Wl,Wm,Wn,Wp,Wq,Wr,Ws,Wt,Wu,Wv,Ww,Wx,Wy,Wz,Xa,Xb,Xc,Xd,Xe,Xf,Xg,Xh,Xi,Xj,Xk,Xl,Xm,Xn,Xo,Xp,Xq,Xr,ao,au,ap,am,aw,ay,List.getElem?_cons_zero,List.getElem?_cons_succ,aq,az,bA,bB,ak,Nat.reduceAdd,Nat.reduceLT,Nat.reduceLeDiff,decide_true,decide_false,Bool.true_and,Bool.and_true,bC,aj,Option.some.injEq,Xs,Xt,Xu,Xv]
    rw[Ew]at happ
    simp only[Qa,Qb,Qc,Qd,Qe,Qf,Qg,Qh,Qi,Qj,Qk,Ql,Qm,Qn,true_and,and_true,Qo,Qp,Qq,Qr,Qs,Qt,Qu,Qv,Qw,Qx,Qy,Qz,Ra,Rb,Rc,Rd,Re,Rf,Rg,Rh,Ri,Rj,Rk,Rl,Rm,Ya,Yb,Yc,Rn,Ro,Xv,Yd,Ye,Rq,Rs,Rt,Ru,Rw,Rx,Ry,happ,gq,gobj,Ca,Gd,Zk,Ad Tryz.underlying78,Db _ _ _ _ hsub,hsub2,Rz,Wa,Wb,Wc,Wd,We,Wf,Wg,Wh,Wi,Wj,Wl,Wm,Wn,Wp,Wq,Wr,Ws,Wt,Wu,Wv,Ww,Wx,Wy,Wz,Xa,Xb,Xc,Xd,Xe,Xf,Xg,Xh,Xi,Xj,Xk,Xl,Xm,Xn,Xo,Xp,Xq,Xr,ao,au,ap,am,aw,ay,List.getElem?_cons_zero,List.getElem?_cons_succ,aq,az,bA,bB,ak,Nat.reduceAdd,Nat.reduceLT,Nat.reduceLeDiff,decide_true,decide_false,Bool.true_and,Bool.and_true,bC,aj,Option.some.injEq,Xs,Xt,Xu,Xv]
    have hOT:∀j∈OT,j∈O:=fun j hj=>hO j (by simp[hj])
    have hqO:q∈O:=hO q (by simp)
    have hqB:q ∉ OB2:=fun hm=>(hO2 q hm).elim hqT (fun h=>by omega)
    have hlt':∀j∈O,j<b':=fun j hj=>by have:=h2.lt j hj;omega
    have hget:∀j,j<b'→j≠q→j ∉ OT→(setObj s2 q (R 80 0 false [.slice av (T.length+1) cv])).heap.get j=s'.heap.get j:=fun j hj hq hT=>by
      rw[Wr _ hq,hf2 j (by omega) hT,hge j hj]
    have hnx3:(setObj s2 q (R 80 0 false [.slice av (T.length+1) cv])).next=b'+2:=by rw[Wp,hn2]
    have hob:∀j,s.heap.get j=s.heap.get j:=fun _=>rfl
    refine hK T.length _ (O++(OB2++(Iq u.kv).toList)) (T++[u]) (.inr rfl) (by simp) ⟨⟨.slice av (T.length+1) cv,OB2,Wq _ _ _,?_,?_,?_,hqB⟩,?_,?_⟩ ⟨?_,?_⟩ ?_
    · rw[bV,show E4 (T++[u])=E4 T++u.cells from by simp[E4]]
      exact hb2.frame (aj _) fun j hj=>Wr _ fun e=>hqB (e▸hj)
    · intro t ht
      rcases List.mem_append.1 ht with ht | ht
      · refine ⟨(hk t ht).1, ?_⟩
        rcases(hk t ht).2 with h3 | ⟨j,g1,g2,g3,g4⟩
        · exact .inl h3
        · have hjq : j ≠ q := fun e => g3 (by simp [e])
          have hjT:j ∉ OT:=fun hm=>g3 (by simp[hm])
          refine .inr ⟨j,g1,bq _ g2,fun hm=>?_,by rw[hget j (hlt' j g2) hjq hjT];exact g4⟩
          rcases bT.1 hm with hm | hm
          · exact hjq hm
          · exact(hO2 j hm).elim hjT (fun h=>by have:=hlt' j g2;omega)
      · rw [List.mem_singleton.1 ht]
        refine⟨hu,?_⟩
        rcases hrow with h3 | ⟨j,g1,g2,g3,g4⟩
        · exact .inl h3
        · have hjq : j ≠ q := fun e => g3 (e ▸ hqO)
          have hjT:j ∉ OT:=fun hm=>g3 (hOT j hm)
          have hjb:j<b':=by omega
          refine .inr ⟨j,g1,bz _ (bz _ (by rw[g1];simp[Iq])),fun hm=>?_,by rw[hget j hjb hjq hjT,ho2.2 j g2];exact g4⟩
          rcases bT.1 hm with hm | hm
          · exact hjq hm
          · exact(hO2 j hm).elim hjT (fun h=>by omega)
    · intro j hj
      rcases bT.1 hj with rfl | hj
      · exact bq _ hqO
      · exact bz _ (bq _ hj)
    · intro i t hi k hkk
      rcases bE i T.length with hl | hl
      · rw[bP hl]at hi
        exact h.low i t hi k hkk
      · rw[bS hl]at hi
        have:t=u:=by
          cases hz:i - T.length with
          | zero=>rw[hz]at hi;simpa using hi.symm
          | succ n=>rw[hz]at hi;simp at hi
        subst this
        have:=hlow k hkk
        omega
    · intro j hj
      rw[hnx3]
      rcases List.mem_append.1 hj with hj | hj
      · have:=hlt' j hj;omega
      · rcases List.mem_append.1 hj with hj | hj
        · have:=hb2.lt j hj;omega
        · rcases hrow with ⟨_, e⟩ | ⟨j', e, g2, _⟩
          · rw[e]at hj;simp[Iq]at hj
          · rw[e]at hj
            simp[Iq]at hj
            omega
    · rw[hnx3];omega
    · intro j hj hjO
      rw[hget j (by omega) (fun e=>hjO (e▸hqO)) (fun hm=>hjO (hOT j hm)),ho2.2 j hj]
    · intro j hj
      rcases List.mem_append.1 hj with hj | hj
      · exact .inl hj
      · rcases List.mem_append.1 hj with hj | hj
        · exact(hO2 j hj).imp (hOT j) (fun h=>.inl (by omega))
        · refine .inr (.inr ?_)
          cases hz:Iq u.kv with
          | none=>rw[hz]at hj;simp at hj
          | some y=>rw[hz]at hj;simp at hj;rw[hj]
structure RS(s:AD)(q:Nat)(T:List RT)(O:List Nat):Prop where
 at_:NK s q T O
 gl:CA s O
 kl:∀t∈T,t.kids.length≤3
theorem RS.old{s s':AD}{q:Nat}{T:List RT}{O:List Nat}(h:RS s q T O)(k:BK s.next s s'):RS s' q T O:=⟨h.at_.old k,h.gl.old k,h.kl⟩
theorem Im{E:Be}(hE:Ah E){s s1:AD}{q:Nat}{T:List RT}{O:List Nat}(h:RS s q T O)(ho:BK s.next s s1)(hT:T.length≤900){kind id:Int}{n:Nat}(hn:n<11){K:AV→AD→Prop}
    (hK:∀ (i:Nat) s' O' T',RS s' q T' O'→Bu O s s'→AT O O' s→(∃x,T'=T++x)→T'.length≤T.length+1→i<T'.length→K (iv (i:Int)) s'):
    WF E 81 [.ptr (some (q,0)),.agg ([iv kind,iv id]++(Tm.con n).cells++[.slice none 0 (some 0)])] K s1:=by
  have h1:=h.old ho
  refine OC hE (u:=⟨kind,id,n,[],.slice none 0 (some 0)⟩) h1.at_ h1.gl.1 h1.gl.2.1 hT h.kl hn (bL _) (.inl ⟨rfl,rfl⟩) (fun k hk=>by cases hk) fun i s' O' T' g1 g2 g3 g4 g5=>?_
  have hgr:AT O O' s1:=fun j hj=>by
    rcases g5 j hj with h' | h' | h'
    · exact .inl h'
    · exact .inr h'
    · cases h'
  have hfr:Bu O s s':=(ho.frO O).trans g4 (AT.refl O s)
  have hpre:∃x,T'=T++x:=by
    rcases g1 with rfl | rfl
    · exact⟨[],by simp⟩
    · exact⟨_,rfl⟩
  refine hK i s' O' T' ⟨g3,h1.gl.step g4 hgr,fun t ht=>?_⟩ hfr (AT.trans (AT.refl O s) hgr ho.1) hpre ?_ g2
  · rcases g1 with rfl | rfl
    · exact h.kl t ht
    · rcases List.mem_append.1 ht with ht | ht
      · exact h.kl t ht
      · rw[List.mem_singleton.1 ht];exact bL _
  · rcases g1 with rfl | rfl<;>simp
theorem JH(a b:Int):AR Tryz.prog 122 (zipIdx [0,1] [iv a,iv b])=some (.agg ([iv a,iv b]++Tm.nullC++[.slice none 0 (some 0)])):=by kernel_rfl
theorem OU(a:Int)(c0 c1 c2 c3 c4 c5 c6:AV):AR Tryz.prog 122 (zipIdx [0,2] [iv a,.agg [c0,c1,c2,c3,c4,c5,c6]])=some (.agg [iv a,iv 0,c0,c1,c2,c3,c4,c5,c6,.slice none 0 (some 0)]):=by kernel_rfl
section
variable{E:Be}(hE:Ah E){s:AD}{q:Nat}{T:List RT}{O:List Nat}(h:RS s q T O)(hT:T.length≤900){K:AV→AD→Prop}
  (hK:∀ (i:Nat) s' O' T',RS s' q T' O'→Bu O s s'→AT O O' s→(∃x,T'=T++x)→T'.length≤T.length+1→i<T'.length→K (iv (i:Int)) s')
include hE h hT hK
theorem Tv{id:Int}:WF E 63 [.ptr (some (q,0)),iv id] K s:=by
 refine hE.go XQ (by decide) rfl ?_
 simp only[aW,Vk,Vl,JH,Qa,Qb,Qc,Qd,Qe,Qf,Qg,Qh,Qi,Qj,Qk,Ql,Qm,Qn,true_and,and_true,Qo,Qp,Qq,Qr,Qs,Qt,Qu,Qv,Qw,Qx,Qy,Qz,Ra,Rb,Rc,Rd,Re,Rf,Rg,Rh,Ri,Rj,Rk,Rl,Rm,Ya,Yb,Yc,Rn,Ro,Xv,Yd,Ye,Rq,Rs,Rt,Ru,Rw,Rx,Ry]
 refine Im hE h (BK.refl _ _) hT (n:=0) (by omega) fun i s' O' T' g1 g2 g3 g4 g5 g6=>?_
 simp only[Qa,Qb,Qc,Qd,Qe,Qf,Qg,Qh,Qi,Qj,Qk,Ql,Qm,Qn,true_and,and_true,Qo,Qp,Qq,Qr,Qs,Qt,Qu,Qv,Qw,Qx,Qy,Qz,Ra,Rb,Rc,Rd,Re,Rf,Rg,Rh,Ri,Rj,Rk,Rl,Rm,Ya,Yb,Yc,Rn,Ro,Xv,Yd,Ye,Rq,Rs,Rt,Ru,Rw,Rx,Ry]
 exact hK i s' O' T' g1 g2 g3 g4 g5 g6
theorem Ts{id:Int}:WF E 64 [.ptr (some (q,0)),iv id] K s:=by
 refine hE.go XR (by decide) rfl ?_
 simp only[aX,Vm,Vn,JH,LY,Qa,Qb,Qc,Qd,Qe,Qf,Qg,Qh,Qi,Qj,Qk,Ql,Qm,Qn,true_and,and_true,Qo,Qp,Qq,Qr,Qs,Qt,Qu,Qv,Qw,Qx,Qy,Qz,Ra,Rb,Rc,Rd,Re,Rf,Rg,Rh,Ri,Rj,Rk,Rl,Rm,Ya,Yb,Yc,Rn,Ro,Xv,Yd,Ye,Rq,Rs,Rt,Ru,Rw,Rx,Ry]
 refine Im hE h (BK.refl _ _) hT (n:=0) (by omega) fun i s' O' T' g1 g2 g3 g4 g5 g6=>?_
 simp only[Qa,Qb,Qc,Qd,Qe,Qf,Qg,Qh,Qi,Qj,Qk,Ql,Qm,Qn,true_and,and_true,Qo,Qp,Qq,Qr,Qs,Qt,Qu,Qv,Qw,Qx,Qy,Qz,Ra,Rb,Rc,Rd,Re,Rf,Rg,Rh,Ri,Rj,Rk,Rl,Rm,Ya,Yb,Yc,Rn,Ro,Xv,Yd,Ye,Rq,Rs,Rt,Ru,Rw,Rx,Ry]
 exact hK i s' O' T' g1 g2 g3 g4 g5 g6
end
theorem Kg{E:Be}(hE:Ah E){s:AD}(hg:Cc s 1 A6=true)(h1:1<s.next){n:Nat}(hn:n<11){K:AV→AD→Prop}(hK:∀s',BK s.next s s'→K (.agg (Tm.con n).cells) s'):WF E 82 [.agg (Tm.con n).cells] K s:=by
 obtain⟨tag,c1,c2,c3,c5,c6,hc,h5,d1,d2,d3,d5,d6⟩:=BF n (bn hn (by omega))
 have hr:=fun(K:AV→AD→Prop) os=>Ls (K:=K) hE (s:=ext s os) (by rw[BP (Wh h1)];exact hg) hn
 rw[hc]at hr hK ⊢
 refine hE.go XX (by decide) rfl ?_
 generalize hs:s.next=b at hK
 have hs0:s=ext s []:=(Aa s).symm
 have hfin:∀os,K (.agg [iv tag,c1,c2,c3,.slice none 0 (some 0),c5,c6]) (ext s os):=fun os=>hK _ (by rw[← hs];exact AQ)
 rw[hs0]
 simp only[ae,V7,V8,Zn,hs,He,Hu,Qa,Qb,Qc,Qd,Qe,Qf,Qg,Qh,Qi,Qj,Qk,Ql,Qm,Qn,true_and,and_true,Qo,Qp,Qq,Qr,Qs,Qt,Qu,Qv,Qw,Qx,Qy,Qz,Ra,Rb,Rc,Rd,Re,Rf,Rg,Rh,Ri,Rj,Rk,Rl,Rm,Ya,Yb,Yc,Rn,Ro,Xv,Yd,Ye,Rq,Rs,Rt,Ru,Rw,Rx,Ry,Rz,Wa,Wb,Wc,Wd,We,Wf,Wg,Wh,Wi,Wj,Wl,Wm,Wn,Wp,Wq,Wr,Ws,Wt,Wu,Wv,Ww,Wx,Wy,Wz,Xa,Xb,Xc,Xd,Xe,Xf,Xg,Xh,Xi,Xj,Xk,Xl,Xm,Xn,Xo,Xp,Xq,Xr,ao,au,ap,am,aw,ay,List.getElem?_cons_zero,List.getElem?_cons_succ,aq,az,bA,bB,ak,Nat.reduceAdd,Nat.reduceLT,Nat.reduceLeDiff,decide_true,decide_false,Bool.true_and,Bool.and_true,bC,aj,Option.some.injEq,Xs,Xt,Xu,Xv]
 refine hr _ _ ?_
 have hgt:decide ((0:Int)<((0:Nat):Int))=false:=rfl
 simp only[Ry,Bool.not_true,Bool.not_false,Rw,Rs,h5,hgt,V9,C6,Yl,He,Hu,RL,RM,hs,Ad Tryz.underlying39,Aj,d1,d2,d3,d5,d6,Qa,Qb,Qc,Qd,Qe,Qf,Qg,Qh,Qi,Qj,Qk,Ql,Qm,Qn,true_and,and_true,Qo,Qp,Qq,Qr,Qs,Qt,Qu,Qv,Qw,Qx,Qy,Qz,Ra,Rb,Rc,Rd,Re,Rf,Rg,Rh,Ri,Rj,Rk,Rl,Rm,Ya,Yb,Yc,Rn,Ro,Xv,Yd,Ye,Rq,Rs,Rt,Ru,Rw,Rx,Ry,Rz,Wa,Wb,Wc,Wd,We,Wf,Wg,Wh,Wi,Wj,Wl,Wm,Wn,Wp,Wq,Wr,Ws,Wt,Wu,Wv,Ww,Wx,Wy,Wz,Xa,Xb,Xc,Xd,Xe,Xf,Xg,Xh,Xi,Xj,Xk,Xl,Xm,Xn,Xo,Xp,Xq,Xr,ao,au,ap,am,aw,ay,List.getElem?_cons_zero,List.getElem?_cons_succ,aq,az,bA,bB,ak,Nat.reduceAdd,Nat.reduceLT,Nat.reduceLeDiff,decide_true,decide_false,Bool.true_and,Bool.and_true,bC,aj,Option.some.injEq,Xs,Xt,Xu,Xv]
 exact hfin _
section
variable{E:Be}(hE:Ah E){s:AD}{q:Nat}{T:List RT}{O:List Nat}(h:RS s q T O)(hT:T.length≤900){K:AV→AD→Prop}
include hE h hT
theorem Jo(hK:∀ (i:Nat) s' O' T',RS s' q T' O'→Bu O s s'→AT O O' s→(∃x,T'=T++x)→T'.length≤T.length+1→i<T'.length→K (iv (i:Int)) s'){n:Nat}(hn:n<11):WF E 65 [.ptr (some (q,0)),.agg (Tm.con n).cells] K s:=by
 obtain⟨tag,c1,c2,c3,c5,c6,hc,h5,d1,d2,d3,d5,d6⟩:=BF n (bn hn (by omega))
 have hg:=h.gl
 have hcs:=fun os (K:AV→AD→Prop)=>Kg (K:=K) hE (s:=ext s os) (by rw[BP (Wh hg.2.1)];exact hg.1) (bG hg.2.1 (AQ (os:=os)).1) hn
 have hput:=fun s1 (ho:BK s.next s s1) (K:AV→AD→Prop)=>Im (K:=K) hE h ho hT (kind:=2) (id:=0) hn
 rw[hc]at hcs hput ⊢
 simp only[ap,am]at hput
 refine hE.go XS (by decide) rfl ?_
 generalize hs:s.next=b
 have hs0:s=ext s []:=(Aa s).symm
 rw[hs0]
 simp only[aY,Vo,Vp,hs,He,Hu,Qa,Qb,Qc,Qd,Qe,Qf,Qg,Qh,Qi,Qj,Qk,Ql,Qm,Qn,true_and,and_true,Qo,Qp,Qq,Qr,Qs,Qt,Qu,Qv,Qw,Qx,Qy,Qz,Ra,Rb,Rc,Rd,Re,Rf,Rg,Rh,Ri,Rj,Rk,Rl,Rm,Ya,Yb,Yc,Rn,Ro,Xv,Yd,Ye,Rq,Rs,Rt,Ru,Rw,Rx,Ry,Rz,Wa,Wb,Wc,Wd,We,Wf,Wg,Wh,Wi,Wj,Wl,Wm,Wn,Wp,Wq,Wr,Ws,Wt,Wu,Wv,Ww,Wx,Wy,Wz,Xa,Xb,Xc,Xd,Xe,Xf,Xg,Xh,Xi,Xj,Xk,Xl,Xm,Xn,Xo,Xp,Xq,Xr,ao,au,ap,am,aw,ay,List.getElem?_cons_zero,List.getElem?_cons_succ,aq,az,bA,bB,ak,Nat.reduceAdd,Nat.reduceLT,Nat.reduceLeDiff,decide_true,decide_false,Bool.true_and,Bool.and_true,bC,aj,Option.some.injEq,Xs,Xt,Xu,Xv]
 refine hcs _ _ fun s1 ho=>?_
 have ho1:BK s.next s s1:=AQ.trans (ho.mono (by rw[Wm,AF];omega))
 simp only[OU,Qa,Qb,Qc,Qd,Qe,Qf,Qg,Qh,Qi,Qj,Qk,Ql,Qm,Qn,true_and,and_true,Qo,Qp,Qq,Qr,Qs,Qt,Qu,Qv,Qw,Qx,Qy,Qz,Ra,Rb,Rc,Rd,Re,Rf,Rg,Rh,Ri,Rj,Rk,Rl,Rm,Ya,Yb,Yc,Rn,Ro,Xv,Yd,Ye,Rq,Rs,Rt,Ru,Rw,Rx,Ry,Rz,Wa,Wb,Wc,Wd,We,Wf,Wg,Wh,Wi,Wj,Wl,Wm,Wn,Wp,Wq,Wr,Ws,Wt,Wu,Wv,Ww,Wx,Wy,Wz,Xa,Xb,Xc,Xd,Xe,Xf,Xg,Xh,Xi,Xj,Xk,Xl,Xm,Xn,Xo,Xp,Xq,Xr,ao,au,ap,am,aw,ay,List.getElem?_cons_zero,List.getElem?_cons_succ,aq,az,bA,bB,ak,Nat.reduceAdd,Nat.reduceLT,Nat.reduceLeDiff,decide_true,decide_false,Bool.true_and,Bool.and_true,bC,aj,Option.some.injEq,Xs,Xt,Xu,Xv]
 refine hput s1 ho1 _ fun i s' O' T' g1 g2 g3 g4 g5 g6=>?_
 simp only[Qa,Qb,Qc,Qd,Qe,Qf,Qg,Qh,Qi,Qj,Qk,Ql,Qm,Qn,true_and,and_true,Qo,Qp,Qq,Qr,Qs,Qt,Qu,Qv,Qw,Qx,Qy,Qz,Ra,Rb,Rc,Rd,Re,Rf,Rg,Rh,Ri,Rj,Rk,Rl,Rm,Ya,Yb,Yc,Rn,Ro,Xv,Yd,Ye,Rq,Rs,Rt,Ru,Rw,Rx,Ry]
 exact hK i s' O' T' g1 g2 g3 g4 g5 g6
theorem Jr(hK:∀ (i:Nat) s' O' T',RS s' q T' O'→Bu O s s'→AT O O' s→(∃x,T'=T++x)→T'.length≤T.length+1→i<T'.length→K (iv (i:Int)) s'){x:Int}:WF E 110 [.ptr (some (q,0)),iv x] K s:=by
  obtain⟨tv,OT,hobj,hbuf,_⟩:=h.at_.ex
  obtain⟨a,c,rfl,_⟩:=hbuf.slice
  have hcon:=fun(K:AV→AD→Prop) hK=>Jo (K:=K) hE h hT hK (n:=0) (by omega)
  refine hE.go TT (by decide) rfl ?_
  by_cases h0:x<0
  · have hd:decide (x<0)=true:=decide_eq_true h0
    simp only[TN,KA,KB,MI,Qa,Qb,Qc,Qd,Qe,Qf,Qg,Qh,Qi,Qj,Qk,Ql,Qm,Qn,true_and,and_true,Qo,Qp,Qq,Qr,Qs,Qt,Qu,Qv,Qw,Qx,Qy,Qz,Ra,Rb,Rc,Rd,Re,Rf,Rg,Rh,Ri,Rj,Rk,Rl,Rm,Ya,Yb,Yc,Rn,Ro,Xv,Yd,Ye,Rq,Rs,Rt,Ru,Rw,Rx,Ry,Ru,Rq,hd,EE,Rz,Wa,Wb,Wc,Wd,We,Wf,Wg,Wh,Wi,Wj,Wl,Wm,Wn,Wp,Wq,Wr,Ws,Wt,Wu,Wv,Ww,Wx,Wy,Wz,Xa,Xb,Xc,Xd,Xe,Xf,Xg,Xh,Xi,Xj,Xk,Xl,Xm,Xn,Xo,Xp,Xq,Xr,ao,au,ap,am,aw,ay,List.getElem?_cons_zero,List.getElem?_cons_succ,aq,az,bA,bB,ak,Nat.reduceAdd,Nat.reduceLT,Nat.reduceLeDiff,decide_true,decide_false,Bool.true_and,Bool.and_true,bC,aj,Option.some.injEq,Xs,Xt,Xu,Xv]
    refine hcon _ fun i s' O' T' g1 g2 g3 g4 g5 g6=>?_
    simp only[Qa,Qb,Qc,Qd,Qe,Qf,Qg,Qh,Qi,Qj,Qk,Ql,Qm,Qn,true_and,and_true,Qo,Qp,Qq,Qr,Qs,Qt,Qu,Qv,Qw,Qx,Qy,Qz,Ra,Rb,Rc,Rd,Re,Rf,Rg,Rh,Ri,Rj,Rk,Rl,Rm,Ya,Yb,Yc,Rn,Ro,Xv,Yd,Ye,Rq,Rs,Rt,Ru,Rw,Rx,Ry]
    exact hK i s' O' T' g1 g2 g3 g4 g5 g6
  · have hd:decide (x<0)=false:=decide_eq_false h0
    by_cases h2:(T.length:Int)≤x
    · have Td:decide ((T.length:Int)≤x)=true:=decide_eq_true h2
      simp only[TN,KA,KB,MI,Qa,Qb,Qc,Qd,Qe,Qf,Qg,Qh,Qi,Qj,Qk,Ql,Qm,Qn,true_and,and_true,Qo,Qp,Qq,Qr,Qs,Qt,Qu,Qv,Qw,Qx,Qy,Qz,Ra,Rb,Rc,Rd,Re,Rf,Rg,Rh,Ri,Rj,Rk,Rl,Rm,Ya,Yb,Yc,Rn,Ro,Xv,Yd,Ye,Rq,Rs,Rt,Ru,Rw,Rx,Ry,Ru,Rq,hd,Td,hobj,Ca,Gd,Ad Tryz.underlying78,EE,Rz,Wa,Wb,Wc,Wd,We,Wf,Wg,Wh,Wi,Wj,Wl,Wm,Wn,Wp,Wq,Wr,Ws,Wt,Wu,Wv,Ww,Wx,Wy,Wz,Xa,Xb,Xc,Xd,Xe,Xf,Xg,Xh,Xi,Xj,Xk,Xl,Xm,Xn,Xo,Xp,Xq,Xr,ao,au,ap,am,aw,ay,List.getElem?_cons_zero,List.getElem?_cons_succ,aq,az,bA,bB,ak,Nat.reduceAdd,Nat.reduceLT,Nat.reduceLeDiff,decide_true,decide_false,Bool.true_and,Bool.and_true,bC,aj,Option.some.injEq,Xs,Xt,Xu,Xv]
      refine hcon _ fun i s' O' T' g1 g2 g3 g4 g5 g6=>?_
      simp only[Qa,Qb,Qc,Qd,Qe,Qf,Qg,Qh,Qi,Qj,Qk,Ql,Qm,Qn,true_and,and_true,Qo,Qp,Qq,Qr,Qs,Qt,Qu,Qv,Qw,Qx,Qy,Qz,Ra,Rb,Rc,Rd,Re,Rf,Rg,Rh,Ri,Rj,Rk,Rl,Rm,Ya,Yb,Yc,Rn,Ro,Xv,Yd,Ye,Rq,Rs,Rt,Ru,Rw,Rx,Ry]
      exact hK i s' O' T' g1 g2 g3 g4 g5 g6
    · have Td  : decide ((T.length : Int) ≤ x) = false := decide_eq_false h2
      have hx:x=(x.toNat:Int):=by omega
      simp only[TN,KA,KB,Py,Qa,Qb,Qc,Qd,Qe,Qf,Qg,Qh,Qi,Qj,Qk,Ql,Qm,Qn,true_and,and_true,Qo,Qp,Qq,Qr,Qs,Qt,Qu,Qv,Qw,Qx,Qy,Qz,Ra,Rb,Rc,Rd,Re,Rf,Rg,Rh,Ri,Rj,Rk,Rl,Rm,Ya,Yb,Yc,Rn,Ro,Xv,Yd,Ye,Rq,Rs,Rt,Ru,Rw,Rx,Ry,Ru,Rq,hd,Td,hobj,Ca,Gd,Ad Tryz.underlying78,Rz,Wa,Wb,Wc,Wd,We,Wf,Wg,Wh,Wi,Wj,Wl,Wm,Wn,Wp,Wq,Wr,Ws,Wt,Wu,Wv,Ww,Wx,Wy,Wz,Xa,Xb,Xc,Xd,Xe,Xf,Xg,Xh,Xi,Xj,Xk,Xl,Xm,Xn,Xo,Xp,Xq,Xr,ao,au,ap,am,aw,ay,List.getElem?_cons_zero,List.getElem?_cons_succ,aq,az,bA,bB,ak,Nat.reduceAdd,Nat.reduceLT,Nat.reduceLeDiff,decide_true,decide_false,Bool.true_and,Bool.and_true,bC,aj,Option.some.injEq,Xs,Xt,Xu,Xv]
      rw[hx]
      exact hK x.toNat s O T h (Bu.refl _ _) (AT.refl _ _) ⟨[],by simp⟩ (by omega) (by omega)
end
theorem F6{P:Program}{t:TypeId}{k:IntKind}{a b:Int}(ha:0≤a)(hb:0<b):AO P .rem t (.int k a) (.int k b)=some (.int k (a % b)):=by
 have hne:b≠0:=by omega
 have e1:a.tmod b=a % b:=Int.tmod_eq_emod_of_nonneg ha
 have hk:Ba k k=true:=by cases k<;>rfl
 show AH (Ba k k) ((Da P (Op.intDiv .rem k a b)).bind ofValue)=_
 rw[hk]
 unfold Op.intDiv
 rw[if_neg hne,e1]
 rfl
abbrev BU(n:Nat):AV:=.int .u8 (n:Int)
theorem Dg{s:AD}{n:Nat}(h:n<256):A8 Tryz.prog s 5 3 (BU n)=some (iv (n:Int)):=by
 simp[A8,Tryz.underlying5,Tryz.underlying3,Iz (n:=(n:Int)) ⟨by omega,by omega⟩]
def Gk:List AV:=(List.range 11).flatMap fun i=>(Tm.con i).cells
theorem SX:Ae Tryz.prog 41 11 (zipIdx [0,1,2,3,4,5,6,7,8,9,10] [.agg (Tm.con 0).cells,.agg (Tm.con 1).cells,.agg (Tm.con 2).cells,.agg (Tm.con 3).cells,.agg (Tm.con 4).cells,.agg (Tm.con 5).cells,.agg (Tm.con 6).cells,.agg (Tm.con 7).cells,.agg (Tm.con 8).cells,.agg (Tm.con 9).cells,.agg (Tm.con 10).cells])=some (R 43 7 false Gk):=by kernel_rfl
theorem bd0:AR Tryz.prog 43 (zipIdx [] [])=some (.agg (Tm.con 0).cells):=by kernel_rfl
theorem bd1:AR Tryz.prog 43 (zipIdx [0,1] [.int .i64 1,.bool true])=some (.agg (Tm.con 1).cells):=by kernel_rfl
theorem bd2:AR Tryz.prog 43 (zipIdx [0] [.int .i64 1])=some (.agg (Tm.con 2).cells):=by kernel_rfl
theorem bd3:AR Tryz.prog 43 (zipIdx [0,2] [.int .i64 2,.str [48]])=some (.agg (Tm.con 3).cells):=by kernel_rfl
theorem bd4:AR Tryz.prog 43 (zipIdx [0,2] [.int .i64 2,.str [49]])=some (.agg (Tm.con 4).cells):=by kernel_rfl
theorem bd5:AR Tryz.prog 43 (zipIdx [0,2] [.int .i64 2,.str [45,53]])=some (.agg (Tm.con 5).cells):=by kernel_rfl
theorem bd6:AR Tryz.prog 43 (zipIdx [0,2] [.int .i64 2,.str [49,56,52,52,54,55,52,52,48,55,51,55,48,57,53,53,49,54,49,54]])=some (.agg (Tm.con 6).cells):=by kernel_rfl
theorem bd7:AR Tryz.prog 43 (zipIdx [0,3] [.int .i64 3,.str [97]])=some (.agg (Tm.con 7).cells):=by kernel_rfl
theorem bd8:AR Tryz.prog 43 (zipIdx [0,3] [.int .i64 3,.str [98]])=some (.agg (Tm.con 8).cells):=by kernel_rfl
theorem bd9:AR Tryz.prog 43 (zipIdx [0] [.int .i64 3])=some (.agg (Tm.con 9).cells):=by kernel_rfl
theorem Zv:AR Tryz.prog 43 (zipIdx [0] [.int .i64 4])=some (.agg (Tm.con 10).cells):=by kernel_rfl
theorem TX{k:Nat}(hk:k<11):BB (some (R 43 7 false Gk)) (k * 7) 7=some (Tm.con k).cells:=by
 have hl:Gk.length=77:=by rfl
 rw[Wj (by rw[hl];omega)]
 congr 1
 have:k=0∨k=1∨k=2∨k=3∨k=4∨k=5∨k=6∨k=7∨k=8∨k=9∨k=10:=by omega
 rcases this with rfl | rfl | rfl | rfl | rfl | rfl | rfl | rfl | rfl | rfl | rfl<;>rfl
theorem TY{E:Be}(hE:Ah E){s:AD}{n:Nat}(hn:n<256){K:AV→AD→Prop}(hK:∀s',BK s.next s s'→K (.agg (Tm.con (n % 11)).cells) s'):WF E 61 [BU n] K s:=by
 have hm:n % 11<11:=bp _ (by omega)
 obtain⟨tag,c1,c2,c3,c5,c6,hc,h5,d1,d2,d3,d5,d6⟩:=BF (n % 11) (bn hm (by omega))
 have hat:=TX hm
 rw[hc]at hat hK
 have hrem:AO Tryz.prog .rem 3 (iv (n:Int)) (iv ((11:Nat):Int))=some (iv ((n % 11:Nat):Int)):=by
  have:=F6 (P:=Tryz.prog) (t:=3) (k:=.i64) (a:=(n:Int)) (b:=((11:Nat):Int)) (by omega) (by omega)
  rw[this];rfl
 refine hE.go XO (by decide) rfl ?_
 generalize hs:s.next=b at hK
 have hs0:s=ext s []:=(Aa s).symm
 have hfin:∀os,K (.agg [iv tag,c1,c2,c3,.slice none 0 (some 0),c5,c6]) (ext s os):=fun os=>hK _ (by rw[← hs];exact AQ)
 rw[hs0]
 simp only[aV,Vf,Vg,Vh,Zn,hs,He,Hu,bd0,bd1,bd2,bd3,bd4,bd5,bd6,bd7,bd8,bd9,Zv,SX,Dg hn,Ad Tryz.underlying41,hrem,AY Tryz.underlying41 He hm,hat,Aj,d1,d2,d3,d5,d6,Qa,Qb,Qc,Qd,Qe,Qf,Qg,Qh,Qi,Qj,Qk,Ql,Qm,Qn,true_and,and_true,Qo,Qp,Qq,Qr,Qs,Qt,Qu,Qv,Qw,Qx,Qy,Qz,Ra,Rb,Rc,Rd,Re,Rf,Rg,Rh,Ri,Rj,Rk,Rl,Rm,Ya,Yb,Yc,Rn,Ro,Xv,Yd,Ye,Rq,Rs,Rt,Ru,Rw,Rx,Ry,Rz,Wa,Wb,Wc,Wd,We,Wf,Wg,Wh,Wi,Wj,Wl,Wm,Wn,Wp,Wq,Wr,Ws,Wt,Wu,Wv,Ww,Wx,Wy,Wz,Xa,Xb,Xc,Xd,Xe,Xf,Xg,Xh,Xi,Xj,Xk,Xl,Xm,Xn,Xo,Xp,Xq,Xr,ao,au,ap,am,aw,ay,List.getElem?_cons_zero,List.getElem?_cons_succ,aq,az,bA,bB,ak,Nat.reduceAdd,Nat.reduceLT,Nat.reduceLeDiff,decide_true,decide_false,Bool.true_and,Bool.and_true,bC,aj,Option.some.injEq,Xs,Xt,Xu,Xv]
 exact hfin _
theorem YA(a b:Int):CD true (iv a) [iv b]=some (iv (max a b)):=by
 show AH true (some (AV.int .i64 (bif I2 a b then b else a)))=_
 rw[B1]
 show some (AV.int .i64 _)=_
 by_cases h:a<b
 ·simp only[h,decide_true,cond_true];rw[Int.max_eq_right (by omega)]
 ·simp only[h,decide_false,cond_false];rw[Int.max_eq_left (by omega)]
set_option maxRecDepth 20000 in
theorem SP       {E : Be}  (hE : Ah    E) {q : Nat} {T : List RT} {O : List Nat} (hT : T.length ≤ 1000) (hkl : ∀ t ∈ T, t.kids.length ≤ 3) : ∀ (n x : Nat), x < n → x < T.length → ∀ (s : AD)  (K : AV → AD  → Prop), NK  s q T O →
    (∀ (d:Int) s',0≤d→d≤(x:Int)+1→BK s.next s s'→K (iv d) s')→WF E 80 [.ptr (some (q,0)),iv (x:Int)] K s:=by
  intro n
  induction n with
  | zero=>intro x h;omega
  | succ n ihn =>
    intro x hxn hx s K h hK
    have ht:T[x]? = some T[x]:=bD hx
    have htm:T[x]∈T:=List.getElem_mem _
    generalize htt:T[x]=t at ht htm
    have hlow:=h.low x t ht
    have hkl3:=hkl t htm
    obtain⟨tv,OT,_,_,hk,_⟩:=h.ex
    obtain⟨hcon,hkid⟩:=hk t htm
    have hrd:=hkid.rd h.lt
    have hlen:=hrd.len
    obtain⟨c0,c1,c2,c3,c4,c5,c6,hc,huc⟩:=t.ten hcon
    have hcall:AX t.cells=true:=by
      obtain⟨tag,d1,d2,d3,d5,d6,hd,_,q1,q2,q3,q5,q6⟩:=BF _ (bn hcon (by omega:11<13))
      show AX ([iv t.kind,iv t.id]++(Tm.con t.con).cells++[t.kv])=true
      have hkv:t.kv.isCell=true:=by rcases hkid with⟨_,e⟩ | ⟨_,e,_⟩<;>rw[e]<;>rfl
      rw[hd]
      simp only[ap,am,AX,Xl,Xq,q1,q2,q3,q5,q6,hkv,Bool.and_self]
    rw[huc]at hcall
    simp only[AX,Bool.and_eq_true,and_true]at hcall
    obtain⟨_,_,p0,p1,p2,p3,p4,p5,p6,p7⟩:=hcall
    have hrat:=fun(K:AV→AD→Prop)=>YE (K:=K) hE h (x:=(x:Int)) (t:=t) (by omega) (by simpa using ht)
    rw[huc]at hrat
    refine hE.go XV (by decide) rfl ?_
    simp only[ab,Vu,Vv,Vw,Qa,Qb,Qc,Qd,Qe,Qf,Qg,Qh,Qi,Qj,Qk,Ql,Qm,Qn,true_and,and_true,Qo,Qp,Qq,Qr,Qs,Qt,Qu,Qv,Qw,Qx,Qy,Qz,Ra,Rb,Rc,Rd,Re,Rf,Rg,Rh,Ri,Rj,Rk,Rl,Rm,Ya,Yb,Yc,Rn,Ro,Xv,Yd,Ye,Rq,Rs,Rt,Ru,Rw,Rx,Ry]
    refine hrat _ fun s1 ho1=>?_
    generalize hs1:s1.next=b
    have hs10:s1=ext s1 []:=(Aa s1).symm
    have hnx:(ext s1 [R 122 0 false t.cells]).next=b+1:=by rw[Wm,hs1,AF];rfl
    have hbox:(ext s1 [R 122 0 false t.cells]).heap.get (nid b 0)=some (R 122 0 false t.cells):=by rw[Wg hs1 (by simp)];rfl
    have hoe:BK s.next s (ext s1 [R 122 0 false t.cells]):=ho1.trans (AQ.mono ho1.1)
    have hgenS:∃sB,sB=ext s1 [R 122 0 false t.cells]:=⟨_,rfl⟩
    obtain⟨sB,hsB⟩:=hgenS
    rw[← hsB]at hnx hbox hoe
    rw[huc]at hsB hbox
    have key:∀ (m i:Nat) (s2:AD) (d:Int) (a6:AV),m+i=t.kids.length→BK sB.next sB s2→0≤d→d≤(x:Int) →
        WC E none (AZ.loop K5) (Ag 0 (Io (fun x x_1 x_2=>Qb E QY (fun v s'=>I3 (Bs s' x_1) fun s'=>K (Hb v 2) s') [] x x_2) (Ends Tryz.prog [(CX.var 2,none)] K)))
          [.ptr (some (q,0)),iv (x:Int),iv 0,iv d,.ptr (some (nid b 0,0)),iv (i:Int),a6] [] s2:=by
      intro m
      induction m with
      | zero =>
        intro i s2 d a6 hi ho2 hd0 JW
        have hb2:s2.heap.get (nid b 0)=some (R 122 0 false [iv t.kind,iv t.id,c0,c1,c2,c3,c4,c5,c6,t.kv]):=by rw[ho2.2 _ (by rw[hnx,AF];omega)];exact hbox
        have hlt:¬ ((i:Int)<(t.kids.length:Int)):=by omega
        have hadd:i64 (d+1):=by unfold i64;omega
        refine WC.loop' ?_
        simp only[K5,QX,Qa,Qb,Qc,Qd,Qe,Qf,Qg,Qh,Qi,Qj,Qk,Ql,Qm,Qn,true_and,and_true,Qo,Qp,Qq,Qr,Qs,Qt,Qu,Qv,Qw,Qx,Qy,Qz,Ra,Rb,Rc,Rd,Re,Rf,Rg,Rh,Ri,Rj,Rk,Rl,Rm,Ya,Yb,Yc,Rn,Ro,Xv,Yd,Ye,Rq,Rs,Rt,Ru,Rw,Rx,Ry,hb2,Ht,Dh,hlen,Rq,hlt,decide_false,Rz,Wa,Wb,Wc,Wd,We,Wf,Wg,Wh,Wi,Wj,Wl,Wm,Wn,Wp,Wq,Wr,Ws,Wt,Wu,Wv,Ww,Wx,Wy,Wz,Xa,Xb,Xc,Xd,Xe,Xf,Xg,Xh,Xi,Xj,Xk,Xl,Xm,Xn,Xo,Xp,Xq,Xr,ao,au,ap,am,aw,ay,List.getElem?_cons_zero,List.getElem?_cons_succ,aq,az,bA,bB,ak,Nat.reduceAdd,Nat.reduceLT,Nat.reduceLeDiff,decide_true,decide_false,Bool.true_and,Bool.and_true,bC,aj,Option.some.injEq,Xs,Xt,Xu,Xv]
        rw[if_pos trivial]
        simp only[QY,Qa,Qb,Qc,Qd,Qe,Qf,Qg,Qh,Qi,Qj,Qk,Ql,Qm,Qn,true_and,and_true,Qo,Qp,Qq,Qr,Qs,Qt,Qu,Qv,Qw,Qx,Qy,Qz,Ra,Rb,Rc,Rd,Re,Rf,Rg,Rh,Ri,Rj,Rk,Rl,Rm,Ya,Yb,Yc,Rn,Ro,Xv,Yd,Ye,Rq,Rs,Rt,Ru,Rw,Rx,Ry,BI _ _ _ _ hadd]
        exact hK (d+1) s2 (by omega) (by omega) (hoe.trans (ho2.mono hoe.1))
      | succ m ih =>
        intro i s2 d a6 hi ho2 hd0 JW
        have hb2:s2.heap.get (nid b 0)=some (R 122 0 false [iv t.kind,iv t.id,c0,c1,c2,c3,c4,c5,c6,t.kv]):=by rw[ho2.2 _ (by rw[hnx,AF];omega)];exact hbox
        have hlt:((i:Int)<(t.kids.length:Int)):=by omega
        have hadd:i64 ((i:Int)+1):=by unfold i64;omega
        have hit:i<t.kids.length:=by omega
        have hko:=hlow t.kids[i] (List.getElem_mem _)
        have hkn:t.kids[i]=((t.kids[i].toNat:Nat):Int):=by omega
        have hor:BK s.next s s2:=hoe.trans (ho2.mono hoe.1)
        obtain⟨j,qq,cap,hv,hj,hld⟩:=(hrd.old hor).at (k:=i) (bD hit)
        have hrec:=fun(K:AV→AD→Prop)=>ihn t.kids[i].toNat (by omega) (by omega) s2 K (h.old hor)
        rw[← hkn]at hrec
        obtain⟨W,hW⟩:∃W,W=AZ.loop K5:=⟨_,rfl⟩
        refine WC.loop' ?_
        rw[← hW]
        rw[hv]at hb2 hlen
        simp only[K5,QX,Vy,Qa,Qb,Qc,Qd,Qe,Qf,Qg,Qh,Qi,Qj,Qk,Ql,Qm,Qn,true_and,and_true,Qo,Qp,Qq,Qr,Qs,Qt,Qu,Qv,Qw,Qx,Qy,Qz,Ra,Rb,Rc,Rd,Re,Rf,Rg,Rh,Ri,Rj,Rk,Rl,Rm,Ya,Yb,Yc,Rn,Ro,Xv,Yd,Ye,Rq,Rs,Rt,Ru,Rw,Rx,Ry,hb2,Ht,C6,Dh,hlen,Rq,hlt,decide_true,AY Tryz.underlying27 Ea hit,bR,hld,Rz,Wa,Wb,Wc,Wd,We,Wf,Wg,Wh,Wi,Wj,Wl,Wm,Wn,Wp,Wq,Wr,Ws,Wt,Wu,Wv,Ww,Wx,Wy,Wz,Xa,Xb,Xc,Xd,Xe,Xf,Xg,Xh,Xi,Xj,Xk,Xl,Xm,Xn,Xo,Xp,Xq,Xr,ao,au,ap,am,aw,ay,List.getElem?_cons_zero,List.getElem?_cons_succ,aq,az,bA,bB,ak,Nat.reduceAdd,Nat.reduceLT,Nat.reduceLeDiff,decide_true,decide_false,Bool.true_and,Bool.and_true,bC,aj,Option.some.injEq,Xs,Xt,Xu,Xv]
        refine hrec _ fun d2 s3 e1 e2 e3=>?_
        have:=ih (i+1) s3 (max d d2) (.bool true) (by omega) (ho2.trans (e3.mono ho2.1)) (by omega) (by omega)
        rw[← hW,show((i+1:Nat):Int)=(i:Int)+1 from by omega]at this
        simp only[Qa,Qb,Qc,Qd,Qe,Qf,Qg,Qh,Qi,Qj,Qk,Ql,Qm,Qn,true_and,and_true,Qo,Qp,Qq,Qr,Qs,Qt,Qu,Qv,Qw,Qx,Qy,Qz,Ra,Rb,Rc,Rd,Re,Rf,Rg,Rh,Ri,Rj,Rk,Rl,Rm,Ya,Yb,Yc,Rn,Ro,Xv,Yd,Ye,Rq,Rs,Rt,Ru,Rw,Rx,Ry,Vz,YA,BI _ _ _ _ hadd]
        exact this
    rw[hs10]
    simp only[Qa,Qb,Qc,Qd,Qe,Qf,Qg,Qh,Qi,Qj,Qk,Ql,Qm,Qn,true_and,and_true,Qo,Qp,Qq,Qr,Qs,Qt,Qu,Qv,Qw,Qx,Qy,Qz,Ra,Rb,Rc,Rd,Re,Rf,Rg,Rh,Ri,Rj,Rk,Rl,Rm,Ya,Yb,Yc,Rn,Ro,Xv,Yd,Ye,Rq,Rs,Rt,Ru,Rw,Rx,Ry,hs1,WS,Iv,NP,p0,p1,p2,p3,p4,p5,p6,p7,Vx,Rz,Wa,Wb,Wc,Wd,We,Wf,Wg,Wh,Wi,Wj,Wl,Wm,Wn,Wp,Wq,Wr,Ws,Wt,Wu,Wv,Ww,Wx,Wy,Wz,Xa,Xb,Xc,Xd,Xe,Xf,Xg,Xh,Xi,Xj,Xk,Xl,Xm,Xn,Xo,Xp,Xq,Xr,ao,au,ap,am,aw,ay,List.getElem?_cons_zero,List.getElem?_cons_succ,aq,az,bA,bB,ak,Nat.reduceAdd,Nat.reduceLT,Nat.reduceLeDiff,decide_true,decide_false,Bool.true_and,Bool.and_true,bC,aj,Option.some.injEq,Xs,Xt,Xu,Xv]
    rw[← hsB]
    exact key t.kids.length 0 sB 0 _ (by omega) (BK.refl _ _) (by omega) (by omega)
theorem RV(n m:Int):AO Tryz.prog .geq 5 (.int .u8 n) (.int .u8 m)=some (.bool (decide (m≤n))):=by
 show some (AV.bool (!I2 n m))=_
 rw[B1,← decide_not]
 congr 3
 exact propext Int.not_lt
theorem Ti(a:Int):CD false (iv a) [iv 6]=some (iv (min a 6)):=by
 show AH true (some (iv (bif I2 6 a then 6 else a)))=_
 rw[B1]
 show some (iv _)=_
 by_cases h:(6:Int)<a
 ·simp only[h,decide_true,cond_true];rw[Int.min_eq_right (by omega)]
 ·simp only[h,decide_false,cond_false];rw[Int.min_eq_left (by omega)]
set_option maxRecDepth 20000 in
theorem Sl       {E : Be}  (hE : Ah    E) {s : AD}  {q : Nat} {T : List RT} {O : List Nat} (h : NK  s q T O) (hT : T.length ≤ 900) (hkl : ∀ t ∈ T, t.kids.length ≤ 3) {n : Nat} (hn : n < 256) {K : AV → AD  → Prop}
    (hK:∀ (d:Int) s',BK s.next s s'→K (iv d) s'):WF E 62 [.ptr (some (q,0)),BU n] K s:=by
  obtain⟨tv,OT,hobj,hbuf,_⟩:=h.ex
  obtain⟨a,c,rfl,_⟩:=hbuf.slice
  refine hE.go XP (by decide) rfl ?_
  have hdeep:=fun(x:Nat) hx (K:AV→AD→Prop)=>SP hE (by omega) hkl (x+1) x (by omega) hx s K h
  by_cases h0:T.length=0
  · have hd:decide ((T.length:Int)=0)=true:=decide_eq_true (by omega)
    simp only[Zr,Nd,Nf,Vi,Qa,Qb,Qc,Qd,Qe,Qf,Qg,Qh,Qi,Qj,Qk,Ql,Qm,Qn,true_and,and_true,Qo,Qp,Qq,Qr,Qs,Qt,Qu,Qv,Qw,Qx,Qy,Qz,Ra,Rb,Rc,Rd,Re,Rf,Rg,Rh,Ri,Rj,Rk,Rl,Rm,Ya,Yb,Yc,Rn,Ro,Xv,Yd,Ye,Rq,Rs,Rt,Ru,Rw,Rx,Ry,Rw,hobj,Ca,Gd,Ad Tryz.underlying78,hd,Rz,Wa,Wb,Wc,Wd,We,Wf,Wg,Wh,Wi,Wj,Wl,Wm,Wn,Wp,Wq,Wr,Ws,Wt,Wu,Wv,Ww,Wx,Wy,Wz,Xa,Xb,Xc,Xd,Xe,Xf,Xg,Xh,Xi,Xj,Xk,Xl,Xm,Xn,Xo,Xp,Xq,Xr,ao,au,ap,am,aw,ay,List.getElem?_cons_zero,List.getElem?_cons_succ,aq,az,bA,bB,ak,Nat.reduceAdd,Nat.reduceLT,Nat.reduceLeDiff,decide_true,decide_false,Bool.true_and,Bool.and_true,bC,aj,Option.some.injEq,Xs,Xt,Xu,Xv]
    exact hK 0 s (BK.refl _ _)
  · have hd : decide ((T.length : Int) = 0) = false := decide_eq_false (by omega)
    have hr1:AO Tryz.prog .rem 3 (iv (n:Int)) (iv (T.length:Int))=some (iv (((n % T.length:Nat)):Int)):=by
      have:=F6 (P:=Tryz.prog) (t:=3) (k:=.i64) (a:=(n:Int)) (b:=(T.length:Int)) (by omega) (by omega)
      rw[this];rfl
    have hm1:n % T.length<T.length:=bp _ (by omega)
    have fin:∀ (x:Nat),x<T.length→WF E 80 [.ptr (some (q,0)),iv (x:Int)] (fun v s'=>∃d,v=iv d∧BK s.next s s') s:=fun x hx=>hdeep x hx _ fun d s' _ _ ho=>⟨d,rfl,ho⟩
    by_cases hg:(128:Int)≤(n:Int)
    · have hdg : decide ((128 : Int) ≤ (n : Int)) = true := decide_eq_true hg
      have hs1:i64 ((T.length:Int) - 1):=by unfold i64;omega
      have hmin:(min (T.length:Int) 6)=((min T.length 6:Nat):Int):=by omega
      have hr2:AO Tryz.prog .rem 3 (iv (n:Int)) (iv ((min T.length 6:Nat):Int))=some (iv ((n % min T.length 6:Nat):Int)):=by
        have:=F6 (P:=Tryz.prog) (t:=3) (k:=.i64) (a:=(n:Int)) (b:=((min T.length 6:Nat):Int)) (by omega) (by omega)
        rw[this];rfl
      have hm2:n % min T.length 6<min T.length 6:=bp _ (by omega)
      have hs2:i64 (((T.length:Int) - 1) - ((n % min T.length 6:Nat):Int)):=by unfold i64;omega
      have he2:((T.length:Int) - 1) - ((n % min T.length 6:Nat):Int)=((T.length - 1 - n % min T.length 6:Nat):Int):=by omega
      simp only[Zr,Nd,Nf,QS,QT,Vj,Qa,Qb,Qc,Qd,Qe,Qf,Qg,Qh,Qi,Qj,Qk,Ql,Qm,Qn,true_and,and_true,Qo,Qp,Qq,Qr,Qs,Qt,Qu,Qv,Qw,Qx,Qy,Qz,Ra,Rb,Rc,Rd,Re,Rf,Rg,Rh,Ri,Rj,Rk,Rl,Rm,Ya,Yb,Yc,Rn,Ro,Xv,Yd,Ye,Rq,Rs,Rt,Ru,Rw,Rx,Ry,Rw,hobj,Ca,Gd,Ad Tryz.underlying78,hd,Dg hn,hr1,RV,hdg,Db _ _ _ _ hs1,Ti,hmin,hr2,Db _ _ _ _ hs2,he2,QU,Rz,Wa,Wb,Wc,Wd,We,Wf,Wg,Wh,Wi,Wj,Wl,Wm,Wn,Wp,Wq,Wr,Ws,Wt,Wu,Wv,Ww,Wx,Wy,Wz,Xa,Xb,Xc,Xd,Xe,Xf,Xg,Xh,Xi,Xj,Xk,Xl,Xm,Xn,Xo,Xp,Xq,Xr,ao,au,ap,am,aw,ay,List.getElem?_cons_zero,List.getElem?_cons_succ,aq,az,bA,bB,ak,Nat.reduceAdd,Nat.reduceLT,Nat.reduceLeDiff,decide_true,decide_false,Bool.true_and,Bool.and_true,bC,aj,Option.some.injEq,Xs,Xt,Xu,Xv]
      refine(fin _ (by omega)).mono ?_
      rintro v s' ⟨d,rfl,ho⟩
      by_cases h8:(8:Int)<d
      · simp only[Qa,Qb,Qc,Qd,Qe,Qf,Qg,Qh,Qi,Qj,Qk,Ql,Qm,Qn,true_and,and_true,Qo,Qp,Qq,Qr,Qs,Qt,Qu,Qv,Qw,Qx,Qy,Qz,Ra,Rb,Rc,Rd,Re,Rf,Rg,Rh,Ri,Rj,Rk,Rl,Rm,Ya,Yb,Yc,Rn,Ro,Xv,Yd,Ye,Rq,Rs,Rt,Ru,Rw,Rx,Ry,Rs,h8,decide_true,QV]
        exact hK 0 s' ho
      · simp only[Qa,Qb,Qc,Qd,Qe,Qf,Qg,Qh,Qi,Qj,Qk,Ql,Qm,Qn,true_and,and_true,Qo,Qp,Qq,Qr,Qs,Qt,Qu,Qv,Qw,Qx,Qy,Qz,Ra,Rb,Rc,Rd,Re,Rf,Rg,Rh,Ri,Rj,Rk,Rl,Rm,Ya,Yb,Yc,Rn,Ro,Xv,Yd,Ye,Rq,Rs,Rt,Ru,Rw,Rx,Ry,Rs,h8,decide_false,QW]
        exact hK _ s' ho
    · have hdg:decide ((128:Int)≤(n:Int))=false:=decide_eq_false hg
      simp only[Zr,Nd,Nf,QS,QT,Qa,Qb,Qc,Qd,Qe,Qf,Qg,Qh,Qi,Qj,Qk,Ql,Qm,Qn,true_and,and_true,Qo,Qp,Qq,Qr,Qs,Qt,Qu,Qv,Qw,Qx,Qy,Qz,Ra,Rb,Rc,Rd,Re,Rf,Rg,Rh,Ri,Rj,Rk,Rl,Rm,Ya,Yb,Yc,Rn,Ro,Xv,Yd,Ye,Rq,Rs,Rt,Ru,Rw,Rx,Ry,Rw,hobj,Ca,Gd,Ad Tryz.underlying78,hd,Dg hn,hr1,RV,hdg,QU,Rz,Wa,Wb,Wc,Wd,We,Wf,Wg,Wh,Wi,Wj,Wl,Wm,Wn,Wp,Wq,Wr,Ws,Wt,Wu,Wv,Ww,Wx,Wy,Wz,Xa,Xb,Xc,Xd,Xe,Xf,Xg,Xh,Xi,Xj,Xk,Xl,Xm,Xn,Xo,Xp,Xq,Xr,ao,au,ap,am,aw,ay,List.getElem?_cons_zero,List.getElem?_cons_succ,aq,az,bA,bB,ak,Nat.reduceAdd,Nat.reduceLT,Nat.reduceLeDiff,decide_true,decide_false,Bool.true_and,Bool.and_true,bC,aj,Option.some.injEq,Xs,Xt,Xu,Xv]
      refine(fin _ hm1).mono ?_
      rintro v s' ⟨d,rfl,ho⟩
      by_cases h8:(8:Int)<d
      · simp only[Qa,Qb,Qc,Qd,Qe,Qf,Qg,Qh,Qi,Qj,Qk,Ql,Qm,Qn,true_and,and_true,Qo,Qp,Qq,Qr,Qs,Qt,Qu,Qv,Qw,Qx,Qy,Qz,Ra,Rb,Rc,Rd,Re,Rf,Rg,Rh,Ri,Rj,Rk,Rl,Rm,Ya,Yb,Yc,Rn,Ro,Xv,Yd,Ye,Rq,Rs,Rt,Ru,Rw,Rx,Ry,Rs,h8,decide_true,QV]
        exact hK 0 s' ho
      · simp only[Qa,Qb,Qc,Qd,Qe,Qf,Qg,Qh,Qi,Qj,Qk,Ql,Qm,Qn,true_and,and_true,Qo,Qp,Qq,Qr,Qs,Qt,Qu,Qv,Qw,Qx,Qy,Qz,Ra,Rb,Rc,Rd,Re,Rf,Rg,Rh,Ri,Rj,Rk,Rl,Rm,Ya,Yb,Yc,Rn,Ro,Xv,Yd,Ye,Rq,Rs,Rt,Ru,Rw,Rx,Ry,Rs,h8,decide_false,QW]
        exact hK _ s' ho
end
end Go.Proofs.YtickdehehcmfbaaGreatDoor.Am
