/- DictKnown: the machine that takes it from a table; conditions: none. -/
import Derived.Test.YtoaaclpjkelofaaGreatDoorAmDkT
import Derived.Test.YtoaaclpjkelofaaGreatDoorAmDkS0
import Derived.Test.YtoaaclpjkelofaaGreatDoorAmDkS1
import Derived.Test.YtoaaclpjkelofaaGreatDoorAmDkS2
import Derived.Test.YtoaaclpjkelofaaGreatDoorAmDkS3
import Derived.Test.YtoaaclpjkelofaaGreatDoorAmDkS4
import Derived.Test.YtoaaclpjkelofaaGreatDoorAmDkS5
import Derived.Test.YtoaaclpjkelofaaGreatDoorAmDkS6
import Derived.Test.YtoaaclpjkelofaaGreatDoorAmDkS7
import Derived.Test.YtoaaclpjkelofaaGreatDoorAmDkS8
import Derived.Test.YtoaaclpjkelofaaGreatDoorAmDkS9
import Derived.Test.YtoaaclpjkelofaaGreatDoorChecked
import Derived.WideKeyArgs
import Derived.ChangeBears2
import Derived.OpenShut
import GoSem.ClaimJoined
import Derived.ChangeArms
import Derived.DataReads
import Derived.DataElems
import Derived.Test.YtoaaclpjkelofaaGreatDoorAmM05
set_option linter.unusedVariables false
set_option maxRecDepth 100000
namespace Go.Proofs.YtoaaclpjkelofaaGreatDoor.Am
open Go Go.Proofs
noncomputable section
theorem XA:Av Tryz.prog oK:=TC
theorem XB:Av Tryz.prog oL:=BT (Ch.callOk B3 (BD Be) rfl XA oA) XA
theorem XC:Av Tryz.prog oM:=BT (Ch.callOk B3 (BD Be) rfl XB oB) XB
theorem XD:Av Tryz.prog oN:=BT (Ch.callOk B3 (BD Be) rfl XC oC) XC
theorem XE:Av Tryz.prog oO:=BT (Ch.callOk B3 (BD Be) rfl XD oD) XD
theorem XF:Av Tryz.prog oP:=BT (Ch.callOk B3 (BD Be) rfl XE oE) XE
theorem XG:Av Tryz.prog oQ:=BT (Ch.callOk B3 (BD Be) rfl XF oF) XF
theorem XH:Av Tryz.prog oR:=BT (Ch.callOk B3 (BD Be) rfl XG oG) XG
theorem XI:Av Tryz.prog oT:=BT (Ch.callOk B3 (BD Be) rfl XH oH) XH
theorem XJ:Av Tryz.prog oU:=BT (Ch.callOk B3 (BD Be) rfl XI oI) XI
theorem fE:Av Tryz.prog l6:=BT (Ch.callOk B3 (BD Be) rfl XJ oJ) XJ
def nM:CU:=In (MD [4] fF) gX
theorem gW:Av Tryz.prog nM:=BT (NO B3 (BD Be) rfl fE fun r hr=>by
 simp only[fF,ul]at hr
 subst hr
 exact⟨rfl,rfl,Yp⟩) TC
theorem gV(s:AD):nM 4 [] s=some (.bool true,s):=rfl
end
end Go.Proofs.YtoaaclpjkelofaaGreatDoor.Am
set_option linter.unusedVariables false
namespace Go.Proofs.YtoaaclpjkelofaaGreatDoor.Am
open Go Go.Proofs
noncomputable section
theorem Um{N:CU}(hN:Av Tryz.prog N){f:FuncId}(h:∀s,N f [] s=some (.bool true,s)){W:World}:Calls Tryz.prog f #[] W fun e W'=>e=.returned (.bool true)∧Pn W W':=by
 obtain⟨_,k⟩:=hN lF po W f [] (.bool true) po #[] (h po) (sQ _ _) pL .nil
 refine callsIn_wide.1 (CallsIn.mono k ?_)
 intro e w' he
 cases e with
 | panicked c=>exact he.elim
 | outgrown=>exact he.elim
 | returned v' =>
  obtain⟨ρ',k1,k2,k3⟩:=he
  cases k1
  exact⟨rfl,kV k3 ZD⟩
theorem nX{H:Type}{enc:TypeId×Value→H}{P:Program}{t:TypeId}(hl:laidOutB P=true)(hr:P.readableRec t=true)(hrow:t<P.types.size){W W':World}{v:Value}{d:DataW H}{ps:List MemPlace}{sp:Nat→Bool}
  (h:DataW.Trod enc P W 0 (fun _=>true) true t v d ps) (hk:Pn W W') (hlt:∀x∈ps,x.block<W.heap.size) (hs:∀x∈ps,sp x.block=true):DataW.Trod enc P W' 0 sp true t v d ps:=
 WideElems.Trod_stays hl hr hrow h (fun x hx=>by
  have:=hlt x hx
  cases x with
  | cell b o=>exact World.cell?_of_block (w:=W) (hk.heap b this)
  | map b=>exact hk.heap b this) hs
theorem dk_true{W:World}:Calls Tryz.prog 4 #[] W fun e W'=>e=.returned (.bool true)∧Pn W W':=Um gW gV
end
end Go.Proofs.YtoaaclpjkelofaaGreatDoor.Am
