/- FactsKnown: the machine that takes it from a table; conditions: none. -/
import Derived.Test.YtfgmceookgelcaaGreatDoorAmFkT
import Derived.Test.YtfgmceookgelcaaGreatDoorAmFkS0
import Derived.Test.YtfgmceookgelcaaGreatDoorAmFkS1
import Derived.Test.YtfgmceookgelcaaGreatDoorAmFkS2
import Derived.Test.YtfgmceookgelcaaGreatDoorAmFkS3
import Derived.Test.YtfgmceookgelcaaGreatDoorChecked
import Derived.WideKeyArgs
import Derived.ChangeBears2
import Derived.OpenShut
import GoSem.ClaimJoined
import Derived.ChangeArms
import Derived.DataReads
import Derived.DataElems
import Derived.Test.YtfgmceookgelcaaGreatDoorAmM04
import Derived.Test.YtfgmceookgelcaaGreatDoorAmM05
set_option linter.unusedVariables false
set_option maxRecDepth 100000
namespace Go.Proofs.YtfgmceookgelcaaGreatDoor.Am
open Go Go.Proofs
noncomputable section
theorem SM:BL Tryz.prog ct:=N5
theorem SN:BL Tryz.prog cy:=C5 (FZ.callOk Dv (B4 C4) rfl SM cm) SM
theorem SO:BL Tryz.prog cz:=C5 (FZ.callOk Dv (B4 C4) rfl SN cn) SN
theorem SP:BL Tryz.prog dA:=C5 (FZ.callOk Dv (B4 C4) rfl SO co) SO
theorem aV:BL Tryz.prog fD:=C5 (FZ.callOk Dv (B4 C4) rfl SP cq) SP
def cC:Do:=Ou (JH [3] Xl) YI
theorem YH:BL Tryz.prog cC:=C5 (KF Dv (B4 C4) rfl aV fun r hr=>by
 simp only[Xl,List.mem_singleton]at hr
 subst hr
 exact⟨rfl,rfl,TD⟩) N5
theorem YG(s:AE):cC 3 [] s=some (.bool true,s):=rfl
end
end Go.Proofs.YtfgmceookgelcaaGreatDoor.Am
set_option linter.unusedVariables false
namespace Go.Proofs.YtfgmceookgelcaaGreatDoor.Am
open Go Go.Proofs
noncomputable section
theorem Pj{N:Do}(hN:BL Tryz.prog N){f:FuncId}(h:∀s,N f [] s=some (.bool true,s)){W:World}:Calls Tryz.prog f #[] W fun e W'=>e=.returned (.bool true)∧Lw W W':=by
 obtain⟨_,k⟩:=hN bL dW W f [] (.bool true) dW #[] (h dW) (fY _ _) dB .nil
 refine callsIn_wide.1 (CallsIn.mono k ?_)
 intro e w' he
 cases e with
 | panicked c=>exact he.elim
 | outgrown=>exact he.elim
 | returned v' =>
  obtain⟨ρ',k1,k2,k3⟩:=he
  cases k1
  exact⟨rfl,af k3 TU⟩
theorem cL{H:Type}{enc:TypeId×Value→H}{P:Program}{t:TypeId}(hl:laidOutB P=true)(hr:P.readableRec t=true)(hrow:t<P.types.size){W W':World}{v:Value}{d:DataW H}{ps:List MemPlace}{sp:Nat→Bool}
  (h:DataW.Trod enc P W 0 (fun _=>true) true t v d ps) (hk:Lw W W') (hlt:∀x∈ps,x.block<W.heap.size) (hs:∀x∈ps,sp x.block=true):DataW.Trod enc P W' 0 sp true t v d ps:=
 WideElems.Trod_stays hl hr hrow h (fun x hx=>by
  have:=hlt x hx
  cases x with
  | cell b o=>exact World.cell?_of_block (w:=W) (hk.heap b this)
  | map b=>exact hk.heap b this) hs
theorem fk_true{W:World}:Calls Tryz.prog 3 #[] W fun e W'=>e=.returned (.bool true)∧Lw W W':=Pj YH YG
end
end Go.Proofs.YtfgmceookgelcaaGreatDoor.Am
