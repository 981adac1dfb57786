/- FactsKnown, run by the kernel, but for these calls; conditions: none. -/
import Derived.Test.YtfgmceookgelcaaGreatDoorAmM13
import Derived.Test.YtfgmceookgelcaaGreatDoorAmM11
set_option linter.unusedVariables false
set_option maxRecDepth 100000
namespace Go.Proofs.YtfgmceookgelcaaGreatDoor.Am
open Go Go.Proofs
noncomputable section
def Xl:List Row:=[⟨3,[],.bool true⟩]
theorem TD:Ym (.bool true) ((Ct ⟨Tryz.prog,fD⟩ 100000).call 3 [] ⟨0,.leaf⟩)=true:=by kernel_rfl
end
end Go.Proofs.YtfgmceookgelcaaGreatDoor.Am
