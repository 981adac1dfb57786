/- FactsKnown: call 2, run by the kernel; conditions: none. -/
import Derived.Test.YtfgmceookgelcaaGreatDoorAmM13
set_option linter.unusedVariables false
set_option maxRecDepth 100000
namespace Go.Proofs.YtfgmceookgelcaaGreatDoor.Am
open Go Go.Proofs
noncomputable section
theorem co:G0 ⟨Tryz.prog,cz⟩ 100000 fk=true:=by kernel_rfl
end
end Go.Proofs.YtfgmceookgelcaaGreatDoor.Am
