/- FactsKnown: call 0, run by the kernel; conditions: none. -/
import Derived.Test.YtfgmceookgelcaaGreatDoorAmM13
set_option linter.unusedVariables false
set_option maxRecDepth 100000
namespace Go.Proofs.YtfgmceookgelcaaGreatDoor.Am
open Go Go.Proofs
noncomputable section
theorem cm:G0 ⟨Tryz.prog,ct⟩ 100000 fi=true:=by kernel_rfl
end
end Go.Proofs.YtfgmceookgelcaaGreatDoor.Am
