/- FactsKnown: call 1, run by the kernel; conditions: none. -/
import Derived.Test.YtfgmceookgelcaaGreatDoorAmM13
set_option linter.unusedVariables false
set_option maxRecDepth 100000
namespace Go.Proofs.YtfgmceookgelcaaGreatDoor.Am
open Go Go.Proofs
noncomputable section
theorem cn:G0 ⟨Tryz.prog,cy⟩ 100000 fj=true:=by kernel_rfl
end
end Go.Proofs.YtfgmceookgelcaaGreatDoor.Am
