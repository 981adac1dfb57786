/- works31: call 0, run by the kernel; conditions: none. -/
import Derived.Test.YtfgmceookgelcaaGreatDoorAmM09
set_option linter.unusedVariables false
set_option maxRecDepth 100000
namespace Go.Proofs.YtfgmceookgelcaaGreatDoor.Am
open Go Go.Proofs
noncomputable section
theorem dD:G0 ⟨Tryz.prog,dE⟩ 100000 fo=true:=by kernel_rfl
end
end Go.Proofs.YtfgmceookgelcaaGreatDoor.Am
