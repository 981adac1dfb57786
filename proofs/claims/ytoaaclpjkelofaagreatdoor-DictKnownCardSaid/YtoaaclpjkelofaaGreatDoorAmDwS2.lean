/- works (layer 25): call 2, run by the kernel; conditions: none. -/
import Derived.Test.YtoaaclpjkelofaaGreatDoorAmM09
set_option linter.unusedVariables false
set_option maxRecDepth 100000
namespace Go.Proofs.YtoaaclpjkelofaaGreatDoor.Am
open Go Go.Proofs
noncomputable section
theorem ot:Cy ⟨Tryz.prog,ow⟩ 100000 tG=true:=by kernel_rfl
end
end Go.Proofs.YtoaaclpjkelofaaGreatDoor.Am
