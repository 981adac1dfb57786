/- DictKnown: call 3, run by the kernel; conditions: none. -/
import Derived.Test.YtoaaclpjkelofaaGreatDoorAmM15
set_option linter.unusedVariables false
set_option maxRecDepth 100000
namespace Go.Proofs.YtoaaclpjkelofaaGreatDoor.Am
open Go Go.Proofs
noncomputable section
theorem oD:Cy ⟨Tryz.prog,oN⟩ 100000 sq=true:=by kernel_rfl
end
end Go.Proofs.YtoaaclpjkelofaaGreatDoor.Am
