/- DictKnown: call 0, run by the kernel; conditions: none. -/
import Derived.Test.YtoaaclpjkelofaaGreatDoorAmM15
set_option linter.unusedVariables false
set_option maxRecDepth 100000
namespace Go.Proofs.YtoaaclpjkelofaaGreatDoor.Am
open Go Go.Proofs
noncomputable section
theorem oA:Cy ⟨Tryz.prog,oK⟩ 100000 sk=true:=by kernel_rfl
end
end Go.Proofs.YtoaaclpjkelofaaGreatDoor.Am
