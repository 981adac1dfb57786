/- DictKnown, run by the kernel, but for these calls; conditions: none. -/
import Derived.Test.YtoaaclpjkelofaaGreatDoorAmM15
import Derived.Test.YtoaaclpjkelofaaGreatDoorAmM13
set_option linter.unusedVariables false
set_option maxRecDepth 100000
namespace Go.Proofs.YtoaaclpjkelofaaGreatDoor.Am
open Go Go.Proofs
noncomputable section
def fF:List Row:=[⟨4,[],.bool true⟩]
theorem Yp:iC (.bool true) ((DF ⟨Tryz.prog,l6⟩ 100000).call 4 [] ⟨0,.leaf⟩)=true:=by kernel_rfl
end
end Go.Proofs.YtoaaclpjkelofaaGreatDoor.Am
