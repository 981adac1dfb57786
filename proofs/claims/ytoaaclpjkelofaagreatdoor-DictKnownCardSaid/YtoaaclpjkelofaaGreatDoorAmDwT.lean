/- works (layer 25), run by the kernel, but for these calls; conditions: none. -/
import Derived.Test.YtoaaclpjkelofaaGreatDoorAmM09
import Derived.Test.YtoaaclpjkelofaaGreatDoorAmM13
set_option linter.unusedVariables false
set_option maxRecDepth 100000
namespace Go.Proofs.YtoaaclpjkelofaaGreatDoor.Am
open Go Go.Proofs
noncomputable section
def fU:List Row:=[⟨5,[],.bool true⟩]
theorem Yq:iC (.bool true) ((DF ⟨Tryz.prog,rR⟩ 100000).call 5 [] ⟨0,.leaf⟩)=true:=by kernel_rfl
end
end Go.Proofs.YtoaaclpjkelofaaGreatDoor.Am
