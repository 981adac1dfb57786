/- The closed examples of layer 18, run by the kernel; conditions: none. -/
import Derived.Test.YtniabnfoflogaaaGreatDoorAmM05
set_option linter.unusedVariables false
namespace Go.Proofs.YtniabnfoflogaaaGreatDoor.Am
open Go Go.Proofs
noncomputable section
def N6:List Row:=[⟨7,[],.bool true⟩]
theorem MY:N3 (.bool true) ((CH PO 100000).call 7 [] ⟨0,.leaf⟩)=true:=by kernel_rfl
end
end Go.Proofs.YtniabnfoflogaaaGreatDoor.Am
