/- The closed examples of layer 4, run by the kernel; conditions: none. -/
import Derived.Test.YtjnkfbpadpmakaaGreatDoorAmM08
set_option linter.unusedVariables false
namespace Go.Proofs.YtjnkfbpadpmakaaGreatDoor.Am
open Go Go.Proofs
noncomputable section
def sV:List Row:=[⟨15,[],.bool true⟩]
theorem gv:sT (.bool true) ((Ea xu 100000).call 15 [] ⟨0,.leaf⟩)=true:=by kernel_rfl
end
end Go.Proofs.YtjnkfbpadpmakaaGreatDoor.Am
