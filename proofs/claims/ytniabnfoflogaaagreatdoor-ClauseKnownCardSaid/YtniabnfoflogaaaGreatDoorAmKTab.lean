/- The closed examples of layer 18, run by the kernel; conditions: none. -/
import Derived.Test.YtniabnfoflogaaaGreatDoorAmM04
set_option linter.unusedVariables false
namespace Go.Proofs.YtniabnfoflogaaaGreatDoor.Am
open Go Go.Proofs
noncomputable section
def LP:List Row:=[⟨7,[],.bool true⟩]
theorem Kg:LO (.bool true) ((Fh Lv 100000).call 7 [] ⟨0,.leaf⟩)=true:=by kernel_rfl
end
end Go.Proofs.YtniabnfoflogaaaGreatDoor.Am
