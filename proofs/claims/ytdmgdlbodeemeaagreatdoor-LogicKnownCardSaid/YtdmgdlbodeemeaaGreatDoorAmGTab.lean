/- The closed examples of layer 15, run by the kernel; conditions: none. -/
import Derived.Test.YtdmgdlbodeemeaaGreatDoorAmM09
set_option linter.unusedVariables false
namespace Go.Proofs.YtdmgdlbodeemeaaGreatDoor.Am
open Go Go.Proofs
noncomputable section
def bo:List Row:=[⟨5,[],.bool true⟩]
theorem YY:bl (.bool true) ((Ck eS 100000).call 5 [] ⟨0,.leaf⟩)=true:=by kernel_rfl
end
end Go.Proofs.YtdmgdlbodeemeaaGreatDoor.Am
