/- The closed law of layer 15: part 3, run by the kernel; conditions: none. -/
import Derived.Test.YtdmgdlbodeemeaaGreatDoorAmLkCut
set_option linter.unusedVariables false
namespace Go.Proofs.YtdmgdlbodeemeaaGreatDoor.Am
open Go Go.Proofs
noncomputable section
theorem fE:Jk Tryz.prog [(.var 0,none)] ((Ck R7 100000).code none (AX Tryz.prog 4 Tryz.f4.ntmps (AT Tryz.prog Tryz.f4) (rest 1 (rest 10 eo))) Pp.var [] Pp.st)=true:=by kernel_rfl
end
end Go.Proofs.YtdmgdlbodeemeaaGreatDoor.Am
