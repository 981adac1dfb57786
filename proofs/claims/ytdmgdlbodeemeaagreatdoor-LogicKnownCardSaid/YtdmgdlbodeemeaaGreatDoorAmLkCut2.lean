/- The closed law of layer 15: part 2, run by the kernel; conditions: none. -/
import Derived.Test.YtdmgdlbodeemeaaGreatDoorAmLkCut
set_option linter.unusedVariables false
namespace Go.Proofs.YtdmgdlbodeemeaaGreatDoor.Am
open Go Go.Proofs
noncomputable section
theorem fD:Hc (P6 Tryz.prog 4 Tryz.f4.ntmps (AT Tryz.prog Tryz.f4) (Ck R7 100000) (Jt 1 (rest 10 eo)) ⟨.normal,Po.var,[],Po.st⟩) Pp=true:=by kernel_rfl
end
end Go.Proofs.YtdmgdlbodeemeaaGreatDoor.Am
