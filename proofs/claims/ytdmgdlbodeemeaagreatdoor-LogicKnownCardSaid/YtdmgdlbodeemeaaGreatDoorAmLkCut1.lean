/- The closed law of layer 15: part 1, run by the kernel; conditions: none. -/
import Derived.Test.YtdmgdlbodeemeaaGreatDoorAmLkCut
set_option linter.unusedVariables false
namespace Go.Proofs.YtdmgdlbodeemeaaGreatDoor.Am
open Go Go.Proofs
noncomputable section
theorem fC:Hc (P6 Tryz.prog 4 Tryz.f4.ntmps (AT Tryz.prog Tryz.f4) (Ck R7 100000) (Jt 10 eo) ⟨.normal,(cO (AT Tryz.prog Tryz.f4).length).var,[],(cO (AT Tryz.prog Tryz.f4).length).st⟩) Po=true:=by kernel_rfl
end
end Go.Proofs.YtdmgdlbodeemeaaGreatDoor.Am
