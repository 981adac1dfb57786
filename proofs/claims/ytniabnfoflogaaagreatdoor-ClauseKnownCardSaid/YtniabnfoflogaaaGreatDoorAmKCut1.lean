/- The closed law of layer 18: part 1, run by the kernel; conditions: none. -/
import Derived.Test.YtniabnfoflogaaaGreatDoorAmKCut
set_option linter.unusedVariables false
namespace Go.Proofs.YtniabnfoflogaaaGreatDoor.Am
open Go Go.Proofs
noncomputable section
theorem JV:CY (G5 Tryz.prog 4 Tryz.f4.ntmps (AH Tryz.prog Tryz.f4) (Fh GA 100000) (Dh 5 CF) ⟨.normal,(LT (AH Tryz.prog Tryz.f4).length).var,[],(LT (AH Tryz.prog Tryz.f4).length).st⟩) kst5=true:=by kernel_rfl
end
end Go.Proofs.YtniabnfoflogaaaGreatDoor.Am
