/- The closed law of layer 18: part 3, run by the kernel; conditions: none. -/
import Derived.Test.YtniabnfoflogaaaGreatDoorAmKCut
set_option linter.unusedVariables false
namespace Go.Proofs.YtniabnfoflogaaaGreatDoor.Am
open Go Go.Proofs
noncomputable section
theorem JX:CY (G5 Tryz.prog 4 Tryz.f4.ntmps (AH Tryz.prog Tryz.f4) (Fh GA 100000) (Dh 4 (rest 1 (rest 5 CF))) ⟨.normal,kst6.var,[],kst6.st⟩) kst10=true:=by kernel_rfl
end
end Go.Proofs.YtniabnfoflogaaaGreatDoor.Am
