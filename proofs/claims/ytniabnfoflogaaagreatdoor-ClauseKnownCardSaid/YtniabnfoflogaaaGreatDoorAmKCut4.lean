/- The closed law of layer 18: part 4, run by the kernel; conditions: none. -/
import Derived.Test.YtniabnfoflogaaaGreatDoorAmKCut
set_option linter.unusedVariables false
namespace Go.Proofs.YtniabnfoflogaaaGreatDoor.Am
open Go Go.Proofs
noncomputable section
theorem JY:CY (G5 Tryz.prog 4 Tryz.f4.ntmps (AH Tryz.prog Tryz.f4) (Fh GA 100000) (Dh 1 (rest 4 (rest 1 (rest 5 CF)))) ⟨.normal,kst10.var,[],kst10.st⟩) kst11=true:=by kernel_rfl
end
end Go.Proofs.YtniabnfoflogaaaGreatDoor.Am
