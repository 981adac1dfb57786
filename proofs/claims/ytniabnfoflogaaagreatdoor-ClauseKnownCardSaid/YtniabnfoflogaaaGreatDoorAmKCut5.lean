/- The closed law of layer 18: part 5, run by the kernel; conditions: none. -/
import Derived.Test.YtniabnfoflogaaaGreatDoorAmKCut
set_option linter.unusedVariables false
namespace Go.Proofs.YtniabnfoflogaaaGreatDoor.Am
open Go Go.Proofs
noncomputable section
theorem JZ:E8 Tryz.prog [(.var 0,none)] ((Fh GA 100000).code none (AJ Tryz.prog 4 Tryz.f4.ntmps (AH Tryz.prog Tryz.f4) (rest 1 (rest 4 (rest 1 (rest 5 CF))))) kst11.var [] kst11.st)=true:=by kernel_rfl
end
end Go.Proofs.YtniabnfoflogaaaGreatDoor.Am
