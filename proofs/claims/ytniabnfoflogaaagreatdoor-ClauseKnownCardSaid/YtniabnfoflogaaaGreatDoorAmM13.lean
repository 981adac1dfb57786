/- The closed law of layer 18, in the model; conditions: none. -/
import Derived.Test.YtniabnfoflogaaaGreatDoorAmM06
import Derived.Test.YtniabnfoflogaaaGreatDoorAmKCut1
import Derived.Test.YtniabnfoflogaaaGreatDoorAmKCut2
import Derived.Test.YtniabnfoflogaaaGreatDoorAmKCut3
import Derived.Test.YtniabnfoflogaaaGreatDoorAmKCut4
import Derived.Test.YtniabnfoflogaaaGreatDoorAmKCut5
set_option linter.unusedVariables false
namespace Go.Proofs.YtniabnfoflogaaaGreatDoor.Am
open Go Go.Proofs
noncomputable section
theorem known18_true{W:World}:Calls Tryz.prog 4 #[] W fun e W'=>e=.returned (.bool true)∧Fx W W':=by
 have hc:B4 Tryz.prog (Fh GA 100000):=(L6 I9 (FT Hc) rfl KQ 100000).code
 refine callsIn_wide.1 (J7 Tryz.func4 (c:=CF) (by kernel_rfl) (by kernel_rfl) fun a h0=>?_)
 refine Df hc Tryz.func4 JV h0 fun a w1 h1=>?_
 refine Df hc Tryz.func4 JW h1 fun a w2 h2=>?_
 refine Df hc Tryz.func4 JX h2 fun a w3 h3=>?_
 refine Df hc Tryz.func4 JY h3 fun a w4 h4=>?_
 exact J8 hc Tryz.func4 (by kernel_rfl) JZ h4
end
end Go.Proofs.YtniabnfoflogaaaGreatDoor.Am
