/- The closed law of layer 15, in the model; conditions: none. -/
import Derived.Test.YtdmgdlbodeemeaaGreatDoorAmM11
import Derived.Test.YtdmgdlbodeemeaaGreatDoorAmLkCut1
import Derived.Test.YtdmgdlbodeemeaaGreatDoorAmLkCut2
import Derived.Test.YtdmgdlbodeemeaaGreatDoorAmLkCut3
set_option linter.unusedVariables false
namespace Go.Proofs.YtdmgdlbodeemeaaGreatDoor.Am
open Go Go.Proofs
noncomputable section
theorem lk_true{W:World}:Calls Tryz.prog 4 #[] W fun e W'=>e=.returned (.bool true)∧Kp W W':=by
 have hc:EM Tryz.prog (Ck R7 100000):=(ep JD (FI HU) rfl X2 100000).code
 refine callsIn_wide.1 (XD Tryz.func4 (c:=eo) (by kernel_rfl) (by kernel_rfl) fun a h0=>?_)
 refine Na hc Tryz.func4 fC h0 fun a w1 h1=>?_
 refine Na hc Tryz.func4 fD h1 fun a w2 h2=>?_
 exact XE hc Tryz.func4 (by kernel_rfl) fE h2
end
end Go.Proofs.YtdmgdlbodeemeaaGreatDoor.Am
