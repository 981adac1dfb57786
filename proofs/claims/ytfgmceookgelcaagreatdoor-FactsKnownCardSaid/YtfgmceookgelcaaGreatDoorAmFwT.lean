/- works31, run by the kernel, but for these calls; conditions: none. -/
import Derived.Test.YtfgmceookgelcaaGreatDoorAmM09
import Derived.Test.YtfgmceookgelcaaGreatDoorAmM11
set_option linter.unusedVariables false
set_option maxRecDepth 100000
namespace Go.Proofs.YtfgmceookgelcaaGreatDoor.Am
open Go Go.Proofs
noncomputable section
def Xq:List Row:=[⟨11,[],.bool true⟩]
theorem TF:Ym (.bool true) ((Ct ⟨Tryz.prog,fE⟩ 100000).call 11 [] ⟨0,.leaf⟩)=true:=by kernel_rfl
end
end Go.Proofs.YtfgmceookgelcaaGreatDoor.Am
