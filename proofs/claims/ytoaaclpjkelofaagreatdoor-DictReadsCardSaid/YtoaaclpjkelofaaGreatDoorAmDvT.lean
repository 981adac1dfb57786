/- works (layer 25), without fractions, run by the kernel, but for these calls; conditions: none. -/
import Derived.Test.YtoaaclpjkelofaaGreatDoorAmM12
import Derived.Test.YtoaaclpjkelofaaGreatDoorAmM23
set_option linter.all false
set_option maxRecDepth 100000
namespace Go.Proofs.YtoaaclpjkelofaaGreatDoor.Am
open Go Go.Proofs
noncomputable section
open Tryz
def mq:List Row:=[⟨5,[],.bool true⟩]
theorem fG:YA (.bool true) ((FI ⟨prog,zx⟩ 100000).call 5 [] ⟨0,.leaf⟩)=true:=by kernel_rfl
end
end Go.Proofs.YtoaaclpjkelofaaGreatDoor.Am
