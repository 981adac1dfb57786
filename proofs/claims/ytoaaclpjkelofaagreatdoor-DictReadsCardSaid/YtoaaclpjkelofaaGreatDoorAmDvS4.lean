/- works (layer 25), without fractions: call 4, run by the kernel; conditions: none. -/
import Derived.Test.YtoaaclpjkelofaaGreatDoorAmM12
set_option linter.all false
set_option maxRecDepth 100000
namespace Go.Proofs.YtoaaclpjkelofaaGreatDoor.Am
open Go Go.Proofs
noncomputable section
open Tryz
theorem A2d:Hs ⟨prog,A2n⟩ 100000 A7x=true:=by kernel_rfl
end
end Go.Proofs.YtoaaclpjkelofaaGreatDoor.Am
