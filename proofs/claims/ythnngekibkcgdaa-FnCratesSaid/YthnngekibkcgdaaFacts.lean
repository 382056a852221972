/-
  Closed facts on the translated program that every row of this seat wants. No conditions.
-/
import Derived.Test.YthnngekibkcgdaaRows
import Derived.Test.YthnngekibkcgdaaKitB
namespace Go.Proofs.Ythnngekibkcgdaa
open Go.RowKit
set_option linter.unusedVariables false

set_option maxRecDepth 100000
theorem fMayEnter : Try.checked.prog.mayEnter = true := by kernel_rfl
theorem fLifted0 : (Rows.fnDepositsRow.lifted == Try.checked.prog.liftsFinal) = true := by kernel_rfl
theorem fLifted (c : OpenClaim) (h : c.lifted = Rows.fnDepositsRow.lifted) : (c.lifted == Try.checked.prog.liftsFinal) = true := by rw [h]; exact fLifted0
theorem fMake0 : (Try.checked.prog.make == some Rows.fnDepositsRow.make) = true := by kernel_rfl
theorem fMake (c : OpenClaim) (h : c.make = Rows.fnDepositsRow.make) : (Try.checked.prog.make == some c.make) = true := by rw [h]; exact fMake0
theorem fLaid : laidOutB Try.checked.prog = true := by kernel_rfl

end Go.Proofs.Ythnngekibkcgdaa
