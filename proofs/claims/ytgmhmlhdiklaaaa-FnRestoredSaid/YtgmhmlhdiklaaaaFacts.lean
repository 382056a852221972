/-
  Closed facts on the translated program that every row of this seat wants. No conditions.
-/
import Derived.Test.YtgmhmlhdiklaaaaRows
import Derived.Test.YtgmhmlhdiklaaaaKitB
namespace Go.Proofs.Ytgmhmlhdiklaaaa
open Go.RowKit
set_option linter.unusedVariables false

set_option maxRecDepth 100000
theorem fMayEnter : Try.checked.prog.mayEnter = true := by kernel_rfl
theorem fLifted0 : (Rows.fnRestoredRow.lifted == Try.checked.prog.liftsFinal) = true := by kernel_rfl
theorem fLifted (c : OpenClaim) (h : c.lifted = Rows.fnRestoredRow.lifted) : (c.lifted == Try.checked.prog.liftsFinal) = true := by rw [h]; exact fLifted0
theorem fMake0 : (Try.checked.prog.make == some Rows.fnRestoredRow.make) = true := by kernel_rfl
theorem fMake (c : OpenClaim) (h : c.make = Rows.fnRestoredRow.make) : (Try.checked.prog.make == some c.make) = true := by rw [h]; exact fMake0
theorem fLaid : laidOutB Try.checked.prog = true := by kernel_rfl

end Go.Proofs.Ytgmhmlhdiklaaaa
