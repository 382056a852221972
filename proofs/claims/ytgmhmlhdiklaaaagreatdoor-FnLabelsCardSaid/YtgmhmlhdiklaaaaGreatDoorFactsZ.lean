/-
  Closed facts on the translated program that every row of this seat wants. No conditions.
-/
import Derived.Test.YtgmhmlhdiklaaaaGreatDoorRows
import Derived.Test.YtgmhmlhdiklaaaaGreatDoorKitB
namespace Go.Proofs.YtgmhmlhdiklaaaaGreatDoor
open Go.RowKit
set_option linter.unusedVariables false

set_option maxRecDepth 100000
theorem fMayEnter : Tryz.checked.prog.mayEnter = true := by kernel_rfl
theorem fLifted0 : (Rows.fnLabelsRow.lifted == Tryz.checked.prog.liftsFinal) = true := by kernel_rfl
theorem fLifted (c : OpenClaim) (h : c.lifted = Rows.fnLabelsRow.lifted) : (c.lifted == Tryz.checked.prog.liftsFinal) = true := by rw [h]; exact fLifted0
theorem fMake0 : (Tryz.checked.prog.make == some Rows.fnLabelsRow.make) = true := by kernel_rfl
theorem fMake (c : OpenClaim) (h : c.make = Rows.fnLabelsRow.make) : (Tryz.checked.prog.make == some c.make) = true := by rw [h]; exact fMake0
theorem fLaid : laidOutB Tryz.checked.prog = true := by kernel_rfl

end Go.Proofs.YtgmhmlhdiklaaaaGreatDoor
