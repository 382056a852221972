/-
  Equality of two nodes, as an operation of the model. No conditions.
-/
import Derived.Test.YtgmhmlhdiklaaaaGreatDoorRows
import Derived.Test.YtgmhmlhdiklaaaaGreatDoorKitC
import Derived.Laws.StructEq
namespace Go.Proofs.YtgmhmlhdiklaaaaGreatDoor
open Go.RowKit
set_option linter.unusedVariables false

def ptEq (a0 a1 b0 b1 : Int) : Bool := decide (a0 = b0 ∧ a1 = b1)
theorem run_eqNode (a0 a1 b0 b1 : Int) (w : World) :
    (binOp .eql 38 (.agg #[.int .i64 a0, .int .i64 a1]) (.agg #[.int .i64 b0, .int .i64 b1])).run Tryz.prog w = .ok (.bool (ptEq a0 a1 b0 b1)) w := by
  have hu := Tryz.underlying38
  by_cases h0 : a0 = b0 <;> by_cases h1 : a1 = b1 <;> simp [binOp, Op.equal, Op.maxDepth, go_sem, ptEq, h0, h1]
  all_goals trace_state

end Go.Proofs.YtgmhmlhdiklaaaaGreatDoor
