/-
  The law's copy of a slice of Deposits. No conditions.
-/
import Derived.Test.YthnngekibkcgdaaInts
import Derived.Test.YthnngekibkcgdaaKitE
import Derived.Test.YthnngekibkcgdaaToDeposit
import Derived.Test.YthnngekibkcgdaaPart3
namespace Go.Proofs.Ythnngekibkcgdaa
open Go.RowKit
set_option linter.unusedVariables false

theorem infoDeposit : (Try.prog.info? 31).map (fun i => (i.zero, i.size, i.bytes)) = some (some (Value.agg #[.int .i64 0, .int .i64 0, .int .i64 0]), 3, 24) := by kernel_rfl
theorem madeDeposit (n : Nat) (f : Nat → Nat → Int) : (madeCells (Value.agg #[.int .i64 0, .int .i64 0, .int .i64 0]).cells (n * 3)).toList = (part3 n f 0).map (Value.int .i64) := by
  rw [part3_zero]
  apply List.ext_getElem (by simp [tab, madeCells])
  intro q h1 h2
  have h3 : q % 3 = 0 ∨ q % 3 = 1 ∨ q % 3 = 2 := by omega
  rcases h3 with h | h | h <;> simp [madeCells, tab, Value.cells, h]

end Go.Proofs.Ythnngekibkcgdaa
