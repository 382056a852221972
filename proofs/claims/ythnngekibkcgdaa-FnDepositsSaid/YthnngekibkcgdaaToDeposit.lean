/-
  The law's copy of a Deposit. It returns the same numbers, and at most makes new memory. No conditions.
-/
import Derived.Test.YthnngekibkcgdaaKitA
import Derived.Test.YthnngekibkcgdaaRows
namespace Go.Proofs.Ythnngekibkcgdaa
open Go.RowKit
set_option linter.unusedVariables false
end Go.Proofs.Ythnngekibkcgdaa
