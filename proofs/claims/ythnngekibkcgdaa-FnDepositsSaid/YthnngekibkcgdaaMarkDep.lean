/-
  The laws' marks over a row of deposits. No conditions.
-/
import Derived.Test.YthnngekibkcgdaaDepC
namespace Go.Proofs.Ythnngekibkcgdaa
open Go.RowKit
set_option linter.unusedVariables false
end Go.Proofs.Ythnngekibkcgdaa
