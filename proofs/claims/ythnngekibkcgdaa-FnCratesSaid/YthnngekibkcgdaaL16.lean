/-
  Contract of the reference's test for a strictly rising list of places. No conditions.
-/
import Derived.Test.YthnngekibkcgdaaRising
namespace Go.Proofs.Ythnngekibkcgdaa
open Go.RowKit
set_option linter.unusedVariables false
end Go.Proofs.Ythnngekibkcgdaa
