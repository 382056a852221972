/-
  The law's copy of a crate, its size, and the test for equality of two crates. No conditions.
-/
import Derived.Test.YthnngekibkcgdaaInts
import Derived.Deep.RegionHeld3
namespace Go.Proofs.Ythnngekibkcgdaa
open Go.RowKit
set_option linter.unusedVariables false

theorem ret_k {k : IntKind} {a b : Int} (h : a = b) : Ending.returned (.int k a) = .returned (.int k b) := by rw [h]
/-- A crate has been made: a row of the call's own for its panes. -/
def PostC (w : World) (E : TypeId) (n : Nat) (zs : List Int) (l : Int) (e : Ending) (w' : World) : Prop :=
  ∃ A c, e = .returned (.agg #[.slice A n c, .int .i64 l]) ∧ n ≤ c ∧ c ≤ 9223372036854775807 ∧ Mine w.heap.size w' E (.slice A n c) n zs ∧ Ext w w'
end Go.Proofs.Ythnngekibkcgdaa
