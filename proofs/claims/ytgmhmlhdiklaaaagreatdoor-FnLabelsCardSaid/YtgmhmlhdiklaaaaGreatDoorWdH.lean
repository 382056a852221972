/-
  A window drawn out of a code. No conditions.
-/
import Derived.Deep.DeepCutAuto
import Derived.Deep.CutRange
import Derived.Deep.DrawnRows
import Derived.RowKit3
import Derived.Laws.OwnMore
import Derived.Laws.Closers25b
import Derived.Maps.AppendAt
import Derived.Laws.AppendOwnNone
import Derived.Deep.RegionLaw
import Derived.Deep.RegionHeld3
import Derived.Test.YtgmhmlhdiklaaaaGreatDoorWdG
namespace Go.Proofs.YtgmhmlhdiklaaaaGreatDoor
open Go.RowKit
set_option linter.unusedVariables false
set_option linter.unusedSimpArgs false

/-- A call hands back a valid window of its own. -/
def PostVw (w : World) (e : Ending) (w' : World) : Prop :=
  ∃ A n c zs B m d ys, e = .returned (.agg #[.slice A n c, .slice B m d]) ∧ OwnWn w.heap.size w' A n c zs B m d ys ∧ winB n (FW zs) m (FW ys) = true ∧ Ext w w'

attribute [local go_sem ↓] Go.wp_at_zero Go.wp_at_succ
attribute [local go_sem, local simp] Go.World.cell?_alloc_some Go.World.frozen?_alloc_past
end Go.Proofs.YtgmhmlhdiklaaaaGreatDoor
