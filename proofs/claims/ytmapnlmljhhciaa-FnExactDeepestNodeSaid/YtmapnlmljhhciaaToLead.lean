/-
  The law's copy of a Lead. It returns the same numbers, and at most makes new memory. No conditions.
-/
import Derived.Test.YtmapnlmljhhciaaKitA
import Derived.Test.YtmapnlmljhhciaaRows
namespace Go.Proofs.Ytmapnlmljhhciaa
open Go.RowKit
set_option linter.unusedVariables false

set_option maxHeartbeats 1000000 in
theorem toLead_any (x y : Int) (w : World) :
    Calls Try.prog 57 #[.agg #[.int .i64 x, .int .i64 y]] w fun e w' => e = .returned (.agg #[.int .i64 x, .int .i64 y]) ∧ Ext w w' := by
  go_enter Try.func57, Try.ntmps57
  go_wp2
  refine bodyPost_ret (v := .agg #[.int .i64 x, .int .i64 y]) (by simp [results, Try.results57, go_sem]) rfl ⟨rfl, ?_⟩
  repeat (first | exact Ext.refl _ | apply Ext.wgr | apply Ext.drew | apply Ext.drewN | apply Ext.alloc)

end Go.Proofs.Ytmapnlmljhhciaa
