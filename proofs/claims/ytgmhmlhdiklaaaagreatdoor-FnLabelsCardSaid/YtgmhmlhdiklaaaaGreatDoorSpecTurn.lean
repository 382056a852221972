/-
  Contract of the reference's turn at a node. No conditions.
-/
import Derived.Test.YtgmhmlhdiklaaaaGreatDoorTurn
namespace Go.Proofs.YtgmhmlhdiklaaaaGreatDoor
open Go.RowKit
set_option linter.unusedVariables false

set_option maxHeartbeats 800000 in
theorem spec_l02Turn (a0 a1 b0 b1 c0 c1 : Int) (ha : nodeB a0 a1 = true) (hb : nodeB b0 b1 = true) (hc : nodeB c0 c1 = true) (w : World) :
    Calls Tryz.prog 77 #[.agg #[.int .i64 a0, .int .i64 a1], .agg #[.int .i64 b0, .int .i64 b1], .agg #[.int .i64 c0, .int .i64 c1]] w fun e w' => e = .returned (.int .i64 (trn a0 a1 b0 b1 c0 c1)) ∧ Ext w w' := by
  obtain ⟨r1, r2, r3, r4, r5⟩ := trn_box ha hb hc
  clear ha hb hc
  go_enter Tryz.func77, Tryz.ntmps77
  go_wp2
  go_ret
  exact ⟨rfl, by repeat (first | exact Ext.refl _ | apply Ext.wgr | apply Ext.drew | apply Ext.drewN | apply Ext.alloc)⟩

end Go.Proofs.YtgmhmlhdiklaaaaGreatDoor
