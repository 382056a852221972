/-
  Contract of the program's test on several nodes. No conditions.
-/
import Derived.Test.YtgmhmlhdiklaaaaGreatDoorNodeSun
import Derived.Test.YtgmhmlhdiklaaaaGreatDoorKitC
namespace Go.Proofs.YtgmhmlhdiklaaaaGreatDoor
open Go.RowKit
set_option linter.unusedVariables false

def nodesB (n : Nat) (f : Nat → Nat → Int) : Bool := allB n fun j => nodeB (f j 0) (f j 1)
set_option maxHeartbeats 2000000 in
theorem impl_nodesOk (A : Option Addr) (n c : Nat) (f : Nat → Nat → Int) (hn : n ≤ 9223372036854775807) (w : World) (hr : Recs w 2 A n f) :
    Calls Tryz.prog 53 #[.slice A n c] w fun e w' => e = .returned (.bool (nodesB n f)) ∧ Ext w w' := by
  go_enter Tryz.func53, Tryz.ntmps53
  go_wp2
  go_loopw [4, 7] (fun _ i wr => ∃ j : Nat, j ≤ n ∧ i = .int .i64 j ∧ Ext w wr ∧ ∀ q, q < j → nodeB (f q 0) (f q 1) = true) (fun _ i _ => n - (intOf i).toNat)
  case atStart => exact ⟨0, Nat.zero_le _, rfl, Ext.refl w, fun q hq => absurd hq (by omega)⟩
  case round =>
    obtain ⟨j, hj, rfl, ⟨gx, rfl⟩, hall⟩ := hrel
    have HALL := Lib.hid hall
    clear hall
    by_cases hlt : j < n
    · obtain ⟨b, o, rfl, hb, h0, h1⟩ := hr.at2 hlt
      cases hin : nodeB (f j 0) (f j 1)
      · go_wp2_with (go_at_call 69; refine (impl_NodeOk _ _ _).mono ?_; rintro e w' ⟨rfl, g, rfl⟩)
        go_ret
        exact ⟨(show Ending.returned (Value.bool false) = _ from by unfold nodesB; rw [allB_no hlt hin]), by repeat (first | exact Ext.refl _ | exact Ext.gr _ _ | apply Ext.wgr | apply Ext.drew | apply Ext.drewN | apply Ext.alloc)⟩
      · go_wp2_with (go_at_call 69; refine (impl_NodeOk _ _ _).mono ?_; rintro e w' ⟨rfl, g, rfl⟩)
        go_roundw
        case rel =>
          refine ⟨j + 1, by omega, by go_num, by repeat (first | exact Ext.refl _ | exact Ext.gr _ _ | apply Ext.wgr | apply Ext.drew | apply Ext.drewN | apply Ext.alloc), fun q hq => ?_⟩
          by_cases e : q = j
          · subst e; exact hin
          · exact HALL.out q (by omega)
        case measure => simp [intOf]; omega
    · obtain rfl : j = n := by omega
      go_wp2
      go_ret
      exact ⟨(show Ending.returned (Value.bool true) = _ from by unfold nodesB; rw [allB_yes HALL.out]), Ext.gr w _⟩

end Go.Proofs.YtgmhmlhdiklaaaaGreatDoor
