/-
  Contracts of the library's search for a node in a list. No conditions.
-/
import Derived.Test.YtgmhmlhdiklaaaaGreatDoorFdx
import Derived.Test.YtgmhmlhdiklaaaaGreatDoorPtEq
namespace Go.Proofs.YtgmhmlhdiklaaaaGreatDoor
open Go.RowKit
set_option linter.unusedVariables false

set_option maxRecDepth 100000 in
set_option maxHeartbeats 1000000 in
theorem indexNode_any (A : Option Addr) (n c : Nat) (P : Nat → Nat → Int) (x y : Int) (hn : n ≤ 9223372036854775807) (w : World) (hr : Recs w 2 A n P) :
    Calls Tryz.prog 70 #[.slice A n c, .agg #[.int .i64 x, .int .i64 y]] w fun e w' => e = .returned (.int .i64 (fdx (fun i => ptEq x y (P i 0) (P i 1)) n)) ∧ Ext w w' := by
  have hE := run_eqNode
  go_enter Tryz.func70, Tryz.ntmps70
  go_wp2
  go_loopw [5, 8] (fun _ i wr => ∃ j : Nat, j ≤ n ∧ i = .int .i64 j ∧ Ext (w.alloc (.cells #[.int .i64 x, .int .i64 y] 38)) wr ∧ ∀ q, q < j → ptEq x y (P q 0) (P q 1) = false) (fun _ i _ => n - (intOf i).toNat)
  case atStart => exact ⟨0, Nat.zero_le _, rfl, Ext.refl _, fun q hq => absurd hq (by omega)⟩
  case round =>
    obtain ⟨j, hj, rfl, ⟨gx, rfl⟩, hall⟩ := hrel
    have HALL := Lib.hid hall
    clear hall
    by_cases hlt : j < n
    · obtain ⟨b2, o, rfl, hb, h0, h1⟩ := hr.at2 hlt
      have h0' := ((Ext.refl w).alloc (.cells #[.int .i64 x, .int .i64 y] 38)).cell h0
      have h1' := ((Ext.refl w).alloc (.cells #[.int .i64 x, .int .i64 y] 38)).cell h1
      cases hin : ptEq x y (P j 0) (P j 1)
      · go_wp2
        first | refine wp_region_gr2 (by kernel_rfl) (by kernel_rfl) ?_ | refine wp_region_gr (by kernel_rfl) (by kernel_rfl) ?_
        repeat (go_big_quiet_step (fail))
        refine wpQuiet_nil ?_
        intro _ hw'
        obtain ⟨gq, hw''⟩ := hw'
        subst hw''
        go_wp2
        go_roundw
        case rel =>
          refine ⟨j + 1, by omega, by go_num, by repeat (first | exact Ext.refl _ | exact Ext.gr _ _ | apply Ext.wgr | apply Ext.drew | apply Ext.drewN | apply Ext.alloc), fun q hq => ?_⟩
          by_cases e : q = j
          · subst e; exact hin
          · exact HALL.out q (by omega)
        case measure => simp [intOf]; omega
      · go_wp2
        first | refine wp_region_gr2 (by kernel_rfl) (by kernel_rfl) ?_ | refine wp_region_gr (by kernel_rfl) (by kernel_rfl) ?_
        repeat (go_big_quiet_step (fail))
        refine wpQuiet_nil ?_
        intro _ hw'
        obtain ⟨gq, hw''⟩ := hw'
        subst hw''
        go_wp2
        go_ret
        exact ⟨congrArg (fun z => Ending.returned (.int .i64 z)) (fdx_at hlt hin HALL.out).symm, by repeat (first | exact Ext.refl _ | exact Ext.gr _ _ | apply Ext.wgr | apply Ext.drew | apply Ext.drewN | apply Ext.alloc)⟩
    · obtain rfl : j = n := by omega
      go_wp2
      go_ret
      exact ⟨congrArg (fun z => Ending.returned (.int .i64 z)) (fdx_none HALL.out).symm, by repeat (first | exact Ext.refl _ | exact Ext.gr _ _ | apply Ext.wgr | apply Ext.drew | apply Ext.drewN | apply Ext.alloc)⟩
set_option maxHeartbeats 1000000 in
theorem containsNode_any (A : Option Addr) (n c : Nat) (P : Nat → Nat → Int) (x y : Int) (hn : n ≤ 9223372036854775807) (w : World) (hr : Recs w 2 A n P) :
    Calls Tryz.prog 54 #[.slice A n c, .agg #[.int .i64 x, .int .i64 y]] w fun e w' => e = .returned (.bool (decide (0 ≤ fdx (fun i => ptEq x y (P i 0) (P i 1)) n))) ∧ Ext w w' := by
  have HC := Lib.hid (fun W (X : Ext w W) => indexNode_any A n c P x y hn W (hr.ext X))
  generalize fdx (fun i => ptEq x y (P i 0) (P i 1)) n = z at HC ⊢
  go_enter Tryz.func54, Tryz.ntmps54
  go_wp2_with fail
  refine (HC.out _ ((Ext.refl _).alloc _)).mono ?_
  rintro e w2 ⟨rfl, x2⟩
  go_wp2_with fail
  go_ret
  exact ⟨by simp, ((Ext.refl w).alloc _).trans x2⟩
theorem fdx_dec {g : Nat → Bool} {n : Nat} : decide (0 ≤ fdx g n) = !allB n (fun i => !g i) := by
  rcases fdx_cases g n with ⟨h, e⟩ | ⟨j, hj, h, _, e⟩
  · rw [e, allB_yes (fun i hi => by rw [h i hi]; rfl)]; rfl
  · rw [e, allB_no hj (by rw [h]; rfl)]; simp

end Go.Proofs.YtgmhmlhdiklaaaaGreatDoor
