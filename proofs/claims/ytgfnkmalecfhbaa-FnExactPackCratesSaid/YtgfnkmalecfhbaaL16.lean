/-
  Contract of the reference's test for a strictly rising list of places. No conditions.
-/
import Derived.Test.YtgfnkmalecfhbaaRising
namespace Go.Proofs.Ytgfnkmalecfhbaa
open Go.RowKit
set_option linter.unusedVariables false

set_option maxHeartbeats 4000000 in
theorem spec_l16List (N : Int) (A : Option Addr) (n c : Nat) (f : Nat → Nat → Int) (hN : 0 ≤ N ∧ N ≤ 1048576) (hn : n ≤ 9223372036854775807) (w : World) (hr : Recs w 1 A n f) :
    Calls Try.prog 65 #[.int .i64 N, .slice A n c] w fun e w' => e = .returned (.bool (risB n f 0 (N - 1))) ∧ Ext w w' := by
  go_enter Try.func65, Try.ntmps65
  go_wp2

  go_loopw [5] (fun i wr => ∃ j : Nat, j ≤ n ∧ i = .int .i64 j ∧ Ext w wr ∧ ∀ q, q < j → risAt f 0 (N - 1) q = true) (fun i _ => n - (intOf i).toNat)
  case atStart => exact ⟨0, Nat.zero_le _, rfl, Ext.refl w, fun q hq => absurd hq (by omega)⟩
  case round =>
    obtain ⟨j, hj, rfl, ⟨gx, rfl⟩, hall⟩ := hrel
    have HALL := Lib.hid hall
    clear hall
    by_cases hlt : j < n
    · obtain ⟨b, o, rfl, hb, hc⟩ := hr.at1 hlt
      cases hin : inB (f j 0) 0 (N - 1)
      · by_cases h0 : j ≤ 0
        · have hz : decide (0 < j) = false := by simpa using h0
          go_wp2
          (first | refine wp_region_gr2 (by kernel_rfl) (by kernel_rfl) ?_ | refine wp_region_gr (by kernel_rfl) (by kernel_rfl) ?_)
          repeat (go_big_quiet_step ((go_at_call 53; exact gr_of (l01In_any _ _ _ _))))
          refine wpQuiet_nil ?_
          intro _ hw'
          obtain ⟨gq, hw''⟩ := hw'
          subst hw''
          go_wp2
          go_ret
          exact ⟨(show Ending.returned (Value.bool false) = _ from by unfold risB; rw [allB_no hlt (risAt_out hin)]), Ext.gr w _⟩
        · have hz : decide (0 < j) = true := by simp; omega
          go_wp2
          (first | refine wp_region_gr2 (by kernel_rfl) (by kernel_rfl) ?_ | refine wp_region_gr (by kernel_rfl) (by kernel_rfl) ?_)
          repeat (go_big_quiet_step ((go_at_call 53; exact gr_of (l01In_any _ _ _ _))))
          refine wpQuiet_nil ?_
          intro _ hw'
          obtain ⟨gq, hw''⟩ := hw'
          subst hw''
          go_wp2
          go_ret
          exact ⟨(show Ending.returned (Value.bool false) = _ from by unfold risB; rw [allB_no hlt (risAt_out hin)]), Ext.gr w _⟩
      · by_cases h0 : j ≤ 0
        · have hz : decide (0 < j) = false := by simpa using h0
          go_wp2
          (first | refine wp_region_gr2 (by kernel_rfl) (by kernel_rfl) ?_ | refine wp_region_gr (by kernel_rfl) (by kernel_rfl) ?_)
          repeat (go_big_quiet_step ((go_at_call 53; exact gr_of (l01In_any _ _ _ _))))
          refine wpQuiet_nil ?_
          intro _ hw'
          obtain ⟨gq, hw''⟩ := hw'
          subst hw''
          go_wp2
          go_roundw
          case rel =>
            refine ⟨j + 1, by omega, by go_num, Ext.gr w _, fun q hq => ?_⟩
            obtain rfl : j = 0 := by omega
            obtain rfl : q = 0 := by omega
            exact risAt_zero hin
          case measure => simp [intOf]; omega
        · have hz : decide (0 < j) = true := by simp; omega
          have hc1 := hr.cell1 (k := j - 1) (by omega)
          by_cases hd : f (j - 1) 0 < f j 0
          · go_wp2
            (first | refine wp_region_gr2 (by kernel_rfl) (by kernel_rfl) ?_ | refine wp_region_gr (by kernel_rfl) (by kernel_rfl) ?_)
            repeat (go_big_quiet_step ((go_at_call 53; exact gr_of (l01In_any _ _ _ _))))
            refine wpQuiet_nil ?_
            intro _ hw'
            obtain ⟨gq, hw''⟩ := hw'
            subst hw''
            go_wp2
            go_roundw
            case rel =>
              refine ⟨j + 1, by omega, by go_num, Ext.gr w _, fun q hq => ?_⟩
              by_cases e : q = j
              · subst e; exact risAt_yes hin hd
              · exact HALL.out q (by omega)
            case measure => simp [intOf]; omega
          · go_wp2
            (first | refine wp_region_gr2 (by kernel_rfl) (by kernel_rfl) ?_ | refine wp_region_gr (by kernel_rfl) (by kernel_rfl) ?_)
            repeat (go_big_quiet_step ((go_at_call 53; exact gr_of (l01In_any _ _ _ _))))
            refine wpQuiet_nil ?_
            intro _ hw'
            obtain ⟨gq, hw''⟩ := hw'
            subst hw''
            go_wp2
            go_ret
            exact ⟨(show Ending.returned (Value.bool false) = _ from by unfold risB; rw [allB_no hlt (risAt_no (by omega) (by omega))]), Ext.gr w _⟩
    · obtain rfl : j = n := by omega

      go_wp2
      go_ret
      exact ⟨(show Ending.returned (Value.bool true) = _ from by unfold risB; rw [allB_yes HALL.out]), Ext.gr w _⟩

end Go.Proofs.Ytgfnkmalecfhbaa
