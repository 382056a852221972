/-
  A strictly rising list in a range. No conditions.
-/
import Derived.Test.YtgmhmlhdiklaaaaWithin
import Derived.Test.YtgmhmlhdiklaaaaInts
namespace Go.Proofs.Ytgmhmlhdiklaaaa
open Go.RowKit
set_option linter.unusedVariables false

/-- Place j of a strictly rising list in a range. -/
def risAt (f : Nat → Nat → Int) (lo hi : Int) (j : Nat) : Bool := inB (f j 0) lo hi && (decide (j = 0) || decide (f (j - 1) 0 < f j 0))
theorem risAt_out {f : Nat → Nat → Int} {lo hi : Int} {j : Nat} (h : inB (f j 0) lo hi = false) : risAt f lo hi j = false := by simp [risAt, h]
theorem risAt_zero {f : Nat → Nat → Int} {lo hi : Int} (h : inB (f 0 0) lo hi = true) : risAt f lo hi 0 = true := by simp [risAt, h]
theorem risAt_yes {f : Nat → Nat → Int} {lo hi : Int} {j : Nat} (h : inB (f j 0) lo hi = true) (h2 : f (j - 1) 0 < f j 0) : risAt f lo hi j = true := by simp [risAt, h, h2]
theorem risAt_no {f : Nat → Nat → Int} {lo hi : Int} {j : Nat} (h0 : j ≠ 0) (h2 : ¬ f (j - 1) 0 < f j 0) : risAt f lo hi j = false := by simp [risAt, h0]; omega
def risB (n : Nat) (f : Nat → Nat → Int) (lo hi : Int) : Bool := allB n (risAt f lo hi)

set_option maxHeartbeats 2000000 in
theorem impl_rising (A : Option Addr) (n c : Nat) (f : Nat → Nat → Int) (lo hi : Int) (hn : n ≤ 9223372036854775807) (w : World) (hr : Recs w 1 A n f) :
    Calls Try.prog 52 #[.slice A n c, .int .i64 lo, .int .i64 hi] w fun e w' => e = .returned (.bool (risB n f lo hi)) ∧ Ext w w' := by
  go_enter Try.func52, Try.ntmps52
  go_wp2

  go_loopw [11] (fun i wr => ∃ j : Nat, j ≤ n ∧ i = .int .i64 j ∧ Ext w wr ∧ ∀ q, q < j → risAt f lo hi q = true) (fun i _ => n - (intOf i).toNat)
  case atStart => exact ⟨0, Nat.zero_le _, rfl, Ext.refl w, fun q hq => absurd hq (by omega)⟩
  case round =>
    obtain ⟨j, hj, rfl, ⟨gx, rfl⟩, hall⟩ := hrel
    have HALL := Lib.hid hall
    clear hall
    by_cases hlt : j < n
    · obtain ⟨b, o, rfl, hb, hc⟩ := hr.at1 hlt
      cases hin : inB (f j 0) lo hi
      · by_cases h0 : j ≤ 0
        · have hz : decide (0 < j) = false := by simpa using h0
          go_wp2_with (go_at_call 50; refine (within_any _ _ _ _).mono ?_; rintro e w' ⟨rfl, g, rfl⟩)
          go_ret
          exact ⟨(show Ending.returned (Value.bool false) = _ from by unfold risB; rw [allB_no hlt (risAt_out hin)]), Ext.gr w _⟩
        · have hz : decide (0 < j) = true := by simp; omega
          go_wp2_with (go_at_call 50; refine (within_any _ _ _ _).mono ?_; rintro e w' ⟨rfl, g, rfl⟩)
          go_ret
          exact ⟨(show Ending.returned (Value.bool false) = _ from by unfold risB; rw [allB_no hlt (risAt_out hin)]), Ext.gr w _⟩
      · by_cases h0 : j ≤ 0
        · have hz : decide (0 < j) = false := by simpa using h0
          go_wp2_with (go_at_call 50; refine (within_any _ _ _ _).mono ?_; rintro e w' ⟨rfl, g, rfl⟩)
          go_roundw
          case rel =>
            refine ⟨j + 1, by omega, by go_num, Ext.gr w _, fun q hq => ?_⟩
            obtain rfl : j = 0 := by omega
            obtain rfl : q = 0 := by omega
            exact risAt_zero hin
          case measure => simp [intOf]; omega
        · have hz : decide (0 < j) = true := by simp; omega
          have hc1 := hr.cell1 (k := j - 1) (by omega)
          by_cases hd : f (j - 1) 0 < f j 0
          · go_wp2_with (go_at_call 50; refine (within_any _ _ _ _).mono ?_; rintro e w' ⟨rfl, g, rfl⟩)
            go_roundw
            case rel =>
              refine ⟨j + 1, by omega, by go_num, Ext.gr w _, fun q hq => ?_⟩
              by_cases e : q = j
              · subst e; exact risAt_yes hin hd
              · exact HALL.out q (by omega)
            case measure => simp [intOf]; omega
          · go_wp2_with (go_at_call 50; refine (within_any _ _ _ _).mono ?_; rintro e w' ⟨rfl, g, rfl⟩)
            go_ret
            exact ⟨(show Ending.returned (Value.bool false) = _ from by unfold risB; rw [allB_no hlt (risAt_no (by omega) (by omega))]), Ext.gr w _⟩
    · obtain rfl : j = n := by omega

      go_wp2
      go_ret
      exact ⟨(show Ending.returned (Value.bool true) = _ from by unfold risB; rw [allB_yes HALL.out]), Ext.gr w _⟩

end Go.Proofs.Ytgmhmlhdiklaaaa
